/- Parts of the proof, one after the other: WeBe WeBv We18 We18E We18Q. -/
import Derived.Test.YtgbnkmhabhgigaaM17
import Derived.Test.YtgbnkmhabhgigaaM20
/- Chapter 08: the best weights, in plain words. -/
namespace Go.SX.We

theorem bm_iff {w : List Int} (h0 : ∀ v ∈ w, 0 ≤ v) : distF w = bmOk w := by
  have key : ∀ w : List Int, (∀ v ∈ w, 0 ≤ v) → (ss w).Nodup → bmOk w = true := by
    intro w
    induction w with
    | nil => intro _ _; rfl
    | cons v r ih =>
      intro h0 hn
      rw [ss, List.nodup_append] at hn
      have hv := h0 v (by simp)
      have hr := ih (fun u hu => h0 u (List.mem_cons_of_mem _ hu)) hn.1
      obtain ⟨i1, i2, _⟩ := bm_mem r hr
      simp only [bmOk, Bool.and_eq_true, decide_eq_true_eq]
      refine ⟨⟨hv, hr⟩, ?_⟩
      apply Nat.eq_of_testBit_eq
      intro j
      rw [Nat.testBit_and, Nat.zero_testBit, Nat.testBit_shiftLeft]
      cases h1 : (bm r).testBit j with
      | false => rfl
      | true =>
        cases h2 : decide (j ≥ v.toNat) with
        | false => rfl
        | true =>
          cases h3 : (bm r).testBit (j - v.toNat) with
          | false => rfl
          | true =>
            have a1 := (i2 _).1 h1
            have a2 := (i2 _).1 h3
            have hj : v.toNat ≤ j := of_decide_eq_true h2
            exact absurd (by omega : (j : Int) = ((j - v.toNat : Nat) : Int) + v) (hn.2.2 _ a1 _ (List.mem_map.2 ⟨_, a2, rfl⟩))
  cases hb : bmOk w with
  | true => exact dist_bm hb
  | false =>
    cases hd : distF w with
    | false => rfl
    | true =>
      rw [key w h0 ((dist_ss w).1 hd)] at hb
      cases hb

/-! ### The program -/
def outB (most : Int) (l : List Int) : List Int := l.map (· + 1) ++ [most]
def goodB (n most : Int) (s : List Int × Int) : Bool := decide (((outB most s.1).length : Int) = n) && distF (outB most s.1)
def goodM (n most : Int) (s : List Int × Int) : Bool := decide (((outB most s.1).length : Int) = n) && bmOk (outB most s.1)
def outP (most : Int) (pre : List (List Int × Int)) : List Int :=
  match pre.getLast? with
  | none => []
  | some s => outB most s.1
theorem outP_snoc (most : Int) (pre : List (List Int × Int)) (s : List Int × Int) : outP most (pre ++ [s]) = outB most s.1 := by simp [outP]
def lesserL (k : Nat) : List Int := (List.range k).map fun i : Nat => (i : Int) + 1
theorem good_eq {w : List Int} {n most : Int} (hm : 0 ≤ most) {s : List Int × Int} (hs : s ∈ subsF w) : goodB n most s = goodM n most s := by
  unfold goodB goodM
  rw [bm_iff]
  intro v hv
  unfold outB at hv
  rcases List.mem_append.1 hv with h | h
  · obtain ⟨u, hu, rfl⟩ := List.mem_map.1 h
    have := Ris.lo (mem_subsF.1 hs).1 u hu
    omega
  · have : v = most := by simpa using h
    omega
theorem find_congr {α : Type} {p q : α → Bool} : {l : List α} → (∀ x ∈ l, p x = q x) → l.find? p = l.find? q
  | [], _ => rfl
  | x :: l, h => by rw [List.find?_cons, List.find?_cons, h x (by simp), find_congr fun y hy => h y (List.mem_cons_of_mem _ hy)]
def bestAt (n : Int) (m : Nat) : Option (List Int) := ((subsF (lesserL m)).find? (goodB n (m + 1))).map fun s => outB (m + 1) s.1
def bestAtM (n : Int) (m : Nat) : Option (List Int) := ((subsF (lesserL m)).find? (goodM n (m + 1))).map fun s => outB (m + 1) s.1
theorem bestAt_eq (n : Int) (m : Nat) : bestAt n m = bestAtM n m := by
  unfold bestAt bestAtM
  rw [find_congr fun s hs => good_eq (by omega) hs]

/-! ### The reference -/
def altB (g : Int → Option (List Int)) (top : Int) : Nat → Option (List Int)
  | 0 => none
  | c + 1 => (g (top - c)).or (altB g top c)
def fromB (top : Int) (f : Nat) (l : List Int) : Int :=
  bif decide (f = 0) then max (bif decide (0 < l.length) then l.getD (l.length - 1) 0 + 1 else 1) top else (bif decide (0 < l.length) then l.getD (l.length - 1) 0 + 1 else 1)
def bestR (d : List Int → Bool) (top : Int) : Nat → List Int → Option (List Int)
  | 0, l => bif decide (0 < l.length) && !(d l) then none else some l
  | f + 1, l => bif decide (0 < l.length) && !(d l) then none else altB (fun w => bestR d top f (l ++ [w])) top (top - fromB top f l + 1).toNat
theorem altB_congr {g h : Int → Option (List Int)} (top : Int) : ∀ c : Nat, (∀ w, top - c < w → w ≤ top → g w = h w) → altB g top c = altB h top c
  | 0, _ => rfl
  | c + 1, e => by
    rw [altB, altB, e _ (by omega) (by omega), altB_congr top c fun w h1 h2 => e w (by omega) h2]
theorem fromB_pos {top : Int} (ht : 1 ≤ top) {f : Nat} {l : List Int} (h : ∀ v ∈ l, 1 ≤ v) : 1 ≤ fromB top f l := by
  have h1 : 1 ≤ (bif decide (0 < l.length) then l.getD (l.length - 1) 0 + 1 else 1) := by
    by_cases hl : 0 < l.length
    · rw [decide_eq_true hl]
      have := h _ (getD_mem l 0 (k := l.length - 1) (by omega))
      simp only [cond_true]
      omega
    · rw [decide_eq_false hl]; simp
  unfold fromB
  cases decide (f = 0)
  · exact h1
  · simp only [cond_true]; omega
theorem bestR_congr {top : Int} (ht : 1 ≤ top) : ∀ (f : Nat) (l : List Int), (∀ v ∈ l, 1 ≤ v) → bestR distF top f l = bestR bmOk top f l
  | 0, l, h => by
    unfold bestR
    rw [bm_iff fun v hv => by have := h v hv; omega]
  | f + 1, l, h => by
    unfold bestR
    rw [bm_iff fun v hv => by have := h v hv; omega]
    congr 1
    apply altB_congr
    intro w h1 h2
    have h0 := fromB_pos ht (f := f) h
    apply bestR_congr ht
    intro v hv
    rcases List.mem_append.1 hv with hv | hv
    · exact h v hv
    · have : v = w := by simpa using hv
      omega
theorem altB_some {g : Int → Option (List Int)} {top : Int} {y : List Int} : ∀ {c : Nat}, altB g top c = some y → ∃ w, g w = some y
  | 0, h => by cases h
  | c + 1, h => by
    rw [altB, Option.or_eq_some_iff] at h
    rcases h with h | ⟨_, h⟩
    · exact ⟨_, h⟩
    · exact altB_some h
theorem bestR_length {d : List Int → Bool} {top : Int} : ∀ (f : Nat) (l y : List Int), bestR d top f l = some y → y.length = l.length + f
  | 0, l, y, h => by
    unfold bestR at h
    cases hb : (decide (0 < l.length) && !(d l)) with
    | true => rw [hb] at h; cases h
    | false => rw [hb] at h; cases h; rfl
  | f + 1, l, y, h => by
    unfold bestR at h
    cases hb : (decide (0 < l.length) && !(d l)) with
    | true => rw [hb] at h; cases h
    | false =>
      rw [hb] at h
      obtain ⟨w, hw⟩ := altB_some h
      have := bestR_length f _ _ hw
      simp at this
      omega
def topN (n : Nat) : Nat := [0, 1, 2, 4, 7, 13].getD n 0
def bestL (n : Nat) : List Int := (bestAtM n (topN n - 1)).getD []
end Go.SX.We

/- Chapter 08: the best weights, computed. -/
namespace Go.SX.We
theorem best_none : ∀ n : Nat, n < 6 → 0 < n → ∀ m : Nat, m < topN n - 1 → bestAtM n m = none := by decide +kernel
theorem best_some : ∀ n : Nat, n < 6 → 0 < n → bestAtM n (topN n - 1) = some (bestL n) := by decide +kernel
theorem refB_none : ∀ n : Nat, n < 6 → 0 < n → ∀ m : Nat, m < topN n - 1 → bestR bmOk ((m + 1 : Nat) : Int) n [] = none := by decide +kernel
theorem refB_some : ∀ n : Nat, n < 6 → 0 < n → bestR bmOk ((topN n : Nat) : Int) n [] = some (bestL n) := by decide +kernel
theorem bestL_facts : ∀ n : Nat, n < 6 → 0 < n → checkF (bestL n) 12 = 0 ∧ bmOk (bestL n) = true ∧ (bestL n).length = n ∧ (bestL n).getD (n - 1) 0 = topN n ∧ ([1, 2, 4, 7, 13] : List Int).getD (n - 1) 0 = topN n := by decide +kernel
end Go.SX.We

/- Chapter 08: Best, what is asked. -/
namespace Go.SX.We
open Go Go.Proofs
noncomputable section
@[reducible] def A63 (l : List Int) (o R : Nat) : Ann where
  τ := Nat
  pre := []
  preC := [(o, 0, 3, .int .i64)]
  keep := [1, 2, 3, 4, 9, 10]
  slots k := [(11, .c (.int .i64 k))]
  ents k := [(o, .blk 22 [.own R 1]), (R, .row 3 (.int .i64) 0 ((l.take k).map (· + 1)))]
  ok k := k ≤ l.length
  m k := l.length - k
def with63 (st : St) : Ann :=
  match findT 1 st.t, findT 4 st.t with
  | .c (.ptr o 0), .c (.ptr q 0) => (match st.h[q]? with
    | some (.blk _ [.ro (.int .i64) l, _]) => A63 l o st.h.length
    | _ => noAnn)
  | _, _ => noAnn
def i63 : CI := inl 63 Try.f63 (cx [p41.ci] [(0, with63)])
structure X48 where
  w : List Int
  n : Int
  most : Int
@[reducible] def c48V (F : X48 → (List Int × Int) × Bool × List Int) : HC where
  f := 48
  X := X48
  Hs x := [.blk 22 [.ro (.int .i64) x.w], .blk 22 [.raw (.slice none 0 0)], .blk 3 [.int .i64 x.most], .blk 3 [.int .i64 x.n]]
  ags _ := [.c (.fn 66 [0]), .c (.fn 63 [1, 2, 3])]
  Pre x := x.w.length ≤ 12 ∧ (∀ v ∈ x.w, 0 ≤ v ∧ v ≤ 100) ∧ 0 ≤ x.most ∧ x.most ≤ 100
  res x := .tup [(true, [.ro (.int .i64) (F x).1.1, .int .i64 (F x).1.2]), (false, [.bool 0 (F x).2.1])]
  out x := [.blk 22 [.ro (.int .i64) x.w], .blk 22 [.ro (.int .i64) (F x).2.2], .blk 3 [.int .i64 x.most], .blk 3 [.int .i64 x.n]]
  fr _ := false
def fedB (x : X48) : Bool × List (List Int × Int) := feed (goN (goodB x.n x.most)) [] (subsF x.w)
def FB (x : X48) : (List Int × Int) × Bool × List Int := (bif (fedB x).1 then ([], 0) else lastS (fedB x).2, !(fedB x).1, outP x.most (fedB x).2)
@[reducible] def pick48 : Pick X48 := fun args H K => match args with
  | [.c (.fn _ [b]), .c (.fn _ [o, m, n])] => (match H[b]?, H[m]?, H[n]? with
    | some (.blk _ [.ro (.int .i64) w]), some (.blk _ [.int _ most]), some (.blk _ [.int _ nn]) => K ⟨w, nn, most⟩ [b, o, m, n]
    | _, _, _ => False)
  | _ => False
@[reducible] def R48B (x : X48) : RAnn where
  a := true
  T := tSub
  go := goN (goodB x.n x.most)
  gen := subsF x.w
  preC := []
  ents pre := [(1, .blk 22 [.ro (.int .i64) (outP x.most pre)])]
  fin pre := [(1, .blk 22 [.ro (.int .i64) (outP x.most pre)]), (5, .blk 68 [.ro (.int .i64) (lastS pre).1, .int .i64 (lastS pre).2]), (6, .blk 4 [.kb true])]
  ex := .ret
  place := 4
@[reducible] def C48B (M : MM) (x : X48) : Ctx := cr M [i63, (c66 M).ci pick66] [] [(0, fun _ => R48B x)]
def g48B (M : MM) (x : X48) : Prop := HVC (C48B M x) Try.f48 (c48V FB) x

def i42f : CI := ⟨42, i42.s, i42.k, true⟩
@[reducible] def A38 (r N : Nat) : Ann where
  τ := Nat
  pre := []
  preC := []
  keep := [1, 4, 5, 21, 22]
  slots k := [(23, .c (.int .i64 k))]
  ents k := [(r, .row 3 (.int .i64) 1 (lesserL k ++ List.replicate (N - k) 0))]
  ok k := k ≤ N
  m k := N - k
def with38 (st : St) : Ann :=
  match findT 5 st.t with
  | .c (.own r _) => (match st.h[r]? with
    | some (.row _ (.int .i64) _ xs) => A38 r xs.length
    | _ => noAnn)
  | _ => noAnn
def BestF (n : Int) : List Int × Int := bif decide (1 ≤ n) && decide (n ≤ 5) then (bestL n.toNat, 0) else ([], 1)
@[reducible] def p38 : PC := ⟨38, [aI], [aIs, aI], fun _ => True, BestF⟩
@[reducible] def A38o (n : Int) : Ann where
  τ := Nat
  pre := []
  preC := []
  keep := [1]
  slots _ := [(4, .c (.ptr 1 0))]
  ents k := [(1, .blk 3 [.int .i64 ((k + 1 : Nat) : Int)])]
  ok k := k + 1 ≤ topN n.toNat
  m k := topN n.toNat - k
  sw := some 4
@[reducible] def C38 (F : X48 → (List Int × Int) × Bool × List Int) (n : Int) : Ctx := ctxS tbl [i42f, (c48V F).ci pick48] (fun k => annOf k [(0, fun _ => A38o n), (1, with38)])
def g38 (F : X48 → (List Int × Int) × Bool × List Int) (n : Int) : Prop := p38.VC (C38 F n) Try.f38 n

@[reducible] def n39 : NC := ⟨39, [aI, aI, aIs], .int .i64, fun p => 1 ≤ p.1 ∧ p.1 ≤ 5 ∧ 1 ≤ p.2.1 ∧ p.2.1 ≤ 1000 ∧ (p.2.2.length : Int) ≤ p.1 ∧ ∀ v ∈ p.2.2, 1 ≤ v ∧ v ≤ p.2.1, fun p => bestR distF p.2.1 (p.1.toNat - p.2.2.length) p.2.2⟩
def m39 (p : Int × Int × List Int) : Nat := p.1.toNat - p.2.2.length
@[reducible] def A39 (top : Int) (f : Nat) (l : List Int) : Ann where
  τ := Nat
  pre := []
  preC := []
  keep := [0, 1, 2]
  slots c := [(8, .c (.int .i64 (top + 1 - c)))]
  ents _ := []
  ok c := (c : Int) ≤ top ∧ bestR distF top (f + 1) l = altB (fun w => bestR distF top f (l ++ [w])) top c
  m c := c
@[reducible] def C39 (p : Int × Int × List Int) : Ctx := cx [p36.ci, NC.ci (n39.below m39 (m39 p))] [(0, fun _ => A39 p.2.1 (p.1.toNat - p.2.2.length - 1) p.2.2)]
def g39 (n top : Int) (l : List Int) : Prop := NilVC (C39 (n, top, l)) Try.f39 n39 (n, top, l)
@[reducible] def p13 : PC := ⟨13, [aI], [aB], fun _ => True, fun _ => true⟩
@[reducible] def A13 (n : Int) : Ann where
  τ := Nat
  pre := []
  preC := []
  keep := [0, 3, 4]
  slots k := [(5, .c (.int .i64 ((k + 1 : Nat) : Int)))]
  ents _ := []
  ok k := k + 1 ≤ topN n.toNat
  m k := topN n.toNat - k
@[reducible] def C13 (n : Int) : Ctx := cx [p38.ci, i29, n39.ci, p21.ci, p19.ci] [(0, fun _ => A13 n)]
def g13 (n : Int) : Prop := p13.VC (C13 n) Try.f13 n
@[reducible] def p14 : PC := ⟨14, [(false, .int .u8)], [aB], fun n => 0 ≤ n ∧ n ≤ 255, fun _ => true⟩
def g14 (n : Int) : Prop := p14.VC (cx [p38.ci, p16.ci, p19.ci] []) Try.f14 n
end
end Go.SX.We

/- Printed by VC.lean: what the executor asks. -/
namespace Go.SX.We
open Go Go.Proofs
theorem g48B_eq (M : MM) (x : X48) : g48B M x = (
 True ∧
 (some (Ent.blk (22 : TypeId) [SC.ro (Ty.int IntKind.i64) x.w]) = some (Ent.blk (22 : TypeId) [SC.ro (Ty.int IntKind.i64) x.w]) ∧ True) ∧
 ((x.w = x.w ∧ True) ∧
 (outP x.most (nilT (List Int × Int)) = nilT Int ∧ True) ∧
 (x.most = x.most ∧ True) ∧
 (x.n = x.n ∧ True) ∧
 (True ∧ True) ∧ (Value.slice none (0 : Nat) (0 : Nat) = Value.slice none (0 : Nat) (0 : Nat) ∧ (0 : Int) = (0 : Int) ∧ True) ∧ (True ∧ True) ∧ True) ∧
 (∀ (pre : List (List Int × Int)) (x_1 : List Int × Int) (r : List (List Int × Int)),
 subsF x.w = pre ++ x_1 :: r →
 true = true ∧
 (∃ (x0 : Nat),
 x0 ≤ x_1.fst.length ∧
 (True ∧
 (True ∧ True) ∧
 (x.most = x.most ∧ True) ∧
 (x.n = x.n ∧ True) ∧
 (True ∧ True) ∧
 (Value.slice none (0 : Nat) (0 : Nat) = Value.slice none (0 : Nat) (0 : Nat) ∧ (0 : Int) = (0 : Int) ∧ True) ∧
 (True ∧ True) ∧
 (x_1.fst = x_1.fst ∧ x_1.snd = x_1.snd ∧ True) ∧
 (x_1.fst = x_1.fst ∧ x_1.snd = x_1.snd ∧ True) ∧ nilT Int = List.map (fun (x : Int) => x + (1 : Int)) (List.take x0 x_1.fst) ∧ True) ∧
 (0 : Int) = (↑x0 : Int) ∧ (↑x_1.fst.length : Int) = (↑x_1.fst.length : Int) ∧ x_1.fst = x_1.fst ∧ True ∧ True ∧ True ∧ True ∧ True) ∧
 ∀ (x_2 : Nat),
 x_2 ≤ x_1.fst.length →
 ((↑x_2 : Int) < (↑x_1.fst.length : Int) →
 (↑x_2 : Int) < (↑x_1.fst.length : Int) ∧
 ((0 : Int) ≤ (↑x_2 : Int) ∧ (↑x_2 : Int) < (↑x_1.fst.length : Int)) ∧
 Fits IntKind.i64 (x_1.fst.getD (↑x_2 : Int).toNat (0 : Int) + (1 : Int)) ∧
 Small ((List.map (fun (x : Int) => x + (1 : Int)) (List.take x_2 x_1.fst)).length + ((0 : Nat) + (1 : Nat))) ∧
 Fits IntKind.i64 ((↑x_2 : Int) + (1 : Int)) ∧
 ∃ (x' : Nat),
 x' ≤ x_1.fst.length ∧
 x_1.fst.length - x' < x_1.fst.length - x_2 ∧
 (True ∧
 (True ∧ True) ∧
 (x.most = x.most ∧ True) ∧
 (x.n = x.n ∧ True) ∧
 (True ∧ True) ∧
 (Value.slice none (0 : Nat) (0 : Nat) = Value.slice none (0 : Nat) (0 : Nat) ∧ (0 : Int) = (0 : Int) ∧ True) ∧
 (True ∧ True) ∧
 (x_1.fst = x_1.fst ∧ x_1.snd = x_1.snd ∧ True) ∧
 (x_1.fst = x_1.fst ∧ x_1.snd = x_1.snd ∧ True) ∧
 List.map (fun (x : Int) => x + (1 : Int)) (List.take x_2 x_1.fst) ++
 [x_1.fst.getD (↑x_2 : Int).toNat (0 : Int) + (1 : Int)] =
 List.map (fun (x : Int) => x + (1 : Int)) (List.take x' x_1.fst) ∧
 True) ∧
 (↑x_2 : Int) + (1 : Int) = (↑x' : Int) ∧
 (↑x_1.fst.length : Int) = (↑x_1.fst.length : Int) ∧ x_1.fst = x_1.fst ∧ True ∧ True ∧ True ∧ True ∧ True) ∧
 (¬(↑x_2 : Int) < (↑x_1.fst.length : Int) →
 ¬(↑x_2 : Int) < (↑x_1.fst.length : Int) ∧
 Small ((List.map (fun (x : Int) => x + (1 : Int)) (List.take x_2 x_1.fst)).length + ((0 : Nat) + (1 : Nat))) ∧
 ((↑(List.map (fun (x : Int) => x + (1 : Int)) (List.take x_2 x_1.fst) ++ [x.most]).length : Int) = x.n →
 (↑(List.map (fun (x : Int) => x + (1 : Int)) (List.take x_2 x_1.fst) ++ [x.most]).length : Int) = x.n ∧
 (↑(List.map (fun (x : Int) => x + (1 : Int)) (List.take x_2 x_1.fst) ++ [x.most]).length : Int) = x.n ∧
 ((List.map (fun (x : Int) => x + (1 : Int)) (List.take x_2 x_1.fst) ++ [x.most]).length ≤ (13 : Nat) ∧
 ∀ (v : Int),
 v ∈ List.map (fun (x : Int) => x + (1 : Int)) (List.take x_2 x_1.fst) ++ [x.most] → (-1000000 : Int) ≤ v ∧ v ≤ (1000000 : Int)) ∧
 (distF (List.map (fun (x : Int) => x + (1 : Int)) (List.take x_2 x_1.fst) ++ [x.most]) = true →
 distF (List.map (fun (x : Int) => x + (1 : Int)) (List.take x_2 x_1.fst) ++ [x.most]) = true ∧
 (Ex.ret = Ex.ret ∧ goN (goodB x.n x.most) pre x_1 = false ∧ true = true) ∧
 True ∧
 (List.map (fun (x : Int) => x + (1 : Int)) (List.take x_2 x_1.fst) ++ [x.most] = outP x.most (pre ++ [x_1]) ∧ True) ∧
 (x.most = x.most ∧ True) ∧
 (x.n = x.n ∧ True) ∧
 (True ∧ True) ∧ (x_1.fst = (lastS (pre ++ [x_1])).fst ∧ x_1.snd = (lastS (pre ++ [x_1])).snd ∧ True) ∧ (True ∧ True) ∧ True) ∧
 (distF (List.map (fun (x : Int) => x + (1 : Int)) (List.take x_2 x_1.fst) ++ [x.most]) = false →
 distF (List.map (fun (x : Int) => x + (1 : Int)) (List.take x_2 x_1.fst) ++ [x.most]) = false ∧
 (goN (goodB x.n x.most) pre x_1 = true ∧ true = true) ∧
 True ∧
 (List.map (fun (x : Int) => x + (1 : Int)) (List.take x_2 x_1.fst) ++ [x.most] = outP x.most (pre ++ [x_1]) ∧ True) ∧
 (x.most = x.most ∧ True) ∧
 (x.n = x.n ∧ True) ∧
 (True ∧ True) ∧
 (Value.slice none (0 : Nat) (0 : Nat) = Value.slice none (0 : Nat) (0 : Nat) ∧ (0 : Int) = (0 : Int) ∧ True) ∧
 (True ∧ True) ∧ True)) ∧
 (¬(↑(List.map (fun (x : Int) => x + (1 : Int)) (List.take x_2 x_1.fst) ++ [x.most]).length : Int) = x.n →
 ¬(↑(List.map (fun (x : Int) => x + (1 : Int)) (List.take x_2 x_1.fst) ++ [x.most]).length : Int) = x.n ∧
 ¬(↑(List.map (fun (x : Int) => x + (1 : Int)) (List.take x_2 x_1.fst) ++ [x.most]).length : Int) = x.n ∧
 (goN (goodB x.n x.most) pre x_1 = true ∧ true = true) ∧
 True ∧
 (List.map (fun (x : Int) => x + (1 : Int)) (List.take x_2 x_1.fst) ++ [x.most] = outP x.most (pre ++ [x_1]) ∧ True) ∧
 (x.most = x.most ∧ True) ∧
 (x.n = x.n ∧ True) ∧
 (True ∧ True) ∧
 (Value.slice none (0 : Nat) (0 : Nat) = Value.slice none (0 : Nat) (0 : Nat) ∧ (0 : Int) = (0 : Int) ∧ True) ∧
 (True ∧ True) ∧ True))) ∧
 (∀ (E : Ext true tSub),
 E.go = goN (goodB x.n x.most) →
 (∀ (pre : List (List Int × Int)) (x_1 : List Int × Int) (r : List (List Int × Int)), subsF x.w = pre ++ x_1 :: r → E.may pre x_1) →
 M true tSub E →
 True ∧
 ((x.w = x.w ∧ True) ∧ Ent.ext true tSub E true (nilT (List Int × Int)) = Ent.ext true tSub E true (nilT (List Int × Int)) ∧ True) ∧
 (E.yv = E.yv ∧ True ∧ True) ∧
 P67 M (X66.mk E [] x.w).to ∧
 (7 : Nat) = (7 : Nat) ∧
 some (Ent.ext true tSub E (feed E.go (nilT (List Int × Int)) (subsF x.w)).fst (feed E.go (nilT (List Int × Int)) (subsF x.w)).snd) =
 some
 (Ent.ext true tSub E (feed (goN (goodB x.n x.most)) (nilT (List Int × Int)) (subsF x.w)).fst
 (feed (goN (goodB x.n x.most)) (nilT (List Int × Int)) (subsF x.w)).snd) ∧
 some (Ent.blk (22 : TypeId) [SC.ro (Ty.int IntKind.i64) x.w]) = some (Ent.blk (22 : TypeId) [SC.ro (Ty.int IntKind.i64) x.w]) ∧ True) ∧
 ((feed (goN (goodB x.n x.most)) (nilT (List Int × Int)) (subsF x.w)).fst = true →
 true = true ∧
 (((FB x).fst.fst = nilT Int ∧ (0 : Int) = (FB x).fst.snd ∧ True) ∧ (false = (FB x).snd.fst ∧ True) ∧ True) ∧
 (x.w = x.w ∧ True) ∧
 (outP x.most (feed (goN (goodB x.n x.most)) (nilT (List Int × Int)) (subsF x.w)).snd = (FB x).snd.snd ∧ True) ∧
 (x.most = x.most ∧ True) ∧ (x.n = x.n ∧ True) ∧ True) ∧
 ((feed (goN (goodB x.n x.most)) (nilT (List Int × Int)) (subsF x.w)).fst = false →
 true = true ∧
 (((lastS (feed (goN (goodB x.n x.most)) (nilT (List Int × Int)) (subsF x.w)).snd).fst = (FB x).fst.fst ∧
 (lastS (feed (goN (goodB x.n x.most)) (nilT (List Int × Int)) (subsF x.w)).snd).snd = (FB x).fst.snd ∧ True) ∧
 (true = (FB x).snd.fst ∧ True) ∧ True) ∧
 (x.w = x.w ∧ True) ∧
 (outP x.most (feed (goN (goodB x.n x.most)) (nilT (List Int × Int)) (subsF x.w)).snd = (FB x).snd.snd ∧ True) ∧
 (x.most = x.most ∧ True) ∧ (x.n = x.n ∧ True) ∧ True)) := by
 kernel_rfl

theorem g38_eq (F : X48 → (List Int × Int) × Bool × List Int) (n : Int) : g38 F n = (
 (n < (1 : Int) → n < (1 : Int) ∧ n < (1 : Int) ∧ (nilT Int, (1 : Int)) = BestF n) ∧
 (¬n < (1 : Int) →
 ¬n < (1 : Int) ∧
 ¬n < (1 : Int) ∧
 ((5 : Int) < n → (5 : Int) < n ∧ (5 : Int) < n ∧ (nilT Int, (1 : Int)) = BestF n) ∧
 (¬(5 : Int) < n →
 ¬(5 : Int) < n ∧
 ¬(5 : Int) < n ∧
 (∃ (x0 : Nat), x0 + (1 : Nat) ≤ topN n.toNat ∧ ((n = n ∧ True) ∧ ((1 : Int) = (↑(x0 + (1 : Nat)) : Int) ∧ True) ∧ True) ∧ True ∧ True ∧ True) ∧
 ∀ (x : Nat),
 x + (1 : Nat) ≤ topN n.toNat →
 Fits IntKind.i64 ((↑(x + (1 : Nat)) : Int) - (1 : Int)) ∧
 ((0 : Int) ≤ (↑(x + (1 : Nat)) : Int) - (1 : Int) ∧
 (↑(x + (1 : Nat)) : Int) - (1 : Int) ≤ (↑(x + (1 : Nat)) : Int) - (1 : Int) ∧ Small ((↑(x + (1 : Nat)) : Int) - (1 : Int)).toNat) ∧
 (∃ (x0 : Nat),
 x0 ≤ (List.replicate ((↑(x + (1 : Nat)) : Int) - (1 : Int)).toNat (0 : Int)).length ∧
 ((n = n ∧ True) ∧
 ((↑(x + (1 : Nat)) : Int) = (↑(x + (1 : Nat)) : Int) ∧ True) ∧
 List.replicate ((↑(x + (1 : Nat)) : Int) - (1 : Int)).toNat (0 : Int) =
 lesserL x0 ++ List.replicate ((List.replicate ((↑(x + (1 : Nat)) : Int) - (1 : Int)).toNat (0 : Int)).length - x0) (0 : Int) ∧
 True) ∧
 (0 : Int) = (↑x0 : Int) ∧
 (↑(List.replicate ((↑(x + (1 : Nat)) : Int) - (1 : Int)).toNat (0 : Int)).length : Int) =
 (↑(List.replicate ((↑(x + (1 : Nat)) : Int) - (1 : Int)).toNat (0 : Int)).length : Int) ∧
 True ∧ True ∧ True ∧ True ∧ True) ∧
 ∀ (x_1 : Nat),
 x_1 ≤ (List.replicate ((↑(x + (1 : Nat)) : Int) - (1 : Int)).toNat (0 : Int)).length →
 ((↑x_1 : Int) < (↑(List.replicate ((↑(x + (1 : Nat)) : Int) - (1 : Int)).toNat (0 : Int)).length : Int) →
 (↑x_1 : Int) < (↑(List.replicate ((↑(x + (1 : Nat)) : Int) - (1 : Int)).toNat (0 : Int)).length : Int) ∧
 Fits IntKind.i64 ((↑x_1 : Int) + (1 : Int)) ∧
 ((0 : Int) ≤ (↑x_1 : Int) ∧
 (↑x_1 : Int) <
 (↑(lesserL x_1 ++
 List.replicate ((List.replicate ((↑(x + (1 : Nat)) : Int) - (1 : Int)).toNat (0 : Int)).length - x_1) (0 : Int)).length :
 Int)) ∧
 Fits IntKind.i64 ((↑x_1 : Int) + (1 : Int)) ∧
 ∃ (x' : Nat),
 x' ≤ (List.replicate ((↑(x + (1 : Nat)) : Int) - (1 : Int)).toNat (0 : Int)).length ∧
 (List.replicate ((↑(x + (1 : Nat)) : Int) - (1 : Int)).toNat (0 : Int)).length - x' <
 (List.replicate ((↑(x + (1 : Nat)) : Int) - (1 : Int)).toNat (0 : Int)).length - x_1 ∧
 ((n = n ∧ True) ∧
 ((↑(x + (1 : Nat)) : Int) = (↑(x + (1 : Nat)) : Int) ∧ True) ∧
 (lesserL x_1 ++
 List.replicate ((List.replicate ((↑(x + (1 : Nat)) : Int) - (1 : Int)).toNat (0 : Int)).length - x_1)
 (0 : Int)).set
 (↑x_1 : Int).toNat ((↑x_1 : Int) + (1 : Int)) =
 lesserL x' ++
 List.replicate ((List.replicate ((↑(x + (1 : Nat)) : Int) - (1 : Int)).toNat (0 : Int)).length - x') (0 : Int) ∧
 True) ∧
 (↑x_1 : Int) + (1 : Int) = (↑x' : Int) ∧
 (↑(List.replicate ((↑(x + (1 : Nat)) : Int) - (1 : Int)).toNat (0 : Int)).length : Int) =
 (↑(List.replicate ((↑(x + (1 : Nat)) : Int) - (1 : Int)).toNat (0 : Int)).length : Int) ∧
 True ∧ True ∧ True ∧ True ∧ True) ∧
 (¬(↑x_1 : Int) < (↑(List.replicate ((↑(x + (1 : Nat)) : Int) - (1 : Int)).toNat (0 : Int)).length : Int) →
 ¬(↑x_1 : Int) < (↑(List.replicate ((↑(x + (1 : Nat)) : Int) - (1 : Int)).toNat (0 : Int)).length : Int) ∧
 True ∧
 ((lesserL x_1 ++ List.replicate ((List.replicate ((↑(x + (1 : Nat)) : Int) - (1 : Int)).toNat (0 : Int)).length - x_1) (0 : Int) =
 lesserL x_1 ++ List.replicate ((List.replicate ((↑(x + (1 : Nat)) : Int) - (1 : Int)).toNat (0 : Int)).length - x_1) (0 : Int) ∧
 True) ∧
 (Value.slice none (0 : Nat) (0 : Nat) = Value.slice none (0 : Nat) (0 : Nat) ∧ True) ∧
 ((↑(x + (1 : Nat)) : Int) = (↑(x + (1 : Nat)) : Int) ∧ True) ∧ (n = n ∧ True) ∧ True) ∧
 (True ∧ True ∧ True) ∧
 ((lesserL x_1 ++
 List.replicate ((List.replicate ((↑(x + (1 : Nat)) : Int) - (1 : Int)).toNat (0 : Int)).length - x_1) (0 : Int)).length ≤
 (12 : Nat) ∧
 (∀ (v : Int),
 v ∈
 lesserL x_1 ++
 List.replicate ((List.replicate ((↑(x + (1 : Nat)) : Int) - (1 : Int)).toNat (0 : Int)).length - x_1) (0 : Int) →
 (0 : Int) ≤ v ∧ v ≤ (100 : Int)) ∧
 (0 : Int) ≤ (↑(x + (1 : Nat)) : Int) ∧ (↑(x + (1 : Nat)) : Int) ≤ (100 : Int)) ∧
 ((F
 (X48.mk
 (lesserL x_1 ++
 List.replicate ((List.replicate ((↑(x + (1 : Nat)) : Int) - (1 : Int)).toNat (0 : Int)).length - x_1) (0 : Int))
 n (↑(x + (1 : Nat)) : Int))).snd.fst =
 true →
 (F
 (X48.mk
 (lesserL x_1 ++
 List.replicate ((List.replicate ((↑(x + (1 : Nat)) : Int) - (1 : Int)).toNat (0 : Int)).length - x_1) (0 : Int))
 n (↑(x + (1 : Nat)) : Int))).snd.fst =
 true ∧
 (F
 (X48.mk
 (lesserL x_1 ++
 List.replicate ((List.replicate ((↑(x + (1 : Nat)) : Int) - (1 : Int)).toNat (0 : Int)).length - x_1) (0 : Int))
 n (↑(x + (1 : Nat)) : Int))).snd.fst =
 true ∧
 (F
 (X48.mk
 (lesserL x_1 ++
 List.replicate ((List.replicate ((↑(x + (1 : Nat)) : Int) - (1 : Int)).toNat (0 : Int)).length - x_1) (0 : Int))
 n (↑(x + (1 : Nat)) : Int))).snd.fst =
 true ∧
 ((F
 (X48.mk
 (lesserL x_1 ++
 List.replicate ((List.replicate ((↑(x + (1 : Nat)) : Int) - (1 : Int)).toNat (0 : Int)).length - x_1)
 (0 : Int))
 n (↑(x + (1 : Nat)) : Int))).snd.snd,
 (0 : Int)) =
 BestF n) ∧
 ((F
 (X48.mk
 (lesserL x_1 ++
 List.replicate ((List.replicate ((↑(x + (1 : Nat)) : Int) - (1 : Int)).toNat (0 : Int)).length - x_1) (0 : Int))
 n (↑(x + (1 : Nat)) : Int))).snd.fst =
 false →
 (F
 (X48.mk
 (lesserL x_1 ++
 List.replicate ((List.replicate ((↑(x + (1 : Nat)) : Int) - (1 : Int)).toNat (0 : Int)).length - x_1) (0 : Int))
 n (↑(x + (1 : Nat)) : Int))).snd.fst =
 false ∧
 (F
 (X48.mk
 (lesserL x_1 ++
 List.replicate ((List.replicate ((↑(x + (1 : Nat)) : Int) - (1 : Int)).toNat (0 : Int)).length - x_1) (0 : Int))
 n (↑(x + (1 : Nat)) : Int))).snd.fst =
 false ∧
 (F
 (X48.mk
 (lesserL x_1 ++
 List.replicate ((List.replicate ((↑(x + (1 : Nat)) : Int) - (1 : Int)).toNat (0 : Int)).length - x_1) (0 : Int))
 n (↑(x + (1 : Nat)) : Int))).snd.fst =
 false ∧
 Fits IntKind.i64 ((↑(x + (1 : Nat)) : Int) + (1 : Int)) ∧
 ∃ (x' : Nat),
 x' + (1 : Nat) ≤ topN n.toNat ∧
 topN n.toNat - x' < topN n.toNat - x ∧
 ((n = n ∧ True) ∧ ((↑(x + (1 : Nat)) : Int) + (1 : Int) = (↑(x' + (1 : Nat)) : Int) ∧ True) ∧ True) ∧
 True ∧ True ∧ True))))) := by
 kernel_rfl

theorem g39_eq (n : Int) (top : Int) (l : List Int) : g39 n top l = (
 ((0 : Int) < (↑l.length : Int) →
 (0 : Int) < (↑l.length : Int) ∧
 (0 : Int) < (↑l.length : Int) ∧
 (l.length ≤ (12 : Nat) ∧ ∀ (v : Int), v ∈ l → (1 : Int) ≤ v ∧ v ≤ (1000000 : Int)) ∧
 ((!distF l) = true → (!distF l) = true ∧ (!distF l) = true ∧ bestR distF top (n.toNat - l.length) l = none) ∧
 ((!distF l) = false →
 (!distF l) = false ∧
 (!distF l) = false ∧
 ((↑l.length : Int) = n → (↑l.length : Int) = n ∧ bestR distF top (n.toNat - l.length) l = some l) ∧
 (¬(↑l.length : Int) = n →
 ¬(↑l.length : Int) = n ∧
 ((0 : Int) < (↑l.length : Int) →
 (0 : Int) < (↑l.length : Int) ∧
 Fits IntKind.i64 ((↑l.length : Int) - (1 : Int)) ∧
 ((0 : Int) ≤ (↑l.length : Int) - (1 : Int) ∧ (↑l.length : Int) - (1 : Int) < (↑l.length : Int)) ∧
 Fits IntKind.i64 (l.getD ((↑l.length : Int) - (1 : Int)).toNat (0 : Int) + (1 : Int)) ∧
 Fits IntKind.i64 (n - (1 : Int)) ∧
 ((↑l.length : Int) = n - (1 : Int) →
 (↑l.length : Int) = n - (1 : Int) ∧
 (∃ (x0 : Nat),
 ((↑x0 : Int) ≤ top ∧
 bestR distF top (n.toNat - l.length - (1 : Nat) + (1 : Nat)) l =
 altB (fun (w : Int) => bestR distF top (n.toNat - l.length - (1 : Nat)) (l ++ [w])) top x0) ∧
 True ∧
 max (l.getD ((↑l.length : Int) - (1 : Int)).toNat (0 : Int) + (1 : Int)) top = top + (1 : Int) - (↑x0 : Int) ∧
 n = n ∧ top = top ∧ l = l ∧ True) ∧
 ∀ (x : Nat),
 (↑x : Int) ≤ top ∧
 bestR distF top (n.toNat - l.length - (1 : Nat) + (1 : Nat)) l =
 altB (fun (w : Int) => bestR distF top (n.toNat - l.length - (1 : Nat)) (l ++ [w])) top x →
 (top + (1 : Int) - (↑x : Int) ≤ top →
 top + (1 : Int) - (↑x : Int) ≤ top ∧
 Small ((0 : Nat) + l.length) ∧
 Small (l.length + ((0 : Nat) + (1 : Nat))) ∧
 (((1 : Int) ≤ n ∧
 n ≤ (5 : Int) ∧
 (1 : Int) ≤ top ∧
 top ≤ (1000 : Int) ∧
 (↑(l ++ [top + (1 : Int) - (↑x : Int)]).length : Int) ≤ n ∧
 ∀ (v : Int), v ∈ l ++ [top + (1 : Int) - (↑x : Int)] → (1 : Int) ≤ v ∧ v ≤ top) ∧
 m39 (n, top, l ++ [top + (1 : Int) - (↑x : Int)]) < m39 (n, top, l)) ∧
 (bestR distF top (n.toNat - (l ++ [top + (1 : Int) - (↑x : Int)]).length) (l ++ [top + (1 : Int) - (↑x : Int)]) =
 none →
 Fits IntKind.i64 (top + (1 : Int) - (↑x : Int) + (1 : Int)) ∧
 ∃ (x' : Nat),
 ((↑x' : Int) ≤ top ∧
 bestR distF top (n.toNat - l.length - (1 : Nat) + (1 : Nat)) l =
 altB (fun (w : Int) => bestR distF top (n.toNat - l.length - (1 : Nat)) (l ++ [w])) top x') ∧
 x' < x ∧
 True ∧
 top + (1 : Int) - (↑x : Int) + (1 : Int) = top + (1 : Int) - (↑x' : Int) ∧
 n = n ∧ top = top ∧ l = l ∧ True) ∧
 ∀ (ys : List Int),
 bestR distF top (n.toNat - (l ++ [top + (1 : Int) - (↑x : Int)]).length) (l ++ [top + (1 : Int) - (↑x : Int)]) =
 some ys →
 ys ≠ [] ∧ bestR distF top (n.toNat - l.length) l = some ys) ∧
 (¬top + (1 : Int) - (↑x : Int) ≤ top → ¬top + (1 : Int) - (↑x : Int) ≤ top ∧ bestR distF top (n.toNat - l.length) l = none)) ∧
 (¬(↑l.length : Int) = n - (1 : Int) →
 ¬(↑l.length : Int) = n - (1 : Int) ∧
 (∃ (x0 : Nat),
 ((↑x0 : Int) ≤ top ∧
 bestR distF top (n.toNat - l.length - (1 : Nat) + (1 : Nat)) l =
 altB (fun (w : Int) => bestR distF top (n.toNat - l.length - (1 : Nat)) (l ++ [w])) top x0) ∧
 True ∧
 l.getD ((↑l.length : Int) - (1 : Int)).toNat (0 : Int) + (1 : Int) = top + (1 : Int) - (↑x0 : Int) ∧
 n = n ∧ top = top ∧ l = l ∧ True) ∧
 ∀ (x : Nat),
 (↑x : Int) ≤ top ∧
 bestR distF top (n.toNat - l.length - (1 : Nat) + (1 : Nat)) l =
 altB (fun (w : Int) => bestR distF top (n.toNat - l.length - (1 : Nat)) (l ++ [w])) top x →
 (top + (1 : Int) - (↑x : Int) ≤ top →
 top + (1 : Int) - (↑x : Int) ≤ top ∧
 Small ((0 : Nat) + l.length) ∧
 Small (l.length + ((0 : Nat) + (1 : Nat))) ∧
 (((1 : Int) ≤ n ∧
 n ≤ (5 : Int) ∧
 (1 : Int) ≤ top ∧
 top ≤ (1000 : Int) ∧
 (↑(l ++ [top + (1 : Int) - (↑x : Int)]).length : Int) ≤ n ∧
 ∀ (v : Int), v ∈ l ++ [top + (1 : Int) - (↑x : Int)] → (1 : Int) ≤ v ∧ v ≤ top) ∧
 m39 (n, top, l ++ [top + (1 : Int) - (↑x : Int)]) < m39 (n, top, l)) ∧
 (bestR distF top (n.toNat - (l ++ [top + (1 : Int) - (↑x : Int)]).length) (l ++ [top + (1 : Int) - (↑x : Int)]) =
 none →
 Fits IntKind.i64 (top + (1 : Int) - (↑x : Int) + (1 : Int)) ∧
 ∃ (x' : Nat),
 ((↑x' : Int) ≤ top ∧
 bestR distF top (n.toNat - l.length - (1 : Nat) + (1 : Nat)) l =
 altB (fun (w : Int) => bestR distF top (n.toNat - l.length - (1 : Nat)) (l ++ [w])) top x') ∧
 x' < x ∧
 True ∧
 top + (1 : Int) - (↑x : Int) + (1 : Int) = top + (1 : Int) - (↑x' : Int) ∧
 n = n ∧ top = top ∧ l = l ∧ True) ∧
 ∀ (ys : List Int),
 bestR distF top (n.toNat - (l ++ [top + (1 : Int) - (↑x : Int)]).length) (l ++ [top + (1 : Int) - (↑x : Int)]) =
 some ys →
 ys ≠ [] ∧ bestR distF top (n.toNat - l.length) l = some ys) ∧
 (¬top + (1 : Int) - (↑x : Int) ≤ top → ¬top + (1 : Int) - (↑x : Int) ≤ top ∧ bestR distF top (n.toNat - l.length) l = none))) ∧
 (¬(0 : Int) < (↑l.length : Int) →
 ¬(0 : Int) < (↑l.length : Int) ∧
 Fits IntKind.i64 (n - (1 : Int)) ∧
 ((↑l.length : Int) = n - (1 : Int) →
 (↑l.length : Int) = n - (1 : Int) ∧
 (∃ (x0 : Nat),
 ((↑x0 : Int) ≤ top ∧
 bestR distF top (n.toNat - l.length - (1 : Nat) + (1 : Nat)) l =
 altB (fun (w : Int) => bestR distF top (n.toNat - l.length - (1 : Nat)) (l ++ [w])) top x0) ∧
 True ∧ max (1 : Int) top = top + (1 : Int) - (↑x0 : Int) ∧ n = n ∧ top = top ∧ l = l ∧ True) ∧
 ∀ (x : Nat),
 (↑x : Int) ≤ top ∧
 bestR distF top (n.toNat - l.length - (1 : Nat) + (1 : Nat)) l =
 altB (fun (w : Int) => bestR distF top (n.toNat - l.length - (1 : Nat)) (l ++ [w])) top x →
 (top + (1 : Int) - (↑x : Int) ≤ top →
 top + (1 : Int) - (↑x : Int) ≤ top ∧
 Small ((0 : Nat) + l.length) ∧
 Small (l.length + ((0 : Nat) + (1 : Nat))) ∧
 (((1 : Int) ≤ n ∧
 n ≤ (5 : Int) ∧
 (1 : Int) ≤ top ∧
 top ≤ (1000 : Int) ∧
 (↑(l ++ [top + (1 : Int) - (↑x : Int)]).length : Int) ≤ n ∧
 ∀ (v : Int), v ∈ l ++ [top + (1 : Int) - (↑x : Int)] → (1 : Int) ≤ v ∧ v ≤ top) ∧
 m39 (n, top, l ++ [top + (1 : Int) - (↑x : Int)]) < m39 (n, top, l)) ∧
 (bestR distF top (n.toNat - (l ++ [top + (1 : Int) - (↑x : Int)]).length) (l ++ [top + (1 : Int) - (↑x : Int)]) = none →
 Fits IntKind.i64 (top + (1 : Int) - (↑x : Int) + (1 : Int)) ∧
 ∃ (x' : Nat),
 ((↑x' : Int) ≤ top ∧
 bestR distF top (n.toNat - l.length - (1 : Nat) + (1 : Nat)) l =
 altB (fun (w : Int) => bestR distF top (n.toNat - l.length - (1 : Nat)) (l ++ [w])) top x') ∧
 x' < x ∧
 True ∧
 top + (1 : Int) - (↑x : Int) + (1 : Int) = top + (1 : Int) - (↑x' : Int) ∧ n = n ∧ top = top ∧ l = l ∧ True) ∧
 ∀ (ys : List Int),
 bestR distF top (n.toNat - (l ++ [top + (1 : Int) - (↑x : Int)]).length) (l ++ [top + (1 : Int) - (↑x : Int)]) =
 some ys →
 ys ≠ [] ∧ bestR distF top (n.toNat - l.length) l = some ys) ∧
 (¬top + (1 : Int) - (↑x : Int) ≤ top → ¬top + (1 : Int) - (↑x : Int) ≤ top ∧ bestR distF top (n.toNat - l.length) l = none)) ∧
 (¬(↑l.length : Int) = n - (1 : Int) →
 ¬(↑l.length : Int) = n - (1 : Int) ∧
 (∃ (x0 : Nat),
 ((↑x0 : Int) ≤ top ∧
 bestR distF top (n.toNat - l.length - (1 : Nat) + (1 : Nat)) l =
 altB (fun (w : Int) => bestR distF top (n.toNat - l.length - (1 : Nat)) (l ++ [w])) top x0) ∧
 True ∧ (1 : Int) = top + (1 : Int) - (↑x0 : Int) ∧ n = n ∧ top = top ∧ l = l ∧ True) ∧
 ∀ (x : Nat),
 (↑x : Int) ≤ top ∧
 bestR distF top (n.toNat - l.length - (1 : Nat) + (1 : Nat)) l =
 altB (fun (w : Int) => bestR distF top (n.toNat - l.length - (1 : Nat)) (l ++ [w])) top x →
 (top + (1 : Int) - (↑x : Int) ≤ top →
 top + (1 : Int) - (↑x : Int) ≤ top ∧
 Small ((0 : Nat) + l.length) ∧
 Small (l.length + ((0 : Nat) + (1 : Nat))) ∧
 (((1 : Int) ≤ n ∧
 n ≤ (5 : Int) ∧
 (1 : Int) ≤ top ∧
 top ≤ (1000 : Int) ∧
 (↑(l ++ [top + (1 : Int) - (↑x : Int)]).length : Int) ≤ n ∧
 ∀ (v : Int), v ∈ l ++ [top + (1 : Int) - (↑x : Int)] → (1 : Int) ≤ v ∧ v ≤ top) ∧
 m39 (n, top, l ++ [top + (1 : Int) - (↑x : Int)]) < m39 (n, top, l)) ∧
 (bestR distF top (n.toNat - (l ++ [top + (1 : Int) - (↑x : Int)]).length) (l ++ [top + (1 : Int) - (↑x : Int)]) = none →
 Fits IntKind.i64 (top + (1 : Int) - (↑x : Int) + (1 : Int)) ∧
 ∃ (x' : Nat),
 ((↑x' : Int) ≤ top ∧
 bestR distF top (n.toNat - l.length - (1 : Nat) + (1 : Nat)) l =
 altB (fun (w : Int) => bestR distF top (n.toNat - l.length - (1 : Nat)) (l ++ [w])) top x') ∧
 x' < x ∧
 True ∧
 top + (1 : Int) - (↑x : Int) + (1 : Int) = top + (1 : Int) - (↑x' : Int) ∧ n = n ∧ top = top ∧ l = l ∧ True) ∧
 ∀ (ys : List Int),
 bestR distF top (n.toNat - (l ++ [top + (1 : Int) - (↑x : Int)]).length) (l ++ [top + (1 : Int) - (↑x : Int)]) =
 some ys →
 ys ≠ [] ∧ bestR distF top (n.toNat - l.length) l = some ys) ∧
 (¬top + (1 : Int) - (↑x : Int) ≤ top → ¬top + (1 : Int) - (↑x : Int) ≤ top ∧ bestR distF top (n.toNat - l.length) l = none)))))) ∧
 (¬(0 : Int) < (↑l.length : Int) →
 ¬(0 : Int) < (↑l.length : Int) ∧
 ¬(0 : Int) < (↑l.length : Int) ∧
 ((↑l.length : Int) = n → (↑l.length : Int) = n ∧ bestR distF top (n.toNat - l.length) l = some l) ∧
 (¬(↑l.length : Int) = n →
 ¬(↑l.length : Int) = n ∧
 ((0 : Int) < (↑l.length : Int) →
 (0 : Int) < (↑l.length : Int) ∧
 Fits IntKind.i64 ((↑l.length : Int) - (1 : Int)) ∧
 ((0 : Int) ≤ (↑l.length : Int) - (1 : Int) ∧ (↑l.length : Int) - (1 : Int) < (↑l.length : Int)) ∧
 Fits IntKind.i64 (l.getD ((↑l.length : Int) - (1 : Int)).toNat (0 : Int) + (1 : Int)) ∧
 Fits IntKind.i64 (n - (1 : Int)) ∧
 ((↑l.length : Int) = n - (1 : Int) →
 (↑l.length : Int) = n - (1 : Int) ∧
 (∃ (x0 : Nat),
 ((↑x0 : Int) ≤ top ∧
 bestR distF top (n.toNat - l.length - (1 : Nat) + (1 : Nat)) l =
 altB (fun (w : Int) => bestR distF top (n.toNat - l.length - (1 : Nat)) (l ++ [w])) top x0) ∧
 True ∧
 max (l.getD ((↑l.length : Int) - (1 : Int)).toNat (0 : Int) + (1 : Int)) top = top + (1 : Int) - (↑x0 : Int) ∧
 n = n ∧ top = top ∧ l = l ∧ True) ∧
 ∀ (x : Nat),
 (↑x : Int) ≤ top ∧
 bestR distF top (n.toNat - l.length - (1 : Nat) + (1 : Nat)) l =
 altB (fun (w : Int) => bestR distF top (n.toNat - l.length - (1 : Nat)) (l ++ [w])) top x →
 (top + (1 : Int) - (↑x : Int) ≤ top →
 top + (1 : Int) - (↑x : Int) ≤ top ∧
 Small ((0 : Nat) + l.length) ∧
 Small (l.length + ((0 : Nat) + (1 : Nat))) ∧
 (((1 : Int) ≤ n ∧
 n ≤ (5 : Int) ∧
 (1 : Int) ≤ top ∧
 top ≤ (1000 : Int) ∧
 (↑(l ++ [top + (1 : Int) - (↑x : Int)]).length : Int) ≤ n ∧
 ∀ (v : Int), v ∈ l ++ [top + (1 : Int) - (↑x : Int)] → (1 : Int) ≤ v ∧ v ≤ top) ∧
 m39 (n, top, l ++ [top + (1 : Int) - (↑x : Int)]) < m39 (n, top, l)) ∧
 (bestR distF top (n.toNat - (l ++ [top + (1 : Int) - (↑x : Int)]).length) (l ++ [top + (1 : Int) - (↑x : Int)]) = none →
 Fits IntKind.i64 (top + (1 : Int) - (↑x : Int) + (1 : Int)) ∧
 ∃ (x' : Nat),
 ((↑x' : Int) ≤ top ∧
 bestR distF top (n.toNat - l.length - (1 : Nat) + (1 : Nat)) l =
 altB (fun (w : Int) => bestR distF top (n.toNat - l.length - (1 : Nat)) (l ++ [w])) top x') ∧
 x' < x ∧
 True ∧
 top + (1 : Int) - (↑x : Int) + (1 : Int) = top + (1 : Int) - (↑x' : Int) ∧ n = n ∧ top = top ∧ l = l ∧ True) ∧
 ∀ (ys : List Int),
 bestR distF top (n.toNat - (l ++ [top + (1 : Int) - (↑x : Int)]).length) (l ++ [top + (1 : Int) - (↑x : Int)]) = some ys →
 ys ≠ [] ∧ bestR distF top (n.toNat - l.length) l = some ys) ∧
 (¬top + (1 : Int) - (↑x : Int) ≤ top → ¬top + (1 : Int) - (↑x : Int) ≤ top ∧ bestR distF top (n.toNat - l.length) l = none)) ∧
 (¬(↑l.length : Int) = n - (1 : Int) →
 ¬(↑l.length : Int) = n - (1 : Int) ∧
 (∃ (x0 : Nat),
 ((↑x0 : Int) ≤ top ∧
 bestR distF top (n.toNat - l.length - (1 : Nat) + (1 : Nat)) l =
 altB (fun (w : Int) => bestR distF top (n.toNat - l.length - (1 : Nat)) (l ++ [w])) top x0) ∧
 True ∧
 l.getD ((↑l.length : Int) - (1 : Int)).toNat (0 : Int) + (1 : Int) = top + (1 : Int) - (↑x0 : Int) ∧ n = n ∧ top = top ∧ l = l ∧ True) ∧
 ∀ (x : Nat),
 (↑x : Int) ≤ top ∧
 bestR distF top (n.toNat - l.length - (1 : Nat) + (1 : Nat)) l =
 altB (fun (w : Int) => bestR distF top (n.toNat - l.length - (1 : Nat)) (l ++ [w])) top x →
 (top + (1 : Int) - (↑x : Int) ≤ top →
 top + (1 : Int) - (↑x : Int) ≤ top ∧
 Small ((0 : Nat) + l.length) ∧
 Small (l.length + ((0 : Nat) + (1 : Nat))) ∧
 (((1 : Int) ≤ n ∧
 n ≤ (5 : Int) ∧
 (1 : Int) ≤ top ∧
 top ≤ (1000 : Int) ∧
 (↑(l ++ [top + (1 : Int) - (↑x : Int)]).length : Int) ≤ n ∧
 ∀ (v : Int), v ∈ l ++ [top + (1 : Int) - (↑x : Int)] → (1 : Int) ≤ v ∧ v ≤ top) ∧
 m39 (n, top, l ++ [top + (1 : Int) - (↑x : Int)]) < m39 (n, top, l)) ∧
 (bestR distF top (n.toNat - (l ++ [top + (1 : Int) - (↑x : Int)]).length) (l ++ [top + (1 : Int) - (↑x : Int)]) = none →
 Fits IntKind.i64 (top + (1 : Int) - (↑x : Int) + (1 : Int)) ∧
 ∃ (x' : Nat),
 ((↑x' : Int) ≤ top ∧
 bestR distF top (n.toNat - l.length - (1 : Nat) + (1 : Nat)) l =
 altB (fun (w : Int) => bestR distF top (n.toNat - l.length - (1 : Nat)) (l ++ [w])) top x') ∧
 x' < x ∧
 True ∧
 top + (1 : Int) - (↑x : Int) + (1 : Int) = top + (1 : Int) - (↑x' : Int) ∧ n = n ∧ top = top ∧ l = l ∧ True) ∧
 ∀ (ys : List Int),
 bestR distF top (n.toNat - (l ++ [top + (1 : Int) - (↑x : Int)]).length) (l ++ [top + (1 : Int) - (↑x : Int)]) = some ys →
 ys ≠ [] ∧ bestR distF top (n.toNat - l.length) l = some ys) ∧
 (¬top + (1 : Int) - (↑x : Int) ≤ top → ¬top + (1 : Int) - (↑x : Int) ≤ top ∧ bestR distF top (n.toNat - l.length) l = none))) ∧
 (¬(0 : Int) < (↑l.length : Int) →
 ¬(0 : Int) < (↑l.length : Int) ∧
 Fits IntKind.i64 (n - (1 : Int)) ∧
 ((↑l.length : Int) = n - (1 : Int) →
 (↑l.length : Int) = n - (1 : Int) ∧
 (∃ (x0 : Nat),
 ((↑x0 : Int) ≤ top ∧
 bestR distF top (n.toNat - l.length - (1 : Nat) + (1 : Nat)) l =
 altB (fun (w : Int) => bestR distF top (n.toNat - l.length - (1 : Nat)) (l ++ [w])) top x0) ∧
 True ∧ max (1 : Int) top = top + (1 : Int) - (↑x0 : Int) ∧ n = n ∧ top = top ∧ l = l ∧ True) ∧
 ∀ (x : Nat),
 (↑x : Int) ≤ top ∧
 bestR distF top (n.toNat - l.length - (1 : Nat) + (1 : Nat)) l =
 altB (fun (w : Int) => bestR distF top (n.toNat - l.length - (1 : Nat)) (l ++ [w])) top x →
 (top + (1 : Int) - (↑x : Int) ≤ top →
 top + (1 : Int) - (↑x : Int) ≤ top ∧
 Small ((0 : Nat) + l.length) ∧
 Small (l.length + ((0 : Nat) + (1 : Nat))) ∧
 (((1 : Int) ≤ n ∧
 n ≤ (5 : Int) ∧
 (1 : Int) ≤ top ∧
 top ≤ (1000 : Int) ∧
 (↑(l ++ [top + (1 : Int) - (↑x : Int)]).length : Int) ≤ n ∧
 ∀ (v : Int), v ∈ l ++ [top + (1 : Int) - (↑x : Int)] → (1 : Int) ≤ v ∧ v ≤ top) ∧
 m39 (n, top, l ++ [top + (1 : Int) - (↑x : Int)]) < m39 (n, top, l)) ∧
 (bestR distF top (n.toNat - (l ++ [top + (1 : Int) - (↑x : Int)]).length) (l ++ [top + (1 : Int) - (↑x : Int)]) = none →
 Fits IntKind.i64 (top + (1 : Int) - (↑x : Int) + (1 : Int)) ∧
 ∃ (x' : Nat),
 ((↑x' : Int) ≤ top ∧
 bestR distF top (n.toNat - l.length - (1 : Nat) + (1 : Nat)) l =
 altB (fun (w : Int) => bestR distF top (n.toNat - l.length - (1 : Nat)) (l ++ [w])) top x') ∧
 x' < x ∧
 True ∧ top + (1 : Int) - (↑x : Int) + (1 : Int) = top + (1 : Int) - (↑x' : Int) ∧ n = n ∧ top = top ∧ l = l ∧ True) ∧
 ∀ (ys : List Int),
 bestR distF top (n.toNat - (l ++ [top + (1 : Int) - (↑x : Int)]).length) (l ++ [top + (1 : Int) - (↑x : Int)]) = some ys →
 ys ≠ [] ∧ bestR distF top (n.toNat - l.length) l = some ys) ∧
 (¬top + (1 : Int) - (↑x : Int) ≤ top → ¬top + (1 : Int) - (↑x : Int) ≤ top ∧ bestR distF top (n.toNat - l.length) l = none)) ∧
 (¬(↑l.length : Int) = n - (1 : Int) →
 ¬(↑l.length : Int) = n - (1 : Int) ∧
 (∃ (x0 : Nat),
 ((↑x0 : Int) ≤ top ∧
 bestR distF top (n.toNat - l.length - (1 : Nat) + (1 : Nat)) l =
 altB (fun (w : Int) => bestR distF top (n.toNat - l.length - (1 : Nat)) (l ++ [w])) top x0) ∧
 True ∧ (1 : Int) = top + (1 : Int) - (↑x0 : Int) ∧ n = n ∧ top = top ∧ l = l ∧ True) ∧
 ∀ (x : Nat),
 (↑x : Int) ≤ top ∧
 bestR distF top (n.toNat - l.length - (1 : Nat) + (1 : Nat)) l =
 altB (fun (w : Int) => bestR distF top (n.toNat - l.length - (1 : Nat)) (l ++ [w])) top x →
 (top + (1 : Int) - (↑x : Int) ≤ top →
 top + (1 : Int) - (↑x : Int) ≤ top ∧
 Small ((0 : Nat) + l.length) ∧
 Small (l.length + ((0 : Nat) + (1 : Nat))) ∧
 (((1 : Int) ≤ n ∧
 n ≤ (5 : Int) ∧
 (1 : Int) ≤ top ∧
 top ≤ (1000 : Int) ∧
 (↑(l ++ [top + (1 : Int) - (↑x : Int)]).length : Int) ≤ n ∧
 ∀ (v : Int), v ∈ l ++ [top + (1 : Int) - (↑x : Int)] → (1 : Int) ≤ v ∧ v ≤ top) ∧
 m39 (n, top, l ++ [top + (1 : Int) - (↑x : Int)]) < m39 (n, top, l)) ∧
 (bestR distF top (n.toNat - (l ++ [top + (1 : Int) - (↑x : Int)]).length) (l ++ [top + (1 : Int) - (↑x : Int)]) = none →
 Fits IntKind.i64 (top + (1 : Int) - (↑x : Int) + (1 : Int)) ∧
 ∃ (x' : Nat),
 ((↑x' : Int) ≤ top ∧
 bestR distF top (n.toNat - l.length - (1 : Nat) + (1 : Nat)) l =
 altB (fun (w : Int) => bestR distF top (n.toNat - l.length - (1 : Nat)) (l ++ [w])) top x') ∧
 x' < x ∧
 True ∧ top + (1 : Int) - (↑x : Int) + (1 : Int) = top + (1 : Int) - (↑x' : Int) ∧ n = n ∧ top = top ∧ l = l ∧ True) ∧
 ∀ (ys : List Int),
 bestR distF top (n.toNat - (l ++ [top + (1 : Int) - (↑x : Int)]).length) (l ++ [top + (1 : Int) - (↑x : Int)]) = some ys →
 ys ≠ [] ∧ bestR distF top (n.toNat - l.length) l = some ys) ∧
 (¬top + (1 : Int) - (↑x : Int) ≤ top → ¬top + (1 : Int) - (↑x : Int) ≤ top ∧ bestR distF top (n.toNat - l.length) l = none)))))) := by
 kernel_rfl

theorem g13_eq (n : Int) : g13 n = (
 True ∧
 ((1 : Int) ≤ n →
 (1 : Int) ≤ n ∧
 (1 : Int) ≤ n ∧
 (¬n ≤ (5 : Int) →
 ¬n ≤ (5 : Int) ∧
 ((↑(BestF n).fst.length : Int) = (0 : Int) →
 (↑(BestF n).fst.length : Int) = (0 : Int) ∧
 (↑(BestF n).fst.length : Int) = (0 : Int) ∧
 ((BestF n).snd = (1 : Int) → (BestF n).snd = (1 : Int) ∧ (BestF n).snd = (1 : Int) ∧ (BestF n).snd = (1 : Int) ∧ True ∧ true = true) ∧
 (¬(BestF n).snd = (1 : Int) → ¬(BestF n).snd = (1 : Int) ∧ ¬(BestF n).snd = (1 : Int) ∧ ¬(BestF n).snd = (1 : Int) ∧ false = true)) ∧
 (¬(↑(BestF n).fst.length : Int) = (0 : Int) → ¬(↑(BestF n).fst.length : Int) = (0 : Int) ∧ ¬(↑(BestF n).fst.length : Int) = (0 : Int) ∧ false = true)) ∧
 (¬¬n ≤ (5 : Int) →
 ¬¬n ≤ (5 : Int) ∧
 (∃ (x0 : Nat),
 x0 + (1 : Nat) ≤ topN n.toNat ∧ True ∧ (1 : Int) = (↑(x0 + (1 : Nat)) : Int) ∧ (BestF n).snd = (BestF n).snd ∧ (BestF n).fst = (BestF n).fst ∧ n = n ∧ True) ∧
 ∀ (x : Nat),
 x + (1 : Nat) ≤ topN n.toNat →
 ((1 : Int) ≤ n ∧
 n ≤ (5 : Int) ∧
 (1 : Int) ≤ (↑(x + (1 : Nat)) : Int) ∧
 (↑(x + (1 : Nat)) : Int) ≤ (1000 : Int) ∧ (↑(0 : Nat) : Int) ≤ n ∧ ∀ (v : Int), v ∈ [] → (1 : Int) ≤ v ∧ v ≤ (↑(x + (1 : Nat)) : Int)) ∧
 (bestR distF (↑(x + (1 : Nat)) : Int) (n.toNat - (0 : Nat)) (nilT Int) = none →
 Fits IntKind.i64 ((↑(x + (1 : Nat)) : Int) + (1 : Int)) ∧
 ∃ (x' : Nat),
 x' + (1 : Nat) ≤ topN n.toNat ∧
 topN n.toNat - x' < topN n.toNat - x ∧
 True ∧
 (↑(x + (1 : Nat)) : Int) + (1 : Int) = (↑(x' + (1 : Nat)) : Int) ∧
 (BestF n).snd = (BestF n).snd ∧ (BestF n).fst = (BestF n).fst ∧ n = n ∧ True) ∧
 ∀ (ys : List Int),
 bestR distF (↑(x + (1 : Nat)) : Int) (n.toNat - (0 : Nat)) (nilT Int) = some ys →
 ys ≠ [] ∧
 ((BestF n).fst.length ≤ (1000 : Nat) ∧ ys.length ≤ (1000 : Nat)) ∧
 (decide ((BestF n).fst = ys) = true →
 decide ((BestF n).fst = ys) = true ∧
 decide ((BestF n).fst = ys) = true ∧
 ((BestF n).snd = (0 : Int) → (BestF n).snd = (0 : Int) ∧ (BestF n).snd = (0 : Int) ∧ (BestF n).snd = (0 : Int) ∧ True ∧ true = true) ∧
 (¬(BestF n).snd = (0 : Int) → ¬(BestF n).snd = (0 : Int) ∧ ¬(BestF n).snd = (0 : Int) ∧ ¬(BestF n).snd = (0 : Int) ∧ false = true)) ∧
 (decide ((BestF n).fst = ys) = false → decide ((BestF n).fst = ys) = false ∧ decide ((BestF n).fst = ys) = false ∧ false = true))) ∧
 (¬(1 : Int) ≤ n →
 ¬(1 : Int) ≤ n ∧
 ¬(1 : Int) ≤ n ∧
 ((↑(BestF n).fst.length : Int) = (0 : Int) →
 (↑(BestF n).fst.length : Int) = (0 : Int) ∧
 (↑(BestF n).fst.length : Int) = (0 : Int) ∧
 ((BestF n).snd = (1 : Int) → (BestF n).snd = (1 : Int) ∧ (BestF n).snd = (1 : Int) ∧ (BestF n).snd = (1 : Int) ∧ True ∧ true = true) ∧
 (¬(BestF n).snd = (1 : Int) → ¬(BestF n).snd = (1 : Int) ∧ ¬(BestF n).snd = (1 : Int) ∧ ¬(BestF n).snd = (1 : Int) ∧ false = true)) ∧
 (¬(↑(BestF n).fst.length : Int) = (0 : Int) → ¬(↑(BestF n).fst.length : Int) = (0 : Int) ∧ ¬(↑(BestF n).fst.length : Int) = (0 : Int) ∧ false = true))) := by
 kernel_rfl

theorem g14_eq (n : Int) : g14 n = (
 Fits IntKind.i64 n ∧
 ((0 : Int) ≤ n ∧ (0 : Int) < (5 : Int)) ∧
 Fits IntKind.i64 (n % (5 : Int) + (1 : Int)) ∧
 True ∧
 (BestF (n % (5 : Int) + (1 : Int))).fst.length ≤ (1000 : Nat) ∧
 ((BestF (n % (5 : Int) + (1 : Int))).snd = (0 : Int) →
 (BestF (n % (5 : Int) + (1 : Int))).snd = (0 : Int) ∧
 (BestF (n % (5 : Int) + (1 : Int))).snd = (0 : Int) ∧
 ((distinctF (BestF (n % (5 : Int) + (1 : Int))).fst).snd = (0 : Int) →
 (distinctF (BestF (n % (5 : Int) + (1 : Int))).fst).snd = (0 : Int) ∧
 (distinctF (BestF (n % (5 : Int) + (1 : Int))).fst).snd = (0 : Int) ∧
 (distinctF (BestF (n % (5 : Int) + (1 : Int))).fst).snd = (0 : Int) ∧
 ((distinctF (BestF (n % (5 : Int) + (1 : Int))).fst).fst = true →
 (distinctF (BestF (n % (5 : Int) + (1 : Int))).fst).fst = true ∧
 (distinctF (BestF (n % (5 : Int) + (1 : Int))).fst).fst = true ∧
 (distinctF (BestF (n % (5 : Int) + (1 : Int))).fst).fst = true ∧
 (distinctF (BestF (n % (5 : Int) + (1 : Int))).fst).fst = true ∧
 (distinctF (BestF (n % (5 : Int) + (1 : Int))).fst).fst = true ∧
 ((↑(BestF (n % (5 : Int) + (1 : Int))).fst.length : Int) = n % (5 : Int) + (1 : Int) →
 (↑(BestF (n % (5 : Int) + (1 : Int))).fst.length : Int) = n % (5 : Int) + (1 : Int) ∧
 (↑(BestF (n % (5 : Int) + (1 : Int))).fst.length : Int) = n % (5 : Int) + (1 : Int) ∧
 (↑(BestF (n % (5 : Int) + (1 : Int))).fst.length : Int) = n % (5 : Int) + (1 : Int) ∧
 Fits IntKind.i64 (n % (5 : Int) + (1 : Int) - (1 : Int)) ∧
 ((0 : Int) ≤ n % (5 : Int) + (1 : Int) - (1 : Int) ∧
 n % (5 : Int) + (1 : Int) - (1 : Int) < (↑(BestF (n % (5 : Int) + (1 : Int))).fst.length : Int)) ∧
 Fits IntKind.i64 (n % (5 : Int) + (1 : Int) - (1 : Int)) ∧
 ((0 : Int) ≤ n % (5 : Int) + (1 : Int) - (1 : Int) ∧
 n % (5 : Int) + (1 : Int) - (1 : Int) <
 (↑((0 : Nat) + (1 : Nat) + (1 : Nat) + (1 : Nat) + (1 : Nat) + (1 : Nat)) : Int)) ∧
 ((BestF (n % (5 : Int) + (1 : Int))).fst.getD (n % (5 : Int) + (1 : Int) - (1 : Int)).toNat (0 : Int) =
 [(1 : Int), (2 : Int), (4 : Int), (7 : Int), (13 : Int)].getD (n % (5 : Int) + (1 : Int) - (1 : Int)).toNat
 (0 : Int) →
 (BestF (n % (5 : Int) + (1 : Int))).fst.getD (n % (5 : Int) + (1 : Int) - (1 : Int)).toNat (0 : Int) =
 [(1 : Int), (2 : Int), (4 : Int), (7 : Int), (13 : Int)].getD (n % (5 : Int) + (1 : Int) - (1 : Int)).toNat
 (0 : Int) ∧
 (BestF (n % (5 : Int) + (1 : Int))).fst.getD (n % (5 : Int) + (1 : Int) - (1 : Int)).toNat (0 : Int) =
 [(1 : Int), (2 : Int), (4 : Int), (7 : Int), (13 : Int)].getD (n % (5 : Int) + (1 : Int) - (1 : Int)).toNat
 (0 : Int) ∧
 (BestF (n % (5 : Int) + (1 : Int))).fst.getD (n % (5 : Int) + (1 : Int) - (1 : Int)).toNat (0 : Int) =
 [(1 : Int), (2 : Int), (4 : Int), (7 : Int), (13 : Int)].getD (n % (5 : Int) + (1 : Int) - (1 : Int)).toNat
 (0 : Int) ∧
 True ∧ true = true) ∧
 (¬(BestF (n % (5 : Int) + (1 : Int))).fst.getD (n % (5 : Int) + (1 : Int) - (1 : Int)).toNat (0 : Int) =
 [(1 : Int), (2 : Int), (4 : Int), (7 : Int), (13 : Int)].getD (n % (5 : Int) + (1 : Int) - (1 : Int)).toNat
 (0 : Int) →
 ¬(BestF (n % (5 : Int) + (1 : Int))).fst.getD (n % (5 : Int) + (1 : Int) - (1 : Int)).toNat (0 : Int) =
 [(1 : Int), (2 : Int), (4 : Int), (7 : Int), (13 : Int)].getD (n % (5 : Int) + (1 : Int) - (1 : Int)).toNat
 (0 : Int) ∧
 ¬(BestF (n % (5 : Int) + (1 : Int))).fst.getD (n % (5 : Int) + (1 : Int) - (1 : Int)).toNat (0 : Int) =
 [(1 : Int), (2 : Int), (4 : Int), (7 : Int), (13 : Int)].getD (n % (5 : Int) + (1 : Int) - (1 : Int)).toNat
 (0 : Int) ∧
 ¬(BestF (n % (5 : Int) + (1 : Int))).fst.getD (n % (5 : Int) + (1 : Int) - (1 : Int)).toNat (0 : Int) =
 [(1 : Int), (2 : Int), (4 : Int), (7 : Int), (13 : Int)].getD
 (n % (5 : Int) + (1 : Int) - (1 : Int)).toNat (0 : Int) ∧
 false = true)) ∧
 (¬(↑(BestF (n % (5 : Int) + (1 : Int))).fst.length : Int) = n % (5 : Int) + (1 : Int) →
 ¬(↑(BestF (n % (5 : Int) + (1 : Int))).fst.length : Int) = n % (5 : Int) + (1 : Int) ∧
 ¬(↑(BestF (n % (5 : Int) + (1 : Int))).fst.length : Int) = n % (5 : Int) + (1 : Int) ∧
 ¬(↑(BestF (n % (5 : Int) + (1 : Int))).fst.length : Int) = n % (5 : Int) + (1 : Int) ∧ false = true)) ∧
 ((distinctF (BestF (n % (5 : Int) + (1 : Int))).fst).fst = false →
 (distinctF (BestF (n % (5 : Int) + (1 : Int))).fst).fst = false ∧
 (distinctF (BestF (n % (5 : Int) + (1 : Int))).fst).fst = false ∧
 (distinctF (BestF (n % (5 : Int) + (1 : Int))).fst).fst = false ∧
 (distinctF (BestF (n % (5 : Int) + (1 : Int))).fst).fst = false ∧
 (distinctF (BestF (n % (5 : Int) + (1 : Int))).fst).fst = false ∧ false = true)) ∧
 (¬(distinctF (BestF (n % (5 : Int) + (1 : Int))).fst).snd = (0 : Int) →
 ¬(distinctF (BestF (n % (5 : Int) + (1 : Int))).fst).snd = (0 : Int) ∧
 ¬(distinctF (BestF (n % (5 : Int) + (1 : Int))).fst).snd = (0 : Int) ∧
 ¬(distinctF (BestF (n % (5 : Int) + (1 : Int))).fst).snd = (0 : Int) ∧ false = true)) ∧
 (¬(BestF (n % (5 : Int) + (1 : Int))).snd = (0 : Int) →
 ¬(BestF (n % (5 : Int) + (1 : Int))).snd = (0 : Int) ∧ ¬(BestF (n % (5 : Int) + (1 : Int))).snd = (0 : Int) ∧ false = true)) := by
 kernel_rfl

end Go.SX.We

/- Chapter 08: Best, proved. -/
namespace Go.SX.We
open Go Go.Proofs

/-! ### first, over the sets of lesser weights -/
theorem i63_ok : i63.OK Try.prog := inl_ok (cx_ok (cs := [p41.ci]) ⟨PC.OK.ci c41_ok, trivial⟩ _) (by kernel_rfl) (by kernel_rfl) (by kernel_rfl)
theorem ris_len {N : Nat} {t : List Int} (h : Ris 0 N t) : t.length ≤ N := h.short
theorem g48B_ok (x : X48) (hx : (c48V FB).Pre x) : g48B (callM Try.prog) x := by
  obtain ⟨hl, hw, hm0, hm1⟩ := hx
  refine (g48B_eq _ x).mpr ?_
  simp only [pp1, eq_self, and_true, true_and, and_self, nilT, Int.toNat_natCast]
  refine ⟨rfl, fun pre s r hs => ⟨⟨0, by omega, rfl, rfl⟩, fun k hk => ⟨fun h1 => ?_, fun h1 => ?_⟩⟩, fun E hg he hM => ⟨P66_mk hM he (by omega) (fun v h => by have := hw v h; omega), by rw [hg]⟩, fun hf => ?_, fun hf => ?_⟩
  · have hmem : s ∈ subsF x.w := by rw [hs]; simp
    have hr := (mem_subsF.1 hmem).1
    have hsl := ris_len hr
    have hk' : k < s.1.length := by omega
    have hv := Ris.lo hr _ (getD_mem s.1 0 hk')
    refine ⟨by omega, fi (by omega) (by omega), by unfold Small; simp; omega, fi (by omega) (by omega), k + 1, by omega, by omega, ?_, by omega⟩
    have e : s.1.take (k + 1) = s.1.take k ++ [s.1.getD k 0] := by rw [List.take_add_one, List.getElem?_eq_getElem hk']; simp [List.getD, List.getElem?_eq_getElem hk']
    rw [e, List.map_append]; rfl
  · have ek : k = s.1.length := by omega
    subst ek
    rw [List.take_length]
    have hmem : s ∈ subsF x.w := by rw [hs]; simp
    have hr := (mem_subsF.1 hmem).1
    have hsl := ris_len hr
    have eo : List.map (fun x => x + 1) s.1 ++ [x.most] = outB x.most s.1 := rfl
    rw [eo, outP_snoc, lastS_snoc]
    have hol : (outB x.most s.1).length = s.1.length + 1 := by simp [outB]
    refine ⟨by unfold Small; simp; omega, fun h2 => ⟨⟨by omega, fun v hv => ?_⟩, fun h3 => ⟨?_, rfl, rfl, rfl⟩, fun h3 => ⟨?_, rfl⟩⟩, fun h2 => ⟨?_, rfl⟩⟩
    · unfold outB at hv
      rcases List.mem_append.1 hv with h | h
      · obtain ⟨u, hu, rfl⟩ := List.mem_map.1 h
        have := Ris.lo hr u hu
        omega
      · have : v = x.most := by simpa using h
        omega
    · unfold goN goodB; rw [decide_eq_true h2, h3]; rfl
    · unfold goN goodB; rw [decide_eq_true h2, h3]; rfl
    · unfold goN goodB; rw [decide_eq_false h2]; rfl
  · have e : (fedB x).1 = true := hf
    unfold FB
    rw [e]
    exact ⟨⟨⟨rfl, rfl⟩, rfl⟩, rfl⟩
  · have e : (fedB x).1 = false := hf
    unfold FB
    rw [e]
    exact ⟨⟨⟨rfl, rfl⟩, rfl⟩, rfl⟩
theorem h48 : HeapOK Try.prog (c48V FB) :=
  heap_flat (c := c48V FB) (fn := Try.f48) (by kernel_rfl) (by kernel_rfl) (by kernel_rfl) (fun _ => ⟨trivial, trivial, trivial, trivial, trivial⟩) (C48B (callM Try.prog))
    (fun _ => cr_ok (cs := [i63, (c66 (callM Try.prog)).ci pick66]) ⟨i63_ok, i66_ok, trivial⟩ _ _) (fun x hx => g48B_ok x hx)
theorem pick48_ok : ∀ args H K, pick48 args H K → ∃ x js, K x js := by
  intro args H K h
  unfold pick48 at h
  split at h
  · split at h
    · exact ⟨_, _, h⟩
    · exact h.elim
  · exact h.elim
theorem i48_ok : ((c48V FB).ci pick48).OK Try.prog := h48.ci (fun _ => ⟨trivial, trivial, trivial, trivial, trivial⟩) pick48_ok
theorem i42f_ok : i42f.OK Try.prog := i42_ok

/-! ### Best -/
theorem lesser_len (k : Nat) : (lesserL k).length = k := by simp [lesserL]
theorem lesser_mem {k : Nat} {v : Int} (h : v ∈ lesserL k) : 1 ≤ v ∧ v ≤ (k : Int) := by
  unfold lesserL at h
  obtain ⟨i, hi, rfl⟩ := List.mem_map.1 h
  have := List.mem_range.1 hi
  omega
theorem lesser_set {k j : Nat} (h : j < k) : (lesserL j ++ List.replicate (k - j) 0).set j ((j : Int) + 1) = lesserL (j + 1) ++ List.replicate (k - (j + 1)) 0 := by
  have e : lesserL (j + 1) = lesserL j ++ [(j : Int) + 1] := by unfold lesserL; rw [List.range_succ, List.map_append]; rfl
  rw [e, List.set_append_right _ _ (by rw [lesser_len]; omega), lesser_len, Nat.sub_self, show k - j = (k - (j + 1)) + 1 by omega, List.replicate_succ, List.set_cons_zero, List.append_assoc]
  rfl
theorem fb_none {n : Int} {k : Nat} (h : bestAt n k = none) : (FB ⟨lesserL k, n, ((k + 1 : Nat) : Int)⟩).2.1 = false := by
  have hf : (subsF (lesserL k)).find? (goodB n ((k + 1 : Nat) : Int)) = none := by
    unfold bestAt at h
    simpa using h
  have e : fedB ⟨lesserL k, n, ((k + 1 : Nat) : Int)⟩ = (true, [] ++ subsF (lesserL k)) := feed_none _ hf []
  show (!(fedB ⟨lesserL k, n, ((k + 1 : Nat) : Int)⟩).1) = false
  rw [e]; rfl
theorem fb_some {n : Int} {k : Nat} {l : List Int} (h : bestAt n k = some l) : (FB ⟨lesserL k, n, ((k + 1 : Nat) : Int)⟩).2.1 = true ∧ (FB ⟨lesserL k, n, ((k + 1 : Nat) : Int)⟩).2.2 = l := by
  unfold bestAt at h
  rw [Option.map_eq_some_iff] at h
  obtain ⟨y, hf, hy⟩ := h
  obtain ⟨q, h1, _⟩ := feed_some (good := goodB n ((k + 1 : Nat) : Int)) _ hf []
  have e : fedB ⟨lesserL k, n, ((k + 1 : Nat) : Int)⟩ = (false, q ++ [y]) := h1
  refine ⟨?_, ?_⟩
  · show (!(fedB ⟨lesserL k, n, ((k + 1 : Nat) : Int)⟩).1) = true
    rw [e]; rfl
  · show outP ((k + 1 : Nat) : Int) (fedB ⟨lesserL k, n, ((k + 1 : Nat) : Int)⟩).2 = l
    rw [e]
    show outP ((k + 1 : Nat) : Int) (q ++ [y]) = l
    rw [outP_snoc, ← hy]; rfl
theorem topN_small : ∀ n : Nat, n < 6 → 0 < n → 1 ≤ topN n ∧ topN n ≤ 13 := by decide +kernel
theorem best_in {N : Nat} (h1 : 1 ≤ N) (h5 : N ≤ 5) : BestF (N : Int) = (bestL N, 0) := by
  unfold BestF
  rw [decide_eq_true (show (1 : Int) ≤ (N : Int) by omega), decide_eq_true (show (N : Int) ≤ 5 by omega), Int.toNat_natCast]; rfl
theorem ok38 : p38.OK Try.prog := p38.ok (fn := Try.f38) (C38 FB) (fun _ => ctxS_ok mixed (chkAll_ok tbl_ok) (cs := [i42f, (c48V FB).ci pick48]) ⟨i42f_ok, i48_ok, trivial⟩ _) (by kernel_rfl) (by kernel_rfl) (by kernel_rfl) fun p _ => by
  have key : ∀ n : Int, g38 FB n := fun n => by
    refine (g38_eq FB n).mpr ?_
    simp only [pp1, eq_self, and_true, true_and, and_self, nilT, Int.toNat_natCast]
    refine ⟨fun h => ?_, fun h1 => ⟨fun h => ?_, fun h5 => ?_⟩⟩
    · unfold BestF; rw [decide_eq_false (show ¬ 1 ≤ n by omega)]; rfl
    · unfold BestF; rw [decide_eq_false (show ¬ n ≤ 5 by omega), Bool.and_false]; rfl
    obtain ⟨N, rfl⟩ : ∃ N : Nat, n = (N : Int) := ⟨n.toNat, by omega⟩
    rw [Int.toNat_natCast, best_in (by omega) (by omega)]
    obtain ⟨t1, t13⟩ := topN_small N (by omega) (by omega)
    refine ⟨⟨0, by omega, rfl⟩, fun k hk => ?_⟩
    have e1 : (((k + 1 : Nat) : Int) - 1).toNat = k := by omega
    simp only [e1, List.length_replicate]
    refine ⟨fi (by omega) (by omega), ⟨by omega, by omega, by unfold Small; omega⟩, ⟨0, by omega, rfl, rfl⟩, fun j hj => ⟨fun h => ?_, fun h => ?_⟩⟩
    · have hj : j < k := by omega
      exact ⟨fi (by omega) (by omega), ⟨by omega, by rw [List.length_append, lesser_len, List.length_replicate]; omega⟩, fi (by omega) (by omega), j + 1, by omega, by omega, lesser_set hj, by omega⟩
    · have ej : j = k := by omega
      subst ej
      rw [Nat.sub_self, List.replicate_zero, List.append_nil, lesser_len]
      refine ⟨⟨by omega, fun v hv => by have := lesser_mem hv; omega, by omega, by omega⟩, fun hf => ?_, fun hf => ?_⟩
      · by_cases hlt : j < topN N - 1
        · have hb : bestAt (N : Int) j = none := by rw [bestAt_eq]; exact best_none N (by omega) (by omega) j hlt
          rw [fb_none hb] at hf; cases hf
        · have ej : j = topN N - 1 := by omega
          have hb : bestAt (N : Int) j = some (bestL N) := by rw [bestAt_eq, ej]; exact best_some N (by omega) (by omega)
          rw [(fb_some hb).2]
      · by_cases hlt : j < topN N - 1
        · exact ⟨fi (by omega) (by omega), j + 1, by omega, by omega, by omega⟩
        · have ej : j = topN N - 1 := by omega
          have hb : bestAt (N : Int) j = some (bestL N) := by rw [bestAt_eq, ej]; exact best_some N (by omega) (by omega)
          rw [(fb_some hb).1] at hf; cases hf
  exact key p

theorem ok14 : p14.OK Try.prog := p14.ok (fn := Try.f14) (fun _ => cx [p38.ci, p16.ci, p19.ci] []) (fun _ => cx_ok (cs := [p38.ci, p16.ci, p19.ci]) ⟨PC.OK.ci ok38, PC.OK.ci ok16, PC.OK.ci ok19, trivial⟩ _) (by kernel_rfl) (by kernel_rfl) (by kernel_rfl) fun p hp => by
  have key : ∀ n : Int, 0 ≤ n → n ≤ 255 → g14 n := fun n h0 h1 => by
    refine (g14_eq n).mpr ?_
    simp only [pp1, eq_self, and_true, true_and, and_self]
    obtain ⟨N, hN⟩ : ∃ N : Nat, n % 5 + 1 = (N : Int) := ⟨(n % 5 + 1).toNat, by omega⟩
    rw [hN]
    have hN1 : 1 ≤ N := by omega
    have hN5 : N ≤ 5 := by omega
    obtain ⟨c1, c2, c3, c4, c5⟩ := bestL_facts N (by omega) (by omega)
    have hw := check_ok.1 c1
    have hd := dist_bm c2
    have eD : distinctF (bestL N) = (true, 0) := by unfold distinctF; rw [decide_eq_true c1, hd]; rfl
    have e1 : ((N : Int) - 1).toNat = N - 1 := by omega
    rw [best_in hN1 hN5]
    simp only [eD, c3, e1, c4, c5]
    have hf1 : Fits .i64 ((N : Int) - 1) := fi (by omega) (by omega)
    refine ⟨fi (by omega) (by omega), by omega, fi (by omega) (by omega), by omega, ?_⟩
    simp [hf1]
    omega
  exact key p hp.1 hp.2

/-! ### The reference's -/
theorem ok39 : NilOK Try.prog n39 := n39.rec_ok (fn := Try.f39) m39 C39 (fun p h => cx_ok (cs := [p36.ci, NC.ci (n39.below m39 (m39 p))]) ⟨PC.OK.ci ok36, NilOK.ci h, trivial⟩ _) (by kernel_rfl) (by kernel_rfl) (by kernel_rfl) fun p hp => by
  have key : ∀ (n top : Int) (l : List Int), 1 ≤ n → n ≤ 5 → 1 ≤ top → top ≤ 1000 → (l.length : Int) ≤ n → (∀ v ∈ l, 1 ≤ v ∧ v ≤ top) → g39 n top l := fun n top l hn1 hn5 ht1 ht hl hv => by
    refine (g39_eq n top l).mpr ?_
    simp only [pp1, eq_self, and_true, true_and, and_self, Int.toNat_natCast]
    have hp36 : l.length ≤ 12 ∧ ∀ v ∈ l, 1 ≤ v ∧ v ≤ 1000000 := ⟨by omega, fun v h => by have := hv v h; omega⟩
    have bad : ∀ f, 0 < l.length → (!distF l) = true → bestR distF top f l = none := fun f h1 h2 => by
      cases f with
      | zero => unfold bestR; rw [decide_eq_true h1, h2]; rfl
      | succ f => unfold bestR; rw [decide_eq_true h1, h2]; rfl
    by_cases hln : (l.length : Int) = n
    · have hG : n.toNat - l.length = 0 := by omega
      have h0 : 0 < l.length := by omega
      rw [hG]
      refine ⟨fun _ => ⟨hp36, fun h => bad 0 h0 h, fun h => ⟨fun _ => ?_, fun h => absurd hln h⟩⟩, fun h => absurd (by omega) h⟩
      unfold bestR
      rw [h, Bool.and_false]; rfl
    · obtain ⟨f, hG⟩ : ∃ f, n.toNat - l.length = f + 1 := ⟨n.toNat - l.length - 1, by omega⟩
      rw [hG]
      simp only [Nat.add_sub_cancel]
      have good : ¬ (0 < l.length ∧ (!distF l) = true) → bestR distF top (f + 1) l = altB (fun w => bestR distF top f (l ++ [w])) top (top - fromB top f l + 1).toNat := fun h => by
        have hb : (decide (0 < l.length) && !(distF l)) = false := by
          cases hd : decide (0 < l.length) with
          | false => rfl
          | true =>
            cases hq : (!distF l) with
            | false => rfl
            | true => exact absurd ⟨of_decide_eq_true hd, hq⟩ h
        conv => lhs; unfold bestR
        rw [hb]; rfl
      have hfrom := fromB_pos ht1 (f := f) (fun v h => (hv v h).1)
      have hfrom2 : fromB top f l ≤ top + 1 := by
        have h1 : (bif decide (0 < l.length) then l.getD (l.length - 1) 0 + 1 else 1) ≤ top + 1 := by
          by_cases hlz : 0 < l.length
          · rw [decide_eq_true hlz]
            have := hv _ (getD_mem l 0 (k := l.length - 1) (by omega))
            simp only [cond_true]; omega
          · rw [decide_eq_false hlz]; simp only [cond_false]; omega
        unfold fromB
        cases decide (f = 0)
        · exact h1
        · simp only [cond_true]; omega
      have loop : ¬ (0 < l.length ∧ (!distF l) = true) → ∀ q : Int, q = fromB top f l → (∃ x0 : Nat, ((x0 : Int) ≤ top ∧ bestR distF top (f + 1) l = altB (fun w => bestR distF top f (l ++ [w])) top x0) ∧ q = top + 1 - (x0 : Int)) ∧
          ∀ x : Nat, (x : Int) ≤ top ∧ bestR distF top (f + 1) l = altB (fun w => bestR distF top f (l ++ [w])) top x →
            (top + 1 - (x : Int) ≤ top → Small (0 + l.length) ∧ Small (l.length + (0 + 1)) ∧
              ((1 ≤ n ∧ n ≤ 5 ∧ 1 ≤ top ∧ top ≤ 1000 ∧ ((l ++ [top + 1 - (x : Int)]).length : Int) ≤ n ∧ ∀ v : Int, v ∈ l ++ [top + 1 - (x : Int)] → 1 ≤ v ∧ v ≤ top) ∧ m39 (n, top, l ++ [top + 1 - (x : Int)]) < m39 (n, top, l)) ∧
              (bestR distF top (n.toNat - (l ++ [top + 1 - (x : Int)]).length) (l ++ [top + 1 - (x : Int)]) = none → Fits .i64 (top + 1 - (x : Int) + 1) ∧ ∃ x' : Nat, ((x' : Int) ≤ top ∧ bestR distF top (f + 1) l = altB (fun w => bestR distF top f (l ++ [w])) top x') ∧ x' < x ∧ top + 1 - (x : Int) + 1 = top + 1 - (x' : Int)) ∧
              ∀ ys : List Int, bestR distF top (n.toNat - (l ++ [top + 1 - (x : Int)]).length) (l ++ [top + 1 - (x : Int)]) = some ys → ys ≠ [] ∧ bestR distF top (f + 1) l = some ys) ∧
            (¬ top + 1 - (x : Int) ≤ top → bestR distF top (f + 1) l = none) := fun hok q hq => by
        refine ⟨⟨(top - fromB top f l + 1).toNat, ⟨by omega, good hok⟩, by omega⟩, fun x ⟨hx, he⟩ => ⟨fun h1 => ?_, fun h1 => ?_⟩⟩
        · obtain ⟨c, rfl⟩ : ∃ c, x = c + 1 := ⟨x - 1, by omega⟩
          have ew : top + 1 - ((c + 1 : Nat) : Int) = top - (c : Int) := by omega
          rw [ew]
          have hlen : n.toNat - (l ++ [top - (c : Int)]).length = f := by simp; omega
          rw [hlen]
          rw [altB] at he
          refine ⟨by unfold Small; omega, by unfold Small; omega, ⟨⟨hn1, hn5, ht1, ht, by simp; omega, fun v h => ?_⟩, ?_⟩, fun h2 => ⟨fi (by omega) (by omega), c, ⟨by omega, ?_⟩, by omega, by omega⟩, fun ys h2 => ⟨fun e => ?_, ?_⟩⟩
          · rcases List.mem_append.1 h with h | h
            · exact hv v h
            · have : v = top - (c : Int) := by simpa using h
              omega
          · show n.toNat - (l ++ [top - (c : Int)]).length < n.toNat - l.length
            rw [hlen, hG]; omega
          · rw [he, h2]; rfl
          · have := bestR_length _ _ _ h2
            rw [e] at this
            simp at this
            omega
          · rw [he, h2]; rfl
        · have : x = 0 := by omega
          subst this
          exact he
      have hf0 : (l.length : Int) = n - 1 ↔ f = 0 := by omega
      have eL : 0 < l.length → l.getD ((l.length : Int) - 1).toNat 0 = l.getD (l.length - 1) 0 := fun h => by rw [show ((l.length : Int) - 1).toNat = l.length - 1 by omega]
      have body : ¬ (0 < l.length ∧ (!distF l) = true) → ((0 : Int) < (l.length : Int) → l.getD ((l.length : Int) - 1).toNat 0 + 1 ≤ top + 1 ∧ 1 ≤ l.getD ((l.length : Int) - 1).toNat 0 + 1) := fun _ h => by
        rw [eL (by omega)]
        have := hv _ (getD_mem l 0 (k := l.length - 1) (by omega))
        omega
      have q1 : 0 < l.length → f = 0 → max (l.getD ((l.length : Int) - 1).toNat 0 + 1) top = fromB top f l := fun h1 h2 => by
        unfold fromB; rw [eL h1, decide_eq_true h1, decide_eq_true h2]; rfl
      have q2 : 0 < l.length → ¬ f = 0 → l.getD ((l.length : Int) - 1).toNat 0 + 1 = fromB top f l := fun h1 h2 => by
        unfold fromB; rw [eL h1, decide_eq_true h1, decide_eq_false h2]; rfl
      have q3 : ¬ 0 < l.length → f = 0 → max 1 top = fromB top f l := fun h1 h2 => by
        unfold fromB; rw [decide_eq_false h1, decide_eq_true h2]; rfl
      have q4 : ¬ 0 < l.length → ¬ f = 0 → 1 = fromB top f l := fun h1 h2 => by
        unfold fromB; rw [decide_eq_false h1, decide_eq_false h2]; rfl
      have rest : ¬ (0 < l.length ∧ (!distF l) = true) → True := fun _ => trivial
      refine ⟨fun h0 => ⟨hp36, fun h => bad _ (by omega) h, fun h => ⟨fun h2 => absurd h2 hln, fun _ => ⟨fun h3 => ?_, fun h3 => absurd h0 h3⟩⟩⟩, fun h0 => ⟨fun h2 => absurd h2 hln, fun _ => ⟨fun h3 => absurd h3 h0, fun h3 => ?_⟩⟩⟩
      · have hok : ¬ (0 < l.length ∧ (!distF l) = true) := fun h4 => by rw [h] at h4; cases h4.2
        have hb := body hok h3
        exact ⟨fi (by omega) (by omega), by omega, fi (by omega) (by omega), fi (by omega) (by omega), fun h5 => loop hok _ (q1 (by omega) (hf0.1 h5)), fun h5 => loop hok _ (q2 (by omega) (fun e => h5 (hf0.2 e)))⟩
      · have hok : ¬ (0 < l.length ∧ (!distF l) = true) := fun h4 => h3 (by omega)
        exact ⟨fi (by omega) (by omega), fun h5 => loop hok _ (q3 (by omega) (hf0.1 h5)), fun h5 => loop hok _ (q4 (by omega) (fun e => h5 (hf0.2 e)))⟩
  exact key p.1 p.2.1 p.2.2 hp.1 hp.2.1 hp.2.2.1 hp.2.2.2.1 hp.2.2.2.2.1 hp.2.2.2.2.2

theorem ok13 : p13.OK Try.prog := p13.ok (fn := Try.f13) C13 (fun _ => cx_ok (cs := [p38.ci, i29, n39.ci, p21.ci, p19.ci]) ⟨PC.OK.ci ok38, i29_ok, NilOK.ci ok39, PC.OK.ci ok21, PC.OK.ci ok19, trivial⟩ _) (by kernel_rfl) (by kernel_rfl) (by kernel_rfl) fun p _ => by
  have key : ∀ n : Int, g13 n := fun n => by
    refine (g13_eq n).mpr ?_
    simp only [pp1, eq_self, and_true, true_and, and_self, nilT, Int.toNat_natCast, same_def]
    by_cases hin : 1 ≤ n ∧ n ≤ 5
    · obtain ⟨N, rfl⟩ : ∃ N : Nat, n = (N : Int) := ⟨n.toNat, by omega⟩
      have hN1 : 1 ≤ N := by omega
      have hN5 : N ≤ 5 := by omega
      obtain ⟨t1, t13⟩ := topN_small N (by omega) (by omega)
      obtain ⟨c1, c2, c3, c4, c5⟩ := bestL_facts N (by omega) (by omega)
      rw [Int.toNat_natCast, best_in hN1 hN5]
      refine ⟨fun _ => ⟨fun h => absurd hin.2 h, fun _ => ⟨⟨0, by omega, rfl⟩, fun k hk => ?_⟩⟩, fun h => absurd hin.1 h⟩
      have eR : bestR distF ((k + 1 : Nat) : Int) N [] = bestR bmOk ((k + 1 : Nat) : Int) N [] := bestR_congr (by omega) N [] (fun v h => by cases h)
      rw [Nat.sub_zero, eR]
      have hlt : k < topN N - 1 ∨ k = topN N - 1 := by omega
      refine ⟨⟨hin.1, hin.2, by omega, by omega, by omega, fun v h => by cases h⟩, fun hr => ?_, fun ys hr => ?_⟩
      · rcases hlt with h | h
        · exact ⟨fi (by omega) (by omega), k + 1, by omega, by omega, by omega⟩
        · have := refB_some N (by omega) (by omega)
          rw [show topN N = k + 1 by omega, hr] at this; cases this
      · rcases hlt with h | h
        · have := refB_none N (by omega) (by omega) k h
          rw [hr] at this; cases this
        · have := refB_some N (by omega) (by omega)
          rw [show topN N = k + 1 by omega, hr] at this
          have e : ys = bestL N := Option.some.inj this
          subst e
          have hs : sameF (bestL N) (bestL N) = true := decide_eq_true rfl
          have hne : bestL N ≠ [] := fun e => by rw [e] at c3; simp at c3; omega
          refine ⟨hne, ⟨by show (bestL N).length ≤ 1000; omega, by omega⟩, ?_⟩
          rw [hs]; simp
    · have e : BestF n = ([], 1) := by
        unfold BestF
        by_cases h : 1 ≤ n
        · rw [decide_eq_false (show ¬ n ≤ 5 by omega), Bool.and_false]; rfl
        · rw [decide_eq_false h]; rfl
      rw [e]
      refine ⟨fun h => ⟨fun h2 => by simp, fun h2 => absurd ⟨h, Classical.not_not.1 h2⟩ hin⟩, fun h => by simp⟩
  exact key p
end Go.SX.We
