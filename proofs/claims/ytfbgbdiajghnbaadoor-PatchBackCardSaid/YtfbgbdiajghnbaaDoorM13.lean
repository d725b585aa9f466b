/- Parts of the proof, one after the other: PaS Pa20 Pa20E Pa20Q Pa21 Pa21E Pa21Q. -/
import Derived.Test.YtfbgbdiajghnbaaDoorM4
/- Chapter 06, plain: an exchange that is asked for lines one after the other. -/
namespace Go.SX.Pa
open Go
/-- A line: in, (out, middle). -/
abbrev Lk := Int × Int × Int
/-- The first place of b. -/
def idxB (l : List Bool) (b : Bool) : Int := if l.findIdx (fun x => x == b) < l.length then (l.findIdx (fun x => x == b) : Nat) else -1
def meets (c : Int × Int) (l : Lk) : Bool := decide (l.1 = c.1) || decide (l.2.1 = c.2)
def nearL (n : Int) (c : Int × Int) (l : Lk) : Bool := decide (l.1 / n = c.1 / n) || decide (l.2.1 / n = c.2 / n)
/-- The middles that the lines near c hold. -/
def markS (n : Int) (m : Nat) (c : Int × Int) (es : List Lk) : List Bool := (List.range m).map fun a => es.any fun l => nearL n c l && decide (l.2.2.toNat = a)
def connF (n m : Int) (es : List Lk) (c : Int × Int) : Int × List Lk :=
  if es.any (meets c) = true then (-2, es) else
    (idxB (markS n m.toNat c es) false, if 0 ≤ idxB (markS n m.toNat c es) false then insF es c.1 (c.2, idxB (markS n m.toNat c es) false) else es)
def hangF (es : List Lk) (c : Int × Int) : Int × List Lk :=
  match lookF es c.1 with
  | none => (-2, es)
  | some l => (l.2, delF es c.1)
def stepL (n m : Int) (es : List Lk) (c : Int × Int) : Int × List Lk := if 0 ≤ c.2 then connF n m es c else hangF es c
def linesTo (n m : Int) (cs : List (Int × Int)) : Nat → List Lk
  | 0 => []
  | i + 1 => (stepL n m (linesTo n m cs i) (cs.getD i (0, 0))).2
def ansTo (n m : Int) (cs : List (Int × Int)) : Nat → List Int
  | 0 => []
  | i + 1 => ansTo n m cs i ++ [(stepL n m (linesTo n m cs i) (cs.getD i (0, 0))).1]
def badEv (n r : Int) (c : Int × Int) : Bool := decide (c.1 < 0) || decide (n * r ≤ max c.1 c.2) || decide (c.2 < -1)
def serveF (n r m : Int) (cs : List (Int × Int)) : List Int × Int :=
  if 100 < cs.length then ([], 3) else if ¬ ClosP n r m then ([], 1) else if cs.any (badEv n r) = true then ([], 2) else (ansTo n m cs cs.length, 0)

/-! ### What holds of the lines -/
structure LinesOK (N m : Int) (es : List Lk) : Prop where
  ins : ∀ l ∈ es, 0 ≤ l.1 ∧ l.1 < N
  outs : ∀ l ∈ es, 0 ≤ l.2.1 ∧ l.2.1 < N
  mids : ∀ l ∈ es, 0 ≤ l.2.2 ∧ l.2.2 < m
  nodI : (es.map fun l => l.1).Nodup
  nodO : (es.map fun l => l.2.1).Nodup
theorem LinesOK.nil {N m : Int} : LinesOK N m [] := ⟨by simp, by simp, by simp, by simp, by simp⟩

section
variable {α : Type}
theorem ins_new : {es : List (Int × α)} → {k : Int} → {x : α} → (∀ l ∈ es, l.1 ≠ k) → insF es k x = es ++ [(k, x)]
  | [], _, _, _ => rfl
  | (j, y) :: r, k, x, h => by
    unfold insF
    rw [if_neg (h (j, y) (by simp)), ins_new fun l hl => h l (List.mem_cons_of_mem _ hl)]
    rfl
theorem look_none : {es : List (Int × α)} → {k : Int} → lookF es k = none ↔ ∀ l ∈ es, l.1 ≠ k
  | [], _ => by simp [lookF]
  | (j, y) :: r, k => by
    unfold lookF
    split
    · rename_i h; simp [h]
    · rename_i h
      rw [look_none]
      simp [h]
theorem look_some : {es : List (Int × α)} → {k : Int} → {x : α} → lookF es k = some x → (k, x) ∈ es
  | [], _, _, h => by cases h
  | (j, y) :: r, k, x, h => by
    unfold lookF at h
    split at h
    · rename_i e; subst e; simp only [Option.some.injEq] at h; subst h; simp
    · exact List.mem_cons_of_mem _ (look_some h)
theorem look_at : {es : List (Int × α)} → {i : Nat} → {k : Int} → {x : α} → (es.map fun l => l.1).Nodup → es[i]? = some (k, x) → lookF es k = some x ∧ delF es k = es.take i ++ es.drop (i + 1)
  | [], i, k, x, _, h => by simp at h
  | (j, y) :: r, 0, k, x, _, h => by
    simp at h
    obtain ⟨rfl, rfl⟩ := h
    simp [lookF, delF]
  | (j, y) :: r, i + 1, k, x, hn, h => by
    simp at h hn
    have hne : j ≠ k := by
      rintro rfl
      exact hn.1 x (List.mem_of_getElem? h)
    obtain ⟨q1, q2⟩ := look_at hn.2 h
    unfold lookF delF
    rw [if_neg hne, if_neg hne, q1, q2]
    exact ⟨rfl, rfl⟩
theorem del_sub : (es : List (Int × α)) → (k : Int) → (delF es k).Sublist es
  | [], _ => List.Sublist.slnil
  | (j, y) :: r, k => by
    unfold delF
    split
    · exact List.Sublist.cons _ (List.Sublist.refl _)
    · exact List.Sublist.cons_cons _ (del_sub r k)
end
theorem LinesOK.sub {N m : Int} {es fs : List Lk} (h : LinesOK N m es) (hs : fs.Sublist es) : LinesOK N m fs :=
  ⟨fun l hl => h.ins l (hs.subset hl), fun l hl => h.outs l (hs.subset hl), fun l hl => h.mids l (hs.subset hl), h.nodI.sublist (hs.map _), h.nodO.sublist (hs.map _)⟩
theorem meets_false {c : Int × Int} {es : List Lk} (h : es.any (meets c) = false) : ∀ l ∈ es, l.1 ≠ c.1 ∧ l.2.1 ≠ c.2 := fun l hl => by
  have := List.any_eq_false.1 h l hl
  simp [meets] at this
  exact this
theorem LinesOK.snoc {N m : Int} {es : List Lk} {l : Lk} (h : LinesOK N m es) (h1 : 0 ≤ l.1 ∧ l.1 < N) (h2 : 0 ≤ l.2.1 ∧ l.2.1 < N) (h3 : 0 ≤ l.2.2 ∧ l.2.2 < m) (h4 : ∀ x ∈ es, x.1 ≠ l.1 ∧ x.2.1 ≠ l.2.1) : LinesOK N m (es ++ [l]) := by
  have ap : ∀ {P : Lk → Prop}, (∀ x ∈ es, P x) → P l → ∀ x ∈ es ++ [l], P x := fun ha hb x hx => by
    rcases List.mem_append.1 hx with q | q
    · exact ha x q
    · rw [List.mem_singleton.1 q]; exact hb
  have nd : ∀ (f : Lk → Int), (es.map f).Nodup → (∀ x ∈ es, f x ≠ f l) → ((es ++ [l]).map f).Nodup := fun f ha hb => by
    rw [List.map_append, List.nodup_append]
    refine ⟨ha, by simp, fun a hx b hy => ?_⟩
    rw [List.mem_map] at hx
    obtain ⟨x, hx, rfl⟩ := hx
    simp at hy
    rw [hy]
    exact hb x hx
  exact ⟨ap h.ins h1, ap h.outs h2, ap h.mids h3, nd _ h.nodI fun x hx => (h4 x hx).1, nd _ h.nodO fun x hx => (h4 x hx).2⟩
theorem idxB_ok (l : List Bool) (b : Bool) : (idxB l b = -1 ∧ ∀ i, i < l.length → l.getD i false ≠ b) ∨ ∃ i : Nat, idxB l b = (i : Int) ∧ i < l.length ∧ l.getD i false = b ∧ ∀ j, j < i → l.getD j false ≠ b := by
  unfold idxB
  by_cases h : l.findIdx (fun x => x == b) < l.length
  · rw [if_pos h]
    have h1 := List.findIdx_getElem (w := h)
    refine .inr ⟨_, rfl, h, ?_, fun j hj => ?_⟩
    · rw [List.getD_eq_getElem?_getD, List.getElem?_eq_getElem h]
      simpa using h1
    · have h2 := List.not_of_lt_findIdx hj
      rw [List.getD_eq_getElem?_getD, List.getElem?_eq_getElem (by omega)]
      simpa using h2
  · rw [if_neg h]
    refine .inl ⟨rfl, fun i hi => ?_⟩
    have h2 := List.not_of_lt_findIdx (p := fun x => x == b) (xs := l) (i := i) (by omega)
    rw [List.getD_eq_getElem?_getD, List.getElem?_eq_getElem hi]
    simpa using h2
theorem idxB_at {l : List Bool} {b : Bool} {i : Nat} (h1 : i < l.length) (h2 : l.getD i false = b) (h3 : ∀ j, j < i → l.getD j false ≠ b) : idxB l b = (i : Int) := by
  rcases idxB_ok l b with ⟨_, q⟩ | ⟨j, q1, q2, q3, q4⟩
  · exact absurd h2 (q i h1)
  · rw [q1]
    rcases Nat.lt_trichotomy i j with h | h | h
    · exact absurd h2 (q4 i h)
    · rw [h]
    · exact absurd q3 (h3 j h)
theorem idxB_no {l : List Bool} {b : Bool} (h : ∀ i, i < l.length → l.getD i false ≠ b) : idxB l b = -1 := by
  rcases idxB_ok l b with ⟨q, _⟩ | ⟨j, _, q2, q3, _⟩
  · exact q
  · exact absurd q3 (h j q2)
theorem markS_length (n : Int) (m : Nat) (c : Int × Int) (es : List Lk) : (markS n m c es).length = m := by simp [markS]
theorem markS_get {n : Int} {m : Nat} {c : Int × Int} {es : List Lk} {a : Nat} (h : a < m) (d : Bool) : (markS n m c es).getD a d = es.any fun l => nearL n c l && decide (l.2.2.toNat = a) := by
  unfold markS
  rw [List.getD_eq_getElem?_getD, List.getElem?_map, List.getElem?_range h]
  rfl
theorem markS_nil (n : Int) (m : Nat) (c : Int × Int) : markS n m c [] = List.replicate m false := by
  refine List.ext_getElem (by simp [markS]) fun i h1 h2 => ?_
  simp [markS]
theorem markS_far {n : Int} {m : Nat} {c : Int × Int} {es : List Lk} {l : Lk} (h : nearL n c l = false) : markS n m c (es ++ [l]) = markS n m c es := by
  unfold markS
  refine List.map_congr_left fun a _ => ?_
  rw [List.any_append]
  simp [h]
theorem markS_near {n : Int} {m : Nat} {c : Int × Int} {es : List Lk} {l : Lk} (h : nearL n c l = true) : markS n m c (es ++ [l]) = (markS n m c es).set l.2.2.toNat true := by
  refine List.ext_getElem (by simp [markS]) fun i h1 h2 => ?_
  rw [List.getElem_set]
  simp only [markS, List.getElem_map, List.getElem_range, List.any_append, List.any_cons, List.any_nil, Bool.or_false, h, Bool.true_and]
  split
  · rename_i e
    rw [show decide (l.2.2.toNat = i) = true from decide_eq_true (by omega), Bool.or_true]
  · rename_i e
    rw [show decide (l.2.2.toNat = i) = false from decide_eq_false (by omega), Bool.or_false]
theorem markS_perm {n : Int} {m : Nat} {c : Int × Int} {es fs : List Lk} (h : es.Perm fs) : markS n m c es = markS n m c fs := by
  unfold markS
  refine List.map_congr_left fun a _ => ?_
  rw [Bool.eq_iff_iff, List.any_eq_true, List.any_eq_true]
  exact ⟨fun ⟨x, q1, q2⟩ => ⟨x, h.mem_iff.1 q1, q2⟩, fun ⟨x, q1, q2⟩ => ⟨x, h.mem_iff.2 q1, q2⟩⟩
theorem conn_mid (n m : Int) (es : List Lk) (c : Int × Int) : -1 ≤ idxB (markS n m.toNat c es) false ∧ (idxB (markS n m.toNat c es) false < m ∨ idxB (markS n m.toNat c es) false = -1) := by
  rcases idxB_ok (markS n m.toNat c es) false with ⟨q, _⟩ | ⟨j, q1, q2, _, _⟩
  · omega
  · rw [markS_length] at q2
    omega
theorem conn_ok {N n m : Int} {es : List Lk} {c : Int × Int} (h : LinesOK N m es) (h1 : 0 ≤ c.1 ∧ c.1 < N) (h2 : 0 ≤ c.2 ∧ c.2 < N) : LinesOK N m (connF n m es c).2 := by
  unfold connF
  split
  · exact h
  · rename_i hm
    have hm := meets_false (Bool.eq_false_iff.2 hm)
    simp only
    split
    · rename_i hz
      rw [ins_new fun l hl => (hm l hl).1]
      have := conn_mid n m es c
      exact h.snoc h1 h2 (by simp only; omega) hm
    · exact h
theorem step_ok {N n m : Int} {es : List Lk} {c : Int × Int} (h : LinesOK N m es) (h1 : 0 ≤ c.1 ∧ c.1 < N) (h2 : c.2 < N) : LinesOK N m (stepL n m es c).2 := by
  unfold stepL
  split
  · rename_i h3; exact conn_ok h h1 ⟨h3, h2⟩
  · unfold hangF
    split
    · exact h
    · exact h.sub (del_sub es c.1)
theorem step_len {n m : Int} {es : List Lk} {c : Int × Int} : (stepL n m es c).2.length ≤ es.length + 1 := by
  unfold stepL
  split
  · unfold connF
    split
    · exact Nat.le_succ _
    · rename_i hm
      have hm := meets_false (Bool.eq_false_iff.2 hm)
      simp only
      split
      · rw [ins_new fun l hl => (hm l hl).1]; simp
      · omega
  · unfold hangF
    split
    · exact Nat.le_succ _
    · have := (del_sub es c.1).length_le
      simp only
      omega
theorem lines_ok {N n m : Int} {cs : List (Int × Int)} (h : ∀ c ∈ cs, (0 ≤ c.1 ∧ c.1 < N) ∧ c.2 < N) : (i : Nat) → i ≤ cs.length → LinesOK N m (linesTo n m cs i) ∧ (linesTo n m cs i).length ≤ i
  | 0, _ => ⟨.nil, Nat.le_refl _⟩
  | i + 1, hi => by
    obtain ⟨q1, q2⟩ := lines_ok h i (by omega)
    have hm : cs.getD i (0, 0) ∈ cs := by
      rw [List.getD_eq_getElem?_getD, List.getElem?_eq_getElem (by omega)]
      exact List.getElem_mem _
    obtain ⟨r1, r2⟩ := h _ hm
    refine ⟨step_ok q1 r1 r2, ?_⟩
    have := step_len (n := n) (m := m) (es := linesTo n m cs i) (c := cs.getD i (0, 0))
    show (stepL n m (linesTo n m cs i) (cs.getD i (0, 0))).2.length ≤ i + 1
    omega
theorem ansTo_length (n m : Int) (cs : List (Int × Int)) : (i : Nat) → (ansTo n m cs i).length = i
  | 0 => rfl
  | i + 1 => by unfold ansTo; rw [List.length_append, ansTo_length n m cs i]; rfl
end Go.SX.Pa

/- Chapter 06, part 20: the exchange: connect, serve, Serve, and the book's own. -/
namespace Go.SX.Pa
open Go Go.Proofs
def ti99 : TI := ⟨1, 8, [.map none], .map 3 118, none, false, false⟩
def ti101 : TI := ⟨4, 32, [.int .i64 0, .int .i64 0, .int .i64 0, .map none], .struct [(0, 81), (3, 99)], none, false, false⟩
def ti118 : TI := ⟨2, 16, [.int .i64 0, .int .i64 0], .struct [(0, 3), (1, 3)], some (.pair (.int .i64) (.int .i64)), true, false⟩
def ti103 : TI := ⟨1, 24, [.slice none 0 0], .slice 105, some (.slice (.pair (.int .i64) (.pair (.int .i64) (.int .i64)))), false, false⟩
def ti105 : TI := ⟨3, 24, [.int .i64 0, .int .i64 0, .int .i64 0], .struct [(0, 3), (1, 3), (2, 3)], some (.pair (.int .i64) (.pair (.int .i64) (.int .i64))), true, false⟩
def tblX : List (TypeId × TI) := (99, ti99) :: (101, ti101) :: (118, ti118) :: (103, ti103) :: (105, ti105) :: tbl
theorem tblX_ok : chkAll Tryd.prog tblX = true := by kernel_rfl
@[reducible] noncomputable def cz (cs : List CI) (an : List (Nat × (St → Ann))) : Ctx := ctxOf tblX cs fun n => annOf n an
theorem cz_ok {cs : List CI} (h : CsOK Tryd.prog cs) (an : List (Nat × (St → Ann))) : CtxOK Tryd.prog (cz cs an) := ctx_ok mixed (chkAll_ok tblX_ok) h _
noncomputable section
@[reducible] def p85 : PC := ⟨85, [(false, .slice .bool), aB], [aI], fun p => p.1.length ≤ 1000, fun p => idxB p.1 p.2⟩
@[reducible] def C85 (p : List Bool × Bool) : Ctx := cz [] [(0, fun _ => upTo p.1.length 8 [0, 1, 6, 7] fun k => ∀ j, j < k → p.1.getD j false ≠ p.2)]
def g85 (l : List Bool) (b : Bool) : Prop := p85.VC (C85 (l, b)) Tryd.f85 (l, b)

/-- n, r, m; the lines; the call. -/
@[reducible] def exH (n r m : Int) (es : List Lk) : List Ent := [.blk 101 [.int .i64 n, .int .i64 r, .int .i64 m, .tab 1], .tab true tEd es]
@[reducible] def H80 : HC where
  f := 80
  X := Cl × List Lk × Ed
  Hs x := exH x.1.1 x.1.2.1 x.1.2.2 x.2.1
  ags x := [.c (.ptr 0 0), .c (.int .i64 x.2.2.1), .c (.int .i64 x.2.2.2)]
  Pre x := ClosP x.1.1 x.1.2.1 x.1.2.2 ∧ LinesOK (x.1.1 * x.1.2.1) x.1.2.2 x.2.1 ∧ (0 ≤ x.2.2.1 ∧ x.2.2.1 < x.1.1 * x.1.2.1) ∧ (0 ≤ x.2.2.2 ∧ x.2.2.2 < x.1.1 * x.1.2.1)
  res x := .c (.int .i64 (connF x.1.1 x.1.2.2 x.2.1 x.2.2).1)
  out x := exH x.1.1 x.1.2.1 x.1.2.2 (connF x.1.1 x.1.2.2 x.2.1 x.2.2).2
  fr _ := false
@[reducible] def A80 (n m : Int) (es : List Lk) (c : Ed) : Ann where
  τ := List Lk × List Lk
  pre := []
  preC := []
  keep := [0, 1, 2, 6, 7, 21]
  slots _ := []
  ents k := [(2, .row 4 .bool 1 (markS n m.toNat c k.2)), (3, .iter 1 true tEd k.1 none)]
  ok k := (k.2 ++ k.1).Perm es ∧ k.2.any (meets c) = false
  m k := k.1.length
@[reducible] def C80 (x : H80.X) : Ctx := cz [p85.ci] [(0, fun _ => A80 x.1.1 x.1.2.2 x.2.1 x.2.2)]
def g80 (n r m : Int) (es : List Lk) (a b : Int) : Prop := HVC (C80 ((n, r, m), es, (a, b))) Tryd.f80 H80 ((n, r, m), es, (a, b))

@[reducible] def H70 : HC where
  f := 70
  X := Cl × List Lk × Ed
  Hs x := exH x.1.1 x.1.2.1 x.1.2.2 x.2.1
  ags x := [.c (.ptr 0 0), .agg [.int .i64 x.2.2.1, .int .i64 x.2.2.2]]
  Pre x := ClosP x.1.1 x.1.2.1 x.1.2.2 ∧ LinesOK (x.1.1 * x.1.2.1) x.1.2.2 x.2.1 ∧ (0 ≤ x.2.2.1 ∧ x.2.2.1 < x.1.1 * x.1.2.1) ∧ (-1 ≤ x.2.2.2 ∧ x.2.2.2 < x.1.1 * x.1.2.1)
  res x := .c (.int .i64 (stepL x.1.1 x.1.2.2 x.2.1 x.2.2).1)
  out x := exH x.1.1 x.1.2.1 x.1.2.2 (stepL x.1.1 x.1.2.2 x.2.1 x.2.2).2
  fr _ := false
@[reducible] def pick80 (x : H80.X) (js : List Nat) : Pick H80.X := fun _ _ K => K x js
@[reducible] def C70 (x : H70.X) : Ctx := cz [H80.ci (pick80 x [0, 1])] []
def g70 (n r m : Int) (es : List Lk) (a b : Int) : Prop := HVC (C70 ((n, r, m), es, (a, b))) Tryd.f70 H70 ((n, r, m), es, (a, b))
end
end Go.SX.Pa

/- Printed by VC.lean: what the executor asks. -/
namespace Go.SX.Pa
open Go Go.Proofs
theorem g85_eq (l : List Bool) (b : Bool) : g85 l b = (
 (∃ (x0 : Nat), (x0 ≤ l.length ∧ ∀ (j : Nat), j < x0 → l.getD j false ≠ b) ∧ True ∧ (0 : Int) = (↑x0 : Int) ∧ (↑l.length : Int) = (↑l.length : Int) ∧ l = l ∧ l = l ∧ b = b ∧ True) ∧
 ∀ (x : Nat),
 (x ≤ l.length ∧ ∀ (j : Nat), j < x → l.getD j false ≠ b) →
 ((↑x : Int) < (↑l.length : Int) →
 (↑x : Int) < (↑l.length : Int) ∧
 ((0 : Int) ≤ (↑x : Int) ∧ (↑x : Int) < (↑l.length : Int)) ∧
 (b = l.getD (↑x : Int).toNat false → b = l.getD (↑x : Int).toNat false ∧ (↑x : Int) = idxB l b) ∧
 (¬b = l.getD (↑x : Int).toNat false →
 ¬b = l.getD (↑x : Int).toNat false ∧
 Fits IntKind.i64 ((↑x : Int) + (1 : Int)) ∧
 ∃ (x' : Nat),
 (x' ≤ l.length ∧ ∀ (j : Nat), j < x' → l.getD j false ≠ b) ∧
 l.length - x' < l.length - x ∧ True ∧ (↑x : Int) + (1 : Int) = (↑x' : Int) ∧ (↑l.length : Int) = (↑l.length : Int) ∧ l = l ∧ l = l ∧ b = b ∧ True)) ∧
 (¬(↑x : Int) < (↑l.length : Int) → ¬(↑x : Int) < (↑l.length : Int) ∧ (-1 : Int) = idxB l b)) := by
 kernel_rfl

theorem g80_eq (n : Int) (r : Int) (m : Int) (es : List Lk) (a : Int) (b : Int) : g80 n r m es a b = (
 ((0 : Int) ≤ m ∧ m ≤ m ∧ Small m.toNat) ∧
 (∃ (x0 : List Lk × List Lk),
 ((x0.snd ++ x0.fst).Perm es ∧ x0.snd.any (meets (a, b)) = false) ∧
 ((n = n ∧ r = r ∧ m = m ∧ True ∧ True) ∧ es = es ∧ List.replicate m.toNat false = markS n m.toNat (a, b) x0.snd ∧ ((es = x0.fst ∧ True) ∧ es = es) ∧ True) ∧
 True ∧ True ∧ (0 : Int) = (0 : Int) ∧ True ∧ a = a ∧ b = b ∧ True) ∧
 ∀ (x : List Lk × List Lk),
 (x.snd ++ x.fst).Perm es ∧ x.snd.any (meets (a, b)) = false →
 (x.fst = [] →
 (markS n m.toNat (a, b) x.snd).length ≤ (1000 : Nat) ∧
 ((0 : Int) ≤ idxB (markS n m.toNat (a, b) x.snd) false →
 (0 : Int) ≤ idxB (markS n m.toNat (a, b) x.snd) false ∧
 idxB (markS n m.toNat (a, b) x.snd) false = (connF n m es (a, b)).fst ∧
 (n = n ∧ r = r ∧ m = m ∧ True ∧ True) ∧ insF es a (b, idxB (markS n m.toNat (a, b) x.snd) false) = (connF n m es (a, b)).snd ∧ True) ∧
 (¬(0 : Int) ≤ idxB (markS n m.toNat (a, b) x.snd) false →
 ¬(0 : Int) ≤ idxB (markS n m.toNat (a, b) x.snd) false ∧
 idxB (markS n m.toNat (a, b) x.snd) false = (connF n m es (a, b)).fst ∧ (n = n ∧ r = r ∧ m = m ∧ True ∧ True) ∧ es = (connF n m es (a, b)).snd ∧ True)) ∧
 ∀ (k : Nat) (p : Int × Int × Int),
 x.fst[k]? = some p →
 (p.fst = a → p.fst = a ∧ p.fst = a ∧ (-2 : Int) = (connF n m es (a, b)).fst ∧ (n = n ∧ r = r ∧ m = m ∧ True ∧ True) ∧ es = (connF n m es (a, b)).snd ∧ True) ∧
 (¬p.fst = a →
 ¬p.fst = a ∧
 ¬p.fst = a ∧
 (p.snd.fst = b →
 p.snd.fst = b ∧ p.snd.fst = b ∧ (-2 : Int) = (connF n m es (a, b)).fst ∧ (n = n ∧ r = r ∧ m = m ∧ True ∧ True) ∧ es = (connF n m es (a, b)).snd ∧ True) ∧
 (¬p.snd.fst = b →
 ¬p.snd.fst = b ∧
 ¬p.snd.fst = b ∧
 ((0 : Int) ≤ p.fst ∧ (0 : Int) < n) ∧
 Fits IntKind.i64 (p.fst / n) ∧
 ((0 : Int) ≤ a ∧ (0 : Int) < n) ∧
 Fits IntKind.i64 (a / n) ∧
 (p.fst / n = a / n →
 p.fst / n = a / n ∧
 p.fst / n = a / n ∧
 ((0 : Int) ≤ p.snd.snd ∧ p.snd.snd < (↑(markS n m.toNat (a, b) x.snd).length : Int)) ∧
 ∃ (x' : List Lk × List Lk),
 ((x'.snd ++ x'.fst).Perm es ∧ x'.snd.any (meets (a, b)) = false) ∧
 x'.fst.length < x.fst.length ∧
 ((n = n ∧ r = r ∧ m = m ∧ True ∧ True) ∧
 es = es ∧
 (markS n m.toNat (a, b) x.snd).set p.snd.snd.toNat true = markS n m.toNat (a, b) x'.snd ∧
 ((x.fst.eraseIdx k = x'.fst ∧ True) ∧ es = es) ∧ True) ∧
 True ∧ True ∧ (0 : Int) = (0 : Int) ∧ True ∧ a = a ∧ b = b ∧ True) ∧
 (¬p.fst / n = a / n →
 ¬p.fst / n = a / n ∧
 ¬p.fst / n = a / n ∧
 ((0 : Int) ≤ p.snd.fst ∧ (0 : Int) < n) ∧
 Fits IntKind.i64 (p.snd.fst / n) ∧
 ((0 : Int) ≤ b ∧ (0 : Int) < n) ∧
 Fits IntKind.i64 (b / n) ∧
 (p.snd.fst / n = b / n →
 p.snd.fst / n = b / n ∧
 p.snd.fst / n = b / n ∧
 ((0 : Int) ≤ p.snd.snd ∧ p.snd.snd < (↑(markS n m.toNat (a, b) x.snd).length : Int)) ∧
 ∃ (x' : List Lk × List Lk),
 ((x'.snd ++ x'.fst).Perm es ∧ x'.snd.any (meets (a, b)) = false) ∧
 x'.fst.length < x.fst.length ∧
 ((n = n ∧ r = r ∧ m = m ∧ True ∧ True) ∧
 es = es ∧
 (markS n m.toNat (a, b) x.snd).set p.snd.snd.toNat true = markS n m.toNat (a, b) x'.snd ∧
 ((x.fst.eraseIdx k = x'.fst ∧ True) ∧ es = es) ∧ True) ∧
 True ∧ True ∧ (0 : Int) = (0 : Int) ∧ True ∧ a = a ∧ b = b ∧ True) ∧
 (¬p.snd.fst / n = b / n →
 ¬p.snd.fst / n = b / n ∧
 ¬p.snd.fst / n = b / n ∧
 ∃ (x' : List Lk × List Lk),
 ((x'.snd ++ x'.fst).Perm es ∧ x'.snd.any (meets (a, b)) = false) ∧
 x'.fst.length < x.fst.length ∧
 ((n = n ∧ r = r ∧ m = m ∧ True ∧ True) ∧
 es = es ∧
 markS n m.toNat (a, b) x.snd = markS n m.toNat (a, b) x'.snd ∧
 ((x.fst.eraseIdx k = x'.fst ∧ True) ∧ es = es) ∧ True) ∧
 True ∧ True ∧ (0 : Int) = (0 : Int) ∧ True ∧ a = a ∧ b = b ∧ True))))) := by
 kernel_rfl

theorem g70_eq (n : Int) (r : Int) (m : Int) (es : List Lk) (a : Int) (b : Int) : g70 n r m es a b = (
 ((0 : Int) ≤ b →
 (0 : Int) ≤ b ∧
 True ∧
 ((n = n ∧ r = r ∧ m = m ∧ True ∧ True) ∧ es = es ∧ True) ∧
 (True ∧ a = a ∧ b = b ∧ True) ∧
 ((((1 : Int) ≤ n ∧ n ≤ (12 : Int)) ∧ ((1 : Int) ≤ r ∧ r ≤ (12 : Int)) ∧ n * r ≤ (12 : Int) ∧ (1 : Int) ≤ m ∧ m ≤ (12 : Int)) ∧
 LinesOK (n * r) m es ∧ ((0 : Int) ≤ a ∧ a < n * r) ∧ (0 : Int) ≤ b ∧ b < n * r) ∧
 (connF n m es (a, b)).fst = (stepL n m es (a, b)).fst ∧ (n = n ∧ r = r ∧ m = m ∧ True ∧ True) ∧ (connF n m es (a, b)).snd = (stepL n m es (a, b)).snd ∧ True) ∧
 (¬(0 : Int) ≤ b →
 ¬(0 : Int) ≤ b ∧
 (¬(lookF es a).isSome = true →
 ¬(lookF es a).isSome = true ∧ (-2 : Int) = (stepL n m es (a, b)).fst ∧ (n = n ∧ r = r ∧ m = m ∧ True ∧ True) ∧ es = (stepL n m es (a, b)).snd ∧ True) ∧
 (¬¬(lookF es a).isSome = true →
 ¬¬(lookF es a).isSome = true ∧
 ((lookF es a).getD ((0 : Int), (0 : Int))).snd = (stepL n m es (a, b)).fst ∧ (n = n ∧ r = r ∧ m = m ∧ True ∧ True) ∧ delF es a = (stepL n m es (a, b)).snd ∧ True))) := by
 kernel_rfl

end Go.SX.Pa

/- Chapter 06, part 20: connect and serve: their contracts. -/
namespace Go.SX.Pa
open Go Go.Proofs
theorem ok85 : p85.OK Tryd.prog := p85.ok C85 (fun _ => cz_ok (cs := []) trivial _) (fn := Tryd.f85) rfl (by decide +kernel) rfl fun (p : List Bool × Bool) hp => by
  obtain ⟨l, b⟩ := p
  refine (g85_eq l b).mpr ?_
  have hp : l.length ≤ 1000 := hp
  simp only [pp1, eq_self, and_true, true_and, and_self, Int.toNat_natCast]
  refine ⟨⟨0, ⟨by omega, fun j hj => absurd hj (by omega)⟩, rfl⟩, fun x hx => ⟨fun h1 => ⟨by omega, fun h2 => ?_, fun h2 => ?_⟩, fun h1 => ?_⟩⟩
  · exact (idxB_at (by omega) h2.symm hx.2).symm
  · exact ⟨fits_nat (by omega), x + 1, ⟨by omega, all_below hx.2 fun h => h2 h.symm⟩, by omega, by omega⟩
  · exact (idxB_no fun i hi => hx.2 i (by omega)).symm

theorem near_true {n : Int} {c : Ed} {l : Lk} (h : l.1 / n = c.1 / n ∨ l.2.1 / n = c.2 / n) : nearL n c l = true := by simp [nearL, h]
theorem near_false {n : Int} {c : Ed} {l : Lk} (h1 : ¬ l.1 / n = c.1 / n) (h2 : ¬ l.2.1 / n = c.2 / n) : nearL n c l = false := by simp [nearL, h1, h2]
theorem fits_div {a n : Int} (h1 : 0 ≤ a) (h2 : a ≤ 1000) (hn : 1 ≤ n) : Fits .i64 (a / n) := by
  have := Int.ediv_le_self n h1
  have := Int.ediv_nonneg h1 (show 0 ≤ n by omega)
  exact fits_i64 (by omega) (by omega)
theorem perm_erase {es l s : List Lk} {k : Nat} {p : Lk} (h : (s ++ l).Perm es) (hk : l[k]? = some p) : ((s ++ [p]) ++ l.eraseIdx k).Perm es := by
  refine List.Perm.trans ?_ h
  rw [List.append_assoc]
  refine List.Perm.append_left s ?_
  obtain ⟨hlt, he⟩ := List.getElem?_eq_some_iff.1 hk
  rw [List.eraseIdx_eq_take_drop_succ]
  have e : l = l.take k ++ p :: l.drop (k + 1) := by rw [← he, List.getElem_cons_drop, List.take_append_drop]
  have h2 : (p :: (l.take k ++ l.drop (k + 1))).Perm (l.take k ++ p :: l.drop (k + 1)) := List.perm_middle.symm
  rw [← e] at h2
  exact h2

theorem h80 : HeapOK Tryd.prog H80 := heap_flat (c := H80) (fn := Tryd.f80) rfl (by decide +kernel) rfl (fun _ => ⟨trivial, trivial, trivial⟩) C80 (fun _ => cz_ok (cs := [p85.ci]) ⟨PC.OK.ci ok85, trivial⟩ _) fun x hx => by
  obtain ⟨⟨n, r, m⟩, es, a, b⟩ := x
  refine (g80_eq n r m es a b).mpr ?_
  obtain ⟨hc, hl, ha, hb⟩ := hx
  have hc : ClosP n r m := hc
  have hl : LinesOK (n * r) m es := hl
  have ha : 0 ≤ a ∧ a < n * r := ha
  have hb : 0 ≤ b ∧ b < n * r := hb
  obtain ⟨c1, c2, c3, c4⟩ := hc
  simp only [pp1, eq_self, and_true, true_and, and_self, markS_length]
  have hm : m.toNat ≤ 12 := by omega
  refine ⟨⟨by omega, by unfold Small; omega⟩, ⟨(es, []), ⟨List.Perm.refl _, rfl⟩, (markS_nil _ _ _).symm, rfl⟩, fun x hx => ⟨fun h1 => ?_, fun k p hk => ?_⟩⟩
  · obtain ⟨hx1, hx2⟩ := hx
    rw [h1, List.append_nil] at hx1
    have hany : es.any (meets (a, b)) = false := by
      rw [List.any_eq_false] at hx2 ⊢
      exact fun l hl => hx2 l (hx1.mem_iff.2 hl)
    have hmk : markS n m.toNat (a, b) x.2 = markS n m.toNat (a, b) es := markS_perm hx1
    rw [hmk]
    have hcn : connF n m es (a, b) = (idxB (markS n m.toNat (a, b) es) false, if 0 ≤ idxB (markS n m.toNat (a, b) es) false then insF es a (b, idxB (markS n m.toNat (a, b) es) false) else es) := by
      unfold connF
      rw [if_neg (by rw [hany]; decide)]
    rw [hcn]
    refine ⟨by omega, fun h => ?_, fun h => ?_⟩
    · simp only [if_pos h]; exact ⟨trivial, trivial⟩
    · simp only [if_neg h]; exact ⟨trivial, trivial⟩
  · have hpl : p ∈ x.1 := List.mem_of_getElem? hk
    have hpe : p ∈ es := hx.1.mem_iff.1 (List.mem_append_right _ hpl)
    have hlen : x.1.length ≠ 0 := by intro h; rw [List.length_eq_zero_iff.1 h] at hpl; cases hpl
    have hkl : k < x.1.length := by obtain ⟨q, _⟩ := List.getElem?_eq_some_iff.1 hk; exact q
    have i1 := hl.ins p hpe
    have i2 := hl.outs p hpe
    have i3 := hl.mids p hpe
    have he : (x.1.eraseIdx k).length < x.1.length := by rw [List.length_eraseIdx_of_lt hkl]; omega
    have hpm := perm_erase hx.1 hk
    have bad : meets (a, b) p = true → connF n m es (a, b) = (-2, es) := fun h => by
      unfold connF
      rw [if_pos (List.any_eq_true.2 ⟨p, hpe, h⟩)]
    refine ⟨fun h1 => ?_, fun h1 => ⟨fun h2 => ?_, fun h2 => ?_⟩⟩
    · rw [bad (by simp [meets, h1])]; exact ⟨rfl, rfl⟩
    · rw [bad (by simp [meets, h2])]; exact ⟨rfl, rfl⟩
    have hmt : (x.2 ++ [p]).any (meets (a, b)) = false := by
      rw [List.any_append, hx.2]
      simp [meets, h1, h2]
    have hno : ∀ {q : nearL n (a, b) p = true}, ∃ x' : List Lk × List Lk, ((x'.2 ++ x'.1).Perm es ∧ x'.2.any (meets (a, b)) = false) ∧ x'.1.length < x.1.length ∧ (markS n m.toNat (a, b) x.2).set p.2.2.toNat true = markS n m.toNat (a, b) x'.2 ∧ x.1.eraseIdx k = x'.1 := fun {q} =>
      ⟨(x.1.eraseIdx k, x.2 ++ [p]), ⟨hpm, hmt⟩, he, (markS_near q).symm, rfl⟩
    refine ⟨by omega, fits_div i1.1 (by omega) (by omega), by omega, fits_div ha.1 (by omega) (by omega), fun h3 => ⟨by omega, hno (q := near_true (.inl h3))⟩, fun h3 => ⟨by omega, fits_div i2.1 (by omega) (by omega), by omega, fits_div hb.1 (by omega) (by omega), fun h4 => ⟨by omega, hno (q := near_true (.inr h4))⟩, fun h4 => ?_⟩⟩
    exact ⟨(x.1.eraseIdx k, x.2 ++ [p]), ⟨hpm, hmt⟩, he, (markS_far (near_false h3 h4)).symm, rfl⟩

theorem h70 : HeapOK Tryd.prog H70 := heap_flat (c := H70) (fn := Tryd.f70) rfl (by decide +kernel) rfl (fun _ => ⟨trivial, trivial, trivial⟩) C70 (fun x => cz_ok (cs := [H80.ci (pick80 x [0, 1])]) ⟨h80.ci (fun _ => ⟨trivial, trivial, trivial⟩) fun _ _ _ hk => ⟨_, _, hk⟩, trivial⟩ _) fun x hx => by
  obtain ⟨⟨n, r, m⟩, es, a, b⟩ := x
  refine (g70_eq n r m es a b).mpr ?_
  obtain ⟨hc, hl, ha, hb⟩ := hx
  have hc : ClosP n r m := hc
  have hl : LinesOK (n * r) m es := hl
  have ha : 0 ≤ a ∧ a < n * r := ha
  have hb : -1 ≤ b ∧ b < n * r := hb
  simp only [pp1, eq_self, and_true, true_and, and_self]
  refine ⟨fun h => ⟨⟨hc, hl, ha, h, hb.2⟩, ?_⟩, fun h => ⟨fun h2 => ?_, fun h2 => ?_⟩⟩
  · have e : stepL n m es (a, b) = connF n m es (a, b) := by unfold stepL; rw [if_pos h]
    rw [e]; exact ⟨rfl, rfl⟩
  all_goals
    have e : stepL n m es (a, b) = hangF es (a, b) := by unfold stepL; rw [if_neg h]
    rw [e]
    unfold hangF
    cases hk : lookF es a with
    | none => first | exact ⟨rfl, rfl⟩ | (rw [hk] at h2; simp at h2)
    | some l => first | exact ⟨rfl, rfl⟩ | (rw [hk] at h2; simp at h2)
end Go.SX.Pa

/- Chapter 06, part 21: Serve, and the book's own Serve. -/
namespace Go.SX.Pa
open Go Go.Proofs
/-- The last line of in. -/
def atTo (es : List Lk) (a : Int) : Nat → Int
  | 0 => -1
  | j + 1 => if (es.getD j (0, 0, 0)).1 = a then (j : Int) else atTo es a j
/-- The first free middle, found from above. -/
def frDn (t : List Bool) (m : Nat) : Nat → Int
  | 0 => -1
  | j + 1 => if t.getD (m - 1 - j) false = false then ((m - 1 - j : Nat) : Int) else frDn t m j
/-- Where the exchange lies, and its lines. -/
def withTab (d : Nat) (K : Nat → Nat → Nat → Ann) (st : St) : Ann :=
  match findT d st.t with
  | .c (.ptr i _) => match st.h[i]? with
    | some (.blk _ (_ :: _ :: _ :: .tab j :: _)) => K i j st.h.length
    | _ => noAnn
  | _ => noAnn
noncomputable section
@[reducible] def pick70 (n r m : Int) : Pick H70.X := fun args H K =>
  match args with
  | .c (.ptr i _) :: .agg (.int _ a :: .int _ b :: _) :: _ => match H[i]? with
    | some (.blk _ (_ :: _ :: _ :: .tab j :: _)) => match H[j]? with
      | some (.tab _ t es) => if h : t = tEd then K ((n, r, m), (h ▸ es : List (Int × tEd.den)), (a, b)) [i, j] else False
      | _ => False
    | _ => False
  | _ => False
@[reducible] def A49 (n m : Int) (cs : List Ed) (j o : Nat) : Ann where
  τ := Nat
  pre := [(14, 3, .int .i64)]
  preC := []
  keep := [12, 13, 41, 42]
  slots k := [(43, .c (.int .i64 k)), (14, .c (.own o 1))]
  ents k := [(j, .tab true tEd (linesTo n m cs k)), (o, .row 3 (.int .i64) 0 (ansTo n m cs k))]
  ok k := k ≤ cs.length
  m k := cs.length - k
@[reducible] def C71x (n r : Int) (cs : List Ed) : Ctx := cz [inl 69 Tryd.f69 (cz [] [])] [(0, fun _ => upTo cs.length 8 [0, 1, 6, 7] fun k => (cs.take k).any (badEv n r) = false)]
@[reducible] def C56x (n r : Int) (cs : List Ed) : Ctx := cz [inl 71 Tryd.f71 (C71x n r cs)] []
@[reducible] def p49 : PC := ⟨49, [aI, aI, aI, aEds], [aIs, aI], fun p => p.2.2.2.length ≤ 1000, fun p => serveF p.1 p.2.1 p.2.2.1 p.2.2.2⟩
@[reducible] def C49 (p : Int × Int × Int × List Ed) : Ctx := cz [p54.ci, inl 56 Tryd.f56 (C56x p.1 p.2.1 p.2.2.2), H70.ci (pick70 p.1 p.2.1 p.2.2.1)] [(0, withTab 12 fun _ j o => A49 p.1 p.2.2.1 p.2.2.2 j o)]
def g49 (n r m : Int) (cs : List Ed) : Prop := p49.VC (C49 (n, r, m, cs)) Tryd.f49 (n, r, m, cs)

@[reducible] def p50 : PC := ⟨50, [aI, aI, aEds], [aIs], fun p => ((1 ≤ p.1 ∧ p.1 ≤ 12) ∧ 1 ≤ p.2.1 ∧ p.2.1 ≤ 12) ∧ p.2.2.length ≤ 1000 ∧ ∀ c ∈ p.2.2, ((0 : Int) ≤ c.1 ∧ c.1 < 12) ∧ -1 ≤ c.2 ∧ c.2 < 12, fun p => ansTo p.1 p.2.1 p.2.2 p.2.2.length⟩
@[reducible] def A50a (n m : Int) (cs : List Ed) : Ann where
  τ := Nat
  pre := []
  preC := []
  keep := [0, 1, 2]
  slots k := [(9, .c (.int .i64 k)), (7, .c (.ro tCl (linesTo n m cs k))), (8, .c (.own 1 1))]
  ents k := [(0, .dead), (1, .row 3 (.int .i64) 0 (ansTo n m cs k))]
  ok k := k ≤ cs.length
  m k := cs.length - k
@[reducible] def A50b (n m : Int) (cs : List Ed) (x : Int) : Ann where
  τ := Nat
  pre := []
  preC := []
  keep := [0, 1, 2, 7, 8, 9, 10, 12]
  slots j := [(14, .c (.int .i64 j)), (11, .c (.int .i64 (atTo (linesTo n m cs x.toNat) (cs.getD x.toNat (0, 0)).1 j))), (13, .c (.bool 0 (((linesTo n m cs x.toNat).take j).any (meets (cs.getD x.toNat (0, 0))))))]
  ents j := [(3, .row 4 .bool 1 (markS n m.toNat (cs.getD x.toNat (0, 0)) ((linesTo n m cs x.toNat).take j)))]
  ok j := j ≤ (linesTo n m cs x.toNat).length
  m j := (linesTo n m cs x.toNat).length - j
@[reducible] def A50c (n m : Int) (cs : List Ed) (x : Int) : Ann where
  τ := Nat
  pre := []
  preC := []
  keep := [0, 1, 2, 7, 8, 9, 10, 12]
  slots s := [(17, .c (.int .i64 (m - 1 - s))), (16, .c (.int .i64 (frDn (markS n m.toNat (cs.getD x.toNat (0, 0)) (linesTo n m cs x.toNat)) m.toNat s)))]
  ents _ := []
  ok s := s ≤ m.toNat
  m s := m.toNat - s
@[reducible] def C50 (p : Int × Int × List Ed) : Ctx := cz [] [(0, fun _ => A50a p.1 p.2.1 p.2.2), (1, withI 9 fun x => A50b p.1 p.2.1 p.2.2 x), (2, withI 9 fun x => A50c p.1 p.2.1 p.2.2 x)]
def g50 (n m : Int) (cs : List Ed) : Prop := p50.VC (C50 (n, m, cs)) Tryd.f50 (n, m, cs)
end
end Go.SX.Pa

/- Printed by VC.lean: what the executor asks. -/
namespace Go.SX.Pa
open Go Go.Proofs
theorem g49_eq (n : Int) (r : Int) (m : Int) (cs : List Ed) : g49 n r m cs = (
 True ∧
 ((100 : Int) < (↑cs.length : Int) → (100 : Int) < (↑cs.length : Int) ∧ (100 : Int) < (↑cs.length : Int) ∧ ([], (3 : Int)) = serveF n r m cs) ∧
 (¬(100 : Int) < (↑cs.length : Int) →
 ¬(100 : Int) < (↑cs.length : Int) ∧
 ¬(100 : Int) < (↑cs.length : Int) ∧
 ((!decide (ClosP n r m)) = true → (!decide (ClosP n r m)) = true ∧ (!decide (ClosP n r m)) = true ∧ ([], (1 : Int)) = serveF n r m cs) ∧
 ((!decide (ClosP n r m)) = false →
 (!decide (ClosP n r m)) = false ∧
 (!decide (ClosP n r m)) = false ∧
 (∃ (x0 : Nat),
 (x0 ≤ cs.length ∧ (List.take x0 cs).any (badEv n r) = false) ∧
 ((n = n ∧ True) ∧ (r = r ∧ True) ∧ (n = n ∧ r = r ∧ m = m ∧ True) ∧ True) ∧
 (0 : Int) = (↑x0 : Int) ∧ (↑cs.length : Int) = (↑cs.length : Int) ∧ cs = cs ∧ cs = cs ∧ True ∧ True) ∧
 ∀ (x : Nat),
 x ≤ cs.length ∧ (List.take x cs).any (badEv n r) = false →
 ((↑x : Int) < (↑cs.length : Int) →
 (↑x : Int) < (↑cs.length : Int) ∧
 ((0 : Int) ≤ (↑x : Int) ∧ (↑x : Int) < (↑cs.length : Int)) ∧
 ((cs.getD (↑x : Int).toNat ((0 : Int), (0 : Int))).fst < (0 : Int) →
 (cs.getD (↑x : Int).toNat ((0 : Int), (0 : Int))).fst < (0 : Int) ∧
 (cs.getD (↑x : Int).toNat ((0 : Int), (0 : Int))).fst < (0 : Int) ∧
 ((0 : Int) ≤ (↑x : Int) → (0 : Int) ≤ (↑x : Int) ∧ (0 : Int) ≤ (↑x : Int) ∧ ([], (2 : Int)) = serveF n r m cs) ∧
 (¬(0 : Int) ≤ (↑x : Int) →
 ¬(0 : Int) ≤ (↑x : Int) ∧
 ¬(0 : Int) ≤ (↑x : Int) ∧
 (∃ (x0 : Nat),
 x0 ≤ cs.length ∧
 ((n = n ∧ True) ∧
 (r = r ∧ True) ∧
 (n = n ∧ r = r ∧ m = m ∧ True) ∧
 ((cs.getD (↑x : Int).toNat ((0 : Int), (0 : Int))).fst = (cs.getD (↑x : Int).toNat ((0 : Int), (0 : Int))).fst ∧
 (cs.getD (↑x : Int).toNat ((0 : Int), (0 : Int))).snd = (cs.getD (↑x : Int).toNat ((0 : Int), (0 : Int))).snd ∧
 True) ∧
 [] = linesTo n m cs x0 ∧ (n = n ∧ r = r ∧ m = m ∧ True ∧ True) ∧ [] = ansTo n m cs x0 ∧ True) ∧
 (0 : Int) = (↑x0 : Int) ∧ True ∧ (↑cs.length : Int) = (↑cs.length : Int) ∧ cs = cs ∧ True ∧ True ∧ True) ∧
 ∀ (x_1 : Nat),
 x_1 ≤ cs.length →
 ((↑x_1 : Int) < (↑cs.length : Int) →
 (↑x_1 : Int) < (↑cs.length : Int) ∧
 ((0 : Int) ≤ (↑x_1 : Int) ∧ (↑x_1 : Int) < (↑cs.length : Int)) ∧
 True ∧
 ((n = n ∧ r = r ∧ m = m ∧ True ∧ True) ∧ linesTo n m cs x_1 = linesTo n m cs x_1 ∧ True) ∧
 (True ∧
 ((cs.getD (↑x_1 : Int).toNat ((0 : Int), (0 : Int))).fst =
 (cs.getD (↑x_1 : Int).toNat ((0 : Int), (0 : Int))).fst ∧
 (cs.getD (↑x_1 : Int).toNat ((0 : Int), (0 : Int))).snd =
 (cs.getD (↑x_1 : Int).toNat ((0 : Int), (0 : Int))).snd ∧
 True) ∧
 True) ∧
 ((((1 : Int) ≤ n ∧ n ≤ (12 : Int)) ∧
 ((1 : Int) ≤ r ∧ r ≤ (12 : Int)) ∧ n * r ≤ (12 : Int) ∧ (1 : Int) ≤ m ∧ m ≤ (12 : Int)) ∧
 LinesOK (n * r) m (linesTo n m cs x_1) ∧
 ((0 : Int) ≤ (cs.getD (↑x_1 : Int).toNat ((0 : Int), (0 : Int))).fst ∧
 (cs.getD (↑x_1 : Int).toNat ((0 : Int), (0 : Int))).fst < n * r) ∧
 (-1 : Int) ≤ (cs.getD (↑x_1 : Int).toNat ((0 : Int), (0 : Int))).snd ∧
 (cs.getD (↑x_1 : Int).toNat ((0 : Int), (0 : Int))).snd < n * r) ∧
 Small ((ansTo n m cs x_1).length + ((0 : Nat) + (1 : Nat))) ∧
 Fits IntKind.i64 ((↑x_1 : Int) + (1 : Int)) ∧
 ∃ (x' : Nat),
 x' ≤ cs.length ∧
 cs.length - x' < cs.length - x_1 ∧
 ((n = n ∧ True) ∧
 (r = r ∧ True) ∧
 (n = n ∧ r = r ∧ m = m ∧ True) ∧
 ((cs.getD (↑x : Int).toNat ((0 : Int), (0 : Int))).fst =
 (cs.getD (↑x : Int).toNat ((0 : Int), (0 : Int))).fst ∧
 (cs.getD (↑x : Int).toNat ((0 : Int), (0 : Int))).snd =
 (cs.getD (↑x : Int).toNat ((0 : Int), (0 : Int))).snd ∧
 True) ∧
 (stepL n m (linesTo n m cs x_1)
 ((cs.getD (↑x_1 : Int).toNat ((0 : Int), (0 : Int))).fst,
 (cs.getD (↑x_1 : Int).toNat ((0 : Int), (0 : Int))).snd)).snd =
 linesTo n m cs x' ∧
 (n = n ∧ r = r ∧ m = m ∧ True ∧ True) ∧
 ansTo n m cs x_1 ++
 [(stepL n m (linesTo n m cs x_1)
 ((cs.getD (↑x_1 : Int).toNat ((0 : Int), (0 : Int))).fst,
 (cs.getD (↑x_1 : Int).toNat ((0 : Int), (0 : Int))).snd)).fst] =
 ansTo n m cs x' ∧
 True) ∧
 (↑x_1 : Int) + (1 : Int) = (↑x' : Int) ∧
 True ∧ (↑cs.length : Int) = (↑cs.length : Int) ∧ cs = cs ∧ True ∧ True ∧ True) ∧
 (¬(↑x_1 : Int) < (↑cs.length : Int) →
 ¬(↑x_1 : Int) < (↑cs.length : Int) ∧ (ansTo n m cs x_1, (0 : Int)) = serveF n r m cs))) ∧
 (¬(cs.getD (↑x : Int).toNat ((0 : Int), (0 : Int))).fst < (0 : Int) →
 ¬(cs.getD (↑x : Int).toNat ((0 : Int), (0 : Int))).fst < (0 : Int) ∧
 ¬(cs.getD (↑x : Int).toNat ((0 : Int), (0 : Int))).fst < (0 : Int) ∧
 Fits IntKind.i64 (n * r) ∧
 (n * r ≤ max (cs.getD (↑x : Int).toNat ((0 : Int), (0 : Int))).fst (cs.getD (↑x : Int).toNat ((0 : Int), (0 : Int))).snd →
 n * r ≤ max (cs.getD (↑x : Int).toNat ((0 : Int), (0 : Int))).fst (cs.getD (↑x : Int).toNat ((0 : Int), (0 : Int))).snd ∧
 n * r ≤ max (cs.getD (↑x : Int).toNat ((0 : Int), (0 : Int))).fst (cs.getD (↑x : Int).toNat ((0 : Int), (0 : Int))).snd ∧
 n * r ≤ max (cs.getD (↑x : Int).toNat ((0 : Int), (0 : Int))).fst (cs.getD (↑x : Int).toNat ((0 : Int), (0 : Int))).snd ∧
 ((0 : Int) ≤ (↑x : Int) → (0 : Int) ≤ (↑x : Int) ∧ (0 : Int) ≤ (↑x : Int) ∧ ([], (2 : Int)) = serveF n r m cs) ∧
 (¬(0 : Int) ≤ (↑x : Int) →
 ¬(0 : Int) ≤ (↑x : Int) ∧
 ¬(0 : Int) ≤ (↑x : Int) ∧
 (∃ (x0 : Nat),
 x0 ≤ cs.length ∧
 ((n = n ∧ True) ∧
 (r = r ∧ True) ∧
 (n = n ∧ r = r ∧ m = m ∧ True) ∧
 ((cs.getD (↑x : Int).toNat ((0 : Int), (0 : Int))).fst =
 (cs.getD (↑x : Int).toNat ((0 : Int), (0 : Int))).fst ∧
 (cs.getD (↑x : Int).toNat ((0 : Int), (0 : Int))).snd =
 (cs.getD (↑x : Int).toNat ((0 : Int), (0 : Int))).snd ∧
 True) ∧
 [] = linesTo n m cs x0 ∧ (n = n ∧ r = r ∧ m = m ∧ True ∧ True) ∧ [] = ansTo n m cs x0 ∧ True) ∧
 (0 : Int) = (↑x0 : Int) ∧ True ∧ (↑cs.length : Int) = (↑cs.length : Int) ∧ cs = cs ∧ True ∧ True ∧ True) ∧
 ∀ (x_1 : Nat),
 x_1 ≤ cs.length →
 ((↑x_1 : Int) < (↑cs.length : Int) →
 (↑x_1 : Int) < (↑cs.length : Int) ∧
 ((0 : Int) ≤ (↑x_1 : Int) ∧ (↑x_1 : Int) < (↑cs.length : Int)) ∧
 True ∧
 ((n = n ∧ r = r ∧ m = m ∧ True ∧ True) ∧ linesTo n m cs x_1 = linesTo n m cs x_1 ∧ True) ∧
 (True ∧
 ((cs.getD (↑x_1 : Int).toNat ((0 : Int), (0 : Int))).fst =
 (cs.getD (↑x_1 : Int).toNat ((0 : Int), (0 : Int))).fst ∧
 (cs.getD (↑x_1 : Int).toNat ((0 : Int), (0 : Int))).snd =
 (cs.getD (↑x_1 : Int).toNat ((0 : Int), (0 : Int))).snd ∧
 True) ∧
 True) ∧
 ((((1 : Int) ≤ n ∧ n ≤ (12 : Int)) ∧
 ((1 : Int) ≤ r ∧ r ≤ (12 : Int)) ∧ n * r ≤ (12 : Int) ∧ (1 : Int) ≤ m ∧ m ≤ (12 : Int)) ∧
 LinesOK (n * r) m (linesTo n m cs x_1) ∧
 ((0 : Int) ≤ (cs.getD (↑x_1 : Int).toNat ((0 : Int), (0 : Int))).fst ∧
 (cs.getD (↑x_1 : Int).toNat ((0 : Int), (0 : Int))).fst < n * r) ∧
 (-1 : Int) ≤ (cs.getD (↑x_1 : Int).toNat ((0 : Int), (0 : Int))).snd ∧
 (cs.getD (↑x_1 : Int).toNat ((0 : Int), (0 : Int))).snd < n * r) ∧
 Small ((ansTo n m cs x_1).length + ((0 : Nat) + (1 : Nat))) ∧
 Fits IntKind.i64 ((↑x_1 : Int) + (1 : Int)) ∧
 ∃ (x' : Nat),
 x' ≤ cs.length ∧
 cs.length - x' < cs.length - x_1 ∧
 ((n = n ∧ True) ∧
 (r = r ∧ True) ∧
 (n = n ∧ r = r ∧ m = m ∧ True) ∧
 ((cs.getD (↑x : Int).toNat ((0 : Int), (0 : Int))).fst =
 (cs.getD (↑x : Int).toNat ((0 : Int), (0 : Int))).fst ∧
 (cs.getD (↑x : Int).toNat ((0 : Int), (0 : Int))).snd =
 (cs.getD (↑x : Int).toNat ((0 : Int), (0 : Int))).snd ∧
 True) ∧
 (stepL n m (linesTo n m cs x_1)
 ((cs.getD (↑x_1 : Int).toNat ((0 : Int), (0 : Int))).fst,
 (cs.getD (↑x_1 : Int).toNat ((0 : Int), (0 : Int))).snd)).snd =
 linesTo n m cs x' ∧
 (n = n ∧ r = r ∧ m = m ∧ True ∧ True) ∧
 ansTo n m cs x_1 ++
 [(stepL n m (linesTo n m cs x_1)
 ((cs.getD (↑x_1 : Int).toNat ((0 : Int), (0 : Int))).fst,
 (cs.getD (↑x_1 : Int).toNat
 ((0 : Int), (0 : Int))).snd)).fst] =
 ansTo n m cs x' ∧
 True) ∧
 (↑x_1 : Int) + (1 : Int) = (↑x' : Int) ∧
 True ∧ (↑cs.length : Int) = (↑cs.length : Int) ∧ cs = cs ∧ True ∧ True ∧ True) ∧
 (¬(↑x_1 : Int) < (↑cs.length : Int) →
 ¬(↑x_1 : Int) < (↑cs.length : Int) ∧ (ansTo n m cs x_1, (0 : Int)) = serveF n r m cs))) ∧
 (¬n * r ≤ max (cs.getD (↑x : Int).toNat ((0 : Int), (0 : Int))).fst (cs.getD (↑x : Int).toNat ((0 : Int), (0 : Int))).snd →
 ¬n * r ≤ max (cs.getD (↑x : Int).toNat ((0 : Int), (0 : Int))).fst (cs.getD (↑x : Int).toNat ((0 : Int), (0 : Int))).snd ∧
 ¬n * r ≤ max (cs.getD (↑x : Int).toNat ((0 : Int), (0 : Int))).fst (cs.getD (↑x : Int).toNat ((0 : Int), (0 : Int))).snd ∧
 ¬n * r ≤ max (cs.getD (↑x : Int).toNat ((0 : Int), (0 : Int))).fst (cs.getD (↑x : Int).toNat ((0 : Int), (0 : Int))).snd ∧
 ((cs.getD (↑x : Int).toNat ((0 : Int), (0 : Int))).snd < (-1 : Int) →
 (cs.getD (↑x : Int).toNat ((0 : Int), (0 : Int))).snd < (-1 : Int) ∧
 ((0 : Int) ≤ (↑x : Int) → (0 : Int) ≤ (↑x : Int) ∧ (0 : Int) ≤ (↑x : Int) ∧ ([], (2 : Int)) = serveF n r m cs) ∧
 (¬(0 : Int) ≤ (↑x : Int) →
 ¬(0 : Int) ≤ (↑x : Int) ∧
 ¬(0 : Int) ≤ (↑x : Int) ∧
 (∃ (x0 : Nat),
 x0 ≤ cs.length ∧
 ((n = n ∧ True) ∧
 (r = r ∧ True) ∧
 (n = n ∧ r = r ∧ m = m ∧ True) ∧
 ((cs.getD (↑x : Int).toNat ((0 : Int), (0 : Int))).fst =
 (cs.getD (↑x : Int).toNat ((0 : Int), (0 : Int))).fst ∧
 (cs.getD (↑x : Int).toNat ((0 : Int), (0 : Int))).snd =
 (cs.getD (↑x : Int).toNat ((0 : Int), (0 : Int))).snd ∧
 True) ∧
 [] = linesTo n m cs x0 ∧ (n = n ∧ r = r ∧ m = m ∧ True ∧ True) ∧ [] = ansTo n m cs x0 ∧ True) ∧
 (0 : Int) = (↑x0 : Int) ∧ True ∧ (↑cs.length : Int) = (↑cs.length : Int) ∧ cs = cs ∧ True ∧ True ∧ True) ∧
 ∀ (x_1 : Nat),
 x_1 ≤ cs.length →
 ((↑x_1 : Int) < (↑cs.length : Int) →
 (↑x_1 : Int) < (↑cs.length : Int) ∧
 ((0 : Int) ≤ (↑x_1 : Int) ∧ (↑x_1 : Int) < (↑cs.length : Int)) ∧
 True ∧
 ((n = n ∧ r = r ∧ m = m ∧ True ∧ True) ∧ linesTo n m cs x_1 = linesTo n m cs x_1 ∧ True) ∧
 (True ∧
 ((cs.getD (↑x_1 : Int).toNat ((0 : Int), (0 : Int))).fst =
 (cs.getD (↑x_1 : Int).toNat ((0 : Int), (0 : Int))).fst ∧
 (cs.getD (↑x_1 : Int).toNat ((0 : Int), (0 : Int))).snd =
 (cs.getD (↑x_1 : Int).toNat ((0 : Int), (0 : Int))).snd ∧
 True) ∧
 True) ∧
 ((((1 : Int) ≤ n ∧ n ≤ (12 : Int)) ∧
 ((1 : Int) ≤ r ∧ r ≤ (12 : Int)) ∧
 n * r ≤ (12 : Int) ∧ (1 : Int) ≤ m ∧ m ≤ (12 : Int)) ∧
 LinesOK (n * r) m (linesTo n m cs x_1) ∧
 ((0 : Int) ≤ (cs.getD (↑x_1 : Int).toNat ((0 : Int), (0 : Int))).fst ∧
 (cs.getD (↑x_1 : Int).toNat ((0 : Int), (0 : Int))).fst < n * r) ∧
 (-1 : Int) ≤ (cs.getD (↑x_1 : Int).toNat ((0 : Int), (0 : Int))).snd ∧
 (cs.getD (↑x_1 : Int).toNat ((0 : Int), (0 : Int))).snd < n * r) ∧
 Small ((ansTo n m cs x_1).length + ((0 : Nat) + (1 : Nat))) ∧
 Fits IntKind.i64 ((↑x_1 : Int) + (1 : Int)) ∧
 ∃ (x' : Nat),
 x' ≤ cs.length ∧
 cs.length - x' < cs.length - x_1 ∧
 ((n = n ∧ True) ∧
 (r = r ∧ True) ∧
 (n = n ∧ r = r ∧ m = m ∧ True) ∧
 ((cs.getD (↑x : Int).toNat ((0 : Int), (0 : Int))).fst =
 (cs.getD (↑x : Int).toNat ((0 : Int), (0 : Int))).fst ∧
 (cs.getD (↑x : Int).toNat ((0 : Int), (0 : Int))).snd =
 (cs.getD (↑x : Int).toNat ((0 : Int), (0 : Int))).snd ∧
 True) ∧
 (stepL n m (linesTo n m cs x_1)
 ((cs.getD (↑x_1 : Int).toNat ((0 : Int), (0 : Int))).fst,
 (cs.getD (↑x_1 : Int).toNat
 ((0 : Int), (0 : Int))).snd)).snd =
 linesTo n m cs x' ∧
 (n = n ∧ r = r ∧ m = m ∧ True ∧ True) ∧
 ansTo n m cs x_1 ++
 [(stepL n m (linesTo n m cs x_1)
 ((cs.getD (↑x_1 : Int).toNat
 ((0 : Int), (0 : Int))).fst,
 (cs.getD (↑x_1 : Int).toNat
 ((0 : Int), (0 : Int))).snd)).fst] =
 ansTo n m cs x' ∧
 True) ∧
 (↑x_1 : Int) + (1 : Int) = (↑x' : Int) ∧
 True ∧
 (↑cs.length : Int) = (↑cs.length : Int) ∧ cs = cs ∧ True ∧ True ∧ True) ∧
 (¬(↑x_1 : Int) < (↑cs.length : Int) →
 ¬(↑x_1 : Int) < (↑cs.length : Int) ∧ (ansTo n m cs x_1, (0 : Int)) = serveF n r m cs))) ∧
 (¬(cs.getD (↑x : Int).toNat ((0 : Int), (0 : Int))).snd < (-1 : Int) →
 ¬(cs.getD (↑x : Int).toNat ((0 : Int), (0 : Int))).snd < (-1 : Int) ∧
 Fits IntKind.i64 ((↑x : Int) + (1 : Int)) ∧
 ∃ (x' : Nat),
 (x' ≤ cs.length ∧ (List.take x' cs).any (badEv n r) = false) ∧
 cs.length - x' < cs.length - x ∧
 ((n = n ∧ True) ∧ (r = r ∧ True) ∧ (n = n ∧ r = r ∧ m = m ∧ True) ∧ True) ∧
 (↑x : Int) + (1 : Int) = (↑x' : Int) ∧
 (↑cs.length : Int) = (↑cs.length : Int) ∧ cs = cs ∧ cs = cs ∧ True ∧ True)))) ∧
 (¬(↑x : Int) < (↑cs.length : Int) →
 ¬(↑x : Int) < (↑cs.length : Int) ∧
 ((0 : Int) ≤ (-1 : Int) → (0 : Int) ≤ (-1 : Int) ∧ (0 : Int) ≤ (-1 : Int) ∧ ([], (2 : Int)) = serveF n r m cs) ∧
 (¬(0 : Int) ≤ (-1 : Int) →
 ¬(0 : Int) ≤ (-1 : Int) ∧
 ¬(0 : Int) ≤ (-1 : Int) ∧
 (∃ (x0 : Nat),
 x0 ≤ cs.length ∧
 ((n = n ∧ True) ∧
 (r = r ∧ True) ∧
 (n = n ∧ r = r ∧ m = m ∧ True) ∧ [] = linesTo n m cs x0 ∧ (n = n ∧ r = r ∧ m = m ∧ True ∧ True) ∧ [] = ansTo n m cs x0 ∧ True) ∧
 (0 : Int) = (↑x0 : Int) ∧ True ∧ (↑cs.length : Int) = (↑cs.length : Int) ∧ cs = cs ∧ True ∧ True ∧ True) ∧
 ∀ (x : Nat),
 x ≤ cs.length →
 ((↑x : Int) < (↑cs.length : Int) →
 (↑x : Int) < (↑cs.length : Int) ∧
 ((0 : Int) ≤ (↑x : Int) ∧ (↑x : Int) < (↑cs.length : Int)) ∧
 True ∧
 ((n = n ∧ r = r ∧ m = m ∧ True ∧ True) ∧ linesTo n m cs x = linesTo n m cs x ∧ True) ∧
 (True ∧
 ((cs.getD (↑x : Int).toNat ((0 : Int), (0 : Int))).fst = (cs.getD (↑x : Int).toNat ((0 : Int), (0 : Int))).fst ∧
 (cs.getD (↑x : Int).toNat ((0 : Int), (0 : Int))).snd = (cs.getD (↑x : Int).toNat ((0 : Int), (0 : Int))).snd ∧
 True) ∧
 True) ∧
 ((((1 : Int) ≤ n ∧ n ≤ (12 : Int)) ∧
 ((1 : Int) ≤ r ∧ r ≤ (12 : Int)) ∧ n * r ≤ (12 : Int) ∧ (1 : Int) ≤ m ∧ m ≤ (12 : Int)) ∧
 LinesOK (n * r) m (linesTo n m cs x) ∧
 ((0 : Int) ≤ (cs.getD (↑x : Int).toNat ((0 : Int), (0 : Int))).fst ∧
 (cs.getD (↑x : Int).toNat ((0 : Int), (0 : Int))).fst < n * r) ∧
 (-1 : Int) ≤ (cs.getD (↑x : Int).toNat ((0 : Int), (0 : Int))).snd ∧
 (cs.getD (↑x : Int).toNat ((0 : Int), (0 : Int))).snd < n * r) ∧
 Small ((ansTo n m cs x).length + ((0 : Nat) + (1 : Nat))) ∧
 Fits IntKind.i64 ((↑x : Int) + (1 : Int)) ∧
 ∃ (x' : Nat),
 x' ≤ cs.length ∧
 cs.length - x' < cs.length - x ∧
 ((n = n ∧ True) ∧
 (r = r ∧ True) ∧
 (n = n ∧ r = r ∧ m = m ∧ True) ∧
 (stepL n m (linesTo n m cs x)
 ((cs.getD (↑x : Int).toNat ((0 : Int), (0 : Int))).fst,
 (cs.getD (↑x : Int).toNat ((0 : Int), (0 : Int))).snd)).snd =
 linesTo n m cs x' ∧
 (n = n ∧ r = r ∧ m = m ∧ True ∧ True) ∧
 ansTo n m cs x ++
 [(stepL n m (linesTo n m cs x)
 ((cs.getD (↑x : Int).toNat ((0 : Int), (0 : Int))).fst,
 (cs.getD (↑x : Int).toNat ((0 : Int), (0 : Int))).snd)).fst] =
 ansTo n m cs x' ∧
 True) ∧
 (↑x : Int) + (1 : Int) = (↑x' : Int) ∧
 True ∧ (↑cs.length : Int) = (↑cs.length : Int) ∧ cs = cs ∧ True ∧ True ∧ True) ∧
 (¬(↑x : Int) < (↑cs.length : Int) → ¬(↑x : Int) < (↑cs.length : Int) ∧ (ansTo n m cs x, (0 : Int)) = serveF n r m cs)))))) := by
 kernel_rfl

theorem g50_eq (n : Int) (m : Int) (cs : List Ed) : g50 n m cs = (
 (∃ (x0 : Nat), x0 ≤ cs.length ∧ (True ∧ [] = ansTo n m cs x0 ∧ True) ∧ (0 : Int) = (↑x0 : Int) ∧ [] = linesTo n m cs x0 ∧ True ∧ n = n ∧ m = m ∧ cs = cs ∧ True) ∧
 ∀ (x : Nat),
 x ≤ cs.length →
 ((↑x : Int) < (↑cs.length : Int) →
 (↑x : Int) < (↑cs.length : Int) ∧
 ((0 : Int) ≤ (↑x : Int) ∧ (↑x : Int) < (↑cs.length : Int)) ∧
 ((0 : Int) ≤ m ∧ m ≤ m ∧ Small m.toNat) ∧
 (∃ (x0 : Nat),
 x0 ≤ (linesTo n m cs (↑x : Int).toNat).length ∧
 (True ∧
 ansTo n m cs x = ansTo n m cs x ∧
 ((cs.getD (↑x : Int).toNat ((0 : Int), (0 : Int))).fst = (cs.getD (↑x : Int).toNat ((0 : Int), (0 : Int))).fst ∧
 (cs.getD (↑x : Int).toNat ((0 : Int), (0 : Int))).snd = (cs.getD (↑x : Int).toNat ((0 : Int), (0 : Int))).snd ∧ True) ∧
 List.replicate m.toNat false = markS n m.toNat (cs.getD (↑x : Int).toNat ((0 : Int), (0 : Int))) (List.take x0 (linesTo n m cs (↑x : Int).toNat)) ∧
 True) ∧
 (0 : Int) = (↑x0 : Int) ∧
 (-1 : Int) = atTo (linesTo n m cs (↑x : Int).toNat) (cs.getD (↑x : Int).toNat ((0 : Int), (0 : Int))).fst x0 ∧
 false = (List.take x0 (linesTo n m cs (↑x : Int).toNat)).any (meets (cs.getD (↑x : Int).toNat ((0 : Int), (0 : Int)))) ∧
 True ∧ True ∧ (↑x : Int) = (↑x : Int) ∧ linesTo n m cs x = linesTo n m cs x ∧ True ∧ n = n ∧ m = m ∧ cs = cs ∧ True) ∧
 ∀ (x_1 : Nat),
 x_1 ≤ (linesTo n m cs (↑x : Int).toNat).length →
 ((↑x_1 : Int) < (↑(linesTo n m cs x).length : Int) →
 (↑x_1 : Int) < (↑(linesTo n m cs x).length : Int) ∧
 ((0 : Int) ≤ (↑x_1 : Int) ∧ (↑x_1 : Int) < (↑(linesTo n m cs x).length : Int)) ∧
 (((linesTo n m cs x).getD (↑x_1 : Int).toNat ((0 : Int), (0 : Int), (0 : Int))).fst = (cs.getD (↑x : Int).toNat ((0 : Int), (0 : Int))).fst →
 ((linesTo n m cs x).getD (↑x_1 : Int).toNat ((0 : Int), (0 : Int), (0 : Int))).fst = (cs.getD (↑x : Int).toNat ((0 : Int), (0 : Int))).fst ∧
 ((List.take x_1 (linesTo n m cs (↑x : Int).toNat)).any (meets (cs.getD (↑x : Int).toNat ((0 : Int), (0 : Int)))) = true →
 (List.take x_1 (linesTo n m cs (↑x : Int).toNat)).any (meets (cs.getD (↑x : Int).toNat ((0 : Int), (0 : Int)))) = true ∧
 (List.take x_1 (linesTo n m cs (↑x : Int).toNat)).any (meets (cs.getD (↑x : Int).toNat ((0 : Int), (0 : Int)))) = true ∧
 ((0 : Int) ≤ ((linesTo n m cs x).getD (↑x_1 : Int).toNat ((0 : Int), (0 : Int), (0 : Int))).fst ∧ (0 : Int) < n) ∧
 Fits IntKind.i64 (((linesTo n m cs x).getD (↑x_1 : Int).toNat ((0 : Int), (0 : Int), (0 : Int))).fst / n) ∧
 ((0 : Int) ≤ (cs.getD (↑x : Int).toNat ((0 : Int), (0 : Int))).fst ∧ (0 : Int) < n) ∧
 Fits IntKind.i64 ((cs.getD (↑x : Int).toNat ((0 : Int), (0 : Int))).fst / n) ∧
 (((linesTo n m cs x).getD (↑x_1 : Int).toNat ((0 : Int), (0 : Int), (0 : Int))).fst / n =
 (cs.getD (↑x : Int).toNat ((0 : Int), (0 : Int))).fst / n →
 ((linesTo n m cs x).getD (↑x_1 : Int).toNat ((0 : Int), (0 : Int), (0 : Int))).fst / n =
 (cs.getD (↑x : Int).toNat ((0 : Int), (0 : Int))).fst / n ∧
 ((linesTo n m cs x).getD (↑x_1 : Int).toNat ((0 : Int), (0 : Int), (0 : Int))).fst / n =
 (cs.getD (↑x : Int).toNat ((0 : Int), (0 : Int))).fst / n ∧
 ((0 : Int) ≤ ((linesTo n m cs x).getD (↑x_1 : Int).toNat ((0 : Int), (0 : Int), (0 : Int))).snd.snd ∧
 ((linesTo n m cs x).getD (↑x_1 : Int).toNat ((0 : Int), (0 : Int), (0 : Int))).snd.snd <
 (↑(markS n m.toNat (cs.getD (↑x : Int).toNat ((0 : Int), (0 : Int)))
 (List.take x_1 (linesTo n m cs (↑x : Int).toNat))).length :
 Int)) ∧
 Fits IntKind.i64 ((↑x_1 : Int) + (1 : Int)) ∧
 ∃ (x' : Nat),
 x' ≤ (linesTo n m cs (↑x : Int).toNat).length ∧
 (linesTo n m cs (↑x : Int).toNat).length - x' < (linesTo n m cs (↑x : Int).toNat).length - x_1 ∧
 (True ∧
 ansTo n m cs x = ansTo n m cs x ∧
 ((cs.getD (↑x : Int).toNat ((0 : Int), (0 : Int))).fst =
 (cs.getD (↑x : Int).toNat ((0 : Int), (0 : Int))).fst ∧
 (cs.getD (↑x : Int).toNat ((0 : Int), (0 : Int))).snd =
 (cs.getD (↑x : Int).toNat ((0 : Int), (0 : Int))).snd ∧
 True) ∧
 (markS n m.toNat (cs.getD (↑x : Int).toNat ((0 : Int), (0 : Int)))
 (List.take x_1 (linesTo n m cs (↑x : Int).toNat))).set
 ((linesTo n m cs x).getD (↑x_1 : Int).toNat ((0 : Int), (0 : Int), (0 : Int))).snd.snd.toNat
 true =
 markS n m.toNat (cs.getD (↑x : Int).toNat ((0 : Int), (0 : Int)))
 (List.take x' (linesTo n m cs (↑x : Int).toNat)) ∧
 True) ∧
 (↑x_1 : Int) + (1 : Int) = (↑x' : Int) ∧
 (↑x_1 : Int) =
 atTo (linesTo n m cs (↑x : Int).toNat) (cs.getD (↑x : Int).toNat ((0 : Int), (0 : Int))).fst x' ∧
 true =
 (List.take x' (linesTo n m cs (↑x : Int).toNat)).any
 (meets (cs.getD (↑x : Int).toNat ((0 : Int), (0 : Int)))) ∧
 True ∧
 True ∧
 (↑x : Int) = (↑x : Int) ∧
 linesTo n m cs x = linesTo n m cs x ∧ True ∧ n = n ∧ m = m ∧ cs = cs ∧ True) ∧
 (¬((linesTo n m cs x).getD (↑x_1 : Int).toNat ((0 : Int), (0 : Int), (0 : Int))).fst / n =
 (cs.getD (↑x : Int).toNat ((0 : Int), (0 : Int))).fst / n →
 ¬((linesTo n m cs x).getD (↑x_1 : Int).toNat ((0 : Int), (0 : Int), (0 : Int))).fst / n =
 (cs.getD (↑x : Int).toNat ((0 : Int), (0 : Int))).fst / n ∧
 ¬((linesTo n m cs x).getD (↑x_1 : Int).toNat ((0 : Int), (0 : Int), (0 : Int))).fst / n =
 (cs.getD (↑x : Int).toNat ((0 : Int), (0 : Int))).fst / n ∧
 ((0 : Int) ≤ (cs.getD (↑x : Int).toNat ((0 : Int), (0 : Int))).snd →
 (0 : Int) ≤ (cs.getD (↑x : Int).toNat ((0 : Int), (0 : Int))).snd ∧
 (0 : Int) ≤ (cs.getD (↑x : Int).toNat ((0 : Int), (0 : Int))).snd ∧
 ((0 : Int) ≤ ((linesTo n m cs x).getD (↑x_1 : Int).toNat ((0 : Int), (0 : Int), (0 : Int))).snd.fst ∧
 (0 : Int) < n) ∧
 Fits IntKind.i64
 (((linesTo n m cs x).getD (↑x_1 : Int).toNat ((0 : Int), (0 : Int), (0 : Int))).snd.fst / n) ∧
 ((0 : Int) ≤ (cs.getD (↑x : Int).toNat ((0 : Int), (0 : Int))).snd ∧ (0 : Int) < n) ∧
 Fits IntKind.i64 ((cs.getD (↑x : Int).toNat ((0 : Int), (0 : Int))).snd / n) ∧
 (((linesTo n m cs x).getD (↑x_1 : Int).toNat ((0 : Int), (0 : Int), (0 : Int))).snd.fst / n =
 (cs.getD (↑x : Int).toNat ((0 : Int), (0 : Int))).snd / n →
 ((linesTo n m cs x).getD (↑x_1 : Int).toNat ((0 : Int), (0 : Int), (0 : Int))).snd.fst / n =
 (cs.getD (↑x : Int).toNat ((0 : Int), (0 : Int))).snd / n ∧
 ((linesTo n m cs x).getD (↑x_1 : Int).toNat ((0 : Int), (0 : Int), (0 : Int))).snd.fst / n =
 (cs.getD (↑x : Int).toNat ((0 : Int), (0 : Int))).snd / n ∧
 ((linesTo n m cs x).getD (↑x_1 : Int).toNat ((0 : Int), (0 : Int), (0 : Int))).snd.fst / n =
 (cs.getD (↑x : Int).toNat ((0 : Int), (0 : Int))).snd / n ∧
 ((0 : Int) ≤
 ((linesTo n m cs x).getD (↑x_1 : Int).toNat ((0 : Int), (0 : Int), (0 : Int))).snd.snd ∧
 ((linesTo n m cs x).getD (↑x_1 : Int).toNat ((0 : Int), (0 : Int), (0 : Int))).snd.snd <
 (↑(markS n m.toNat (cs.getD (↑x : Int).toNat ((0 : Int), (0 : Int)))
 (List.take x_1 (linesTo n m cs (↑x : Int).toNat))).length :
 Int)) ∧
 Fits IntKind.i64 ((↑x_1 : Int) + (1 : Int)) ∧
 ∃ (x' : Nat),
 x' ≤ (linesTo n m cs (↑x : Int).toNat).length ∧
 (linesTo n m cs (↑x : Int).toNat).length - x' <
 (linesTo n m cs (↑x : Int).toNat).length - x_1 ∧
 (True ∧
 ansTo n m cs x = ansTo n m cs x ∧
 ((cs.getD (↑x : Int).toNat ((0 : Int), (0 : Int))).fst =
 (cs.getD (↑x : Int).toNat ((0 : Int), (0 : Int))).fst ∧
 (cs.getD (↑x : Int).toNat ((0 : Int), (0 : Int))).snd =
 (cs.getD (↑x : Int).toNat ((0 : Int), (0 : Int))).snd ∧
 True) ∧
 (markS n m.toNat (cs.getD (↑x : Int).toNat ((0 : Int), (0 : Int)))
 (List.take x_1 (linesTo n m cs (↑x : Int).toNat))).set
 ((linesTo n m cs x).getD (↑x_1 : Int).toNat
 ((0 : Int), (0 : Int), (0 : Int))).snd.snd.toNat
 true =
 markS n m.toNat (cs.getD (↑x : Int).toNat ((0 : Int), (0 : Int)))
 (List.take x' (linesTo n m cs (↑x : Int).toNat)) ∧
 True) ∧
 (↑x_1 : Int) + (1 : Int) = (↑x' : Int) ∧
 (↑x_1 : Int) =
 atTo (linesTo n m cs (↑x : Int).toNat)
 (cs.getD (↑x : Int).toNat ((0 : Int), (0 : Int))).fst x' ∧
 true =
 (List.take x' (linesTo n m cs (↑x : Int).toNat)).any
 (meets (cs.getD (↑x : Int).toNat ((0 : Int), (0 : Int)))) ∧
 True ∧
 True ∧
 (↑x : Int) = (↑x : Int) ∧
 linesTo n m cs x = linesTo n m cs x ∧
 True ∧ n = n ∧ m = m ∧ cs = cs ∧ True) ∧
 (¬((linesTo n m cs x).getD (↑x_1 : Int).toNat ((0 : Int), (0 : Int), (0 : Int))).snd.fst / n =
 (cs.getD (↑x : Int).toNat ((0 : Int), (0 : Int))).snd / n →
 ¬((linesTo n m cs x).getD (↑x_1 : Int).toNat ((0 : Int), (0 : Int), (0 : Int))).snd.fst / n =
 (cs.getD (↑x : Int).toNat ((0 : Int), (0 : Int))).snd / n ∧
 ¬((linesTo n m cs x).getD (↑x_1 : Int).toNat ((0 : Int), (0 : Int), (0 : Int))).snd.fst / n =
 (cs.getD (↑x : Int).toNat ((0 : Int), (0 : Int))).snd / n ∧
 ¬((linesTo n m cs x).getD (↑x_1 : Int).toNat ((0 : Int), (0 : Int), (0 : Int))).snd.fst / n =
 (cs.getD (↑x : Int).toNat ((0 : Int), (0 : Int))).snd / n ∧
 Fits IntKind.i64 ((↑x_1 : Int) + (1 : Int)) ∧
 ∃ (x' : Nat),
 x' ≤ (linesTo n m cs (↑x : Int).toNat).length ∧
 (linesTo n m cs (↑x : Int).toNat).length - x' <
 (linesTo n m cs (↑x : Int).toNat).length - x_1 ∧
 (True ∧
 ansTo n m cs x = ansTo n m cs x ∧
 ((cs.getD (↑x : Int).toNat ((0 : Int), (0 : Int))).fst =
 (cs.getD (↑x : Int).toNat ((0 : Int), (0 : Int))).fst ∧
 (cs.getD (↑x : Int).toNat ((0 : Int), (0 : Int))).snd =
 (cs.getD (↑x : Int).toNat ((0 : Int), (0 : Int))).snd ∧
 True) ∧
 markS n m.toNat (cs.getD (↑x : Int).toNat ((0 : Int), (0 : Int)))
 (List.take x_1 (linesTo n m cs (↑x : Int).toNat)) =
 markS n m.toNat (cs.getD (↑x : Int).toNat ((0 : Int), (0 : Int)))
 (List.take x' (linesTo n m cs (↑x : Int).toNat)) ∧
 True) ∧
 (↑x_1 : Int) + (1 : Int) = (↑x' : Int) ∧
 (↑x_1 : Int) =
 atTo (linesTo n m cs (↑x : Int).toNat)
 (cs.getD (↑x : Int).toNat ((0 : Int), (0 : Int))).fst x' ∧
 true =
 (List.take x' (linesTo n m cs (↑x : Int).toNat)).any
 (meets (cs.getD (↑x : Int).toNat ((0 : Int), (0 : Int)))) ∧
 True ∧
 True ∧
 (↑x : Int) = (↑x : Int) ∧
 linesTo n m cs x = linesTo n m cs x ∧
 True ∧ n = n ∧ m = m ∧ cs = cs ∧ True)) ∧
 (¬(0 : Int) ≤ (cs.getD (↑x : Int).toNat ((0 : Int), (0 : Int))).snd →
 ¬(0 : Int) ≤ (cs.getD (↑x : Int).toNat ((0 : Int), (0 : Int))).snd ∧
 ¬(0 : Int) ≤ (cs.getD (↑x : Int).toNat ((0 : Int), (0 : Int))).snd ∧
 Fits IntKind.i64 ((↑x_1 : Int) + (1 : Int)) ∧
 ∃ (x' : Nat),
 x' ≤ (linesTo n m cs (↑x : Int).toNat).length ∧
 (linesTo n m cs (↑x : Int).toNat).length - x' < (linesTo n m cs (↑x : Int).toNat).length - x_1 ∧
 (True ∧
 ansTo n m cs x = ansTo n m cs x ∧
 ((cs.getD (↑x : Int).toNat ((0 : Int), (0 : Int))).fst =
 (cs.getD (↑x : Int).toNat ((0 : Int), (0 : Int))).fst ∧
 (cs.getD (↑x : Int).toNat ((0 : Int), (0 : Int))).snd =
 (cs.getD (↑x : Int).toNat ((0 : Int), (0 : Int))).snd ∧
 True) ∧
 markS n m.toNat (cs.getD (↑x : Int).toNat ((0 : Int), (0 : Int)))
 (List.take x_1 (linesTo n m cs (↑x : Int).toNat)) =
 markS n m.toNat (cs.getD (↑x : Int).toNat ((0 : Int), (0 : Int)))
 (List.take x' (linesTo n m cs (↑x : Int).toNat)) ∧
 True) ∧
 (↑x_1 : Int) + (1 : Int) = (↑x' : Int) ∧
 (↑x_1 : Int) =
 atTo (linesTo n m cs (↑x : Int).toNat) (cs.getD (↑x : Int).toNat ((0 : Int), (0 : Int))).fst
 x' ∧
 true =
 (List.take x' (linesTo n m cs (↑x : Int).toNat)).any
 (meets (cs.getD (↑x : Int).toNat ((0 : Int), (0 : Int)))) ∧
 True ∧
 True ∧
 (↑x : Int) = (↑x : Int) ∧
 linesTo n m cs x = linesTo n m cs x ∧ True ∧ n = n ∧ m = m ∧ cs = cs ∧ True))) ∧
 ((List.take x_1 (linesTo n m cs (↑x : Int).toNat)).any (meets (cs.getD (↑x : Int).toNat ((0 : Int), (0 : Int)))) = false →
 (List.take x_1 (linesTo n m cs (↑x : Int).toNat)).any (meets (cs.getD (↑x : Int).toNat ((0 : Int), (0 : Int)))) = false ∧
 (List.take x_1 (linesTo n m cs (↑x : Int).toNat)).any (meets (cs.getD (↑x : Int).toNat ((0 : Int), (0 : Int)))) = false ∧
 (((linesTo n m cs x).getD (↑x_1 : Int).toNat ((0 : Int), (0 : Int), (0 : Int))).fst =
 (cs.getD (↑x : Int).toNat ((0 : Int), (0 : Int))).fst →
 ((linesTo n m cs x).getD (↑x_1 : Int).toNat ((0 : Int), (0 : Int), (0 : Int))).fst =
 (cs.getD (↑x : Int).toNat ((0 : Int), (0 : Int))).fst ∧
 ((linesTo n m cs x).getD (↑x_1 : Int).toNat ((0 : Int), (0 : Int), (0 : Int))).fst =
 (cs.getD (↑x : Int).toNat ((0 : Int), (0 : Int))).fst ∧
 ((linesTo n m cs x).getD (↑x_1 : Int).toNat ((0 : Int), (0 : Int), (0 : Int))).fst =
 (cs.getD (↑x : Int).toNat ((0 : Int), (0 : Int))).fst ∧
 ((0 : Int) ≤ ((linesTo n m cs x).getD (↑x_1 : Int).toNat ((0 : Int), (0 : Int), (0 : Int))).fst ∧ (0 : Int) < n) ∧
 Fits IntKind.i64 (((linesTo n m cs x).getD (↑x_1 : Int).toNat ((0 : Int), (0 : Int), (0 : Int))).fst / n) ∧
 ((0 : Int) ≤ (cs.getD (↑x : Int).toNat ((0 : Int), (0 : Int))).fst ∧ (0 : Int) < n) ∧
 Fits IntKind.i64 ((cs.getD (↑x : Int).toNat ((0 : Int), (0 : Int))).fst / n) ∧
 (((linesTo n m cs x).getD (↑x_1 : Int).toNat ((0 : Int), (0 : Int), (0 : Int))).fst / n =
 (cs.getD (↑x : Int).toNat ((0 : Int), (0 : Int))).fst / n →
 ((linesTo n m cs x).getD (↑x_1 : Int).toNat ((0 : Int), (0 : Int), (0 : Int))).fst / n =
 (cs.getD (↑x : Int).toNat ((0 : Int), (0 : Int))).fst / n ∧
 ((linesTo n m cs x).getD (↑x_1 : Int).toNat ((0 : Int), (0 : Int), (0 : Int))).fst / n =
 (cs.getD (↑x : Int).toNat ((0 : Int), (0 : Int))).fst / n ∧
 ((0 : Int) ≤ ((linesTo n m cs x).getD (↑x_1 : Int).toNat ((0 : Int), (0 : Int), (0 : Int))).snd.snd ∧
 ((linesTo n m cs x).getD (↑x_1 : Int).toNat ((0 : Int), (0 : Int), (0 : Int))).snd.snd <
 (↑(markS n m.toNat (cs.getD (↑x : Int).toNat ((0 : Int), (0 : Int)))
 (List.take x_1 (linesTo n m cs (↑x : Int).toNat))).length :
 Int)) ∧
 Fits IntKind.i64 ((↑x_1 : Int) + (1 : Int)) ∧
 ∃ (x' : Nat),
 x' ≤ (linesTo n m cs (↑x : Int).toNat).length ∧
 (linesTo n m cs (↑x : Int).toNat).length - x' < (linesTo n m cs (↑x : Int).toNat).length - x_1 ∧
 (True ∧
 ansTo n m cs x = ansTo n m cs x ∧
 ((cs.getD (↑x : Int).toNat ((0 : Int), (0 : Int))).fst =
 (cs.getD (↑x : Int).toNat ((0 : Int), (0 : Int))).fst ∧
 (cs.getD (↑x : Int).toNat ((0 : Int), (0 : Int))).snd =
 (cs.getD (↑x : Int).toNat ((0 : Int), (0 : Int))).snd ∧
 True) ∧
 (markS n m.toNat (cs.getD (↑x : Int).toNat ((0 : Int), (0 : Int)))
 (List.take x_1 (linesTo n m cs (↑x : Int).toNat))).set
 ((linesTo n m cs x).getD (↑x_1 : Int).toNat
 ((0 : Int), (0 : Int), (0 : Int))).snd.snd.toNat
 true =
 markS n m.toNat (cs.getD (↑x : Int).toNat ((0 : Int), (0 : Int)))
 (List.take x' (linesTo n m cs (↑x : Int).toNat)) ∧
 True) ∧
 (↑x_1 : Int) + (1 : Int) = (↑x' : Int) ∧
 (↑x_1 : Int) =
 atTo (linesTo n m cs (↑x : Int).toNat) (cs.getD (↑x : Int).toNat ((0 : Int), (0 : Int))).fst
 x' ∧
 true =
 (List.take x' (linesTo n m cs (↑x : Int).toNat)).any
 (meets (cs.getD (↑x : Int).toNat ((0 : Int), (0 : Int)))) ∧
 True ∧
 True ∧
 (↑x : Int) = (↑x : Int) ∧
 linesTo n m cs x = linesTo n m cs x ∧ True ∧ n = n ∧ m = m ∧ cs = cs ∧ True) ∧
 (¬((linesTo n m cs x).getD (↑x_1 : Int).toNat ((0 : Int), (0 : Int), (0 : Int))).fst / n =
 (cs.getD (↑x : Int).toNat ((0 : Int), (0 : Int))).fst / n →
 ¬((linesTo n m cs x).getD (↑x_1 : Int).toNat ((0 : Int), (0 : Int), (0 : Int))).fst / n =
 (cs.getD (↑x : Int).toNat ((0 : Int), (0 : Int))).fst / n ∧
 ¬((linesTo n m cs x).getD (↑x_1 : Int).toNat ((0 : Int), (0 : Int), (0 : Int))).fst / n =
 (cs.getD (↑x : Int).toNat ((0 : Int), (0 : Int))).fst / n ∧
 ((0 : Int) ≤ (cs.getD (↑x : Int).toNat ((0 : Int), (0 : Int))).snd →
 (0 : Int) ≤ (cs.getD (↑x : Int).toNat ((0 : Int), (0 : Int))).snd ∧
 (0 : Int) ≤ (cs.getD (↑x : Int).toNat ((0 : Int), (0 : Int))).snd ∧
 ((0 : Int) ≤ ((linesTo n m cs x).getD (↑x_1 : Int).toNat ((0 : Int), (0 : Int), (0 : Int))).snd.fst ∧
 (0 : Int) < n) ∧
 Fits IntKind.i64
 (((linesTo n m cs x).getD (↑x_1 : Int).toNat ((0 : Int), (0 : Int), (0 : Int))).snd.fst / n) ∧
 ((0 : Int) ≤ (cs.getD (↑x : Int).toNat ((0 : Int), (0 : Int))).snd ∧ (0 : Int) < n) ∧
 Fits IntKind.i64 ((cs.getD (↑x : Int).toNat ((0 : Int), (0 : Int))).snd / n) ∧
 (((linesTo n m cs x).getD (↑x_1 : Int).toNat ((0 : Int), (0 : Int), (0 : Int))).snd.fst / n =
 (cs.getD (↑x : Int).toNat ((0 : Int), (0 : Int))).snd / n →
 ((linesTo n m cs x).getD (↑x_1 : Int).toNat ((0 : Int), (0 : Int), (0 : Int))).snd.fst /
 n =
 (cs.getD (↑x : Int).toNat ((0 : Int), (0 : Int))).snd / n ∧
 ((linesTo n m cs x).getD (↑x_1 : Int).toNat ((0 : Int), (0 : Int), (0 : Int))).snd.fst /
 n =
 (cs.getD (↑x : Int).toNat ((0 : Int), (0 : Int))).snd / n ∧
 ((linesTo n m cs x).getD (↑x_1 : Int).toNat
 ((0 : Int), (0 : Int), (0 : Int))).snd.fst /
 n =
 (cs.getD (↑x : Int).toNat ((0 : Int), (0 : Int))).snd / n ∧
 ((0 : Int) ≤
 ((linesTo n m cs x).getD (↑x_1 : Int).toNat
 ((0 : Int), (0 : Int), (0 : Int))).snd.snd ∧
 ((linesTo n m cs x).getD (↑x_1 : Int).toNat
 ((0 : Int), (0 : Int), (0 : Int))).snd.snd <
 (↑(markS n m.toNat (cs.getD (↑x : Int).toNat ((0 : Int), (0 : Int)))
 (List.take x_1 (linesTo n m cs (↑x : Int).toNat))).length :
 Int)) ∧
 Fits IntKind.i64 ((↑x_1 : Int) + (1 : Int)) ∧
 ∃ (x' : Nat),
 x' ≤ (linesTo n m cs (↑x : Int).toNat).length ∧
 (linesTo n m cs (↑x : Int).toNat).length - x' <
 (linesTo n m cs (↑x : Int).toNat).length - x_1 ∧
 (True ∧
 ansTo n m cs x = ansTo n m cs x ∧
 ((cs.getD (↑x : Int).toNat ((0 : Int), (0 : Int))).fst =
 (cs.getD (↑x : Int).toNat ((0 : Int), (0 : Int))).fst ∧
 (cs.getD (↑x : Int).toNat ((0 : Int), (0 : Int))).snd =
 (cs.getD (↑x : Int).toNat ((0 : Int), (0 : Int))).snd ∧
 True) ∧
 (markS n m.toNat (cs.getD (↑x : Int).toNat ((0 : Int), (0 : Int)))
 (List.take x_1 (linesTo n m cs (↑x : Int).toNat))).set
 ((linesTo n m cs x).getD (↑x_1 : Int).toNat
 ((0 : Int), (0 : Int), (0 : Int))).snd.snd.toNat
 true =
 markS n m.toNat
 (cs.getD (↑x : Int).toNat ((0 : Int), (0 : Int)))
 (List.take x' (linesTo n m cs (↑x : Int).toNat)) ∧
 True) ∧
 (↑x_1 : Int) + (1 : Int) = (↑x' : Int) ∧
 (↑x_1 : Int) =
 atTo (linesTo n m cs (↑x : Int).toNat)
 (cs.getD (↑x : Int).toNat ((0 : Int), (0 : Int))).fst x' ∧
 true =
 (List.take x' (linesTo n m cs (↑x : Int).toNat)).any
 (meets (cs.getD (↑x : Int).toNat ((0 : Int), (0 : Int)))) ∧
 True ∧
 True ∧
 (↑x : Int) = (↑x : Int) ∧
 linesTo n m cs x = linesTo n m cs x ∧
 True ∧ n = n ∧ m = m ∧ cs = cs ∧ True) ∧
 (¬((linesTo n m cs x).getD (↑x_1 : Int).toNat ((0 : Int), (0 : Int), (0 : Int))).snd.fst /
 n =
 (cs.getD (↑x : Int).toNat ((0 : Int), (0 : Int))).snd / n →
 ¬((linesTo n m cs x).getD (↑x_1 : Int).toNat ((0 : Int), (0 : Int), (0 : Int))).snd.fst /
 n =
 (cs.getD (↑x : Int).toNat ((0 : Int), (0 : Int))).snd / n ∧
 ¬((linesTo n m cs x).getD (↑x_1 : Int).toNat
 ((0 : Int), (0 : Int), (0 : Int))).snd.fst /
 n =
 (cs.getD (↑x : Int).toNat ((0 : Int), (0 : Int))).snd / n ∧
 ¬((linesTo n m cs x).getD (↑x_1 : Int).toNat
 ((0 : Int), (0 : Int), (0 : Int))).snd.fst /
 n =
 (cs.getD (↑x : Int).toNat ((0 : Int), (0 : Int))).snd / n ∧
 Fits IntKind.i64 ((↑x_1 : Int) + (1 : Int)) ∧
 ∃ (x' : Nat),
 x' ≤ (linesTo n m cs (↑x : Int).toNat).length ∧
 (linesTo n m cs (↑x : Int).toNat).length - x' <
 (linesTo n m cs (↑x : Int).toNat).length - x_1 ∧
 (True ∧
 ansTo n m cs x = ansTo n m cs x ∧
 ((cs.getD (↑x : Int).toNat ((0 : Int), (0 : Int))).fst =
 (cs.getD (↑x : Int).toNat ((0 : Int), (0 : Int))).fst ∧
 (cs.getD (↑x : Int).toNat ((0 : Int), (0 : Int))).snd =
 (cs.getD (↑x : Int).toNat ((0 : Int), (0 : Int))).snd ∧
 True) ∧
 markS n m.toNat (cs.getD (↑x : Int).toNat ((0 : Int), (0 : Int)))
 (List.take x_1 (linesTo n m cs (↑x : Int).toNat)) =
 markS n m.toNat
 (cs.getD (↑x : Int).toNat ((0 : Int), (0 : Int)))
 (List.take x' (linesTo n m cs (↑x : Int).toNat)) ∧
 True) ∧
 (↑x_1 : Int) + (1 : Int) = (↑x' : Int) ∧
 (↑x_1 : Int) =
 atTo (linesTo n m cs (↑x : Int).toNat)
 (cs.getD (↑x : Int).toNat ((0 : Int), (0 : Int))).fst x' ∧
 true =
 (List.take x' (linesTo n m cs (↑x : Int).toNat)).any
 (meets (cs.getD (↑x : Int).toNat ((0 : Int), (0 : Int)))) ∧
 True ∧
 True ∧
 (↑x : Int) = (↑x : Int) ∧
 linesTo n m cs x = linesTo n m cs x ∧
 True ∧ n = n ∧ m = m ∧ cs = cs ∧ True)) ∧
 (¬(0 : Int) ≤ (cs.getD (↑x : Int).toNat ((0 : Int), (0 : Int))).snd →
 ¬(0 : Int) ≤ (cs.getD (↑x : Int).toNat ((0 : Int), (0 : Int))).snd ∧
 ¬(0 : Int) ≤ (cs.getD (↑x : Int).toNat ((0 : Int), (0 : Int))).snd ∧
 Fits IntKind.i64 ((↑x_1 : Int) + (1 : Int)) ∧
 ∃ (x' : Nat),
 x' ≤ (linesTo n m cs (↑x : Int).toNat).length ∧
 (linesTo n m cs (↑x : Int).toNat).length - x' < (linesTo n m cs (↑x : Int).toNat).length - x_1 ∧
 (True ∧
 ansTo n m cs x = ansTo n m cs x ∧
 ((cs.getD (↑x : Int).toNat ((0 : Int), (0 : Int))).fst =
 (cs.getD (↑x : Int).toNat ((0 : Int), (0 : Int))).fst ∧
 (cs.getD (↑x : Int).toNat ((0 : Int), (0 : Int))).snd =
 (cs.getD (↑x : Int).toNat ((0 : Int), (0 : Int))).snd ∧
 True) ∧
 markS n m.toNat (cs.getD (↑x : Int).toNat ((0 : Int), (0 : Int)))
 (List.take x_1 (linesTo n m cs (↑x : Int).toNat)) =
 markS n m.toNat (cs.getD (↑x : Int).toNat ((0 : Int), (0 : Int)))
 (List.take x' (linesTo n m cs (↑x : Int).toNat)) ∧
 True) ∧
 (↑x_1 : Int) + (1 : Int) = (↑x' : Int) ∧
 (↑x_1 : Int) =
 atTo (linesTo n m cs (↑x : Int).toNat)
 (cs.getD (↑x : Int).toNat ((0 : Int), (0 : Int))).fst x' ∧
 true =
 (List.take x' (linesTo n m cs (↑x : Int).toNat)).any
 (meets (cs.getD (↑x : Int).toNat ((0 : Int), (0 : Int)))) ∧
 True ∧
 True ∧
 (↑x : Int) = (↑x : Int) ∧
 linesTo n m cs x = linesTo n m cs x ∧ True ∧ n = n ∧ m = m ∧ cs = cs ∧ True))) ∧
 (¬((linesTo n m cs x).getD (↑x_1 : Int).toNat ((0 : Int), (0 : Int), (0 : Int))).fst =
 (cs.getD (↑x : Int).toNat ((0 : Int), (0 : Int))).fst →
 ¬((linesTo n m cs x).getD (↑x_1 : Int).toNat ((0 : Int), (0 : Int), (0 : Int))).fst =
 (cs.getD (↑x : Int).toNat ((0 : Int), (0 : Int))).fst ∧
 ¬((linesTo n m cs x).getD (↑x_1 : Int).toNat ((0 : Int), (0 : Int), (0 : Int))).fst =
 (cs.getD (↑x : Int).toNat ((0 : Int), (0 : Int))).fst ∧
 ¬((linesTo n m cs x).getD (↑x_1 : Int).toNat ((0 : Int), (0 : Int), (0 : Int))).fst =
 (cs.getD (↑x : Int).toNat ((0 : Int), (0 : Int))).fst ∧
 ((0 : Int) ≤ ((linesTo n m cs x).getD (↑x_1 : Int).toNat ((0 : Int), (0 : Int), (0 : Int))).fst ∧ (0 : Int) < n) ∧
 Fits IntKind.i64 (((linesTo n m cs x).getD (↑x_1 : Int).toNat ((0 : Int), (0 : Int), (0 : Int))).fst / n) ∧
 ((0 : Int) ≤ (cs.getD (↑x : Int).toNat ((0 : Int), (0 : Int))).fst ∧ (0 : Int) < n) ∧
 Fits IntKind.i64 ((cs.getD (↑x : Int).toNat ((0 : Int), (0 : Int))).fst / n) ∧
 (((linesTo n m cs x).getD (↑x_1 : Int).toNat ((0 : Int), (0 : Int), (0 : Int))).fst / n =
 (cs.getD (↑x : Int).toNat ((0 : Int), (0 : Int))).fst / n →
 ((linesTo n m cs x).getD (↑x_1 : Int).toNat ((0 : Int), (0 : Int), (0 : Int))).fst / n =
 (cs.getD (↑x : Int).toNat ((0 : Int), (0 : Int))).fst / n ∧
 ((linesTo n m cs x).getD (↑x_1 : Int).toNat ((0 : Int), (0 : Int), (0 : Int))).fst / n =
 (cs.getD (↑x : Int).toNat ((0 : Int), (0 : Int))).fst / n ∧
 ((0 : Int) ≤ ((linesTo n m cs x).getD (↑x_1 : Int).toNat ((0 : Int), (0 : Int), (0 : Int))).snd.snd ∧
 ((linesTo n m cs x).getD (↑x_1 : Int).toNat ((0 : Int), (0 : Int), (0 : Int))).snd.snd <
 (↑(markS n m.toNat (cs.getD (↑x : Int).toNat ((0 : Int), (0 : Int)))
 (List.take x_1 (linesTo n m cs (↑x : Int).toNat))).length :
 Int)) ∧
 Fits IntKind.i64 ((↑x_1 : Int) + (1 : Int)) ∧
 ∃ (x' : Nat),
 x' ≤ (linesTo n m cs (↑x : Int).toNat).length ∧
 (linesTo n m cs (↑x : Int).toNat).length - x' < (linesTo n m cs (↑x : Int).toNat).length - x_1 ∧
 (True ∧
 ansTo n m cs x = ansTo n m cs x ∧
 ((cs.getD (↑x : Int).toNat ((0 : Int), (0 : Int))).fst =
 (cs.getD (↑x : Int).toNat ((0 : Int), (0 : Int))).fst ∧
 (cs.getD (↑x : Int).toNat ((0 : Int), (0 : Int))).snd =
 (cs.getD (↑x : Int).toNat ((0 : Int), (0 : Int))).snd ∧
 True) ∧
 (markS n m.toNat (cs.getD (↑x : Int).toNat ((0 : Int), (0 : Int)))
 (List.take x_1 (linesTo n m cs (↑x : Int).toNat))).set
 ((linesTo n m cs x).getD (↑x_1 : Int).toNat
 ((0 : Int), (0 : Int), (0 : Int))).snd.snd.toNat
 true =
 markS n m.toNat (cs.getD (↑x : Int).toNat ((0 : Int), (0 : Int)))
 (List.take x' (linesTo n m cs (↑x : Int).toNat)) ∧
 True) ∧
 (↑x_1 : Int) + (1 : Int) = (↑x' : Int) ∧
 (↑x_1 : Int) =
 atTo (linesTo n m cs (↑x : Int).toNat) (cs.getD (↑x : Int).toNat ((0 : Int), (0 : Int))).fst
 x' ∧
 decide
 (((linesTo n m cs x).getD (↑x_1 : Int).toNat
 ((0 : Int), (0 : Int), (0 : Int))).snd.fst =
 (cs.getD (↑x : Int).toNat ((0 : Int), (0 : Int))).snd) =
 (List.take x' (linesTo n m cs (↑x : Int).toNat)).any
 (meets (cs.getD (↑x : Int).toNat ((0 : Int), (0 : Int)))) ∧
 True ∧
 True ∧
 (↑x : Int) = (↑x : Int) ∧
 linesTo n m cs x = linesTo n m cs x ∧ True ∧ n = n ∧ m = m ∧ cs = cs ∧ True) ∧
 (¬((linesTo n m cs x).getD (↑x_1 : Int).toNat ((0 : Int), (0 : Int), (0 : Int))).fst / n =
 (cs.getD (↑x : Int).toNat ((0 : Int), (0 : Int))).fst / n →
 ¬((linesTo n m cs x).getD (↑x_1 : Int).toNat ((0 : Int), (0 : Int), (0 : Int))).fst / n =
 (cs.getD (↑x : Int).toNat ((0 : Int), (0 : Int))).fst / n ∧
 ¬((linesTo n m cs x).getD (↑x_1 : Int).toNat ((0 : Int), (0 : Int), (0 : Int))).fst / n =
 (cs.getD (↑x : Int).toNat ((0 : Int), (0 : Int))).fst / n ∧
 ((0 : Int) ≤ (cs.getD (↑x : Int).toNat ((0 : Int), (0 : Int))).snd →
 (0 : Int) ≤ (cs.getD (↑x : Int).toNat ((0 : Int), (0 : Int))).snd ∧
 (0 : Int) ≤ (cs.getD (↑x : Int).toNat ((0 : Int), (0 : Int))).snd ∧
 ((0 : Int) ≤ ((linesTo n m cs x).getD (↑x_1 : Int).toNat ((0 : Int), (0 : Int), (0 : Int))).snd.fst ∧
 (0 : Int) < n) ∧
 Fits IntKind.i64
 (((linesTo n m cs x).getD (↑x_1 : Int).toNat ((0 : Int), (0 : Int), (0 : Int))).snd.fst / n) ∧
 ((0 : Int) ≤ (cs.getD (↑x : Int).toNat ((0 : Int), (0 : Int))).snd ∧ (0 : Int) < n) ∧
 Fits IntKind.i64 ((cs.getD (↑x : Int).toNat ((0 : Int), (0 : Int))).snd / n) ∧
 (((linesTo n m cs x).getD (↑x_1 : Int).toNat ((0 : Int), (0 : Int), (0 : Int))).snd.fst / n =
 (cs.getD (↑x : Int).toNat ((0 : Int), (0 : Int))).snd / n →
 ((linesTo n m cs x).getD (↑x_1 : Int).toNat ((0 : Int), (0 : Int), (0 : Int))).snd.fst /
 n =
 (cs.getD (↑x : Int).toNat ((0 : Int), (0 : Int))).snd / n ∧
 ((linesTo n m cs x).getD (↑x_1 : Int).toNat ((0 : Int), (0 : Int), (0 : Int))).snd.fst /
 n =
 (cs.getD (↑x : Int).toNat ((0 : Int), (0 : Int))).snd / n ∧
 ((linesTo n m cs x).getD (↑x_1 : Int).toNat
 ((0 : Int), (0 : Int), (0 : Int))).snd.fst /
 n =
 (cs.getD (↑x : Int).toNat ((0 : Int), (0 : Int))).snd / n ∧
 ((0 : Int) ≤
 ((linesTo n m cs x).getD (↑x_1 : Int).toNat
 ((0 : Int), (0 : Int), (0 : Int))).snd.snd ∧
 ((linesTo n m cs x).getD (↑x_1 : Int).toNat
 ((0 : Int), (0 : Int), (0 : Int))).snd.snd <
 (↑(markS n m.toNat (cs.getD (↑x : Int).toNat ((0 : Int), (0 : Int)))
 (List.take x_1 (linesTo n m cs (↑x : Int).toNat))).length :
 Int)) ∧
 Fits IntKind.i64 ((↑x_1 : Int) + (1 : Int)) ∧
 ∃ (x' : Nat),
 x' ≤ (linesTo n m cs (↑x : Int).toNat).length ∧
 (linesTo n m cs (↑x : Int).toNat).length - x' <
 (linesTo n m cs (↑x : Int).toNat).length - x_1 ∧
 (True ∧
 ansTo n m cs x = ansTo n m cs x ∧
 ((cs.getD (↑x : Int).toNat ((0 : Int), (0 : Int))).fst =
 (cs.getD (↑x : Int).toNat ((0 : Int), (0 : Int))).fst ∧
 (cs.getD (↑x : Int).toNat ((0 : Int), (0 : Int))).snd =
 (cs.getD (↑x : Int).toNat ((0 : Int), (0 : Int))).snd ∧
 True) ∧
 (markS n m.toNat (cs.getD (↑x : Int).toNat ((0 : Int), (0 : Int)))
 (List.take x_1 (linesTo n m cs (↑x : Int).toNat))).set
 ((linesTo n m cs x).getD (↑x_1 : Int).toNat
 ((0 : Int), (0 : Int), (0 : Int))).snd.snd.toNat
 true =
 markS n m.toNat
 (cs.getD (↑x : Int).toNat ((0 : Int), (0 : Int)))
 (List.take x' (linesTo n m cs (↑x : Int).toNat)) ∧
 True) ∧
 (↑x_1 : Int) + (1 : Int) = (↑x' : Int) ∧
 (↑x_1 : Int) =
 atTo (linesTo n m cs (↑x : Int).toNat)
 (cs.getD (↑x : Int).toNat ((0 : Int), (0 : Int))).fst x' ∧
 decide
 (((linesTo n m cs x).getD (↑x_1 : Int).toNat
 ((0 : Int), (0 : Int), (0 : Int))).snd.fst =
 (cs.getD (↑x : Int).toNat ((0 : Int), (0 : Int))).snd) =
 (List.take x' (linesTo n m cs (↑x : Int).toNat)).any
 (meets (cs.getD (↑x : Int).toNat ((0 : Int), (0 : Int)))) ∧
 True ∧
 True ∧
 (↑x : Int) = (↑x : Int) ∧
 linesTo n m cs x = linesTo n m cs x ∧
 True ∧ n = n ∧ m = m ∧ cs = cs ∧ True) ∧
 (¬((linesTo n m cs x).getD (↑x_1 : Int).toNat ((0 : Int), (0 : Int), (0 : Int))).snd.fst /
 n =
 (cs.getD (↑x : Int).toNat ((0 : Int), (0 : Int))).snd / n →
 ¬((linesTo n m cs x).getD (↑x_1 : Int).toNat ((0 : Int), (0 : Int), (0 : Int))).snd.fst /
 n =
 (cs.getD (↑x : Int).toNat ((0 : Int), (0 : Int))).snd / n ∧
 ¬((linesTo n m cs x).getD (↑x_1 : Int).toNat
 ((0 : Int), (0 : Int), (0 : Int))).snd.fst /
 n =
 (cs.getD (↑x : Int).toNat ((0 : Int), (0 : Int))).snd / n ∧
 ¬((linesTo n m cs x).getD (↑x_1 : Int).toNat
 ((0 : Int), (0 : Int), (0 : Int))).snd.fst /
 n =
 (cs.getD (↑x : Int).toNat ((0 : Int), (0 : Int))).snd / n ∧
 Fits IntKind.i64 ((↑x_1 : Int) + (1 : Int)) ∧
 ∃ (x' : Nat),
 x' ≤ (linesTo n m cs (↑x : Int).toNat).length ∧
 (linesTo n m cs (↑x : Int).toNat).length - x' <
 (linesTo n m cs (↑x : Int).toNat).length - x_1 ∧
 (True ∧
 ansTo n m cs x = ansTo n m cs x ∧
 ((cs.getD (↑x : Int).toNat ((0 : Int), (0 : Int))).fst =
 (cs.getD (↑x : Int).toNat ((0 : Int), (0 : Int))).fst ∧
 (cs.getD (↑x : Int).toNat ((0 : Int), (0 : Int))).snd =
 (cs.getD (↑x : Int).toNat ((0 : Int), (0 : Int))).snd ∧
 True) ∧
 markS n m.toNat (cs.getD (↑x : Int).toNat ((0 : Int), (0 : Int)))
 (List.take x_1 (linesTo n m cs (↑x : Int).toNat)) =
 markS n m.toNat
 (cs.getD (↑x : Int).toNat ((0 : Int), (0 : Int)))
 (List.take x' (linesTo n m cs (↑x : Int).toNat)) ∧
 True) ∧
 (↑x_1 : Int) + (1 : Int) = (↑x' : Int) ∧
 (↑x_1 : Int) =
 atTo (linesTo n m cs (↑x : Int).toNat)
 (cs.getD (↑x : Int).toNat ((0 : Int), (0 : Int))).fst x' ∧
 decide
 (((linesTo n m cs x).getD (↑x_1 : Int).toNat
 ((0 : Int), (0 : Int), (0 : Int))).snd.fst =
 (cs.getD (↑x : Int).toNat ((0 : Int), (0 : Int))).snd) =
 (List.take x' (linesTo n m cs (↑x : Int).toNat)).any
 (meets (cs.getD (↑x : Int).toNat ((0 : Int), (0 : Int)))) ∧
 True ∧
 True ∧
 (↑x : Int) = (↑x : Int) ∧
 linesTo n m cs x = linesTo n m cs x ∧
 True ∧ n = n ∧ m = m ∧ cs = cs ∧ True)) ∧
 (¬(0 : Int) ≤ (cs.getD (↑x : Int).toNat ((0 : Int), (0 : Int))).snd →
 ¬(0 : Int) ≤ (cs.getD (↑x : Int).toNat ((0 : Int), (0 : Int))).snd ∧
 ¬(0 : Int) ≤ (cs.getD (↑x : Int).toNat ((0 : Int), (0 : Int))).snd ∧
 Fits IntKind.i64 ((↑x_1 : Int) + (1 : Int)) ∧
 ∃ (x' : Nat),
 x' ≤ (linesTo n m cs (↑x : Int).toNat).length ∧
 (linesTo n m cs (↑x : Int).toNat).length - x' < (linesTo n m cs (↑x : Int).toNat).length - x_1 ∧
 (True ∧
 ansTo n m cs x = ansTo n m cs x ∧
 ((cs.getD (↑x : Int).toNat ((0 : Int), (0 : Int))).fst =
 (cs.getD (↑x : Int).toNat ((0 : Int), (0 : Int))).fst ∧
 (cs.getD (↑x : Int).toNat ((0 : Int), (0 : Int))).snd =
 (cs.getD (↑x : Int).toNat ((0 : Int), (0 : Int))).snd ∧
 True) ∧
 markS n m.toNat (cs.getD (↑x : Int).toNat ((0 : Int), (0 : Int)))
 (List.take x_1 (linesTo n m cs (↑x : Int).toNat)) =
 markS n m.toNat (cs.getD (↑x : Int).toNat ((0 : Int), (0 : Int)))
 (List.take x' (linesTo n m cs (↑x : Int).toNat)) ∧
 True) ∧
 (↑x_1 : Int) + (1 : Int) = (↑x' : Int) ∧
 (↑x_1 : Int) =
 atTo (linesTo n m cs (↑x : Int).toNat)
 (cs.getD (↑x : Int).toNat ((0 : Int), (0 : Int))).fst x' ∧
 decide
 (((linesTo n m cs x).getD (↑x_1 : Int).toNat
 ((0 : Int), (0 : Int), (0 : Int))).snd.fst =
 (cs.getD (↑x : Int).toNat ((0 : Int), (0 : Int))).snd) =
 (List.take x' (linesTo n m cs (↑x : Int).toNat)).any
 (meets (cs.getD (↑x : Int).toNat ((0 : Int), (0 : Int)))) ∧
 True ∧
 True ∧
 (↑x : Int) = (↑x : Int) ∧
 linesTo n m cs x = linesTo n m cs x ∧
 True ∧ n = n ∧ m = m ∧ cs = cs ∧ True))))) ∧
 (¬((linesTo n m cs x).getD (↑x_1 : Int).toNat ((0 : Int), (0 : Int), (0 : Int))).fst = (cs.getD (↑x : Int).toNat ((0 : Int), (0 : Int))).fst →
 ¬((linesTo n m cs x).getD (↑x_1 : Int).toNat ((0 : Int), (0 : Int), (0 : Int))).fst = (cs.getD (↑x : Int).toNat ((0 : Int), (0 : Int))).fst ∧
 ((List.take x_1 (linesTo n m cs (↑x : Int).toNat)).any (meets (cs.getD (↑x : Int).toNat ((0 : Int), (0 : Int)))) = true →
 (List.take x_1 (linesTo n m cs (↑x : Int).toNat)).any (meets (cs.getD (↑x : Int).toNat ((0 : Int), (0 : Int)))) = true ∧
 (List.take x_1 (linesTo n m cs (↑x : Int).toNat)).any (meets (cs.getD (↑x : Int).toNat ((0 : Int), (0 : Int)))) = true ∧
 ((0 : Int) ≤ ((linesTo n m cs x).getD (↑x_1 : Int).toNat ((0 : Int), (0 : Int), (0 : Int))).fst ∧ (0 : Int) < n) ∧
 Fits IntKind.i64 (((linesTo n m cs x).getD (↑x_1 : Int).toNat ((0 : Int), (0 : Int), (0 : Int))).fst / n) ∧
 ((0 : Int) ≤ (cs.getD (↑x : Int).toNat ((0 : Int), (0 : Int))).fst ∧ (0 : Int) < n) ∧
 Fits IntKind.i64 ((cs.getD (↑x : Int).toNat ((0 : Int), (0 : Int))).fst / n) ∧
 (((linesTo n m cs x).getD (↑x_1 : Int).toNat ((0 : Int), (0 : Int), (0 : Int))).fst / n =
 (cs.getD (↑x : Int).toNat ((0 : Int), (0 : Int))).fst / n →
 ((linesTo n m cs x).getD (↑x_1 : Int).toNat ((0 : Int), (0 : Int), (0 : Int))).fst / n =
 (cs.getD (↑x : Int).toNat ((0 : Int), (0 : Int))).fst / n ∧
 ((linesTo n m cs x).getD (↑x_1 : Int).toNat ((0 : Int), (0 : Int), (0 : Int))).fst / n =
 (cs.getD (↑x : Int).toNat ((0 : Int), (0 : Int))).fst / n ∧
 ((0 : Int) ≤ ((linesTo n m cs x).getD (↑x_1 : Int).toNat ((0 : Int), (0 : Int), (0 : Int))).snd.snd ∧
 ((linesTo n m cs x).getD (↑x_1 : Int).toNat ((0 : Int), (0 : Int), (0 : Int))).snd.snd <
 (↑(markS n m.toNat (cs.getD (↑x : Int).toNat ((0 : Int), (0 : Int)))
 (List.take x_1 (linesTo n m cs (↑x : Int).toNat))).length :
 Int)) ∧
 Fits IntKind.i64 ((↑x_1 : Int) + (1 : Int)) ∧
 ∃ (x' : Nat),
 x' ≤ (linesTo n m cs (↑x : Int).toNat).length ∧
 (linesTo n m cs (↑x : Int).toNat).length - x' < (linesTo n m cs (↑x : Int).toNat).length - x_1 ∧
 (True ∧
 ansTo n m cs x = ansTo n m cs x ∧
 ((cs.getD (↑x : Int).toNat ((0 : Int), (0 : Int))).fst =
 (cs.getD (↑x : Int).toNat ((0 : Int), (0 : Int))).fst ∧
 (cs.getD (↑x : Int).toNat ((0 : Int), (0 : Int))).snd =
 (cs.getD (↑x : Int).toNat ((0 : Int), (0 : Int))).snd ∧
 True) ∧
 (markS n m.toNat (cs.getD (↑x : Int).toNat ((0 : Int), (0 : Int)))
 (List.take x_1 (linesTo n m cs (↑x : Int).toNat))).set
 ((linesTo n m cs x).getD (↑x_1 : Int).toNat ((0 : Int), (0 : Int), (0 : Int))).snd.snd.toNat
 true =
 markS n m.toNat (cs.getD (↑x : Int).toNat ((0 : Int), (0 : Int)))
 (List.take x' (linesTo n m cs (↑x : Int).toNat)) ∧
 True) ∧
 (↑x_1 : Int) + (1 : Int) = (↑x' : Int) ∧
 atTo (linesTo n m cs (↑x : Int).toNat) (cs.getD (↑x : Int).toNat ((0 : Int), (0 : Int))).fst x_1 =
 atTo (linesTo n m cs (↑x : Int).toNat) (cs.getD (↑x : Int).toNat ((0 : Int), (0 : Int))).fst x' ∧
 true =
 (List.take x' (linesTo n m cs (↑x : Int).toNat)).any
 (meets (cs.getD (↑x : Int).toNat ((0 : Int), (0 : Int)))) ∧
 True ∧
 True ∧
 (↑x : Int) = (↑x : Int) ∧
 linesTo n m cs x = linesTo n m cs x ∧ True ∧ n = n ∧ m = m ∧ cs = cs ∧ True) ∧
 (¬((linesTo n m cs x).getD (↑x_1 : Int).toNat ((0 : Int), (0 : Int), (0 : Int))).fst / n =
 (cs.getD (↑x : Int).toNat ((0 : Int), (0 : Int))).fst / n →
 ¬((linesTo n m cs x).getD (↑x_1 : Int).toNat ((0 : Int), (0 : Int), (0 : Int))).fst / n =
 (cs.getD (↑x : Int).toNat ((0 : Int), (0 : Int))).fst / n ∧
 ¬((linesTo n m cs x).getD (↑x_1 : Int).toNat ((0 : Int), (0 : Int), (0 : Int))).fst / n =
 (cs.getD (↑x : Int).toNat ((0 : Int), (0 : Int))).fst / n ∧
 ((0 : Int) ≤ (cs.getD (↑x : Int).toNat ((0 : Int), (0 : Int))).snd →
 (0 : Int) ≤ (cs.getD (↑x : Int).toNat ((0 : Int), (0 : Int))).snd ∧
 (0 : Int) ≤ (cs.getD (↑x : Int).toNat ((0 : Int), (0 : Int))).snd ∧
 ((0 : Int) ≤ ((linesTo n m cs x).getD (↑x_1 : Int).toNat ((0 : Int), (0 : Int), (0 : Int))).snd.fst ∧
 (0 : Int) < n) ∧
 Fits IntKind.i64
 (((linesTo n m cs x).getD (↑x_1 : Int).toNat ((0 : Int), (0 : Int), (0 : Int))).snd.fst / n) ∧
 ((0 : Int) ≤ (cs.getD (↑x : Int).toNat ((0 : Int), (0 : Int))).snd ∧ (0 : Int) < n) ∧
 Fits IntKind.i64 ((cs.getD (↑x : Int).toNat ((0 : Int), (0 : Int))).snd / n) ∧
 (((linesTo n m cs x).getD (↑x_1 : Int).toNat ((0 : Int), (0 : Int), (0 : Int))).snd.fst / n =
 (cs.getD (↑x : Int).toNat ((0 : Int), (0 : Int))).snd / n →
 ((linesTo n m cs x).getD (↑x_1 : Int).toNat ((0 : Int), (0 : Int), (0 : Int))).snd.fst / n =
 (cs.getD (↑x : Int).toNat ((0 : Int), (0 : Int))).snd / n ∧
 ((linesTo n m cs x).getD (↑x_1 : Int).toNat ((0 : Int), (0 : Int), (0 : Int))).snd.fst / n =
 (cs.getD (↑x : Int).toNat ((0 : Int), (0 : Int))).snd / n ∧
 ((linesTo n m cs x).getD (↑x_1 : Int).toNat ((0 : Int), (0 : Int), (0 : Int))).snd.fst / n =
 (cs.getD (↑x : Int).toNat ((0 : Int), (0 : Int))).snd / n ∧
 ((0 : Int) ≤
 ((linesTo n m cs x).getD (↑x_1 : Int).toNat ((0 : Int), (0 : Int), (0 : Int))).snd.snd ∧
 ((linesTo n m cs x).getD (↑x_1 : Int).toNat ((0 : Int), (0 : Int), (0 : Int))).snd.snd <
 (↑(markS n m.toNat (cs.getD (↑x : Int).toNat ((0 : Int), (0 : Int)))
 (List.take x_1 (linesTo n m cs (↑x : Int).toNat))).length :
 Int)) ∧
 Fits IntKind.i64 ((↑x_1 : Int) + (1 : Int)) ∧
 ∃ (x' : Nat),
 x' ≤ (linesTo n m cs (↑x : Int).toNat).length ∧
 (linesTo n m cs (↑x : Int).toNat).length - x' <
 (linesTo n m cs (↑x : Int).toNat).length - x_1 ∧
 (True ∧
 ansTo n m cs x = ansTo n m cs x ∧
 ((cs.getD (↑x : Int).toNat ((0 : Int), (0 : Int))).fst =
 (cs.getD (↑x : Int).toNat ((0 : Int), (0 : Int))).fst ∧
 (cs.getD (↑x : Int).toNat ((0 : Int), (0 : Int))).snd =
 (cs.getD (↑x : Int).toNat ((0 : Int), (0 : Int))).snd ∧
 True) ∧
 (markS n m.toNat (cs.getD (↑x : Int).toNat ((0 : Int), (0 : Int)))
 (List.take x_1 (linesTo n m cs (↑x : Int).toNat))).set
 ((linesTo n m cs x).getD (↑x_1 : Int).toNat
 ((0 : Int), (0 : Int), (0 : Int))).snd.snd.toNat
 true =
 markS n m.toNat (cs.getD (↑x : Int).toNat ((0 : Int), (0 : Int)))
 (List.take x' (linesTo n m cs (↑x : Int).toNat)) ∧
 True) ∧
 (↑x_1 : Int) + (1 : Int) = (↑x' : Int) ∧
 atTo (linesTo n m cs (↑x : Int).toNat)
 (cs.getD (↑x : Int).toNat ((0 : Int), (0 : Int))).fst x_1 =
 atTo (linesTo n m cs (↑x : Int).toNat)
 (cs.getD (↑x : Int).toNat ((0 : Int), (0 : Int))).fst x' ∧
 true =
 (List.take x' (linesTo n m cs (↑x : Int).toNat)).any
 (meets (cs.getD (↑x : Int).toNat ((0 : Int), (0 : Int)))) ∧
 True ∧
 True ∧
 (↑x : Int) = (↑x : Int) ∧
 linesTo n m cs x = linesTo n m cs x ∧
 True ∧ n = n ∧ m = m ∧ cs = cs ∧ True) ∧
 (¬((linesTo n m cs x).getD (↑x_1 : Int).toNat ((0 : Int), (0 : Int), (0 : Int))).snd.fst / n =
 (cs.getD (↑x : Int).toNat ((0 : Int), (0 : Int))).snd / n →
 ¬((linesTo n m cs x).getD (↑x_1 : Int).toNat ((0 : Int), (0 : Int), (0 : Int))).snd.fst / n =
 (cs.getD (↑x : Int).toNat ((0 : Int), (0 : Int))).snd / n ∧
 ¬((linesTo n m cs x).getD (↑x_1 : Int).toNat ((0 : Int), (0 : Int), (0 : Int))).snd.fst / n =
 (cs.getD (↑x : Int).toNat ((0 : Int), (0 : Int))).snd / n ∧
 ¬((linesTo n m cs x).getD (↑x_1 : Int).toNat ((0 : Int), (0 : Int), (0 : Int))).snd.fst / n =
 (cs.getD (↑x : Int).toNat ((0 : Int), (0 : Int))).snd / n ∧
 Fits IntKind.i64 ((↑x_1 : Int) + (1 : Int)) ∧
 ∃ (x' : Nat),
 x' ≤ (linesTo n m cs (↑x : Int).toNat).length ∧
 (linesTo n m cs (↑x : Int).toNat).length - x' <
 (linesTo n m cs (↑x : Int).toNat).length - x_1 ∧
 (True ∧
 ansTo n m cs x = ansTo n m cs x ∧
 ((cs.getD (↑x : Int).toNat ((0 : Int), (0 : Int))).fst =
 (cs.getD (↑x : Int).toNat ((0 : Int), (0 : Int))).fst ∧
 (cs.getD (↑x : Int).toNat ((0 : Int), (0 : Int))).snd =
 (cs.getD (↑x : Int).toNat ((0 : Int), (0 : Int))).snd ∧
 True) ∧
 markS n m.toNat (cs.getD (↑x : Int).toNat ((0 : Int), (0 : Int)))
 (List.take x_1 (linesTo n m cs (↑x : Int).toNat)) =
 markS n m.toNat (cs.getD (↑x : Int).toNat ((0 : Int), (0 : Int)))
 (List.take x' (linesTo n m cs (↑x : Int).toNat)) ∧
 True) ∧
 (↑x_1 : Int) + (1 : Int) = (↑x' : Int) ∧
 atTo (linesTo n m cs (↑x : Int).toNat)
 (cs.getD (↑x : Int).toNat ((0 : Int), (0 : Int))).fst x_1 =
 atTo (linesTo n m cs (↑x : Int).toNat)
 (cs.getD (↑x : Int).toNat ((0 : Int), (0 : Int))).fst x' ∧
 true =
 (List.take x' (linesTo n m cs (↑x : Int).toNat)).any
 (meets (cs.getD (↑x : Int).toNat ((0 : Int), (0 : Int)))) ∧
 True ∧
 True ∧
 (↑x : Int) = (↑x : Int) ∧
 linesTo n m cs x = linesTo n m cs x ∧
 True ∧ n = n ∧ m = m ∧ cs = cs ∧ True)) ∧
 (¬(0 : Int) ≤ (cs.getD (↑x : Int).toNat ((0 : Int), (0 : Int))).snd →
 ¬(0 : Int) ≤ (cs.getD (↑x : Int).toNat ((0 : Int), (0 : Int))).snd ∧
 ¬(0 : Int) ≤ (cs.getD (↑x : Int).toNat ((0 : Int), (0 : Int))).snd ∧
 Fits IntKind.i64 ((↑x_1 : Int) + (1 : Int)) ∧
 ∃ (x' : Nat),
 x' ≤ (linesTo n m cs (↑x : Int).toNat).length ∧
 (linesTo n m cs (↑x : Int).toNat).length - x' < (linesTo n m cs (↑x : Int).toNat).length - x_1 ∧
 (True ∧
 ansTo n m cs x = ansTo n m cs x ∧
 ((cs.getD (↑x : Int).toNat ((0 : Int), (0 : Int))).fst =
 (cs.getD (↑x : Int).toNat ((0 : Int), (0 : Int))).fst ∧
 (cs.getD (↑x : Int).toNat ((0 : Int), (0 : Int))).snd =
 (cs.getD (↑x : Int).toNat ((0 : Int), (0 : Int))).snd ∧
 True) ∧
 markS n m.toNat (cs.getD (↑x : Int).toNat ((0 : Int), (0 : Int)))
 (List.take x_1 (linesTo n m cs (↑x : Int).toNat)) =
 markS n m.toNat (cs.getD (↑x : Int).toNat ((0 : Int), (0 : Int)))
 (List.take x' (linesTo n m cs (↑x : Int).toNat)) ∧
 True) ∧
 (↑x_1 : Int) + (1 : Int) = (↑x' : Int) ∧
 atTo (linesTo n m cs (↑x : Int).toNat) (cs.getD (↑x : Int).toNat ((0 : Int), (0 : Int))).fst x_1 =
 atTo (linesTo n m cs (↑x : Int).toNat) (cs.getD (↑x : Int).toNat ((0 : Int), (0 : Int))).fst
 x' ∧
 true =
 (List.take x' (linesTo n m cs (↑x : Int).toNat)).any
 (meets (cs.getD (↑x : Int).toNat ((0 : Int), (0 : Int)))) ∧
 True ∧
 True ∧
 (↑x : Int) = (↑x : Int) ∧
 linesTo n m cs x = linesTo n m cs x ∧ True ∧ n = n ∧ m = m ∧ cs = cs ∧ True))) ∧
 ((List.take x_1 (linesTo n m cs (↑x : Int).toNat)).any (meets (cs.getD (↑x : Int).toNat ((0 : Int), (0 : Int)))) = false →
 (List.take x_1 (linesTo n m cs (↑x : Int).toNat)).any (meets (cs.getD (↑x : Int).toNat ((0 : Int), (0 : Int)))) = false ∧
 (List.take x_1 (linesTo n m cs (↑x : Int).toNat)).any (meets (cs.getD (↑x : Int).toNat ((0 : Int), (0 : Int)))) = false ∧
 (((linesTo n m cs x).getD (↑x_1 : Int).toNat ((0 : Int), (0 : Int), (0 : Int))).fst =
 (cs.getD (↑x : Int).toNat ((0 : Int), (0 : Int))).fst →
 ((linesTo n m cs x).getD (↑x_1 : Int).toNat ((0 : Int), (0 : Int), (0 : Int))).fst =
 (cs.getD (↑x : Int).toNat ((0 : Int), (0 : Int))).fst ∧
 ((linesTo n m cs x).getD (↑x_1 : Int).toNat ((0 : Int), (0 : Int), (0 : Int))).fst =
 (cs.getD (↑x : Int).toNat ((0 : Int), (0 : Int))).fst ∧
 ((linesTo n m cs x).getD (↑x_1 : Int).toNat ((0 : Int), (0 : Int), (0 : Int))).fst =
 (cs.getD (↑x : Int).toNat ((0 : Int), (0 : Int))).fst ∧
 ((0 : Int) ≤ ((linesTo n m cs x).getD (↑x_1 : Int).toNat ((0 : Int), (0 : Int), (0 : Int))).fst ∧ (0 : Int) < n) ∧
 Fits IntKind.i64 (((linesTo n m cs x).getD (↑x_1 : Int).toNat ((0 : Int), (0 : Int), (0 : Int))).fst / n) ∧
 ((0 : Int) ≤ (cs.getD (↑x : Int).toNat ((0 : Int), (0 : Int))).fst ∧ (0 : Int) < n) ∧
 Fits IntKind.i64 ((cs.getD (↑x : Int).toNat ((0 : Int), (0 : Int))).fst / n) ∧
 (((linesTo n m cs x).getD (↑x_1 : Int).toNat ((0 : Int), (0 : Int), (0 : Int))).fst / n =
 (cs.getD (↑x : Int).toNat ((0 : Int), (0 : Int))).fst / n →
 ((linesTo n m cs x).getD (↑x_1 : Int).toNat ((0 : Int), (0 : Int), (0 : Int))).fst / n =
 (cs.getD (↑x : Int).toNat ((0 : Int), (0 : Int))).fst / n ∧
 ((linesTo n m cs x).getD (↑x_1 : Int).toNat ((0 : Int), (0 : Int), (0 : Int))).fst / n =
 (cs.getD (↑x : Int).toNat ((0 : Int), (0 : Int))).fst / n ∧
 ((0 : Int) ≤ ((linesTo n m cs x).getD (↑x_1 : Int).toNat ((0 : Int), (0 : Int), (0 : Int))).snd.snd ∧
 ((linesTo n m cs x).getD (↑x_1 : Int).toNat ((0 : Int), (0 : Int), (0 : Int))).snd.snd <
 (↑(markS n m.toNat (cs.getD (↑x : Int).toNat ((0 : Int), (0 : Int)))
 (List.take x_1 (linesTo n m cs (↑x : Int).toNat))).length :
 Int)) ∧
 Fits IntKind.i64 ((↑x_1 : Int) + (1 : Int)) ∧
 ∃ (x' : Nat),
 x' ≤ (linesTo n m cs (↑x : Int).toNat).length ∧
 (linesTo n m cs (↑x : Int).toNat).length - x' < (linesTo n m cs (↑x : Int).toNat).length - x_1 ∧
 (True ∧
 ansTo n m cs x = ansTo n m cs x ∧
 ((cs.getD (↑x : Int).toNat ((0 : Int), (0 : Int))).fst =
 (cs.getD (↑x : Int).toNat ((0 : Int), (0 : Int))).fst ∧
 (cs.getD (↑x : Int).toNat ((0 : Int), (0 : Int))).snd =
 (cs.getD (↑x : Int).toNat ((0 : Int), (0 : Int))).snd ∧
 True) ∧
 (markS n m.toNat (cs.getD (↑x : Int).toNat ((0 : Int), (0 : Int)))
 (List.take x_1 (linesTo n m cs (↑x : Int).toNat))).set
 ((linesTo n m cs x).getD (↑x_1 : Int).toNat
 ((0 : Int), (0 : Int), (0 : Int))).snd.snd.toNat
 true =
 markS n m.toNat (cs.getD (↑x : Int).toNat ((0 : Int), (0 : Int)))
 (List.take x' (linesTo n m cs (↑x : Int).toNat)) ∧
 True) ∧
 (↑x_1 : Int) + (1 : Int) = (↑x' : Int) ∧
 atTo (linesTo n m cs (↑x : Int).toNat) (cs.getD (↑x : Int).toNat ((0 : Int), (0 : Int))).fst
 x_1 =
 atTo (linesTo n m cs (↑x : Int).toNat) (cs.getD (↑x : Int).toNat ((0 : Int), (0 : Int))).fst
 x' ∧
 true =
 (List.take x' (linesTo n m cs (↑x : Int).toNat)).any
 (meets (cs.getD (↑x : Int).toNat ((0 : Int), (0 : Int)))) ∧
 True ∧
 True ∧
 (↑x : Int) = (↑x : Int) ∧
 linesTo n m cs x = linesTo n m cs x ∧ True ∧ n = n ∧ m = m ∧ cs = cs ∧ True) ∧
 (¬((linesTo n m cs x).getD (↑x_1 : Int).toNat ((0 : Int), (0 : Int), (0 : Int))).fst / n =
 (cs.getD (↑x : Int).toNat ((0 : Int), (0 : Int))).fst / n →
 ¬((linesTo n m cs x).getD (↑x_1 : Int).toNat ((0 : Int), (0 : Int), (0 : Int))).fst / n =
 (cs.getD (↑x : Int).toNat ((0 : Int), (0 : Int))).fst / n ∧
 ¬((linesTo n m cs x).getD (↑x_1 : Int).toNat ((0 : Int), (0 : Int), (0 : Int))).fst / n =
 (cs.getD (↑x : Int).toNat ((0 : Int), (0 : Int))).fst / n ∧
 ((0 : Int) ≤ (cs.getD (↑x : Int).toNat ((0 : Int), (0 : Int))).snd →
 (0 : Int) ≤ (cs.getD (↑x : Int).toNat ((0 : Int), (0 : Int))).snd ∧
 (0 : Int) ≤ (cs.getD (↑x : Int).toNat ((0 : Int), (0 : Int))).snd ∧
 ((0 : Int) ≤ ((linesTo n m cs x).getD (↑x_1 : Int).toNat ((0 : Int), (0 : Int), (0 : Int))).snd.fst ∧
 (0 : Int) < n) ∧
 Fits IntKind.i64
 (((linesTo n m cs x).getD (↑x_1 : Int).toNat ((0 : Int), (0 : Int), (0 : Int))).snd.fst / n) ∧
 ((0 : Int) ≤ (cs.getD (↑x : Int).toNat ((0 : Int), (0 : Int))).snd ∧ (0 : Int) < n) ∧
 Fits IntKind.i64 ((cs.getD (↑x : Int).toNat ((0 : Int), (0 : Int))).snd / n) ∧
 (((linesTo n m cs x).getD (↑x_1 : Int).toNat ((0 : Int), (0 : Int), (0 : Int))).snd.fst / n =
 (cs.getD (↑x : Int).toNat ((0 : Int), (0 : Int))).snd / n →
 ((linesTo n m cs x).getD (↑x_1 : Int).toNat ((0 : Int), (0 : Int), (0 : Int))).snd.fst /
 n =
 (cs.getD (↑x : Int).toNat ((0 : Int), (0 : Int))).snd / n ∧
 ((linesTo n m cs x).getD (↑x_1 : Int).toNat ((0 : Int), (0 : Int), (0 : Int))).snd.fst /
 n =
 (cs.getD (↑x : Int).toNat ((0 : Int), (0 : Int))).snd / n ∧
 ((linesTo n m cs x).getD (↑x_1 : Int).toNat
 ((0 : Int), (0 : Int), (0 : Int))).snd.fst /
 n =
 (cs.getD (↑x : Int).toNat ((0 : Int), (0 : Int))).snd / n ∧
 ((0 : Int) ≤
 ((linesTo n m cs x).getD (↑x_1 : Int).toNat
 ((0 : Int), (0 : Int), (0 : Int))).snd.snd ∧
 ((linesTo n m cs x).getD (↑x_1 : Int).toNat
 ((0 : Int), (0 : Int), (0 : Int))).snd.snd <
 (↑(markS n m.toNat (cs.getD (↑x : Int).toNat ((0 : Int), (0 : Int)))
 (List.take x_1 (linesTo n m cs (↑x : Int).toNat))).length :
 Int)) ∧
 Fits IntKind.i64 ((↑x_1 : Int) + (1 : Int)) ∧
 ∃ (x' : Nat),
 x' ≤ (linesTo n m cs (↑x : Int).toNat).length ∧
 (linesTo n m cs (↑x : Int).toNat).length - x' <
 (linesTo n m cs (↑x : Int).toNat).length - x_1 ∧
 (True ∧
 ansTo n m cs x = ansTo n m cs x ∧
 ((cs.getD (↑x : Int).toNat ((0 : Int), (0 : Int))).fst =
 (cs.getD (↑x : Int).toNat ((0 : Int), (0 : Int))).fst ∧
 (cs.getD (↑x : Int).toNat ((0 : Int), (0 : Int))).snd =
 (cs.getD (↑x : Int).toNat ((0 : Int), (0 : Int))).snd ∧
 True) ∧
 (markS n m.toNat (cs.getD (↑x : Int).toNat ((0 : Int), (0 : Int)))
 (List.take x_1 (linesTo n m cs (↑x : Int).toNat))).set
 ((linesTo n m cs x).getD (↑x_1 : Int).toNat
 ((0 : Int), (0 : Int), (0 : Int))).snd.snd.toNat
 true =
 markS n m.toNat
 (cs.getD (↑x : Int).toNat ((0 : Int), (0 : Int)))
 (List.take x' (linesTo n m cs (↑x : Int).toNat)) ∧
 True) ∧
 (↑x_1 : Int) + (1 : Int) = (↑x' : Int) ∧
 atTo (linesTo n m cs (↑x : Int).toNat)
 (cs.getD (↑x : Int).toNat ((0 : Int), (0 : Int))).fst x_1 =
 atTo (linesTo n m cs (↑x : Int).toNat)
 (cs.getD (↑x : Int).toNat ((0 : Int), (0 : Int))).fst x' ∧
 true =
 (List.take x' (linesTo n m cs (↑x : Int).toNat)).any
 (meets (cs.getD (↑x : Int).toNat ((0 : Int), (0 : Int)))) ∧
 True ∧
 True ∧
 (↑x : Int) = (↑x : Int) ∧
 linesTo n m cs x = linesTo n m cs x ∧
 True ∧ n = n ∧ m = m ∧ cs = cs ∧ True) ∧
 (¬((linesTo n m cs x).getD (↑x_1 : Int).toNat ((0 : Int), (0 : Int), (0 : Int))).snd.fst /
 n =
 (cs.getD (↑x : Int).toNat ((0 : Int), (0 : Int))).snd / n →
 ¬((linesTo n m cs x).getD (↑x_1 : Int).toNat ((0 : Int), (0 : Int), (0 : Int))).snd.fst /
 n =
 (cs.getD (↑x : Int).toNat ((0 : Int), (0 : Int))).snd / n ∧
 ¬((linesTo n m cs x).getD (↑x_1 : Int).toNat
 ((0 : Int), (0 : Int), (0 : Int))).snd.fst /
 n =
 (cs.getD (↑x : Int).toNat ((0 : Int), (0 : Int))).snd / n ∧
 ¬((linesTo n m cs x).getD (↑x_1 : Int).toNat
 ((0 : Int), (0 : Int), (0 : Int))).snd.fst /
 n =
 (cs.getD (↑x : Int).toNat ((0 : Int), (0 : Int))).snd / n ∧
 Fits IntKind.i64 ((↑x_1 : Int) + (1 : Int)) ∧
 ∃ (x' : Nat),
 x' ≤ (linesTo n m cs (↑x : Int).toNat).length ∧
 (linesTo n m cs (↑x : Int).toNat).length - x' <
 (linesTo n m cs (↑x : Int).toNat).length - x_1 ∧
 (True ∧
 ansTo n m cs x = ansTo n m cs x ∧
 ((cs.getD (↑x : Int).toNat ((0 : Int), (0 : Int))).fst =
 (cs.getD (↑x : Int).toNat ((0 : Int), (0 : Int))).fst ∧
 (cs.getD (↑x : Int).toNat ((0 : Int), (0 : Int))).snd =
 (cs.getD (↑x : Int).toNat ((0 : Int), (0 : Int))).snd ∧
 True) ∧
 markS n m.toNat (cs.getD (↑x : Int).toNat ((0 : Int), (0 : Int)))
 (List.take x_1 (linesTo n m cs (↑x : Int).toNat)) =
 markS n m.toNat
 (cs.getD (↑x : Int).toNat ((0 : Int), (0 : Int)))
 (List.take x' (linesTo n m cs (↑x : Int).toNat)) ∧
 True) ∧
 (↑x_1 : Int) + (1 : Int) = (↑x' : Int) ∧
 atTo (linesTo n m cs (↑x : Int).toNat)
 (cs.getD (↑x : Int).toNat ((0 : Int), (0 : Int))).fst x_1 =
 atTo (linesTo n m cs (↑x : Int).toNat)
 (cs.getD (↑x : Int).toNat ((0 : Int), (0 : Int))).fst x' ∧
 true =
 (List.take x' (linesTo n m cs (↑x : Int).toNat)).any
 (meets (cs.getD (↑x : Int).toNat ((0 : Int), (0 : Int)))) ∧
 True ∧
 True ∧
 (↑x : Int) = (↑x : Int) ∧
 linesTo n m cs x = linesTo n m cs x ∧
 True ∧ n = n ∧ m = m ∧ cs = cs ∧ True)) ∧
 (¬(0 : Int) ≤ (cs.getD (↑x : Int).toNat ((0 : Int), (0 : Int))).snd →
 ¬(0 : Int) ≤ (cs.getD (↑x : Int).toNat ((0 : Int), (0 : Int))).snd ∧
 ¬(0 : Int) ≤ (cs.getD (↑x : Int).toNat ((0 : Int), (0 : Int))).snd ∧
 Fits IntKind.i64 ((↑x_1 : Int) + (1 : Int)) ∧
 ∃ (x' : Nat),
 x' ≤ (linesTo n m cs (↑x : Int).toNat).length ∧
 (linesTo n m cs (↑x : Int).toNat).length - x' < (linesTo n m cs (↑x : Int).toNat).length - x_1 ∧
 (True ∧
 ansTo n m cs x = ansTo n m cs x ∧
 ((cs.getD (↑x : Int).toNat ((0 : Int), (0 : Int))).fst =
 (cs.getD (↑x : Int).toNat ((0 : Int), (0 : Int))).fst ∧
 (cs.getD (↑x : Int).toNat ((0 : Int), (0 : Int))).snd =
 (cs.getD (↑x : Int).toNat ((0 : Int), (0 : Int))).snd ∧
 True) ∧
 markS n m.toNat (cs.getD (↑x : Int).toNat ((0 : Int), (0 : Int)))
 (List.take x_1 (linesTo n m cs (↑x : Int).toNat)) =
 markS n m.toNat (cs.getD (↑x : Int).toNat ((0 : Int), (0 : Int)))
 (List.take x' (linesTo n m cs (↑x : Int).toNat)) ∧
 True) ∧
 (↑x_1 : Int) + (1 : Int) = (↑x' : Int) ∧
 atTo (linesTo n m cs (↑x : Int).toNat)
 (cs.getD (↑x : Int).toNat ((0 : Int), (0 : Int))).fst x_1 =
 atTo (linesTo n m cs (↑x : Int).toNat)
 (cs.getD (↑x : Int).toNat ((0 : Int), (0 : Int))).fst x' ∧
 true =
 (List.take x' (linesTo n m cs (↑x : Int).toNat)).any
 (meets (cs.getD (↑x : Int).toNat ((0 : Int), (0 : Int)))) ∧
 True ∧
 True ∧
 (↑x : Int) = (↑x : Int) ∧
 linesTo n m cs x = linesTo n m cs x ∧ True ∧ n = n ∧ m = m ∧ cs = cs ∧ True))) ∧
 (¬((linesTo n m cs x).getD (↑x_1 : Int).toNat ((0 : Int), (0 : Int), (0 : Int))).fst =
 (cs.getD (↑x : Int).toNat ((0 : Int), (0 : Int))).fst →
 ¬((linesTo n m cs x).getD (↑x_1 : Int).toNat ((0 : Int), (0 : Int), (0 : Int))).fst =
 (cs.getD (↑x : Int).toNat ((0 : Int), (0 : Int))).fst ∧
 ¬((linesTo n m cs x).getD (↑x_1 : Int).toNat ((0 : Int), (0 : Int), (0 : Int))).fst =
 (cs.getD (↑x : Int).toNat ((0 : Int), (0 : Int))).fst ∧
 ¬((linesTo n m cs x).getD (↑x_1 : Int).toNat ((0 : Int), (0 : Int), (0 : Int))).fst =
 (cs.getD (↑x : Int).toNat ((0 : Int), (0 : Int))).fst ∧
 ((0 : Int) ≤ ((linesTo n m cs x).getD (↑x_1 : Int).toNat ((0 : Int), (0 : Int), (0 : Int))).fst ∧ (0 : Int) < n) ∧
 Fits IntKind.i64 (((linesTo n m cs x).getD (↑x_1 : Int).toNat ((0 : Int), (0 : Int), (0 : Int))).fst / n) ∧
 ((0 : Int) ≤ (cs.getD (↑x : Int).toNat ((0 : Int), (0 : Int))).fst ∧ (0 : Int) < n) ∧
 Fits IntKind.i64 ((cs.getD (↑x : Int).toNat ((0 : Int), (0 : Int))).fst / n) ∧
 (((linesTo n m cs x).getD (↑x_1 : Int).toNat ((0 : Int), (0 : Int), (0 : Int))).fst / n =
 (cs.getD (↑x : Int).toNat ((0 : Int), (0 : Int))).fst / n →
 ((linesTo n m cs x).getD (↑x_1 : Int).toNat ((0 : Int), (0 : Int), (0 : Int))).fst / n =
 (cs.getD (↑x : Int).toNat ((0 : Int), (0 : Int))).fst / n ∧
 ((linesTo n m cs x).getD (↑x_1 : Int).toNat ((0 : Int), (0 : Int), (0 : Int))).fst / n =
 (cs.getD (↑x : Int).toNat ((0 : Int), (0 : Int))).fst / n ∧
 ((0 : Int) ≤ ((linesTo n m cs x).getD (↑x_1 : Int).toNat ((0 : Int), (0 : Int), (0 : Int))).snd.snd ∧
 ((linesTo n m cs x).getD (↑x_1 : Int).toNat ((0 : Int), (0 : Int), (0 : Int))).snd.snd <
 (↑(markS n m.toNat (cs.getD (↑x : Int).toNat ((0 : Int), (0 : Int)))
 (List.take x_1 (linesTo n m cs (↑x : Int).toNat))).length :
 Int)) ∧
 Fits IntKind.i64 ((↑x_1 : Int) + (1 : Int)) ∧
 ∃ (x' : Nat),
 x' ≤ (linesTo n m cs (↑x : Int).toNat).length ∧
 (linesTo n m cs (↑x : Int).toNat).length - x' < (linesTo n m cs (↑x : Int).toNat).length - x_1 ∧
 (True ∧
 ansTo n m cs x = ansTo n m cs x ∧
 ((cs.getD (↑x : Int).toNat ((0 : Int), (0 : Int))).fst =
 (cs.getD (↑x : Int).toNat ((0 : Int), (0 : Int))).fst ∧
 (cs.getD (↑x : Int).toNat ((0 : Int), (0 : Int))).snd =
 (cs.getD (↑x : Int).toNat ((0 : Int), (0 : Int))).snd ∧
 True) ∧
 (markS n m.toNat (cs.getD (↑x : Int).toNat ((0 : Int), (0 : Int)))
 (List.take x_1 (linesTo n m cs (↑x : Int).toNat))).set
 ((linesTo n m cs x).getD (↑x_1 : Int).toNat
 ((0 : Int), (0 : Int), (0 : Int))).snd.snd.toNat
 true =
 markS n m.toNat (cs.getD (↑x : Int).toNat ((0 : Int), (0 : Int)))
 (List.take x' (linesTo n m cs (↑x : Int).toNat)) ∧
 True) ∧
 (↑x_1 : Int) + (1 : Int) = (↑x' : Int) ∧
 atTo (linesTo n m cs (↑x : Int).toNat) (cs.getD (↑x : Int).toNat ((0 : Int), (0 : Int))).fst
 x_1 =
 atTo (linesTo n m cs (↑x : Int).toNat) (cs.getD (↑x : Int).toNat ((0 : Int), (0 : Int))).fst
 x' ∧
 decide
 (((linesTo n m cs x).getD (↑x_1 : Int).toNat
 ((0 : Int), (0 : Int), (0 : Int))).snd.fst =
 (cs.getD (↑x : Int).toNat ((0 : Int), (0 : Int))).snd) =
 (List.take x' (linesTo n m cs (↑x : Int).toNat)).any
 (meets (cs.getD (↑x : Int).toNat ((0 : Int), (0 : Int)))) ∧
 True ∧
 True ∧
 (↑x : Int) = (↑x : Int) ∧
 linesTo n m cs x = linesTo n m cs x ∧ True ∧ n = n ∧ m = m ∧ cs = cs ∧ True) ∧
 (¬((linesTo n m cs x).getD (↑x_1 : Int).toNat ((0 : Int), (0 : Int), (0 : Int))).fst / n =
 (cs.getD (↑x : Int).toNat ((0 : Int), (0 : Int))).fst / n →
 ¬((linesTo n m cs x).getD (↑x_1 : Int).toNat ((0 : Int), (0 : Int), (0 : Int))).fst / n =
 (cs.getD (↑x : Int).toNat ((0 : Int), (0 : Int))).fst / n ∧
 ¬((linesTo n m cs x).getD (↑x_1 : Int).toNat ((0 : Int), (0 : Int), (0 : Int))).fst / n =
 (cs.getD (↑x : Int).toNat ((0 : Int), (0 : Int))).fst / n ∧
 ((0 : Int) ≤ (cs.getD (↑x : Int).toNat ((0 : Int), (0 : Int))).snd →
 (0 : Int) ≤ (cs.getD (↑x : Int).toNat ((0 : Int), (0 : Int))).snd ∧
 (0 : Int) ≤ (cs.getD (↑x : Int).toNat ((0 : Int), (0 : Int))).snd ∧
 ((0 : Int) ≤ ((linesTo n m cs x).getD (↑x_1 : Int).toNat ((0 : Int), (0 : Int), (0 : Int))).snd.fst ∧
 (0 : Int) < n) ∧
 Fits IntKind.i64
 (((linesTo n m cs x).getD (↑x_1 : Int).toNat ((0 : Int), (0 : Int), (0 : Int))).snd.fst / n) ∧
 ((0 : Int) ≤ (cs.getD (↑x : Int).toNat ((0 : Int), (0 : Int))).snd ∧ (0 : Int) < n) ∧
 Fits IntKind.i64 ((cs.getD (↑x : Int).toNat ((0 : Int), (0 : Int))).snd / n) ∧
 (((linesTo n m cs x).getD (↑x_1 : Int).toNat ((0 : Int), (0 : Int), (0 : Int))).snd.fst / n =
 (cs.getD (↑x : Int).toNat ((0 : Int), (0 : Int))).snd / n →
 ((linesTo n m cs x).getD (↑x_1 : Int).toNat ((0 : Int), (0 : Int), (0 : Int))).snd.fst /
 n =
 (cs.getD (↑x : Int).toNat ((0 : Int), (0 : Int))).snd / n ∧
 ((linesTo n m cs x).getD (↑x_1 : Int).toNat ((0 : Int), (0 : Int), (0 : Int))).snd.fst /
 n =
 (cs.getD (↑x : Int).toNat ((0 : Int), (0 : Int))).snd / n ∧
 ((linesTo n m cs x).getD (↑x_1 : Int).toNat
 ((0 : Int), (0 : Int), (0 : Int))).snd.fst /
 n =
 (cs.getD (↑x : Int).toNat ((0 : Int), (0 : Int))).snd / n ∧
 ((0 : Int) ≤
 ((linesTo n m cs x).getD (↑x_1 : Int).toNat
 ((0 : Int), (0 : Int), (0 : Int))).snd.snd ∧
 ((linesTo n m cs x).getD (↑x_1 : Int).toNat
 ((0 : Int), (0 : Int), (0 : Int))).snd.snd <
 (↑(markS n m.toNat (cs.getD (↑x : Int).toNat ((0 : Int), (0 : Int)))
 (List.take x_1 (linesTo n m cs (↑x : Int).toNat))).length :
 Int)) ∧
 Fits IntKind.i64 ((↑x_1 : Int) + (1 : Int)) ∧
 ∃ (x' : Nat),
 x' ≤ (linesTo n m cs (↑x : Int).toNat).length ∧
 (linesTo n m cs (↑x : Int).toNat).length - x' <
 (linesTo n m cs (↑x : Int).toNat).length - x_1 ∧
 (True ∧
 ansTo n m cs x = ansTo n m cs x ∧
 ((cs.getD (↑x : Int).toNat ((0 : Int), (0 : Int))).fst =
 (cs.getD (↑x : Int).toNat ((0 : Int), (0 : Int))).fst ∧
 (cs.getD (↑x : Int).toNat ((0 : Int), (0 : Int))).snd =
 (cs.getD (↑x : Int).toNat ((0 : Int), (0 : Int))).snd ∧
 True) ∧
 (markS n m.toNat (cs.getD (↑x : Int).toNat ((0 : Int), (0 : Int)))
 (List.take x_1 (linesTo n m cs (↑x : Int).toNat))).set
 ((linesTo n m cs x).getD (↑x_1 : Int).toNat
 ((0 : Int), (0 : Int), (0 : Int))).snd.snd.toNat
 true =
 markS n m.toNat
 (cs.getD (↑x : Int).toNat ((0 : Int), (0 : Int)))
 (List.take x' (linesTo n m cs (↑x : Int).toNat)) ∧
 True) ∧
 (↑x_1 : Int) + (1 : Int) = (↑x' : Int) ∧
 atTo (linesTo n m cs (↑x : Int).toNat)
 (cs.getD (↑x : Int).toNat ((0 : Int), (0 : Int))).fst x_1 =
 atTo (linesTo n m cs (↑x : Int).toNat)
 (cs.getD (↑x : Int).toNat ((0 : Int), (0 : Int))).fst x' ∧
 decide
 (((linesTo n m cs x).getD (↑x_1 : Int).toNat
 ((0 : Int), (0 : Int), (0 : Int))).snd.fst =
 (cs.getD (↑x : Int).toNat ((0 : Int), (0 : Int))).snd) =
 (List.take x' (linesTo n m cs (↑x : Int).toNat)).any
 (meets (cs.getD (↑x : Int).toNat ((0 : Int), (0 : Int)))) ∧
 True ∧
 True ∧
 (↑x : Int) = (↑x : Int) ∧
 linesTo n m cs x = linesTo n m cs x ∧
 True ∧ n = n ∧ m = m ∧ cs = cs ∧ True) ∧
 (¬((linesTo n m cs x).getD (↑x_1 : Int).toNat ((0 : Int), (0 : Int), (0 : Int))).snd.fst /
 n =
 (cs.getD (↑x : Int).toNat ((0 : Int), (0 : Int))).snd / n →
 ¬((linesTo n m cs x).getD (↑x_1 : Int).toNat ((0 : Int), (0 : Int), (0 : Int))).snd.fst /
 n =
 (cs.getD (↑x : Int).toNat ((0 : Int), (0 : Int))).snd / n ∧
 ¬((linesTo n m cs x).getD (↑x_1 : Int).toNat
 ((0 : Int), (0 : Int), (0 : Int))).snd.fst /
 n =
 (cs.getD (↑x : Int).toNat ((0 : Int), (0 : Int))).snd / n ∧
 ¬((linesTo n m cs x).getD (↑x_1 : Int).toNat
 ((0 : Int), (0 : Int), (0 : Int))).snd.fst /
 n =
 (cs.getD (↑x : Int).toNat ((0 : Int), (0 : Int))).snd / n ∧
 Fits IntKind.i64 ((↑x_1 : Int) + (1 : Int)) ∧
 ∃ (x' : Nat),
 x' ≤ (linesTo n m cs (↑x : Int).toNat).length ∧
 (linesTo n m cs (↑x : Int).toNat).length - x' <
 (linesTo n m cs (↑x : Int).toNat).length - x_1 ∧
 (True ∧
 ansTo n m cs x = ansTo n m cs x ∧
 ((cs.getD (↑x : Int).toNat ((0 : Int), (0 : Int))).fst =
 (cs.getD (↑x : Int).toNat ((0 : Int), (0 : Int))).fst ∧
 (cs.getD (↑x : Int).toNat ((0 : Int), (0 : Int))).snd =
 (cs.getD (↑x : Int).toNat ((0 : Int), (0 : Int))).snd ∧
 True) ∧
 markS n m.toNat (cs.getD (↑x : Int).toNat ((0 : Int), (0 : Int)))
 (List.take x_1 (linesTo n m cs (↑x : Int).toNat)) =
 markS n m.toNat
 (cs.getD (↑x : Int).toNat ((0 : Int), (0 : Int)))
 (List.take x' (linesTo n m cs (↑x : Int).toNat)) ∧
 True) ∧
 (↑x_1 : Int) + (1 : Int) = (↑x' : Int) ∧
 atTo (linesTo n m cs (↑x : Int).toNat)
 (cs.getD (↑x : Int).toNat ((0 : Int), (0 : Int))).fst x_1 =
 atTo (linesTo n m cs (↑x : Int).toNat)
 (cs.getD (↑x : Int).toNat ((0 : Int), (0 : Int))).fst x' ∧
 decide
 (((linesTo n m cs x).getD (↑x_1 : Int).toNat
 ((0 : Int), (0 : Int), (0 : Int))).snd.fst =
 (cs.getD (↑x : Int).toNat ((0 : Int), (0 : Int))).snd) =
 (List.take x' (linesTo n m cs (↑x : Int).toNat)).any
 (meets (cs.getD (↑x : Int).toNat ((0 : Int), (0 : Int)))) ∧
 True ∧
 True ∧
 (↑x : Int) = (↑x : Int) ∧
 linesTo n m cs x = linesTo n m cs x ∧
 True ∧ n = n ∧ m = m ∧ cs = cs ∧ True)) ∧
 (¬(0 : Int) ≤ (cs.getD (↑x : Int).toNat ((0 : Int), (0 : Int))).snd →
 ¬(0 : Int) ≤ (cs.getD (↑x : Int).toNat ((0 : Int), (0 : Int))).snd ∧
 ¬(0 : Int) ≤ (cs.getD (↑x : Int).toNat ((0 : Int), (0 : Int))).snd ∧
 Fits IntKind.i64 ((↑x_1 : Int) + (1 : Int)) ∧
 ∃ (x' : Nat),
 x' ≤ (linesTo n m cs (↑x : Int).toNat).length ∧
 (linesTo n m cs (↑x : Int).toNat).length - x' < (linesTo n m cs (↑x : Int).toNat).length - x_1 ∧
 (True ∧
 ansTo n m cs x = ansTo n m cs x ∧
 ((cs.getD (↑x : Int).toNat ((0 : Int), (0 : Int))).fst =
 (cs.getD (↑x : Int).toNat ((0 : Int), (0 : Int))).fst ∧
 (cs.getD (↑x : Int).toNat ((0 : Int), (0 : Int))).snd =
 (cs.getD (↑x : Int).toNat ((0 : Int), (0 : Int))).snd ∧
 True) ∧
 markS n m.toNat (cs.getD (↑x : Int).toNat ((0 : Int), (0 : Int)))
 (List.take x_1 (linesTo n m cs (↑x : Int).toNat)) =
 markS n m.toNat (cs.getD (↑x : Int).toNat ((0 : Int), (0 : Int)))
 (List.take x' (linesTo n m cs (↑x : Int).toNat)) ∧
 True) ∧
 (↑x_1 : Int) + (1 : Int) = (↑x' : Int) ∧
 atTo (linesTo n m cs (↑x : Int).toNat)
 (cs.getD (↑x : Int).toNat ((0 : Int), (0 : Int))).fst x_1 =
 atTo (linesTo n m cs (↑x : Int).toNat)
 (cs.getD (↑x : Int).toNat ((0 : Int), (0 : Int))).fst x' ∧
 decide
 (((linesTo n m cs x).getD (↑x_1 : Int).toNat
 ((0 : Int), (0 : Int), (0 : Int))).snd.fst =
 (cs.getD (↑x : Int).toNat ((0 : Int), (0 : Int))).snd) =
 (List.take x' (linesTo n m cs (↑x : Int).toNat)).any
 (meets (cs.getD (↑x : Int).toNat ((0 : Int), (0 : Int)))) ∧
 True ∧
 True ∧
 (↑x : Int) = (↑x : Int) ∧
 linesTo n m cs x = linesTo n m cs x ∧
 True ∧ n = n ∧ m = m ∧ cs = cs ∧ True)))))) ∧
 (¬(↑x_1 : Int) < (↑(linesTo n m cs x).length : Int) →
 ¬(↑x_1 : Int) < (↑(linesTo n m cs x).length : Int) ∧
 ((cs.getD (↑x : Int).toNat ((0 : Int), (0 : Int))).snd < (0 : Int) →
 (cs.getD (↑x : Int).toNat ((0 : Int), (0 : Int))).snd < (0 : Int) ∧
 (cs.getD (↑x : Int).toNat ((0 : Int), (0 : Int))).snd < (0 : Int) ∧
 (atTo (linesTo n m cs (↑x : Int).toNat) (cs.getD (↑x : Int).toNat ((0 : Int), (0 : Int))).fst x_1 < (0 : Int) →
 atTo (linesTo n m cs (↑x : Int).toNat) (cs.getD (↑x : Int).toNat ((0 : Int), (0 : Int))).fst x_1 < (0 : Int) ∧
 atTo (linesTo n m cs (↑x : Int).toNat) (cs.getD (↑x : Int).toNat ((0 : Int), (0 : Int))).fst x_1 < (0 : Int) ∧
 atTo (linesTo n m cs (↑x : Int).toNat) (cs.getD (↑x : Int).toNat ((0 : Int), (0 : Int))).fst x_1 < (0 : Int) ∧
 Small ((ansTo n m cs x).length + ((0 : Nat) + (1 : Nat))) ∧
 Fits IntKind.i64 ((↑x : Int) + (1 : Int)) ∧
 ∃ (x' : Nat),
 x' ≤ cs.length ∧
 cs.length - x' < cs.length - x ∧
 (True ∧ ansTo n m cs x ++ [(-2 : Int)] = ansTo n m cs x' ∧ True) ∧
 (↑x : Int) + (1 : Int) = (↑x' : Int) ∧ linesTo n m cs x = linesTo n m cs x' ∧ True ∧ n = n ∧ m = m ∧ cs = cs ∧ True) ∧
 (¬atTo (linesTo n m cs (↑x : Int).toNat) (cs.getD (↑x : Int).toNat ((0 : Int), (0 : Int))).fst x_1 < (0 : Int) →
 ¬atTo (linesTo n m cs (↑x : Int).toNat) (cs.getD (↑x : Int).toNat ((0 : Int), (0 : Int))).fst x_1 < (0 : Int) ∧
 ¬atTo (linesTo n m cs (↑x : Int).toNat) (cs.getD (↑x : Int).toNat ((0 : Int), (0 : Int))).fst x_1 < (0 : Int) ∧
 ¬atTo (linesTo n m cs (↑x : Int).toNat) (cs.getD (↑x : Int).toNat ((0 : Int), (0 : Int))).fst x_1 < (0 : Int) ∧
 ((0 : Int) ≤ (cs.getD (↑x : Int).toNat ((0 : Int), (0 : Int))).snd →
 (0 : Int) ≤ (cs.getD (↑x : Int).toNat ((0 : Int), (0 : Int))).snd ∧
 (0 : Int) ≤ (cs.getD (↑x : Int).toNat ((0 : Int), (0 : Int))).snd ∧
 ((List.take x_1 (linesTo n m cs (↑x : Int).toNat)).any (meets (cs.getD (↑x : Int).toNat ((0 : Int), (0 : Int)))) = true →
 (List.take x_1 (linesTo n m cs (↑x : Int).toNat)).any (meets (cs.getD (↑x : Int).toNat ((0 : Int), (0 : Int)))) = true ∧
 (List.take x_1 (linesTo n m cs (↑x : Int).toNat)).any (meets (cs.getD (↑x : Int).toNat ((0 : Int), (0 : Int)))) = true ∧
 (List.take x_1 (linesTo n m cs (↑x : Int).toNat)).any (meets (cs.getD (↑x : Int).toNat ((0 : Int), (0 : Int)))) =
 true ∧
 (List.take x_1 (linesTo n m cs (↑x : Int).toNat)).any (meets (cs.getD (↑x : Int).toNat ((0 : Int), (0 : Int)))) =
 true ∧
 Small ((ansTo n m cs x).length + ((0 : Nat) + (1 : Nat))) ∧
 Fits IntKind.i64 ((↑x : Int) + (1 : Int)) ∧
 ∃ (x' : Nat),
 x' ≤ cs.length ∧
 cs.length - x' < cs.length - x ∧
 (True ∧ ansTo n m cs x ++ [(-2 : Int)] = ansTo n m cs x' ∧ True) ∧
 (↑x : Int) + (1 : Int) = (↑x' : Int) ∧
 linesTo n m cs x = linesTo n m cs x' ∧ True ∧ n = n ∧ m = m ∧ cs = cs ∧ True) ∧
 ((List.take x_1 (linesTo n m cs (↑x : Int).toNat)).any (meets (cs.getD (↑x : Int).toNat ((0 : Int), (0 : Int)))) = false →
 (List.take x_1 (linesTo n m cs (↑x : Int).toNat)).any (meets (cs.getD (↑x : Int).toNat ((0 : Int), (0 : Int)))) = false ∧
 (List.take x_1 (linesTo n m cs (↑x : Int).toNat)).any (meets (cs.getD (↑x : Int).toNat ((0 : Int), (0 : Int)))) =
 false ∧
 (List.take x_1 (linesTo n m cs (↑x : Int).toNat)).any (meets (cs.getD (↑x : Int).toNat ((0 : Int), (0 : Int)))) =
 false ∧
 (List.take x_1 (linesTo n m cs (↑x : Int).toNat)).any (meets (cs.getD (↑x : Int).toNat ((0 : Int), (0 : Int)))) =
 false ∧
 ((cs.getD (↑x : Int).toNat ((0 : Int), (0 : Int))).snd < (0 : Int) →
 (cs.getD (↑x : Int).toNat ((0 : Int), (0 : Int))).snd < (0 : Int) ∧
 (cs.getD (↑x : Int).toNat ((0 : Int), (0 : Int))).snd < (0 : Int) ∧
 ((0 : Int) ≤
 atTo (linesTo n m cs (↑x : Int).toNat) (cs.getD (↑x : Int).toNat ((0 : Int), (0 : Int))).fst x_1 ∧
 atTo (linesTo n m cs (↑x : Int).toNat) (cs.getD (↑x : Int).toNat ((0 : Int), (0 : Int))).fst x_1 <
 (↑(linesTo n m cs x).length : Int)) ∧
 Small ((ansTo n m cs x).length + ((0 : Nat) + (1 : Nat))) ∧
 ((0 : Int) ≤ (↑(0 : Nat) : Int) ∧
 (↑(0 : Nat) : Int) ≤
 atTo (linesTo n m cs (↑x : Int).toNat) (cs.getD (↑x : Int).toNat ((0 : Int), (0 : Int))).fst
 x_1 ∧
 atTo (linesTo n m cs (↑x : Int).toNat) (cs.getD (↑x : Int).toNat ((0 : Int), (0 : Int))).fst
 x_1 ≤
 (↑(linesTo n m cs x).length : Int)) ∧
 True ∧
 Fits IntKind.i64
 (atTo (linesTo n m cs (↑x : Int).toNat) (cs.getD (↑x : Int).toNat ((0 : Int), (0 : Int))).fst
 x_1 +
 (1 : Int)) ∧
 ((0 : Int) ≤
 atTo (linesTo n m cs (↑x : Int).toNat)
 (cs.getD (↑x : Int).toNat ((0 : Int), (0 : Int))).fst x_1 +
 (1 : Int) ∧
 atTo (linesTo n m cs (↑x : Int).toNat) (cs.getD (↑x : Int).toNat ((0 : Int), (0 : Int))).fst
 x_1 +
 (1 : Int) ≤
 (↑(linesTo n m cs x).length : Int) ∧
 (↑(linesTo n m cs x).length : Int) ≤ (↑(linesTo n m cs x).length : Int)) ∧
 True ∧
 Small
 ((0 : Nat) +
 (List.drop (↑(0 : Nat) : Int).toNat
 (List.take
 (atTo (linesTo n m cs (↑x : Int).toNat)
 (cs.getD (↑x : Int).toNat ((0 : Int), (0 : Int))).fst x_1).toNat
 (linesTo n m cs x))).length) ∧
 Small
 ((List.drop (↑(0 : Nat) : Int).toNat
 (List.take
 (atTo (linesTo n m cs (↑x : Int).toNat)
 (cs.getD (↑x : Int).toNat ((0 : Int), (0 : Int))).fst x_1).toNat
 (linesTo n m cs x))).length +
 (List.drop
 (atTo (linesTo n m cs (↑x : Int).toNat)
 (cs.getD (↑x : Int).toNat ((0 : Int), (0 : Int))).fst x_1 +
 (1 : Int)).toNat
 (List.take (↑(linesTo n m cs x).length : Int).toNat
 (linesTo n m cs x))).length) ∧
 Fits IntKind.i64 ((↑x : Int) + (1 : Int)) ∧
 ∃ (x' : Nat),
 x' ≤ cs.length ∧
 cs.length - x' < cs.length - x ∧
 (True ∧
 ansTo n m cs x ++
 [((linesTo n m cs x).getD
 (atTo (linesTo n m cs (↑x : Int).toNat)
 (cs.getD (↑x : Int).toNat ((0 : Int), (0 : Int))).fst
 x_1).toNat
 ((0 : Int), (0 : Int), (0 : Int))).snd.snd] =
 ansTo n m cs x' ∧
 True) ∧
 (↑x : Int) + (1 : Int) = (↑x' : Int) ∧
 List.drop (↑(0 : Nat) : Int).toNat
 (List.take
 (atTo (linesTo n m cs (↑x : Int).toNat)
 (cs.getD (↑x : Int).toNat ((0 : Int), (0 : Int))).fst
 x_1).toNat
 (linesTo n m cs x)) ++
 List.drop
 (atTo (linesTo n m cs (↑x : Int).toNat)
 (cs.getD (↑x : Int).toNat ((0 : Int), (0 : Int))).fst x_1 +
 (1 : Int)).toNat
 (List.take (↑(linesTo n m cs x).length : Int).toNat
 (linesTo n m cs x)) =
 linesTo n m cs x' ∧
 True ∧ n = n ∧ m = m ∧ cs = cs ∧ True) ∧
 (¬(cs.getD (↑x : Int).toNat ((0 : Int), (0 : Int))).snd < (0 : Int) →
 ¬(cs.getD (↑x : Int).toNat ((0 : Int), (0 : Int))).snd < (0 : Int) ∧
 ¬(cs.getD (↑x : Int).toNat ((0 : Int), (0 : Int))).snd < (0 : Int) ∧
 Fits IntKind.i64 (m - (1 : Int)) ∧
 (∃ (x0 : Nat),
 x0 ≤ m.toNat ∧
 (True ∧
 ansTo n m cs x = ansTo n m cs x ∧
 ((cs.getD (↑x : Int).toNat ((0 : Int), (0 : Int))).fst =
 (cs.getD (↑x : Int).toNat ((0 : Int), (0 : Int))).fst ∧
 (cs.getD (↑x : Int).toNat ((0 : Int), (0 : Int))).snd =
 (cs.getD (↑x : Int).toNat ((0 : Int), (0 : Int))).snd ∧
 True) ∧
 markS n m.toNat (cs.getD (↑x : Int).toNat ((0 : Int), (0 : Int)))
 (List.take x_1 (linesTo n m cs (↑x : Int).toNat)) =
 markS n m.toNat (cs.getD (↑x : Int).toNat ((0 : Int), (0 : Int)))
 (List.take x_1 (linesTo n m cs (↑x : Int).toNat)) ∧
 True) ∧
 m - (1 : Int) = m - (1 : Int) - (↑x0 : Int) ∧
 (-1 : Int) =
 frDn
 (markS n m.toNat (cs.getD (↑x : Int).toNat ((0 : Int), (0 : Int)))
 (linesTo n m cs (↑x : Int).toNat))
 m.toNat x0 ∧
 True ∧
 True ∧
 (↑x : Int) = (↑x : Int) ∧
 linesTo n m cs x = linesTo n m cs x ∧ True ∧ n = n ∧ m = m ∧ cs = cs ∧ True) ∧
 ∀ (x_2 : Nat),
 x_2 ≤ m.toNat →
 ((0 : Int) ≤ m - (1 : Int) - (↑x_2 : Int) →
 (0 : Int) ≤ m - (1 : Int) - (↑x_2 : Int) ∧
 ((0 : Int) ≤ m - (1 : Int) - (↑x_2 : Int) ∧
 m - (1 : Int) - (↑x_2 : Int) <
 (↑(markS n m.toNat (cs.getD (↑x : Int).toNat ((0 : Int), (0 : Int)))
 (List.take x_1 (linesTo n m cs (↑x : Int).toNat))).length :
 Int)) ∧
 ((!(markS n m.toNat (cs.getD (↑x : Int).toNat ((0 : Int), (0 : Int)))
 (List.take x_1 (linesTo n m cs (↑x : Int).toNat))).getD
 (m - (1 : Int) - (↑x_2 : Int)).toNat false) =
 true →
 (!(markS n m.toNat (cs.getD (↑x : Int).toNat ((0 : Int), (0 : Int)))
 (List.take x_1 (linesTo n m cs (↑x : Int).toNat))).getD
 (m - (1 : Int) - (↑x_2 : Int)).toNat false) =
 true ∧
 Fits IntKind.i64 (m - (1 : Int) - (↑x_2 : Int) - (1 : Int)) ∧
 ∃ (x' : Nat),
 x' ≤ m.toNat ∧
 m.toNat - x' < m.toNat - x_2 ∧
 (True ∧
 ansTo n m cs x = ansTo n m cs x ∧
 ((cs.getD (↑x : Int).toNat ((0 : Int), (0 : Int))).fst =
 (cs.getD (↑x : Int).toNat ((0 : Int), (0 : Int))).fst ∧
 (cs.getD (↑x : Int).toNat ((0 : Int), (0 : Int))).snd =
 (cs.getD (↑x : Int).toNat ((0 : Int), (0 : Int))).snd ∧
 True) ∧
 markS n m.toNat (cs.getD (↑x : Int).toNat ((0 : Int), (0 : Int)))
 (List.take x_1 (linesTo n m cs (↑x : Int).toNat)) =
 markS n m.toNat
 (cs.getD (↑x : Int).toNat ((0 : Int), (0 : Int)))
 (List.take x_1 (linesTo n m cs (↑x : Int).toNat)) ∧
 True) ∧
 m - (1 : Int) - (↑x_2 : Int) - (1 : Int) = m - (1 : Int) - (↑x' : Int) ∧
 m - (1 : Int) - (↑x_2 : Int) =
 frDn
 (markS n m.toNat (cs.getD (↑x : Int).toNat ((0 : Int), (0 : Int)))
 (linesTo n m cs (↑x : Int).toNat))
 m.toNat x' ∧
 True ∧
 True ∧
 (↑x : Int) = (↑x : Int) ∧
 linesTo n m cs x = linesTo n m cs x ∧
 True ∧ n = n ∧ m = m ∧ cs = cs ∧ True) ∧
 ((!(markS n m.toNat (cs.getD (↑x : Int).toNat ((0 : Int), (0 : Int)))
 (List.take x_1 (linesTo n m cs (↑x : Int).toNat))).getD
 (m - (1 : Int) - (↑x_2 : Int)).toNat false) =
 false →
 (!(markS n m.toNat (cs.getD (↑x : Int).toNat ((0 : Int), (0 : Int)))
 (List.take x_1 (linesTo n m cs (↑x : Int).toNat))).getD
 (m - (1 : Int) - (↑x_2 : Int)).toNat false) =
 false ∧
 Fits IntKind.i64 (m - (1 : Int) - (↑x_2 : Int) - (1 : Int)) ∧
 ∃ (x' : Nat),
 x' ≤ m.toNat ∧
 m.toNat - x' < m.toNat - x_2 ∧
 (True ∧
 ansTo n m cs x = ansTo n m cs x ∧
 ((cs.getD (↑x : Int).toNat ((0 : Int), (0 : Int))).fst =
 (cs.getD (↑x : Int).toNat ((0 : Int), (0 : Int))).fst ∧
 (cs.getD (↑x : Int).toNat ((0 : Int), (0 : Int))).snd =
 (cs.getD (↑x : Int).toNat ((0 : Int), (0 : Int))).snd ∧
 True) ∧
 markS n m.toNat (cs.getD (↑x : Int).toNat ((0 : Int), (0 : Int)))
 (List.take x_1 (linesTo n m cs (↑x : Int).toNat)) =
 markS n m.toNat
 (cs.getD (↑x : Int).toNat ((0 : Int), (0 : Int)))
 (List.take x_1 (linesTo n m cs (↑x : Int).toNat)) ∧
 True) ∧
 m - (1 : Int) - (↑x_2 : Int) - (1 : Int) = m - (1 : Int) - (↑x' : Int) ∧
 frDn
 (markS n m.toNat (cs.getD (↑x : Int).toNat ((0 : Int), (0 : Int)))
 (linesTo n m cs (↑x : Int).toNat))
 m.toNat x_2 =
 frDn
 (markS n m.toNat (cs.getD (↑x : Int).toNat ((0 : Int), (0 : Int)))
 (linesTo n m cs (↑x : Int).toNat))
 m.toNat x' ∧
 True ∧
 True ∧
 (↑x : Int) = (↑x : Int) ∧
 linesTo n m cs x = linesTo n m cs x ∧
 True ∧ n = n ∧ m = m ∧ cs = cs ∧ True)) ∧
 (¬(0 : Int) ≤ m - (1 : Int) - (↑x_2 : Int) →
 ¬(0 : Int) ≤ m - (1 : Int) - (↑x_2 : Int) ∧
 Small ((ansTo n m cs x).length + ((0 : Nat) + (1 : Nat))) ∧
 ((0 : Int) ≤
 frDn
 (markS n m.toNat (cs.getD (↑x : Int).toNat ((0 : Int), (0 : Int)))
 (linesTo n m cs (↑x : Int).toNat))
 m.toNat x_2 →
 (0 : Int) ≤
 frDn
 (markS n m.toNat (cs.getD (↑x : Int).toNat ((0 : Int), (0 : Int)))
 (linesTo n m cs (↑x : Int).toNat))
 m.toNat x_2 ∧
 ((Small ((0 : Nat) + (linesTo n m cs x).length) ∧
 Small ((linesTo n m cs x).length + ((0 : Nat) + (1 : Nat))) ∧
 Fits IntKind.i64 ((↑x : Int) + (1 : Int)) ∧
 ∃ (x' : Nat),
 x' ≤ cs.length ∧
 cs.length - x' < cs.length - x ∧
 (True ∧
 ansTo n m cs x ++
 [frDn
 (markS n m.toNat
 (cs.getD (↑x : Int).toNat ((0 : Int), (0 : Int)))
 (linesTo n m cs (↑x : Int).toNat))
 m.toNat x_2] =
 ansTo n m cs x' ∧
 True) ∧
 (↑x : Int) + (1 : Int) = (↑x' : Int) ∧
 linesTo n m cs x ++
 [((cs.getD (↑x : Int).toNat ((0 : Int), (0 : Int))).fst,
 (cs.getD (↑x : Int).toNat ((0 : Int), (0 : Int))).snd,
 frDn
 (markS n m.toNat
 (cs.getD (↑x : Int).toNat ((0 : Int), (0 : Int)))
 (linesTo n m cs (↑x : Int).toNat))
 m.toNat x_2)] =
 linesTo n m cs x' ∧
 True ∧ n = n ∧ m = m ∧ cs = cs ∧ True) ∧
 ((Small ((0 : Nat) + (linesTo n m cs x).length) ∧
 Small ((linesTo n m cs x).length + ((0 : Nat) + (1 : Nat))) ∧
 Fits IntKind.i64 ((↑x : Int) + (1 : Int)) ∧
 ∃ (x' : Nat),
 x' ≤ cs.length ∧
 cs.length - x' < cs.length - x ∧
 (True ∧
 ansTo n m cs x ++
 [frDn
 (markS n m.toNat
 (cs.getD (↑x : Int).toNat
 ((0 : Int), (0 : Int)))
 (linesTo n m cs (↑x : Int).toNat))
 m.toNat x_2] =
 ansTo n m cs x' ∧
 True) ∧
 (↑x : Int) + (1 : Int) = (↑x' : Int) ∧
 linesTo n m cs x ++
 [((cs.getD (↑x : Int).toNat
 ((0 : Int), (0 : Int))).fst,
 (cs.getD (↑x : Int).toNat
 ((0 : Int), (0 : Int))).snd,
 frDn
 (markS n m.toNat
 (cs.getD (↑x : Int).toNat
 ((0 : Int), (0 : Int)))
 (linesTo n m cs (↑x : Int).toNat))
 m.toNat x_2)] =
 linesTo n m cs x' ∧
 True ∧ n = n ∧ m = m ∧ cs = cs ∧ True) ∧
 (Small ((0 : Nat) + (linesTo n m cs x).length) ∧
 Small ((linesTo n m cs x).length + ((0 : Nat) + (1 : Nat))) ∧
 Fits IntKind.i64 ((↑x : Int) + (1 : Int)) ∧
 ∃ (x' : Nat),
 x' ≤ cs.length ∧
 cs.length - x' < cs.length - x ∧
 (True ∧
 ansTo n m cs x ++
 [frDn
 (markS n m.toNat
 (cs.getD (↑x : Int).toNat
 ((0 : Int), (0 : Int)))
 (linesTo n m cs (↑x : Int).toNat))
 m.toNat x_2] =
 ansTo n m cs x' ∧
 True) ∧
 (↑x : Int) + (1 : Int) = (↑x' : Int) ∧
 linesTo n m cs x ++
 [((cs.getD (↑x : Int).toNat
 ((0 : Int), (0 : Int))).fst,
 (cs.getD (↑x : Int).toNat
 ((0 : Int), (0 : Int))).snd,
 frDn
 (markS n m.toNat
 (cs.getD (↑x : Int).toNat
 ((0 : Int), (0 : Int)))
 (linesTo n m cs (↑x : Int).toNat))
 m.toNat x_2)] =
 linesTo n m cs x' ∧
 True ∧ n = n ∧ m = m ∧ cs = cs ∧ True) ∧
 Small ((0 : Nat) + (linesTo n m cs x).length) ∧
 Small ((linesTo n m cs x).length + ((0 : Nat) + (1 : Nat))) ∧
 Fits IntKind.i64 ((↑x : Int) + (1 : Int)) ∧
 ∃ (x' : Nat),
 x' ≤ cs.length ∧
 cs.length - x' < cs.length - x ∧
 (True ∧
 ansTo n m cs x ++
 [frDn
 (markS n m.toNat
 (cs.getD (↑x : Int).toNat
 ((0 : Int), (0 : Int)))
 (linesTo n m cs (↑x : Int).toNat))
 m.toNat x_2] =
 ansTo n m cs x' ∧
 True) ∧
 (↑x : Int) + (1 : Int) = (↑x' : Int) ∧
 linesTo n m cs x ++
 [((cs.getD (↑x : Int).toNat
 ((0 : Int), (0 : Int))).fst,
 (cs.getD (↑x : Int).toNat
 ((0 : Int), (0 : Int))).snd,
 frDn
 (markS n m.toNat
 (cs.getD (↑x : Int).toNat
 ((0 : Int), (0 : Int)))
 (linesTo n m cs (↑x : Int).toNat))
 m.toNat x_2)] =
 linesTo n m cs x' ∧
 True ∧ n = n ∧ m = m ∧ cs = cs ∧ True) ∧
 (Small ((0 : Nat) + (linesTo n m cs x).length) ∧
 Small ((linesTo n m cs x).length + ((0 : Nat) + (1 : Nat))) ∧
 Fits IntKind.i64 ((↑x : Int) + (1 : Int)) ∧
 ∃ (x' : Nat),
 x' ≤ cs.length ∧
 cs.length - x' < cs.length - x ∧
 (True ∧
 ansTo n m cs x ++
 [frDn
 (markS n m.toNat
 (cs.getD (↑x : Int).toNat
 ((0 : Int), (0 : Int)))
 (linesTo n m cs (↑x : Int).toNat))
 m.toNat x_2] =
 ansTo n m cs x' ∧
 True) ∧
 (↑x : Int) + (1 : Int) = (↑x' : Int) ∧
 linesTo n m cs x ++
 [((cs.getD (↑x : Int).toNat
 ((0 : Int), (0 : Int))).fst,
 (cs.getD (↑x : Int).toNat
 ((0 : Int), (0 : Int))).snd,
 frDn
 (markS n m.toNat
 (cs.getD (↑x : Int).toNat
 ((0 : Int), (0 : Int)))
 (linesTo n m cs (↑x : Int).toNat))
 m.toNat x_2)] =
 linesTo n m cs x' ∧
 True ∧ n = n ∧ m = m ∧ cs = cs ∧ True) ∧
 (Small ((0 : Nat) + (linesTo n m cs x).length) ∧
 Small ((linesTo n m cs x).length + ((0 : Nat) + (1 : Nat))) ∧
 Fits IntKind.i64 ((↑x : Int) + (1 : Int)) ∧
 ∃ (x' : Nat),
 x' ≤ cs.length ∧
 cs.length - x' < cs.length - x ∧
 (True ∧
 ansTo n m cs x ++
 [frDn
 (markS n m.toNat
 (cs.getD (↑x : Int).toNat
 ((0 : Int), (0 : Int)))
 (linesTo n m cs (↑x : Int).toNat))
 m.toNat x_2] =
 ansTo n m cs x' ∧
 True) ∧
 (↑x : Int) + (1 : Int) = (↑x' : Int) ∧
 linesTo n m cs x ++
 [((cs.getD (↑x : Int).toNat
 ((0 : Int), (0 : Int))).fst,
 (cs.getD (↑x : Int).toNat
 ((0 : Int), (0 : Int))).snd,
 frDn
 (markS n m.toNat
 (cs.getD (↑x : Int).toNat
 ((0 : Int), (0 : Int)))
 (linesTo n m cs (↑x : Int).toNat))
 m.toNat x_2)] =
 linesTo n m cs x' ∧
 True ∧ n = n ∧ m = m ∧ cs = cs ∧ True) ∧
 Small ((0 : Nat) + (linesTo n m cs x).length) ∧
 Small ((linesTo n m cs x).length + ((0 : Nat) + (1 : Nat))) ∧
 Fits IntKind.i64 ((↑x : Int) + (1 : Int)) ∧
 ∃ (x' : Nat),
 x' ≤ cs.length ∧
 cs.length - x' < cs.length - x ∧
 (True ∧
 ansTo n m cs x ++
 [frDn
 (markS n m.toNat
 (cs.getD (↑x : Int).toNat
 ((0 : Int), (0 : Int)))
 (linesTo n m cs (↑x : Int).toNat))
 m.toNat x_2] =
 ansTo n m cs x' ∧
 True) ∧
 (↑x : Int) + (1 : Int) = (↑x' : Int) ∧
 linesTo n m cs x ++
 [((cs.getD (↑x : Int).toNat
 ((0 : Int), (0 : Int))).fst,
 (cs.getD (↑x : Int).toNat
 ((0 : Int), (0 : Int))).snd,
 frDn
 (markS n m.toNat
 (cs.getD (↑x : Int).toNat
 ((0 : Int), (0 : Int)))
 (linesTo n m cs (↑x : Int).toNat))
 m.toNat x_2)] =
 linesTo n m cs x' ∧
 True ∧ n = n ∧ m = m ∧ cs = cs ∧ True) ∧
 (((Small ((0 : Nat) + (linesTo n m cs x).length) ∧
 Small ((linesTo n m cs x).length + ((0 : Nat) + (1 : Nat))) ∧
 Fits IntKind.i64 ((↑x : Int) + (1 : Int)) ∧
 ∃ (x' : Nat),
 x' ≤ cs.length ∧
 cs.length - x' < cs.length - x ∧
 (True ∧
 ansTo n m cs x ++
 [frDn
 (markS n m.toNat
 (cs.getD (↑x : Int).toNat
 ((0 : Int), (0 : Int)))
 (linesTo n m cs (↑x : Int).toNat))
 m.toNat x_2] =
 ansTo n m cs x' ∧
 True) ∧
 (↑x : Int) + (1 : Int) = (↑x' : Int) ∧
 linesTo n m cs x ++
 [((cs.getD (↑x : Int).toNat
 ((0 : Int), (0 : Int))).fst,
 (cs.getD (↑x : Int).toNat
 ((0 : Int), (0 : Int))).snd,
 frDn
 (markS n m.toNat
 (cs.getD (↑x : Int).toNat
 ((0 : Int), (0 : Int)))
 (linesTo n m cs (↑x : Int).toNat))
 m.toNat x_2)] =
 linesTo n m cs x' ∧
 True ∧ n = n ∧ m = m ∧ cs = cs ∧ True) ∧
 (Small ((0 : Nat) + (linesTo n m cs x).length) ∧
 Small ((linesTo n m cs x).length + ((0 : Nat) + (1 : Nat))) ∧
 Fits IntKind.i64 ((↑x : Int) + (1 : Int)) ∧
 ∃ (x' : Nat),
 x' ≤ cs.length ∧
 cs.length - x' < cs.length - x ∧
 (True ∧
 ansTo n m cs x ++
 [frDn
 (markS n m.toNat
 (cs.getD (↑x : Int).toNat
 ((0 : Int), (0 : Int)))
 (linesTo n m cs (↑x : Int).toNat))
 m.toNat x_2] =
 ansTo n m cs x' ∧
 True) ∧
 (↑x : Int) + (1 : Int) = (↑x' : Int) ∧
 linesTo n m cs x ++
 [((cs.getD (↑x : Int).toNat
 ((0 : Int), (0 : Int))).fst,
 (cs.getD (↑x : Int).toNat
 ((0 : Int), (0 : Int))).snd,
 frDn
 (markS n m.toNat
 (cs.getD (↑x : Int).toNat
 ((0 : Int), (0 : Int)))
 (linesTo n m cs (↑x : Int).toNat))
 m.toNat x_2)] =
 linesTo n m cs x' ∧
 True ∧ n = n ∧ m = m ∧ cs = cs ∧ True) ∧
 Small ((0 : Nat) + (linesTo n m cs x).length) ∧
 Small ((linesTo n m cs x).length + ((0 : Nat) + (1 : Nat))) ∧
 Fits IntKind.i64 ((↑x : Int) + (1 : Int)) ∧
 ∃ (x' : Nat),
 x' ≤ cs.length ∧
 cs.length - x' < cs.length - x ∧
 (True ∧
 ansTo n m cs x ++
 [frDn
 (markS n m.toNat
 (cs.getD (↑x : Int).toNat
 ((0 : Int), (0 : Int)))
 (linesTo n m cs (↑x : Int).toNat))
 m.toNat x_2] =
 ansTo n m cs x' ∧
 True) ∧
 (↑x : Int) + (1 : Int) = (↑x' : Int) ∧
 linesTo n m cs x ++
 [((cs.getD (↑x : Int).toNat
 ((0 : Int), (0 : Int))).fst,
 (cs.getD (↑x : Int).toNat
 ((0 : Int), (0 : Int))).snd,
 frDn
 (markS n m.toNat
 (cs.getD (↑x : Int).toNat
 ((0 : Int), (0 : Int)))
 (linesTo n m cs (↑x : Int).toNat))
 m.toNat x_2)] =
 linesTo n m cs x' ∧
 True ∧ n = n ∧ m = m ∧ cs = cs ∧ True) ∧
 ((Small ((0 : Nat) + (linesTo n m cs x).length) ∧
 Small ((linesTo n m cs x).length + ((0 : Nat) + (1 : Nat))) ∧
 Fits IntKind.i64 ((↑x : Int) + (1 : Int)) ∧
 ∃ (x' : Nat),
 x' ≤ cs.length ∧
 cs.length - x' < cs.length - x ∧
 (True ∧
 ansTo n m cs x ++
 [frDn
 (markS n m.toNat
 (cs.getD (↑x : Int).toNat
 ((0 : Int), (0 : Int)))
 (linesTo n m cs (↑x : Int).toNat))
 m.toNat x_2] =
 ansTo n m cs x' ∧
 True) ∧
 (↑x : Int) + (1 : Int) = (↑x' : Int) ∧
 linesTo n m cs x ++
 [((cs.getD (↑x : Int).toNat
 ((0 : Int), (0 : Int))).fst,
 (cs.getD (↑x : Int).toNat
 ((0 : Int), (0 : Int))).snd,
 frDn
 (markS n m.toNat
 (cs.getD (↑x : Int).toNat
 ((0 : Int), (0 : Int)))
 (linesTo n m cs (↑x : Int).toNat))
 m.toNat x_2)] =
 linesTo n m cs x' ∧
 True ∧ n = n ∧ m = m ∧ cs = cs ∧ True) ∧
 Small ((0 : Nat) + (linesTo n m cs x).length) ∧
 Small ((linesTo n m cs x).length + ((0 : Nat) + (1 : Nat))) ∧
 Fits IntKind.i64 ((↑x : Int) + (1 : Int)) ∧
 ∃ (x' : Nat),
 x' ≤ cs.length ∧
 cs.length - x' < cs.length - x ∧
 (True ∧
 ansTo n m cs x ++
 [frDn
 (markS n m.toNat
 (cs.getD (↑x : Int).toNat
 ((0 : Int), (0 : Int)))
 (linesTo n m cs (↑x : Int).toNat))
 m.toNat x_2] =
 ansTo n m cs x' ∧
 True) ∧
 (↑x : Int) + (1 : Int) = (↑x' : Int) ∧
 linesTo n m cs x ++
 [((cs.getD (↑x : Int).toNat
 ((0 : Int), (0 : Int))).fst,
 (cs.getD (↑x : Int).toNat
 ((0 : Int), (0 : Int))).snd,
 frDn
 (markS n m.toNat
 (cs.getD (↑x : Int).toNat
 ((0 : Int), (0 : Int)))
 (linesTo n m cs (↑x : Int).toNat))
 m.toNat x_2)] =
 linesTo n m cs x' ∧
 True ∧ n = n ∧ m = m ∧ cs = cs ∧ True) ∧
 Small ((0 : Nat) + (linesTo n m cs x).length) ∧
 Small ((linesTo n m cs x).length + ((0 : Nat) + (1 : Nat))) ∧
 Fits IntKind.i64 ((↑x : Int) + (1 : Int)) ∧
 ∃ (x' : Nat),
 x' ≤ cs.length ∧
 cs.length - x' < cs.length - x ∧
 (True ∧
 ansTo n m cs x ++
 [frDn
 (markS n m.toNat
 (cs.getD (↑x : Int).toNat
 ((0 : Int), (0 : Int)))
 (linesTo n m cs (↑x : Int).toNat))
 m.toNat x_2] =
 ansTo n m cs x' ∧
 True) ∧
 (↑x : Int) + (1 : Int) = (↑x' : Int) ∧
 linesTo n m cs x ++
 [((cs.getD (↑x : Int).toNat
 ((0 : Int), (0 : Int))).fst,
 (cs.getD (↑x : Int).toNat
 ((0 : Int), (0 : Int))).snd,
 frDn
 (markS n m.toNat
 (cs.getD (↑x : Int).toNat
 ((0 : Int), (0 : Int)))
 (linesTo n m cs (↑x : Int).toNat))
 m.toNat x_2)] =
 linesTo n m cs x' ∧
 True ∧ n = n ∧ m = m ∧ cs = cs ∧ True) ∧
 ((Small ((0 : Nat) + (linesTo n m cs x).length) ∧
 Small ((linesTo n m cs x).length + ((0 : Nat) + (1 : Nat))) ∧
 Fits IntKind.i64 ((↑x : Int) + (1 : Int)) ∧
 ∃ (x' : Nat),
 x' ≤ cs.length ∧
 cs.length - x' < cs.length - x ∧
 (True ∧
 ansTo n m cs x ++
 [frDn
 (markS n m.toNat
 (cs.getD (↑x : Int).toNat
 ((0 : Int), (0 : Int)))
 (linesTo n m cs (↑x : Int).toNat))
 m.toNat x_2] =
 ansTo n m cs x' ∧
 True) ∧
 (↑x : Int) + (1 : Int) = (↑x' : Int) ∧
 linesTo n m cs x ++
 [((cs.getD (↑x : Int).toNat
 ((0 : Int), (0 : Int))).fst,
 (cs.getD (↑x : Int).toNat
 ((0 : Int), (0 : Int))).snd,
 frDn
 (markS n m.toNat
 (cs.getD (↑x : Int).toNat
 ((0 : Int), (0 : Int)))
 (linesTo n m cs (↑x : Int).toNat))
 m.toNat x_2)] =
 linesTo n m cs x' ∧
 True ∧ n = n ∧ m = m ∧ cs = cs ∧ True) ∧
 (Small ((0 : Nat) + (linesTo n m cs x).length) ∧
 Small ((linesTo n m cs x).length + ((0 : Nat) + (1 : Nat))) ∧
 Fits IntKind.i64 ((↑x : Int) + (1 : Int)) ∧
 ∃ (x' : Nat),
 x' ≤ cs.length ∧
 cs.length - x' < cs.length - x ∧
 (True ∧
 ansTo n m cs x ++
 [frDn
 (markS n m.toNat
 (cs.getD (↑x : Int).toNat
 ((0 : Int), (0 : Int)))
 (linesTo n m cs (↑x : Int).toNat))
 m.toNat x_2] =
 ansTo n m cs x' ∧
 True) ∧
 (↑x : Int) + (1 : Int) = (↑x' : Int) ∧
 linesTo n m cs x ++
 [((cs.getD (↑x : Int).toNat
 ((0 : Int), (0 : Int))).fst,
 (cs.getD (↑x : Int).toNat
 ((0 : Int), (0 : Int))).snd,
 frDn
 (markS n m.toNat
 (cs.getD (↑x : Int).toNat
 ((0 : Int), (0 : Int)))
 (linesTo n m cs (↑x : Int).toNat))
 m.toNat x_2)] =
 linesTo n m cs x' ∧
 True ∧ n = n ∧ m = m ∧ cs = cs ∧ True) ∧
 Small ((0 : Nat) + (linesTo n m cs x).length) ∧
 Small ((linesTo n m cs x).length + ((0 : Nat) + (1 : Nat))) ∧
 Fits IntKind.i64 ((↑x : Int) + (1 : Int)) ∧
 ∃ (x' : Nat),
 x' ≤ cs.length ∧
 cs.length - x' < cs.length - x ∧
 (True ∧
 ansTo n m cs x ++
 [frDn
 (markS n m.toNat
 (cs.getD (↑x : Int).toNat
 ((0 : Int), (0 : Int)))
 (linesTo n m cs (↑x : Int).toNat))
 m.toNat x_2] =
 ansTo n m cs x' ∧
 True) ∧
 (↑x : Int) + (1 : Int) = (↑x' : Int) ∧
 linesTo n m cs x ++
 [((cs.getD (↑x : Int).toNat
 ((0 : Int), (0 : Int))).fst,
 (cs.getD (↑x : Int).toNat
 ((0 : Int), (0 : Int))).snd,
 frDn
 (markS n m.toNat
 (cs.getD (↑x : Int).toNat
 ((0 : Int), (0 : Int)))
 (linesTo n m cs (↑x : Int).toNat))
 m.toNat x_2)] =
 linesTo n m cs x' ∧
 True ∧ n = n ∧ m = m ∧ cs = cs ∧ True) ∧
 ((Small ((0 : Nat) + (linesTo n m cs x).length) ∧
 Small ((linesTo n m cs x).length + ((0 : Nat) + (1 : Nat))) ∧
 Fits IntKind.i64 ((↑x : Int) + (1 : Int)) ∧
 ∃ (x' : Nat),
 x' ≤ cs.length ∧
 cs.length - x' < cs.length - x ∧
 (True ∧
 ansTo n m cs x ++
 [frDn
 (markS n m.toNat
 (cs.getD (↑x : Int).toNat
 ((0 : Int), (0 : Int)))
 (linesTo n m cs (↑x : Int).toNat))
 m.toNat x_2] =
 ansTo n m cs x' ∧
 True) ∧
 (↑x : Int) + (1 : Int) = (↑x' : Int) ∧
 linesTo n m cs x ++
 [((cs.getD (↑x : Int).toNat
 ((0 : Int), (0 : Int))).fst,
 (cs.getD (↑x : Int).toNat
 ((0 : Int), (0 : Int))).snd,
 frDn
 (markS n m.toNat
 (cs.getD (↑x : Int).toNat
 ((0 : Int), (0 : Int)))
 (linesTo n m cs (↑x : Int).toNat))
 m.toNat x_2)] =
 linesTo n m cs x' ∧
 True ∧ n = n ∧ m = m ∧ cs = cs ∧ True) ∧
 Small ((0 : Nat) + (linesTo n m cs x).length) ∧
 Small ((linesTo n m cs x).length + ((0 : Nat) + (1 : Nat))) ∧
 Fits IntKind.i64 ((↑x : Int) + (1 : Int)) ∧
 ∃ (x' : Nat),
 x' ≤ cs.length ∧
 cs.length - x' < cs.length - x ∧
 (True ∧
 ansTo n m cs x ++
 [frDn
 (markS n m.toNat
 (cs.getD (↑x : Int).toNat
 ((0 : Int), (0 : Int)))
 (linesTo n m cs (↑x : Int).toNat))
 m.toNat x_2] =
 ansTo n m cs x' ∧
 True) ∧
 (↑x : Int) + (1 : Int) = (↑x' : Int) ∧
 linesTo n m cs x ++
 [((cs.getD (↑x : Int).toNat
 ((0 : Int), (0 : Int))).fst,
 (cs.getD (↑x : Int).toNat
 ((0 : Int), (0 : Int))).snd,
 frDn
 (markS n m.toNat
 (cs.getD (↑x : Int).toNat
 ((0 : Int), (0 : Int)))
 (linesTo n m cs (↑x : Int).toNat))
 m.toNat x_2)] =
 linesTo n m cs x' ∧
 True ∧ n = n ∧ m = m ∧ cs = cs ∧ True) ∧
 Small ((0 : Nat) + (linesTo n m cs x).length) ∧
 Small ((linesTo n m cs x).length + ((0 : Nat) + (1 : Nat))) ∧
 Fits IntKind.i64 ((↑x : Int) + (1 : Int)) ∧
 ∃ (x' : Nat),
 x' ≤ cs.length ∧
 cs.length - x' < cs.length - x ∧
 (True ∧
 ansTo n m cs x ++
 [frDn
 (markS n m.toNat
 (cs.getD (↑x : Int).toNat
 ((0 : Int), (0 : Int)))
 (linesTo n m cs (↑x : Int).toNat))
 m.toNat x_2] =
 ansTo n m cs x' ∧
 True) ∧
 (↑x : Int) + (1 : Int) = (↑x' : Int) ∧
 linesTo n m cs x ++
 [((cs.getD (↑x : Int).toNat
 ((0 : Int), (0 : Int))).fst,
 (cs.getD (↑x : Int).toNat
 ((0 : Int), (0 : Int))).snd,
 frDn
 (markS n m.toNat
 (cs.getD (↑x : Int).toNat
 ((0 : Int), (0 : Int)))
 (linesTo n m cs (↑x : Int).toNat))
 m.toNat x_2)] =
 linesTo n m cs x' ∧
 True ∧ n = n ∧ m = m ∧ cs = cs ∧ True) ∧
 (¬(0 : Int) ≤
 frDn
 (markS n m.toNat (cs.getD (↑x : Int).toNat ((0 : Int), (0 : Int)))
 (linesTo n m cs (↑x : Int).toNat))
 m.toNat x_2 →
 ¬(0 : Int) ≤
 frDn
 (markS n m.toNat (cs.getD (↑x : Int).toNat ((0 : Int), (0 : Int)))
 (linesTo n m cs (↑x : Int).toNat))
 m.toNat x_2 ∧
 Fits IntKind.i64 ((↑x : Int) + (1 : Int)) ∧
 ∃ (x' : Nat),
 x' ≤ cs.length ∧
 cs.length - x' < cs.length - x ∧
 (True ∧
 ansTo n m cs x ++
 [frDn
 (markS n m.toNat
 (cs.getD (↑x : Int).toNat ((0 : Int), (0 : Int)))
 (linesTo n m cs (↑x : Int).toNat))
 m.toNat x_2] =
 ansTo n m cs x' ∧
 True) ∧
 (↑x : Int) + (1 : Int) = (↑x' : Int) ∧
 linesTo n m cs x = linesTo n m cs x' ∧
 True ∧ n = n ∧ m = m ∧ cs = cs ∧ True))))) ∧
 (¬(0 : Int) ≤ (cs.getD (↑x : Int).toNat ((0 : Int), (0 : Int))).snd →
 ¬(0 : Int) ≤ (cs.getD (↑x : Int).toNat ((0 : Int), (0 : Int))).snd ∧
 ¬(0 : Int) ≤ (cs.getD (↑x : Int).toNat ((0 : Int), (0 : Int))).snd ∧
 ((cs.getD (↑x : Int).toNat ((0 : Int), (0 : Int))).snd < (0 : Int) →
 (cs.getD (↑x : Int).toNat ((0 : Int), (0 : Int))).snd < (0 : Int) ∧
 (cs.getD (↑x : Int).toNat ((0 : Int), (0 : Int))).snd < (0 : Int) ∧
 ((0 : Int) ≤ atTo (linesTo n m cs (↑x : Int).toNat) (cs.getD (↑x : Int).toNat ((0 : Int), (0 : Int))).fst x_1 ∧
 atTo (linesTo n m cs (↑x : Int).toNat) (cs.getD (↑x : Int).toNat ((0 : Int), (0 : Int))).fst x_1 <
 (↑(linesTo n m cs x).length : Int)) ∧
 Small ((ansTo n m cs x).length + ((0 : Nat) + (1 : Nat))) ∧
 ((0 : Int) ≤ (↑(0 : Nat) : Int) ∧
 (↑(0 : Nat) : Int) ≤
 atTo (linesTo n m cs (↑x : Int).toNat) (cs.getD (↑x : Int).toNat ((0 : Int), (0 : Int))).fst x_1 ∧
 atTo (linesTo n m cs (↑x : Int).toNat) (cs.getD (↑x : Int).toNat ((0 : Int), (0 : Int))).fst x_1 ≤
 (↑(linesTo n m cs x).length : Int)) ∧
 True ∧
 Fits IntKind.i64
 (atTo (linesTo n m cs (↑x : Int).toNat) (cs.getD (↑x : Int).toNat ((0 : Int), (0 : Int))).fst x_1 +
 (1 : Int)) ∧
 ((0 : Int) ≤
 atTo (linesTo n m cs (↑x : Int).toNat) (cs.getD (↑x : Int).toNat ((0 : Int), (0 : Int))).fst x_1 +
 (1 : Int) ∧
 atTo (linesTo n m cs (↑x : Int).toNat) (cs.getD (↑x : Int).toNat ((0 : Int), (0 : Int))).fst x_1 +
 (1 : Int) ≤
 (↑(linesTo n m cs x).length : Int) ∧
 (↑(linesTo n m cs x).length : Int) ≤ (↑(linesTo n m cs x).length : Int)) ∧
 True ∧
 Small
 ((0 : Nat) +
 (List.drop (↑(0 : Nat) : Int).toNat
 (List.take
 (atTo (linesTo n m cs (↑x : Int).toNat)
 (cs.getD (↑x : Int).toNat ((0 : Int), (0 : Int))).fst x_1).toNat
 (linesTo n m cs x))).length) ∧
 Small
 ((List.drop (↑(0 : Nat) : Int).toNat
 (List.take
 (atTo (linesTo n m cs (↑x : Int).toNat)
 (cs.getD (↑x : Int).toNat ((0 : Int), (0 : Int))).fst x_1).toNat
 (linesTo n m cs x))).length +
 (List.drop
 (atTo (linesTo n m cs (↑x : Int).toNat)
 (cs.getD (↑x : Int).toNat ((0 : Int), (0 : Int))).fst x_1 +
 (1 : Int)).toNat
 (List.take (↑(linesTo n m cs x).length : Int).toNat (linesTo n m cs x))).length) ∧
 Fits IntKind.i64 ((↑x : Int) + (1 : Int)) ∧
 ∃ (x' : Nat),
 x' ≤ cs.length ∧
 cs.length - x' < cs.length - x ∧
 (True ∧
 ansTo n m cs x ++
 [((linesTo n m cs x).getD
 (atTo (linesTo n m cs (↑x : Int).toNat)
 (cs.getD (↑x : Int).toNat ((0 : Int), (0 : Int))).fst x_1).toNat
 ((0 : Int), (0 : Int), (0 : Int))).snd.snd] =
 ansTo n m cs x' ∧
 True) ∧
 (↑x : Int) + (1 : Int) = (↑x' : Int) ∧
 List.drop (↑(0 : Nat) : Int).toNat
 (List.take
 (atTo (linesTo n m cs (↑x : Int).toNat)
 (cs.getD (↑x : Int).toNat ((0 : Int), (0 : Int))).fst x_1).toNat
 (linesTo n m cs x)) ++
 List.drop
 (atTo (linesTo n m cs (↑x : Int).toNat)
 (cs.getD (↑x : Int).toNat ((0 : Int), (0 : Int))).fst x_1 +
 (1 : Int)).toNat
 (List.take (↑(linesTo n m cs x).length : Int).toNat (linesTo n m cs x)) =
 linesTo n m cs x' ∧
 True ∧ n = n ∧ m = m ∧ cs = cs ∧ True) ∧
 (¬(cs.getD (↑x : Int).toNat ((0 : Int), (0 : Int))).snd < (0 : Int) →
 ¬(cs.getD (↑x : Int).toNat ((0 : Int), (0 : Int))).snd < (0 : Int) ∧
 ¬(cs.getD (↑x : Int).toNat ((0 : Int), (0 : Int))).snd < (0 : Int) ∧
 Fits IntKind.i64 (m - (1 : Int)) ∧
 (∃ (x0 : Nat),
 x0 ≤ m.toNat ∧
 (True ∧
 ansTo n m cs x = ansTo n m cs x ∧
 ((cs.getD (↑x : Int).toNat ((0 : Int), (0 : Int))).fst =
 (cs.getD (↑x : Int).toNat ((0 : Int), (0 : Int))).fst ∧
 (cs.getD (↑x : Int).toNat ((0 : Int), (0 : Int))).snd =
 (cs.getD (↑x : Int).toNat ((0 : Int), (0 : Int))).snd ∧
 True) ∧
 markS n m.toNat (cs.getD (↑x : Int).toNat ((0 : Int), (0 : Int)))
 (List.take x_1 (linesTo n m cs (↑x : Int).toNat)) =
 markS n m.toNat (cs.getD (↑x : Int).toNat ((0 : Int), (0 : Int)))
 (List.take x_1 (linesTo n m cs (↑x : Int).toNat)) ∧
 True) ∧
 m - (1 : Int) = m - (1 : Int) - (↑x0 : Int) ∧
 (-1 : Int) =
 frDn
 (markS n m.toNat (cs.getD (↑x : Int).toNat ((0 : Int), (0 : Int)))
 (linesTo n m cs (↑x : Int).toNat))
 m.toNat x0 ∧
 True ∧
 True ∧
 (↑x : Int) = (↑x : Int) ∧
 linesTo n m cs x = linesTo n m cs x ∧ True ∧ n = n ∧ m = m ∧ cs = cs ∧ True) ∧
 ∀ (x_2 : Nat),
 x_2 ≤ m.toNat →
 ((0 : Int) ≤ m - (1 : Int) - (↑x_2 : Int) →
 (0 : Int) ≤ m - (1 : Int) - (↑x_2 : Int) ∧
 ((0 : Int) ≤ m - (1 : Int) - (↑x_2 : Int) ∧
 m - (1 : Int) - (↑x_2 : Int) <
 (↑(markS n m.toNat (cs.getD (↑x : Int).toNat ((0 : Int), (0 : Int)))
 (List.take x_1 (linesTo n m cs (↑x : Int).toNat))).length :
 Int)) ∧
 ((!(markS n m.toNat (cs.getD (↑x : Int).toNat ((0 : Int), (0 : Int)))
 (List.take x_1 (linesTo n m cs (↑x : Int).toNat))).getD
 (m - (1 : Int) - (↑x_2 : Int)).toNat false) =
 true →
 (!(markS n m.toNat (cs.getD (↑x : Int).toNat ((0 : Int), (0 : Int)))
 (List.take x_1 (linesTo n m cs (↑x : Int).toNat))).getD
 (m - (1 : Int) - (↑x_2 : Int)).toNat false) =
 true ∧
 Fits IntKind.i64 (m - (1 : Int) - (↑x_2 : Int) - (1 : Int)) ∧
 ∃ (x' : Nat),
 x' ≤ m.toNat ∧
 m.toNat - x' < m.toNat - x_2 ∧
 (True ∧
 ansTo n m cs x = ansTo n m cs x ∧
 ((cs.getD (↑x : Int).toNat ((0 : Int), (0 : Int))).fst =
 (cs.getD (↑x : Int).toNat ((0 : Int), (0 : Int))).fst ∧
 (cs.getD (↑x : Int).toNat ((0 : Int), (0 : Int))).snd =
 (cs.getD (↑x : Int).toNat ((0 : Int), (0 : Int))).snd ∧
 True) ∧
 markS n m.toNat (cs.getD (↑x : Int).toNat ((0 : Int), (0 : Int)))
 (List.take x_1 (linesTo n m cs (↑x : Int).toNat)) =
 markS n m.toNat (cs.getD (↑x : Int).toNat ((0 : Int), (0 : Int)))
 (List.take x_1 (linesTo n m cs (↑x : Int).toNat)) ∧
 True) ∧
 m - (1 : Int) - (↑x_2 : Int) - (1 : Int) = m - (1 : Int) - (↑x' : Int) ∧
 m - (1 : Int) - (↑x_2 : Int) =
 frDn
 (markS n m.toNat (cs.getD (↑x : Int).toNat ((0 : Int), (0 : Int)))
 (linesTo n m cs (↑x : Int).toNat))
 m.toNat x' ∧
 True ∧
 True ∧
 (↑x : Int) = (↑x : Int) ∧
 linesTo n m cs x = linesTo n m cs x ∧
 True ∧ n = n ∧ m = m ∧ cs = cs ∧ True) ∧
 ((!(markS n m.toNat (cs.getD (↑x : Int).toNat ((0 : Int), (0 : Int)))
 (List.take x_1 (linesTo n m cs (↑x : Int).toNat))).getD
 (m - (1 : Int) - (↑x_2 : Int)).toNat false) =
 false →
 (!(markS n m.toNat (cs.getD (↑x : Int).toNat ((0 : Int), (0 : Int)))
 (List.take x_1 (linesTo n m cs (↑x : Int).toNat))).getD
 (m - (1 : Int) - (↑x_2 : Int)).toNat false) =
 false ∧
 Fits IntKind.i64 (m - (1 : Int) - (↑x_2 : Int) - (1 : Int)) ∧
 ∃ (x' : Nat),
 x' ≤ m.toNat ∧
 m.toNat - x' < m.toNat - x_2 ∧
 (True ∧
 ansTo n m cs x = ansTo n m cs x ∧
 ((cs.getD (↑x : Int).toNat ((0 : Int), (0 : Int))).fst =
 (cs.getD (↑x : Int).toNat ((0 : Int), (0 : Int))).fst ∧
 (cs.getD (↑x : Int).toNat ((0 : Int), (0 : Int))).snd =
 (cs.getD (↑x : Int).toNat ((0 : Int), (0 : Int))).snd ∧
 True) ∧
 markS n m.toNat (cs.getD (↑x : Int).toNat ((0 : Int), (0 : Int)))
 (List.take x_1 (linesTo n m cs (↑x : Int).toNat)) =
 markS n m.toNat (cs.getD (↑x : Int).toNat ((0 : Int), (0 : Int)))
 (List.take x_1 (linesTo n m cs (↑x : Int).toNat)) ∧
 True) ∧
 m - (1 : Int) - (↑x_2 : Int) - (1 : Int) = m - (1 : Int) - (↑x' : Int) ∧
 frDn
 (markS n m.toNat (cs.getD (↑x : Int).toNat ((0 : Int), (0 : Int)))
 (linesTo n m cs (↑x : Int).toNat))
 m.toNat x_2 =
 frDn
 (markS n m.toNat (cs.getD (↑x : Int).toNat ((0 : Int), (0 : Int)))
 (linesTo n m cs (↑x : Int).toNat))
 m.toNat x' ∧
 True ∧
 True ∧
 (↑x : Int) = (↑x : Int) ∧
 linesTo n m cs x = linesTo n m cs x ∧
 True ∧ n = n ∧ m = m ∧ cs = cs ∧ True)) ∧
 (¬(0 : Int) ≤ m - (1 : Int) - (↑x_2 : Int) →
 ¬(0 : Int) ≤ m - (1 : Int) - (↑x_2 : Int) ∧
 Small ((ansTo n m cs x).length + ((0 : Nat) + (1 : Nat))) ∧
 ((0 : Int) ≤
 frDn
 (markS n m.toNat (cs.getD (↑x : Int).toNat ((0 : Int), (0 : Int)))
 (linesTo n m cs (↑x : Int).toNat))
 m.toNat x_2 →
 (0 : Int) ≤
 frDn
 (markS n m.toNat (cs.getD (↑x : Int).toNat ((0 : Int), (0 : Int)))
 (linesTo n m cs (↑x : Int).toNat))
 m.toNat x_2 ∧
 ((Small ((0 : Nat) + (linesTo n m cs x).length) ∧
 Small ((linesTo n m cs x).length + ((0 : Nat) + (1 : Nat))) ∧
 Fits IntKind.i64 ((↑x : Int) + (1 : Int)) ∧
 ∃ (x' : Nat),
 x' ≤ cs.length ∧
 cs.length - x' < cs.length - x ∧
 (True ∧
 ansTo n m cs x ++
 [frDn
 (markS n m.toNat (cs.getD (↑x : Int).toNat ((0 : Int), (0 : Int)))
 (linesTo n m cs (↑x : Int).toNat))
 m.toNat x_2] =
 ansTo n m cs x' ∧
 True) ∧
 (↑x : Int) + (1 : Int) = (↑x' : Int) ∧
 linesTo n m cs x ++
 [((cs.getD (↑x : Int).toNat ((0 : Int), (0 : Int))).fst,
 (cs.getD (↑x : Int).toNat ((0 : Int), (0 : Int))).snd,
 frDn
 (markS n m.toNat
 (cs.getD (↑x : Int).toNat ((0 : Int), (0 : Int)))
 (linesTo n m cs (↑x : Int).toNat))
 m.toNat x_2)] =
 linesTo n m cs x' ∧
 True ∧ n = n ∧ m = m ∧ cs = cs ∧ True) ∧
 ((Small ((0 : Nat) + (linesTo n m cs x).length) ∧
 Small ((linesTo n m cs x).length + ((0 : Nat) + (1 : Nat))) ∧
 Fits IntKind.i64 ((↑x : Int) + (1 : Int)) ∧
 ∃ (x' : Nat),
 x' ≤ cs.length ∧
 cs.length - x' < cs.length - x ∧
 (True ∧
 ansTo n m cs x ++
 [frDn
 (markS n m.toNat
 (cs.getD (↑x : Int).toNat ((0 : Int), (0 : Int)))
 (linesTo n m cs (↑x : Int).toNat))
 m.toNat x_2] =
 ansTo n m cs x' ∧
 True) ∧
 (↑x : Int) + (1 : Int) = (↑x' : Int) ∧
 linesTo n m cs x ++
 [((cs.getD (↑x : Int).toNat ((0 : Int), (0 : Int))).fst,
 (cs.getD (↑x : Int).toNat ((0 : Int), (0 : Int))).snd,
 frDn
 (markS n m.toNat
 (cs.getD (↑x : Int).toNat ((0 : Int), (0 : Int)))
 (linesTo n m cs (↑x : Int).toNat))
 m.toNat x_2)] =
 linesTo n m cs x' ∧
 True ∧ n = n ∧ m = m ∧ cs = cs ∧ True) ∧
 (Small ((0 : Nat) + (linesTo n m cs x).length) ∧
 Small ((linesTo n m cs x).length + ((0 : Nat) + (1 : Nat))) ∧
 Fits IntKind.i64 ((↑x : Int) + (1 : Int)) ∧
 ∃ (x' : Nat),
 x' ≤ cs.length ∧
 cs.length - x' < cs.length - x ∧
 (True ∧
 ansTo n m cs x ++
 [frDn
 (markS n m.toNat
 (cs.getD (↑x : Int).toNat ((0 : Int), (0 : Int)))
 (linesTo n m cs (↑x : Int).toNat))
 m.toNat x_2] =
 ansTo n m cs x' ∧
 True) ∧
 (↑x : Int) + (1 : Int) = (↑x' : Int) ∧
 linesTo n m cs x ++
 [((cs.getD (↑x : Int).toNat ((0 : Int), (0 : Int))).fst,
 (cs.getD (↑x : Int).toNat ((0 : Int), (0 : Int))).snd,
 frDn
 (markS n m.toNat
 (cs.getD (↑x : Int).toNat ((0 : Int), (0 : Int)))
 (linesTo n m cs (↑x : Int).toNat))
 m.toNat x_2)] =
 linesTo n m cs x' ∧
 True ∧ n = n ∧ m = m ∧ cs = cs ∧ True) ∧
 Small ((0 : Nat) + (linesTo n m cs x).length) ∧
 Small ((linesTo n m cs x).length + ((0 : Nat) + (1 : Nat))) ∧
 Fits IntKind.i64 ((↑x : Int) + (1 : Int)) ∧
 ∃ (x' : Nat),
 x' ≤ cs.length ∧
 cs.length - x' < cs.length - x ∧
 (True ∧
 ansTo n m cs x ++
 [frDn
 (markS n m.toNat
 (cs.getD (↑x : Int).toNat ((0 : Int), (0 : Int)))
 (linesTo n m cs (↑x : Int).toNat))
 m.toNat x_2] =
 ansTo n m cs x' ∧
 True) ∧
 (↑x : Int) + (1 : Int) = (↑x' : Int) ∧
 linesTo n m cs x ++
 [((cs.getD (↑x : Int).toNat ((0 : Int), (0 : Int))).fst,
 (cs.getD (↑x : Int).toNat ((0 : Int), (0 : Int))).snd,
 frDn
 (markS n m.toNat
 (cs.getD (↑x : Int).toNat ((0 : Int), (0 : Int)))
 (linesTo n m cs (↑x : Int).toNat))
 m.toNat x_2)] =
 linesTo n m cs x' ∧
 True ∧ n = n ∧ m = m ∧ cs = cs ∧ True) ∧
 (Small ((0 : Nat) + (linesTo n m cs x).length) ∧
 Small ((linesTo n m cs x).length + ((0 : Nat) + (1 : Nat))) ∧
 Fits IntKind.i64 ((↑x : Int) + (1 : Int)) ∧
 ∃ (x' : Nat),
 x' ≤ cs.length ∧
 cs.length - x' < cs.length - x ∧
 (True ∧
 ansTo n m cs x ++
 [frDn
 (markS n m.toNat
 (cs.getD (↑x : Int).toNat ((0 : Int), (0 : Int)))
 (linesTo n m cs (↑x : Int).toNat))
 m.toNat x_2] =
 ansTo n m cs x' ∧
 True) ∧
 (↑x : Int) + (1 : Int) = (↑x' : Int) ∧
 linesTo n m cs x ++
 [((cs.getD (↑x : Int).toNat ((0 : Int), (0 : Int))).fst,
 (cs.getD (↑x : Int).toNat ((0 : Int), (0 : Int))).snd,
 frDn
 (markS n m.toNat
 (cs.getD (↑x : Int).toNat ((0 : Int), (0 : Int)))
 (linesTo n m cs (↑x : Int).toNat))
 m.toNat x_2)] =
 linesTo n m cs x' ∧
 True ∧ n = n ∧ m = m ∧ cs = cs ∧ True) ∧
 (Small ((0 : Nat) + (linesTo n m cs x).length) ∧
 Small ((linesTo n m cs x).length + ((0 : Nat) + (1 : Nat))) ∧
 Fits IntKind.i64 ((↑x : Int) + (1 : Int)) ∧
 ∃ (x' : Nat),
 x' ≤ cs.length ∧
 cs.length - x' < cs.length - x ∧
 (True ∧
 ansTo n m cs x ++
 [frDn
 (markS n m.toNat
 (cs.getD (↑x : Int).toNat ((0 : Int), (0 : Int)))
 (linesTo n m cs (↑x : Int).toNat))
 m.toNat x_2] =
 ansTo n m cs x' ∧
 True) ∧
 (↑x : Int) + (1 : Int) = (↑x' : Int) ∧
 linesTo n m cs x ++
 [((cs.getD (↑x : Int).toNat ((0 : Int), (0 : Int))).fst,
 (cs.getD (↑x : Int).toNat ((0 : Int), (0 : Int))).snd,
 frDn
 (markS n m.toNat
 (cs.getD (↑x : Int).toNat ((0 : Int), (0 : Int)))
 (linesTo n m cs (↑x : Int).toNat))
 m.toNat x_2)] =
 linesTo n m cs x' ∧
 True ∧ n = n ∧ m = m ∧ cs = cs ∧ True) ∧
 Small ((0 : Nat) + (linesTo n m cs x).length) ∧
 Small ((linesTo n m cs x).length + ((0 : Nat) + (1 : Nat))) ∧
 Fits IntKind.i64 ((↑x : Int) + (1 : Int)) ∧
 ∃ (x' : Nat),
 x' ≤ cs.length ∧
 cs.length - x' < cs.length - x ∧
 (True ∧
 ansTo n m cs x ++
 [frDn
 (markS n m.toNat
 (cs.getD (↑x : Int).toNat ((0 : Int), (0 : Int)))
 (linesTo n m cs (↑x : Int).toNat))
 m.toNat x_2] =
 ansTo n m cs x' ∧
 True) ∧
 (↑x : Int) + (1 : Int) = (↑x' : Int) ∧
 linesTo n m cs x ++
 [((cs.getD (↑x : Int).toNat ((0 : Int), (0 : Int))).fst,
 (cs.getD (↑x : Int).toNat ((0 : Int), (0 : Int))).snd,
 frDn
 (markS n m.toNat
 (cs.getD (↑x : Int).toNat ((0 : Int), (0 : Int)))
 (linesTo n m cs (↑x : Int).toNat))
 m.toNat x_2)] =
 linesTo n m cs x' ∧
 True ∧ n = n ∧ m = m ∧ cs = cs ∧ True) ∧
 (((Small ((0 : Nat) + (linesTo n m cs x).length) ∧
 Small ((linesTo n m cs x).length + ((0 : Nat) + (1 : Nat))) ∧
 Fits IntKind.i64 ((↑x : Int) + (1 : Int)) ∧
 ∃ (x' : Nat),
 x' ≤ cs.length ∧
 cs.length - x' < cs.length - x ∧
 (True ∧
 ansTo n m cs x ++
 [frDn
 (markS n m.toNat
 (cs.getD (↑x : Int).toNat ((0 : Int), (0 : Int)))
 (linesTo n m cs (↑x : Int).toNat))
 m.toNat x_2] =
 ansTo n m cs x' ∧
 True) ∧
 (↑x : Int) + (1 : Int) = (↑x' : Int) ∧
 linesTo n m cs x ++
 [((cs.getD (↑x : Int).toNat ((0 : Int), (0 : Int))).fst,
 (cs.getD (↑x : Int).toNat ((0 : Int), (0 : Int))).snd,
 frDn
 (markS n m.toNat
 (cs.getD (↑x : Int).toNat ((0 : Int), (0 : Int)))
 (linesTo n m cs (↑x : Int).toNat))
 m.toNat x_2)] =
 linesTo n m cs x' ∧
 True ∧ n = n ∧ m = m ∧ cs = cs ∧ True) ∧
 (Small ((0 : Nat) + (linesTo n m cs x).length) ∧
 Small ((linesTo n m cs x).length + ((0 : Nat) + (1 : Nat))) ∧
 Fits IntKind.i64 ((↑x : Int) + (1 : Int)) ∧
 ∃ (x' : Nat),
 x' ≤ cs.length ∧
 cs.length - x' < cs.length - x ∧
 (True ∧
 ansTo n m cs x ++
 [frDn
 (markS n m.toNat
 (cs.getD (↑x : Int).toNat ((0 : Int), (0 : Int)))
 (linesTo n m cs (↑x : Int).toNat))
 m.toNat x_2] =
 ansTo n m cs x' ∧
 True) ∧
 (↑x : Int) + (1 : Int) = (↑x' : Int) ∧
 linesTo n m cs x ++
 [((cs.getD (↑x : Int).toNat ((0 : Int), (0 : Int))).fst,
 (cs.getD (↑x : Int).toNat ((0 : Int), (0 : Int))).snd,
 frDn
 (markS n m.toNat
 (cs.getD (↑x : Int).toNat ((0 : Int), (0 : Int)))
 (linesTo n m cs (↑x : Int).toNat))
 m.toNat x_2)] =
 linesTo n m cs x' ∧
 True ∧ n = n ∧ m = m ∧ cs = cs ∧ True) ∧
 Small ((0 : Nat) + (linesTo n m cs x).length) ∧
 Small ((linesTo n m cs x).length + ((0 : Nat) + (1 : Nat))) ∧
 Fits IntKind.i64 ((↑x : Int) + (1 : Int)) ∧
 ∃ (x' : Nat),
 x' ≤ cs.length ∧
 cs.length - x' < cs.length - x ∧
 (True ∧
 ansTo n m cs x ++
 [frDn
 (markS n m.toNat
 (cs.getD (↑x : Int).toNat ((0 : Int), (0 : Int)))
 (linesTo n m cs (↑x : Int).toNat))
 m.toNat x_2] =
 ansTo n m cs x' ∧
 True) ∧
 (↑x : Int) + (1 : Int) = (↑x' : Int) ∧
 linesTo n m cs x ++
 [((cs.getD (↑x : Int).toNat ((0 : Int), (0 : Int))).fst,
 (cs.getD (↑x : Int).toNat ((0 : Int), (0 : Int))).snd,
 frDn
 (markS n m.toNat
 (cs.getD (↑x : Int).toNat ((0 : Int), (0 : Int)))
 (linesTo n m cs (↑x : Int).toNat))
 m.toNat x_2)] =
 linesTo n m cs x' ∧
 True ∧ n = n ∧ m = m ∧ cs = cs ∧ True) ∧
 ((Small ((0 : Nat) + (linesTo n m cs x).length) ∧
 Small ((linesTo n m cs x).length + ((0 : Nat) + (1 : Nat))) ∧
 Fits IntKind.i64 ((↑x : Int) + (1 : Int)) ∧
 ∃ (x' : Nat),
 x' ≤ cs.length ∧
 cs.length - x' < cs.length - x ∧
 (True ∧
 ansTo n m cs x ++
 [frDn
 (markS n m.toNat
 (cs.getD (↑x : Int).toNat ((0 : Int), (0 : Int)))
 (linesTo n m cs (↑x : Int).toNat))
 m.toNat x_2] =
 ansTo n m cs x' ∧
 True) ∧
 (↑x : Int) + (1 : Int) = (↑x' : Int) ∧
 linesTo n m cs x ++
 [((cs.getD (↑x : Int).toNat ((0 : Int), (0 : Int))).fst,
 (cs.getD (↑x : Int).toNat ((0 : Int), (0 : Int))).snd,
 frDn
 (markS n m.toNat
 (cs.getD (↑x : Int).toNat ((0 : Int), (0 : Int)))
 (linesTo n m cs (↑x : Int).toNat))
 m.toNat x_2)] =
 linesTo n m cs x' ∧
 True ∧ n = n ∧ m = m ∧ cs = cs ∧ True) ∧
 Small ((0 : Nat) + (linesTo n m cs x).length) ∧
 Small ((linesTo n m cs x).length + ((0 : Nat) + (1 : Nat))) ∧
 Fits IntKind.i64 ((↑x : Int) + (1 : Int)) ∧
 ∃ (x' : Nat),
 x' ≤ cs.length ∧
 cs.length - x' < cs.length - x ∧
 (True ∧
 ansTo n m cs x ++
 [frDn
 (markS n m.toNat
 (cs.getD (↑x : Int).toNat ((0 : Int), (0 : Int)))
 (linesTo n m cs (↑x : Int).toNat))
 m.toNat x_2] =
 ansTo n m cs x' ∧
 True) ∧
 (↑x : Int) + (1 : Int) = (↑x' : Int) ∧
 linesTo n m cs x ++
 [((cs.getD (↑x : Int).toNat ((0 : Int), (0 : Int))).fst,
 (cs.getD (↑x : Int).toNat ((0 : Int), (0 : Int))).snd,
 frDn
 (markS n m.toNat
 (cs.getD (↑x : Int).toNat ((0 : Int), (0 : Int)))
 (linesTo n m cs (↑x : Int).toNat))
 m.toNat x_2)] =
 linesTo n m cs x' ∧
 True ∧ n = n ∧ m = m ∧ cs = cs ∧ True) ∧
 Small ((0 : Nat) + (linesTo n m cs x).length) ∧
 Small ((linesTo n m cs x).length + ((0 : Nat) + (1 : Nat))) ∧
 Fits IntKind.i64 ((↑x : Int) + (1 : Int)) ∧
 ∃ (x' : Nat),
 x' ≤ cs.length ∧
 cs.length - x' < cs.length - x ∧
 (True ∧
 ansTo n m cs x ++
 [frDn
 (markS n m.toNat
 (cs.getD (↑x : Int).toNat ((0 : Int), (0 : Int)))
 (linesTo n m cs (↑x : Int).toNat))
 m.toNat x_2] =
 ansTo n m cs x' ∧
 True) ∧
 (↑x : Int) + (1 : Int) = (↑x' : Int) ∧
 linesTo n m cs x ++
 [((cs.getD (↑x : Int).toNat ((0 : Int), (0 : Int))).fst,
 (cs.getD (↑x : Int).toNat ((0 : Int), (0 : Int))).snd,
 frDn
 (markS n m.toNat
 (cs.getD (↑x : Int).toNat ((0 : Int), (0 : Int)))
 (linesTo n m cs (↑x : Int).toNat))
 m.toNat x_2)] =
 linesTo n m cs x' ∧
 True ∧ n = n ∧ m = m ∧ cs = cs ∧ True) ∧
 ((Small ((0 : Nat) + (linesTo n m cs x).length) ∧
 Small ((linesTo n m cs x).length + ((0 : Nat) + (1 : Nat))) ∧
 Fits IntKind.i64 ((↑x : Int) + (1 : Int)) ∧
 ∃ (x' : Nat),
 x' ≤ cs.length ∧
 cs.length - x' < cs.length - x ∧
 (True ∧
 ansTo n m cs x ++
 [frDn
 (markS n m.toNat
 (cs.getD (↑x : Int).toNat ((0 : Int), (0 : Int)))
 (linesTo n m cs (↑x : Int).toNat))
 m.toNat x_2] =
 ansTo n m cs x' ∧
 True) ∧
 (↑x : Int) + (1 : Int) = (↑x' : Int) ∧
 linesTo n m cs x ++
 [((cs.getD (↑x : Int).toNat ((0 : Int), (0 : Int))).fst,
 (cs.getD (↑x : Int).toNat ((0 : Int), (0 : Int))).snd,
 frDn
 (markS n m.toNat
 (cs.getD (↑x : Int).toNat ((0 : Int), (0 : Int)))
 (linesTo n m cs (↑x : Int).toNat))
 m.toNat x_2)] =
 linesTo n m cs x' ∧
 True ∧ n = n ∧ m = m ∧ cs = cs ∧ True) ∧
 (Small ((0 : Nat) + (linesTo n m cs x).length) ∧
 Small ((linesTo n m cs x).length + ((0 : Nat) + (1 : Nat))) ∧
 Fits IntKind.i64 ((↑x : Int) + (1 : Int)) ∧
 ∃ (x' : Nat),
 x' ≤ cs.length ∧
 cs.length - x' < cs.length - x ∧
 (True ∧
 ansTo n m cs x ++
 [frDn
 (markS n m.toNat
 (cs.getD (↑x : Int).toNat ((0 : Int), (0 : Int)))
 (linesTo n m cs (↑x : Int).toNat))
 m.toNat x_2] =
 ansTo n m cs x' ∧
 True) ∧
 (↑x : Int) + (1 : Int) = (↑x' : Int) ∧
 linesTo n m cs x ++
 [((cs.getD (↑x : Int).toNat ((0 : Int), (0 : Int))).fst,
 (cs.getD (↑x : Int).toNat ((0 : Int), (0 : Int))).snd,
 frDn
 (markS n m.toNat
 (cs.getD (↑x : Int).toNat ((0 : Int), (0 : Int)))
 (linesTo n m cs (↑x : Int).toNat))
 m.toNat x_2)] =
 linesTo n m cs x' ∧
 True ∧ n = n ∧ m = m ∧ cs = cs ∧ True) ∧
 Small ((0 : Nat) + (linesTo n m cs x).length) ∧
 Small ((linesTo n m cs x).length + ((0 : Nat) + (1 : Nat))) ∧
 Fits IntKind.i64 ((↑x : Int) + (1 : Int)) ∧
 ∃ (x' : Nat),
 x' ≤ cs.length ∧
 cs.length - x' < cs.length - x ∧
 (True ∧
 ansTo n m cs x ++
 [frDn
 (markS n m.toNat
 (cs.getD (↑x : Int).toNat ((0 : Int), (0 : Int)))
 (linesTo n m cs (↑x : Int).toNat))
 m.toNat x_2] =
 ansTo n m cs x' ∧
 True) ∧
 (↑x : Int) + (1 : Int) = (↑x' : Int) ∧
 linesTo n m cs x ++
 [((cs.getD (↑x : Int).toNat ((0 : Int), (0 : Int))).fst,
 (cs.getD (↑x : Int).toNat ((0 : Int), (0 : Int))).snd,
 frDn
 (markS n m.toNat
 (cs.getD (↑x : Int).toNat ((0 : Int), (0 : Int)))
 (linesTo n m cs (↑x : Int).toNat))
 m.toNat x_2)] =
 linesTo n m cs x' ∧
 True ∧ n = n ∧ m = m ∧ cs = cs ∧ True) ∧
 ((Small ((0 : Nat) + (linesTo n m cs x).length) ∧
 Small ((linesTo n m cs x).length + ((0 : Nat) + (1 : Nat))) ∧
 Fits IntKind.i64 ((↑x : Int) + (1 : Int)) ∧
 ∃ (x' : Nat),
 x' ≤ cs.length ∧
 cs.length - x' < cs.length - x ∧
 (True ∧
 ansTo n m cs x ++
 [frDn
 (markS n m.toNat
 (cs.getD (↑x : Int).toNat ((0 : Int), (0 : Int)))
 (linesTo n m cs (↑x : Int).toNat))
 m.toNat x_2] =
 ansTo n m cs x' ∧
 True) ∧
 (↑x : Int) + (1 : Int) = (↑x' : Int) ∧
 linesTo n m cs x ++
 [((cs.getD (↑x : Int).toNat ((0 : Int), (0 : Int))).fst,
 (cs.getD (↑x : Int).toNat ((0 : Int), (0 : Int))).snd,
 frDn
 (markS n m.toNat
 (cs.getD (↑x : Int).toNat ((0 : Int), (0 : Int)))
 (linesTo n m cs (↑x : Int).toNat))
 m.toNat x_2)] =
 linesTo n m cs x' ∧
 True ∧ n = n ∧ m = m ∧ cs = cs ∧ True) ∧
 Small ((0 : Nat) + (linesTo n m cs x).length) ∧
 Small ((linesTo n m cs x).length + ((0 : Nat) + (1 : Nat))) ∧
 Fits IntKind.i64 ((↑x : Int) + (1 : Int)) ∧
 ∃ (x' : Nat),
 x' ≤ cs.length ∧
 cs.length - x' < cs.length - x ∧
 (True ∧
 ansTo n m cs x ++
 [frDn
 (markS n m.toNat
 (cs.getD (↑x : Int).toNat ((0 : Int), (0 : Int)))
 (linesTo n m cs (↑x : Int).toNat))
 m.toNat x_2] =
 ansTo n m cs x' ∧
 True) ∧
 (↑x : Int) + (1 : Int) = (↑x' : Int) ∧
 linesTo n m cs x ++
 [((cs.getD (↑x : Int).toNat ((0 : Int), (0 : Int))).fst,
 (cs.getD (↑x : Int).toNat ((0 : Int), (0 : Int))).snd,
 frDn
 (markS n m.toNat
 (cs.getD (↑x : Int).toNat ((0 : Int), (0 : Int)))
 (linesTo n m cs (↑x : Int).toNat))
 m.toNat x_2)] =
 linesTo n m cs x' ∧
 True ∧ n = n ∧ m = m ∧ cs = cs ∧ True) ∧
 Small ((0 : Nat) + (linesTo n m cs x).length) ∧
 Small ((linesTo n m cs x).length + ((0 : Nat) + (1 : Nat))) ∧
 Fits IntKind.i64 ((↑x : Int) + (1 : Int)) ∧
 ∃ (x' : Nat),
 x' ≤ cs.length ∧
 cs.length - x' < cs.length - x ∧
 (True ∧
 ansTo n m cs x ++
 [frDn
 (markS n m.toNat
 (cs.getD (↑x : Int).toNat ((0 : Int), (0 : Int)))
 (linesTo n m cs (↑x : Int).toNat))
 m.toNat x_2] =
 ansTo n m cs x' ∧
 True) ∧
 (↑x : Int) + (1 : Int) = (↑x' : Int) ∧
 linesTo n m cs x ++
 [((cs.getD (↑x : Int).toNat ((0 : Int), (0 : Int))).fst,
 (cs.getD (↑x : Int).toNat ((0 : Int), (0 : Int))).snd,
 frDn
 (markS n m.toNat
 (cs.getD (↑x : Int).toNat ((0 : Int), (0 : Int)))
 (linesTo n m cs (↑x : Int).toNat))
 m.toNat x_2)] =
 linesTo n m cs x' ∧
 True ∧ n = n ∧ m = m ∧ cs = cs ∧ True) ∧
 (¬(0 : Int) ≤
 frDn
 (markS n m.toNat (cs.getD (↑x : Int).toNat ((0 : Int), (0 : Int)))
 (linesTo n m cs (↑x : Int).toNat))
 m.toNat x_2 →
 ¬(0 : Int) ≤
 frDn
 (markS n m.toNat (cs.getD (↑x : Int).toNat ((0 : Int), (0 : Int)))
 (linesTo n m cs (↑x : Int).toNat))
 m.toNat x_2 ∧
 Fits IntKind.i64 ((↑x : Int) + (1 : Int)) ∧
 ∃ (x' : Nat),
 x' ≤ cs.length ∧
 cs.length - x' < cs.length - x ∧
 (True ∧
 ansTo n m cs x ++
 [frDn
 (markS n m.toNat (cs.getD (↑x : Int).toNat ((0 : Int), (0 : Int)))
 (linesTo n m cs (↑x : Int).toNat))
 m.toNat x_2] =
 ansTo n m cs x' ∧
 True) ∧
 (↑x : Int) + (1 : Int) = (↑x' : Int) ∧
 linesTo n m cs x = linesTo n m cs x' ∧ True ∧ n = n ∧ m = m ∧ cs = cs ∧ True)))))) ∧
 (¬(cs.getD (↑x : Int).toNat ((0 : Int), (0 : Int))).snd < (0 : Int) →
 ¬(cs.getD (↑x : Int).toNat ((0 : Int), (0 : Int))).snd < (0 : Int) ∧
 ¬(cs.getD (↑x : Int).toNat ((0 : Int), (0 : Int))).snd < (0 : Int) ∧
 ((0 : Int) ≤ (cs.getD (↑x : Int).toNat ((0 : Int), (0 : Int))).snd →
 (0 : Int) ≤ (cs.getD (↑x : Int).toNat ((0 : Int), (0 : Int))).snd ∧
 (0 : Int) ≤ (cs.getD (↑x : Int).toNat ((0 : Int), (0 : Int))).snd ∧
 ((List.take x_1 (linesTo n m cs (↑x : Int).toNat)).any (meets (cs.getD (↑x : Int).toNat ((0 : Int), (0 : Int)))) = true →
 (List.take x_1 (linesTo n m cs (↑x : Int).toNat)).any (meets (cs.getD (↑x : Int).toNat ((0 : Int), (0 : Int)))) = true ∧
 (List.take x_1 (linesTo n m cs (↑x : Int).toNat)).any (meets (cs.getD (↑x : Int).toNat ((0 : Int), (0 : Int)))) = true ∧
 (List.take x_1 (linesTo n m cs (↑x : Int).toNat)).any (meets (cs.getD (↑x : Int).toNat ((0 : Int), (0 : Int)))) = true ∧
 (List.take x_1 (linesTo n m cs (↑x : Int).toNat)).any (meets (cs.getD (↑x : Int).toNat ((0 : Int), (0 : Int)))) = true ∧
 Small ((ansTo n m cs x).length + ((0 : Nat) + (1 : Nat))) ∧
 Fits IntKind.i64 ((↑x : Int) + (1 : Int)) ∧
 ∃ (x' : Nat),
 x' ≤ cs.length ∧
 cs.length - x' < cs.length - x ∧
 (True ∧ ansTo n m cs x ++ [(-2 : Int)] = ansTo n m cs x' ∧ True) ∧
 (↑x : Int) + (1 : Int) = (↑x' : Int) ∧
 linesTo n m cs x = linesTo n m cs x' ∧ True ∧ n = n ∧ m = m ∧ cs = cs ∧ True) ∧
 ((List.take x_1 (linesTo n m cs (↑x : Int).toNat)).any (meets (cs.getD (↑x : Int).toNat ((0 : Int), (0 : Int)))) = false →
 (List.take x_1 (linesTo n m cs (↑x : Int).toNat)).any (meets (cs.getD (↑x : Int).toNat ((0 : Int), (0 : Int)))) = false ∧
 (List.take x_1 (linesTo n m cs (↑x : Int).toNat)).any (meets (cs.getD (↑x : Int).toNat ((0 : Int), (0 : Int)))) = false ∧
 (List.take x_1 (linesTo n m cs (↑x : Int).toNat)).any (meets (cs.getD (↑x : Int).toNat ((0 : Int), (0 : Int)))) = false ∧
 (List.take x_1 (linesTo n m cs (↑x : Int).toNat)).any (meets (cs.getD (↑x : Int).toNat ((0 : Int), (0 : Int)))) = false ∧
 ((cs.getD (↑x : Int).toNat ((0 : Int), (0 : Int))).snd < (0 : Int) →
 (cs.getD (↑x : Int).toNat ((0 : Int), (0 : Int))).snd < (0 : Int) ∧
 (cs.getD (↑x : Int).toNat ((0 : Int), (0 : Int))).snd < (0 : Int) ∧
 ((0 : Int) ≤ atTo (linesTo n m cs (↑x : Int).toNat) (cs.getD (↑x : Int).toNat ((0 : Int), (0 : Int))).fst x_1 ∧
 atTo (linesTo n m cs (↑x : Int).toNat) (cs.getD (↑x : Int).toNat ((0 : Int), (0 : Int))).fst x_1 <
 (↑(linesTo n m cs x).length : Int)) ∧
 Small ((ansTo n m cs x).length + ((0 : Nat) + (1 : Nat))) ∧
 ((0 : Int) ≤ (↑(0 : Nat) : Int) ∧
 (↑(0 : Nat) : Int) ≤
 atTo (linesTo n m cs (↑x : Int).toNat) (cs.getD (↑x : Int).toNat ((0 : Int), (0 : Int))).fst x_1 ∧
 atTo (linesTo n m cs (↑x : Int).toNat) (cs.getD (↑x : Int).toNat ((0 : Int), (0 : Int))).fst x_1 ≤
 (↑(linesTo n m cs x).length : Int)) ∧
 True ∧
 Fits IntKind.i64
 (atTo (linesTo n m cs (↑x : Int).toNat) (cs.getD (↑x : Int).toNat ((0 : Int), (0 : Int))).fst x_1 +
 (1 : Int)) ∧
 ((0 : Int) ≤
 atTo (linesTo n m cs (↑x : Int).toNat) (cs.getD (↑x : Int).toNat ((0 : Int), (0 : Int))).fst x_1 +
 (1 : Int) ∧
 atTo (linesTo n m cs (↑x : Int).toNat) (cs.getD (↑x : Int).toNat ((0 : Int), (0 : Int))).fst x_1 +
 (1 : Int) ≤
 (↑(linesTo n m cs x).length : Int) ∧
 (↑(linesTo n m cs x).length : Int) ≤ (↑(linesTo n m cs x).length : Int)) ∧
 True ∧
 Small
 ((0 : Nat) +
 (List.drop (↑(0 : Nat) : Int).toNat
 (List.take
 (atTo (linesTo n m cs (↑x : Int).toNat)
 (cs.getD (↑x : Int).toNat ((0 : Int), (0 : Int))).fst x_1).toNat
 (linesTo n m cs x))).length) ∧
 Small
 ((List.drop (↑(0 : Nat) : Int).toNat
 (List.take
 (atTo (linesTo n m cs (↑x : Int).toNat)
 (cs.getD (↑x : Int).toNat ((0 : Int), (0 : Int))).fst x_1).toNat
 (linesTo n m cs x))).length +
 (List.drop
 (atTo (linesTo n m cs (↑x : Int).toNat)
 (cs.getD (↑x : Int).toNat ((0 : Int), (0 : Int))).fst x_1 +
 (1 : Int)).toNat
 (List.take (↑(linesTo n m cs x).length : Int).toNat (linesTo n m cs x))).length) ∧
 Fits IntKind.i64 ((↑x : Int) + (1 : Int)) ∧
 ∃ (x' : Nat),
 x' ≤ cs.length ∧
 cs.length - x' < cs.length - x ∧
 (True ∧
 ansTo n m cs x ++
 [((linesTo n m cs x).getD
 (atTo (linesTo n m cs (↑x : Int).toNat)
 (cs.getD (↑x : Int).toNat ((0 : Int), (0 : Int))).fst x_1).toNat
 ((0 : Int), (0 : Int), (0 : Int))).snd.snd] =
 ansTo n m cs x' ∧
 True) ∧
 (↑x : Int) + (1 : Int) = (↑x' : Int) ∧
 List.drop (↑(0 : Nat) : Int).toNat
 (List.take
 (atTo (linesTo n m cs (↑x : Int).toNat)
 (cs.getD (↑x : Int).toNat ((0 : Int), (0 : Int))).fst x_1).toNat
 (linesTo n m cs x)) ++
 List.drop
 (atTo (linesTo n m cs (↑x : Int).toNat)
 (cs.getD (↑x : Int).toNat ((0 : Int), (0 : Int))).fst x_1 +
 (1 : Int)).toNat
 (List.take (↑(linesTo n m cs x).length : Int).toNat (linesTo n m cs x)) =
 linesTo n m cs x' ∧
 True ∧ n = n ∧ m = m ∧ cs = cs ∧ True) ∧
 (¬(cs.getD (↑x : Int).toNat ((0 : Int), (0 : Int))).snd < (0 : Int) →
 ¬(cs.getD (↑x : Int).toNat ((0 : Int), (0 : Int))).snd < (0 : Int) ∧
 ¬(cs.getD (↑x : Int).toNat ((0 : Int), (0 : Int))).snd < (0 : Int) ∧
 Fits IntKind.i64 (m - (1 : Int)) ∧
 (∃ (x0 : Nat),
 x0 ≤ m.toNat ∧
 (True ∧
 ansTo n m cs x = ansTo n m cs x ∧
 ((cs.getD (↑x : Int).toNat ((0 : Int), (0 : Int))).fst =
 (cs.getD (↑x : Int).toNat ((0 : Int), (0 : Int))).fst ∧
 (cs.getD (↑x : Int).toNat ((0 : Int), (0 : Int))).snd =
 (cs.getD (↑x : Int).toNat ((0 : Int), (0 : Int))).snd ∧
 True) ∧
 markS n m.toNat (cs.getD (↑x : Int).toNat ((0 : Int), (0 : Int)))
 (List.take x_1 (linesTo n m cs (↑x : Int).toNat)) =
 markS n m.toNat (cs.getD (↑x : Int).toNat ((0 : Int), (0 : Int)))
 (List.take x_1 (linesTo n m cs (↑x : Int).toNat)) ∧
 True) ∧
 m - (1 : Int) = m - (1 : Int) - (↑x0 : Int) ∧
 (-1 : Int) =
 frDn
 (markS n m.toNat (cs.getD (↑x : Int).toNat ((0 : Int), (0 : Int)))
 (linesTo n m cs (↑x : Int).toNat))
 m.toNat x0 ∧
 True ∧
 True ∧
 (↑x : Int) = (↑x : Int) ∧
 linesTo n m cs x = linesTo n m cs x ∧ True ∧ n = n ∧ m = m ∧ cs = cs ∧ True) ∧
 ∀ (x_2 : Nat),
 x_2 ≤ m.toNat →
 ((0 : Int) ≤ m - (1 : Int) - (↑x_2 : Int) →
 (0 : Int) ≤ m - (1 : Int) - (↑x_2 : Int) ∧
 ((0 : Int) ≤ m - (1 : Int) - (↑x_2 : Int) ∧
 m - (1 : Int) - (↑x_2 : Int) <
 (↑(markS n m.toNat (cs.getD (↑x : Int).toNat ((0 : Int), (0 : Int)))
 (List.take x_1 (linesTo n m cs (↑x : Int).toNat))).length :
 Int)) ∧
 ((!(markS n m.toNat (cs.getD (↑x : Int).toNat ((0 : Int), (0 : Int)))
 (List.take x_1 (linesTo n m cs (↑x : Int).toNat))).getD
 (m - (1 : Int) - (↑x_2 : Int)).toNat false) =
 true →
 (!(markS n m.toNat (cs.getD (↑x : Int).toNat ((0 : Int), (0 : Int)))
 (List.take x_1 (linesTo n m cs (↑x : Int).toNat))).getD
 (m - (1 : Int) - (↑x_2 : Int)).toNat false) =
 true ∧
 Fits IntKind.i64 (m - (1 : Int) - (↑x_2 : Int) - (1 : Int)) ∧
 ∃ (x' : Nat),
 x' ≤ m.toNat ∧
 m.toNat - x' < m.toNat - x_2 ∧
 (True ∧
 ansTo n m cs x = ansTo n m cs x ∧
 ((cs.getD (↑x : Int).toNat ((0 : Int), (0 : Int))).fst =
 (cs.getD (↑x : Int).toNat ((0 : Int), (0 : Int))).fst ∧
 (cs.getD (↑x : Int).toNat ((0 : Int), (0 : Int))).snd =
 (cs.getD (↑x : Int).toNat ((0 : Int), (0 : Int))).snd ∧
 True) ∧
 markS n m.toNat (cs.getD (↑x : Int).toNat ((0 : Int), (0 : Int)))
 (List.take x_1 (linesTo n m cs (↑x : Int).toNat)) =
 markS n m.toNat (cs.getD (↑x : Int).toNat ((0 : Int), (0 : Int)))
 (List.take x_1 (linesTo n m cs (↑x : Int).toNat)) ∧
 True) ∧
 m - (1 : Int) - (↑x_2 : Int) - (1 : Int) = m - (1 : Int) - (↑x' : Int) ∧
 m - (1 : Int) - (↑x_2 : Int) =
 frDn
 (markS n m.toNat (cs.getD (↑x : Int).toNat ((0 : Int), (0 : Int)))
 (linesTo n m cs (↑x : Int).toNat))
 m.toNat x' ∧
 True ∧
 True ∧
 (↑x : Int) = (↑x : Int) ∧
 linesTo n m cs x = linesTo n m cs x ∧
 True ∧ n = n ∧ m = m ∧ cs = cs ∧ True) ∧
 ((!(markS n m.toNat (cs.getD (↑x : Int).toNat ((0 : Int), (0 : Int)))
 (List.take x_1 (linesTo n m cs (↑x : Int).toNat))).getD
 (m - (1 : Int) - (↑x_2 : Int)).toNat false) =
 false →
 (!(markS n m.toNat (cs.getD (↑x : Int).toNat ((0 : Int), (0 : Int)))
 (List.take x_1 (linesTo n m cs (↑x : Int).toNat))).getD
 (m - (1 : Int) - (↑x_2 : Int)).toNat false) =
 false ∧
 Fits IntKind.i64 (m - (1 : Int) - (↑x_2 : Int) - (1 : Int)) ∧
 ∃ (x' : Nat),
 x' ≤ m.toNat ∧
 m.toNat - x' < m.toNat - x_2 ∧
 (True ∧
 ansTo n m cs x = ansTo n m cs x ∧
 ((cs.getD (↑x : Int).toNat ((0 : Int), (0 : Int))).fst =
 (cs.getD (↑x : Int).toNat ((0 : Int), (0 : Int))).fst ∧
 (cs.getD (↑x : Int).toNat ((0 : Int), (0 : Int))).snd =
 (cs.getD (↑x : Int).toNat ((0 : Int), (0 : Int))).snd ∧
 True) ∧
 markS n m.toNat (cs.getD (↑x : Int).toNat ((0 : Int), (0 : Int)))
 (List.take x_1 (linesTo n m cs (↑x : Int).toNat)) =
 markS n m.toNat (cs.getD (↑x : Int).toNat ((0 : Int), (0 : Int)))
 (List.take x_1 (linesTo n m cs (↑x : Int).toNat)) ∧
 True) ∧
 m - (1 : Int) - (↑x_2 : Int) - (1 : Int) = m - (1 : Int) - (↑x' : Int) ∧
 frDn
 (markS n m.toNat (cs.getD (↑x : Int).toNat ((0 : Int), (0 : Int)))
 (linesTo n m cs (↑x : Int).toNat))
 m.toNat x_2 =
 frDn
 (markS n m.toNat (cs.getD (↑x : Int).toNat ((0 : Int), (0 : Int)))
 (linesTo n m cs (↑x : Int).toNat))
 m.toNat x' ∧
 True ∧
 True ∧
 (↑x : Int) = (↑x : Int) ∧
 linesTo n m cs x = linesTo n m cs x ∧
 True ∧ n = n ∧ m = m ∧ cs = cs ∧ True)) ∧
 (¬(0 : Int) ≤ m - (1 : Int) - (↑x_2 : Int) →
 ¬(0 : Int) ≤ m - (1 : Int) - (↑x_2 : Int) ∧
 Small ((ansTo n m cs x).length + ((0 : Nat) + (1 : Nat))) ∧
 ((0 : Int) ≤
 frDn
 (markS n m.toNat (cs.getD (↑x : Int).toNat ((0 : Int), (0 : Int)))
 (linesTo n m cs (↑x : Int).toNat))
 m.toNat x_2 →
 (0 : Int) ≤
 frDn
 (markS n m.toNat (cs.getD (↑x : Int).toNat ((0 : Int), (0 : Int)))
 (linesTo n m cs (↑x : Int).toNat))
 m.toNat x_2 ∧
 ((Small ((0 : Nat) + (linesTo n m cs x).length) ∧
 Small ((linesTo n m cs x).length + ((0 : Nat) + (1 : Nat))) ∧
 Fits IntKind.i64 ((↑x : Int) + (1 : Int)) ∧
 ∃ (x' : Nat),
 x' ≤ cs.length ∧
 cs.length - x' < cs.length - x ∧
 (True ∧
 ansTo n m cs x ++
 [frDn
 (markS n m.toNat
 (cs.getD (↑x : Int).toNat ((0 : Int), (0 : Int)))
 (linesTo n m cs (↑x : Int).toNat))
 m.toNat x_2] =
 ansTo n m cs x' ∧
 True) ∧
 (↑x : Int) + (1 : Int) = (↑x' : Int) ∧
 linesTo n m cs x ++
 [((cs.getD (↑x : Int).toNat ((0 : Int), (0 : Int))).fst,
 (cs.getD (↑x : Int).toNat ((0 : Int), (0 : Int))).snd,
 frDn
 (markS n m.toNat
 (cs.getD (↑x : Int).toNat ((0 : Int), (0 : Int)))
 (linesTo n m cs (↑x : Int).toNat))
 m.toNat x_2)] =
 linesTo n m cs x' ∧
 True ∧ n = n ∧ m = m ∧ cs = cs ∧ True) ∧
 ((Small ((0 : Nat) + (linesTo n m cs x).length) ∧
 Small ((linesTo n m cs x).length + ((0 : Nat) + (1 : Nat))) ∧
 Fits IntKind.i64 ((↑x : Int) + (1 : Int)) ∧
 ∃ (x' : Nat),
 x' ≤ cs.length ∧
 cs.length - x' < cs.length - x ∧
 (True ∧
 ansTo n m cs x ++
 [frDn
 (markS n m.toNat
 (cs.getD (↑x : Int).toNat ((0 : Int), (0 : Int)))
 (linesTo n m cs (↑x : Int).toNat))
 m.toNat x_2] =
 ansTo n m cs x' ∧
 True) ∧
 (↑x : Int) + (1 : Int) = (↑x' : Int) ∧
 linesTo n m cs x ++
 [((cs.getD (↑x : Int).toNat ((0 : Int), (0 : Int))).fst,
 (cs.getD (↑x : Int).toNat ((0 : Int), (0 : Int))).snd,
 frDn
 (markS n m.toNat
 (cs.getD (↑x : Int).toNat ((0 : Int), (0 : Int)))
 (linesTo n m cs (↑x : Int).toNat))
 m.toNat x_2)] =
 linesTo n m cs x' ∧
 True ∧ n = n ∧ m = m ∧ cs = cs ∧ True) ∧
 (Small ((0 : Nat) + (linesTo n m cs x).length) ∧
 Small ((linesTo n m cs x).length + ((0 : Nat) + (1 : Nat))) ∧
 Fits IntKind.i64 ((↑x : Int) + (1 : Int)) ∧
 ∃ (x' : Nat),
 x' ≤ cs.length ∧
 cs.length - x' < cs.length - x ∧
 (True ∧
 ansTo n m cs x ++
 [frDn
 (markS n m.toNat
 (cs.getD (↑x : Int).toNat ((0 : Int), (0 : Int)))
 (linesTo n m cs (↑x : Int).toNat))
 m.toNat x_2] =
 ansTo n m cs x' ∧
 True) ∧
 (↑x : Int) + (1 : Int) = (↑x' : Int) ∧
 linesTo n m cs x ++
 [((cs.getD (↑x : Int).toNat ((0 : Int), (0 : Int))).fst,
 (cs.getD (↑x : Int).toNat ((0 : Int), (0 : Int))).snd,
 frDn
 (markS n m.toNat
 (cs.getD (↑x : Int).toNat ((0 : Int), (0 : Int)))
 (linesTo n m cs (↑x : Int).toNat))
 m.toNat x_2)] =
 linesTo n m cs x' ∧
 True ∧ n = n ∧ m = m ∧ cs = cs ∧ True) ∧
 Small ((0 : Nat) + (linesTo n m cs x).length) ∧
 Small ((linesTo n m cs x).length + ((0 : Nat) + (1 : Nat))) ∧
 Fits IntKind.i64 ((↑x : Int) + (1 : Int)) ∧
 ∃ (x' : Nat),
 x' ≤ cs.length ∧
 cs.length - x' < cs.length - x ∧
 (True ∧
 ansTo n m cs x ++
 [frDn
 (markS n m.toNat
 (cs.getD (↑x : Int).toNat ((0 : Int), (0 : Int)))
 (linesTo n m cs (↑x : Int).toNat))
 m.toNat x_2] =
 ansTo n m cs x' ∧
 True) ∧
 (↑x : Int) + (1 : Int) = (↑x' : Int) ∧
 linesTo n m cs x ++
 [((cs.getD (↑x : Int).toNat ((0 : Int), (0 : Int))).fst,
 (cs.getD (↑x : Int).toNat ((0 : Int), (0 : Int))).snd,
 frDn
 (markS n m.toNat
 (cs.getD (↑x : Int).toNat ((0 : Int), (0 : Int)))
 (linesTo n m cs (↑x : Int).toNat))
 m.toNat x_2)] =
 linesTo n m cs x' ∧
 True ∧ n = n ∧ m = m ∧ cs = cs ∧ True) ∧
 (Small ((0 : Nat) + (linesTo n m cs x).length) ∧
 Small ((linesTo n m cs x).length + ((0 : Nat) + (1 : Nat))) ∧
 Fits IntKind.i64 ((↑x : Int) + (1 : Int)) ∧
 ∃ (x' : Nat),
 x' ≤ cs.length ∧
 cs.length - x' < cs.length - x ∧
 (True ∧
 ansTo n m cs x ++
 [frDn
 (markS n m.toNat
 (cs.getD (↑x : Int).toNat ((0 : Int), (0 : Int)))
 (linesTo n m cs (↑x : Int).toNat))
 m.toNat x_2] =
 ansTo n m cs x' ∧
 True) ∧
 (↑x : Int) + (1 : Int) = (↑x' : Int) ∧
 linesTo n m cs x ++
 [((cs.getD (↑x : Int).toNat ((0 : Int), (0 : Int))).fst,
 (cs.getD (↑x : Int).toNat ((0 : Int), (0 : Int))).snd,
 frDn
 (markS n m.toNat
 (cs.getD (↑x : Int).toNat ((0 : Int), (0 : Int)))
 (linesTo n m cs (↑x : Int).toNat))
 m.toNat x_2)] =
 linesTo n m cs x' ∧
 True ∧ n = n ∧ m = m ∧ cs = cs ∧ True) ∧
 (Small ((0 : Nat) + (linesTo n m cs x).length) ∧
 Small ((linesTo n m cs x).length + ((0 : Nat) + (1 : Nat))) ∧
 Fits IntKind.i64 ((↑x : Int) + (1 : Int)) ∧
 ∃ (x' : Nat),
 x' ≤ cs.length ∧
 cs.length - x' < cs.length - x ∧
 (True ∧
 ansTo n m cs x ++
 [frDn
 (markS n m.toNat
 (cs.getD (↑x : Int).toNat ((0 : Int), (0 : Int)))
 (linesTo n m cs (↑x : Int).toNat))
 m.toNat x_2] =
 ansTo n m cs x' ∧
 True) ∧
 (↑x : Int) + (1 : Int) = (↑x' : Int) ∧
 linesTo n m cs x ++
 [((cs.getD (↑x : Int).toNat ((0 : Int), (0 : Int))).fst,
 (cs.getD (↑x : Int).toNat ((0 : Int), (0 : Int))).snd,
 frDn
 (markS n m.toNat
 (cs.getD (↑x : Int).toNat ((0 : Int), (0 : Int)))
 (linesTo n m cs (↑x : Int).toNat))
 m.toNat x_2)] =
 linesTo n m cs x' ∧
 True ∧ n = n ∧ m = m ∧ cs = cs ∧ True) ∧
 Small ((0 : Nat) + (linesTo n m cs x).length) ∧
 Small ((linesTo n m cs x).length + ((0 : Nat) + (1 : Nat))) ∧
 Fits IntKind.i64 ((↑x : Int) + (1 : Int)) ∧
 ∃ (x' : Nat),
 x' ≤ cs.length ∧
 cs.length - x' < cs.length - x ∧
 (True ∧
 ansTo n m cs x ++
 [frDn
 (markS n m.toNat
 (cs.getD (↑x : Int).toNat ((0 : Int), (0 : Int)))
 (linesTo n m cs (↑x : Int).toNat))
 m.toNat x_2] =
 ansTo n m cs x' ∧
 True) ∧
 (↑x : Int) + (1 : Int) = (↑x' : Int) ∧
 linesTo n m cs x ++
 [((cs.getD (↑x : Int).toNat ((0 : Int), (0 : Int))).fst,
 (cs.getD (↑x : Int).toNat ((0 : Int), (0 : Int))).snd,
 frDn
 (markS n m.toNat
 (cs.getD (↑x : Int).toNat ((0 : Int), (0 : Int)))
 (linesTo n m cs (↑x : Int).toNat))
 m.toNat x_2)] =
 linesTo n m cs x' ∧
 True ∧ n = n ∧ m = m ∧ cs = cs ∧ True) ∧
 (((Small ((0 : Nat) + (linesTo n m cs x).length) ∧
 Small ((linesTo n m cs x).length + ((0 : Nat) + (1 : Nat))) ∧
 Fits IntKind.i64 ((↑x : Int) + (1 : Int)) ∧
 ∃ (x' : Nat),
 x' ≤ cs.length ∧
 cs.length - x' < cs.length - x ∧
 (True ∧
 ansTo n m cs x ++
 [frDn
 (markS n m.toNat
 (cs.getD (↑x : Int).toNat ((0 : Int), (0 : Int)))
 (linesTo n m cs (↑x : Int).toNat))
 m.toNat x_2] =
 ansTo n m cs x' ∧
 True) ∧
 (↑x : Int) + (1 : Int) = (↑x' : Int) ∧
 linesTo n m cs x ++
 [((cs.getD (↑x : Int).toNat ((0 : Int), (0 : Int))).fst,
 (cs.getD (↑x : Int).toNat ((0 : Int), (0 : Int))).snd,
 frDn
 (markS n m.toNat
 (cs.getD (↑x : Int).toNat ((0 : Int), (0 : Int)))
 (linesTo n m cs (↑x : Int).toNat))
 m.toNat x_2)] =
 linesTo n m cs x' ∧
 True ∧ n = n ∧ m = m ∧ cs = cs ∧ True) ∧
 (Small ((0 : Nat) + (linesTo n m cs x).length) ∧
 Small ((linesTo n m cs x).length + ((0 : Nat) + (1 : Nat))) ∧
 Fits IntKind.i64 ((↑x : Int) + (1 : Int)) ∧
 ∃ (x' : Nat),
 x' ≤ cs.length ∧
 cs.length - x' < cs.length - x ∧
 (True ∧
 ansTo n m cs x ++
 [frDn
 (markS n m.toNat
 (cs.getD (↑x : Int).toNat ((0 : Int), (0 : Int)))
 (linesTo n m cs (↑x : Int).toNat))
 m.toNat x_2] =
 ansTo n m cs x' ∧
 True) ∧
 (↑x : Int) + (1 : Int) = (↑x' : Int) ∧
 linesTo n m cs x ++
 [((cs.getD (↑x : Int).toNat ((0 : Int), (0 : Int))).fst,
 (cs.getD (↑x : Int).toNat ((0 : Int), (0 : Int))).snd,
 frDn
 (markS n m.toNat
 (cs.getD (↑x : Int).toNat ((0 : Int), (0 : Int)))
 (linesTo n m cs (↑x : Int).toNat))
 m.toNat x_2)] =
 linesTo n m cs x' ∧
 True ∧ n = n ∧ m = m ∧ cs = cs ∧ True) ∧
 Small ((0 : Nat) + (linesTo n m cs x).length) ∧
 Small ((linesTo n m cs x).length + ((0 : Nat) + (1 : Nat))) ∧
 Fits IntKind.i64 ((↑x : Int) + (1 : Int)) ∧
 ∃ (x' : Nat),
 x' ≤ cs.length ∧
 cs.length - x' < cs.length - x ∧
 (True ∧
 ansTo n m cs x ++
 [frDn
 (markS n m.toNat
 (cs.getD (↑x : Int).toNat ((0 : Int), (0 : Int)))
 (linesTo n m cs (↑x : Int).toNat))
 m.toNat x_2] =
 ansTo n m cs x' ∧
 True) ∧
 (↑x : Int) + (1 : Int) = (↑x' : Int) ∧
 linesTo n m cs x ++
 [((cs.getD (↑x : Int).toNat ((0 : Int), (0 : Int))).fst,
 (cs.getD (↑x : Int).toNat ((0 : Int), (0 : Int))).snd,
 frDn
 (markS n m.toNat
 (cs.getD (↑x : Int).toNat ((0 : Int), (0 : Int)))
 (linesTo n m cs (↑x : Int).toNat))
 m.toNat x_2)] =
 linesTo n m cs x' ∧
 True ∧ n = n ∧ m = m ∧ cs = cs ∧ True) ∧
 ((Small ((0 : Nat) + (linesTo n m cs x).length) ∧
 Small ((linesTo n m cs x).length + ((0 : Nat) + (1 : Nat))) ∧
 Fits IntKind.i64 ((↑x : Int) + (1 : Int)) ∧
 ∃ (x' : Nat),
 x' ≤ cs.length ∧
 cs.length - x' < cs.length - x ∧
 (True ∧
 ansTo n m cs x ++
 [frDn
 (markS n m.toNat
 (cs.getD (↑x : Int).toNat ((0 : Int), (0 : Int)))
 (linesTo n m cs (↑x : Int).toNat))
 m.toNat x_2] =
 ansTo n m cs x' ∧
 True) ∧
 (↑x : Int) + (1 : Int) = (↑x' : Int) ∧
 linesTo n m cs x ++
 [((cs.getD (↑x : Int).toNat ((0 : Int), (0 : Int))).fst,
 (cs.getD (↑x : Int).toNat ((0 : Int), (0 : Int))).snd,
 frDn
 (markS n m.toNat
 (cs.getD (↑x : Int).toNat ((0 : Int), (0 : Int)))
 (linesTo n m cs (↑x : Int).toNat))
 m.toNat x_2)] =
 linesTo n m cs x' ∧
 True ∧ n = n ∧ m = m ∧ cs = cs ∧ True) ∧
 Small ((0 : Nat) + (linesTo n m cs x).length) ∧
 Small ((linesTo n m cs x).length + ((0 : Nat) + (1 : Nat))) ∧
 Fits IntKind.i64 ((↑x : Int) + (1 : Int)) ∧
 ∃ (x' : Nat),
 x' ≤ cs.length ∧
 cs.length - x' < cs.length - x ∧
 (True ∧
 ansTo n m cs x ++
 [frDn
 (markS n m.toNat
 (cs.getD (↑x : Int).toNat ((0 : Int), (0 : Int)))
 (linesTo n m cs (↑x : Int).toNat))
 m.toNat x_2] =
 ansTo n m cs x' ∧
 True) ∧
 (↑x : Int) + (1 : Int) = (↑x' : Int) ∧
 linesTo n m cs x ++
 [((cs.getD (↑x : Int).toNat ((0 : Int), (0 : Int))).fst,
 (cs.getD (↑x : Int).toNat ((0 : Int), (0 : Int))).snd,
 frDn
 (markS n m.toNat
 (cs.getD (↑x : Int).toNat ((0 : Int), (0 : Int)))
 (linesTo n m cs (↑x : Int).toNat))
 m.toNat x_2)] =
 linesTo n m cs x' ∧
 True ∧ n = n ∧ m = m ∧ cs = cs ∧ True) ∧
 Small ((0 : Nat) + (linesTo n m cs x).length) ∧
 Small ((linesTo n m cs x).length + ((0 : Nat) + (1 : Nat))) ∧
 Fits IntKind.i64 ((↑x : Int) + (1 : Int)) ∧
 ∃ (x' : Nat),
 x' ≤ cs.length ∧
 cs.length - x' < cs.length - x ∧
 (True ∧
 ansTo n m cs x ++
 [frDn
 (markS n m.toNat
 (cs.getD (↑x : Int).toNat ((0 : Int), (0 : Int)))
 (linesTo n m cs (↑x : Int).toNat))
 m.toNat x_2] =
 ansTo n m cs x' ∧
 True) ∧
 (↑x : Int) + (1 : Int) = (↑x' : Int) ∧
 linesTo n m cs x ++
 [((cs.getD (↑x : Int).toNat ((0 : Int), (0 : Int))).fst,
 (cs.getD (↑x : Int).toNat ((0 : Int), (0 : Int))).snd,
 frDn
 (markS n m.toNat
 (cs.getD (↑x : Int).toNat ((0 : Int), (0 : Int)))
 (linesTo n m cs (↑x : Int).toNat))
 m.toNat x_2)] =
 linesTo n m cs x' ∧
 True ∧ n = n ∧ m = m ∧ cs = cs ∧ True) ∧
 ((Small ((0 : Nat) + (linesTo n m cs x).length) ∧
 Small ((linesTo n m cs x).length + ((0 : Nat) + (1 : Nat))) ∧
 Fits IntKind.i64 ((↑x : Int) + (1 : Int)) ∧
 ∃ (x' : Nat),
 x' ≤ cs.length ∧
 cs.length - x' < cs.length - x ∧
 (True ∧
 ansTo n m cs x ++
 [frDn
 (markS n m.toNat
 (cs.getD (↑x : Int).toNat ((0 : Int), (0 : Int)))
 (linesTo n m cs (↑x : Int).toNat))
 m.toNat x_2] =
 ansTo n m cs x' ∧
 True) ∧
 (↑x : Int) + (1 : Int) = (↑x' : Int) ∧
 linesTo n m cs x ++
 [((cs.getD (↑x : Int).toNat ((0 : Int), (0 : Int))).fst,
 (cs.getD (↑x : Int).toNat ((0 : Int), (0 : Int))).snd,
 frDn
 (markS n m.toNat
 (cs.getD (↑x : Int).toNat ((0 : Int), (0 : Int)))
 (linesTo n m cs (↑x : Int).toNat))
 m.toNat x_2)] =
 linesTo n m cs x' ∧
 True ∧ n = n ∧ m = m ∧ cs = cs ∧ True) ∧
 (Small ((0 : Nat) + (linesTo n m cs x).length) ∧
 Small ((linesTo n m cs x).length + ((0 : Nat) + (1 : Nat))) ∧
 Fits IntKind.i64 ((↑x : Int) + (1 : Int)) ∧
 ∃ (x' : Nat),
 x' ≤ cs.length ∧
 cs.length - x' < cs.length - x ∧
 (True ∧
 ansTo n m cs x ++
 [frDn
 (markS n m.toNat
 (cs.getD (↑x : Int).toNat ((0 : Int), (0 : Int)))
 (linesTo n m cs (↑x : Int).toNat))
 m.toNat x_2] =
 ansTo n m cs x' ∧
 True) ∧
 (↑x : Int) + (1 : Int) = (↑x' : Int) ∧
 linesTo n m cs x ++
 [((cs.getD (↑x : Int).toNat ((0 : Int), (0 : Int))).fst,
 (cs.getD (↑x : Int).toNat ((0 : Int), (0 : Int))).snd,
 frDn
 (markS n m.toNat
 (cs.getD (↑x : Int).toNat ((0 : Int), (0 : Int)))
 (linesTo n m cs (↑x : Int).toNat))
 m.toNat x_2)] =
 linesTo n m cs x' ∧
 True ∧ n = n ∧ m = m ∧ cs = cs ∧ True) ∧
 Small ((0 : Nat) + (linesTo n m cs x).length) ∧
 Small ((linesTo n m cs x).length + ((0 : Nat) + (1 : Nat))) ∧
 Fits IntKind.i64 ((↑x : Int) + (1 : Int)) ∧
 ∃ (x' : Nat),
 x' ≤ cs.length ∧
 cs.length - x' < cs.length - x ∧
 (True ∧
 ansTo n m cs x ++
 [frDn
 (markS n m.toNat
 (cs.getD (↑x : Int).toNat ((0 : Int), (0 : Int)))
 (linesTo n m cs (↑x : Int).toNat))
 m.toNat x_2] =
 ansTo n m cs x' ∧
 True) ∧
 (↑x : Int) + (1 : Int) = (↑x' : Int) ∧
 linesTo n m cs x ++
 [((cs.getD (↑x : Int).toNat ((0 : Int), (0 : Int))).fst,
 (cs.getD (↑x : Int).toNat ((0 : Int), (0 : Int))).snd,
 frDn
 (markS n m.toNat
 (cs.getD (↑x : Int).toNat ((0 : Int), (0 : Int)))
 (linesTo n m cs (↑x : Int).toNat))
 m.toNat x_2)] =
 linesTo n m cs x' ∧
 True ∧ n = n ∧ m = m ∧ cs = cs ∧ True) ∧
 ((Small ((0 : Nat) + (linesTo n m cs x).length) ∧
 Small ((linesTo n m cs x).length + ((0 : Nat) + (1 : Nat))) ∧
 Fits IntKind.i64 ((↑x : Int) + (1 : Int)) ∧
 ∃ (x' : Nat),
 x' ≤ cs.length ∧
 cs.length - x' < cs.length - x ∧
 (True ∧
 ansTo n m cs x ++
 [frDn
 (markS n m.toNat
 (cs.getD (↑x : Int).toNat ((0 : Int), (0 : Int)))
 (linesTo n m cs (↑x : Int).toNat))
 m.toNat x_2] =
 ansTo n m cs x' ∧
 True) ∧
 (↑x : Int) + (1 : Int) = (↑x' : Int) ∧
 linesTo n m cs x ++
 [((cs.getD (↑x : Int).toNat ((0 : Int), (0 : Int))).fst,
 (cs.getD (↑x : Int).toNat ((0 : Int), (0 : Int))).snd,
 frDn
 (markS n m.toNat
 (cs.getD (↑x : Int).toNat ((0 : Int), (0 : Int)))
 (linesTo n m cs (↑x : Int).toNat))
 m.toNat x_2)] =
 linesTo n m cs x' ∧
 True ∧ n = n ∧ m = m ∧ cs = cs ∧ True) ∧
 Small ((0 : Nat) + (linesTo n m cs x).length) ∧
 Small ((linesTo n m cs x).length + ((0 : Nat) + (1 : Nat))) ∧
 Fits IntKind.i64 ((↑x : Int) + (1 : Int)) ∧
 ∃ (x' : Nat),
 x' ≤ cs.length ∧
 cs.length - x' < cs.length - x ∧
 (True ∧
 ansTo n m cs x ++
 [frDn
 (markS n m.toNat
 (cs.getD (↑x : Int).toNat ((0 : Int), (0 : Int)))
 (linesTo n m cs (↑x : Int).toNat))
 m.toNat x_2] =
 ansTo n m cs x' ∧
 True) ∧
 (↑x : Int) + (1 : Int) = (↑x' : Int) ∧
 linesTo n m cs x ++
 [((cs.getD (↑x : Int).toNat ((0 : Int), (0 : Int))).fst,
 (cs.getD (↑x : Int).toNat ((0 : Int), (0 : Int))).snd,
 frDn
 (markS n m.toNat
 (cs.getD (↑x : Int).toNat ((0 : Int), (0 : Int)))
 (linesTo n m cs (↑x : Int).toNat))
 m.toNat x_2)] =
 linesTo n m cs x' ∧
 True ∧ n = n ∧ m = m ∧ cs = cs ∧ True) ∧
 Small ((0 : Nat) + (linesTo n m cs x).length) ∧
 Small ((linesTo n m cs x).length + ((0 : Nat) + (1 : Nat))) ∧
 Fits IntKind.i64 ((↑x : Int) + (1 : Int)) ∧
 ∃ (x' : Nat),
 x' ≤ cs.length ∧
 cs.length - x' < cs.length - x ∧
 (True ∧
 ansTo n m cs x ++
 [frDn
 (markS n m.toNat
 (cs.getD (↑x : Int).toNat ((0 : Int), (0 : Int)))
 (linesTo n m cs (↑x : Int).toNat))
 m.toNat x_2] =
 ansTo n m cs x' ∧
 True) ∧
 (↑x : Int) + (1 : Int) = (↑x' : Int) ∧
 linesTo n m cs x ++
 [((cs.getD (↑x : Int).toNat ((0 : Int), (0 : Int))).fst,
 (cs.getD (↑x : Int).toNat ((0 : Int), (0 : Int))).snd,
 frDn
 (markS n m.toNat
 (cs.getD (↑x : Int).toNat ((0 : Int), (0 : Int)))
 (linesTo n m cs (↑x : Int).toNat))
 m.toNat x_2)] =
 linesTo n m cs x' ∧
 True ∧ n = n ∧ m = m ∧ cs = cs ∧ True) ∧
 (¬(0 : Int) ≤
 frDn
 (markS n m.toNat (cs.getD (↑x : Int).toNat ((0 : Int), (0 : Int)))
 (linesTo n m cs (↑x : Int).toNat))
 m.toNat x_2 →
 ¬(0 : Int) ≤
 frDn
 (markS n m.toNat (cs.getD (↑x : Int).toNat ((0 : Int), (0 : Int)))
 (linesTo n m cs (↑x : Int).toNat))
 m.toNat x_2 ∧
 Fits IntKind.i64 ((↑x : Int) + (1 : Int)) ∧
 ∃ (x' : Nat),
 x' ≤ cs.length ∧
 cs.length - x' < cs.length - x ∧
 (True ∧
 ansTo n m cs x ++
 [frDn
 (markS n m.toNat (cs.getD (↑x : Int).toNat ((0 : Int), (0 : Int)))
 (linesTo n m cs (↑x : Int).toNat))
 m.toNat x_2] =
 ansTo n m cs x' ∧
 True) ∧
 (↑x : Int) + (1 : Int) = (↑x' : Int) ∧
 linesTo n m cs x = linesTo n m cs x' ∧
 True ∧ n = n ∧ m = m ∧ cs = cs ∧ True))))) ∧
 (¬(0 : Int) ≤ (cs.getD (↑x : Int).toNat ((0 : Int), (0 : Int))).snd →
 ¬(0 : Int) ≤ (cs.getD (↑x : Int).toNat ((0 : Int), (0 : Int))).snd ∧
 ¬(0 : Int) ≤ (cs.getD (↑x : Int).toNat ((0 : Int), (0 : Int))).snd ∧
 ((cs.getD (↑x : Int).toNat ((0 : Int), (0 : Int))).snd < (0 : Int) →
 (cs.getD (↑x : Int).toNat ((0 : Int), (0 : Int))).snd < (0 : Int) ∧
 (cs.getD (↑x : Int).toNat ((0 : Int), (0 : Int))).snd < (0 : Int) ∧
 ((0 : Int) ≤ atTo (linesTo n m cs (↑x : Int).toNat) (cs.getD (↑x : Int).toNat ((0 : Int), (0 : Int))).fst x_1 ∧
 atTo (linesTo n m cs (↑x : Int).toNat) (cs.getD (↑x : Int).toNat ((0 : Int), (0 : Int))).fst x_1 <
 (↑(linesTo n m cs x).length : Int)) ∧
 Small ((ansTo n m cs x).length + ((0 : Nat) + (1 : Nat))) ∧
 ((0 : Int) ≤ (↑(0 : Nat) : Int) ∧
 (↑(0 : Nat) : Int) ≤ atTo (linesTo n m cs (↑x : Int).toNat) (cs.getD (↑x : Int).toNat ((0 : Int), (0 : Int))).fst x_1 ∧
 atTo (linesTo n m cs (↑x : Int).toNat) (cs.getD (↑x : Int).toNat ((0 : Int), (0 : Int))).fst x_1 ≤
 (↑(linesTo n m cs x).length : Int)) ∧
 True ∧
 Fits IntKind.i64
 (atTo (linesTo n m cs (↑x : Int).toNat) (cs.getD (↑x : Int).toNat ((0 : Int), (0 : Int))).fst x_1 + (1 : Int)) ∧
 ((0 : Int) ≤
 atTo (linesTo n m cs (↑x : Int).toNat) (cs.getD (↑x : Int).toNat ((0 : Int), (0 : Int))).fst x_1 + (1 : Int) ∧
 atTo (linesTo n m cs (↑x : Int).toNat) (cs.getD (↑x : Int).toNat ((0 : Int), (0 : Int))).fst x_1 + (1 : Int) ≤
 (↑(linesTo n m cs x).length : Int) ∧
 (↑(linesTo n m cs x).length : Int) ≤ (↑(linesTo n m cs x).length : Int)) ∧
 True ∧
 Small
 ((0 : Nat) +
 (List.drop (↑(0 : Nat) : Int).toNat
 (List.take
 (atTo (linesTo n m cs (↑x : Int).toNat) (cs.getD (↑x : Int).toNat ((0 : Int), (0 : Int))).fst
 x_1).toNat
 (linesTo n m cs x))).length) ∧
 Small
 ((List.drop (↑(0 : Nat) : Int).toNat
 (List.take
 (atTo (linesTo n m cs (↑x : Int).toNat) (cs.getD (↑x : Int).toNat ((0 : Int), (0 : Int))).fst
 x_1).toNat
 (linesTo n m cs x))).length +
 (List.drop
 (atTo (linesTo n m cs (↑x : Int).toNat) (cs.getD (↑x : Int).toNat ((0 : Int), (0 : Int))).fst x_1 +
 (1 : Int)).toNat
 (List.take (↑(linesTo n m cs x).length : Int).toNat (linesTo n m cs x))).length) ∧
 Fits IntKind.i64 ((↑x : Int) + (1 : Int)) ∧
 ∃ (x' : Nat),
 x' ≤ cs.length ∧
 cs.length - x' < cs.length - x ∧
 (True ∧
 ansTo n m cs x ++
 [((linesTo n m cs x).getD
 (atTo (linesTo n m cs (↑x : Int).toNat)
 (cs.getD (↑x : Int).toNat ((0 : Int), (0 : Int))).fst x_1).toNat
 ((0 : Int), (0 : Int), (0 : Int))).snd.snd] =
 ansTo n m cs x' ∧
 True) ∧
 (↑x : Int) + (1 : Int) = (↑x' : Int) ∧
 List.drop (↑(0 : Nat) : Int).toNat
 (List.take
 (atTo (linesTo n m cs (↑x : Int).toNat)
 (cs.getD (↑x : Int).toNat ((0 : Int), (0 : Int))).fst x_1).toNat
 (linesTo n m cs x)) ++
 List.drop
 (atTo (linesTo n m cs (↑x : Int).toNat)
 (cs.getD (↑x : Int).toNat ((0 : Int), (0 : Int))).fst x_1 +
 (1 : Int)).toNat
 (List.take (↑(linesTo n m cs x).length : Int).toNat (linesTo n m cs x)) =
 linesTo n m cs x' ∧
 True ∧ n = n ∧ m = m ∧ cs = cs ∧ True) ∧
 (¬(cs.getD (↑x : Int).toNat ((0 : Int), (0 : Int))).snd < (0 : Int) →
 ¬(cs.getD (↑x : Int).toNat ((0 : Int), (0 : Int))).snd < (0 : Int) ∧
 ¬(cs.getD (↑x : Int).toNat ((0 : Int), (0 : Int))).snd < (0 : Int) ∧
 Fits IntKind.i64 (m - (1 : Int)) ∧
 (∃ (x0 : Nat),
 x0 ≤ m.toNat ∧
 (True ∧
 ansTo n m cs x = ansTo n m cs x ∧
 ((cs.getD (↑x : Int).toNat ((0 : Int), (0 : Int))).fst = (cs.getD (↑x : Int).toNat ((0 : Int), (0 : Int))).fst ∧
 (cs.getD (↑x : Int).toNat ((0 : Int), (0 : Int))).snd =
 (cs.getD (↑x : Int).toNat ((0 : Int), (0 : Int))).snd ∧
 True) ∧
 markS n m.toNat (cs.getD (↑x : Int).toNat ((0 : Int), (0 : Int)))
 (List.take x_1 (linesTo n m cs (↑x : Int).toNat)) =
 markS n m.toNat (cs.getD (↑x : Int).toNat ((0 : Int), (0 : Int)))
 (List.take x_1 (linesTo n m cs (↑x : Int).toNat)) ∧
 True) ∧
 m - (1 : Int) = m - (1 : Int) - (↑x0 : Int) ∧
 (-1 : Int) =
 frDn (markS n m.toNat (cs.getD (↑x : Int).toNat ((0 : Int), (0 : Int))) (linesTo n m cs (↑x : Int).toNat))
 m.toNat x0 ∧
 True ∧
 True ∧ (↑x : Int) = (↑x : Int) ∧ linesTo n m cs x = linesTo n m cs x ∧ True ∧ n = n ∧ m = m ∧ cs = cs ∧ True) ∧
 ∀ (x_2 : Nat),
 x_2 ≤ m.toNat →
 ((0 : Int) ≤ m - (1 : Int) - (↑x_2 : Int) →
 (0 : Int) ≤ m - (1 : Int) - (↑x_2 : Int) ∧
 ((0 : Int) ≤ m - (1 : Int) - (↑x_2 : Int) ∧
 m - (1 : Int) - (↑x_2 : Int) <
 (↑(markS n m.toNat (cs.getD (↑x : Int).toNat ((0 : Int), (0 : Int)))
 (List.take x_1 (linesTo n m cs (↑x : Int).toNat))).length :
 Int)) ∧
 ((!(markS n m.toNat (cs.getD (↑x : Int).toNat ((0 : Int), (0 : Int)))
 (List.take x_1 (linesTo n m cs (↑x : Int).toNat))).getD
 (m - (1 : Int) - (↑x_2 : Int)).toNat false) =
 true →
 (!(markS n m.toNat (cs.getD (↑x : Int).toNat ((0 : Int), (0 : Int)))
 (List.take x_1 (linesTo n m cs (↑x : Int).toNat))).getD
 (m - (1 : Int) - (↑x_2 : Int)).toNat false) =
 true ∧
 Fits IntKind.i64 (m - (1 : Int) - (↑x_2 : Int) - (1 : Int)) ∧
 ∃ (x' : Nat),
 x' ≤ m.toNat ∧
 m.toNat - x' < m.toNat - x_2 ∧
 (True ∧
 ansTo n m cs x = ansTo n m cs x ∧
 ((cs.getD (↑x : Int).toNat ((0 : Int), (0 : Int))).fst =
 (cs.getD (↑x : Int).toNat ((0 : Int), (0 : Int))).fst ∧
 (cs.getD (↑x : Int).toNat ((0 : Int), (0 : Int))).snd =
 (cs.getD (↑x : Int).toNat ((0 : Int), (0 : Int))).snd ∧
 True) ∧
 markS n m.toNat (cs.getD (↑x : Int).toNat ((0 : Int), (0 : Int)))
 (List.take x_1 (linesTo n m cs (↑x : Int).toNat)) =
 markS n m.toNat (cs.getD (↑x : Int).toNat ((0 : Int), (0 : Int)))
 (List.take x_1 (linesTo n m cs (↑x : Int).toNat)) ∧
 True) ∧
 m - (1 : Int) - (↑x_2 : Int) - (1 : Int) = m - (1 : Int) - (↑x' : Int) ∧
 m - (1 : Int) - (↑x_2 : Int) =
 frDn
 (markS n m.toNat (cs.getD (↑x : Int).toNat ((0 : Int), (0 : Int)))
 (linesTo n m cs (↑x : Int).toNat))
 m.toNat x' ∧
 True ∧
 True ∧
 (↑x : Int) = (↑x : Int) ∧
 linesTo n m cs x = linesTo n m cs x ∧ True ∧ n = n ∧ m = m ∧ cs = cs ∧ True) ∧
 ((!(markS n m.toNat (cs.getD (↑x : Int).toNat ((0 : Int), (0 : Int)))
 (List.take x_1 (linesTo n m cs (↑x : Int).toNat))).getD
 (m - (1 : Int) - (↑x_2 : Int)).toNat false) =
 false →
 (!(markS n m.toNat (cs.getD (↑x : Int).toNat ((0 : Int), (0 : Int)))
 (List.take x_1 (linesTo n m cs (↑x : Int).toNat))).getD
 (m - (1 : Int) - (↑x_2 : Int)).toNat false) =
 false ∧
 Fits IntKind.i64 (m - (1 : Int) - (↑x_2 : Int) - (1 : Int)) ∧
 ∃ (x' : Nat),
 x' ≤ m.toNat ∧
 m.toNat - x' < m.toNat - x_2 ∧
 (True ∧
 ansTo n m cs x = ansTo n m cs x ∧
 ((cs.getD (↑x : Int).toNat ((0 : Int), (0 : Int))).fst =
 (cs.getD (↑x : Int).toNat ((0 : Int), (0 : Int))).fst ∧
 (cs.getD (↑x : Int).toNat ((0 : Int), (0 : Int))).snd =
 (cs.getD (↑x : Int).toNat ((0 : Int), (0 : Int))).snd ∧
 True) ∧
 markS n m.toNat (cs.getD (↑x : Int).toNat ((0 : Int), (0 : Int)))
 (List.take x_1 (linesTo n m cs (↑x : Int).toNat)) =
 markS n m.toNat (cs.getD (↑x : Int).toNat ((0 : Int), (0 : Int)))
 (List.take x_1 (linesTo n m cs (↑x : Int).toNat)) ∧
 True) ∧
 m - (1 : Int) - (↑x_2 : Int) - (1 : Int) = m - (1 : Int) - (↑x' : Int) ∧
 frDn
 (markS n m.toNat (cs.getD (↑x : Int).toNat ((0 : Int), (0 : Int)))
 (linesTo n m cs (↑x : Int).toNat))
 m.toNat x_2 =
 frDn
 (markS n m.toNat (cs.getD (↑x : Int).toNat ((0 : Int), (0 : Int)))
 (linesTo n m cs (↑x : Int).toNat))
 m.toNat x' ∧
 True ∧
 True ∧
 (↑x : Int) = (↑x : Int) ∧
 linesTo n m cs x = linesTo n m cs x ∧ True ∧ n = n ∧ m = m ∧ cs = cs ∧ True)) ∧
 (¬(0 : Int) ≤ m - (1 : Int) - (↑x_2 : Int) →
 ¬(0 : Int) ≤ m - (1 : Int) - (↑x_2 : Int) ∧
 Small ((ansTo n m cs x).length + ((0 : Nat) + (1 : Nat))) ∧
 ((0 : Int) ≤
 frDn (markS n m.toNat (cs.getD (↑x : Int).toNat ((0 : Int), (0 : Int))) (linesTo n m cs (↑x : Int).toNat))
 m.toNat x_2 →
 (0 : Int) ≤
 frDn
 (markS n m.toNat (cs.getD (↑x : Int).toNat ((0 : Int), (0 : Int))) (linesTo n m cs (↑x : Int).toNat))
 m.toNat x_2 ∧
 ((Small ((0 : Nat) + (linesTo n m cs x).length) ∧
 Small ((linesTo n m cs x).length + ((0 : Nat) + (1 : Nat))) ∧
 Fits IntKind.i64 ((↑x : Int) + (1 : Int)) ∧
 ∃ (x' : Nat),
 x' ≤ cs.length ∧
 cs.length - x' < cs.length - x ∧
 (True ∧
 ansTo n m cs x ++
 [frDn
 (markS n m.toNat (cs.getD (↑x : Int).toNat ((0 : Int), (0 : Int)))
 (linesTo n m cs (↑x : Int).toNat))
 m.toNat x_2] =
 ansTo n m cs x' ∧
 True) ∧
 (↑x : Int) + (1 : Int) = (↑x' : Int) ∧
 linesTo n m cs x ++
 [((cs.getD (↑x : Int).toNat ((0 : Int), (0 : Int))).fst,
 (cs.getD (↑x : Int).toNat ((0 : Int), (0 : Int))).snd,
 frDn
 (markS n m.toNat (cs.getD (↑x : Int).toNat ((0 : Int), (0 : Int)))
 (linesTo n m cs (↑x : Int).toNat))
 m.toNat x_2)] =
 linesTo n m cs x' ∧
 True ∧ n = n ∧ m = m ∧ cs = cs ∧ True) ∧
 ((Small ((0 : Nat) + (linesTo n m cs x).length) ∧
 Small ((linesTo n m cs x).length + ((0 : Nat) + (1 : Nat))) ∧
 Fits IntKind.i64 ((↑x : Int) + (1 : Int)) ∧
 ∃ (x' : Nat),
 x' ≤ cs.length ∧
 cs.length - x' < cs.length - x ∧
 (True ∧
 ansTo n m cs x ++
 [frDn
 (markS n m.toNat (cs.getD (↑x : Int).toNat ((0 : Int), (0 : Int)))
 (linesTo n m cs (↑x : Int).toNat))
 m.toNat x_2] =
 ansTo n m cs x' ∧
 True) ∧
 (↑x : Int) + (1 : Int) = (↑x' : Int) ∧
 linesTo n m cs x ++
 [((cs.getD (↑x : Int).toNat ((0 : Int), (0 : Int))).fst,
 (cs.getD (↑x : Int).toNat ((0 : Int), (0 : Int))).snd,
 frDn
 (markS n m.toNat (cs.getD (↑x : Int).toNat ((0 : Int), (0 : Int)))
 (linesTo n m cs (↑x : Int).toNat))
 m.toNat x_2)] =
 linesTo n m cs x' ∧
 True ∧ n = n ∧ m = m ∧ cs = cs ∧ True) ∧
 (Small ((0 : Nat) + (linesTo n m cs x).length) ∧
 Small ((linesTo n m cs x).length + ((0 : Nat) + (1 : Nat))) ∧
 Fits IntKind.i64 ((↑x : Int) + (1 : Int)) ∧
 ∃ (x' : Nat),
 x' ≤ cs.length ∧
 cs.length - x' < cs.length - x ∧
 (True ∧
 ansTo n m cs x ++
 [frDn
 (markS n m.toNat (cs.getD (↑x : Int).toNat ((0 : Int), (0 : Int)))
 (linesTo n m cs (↑x : Int).toNat))
 m.toNat x_2] =
 ansTo n m cs x' ∧
 True) ∧
 (↑x : Int) + (1 : Int) = (↑x' : Int) ∧
 linesTo n m cs x ++
 [((cs.getD (↑x : Int).toNat ((0 : Int), (0 : Int))).fst,
 (cs.getD (↑x : Int).toNat ((0 : Int), (0 : Int))).snd,
 frDn
 (markS n m.toNat (cs.getD (↑x : Int).toNat ((0 : Int), (0 : Int)))
 (linesTo n m cs (↑x : Int).toNat))
 m.toNat x_2)] =
 linesTo n m cs x' ∧
 True ∧ n = n ∧ m = m ∧ cs = cs ∧ True) ∧
 Small ((0 : Nat) + (linesTo n m cs x).length) ∧
 Small ((linesTo n m cs x).length + ((0 : Nat) + (1 : Nat))) ∧
 Fits IntKind.i64 ((↑x : Int) + (1 : Int)) ∧
 ∃ (x' : Nat),
 x' ≤ cs.length ∧
 cs.length - x' < cs.length - x ∧
 (True ∧
 ansTo n m cs x ++
 [frDn
 (markS n m.toNat (cs.getD (↑x : Int).toNat ((0 : Int), (0 : Int)))
 (linesTo n m cs (↑x : Int).toNat))
 m.toNat x_2] =
 ansTo n m cs x' ∧
 True) ∧
 (↑x : Int) + (1 : Int) = (↑x' : Int) ∧
 linesTo n m cs x ++
 [((cs.getD (↑x : Int).toNat ((0 : Int), (0 : Int))).fst,
 (cs.getD (↑x : Int).toNat ((0 : Int), (0 : Int))).snd,
 frDn
 (markS n m.toNat (cs.getD (↑x : Int).toNat ((0 : Int), (0 : Int)))
 (linesTo n m cs (↑x : Int).toNat))
 m.toNat x_2)] =
 linesTo n m cs x' ∧
 True ∧ n = n ∧ m = m ∧ cs = cs ∧ True) ∧
 (Small ((0 : Nat) + (linesTo n m cs x).length) ∧
 Small ((linesTo n m cs x).length + ((0 : Nat) + (1 : Nat))) ∧
 Fits IntKind.i64 ((↑x : Int) + (1 : Int)) ∧
 ∃ (x' : Nat),
 x' ≤ cs.length ∧
 cs.length - x' < cs.length - x ∧
 (True ∧
 ansTo n m cs x ++
 [frDn
 (markS n m.toNat (cs.getD (↑x : Int).toNat ((0 : Int), (0 : Int)))
 (linesTo n m cs (↑x : Int).toNat))
 m.toNat x_2] =
 ansTo n m cs x' ∧
 True) ∧
 (↑x : Int) + (1 : Int) = (↑x' : Int) ∧
 linesTo n m cs x ++
 [((cs.getD (↑x : Int).toNat ((0 : Int), (0 : Int))).fst,
 (cs.getD (↑x : Int).toNat ((0 : Int), (0 : Int))).snd,
 frDn
 (markS n m.toNat (cs.getD (↑x : Int).toNat ((0 : Int), (0 : Int)))
 (linesTo n m cs (↑x : Int).toNat))
 m.toNat x_2)] =
 linesTo n m cs x' ∧
 True ∧ n = n ∧ m = m ∧ cs = cs ∧ True) ∧
 (Small ((0 : Nat) + (linesTo n m cs x).length) ∧
 Small ((linesTo n m cs x).length + ((0 : Nat) + (1 : Nat))) ∧
 Fits IntKind.i64 ((↑x : Int) + (1 : Int)) ∧
 ∃ (x' : Nat),
 x' ≤ cs.length ∧
 cs.length - x' < cs.length - x ∧
 (True ∧
 ansTo n m cs x ++
 [frDn
 (markS n m.toNat (cs.getD (↑x : Int).toNat ((0 : Int), (0 : Int)))
 (linesTo n m cs (↑x : Int).toNat))
 m.toNat x_2] =
 ansTo n m cs x' ∧
 True) ∧
 (↑x : Int) + (1 : Int) = (↑x' : Int) ∧
 linesTo n m cs x ++
 [((cs.getD (↑x : Int).toNat ((0 : Int), (0 : Int))).fst,
 (cs.getD (↑x : Int).toNat ((0 : Int), (0 : Int))).snd,
 frDn
 (markS n m.toNat (cs.getD (↑x : Int).toNat ((0 : Int), (0 : Int)))
 (linesTo n m cs (↑x : Int).toNat))
 m.toNat x_2)] =
 linesTo n m cs x' ∧
 True ∧ n = n ∧ m = m ∧ cs = cs ∧ True) ∧
 Small ((0 : Nat) + (linesTo n m cs x).length) ∧
 Small ((linesTo n m cs x).length + ((0 : Nat) + (1 : Nat))) ∧
 Fits IntKind.i64 ((↑x : Int) + (1 : Int)) ∧
 ∃ (x' : Nat),
 x' ≤ cs.length ∧
 cs.length - x' < cs.length - x ∧
 (True ∧
 ansTo n m cs x ++
 [frDn
 (markS n m.toNat (cs.getD (↑x : Int).toNat ((0 : Int), (0 : Int)))
 (linesTo n m cs (↑x : Int).toNat))
 m.toNat x_2] =
 ansTo n m cs x' ∧
 True) ∧
 (↑x : Int) + (1 : Int) = (↑x' : Int) ∧
 linesTo n m cs x ++
 [((cs.getD (↑x : Int).toNat ((0 : Int), (0 : Int))).fst,
 (cs.getD (↑x : Int).toNat ((0 : Int), (0 : Int))).snd,
 frDn
 (markS n m.toNat (cs.getD (↑x : Int).toNat ((0 : Int), (0 : Int)))
 (linesTo n m cs (↑x : Int).toNat))
 m.toNat x_2)] =
 linesTo n m cs x' ∧
 True ∧ n = n ∧ m = m ∧ cs = cs ∧ True) ∧
 (((Small ((0 : Nat) + (linesTo n m cs x).length) ∧
 Small ((linesTo n m cs x).length + ((0 : Nat) + (1 : Nat))) ∧
 Fits IntKind.i64 ((↑x : Int) + (1 : Int)) ∧
 ∃ (x' : Nat),
 x' ≤ cs.length ∧
 cs.length - x' < cs.length - x ∧
 (True ∧
 ansTo n m cs x ++
 [frDn
 (markS n m.toNat (cs.getD (↑x : Int).toNat ((0 : Int), (0 : Int)))
 (linesTo n m cs (↑x : Int).toNat))
 m.toNat x_2] =
 ansTo n m cs x' ∧
 True) ∧
 (↑x : Int) + (1 : Int) = (↑x' : Int) ∧
 linesTo n m cs x ++
 [((cs.getD (↑x : Int).toNat ((0 : Int), (0 : Int))).fst,
 (cs.getD (↑x : Int).toNat ((0 : Int), (0 : Int))).snd,
 frDn
 (markS n m.toNat (cs.getD (↑x : Int).toNat ((0 : Int), (0 : Int)))
 (linesTo n m cs (↑x : Int).toNat))
 m.toNat x_2)] =
 linesTo n m cs x' ∧
 True ∧ n = n ∧ m = m ∧ cs = cs ∧ True) ∧
 (Small ((0 : Nat) + (linesTo n m cs x).length) ∧
 Small ((linesTo n m cs x).length + ((0 : Nat) + (1 : Nat))) ∧
 Fits IntKind.i64 ((↑x : Int) + (1 : Int)) ∧
 ∃ (x' : Nat),
 x' ≤ cs.length ∧
 cs.length - x' < cs.length - x ∧
 (True ∧
 ansTo n m cs x ++
 [frDn
 (markS n m.toNat (cs.getD (↑x : Int).toNat ((0 : Int), (0 : Int)))
 (linesTo n m cs (↑x : Int).toNat))
 m.toNat x_2] =
 ansTo n m cs x' ∧
 True) ∧
 (↑x : Int) + (1 : Int) = (↑x' : Int) ∧
 linesTo n m cs x ++
 [((cs.getD (↑x : Int).toNat ((0 : Int), (0 : Int))).fst,
 (cs.getD (↑x : Int).toNat ((0 : Int), (0 : Int))).snd,
 frDn
 (markS n m.toNat (cs.getD (↑x : Int).toNat ((0 : Int), (0 : Int)))
 (linesTo n m cs (↑x : Int).toNat))
 m.toNat x_2)] =
 linesTo n m cs x' ∧
 True ∧ n = n ∧ m = m ∧ cs = cs ∧ True) ∧
 Small ((0 : Nat) + (linesTo n m cs x).length) ∧
 Small ((linesTo n m cs x).length + ((0 : Nat) + (1 : Nat))) ∧
 Fits IntKind.i64 ((↑x : Int) + (1 : Int)) ∧
 ∃ (x' : Nat),
 x' ≤ cs.length ∧
 cs.length - x' < cs.length - x ∧
 (True ∧
 ansTo n m cs x ++
 [frDn
 (markS n m.toNat (cs.getD (↑x : Int).toNat ((0 : Int), (0 : Int)))
 (linesTo n m cs (↑x : Int).toNat))
 m.toNat x_2] =
 ansTo n m cs x' ∧
 True) ∧
 (↑x : Int) + (1 : Int) = (↑x' : Int) ∧
 linesTo n m cs x ++
 [((cs.getD (↑x : Int).toNat ((0 : Int), (0 : Int))).fst,
 (cs.getD (↑x : Int).toNat ((0 : Int), (0 : Int))).snd,
 frDn
 (markS n m.toNat (cs.getD (↑x : Int).toNat ((0 : Int), (0 : Int)))
 (linesTo n m cs (↑x : Int).toNat))
 m.toNat x_2)] =
 linesTo n m cs x' ∧
 True ∧ n = n ∧ m = m ∧ cs = cs ∧ True) ∧
 ((Small ((0 : Nat) + (linesTo n m cs x).length) ∧
 Small ((linesTo n m cs x).length + ((0 : Nat) + (1 : Nat))) ∧
 Fits IntKind.i64 ((↑x : Int) + (1 : Int)) ∧
 ∃ (x' : Nat),
 x' ≤ cs.length ∧
 cs.length - x' < cs.length - x ∧
 (True ∧
 ansTo n m cs x ++
 [frDn
 (markS n m.toNat (cs.getD (↑x : Int).toNat ((0 : Int), (0 : Int)))
 (linesTo n m cs (↑x : Int).toNat))
 m.toNat x_2] =
 ansTo n m cs x' ∧
 True) ∧
 (↑x : Int) + (1 : Int) = (↑x' : Int) ∧
 linesTo n m cs x ++
 [((cs.getD (↑x : Int).toNat ((0 : Int), (0 : Int))).fst,
 (cs.getD (↑x : Int).toNat ((0 : Int), (0 : Int))).snd,
 frDn
 (markS n m.toNat (cs.getD (↑x : Int).toNat ((0 : Int), (0 : Int)))
 (linesTo n m cs (↑x : Int).toNat))
 m.toNat x_2)] =
 linesTo n m cs x' ∧
 True ∧ n = n ∧ m = m ∧ cs = cs ∧ True) ∧
 Small ((0 : Nat) + (linesTo n m cs x).length) ∧
 Small ((linesTo n m cs x).length + ((0 : Nat) + (1 : Nat))) ∧
 Fits IntKind.i64 ((↑x : Int) + (1 : Int)) ∧
 ∃ (x' : Nat),
 x' ≤ cs.length ∧
 cs.length - x' < cs.length - x ∧
 (True ∧
 ansTo n m cs x ++
 [frDn
 (markS n m.toNat (cs.getD (↑x : Int).toNat ((0 : Int), (0 : Int)))
 (linesTo n m cs (↑x : Int).toNat))
 m.toNat x_2] =
 ansTo n m cs x' ∧
 True) ∧
 (↑x : Int) + (1 : Int) = (↑x' : Int) ∧
 linesTo n m cs x ++
 [((cs.getD (↑x : Int).toNat ((0 : Int), (0 : Int))).fst,
 (cs.getD (↑x : Int).toNat ((0 : Int), (0 : Int))).snd,
 frDn
 (markS n m.toNat (cs.getD (↑x : Int).toNat ((0 : Int), (0 : Int)))
 (linesTo n m cs (↑x : Int).toNat))
 m.toNat x_2)] =
 linesTo n m cs x' ∧
 True ∧ n = n ∧ m = m ∧ cs = cs ∧ True) ∧
 Small ((0 : Nat) + (linesTo n m cs x).length) ∧
 Small ((linesTo n m cs x).length + ((0 : Nat) + (1 : Nat))) ∧
 Fits IntKind.i64 ((↑x : Int) + (1 : Int)) ∧
 ∃ (x' : Nat),
 x' ≤ cs.length ∧
 cs.length - x' < cs.length - x ∧
 (True ∧
 ansTo n m cs x ++
 [frDn
 (markS n m.toNat (cs.getD (↑x : Int).toNat ((0 : Int), (0 : Int)))
 (linesTo n m cs (↑x : Int).toNat))
 m.toNat x_2] =
 ansTo n m cs x' ∧
 True) ∧
 (↑x : Int) + (1 : Int) = (↑x' : Int) ∧
 linesTo n m cs x ++
 [((cs.getD (↑x : Int).toNat ((0 : Int), (0 : Int))).fst,
 (cs.getD (↑x : Int).toNat ((0 : Int), (0 : Int))).snd,
 frDn
 (markS n m.toNat (cs.getD (↑x : Int).toNat ((0 : Int), (0 : Int)))
 (linesTo n m cs (↑x : Int).toNat))
 m.toNat x_2)] =
 linesTo n m cs x' ∧
 True ∧ n = n ∧ m = m ∧ cs = cs ∧ True) ∧
 ((Small ((0 : Nat) + (linesTo n m cs x).length) ∧
 Small ((linesTo n m cs x).length + ((0 : Nat) + (1 : Nat))) ∧
 Fits IntKind.i64 ((↑x : Int) + (1 : Int)) ∧
 ∃ (x' : Nat),
 x' ≤ cs.length ∧
 cs.length - x' < cs.length - x ∧
 (True ∧
 ansTo n m cs x ++
 [frDn
 (markS n m.toNat (cs.getD (↑x : Int).toNat ((0 : Int), (0 : Int)))
 (linesTo n m cs (↑x : Int).toNat))
 m.toNat x_2] =
 ansTo n m cs x' ∧
 True) ∧
 (↑x : Int) + (1 : Int) = (↑x' : Int) ∧
 linesTo n m cs x ++
 [((cs.getD (↑x : Int).toNat ((0 : Int), (0 : Int))).fst,
 (cs.getD (↑x : Int).toNat ((0 : Int), (0 : Int))).snd,
 frDn
 (markS n m.toNat (cs.getD (↑x : Int).toNat ((0 : Int), (0 : Int)))
 (linesTo n m cs (↑x : Int).toNat))
 m.toNat x_2)] =
 linesTo n m cs x' ∧
 True ∧ n = n ∧ m = m ∧ cs = cs ∧ True) ∧
 (Small ((0 : Nat) + (linesTo n m cs x).length) ∧
 Small ((linesTo n m cs x).length + ((0 : Nat) + (1 : Nat))) ∧
 Fits IntKind.i64 ((↑x : Int) + (1 : Int)) ∧
 ∃ (x' : Nat),
 x' ≤ cs.length ∧
 cs.length - x' < cs.length - x ∧
 (True ∧
 ansTo n m cs x ++
 [frDn
 (markS n m.toNat (cs.getD (↑x : Int).toNat ((0 : Int), (0 : Int)))
 (linesTo n m cs (↑x : Int).toNat))
 m.toNat x_2] =
 ansTo n m cs x' ∧
 True) ∧
 (↑x : Int) + (1 : Int) = (↑x' : Int) ∧
 linesTo n m cs x ++
 [((cs.getD (↑x : Int).toNat ((0 : Int), (0 : Int))).fst,
 (cs.getD (↑x : Int).toNat ((0 : Int), (0 : Int))).snd,
 frDn
 (markS n m.toNat (cs.getD (↑x : Int).toNat ((0 : Int), (0 : Int)))
 (linesTo n m cs (↑x : Int).toNat))
 m.toNat x_2)] =
 linesTo n m cs x' ∧
 True ∧ n = n ∧ m = m ∧ cs = cs ∧ True) ∧
 Small ((0 : Nat) + (linesTo n m cs x).length) ∧
 Small ((linesTo n m cs x).length + ((0 : Nat) + (1 : Nat))) ∧
 Fits IntKind.i64 ((↑x : Int) + (1 : Int)) ∧
 ∃ (x' : Nat),
 x' ≤ cs.length ∧
 cs.length - x' < cs.length - x ∧
 (True ∧
 ansTo n m cs x ++
 [frDn
 (markS n m.toNat (cs.getD (↑x : Int).toNat ((0 : Int), (0 : Int)))
 (linesTo n m cs (↑x : Int).toNat))
 m.toNat x_2] =
 ansTo n m cs x' ∧
 True) ∧
 (↑x : Int) + (1 : Int) = (↑x' : Int) ∧
 linesTo n m cs x ++
 [((cs.getD (↑x : Int).toNat ((0 : Int), (0 : Int))).fst,
 (cs.getD (↑x : Int).toNat ((0 : Int), (0 : Int))).snd,
 frDn
 (markS n m.toNat (cs.getD (↑x : Int).toNat ((0 : Int), (0 : Int)))
 (linesTo n m cs (↑x : Int).toNat))
 m.toNat x_2)] =
 linesTo n m cs x' ∧
 True ∧ n = n ∧ m = m ∧ cs = cs ∧ True) ∧
 ((Small ((0 : Nat) + (linesTo n m cs x).length) ∧
 Small ((linesTo n m cs x).length + ((0 : Nat) + (1 : Nat))) ∧
 Fits IntKind.i64 ((↑x : Int) + (1 : Int)) ∧
 ∃ (x' : Nat),
 x' ≤ cs.length ∧
 cs.length - x' < cs.length - x ∧
 (True ∧
 ansTo n m cs x ++
 [frDn
 (markS n m.toNat (cs.getD (↑x : Int).toNat ((0 : Int), (0 : Int)))
 (linesTo n m cs (↑x : Int).toNat))
 m.toNat x_2] =
 ansTo n m cs x' ∧
 True) ∧
 (↑x : Int) + (1 : Int) = (↑x' : Int) ∧
 linesTo n m cs x ++
 [((cs.getD (↑x : Int).toNat ((0 : Int), (0 : Int))).fst,
 (cs.getD (↑x : Int).toNat ((0 : Int), (0 : Int))).snd,
 frDn
 (markS n m.toNat (cs.getD (↑x : Int).toNat ((0 : Int), (0 : Int)))
 (linesTo n m cs (↑x : Int).toNat))
 m.toNat x_2)] =
 linesTo n m cs x' ∧
 True ∧ n = n ∧ m = m ∧ cs = cs ∧ True) ∧
 Small ((0 : Nat) + (linesTo n m cs x).length) ∧
 Small ((linesTo n m cs x).length + ((0 : Nat) + (1 : Nat))) ∧
 Fits IntKind.i64 ((↑x : Int) + (1 : Int)) ∧
 ∃ (x' : Nat),
 x' ≤ cs.length ∧
 cs.length - x' < cs.length - x ∧
 (True ∧
 ansTo n m cs x ++
 [frDn
 (markS n m.toNat (cs.getD (↑x : Int).toNat ((0 : Int), (0 : Int)))
 (linesTo n m cs (↑x : Int).toNat))
 m.toNat x_2] =
 ansTo n m cs x' ∧
 True) ∧
 (↑x : Int) + (1 : Int) = (↑x' : Int) ∧
 linesTo n m cs x ++
 [((cs.getD (↑x : Int).toNat ((0 : Int), (0 : Int))).fst,
 (cs.getD (↑x : Int).toNat ((0 : Int), (0 : Int))).snd,
 frDn
 (markS n m.toNat (cs.getD (↑x : Int).toNat ((0 : Int), (0 : Int)))
 (linesTo n m cs (↑x : Int).toNat))
 m.toNat x_2)] =
 linesTo n m cs x' ∧
 True ∧ n = n ∧ m = m ∧ cs = cs ∧ True) ∧
 Small ((0 : Nat) + (linesTo n m cs x).length) ∧
 Small ((linesTo n m cs x).length + ((0 : Nat) + (1 : Nat))) ∧
 Fits IntKind.i64 ((↑x : Int) + (1 : Int)) ∧
 ∃ (x' : Nat),
 x' ≤ cs.length ∧
 cs.length - x' < cs.length - x ∧
 (True ∧
 ansTo n m cs x ++
 [frDn
 (markS n m.toNat (cs.getD (↑x : Int).toNat ((0 : Int), (0 : Int)))
 (linesTo n m cs (↑x : Int).toNat))
 m.toNat x_2] =
 ansTo n m cs x' ∧
 True) ∧
 (↑x : Int) + (1 : Int) = (↑x' : Int) ∧
 linesTo n m cs x ++
 [((cs.getD (↑x : Int).toNat ((0 : Int), (0 : Int))).fst,
 (cs.getD (↑x : Int).toNat ((0 : Int), (0 : Int))).snd,
 frDn
 (markS n m.toNat (cs.getD (↑x : Int).toNat ((0 : Int), (0 : Int)))
 (linesTo n m cs (↑x : Int).toNat))
 m.toNat x_2)] =
 linesTo n m cs x' ∧
 True ∧ n = n ∧ m = m ∧ cs = cs ∧ True) ∧
 (¬(0 : Int) ≤
 frDn
 (markS n m.toNat (cs.getD (↑x : Int).toNat ((0 : Int), (0 : Int))) (linesTo n m cs (↑x : Int).toNat))
 m.toNat x_2 →
 ¬(0 : Int) ≤
 frDn
 (markS n m.toNat (cs.getD (↑x : Int).toNat ((0 : Int), (0 : Int)))
 (linesTo n m cs (↑x : Int).toNat))
 m.toNat x_2 ∧
 Fits IntKind.i64 ((↑x : Int) + (1 : Int)) ∧
 ∃ (x' : Nat),
 x' ≤ cs.length ∧
 cs.length - x' < cs.length - x ∧
 (True ∧
 ansTo n m cs x ++
 [frDn
 (markS n m.toNat (cs.getD (↑x : Int).toNat ((0 : Int), (0 : Int)))
 (linesTo n m cs (↑x : Int).toNat))
 m.toNat x_2] =
 ansTo n m cs x' ∧
 True) ∧
 (↑x : Int) + (1 : Int) = (↑x' : Int) ∧
 linesTo n m cs x = linesTo n m cs x' ∧ True ∧ n = n ∧ m = m ∧ cs = cs ∧ True))))))) ∧
 (¬(↑x : Int) < (↑cs.length : Int) → ¬(↑x : Int) < (↑cs.length : Int) ∧ ansTo n m cs x = ansTo n m cs cs.length)) := by
 kernel_rfl

end Go.SX.Pa

/- Chapter 06, part 21: Serve, and the book's own Serve: their contracts. -/
namespace Go.SX.Pa
open Go Go.Proofs
theorem atTo_ok (es : List Lk) (a : Int) : (j : Nat) → (atTo es a j = -1 ∧ ∀ i, i < j → (es.getD i (0, 0, 0)).1 ≠ a) ∨ ∃ i : Nat, atTo es a j = (i : Int) ∧ i < j ∧ (es.getD i (0, 0, 0)).1 = a
  | 0 => .inl ⟨rfl, fun i hi => absurd hi (Nat.not_lt_zero i)⟩
  | j + 1 => by
    by_cases h : (es.getD j (0, 0, 0)).1 = a
    · exact .inr ⟨j, by unfold atTo; rw [if_pos h], by omega, h⟩
    · have e : atTo es a (j + 1) = atTo es a j := by rw [atTo, if_neg h]
      rw [e]
      rcases atTo_ok es a j with ⟨q1, q2⟩ | ⟨i, q1, q2, q3⟩
      · exact .inl ⟨q1, all_below q2 h⟩
      · exact .inr ⟨i, q1, by omega, q3⟩
theorem frDn_ok (t : List Bool) (m : Nat) : (j : Nat) → j ≤ m → (frDn t m j = -1 ∧ ∀ i, m - j ≤ i → i < m → t.getD i false ≠ false) ∨ ∃ i : Nat, frDn t m j = (i : Int) ∧ i < m ∧ t.getD i false = false ∧ ∀ q, m - j ≤ q → q < i → t.getD q false ≠ false
  | 0, _ => .inl ⟨rfl, fun i h1 h2 => by omega⟩
  | j + 1, hj => by
    by_cases h : t.getD (m - 1 - j) false = false
    · exact .inr ⟨m - 1 - j, by unfold frDn; rw [if_pos h], by omega, h, fun q h1 h2 => by omega⟩
    · have e : frDn t m (j + 1) = frDn t m j := by rw [frDn, if_neg h]
      rw [e]
      have st : ∀ i, m - (j + 1) ≤ i → m - j ≤ i ∨ i = m - 1 - j := fun i hi => by omega
      rcases frDn_ok t m j (by omega) with ⟨q1, q2⟩ | ⟨i, q1, q2, q3, q4⟩
      · refine .inl ⟨q1, fun i h1 h2 => ?_⟩
        rcases st i h1 with h3 | h3
        · exact q2 i h3 h2
        · rw [h3]; exact h
      · refine .inr ⟨i, q1, q2, q3, fun q h1 h2 => ?_⟩
        rcases st q h1 with h3 | h3
        · exact q4 q h3 h2
        · rw [h3]; exact h
theorem frDn_all {t : List Bool} {m : Nat} (h : t.length = m) : frDn t m m = idxB t false := by
  rcases frDn_ok t m m (Nat.le_refl _) with ⟨q1, q2⟩ | ⟨i, q1, q2, q3, q4⟩
  · rw [q1, idxB_no fun i hi => q2 i (by omega) (by omega)]
  · rw [q1, idxB_at (by omega) q3 fun j hj => q4 j (by omega) hj]

section
variable {n m : Int} {E : List Lk} {C : Ed} {N : Int} (hl : LinesOK N m E)
include hl
omit hl in
theorem hang_none (h0 : C.2 < 0) (h : atTo E C.1 E.length < 0) : stepL n m E C = (-2, E) := by
  unfold stepL hangF
  rw [if_neg (by omega)]
  rcases atTo_ok E C.1 E.length with ⟨_, q2⟩ | ⟨i, q1, _, _⟩
  · rw [look_none.2 fun l hl => ?_]
    obtain ⟨i, hi, e⟩ := List.getElem_of_mem hl
    have := q2 i hi
    rw [List.getD_eq_getElem?_getD, List.getElem?_eq_getElem hi, Option.getD_some, e] at this
    exact this
  · omega
theorem hang_some (h0 : C.2 < 0) (h : ¬ atTo E C.1 E.length < 0) : (0 ≤ atTo E C.1 E.length ∧ atTo E C.1 E.length < E.length) ∧ stepL n m E C = ((E.getD (atTo E C.1 E.length).toNat (0, 0, 0)).2.2, E.take (atTo E C.1 E.length).toNat ++ E.drop (atTo E C.1 E.length + 1).toNat) := by
  unfold stepL hangF
  rw [if_neg (by omega)]
  rcases atTo_ok E C.1 E.length with ⟨q1, _⟩ | ⟨i, q1, q2, q3⟩
  · omega
  · have e : E[i]? = some (C.1, (E.getD i (0, 0, 0)).2) := by
      rw [← q3, List.getD_eq_getElem?_getD, List.getElem?_eq_getElem q2]; rfl
    obtain ⟨r1, r2⟩ := look_at hl.nodI e
    rw [q1, r1, r2, Int.toNat_natCast, show ((i : Int) + 1).toNat = i + 1 by omega]
    exact ⟨by omega, rfl⟩
omit hl in
theorem conn_no (h0 : 0 ≤ C.2) (h : E.any (meets C) = true) : stepL n m E C = (-2, E) := by
  unfold stepL connF
  rw [if_pos h0, if_pos h]
omit hl in
theorem conn_yes (h0 : 0 ≤ C.2) (h : E.any (meets C) = false) : stepL n m E C = (idxB (markS n m.toNat C E) false, if 0 ≤ idxB (markS n m.toNat C E) false then E ++ [(C.1, C.2, idxB (markS n m.toNat C E) false)] else E) := by
  unfold stepL connF
  rw [if_pos h0, if_neg (by rw [h]; decide), ins_new fun l hl => (meets_false h l hl).1]
end
theorem any_snoc {C : Ed} {E : List Lk} {j : Nat} (h : j < E.length) : (E.take (j + 1)).any (meets C) = ((E.take j).any (meets C) || meets C (E.getD j (0, 0, 0))) := by
  rw [take_snoc E (0, 0, 0) j h, List.any_append]
  simp

theorem ok50 : p50.OK Tryd.prog := p50.ok C50 (fun _ => cz_ok (cs := []) trivial _) (fn := Tryd.f50) rfl (by decide +kernel) rfl fun (p : Int × Int × List Ed) hp => by
  obtain ⟨n, m, cs⟩ := p
  refine (g50_eq n m cs).mpr ?_
  have hp : ((1 ≤ n ∧ n ≤ 12) ∧ 1 ≤ m ∧ m ≤ 12) ∧ cs.length ≤ 1000 ∧ ∀ c ∈ cs, ((0 : Int) ≤ c.1 ∧ c.1 < 12) ∧ -1 ≤ c.2 ∧ c.2 < 12 := hp
  obtain ⟨⟨hn, hm1, hm2⟩, hlen, hcs⟩ := hp
  simp only [pp1, eq_self, and_true, true_and, and_self, Int.toNat_natCast, List.drop_zero]
  refine ⟨⟨0, by omega, rfl, rfl, rfl⟩, fun x hx => ⟨fun hx1 => ?_, fun hx1 => ?_⟩⟩
  rotate_left
  · rw [show x = cs.length by omega]
  have hC : cs.getD x (0, 0) ∈ cs := getD_mem cs (0, 0) (by omega)
  obtain ⟨⟨c1, c2⟩, c3, c4⟩ := hcs _ hC
  obtain ⟨hE, hEl⟩ := lines_ok (N := 12) (n := n) (m := m) (fun c hc => ⟨(hcs c hc).1, (hcs c hc).2.2⟩) x (by omega)
  have hal := ansTo_length n m cs x
  have next : ∀ (a : Int) (es : List Lk), stepL n m (linesTo n m cs x) (cs.getD x (0, 0)) = (a, es) → ∃ x' : Nat, x' ≤ cs.length ∧ cs.length - x' < cs.length - x ∧ ansTo n m cs x ++ [a] = ansTo n m cs x' ∧ (x : Int) + 1 = (x' : Int) ∧ es = linesTo n m cs x' := fun a es h =>
    ⟨x + 1, by omega, by omega, by rw [ansTo, h], by omega, by rw [linesTo, h]⟩
  have hA : Small ((ansTo n m cs x).length + (0 + 1)) := by unfold Small; omega
  have hF : Fits .i64 ((x : Int) + 1) := fits_nat (by omega)
  refine ⟨by omega, ⟨by omega, by unfold Small; omega⟩, ⟨0, by omega, (markS_nil _ _ _).symm, rfl, rfl, rfl⟩, fun j hj => ⟨fun hj1 => ⟨by omega, ?_⟩, fun hj1 => ?_⟩⟩
  · have hj2 : j < (linesTo n m cs x).length := by omega
    have hP : (linesTo n m cs x).getD j (0, 0, 0) ∈ (linesTo n m cs x) := getD_mem (linesTo n m cs x) (0, 0, 0) hj2
    have i1 := hE.ins _ hP
    have i2 := hE.outs _ hP
    have i3 := hE.mids _ hP
    have hany := any_snoc (C := cs.getD x (0, 0)) hj2
    have htk := take_snoc (linesTo n m cs x) (0, 0, 0) j hj2
    have hat : atTo (linesTo n m cs x) (cs.getD x (0, 0)).1 (j + 1) = if ((linesTo n m cs x).getD j (0, 0, 0)).1 = (cs.getD x (0, 0)).1 then (j : Int) else atTo (linesTo n m cs x) (cs.getD x (0, 0)).1 j := rfl
    have hmk : nearL n (cs.getD x (0, 0)) ((linesTo n m cs x).getD j (0, 0, 0)) = true → (markS n m.toNat (cs.getD x (0, 0)) ((linesTo n m cs x).take j)).set ((linesTo n m cs x).getD j (0, 0, 0)).2.2.toNat true = markS n m.toNat (cs.getD x (0, 0)) ((linesTo n m cs x).take (j + 1)) := fun h => by rw [htk, markS_near h]
    have hmf : nearL n (cs.getD x (0, 0)) ((linesTo n m cs x).getD j (0, 0, 0)) = false → markS n m.toNat (cs.getD x (0, 0)) ((linesTo n m cs x).take j) = markS n m.toNat (cs.getD x (0, 0)) ((linesTo n m cs x).take (j + 1)) := fun h => by rw [htk, markS_far h]
    have hlm := markS_length n m.toNat (cs.getD x (0, 0)) ((linesTo n m cs x).take j)
    have fj : Fits .i64 ((j : Int) + 1) := fits_nat (by omega)
    have R : ∀ (v : Int) (b : Bool), v = atTo (linesTo n m cs x) (cs.getD x (0, 0)).1 (j + 1) → b = ((linesTo n m cs x).take (j + 1)).any (meets (cs.getD x (0, 0))) →
        (0 ≤ ((linesTo n m cs x).getD j (0, 0, 0)).1 ∧ 0 < n) ∧ Fits .i64 (((linesTo n m cs x).getD j (0, 0, 0)).1 / n) ∧ (0 ≤ (cs.getD x (0, 0)).1 ∧ 0 < n) ∧ Fits .i64 ((cs.getD x (0, 0)).1 / n) ∧
        (((linesTo n m cs x).getD j (0, 0, 0)).1 / n = (cs.getD x (0, 0)).1 / n → (0 ≤ ((linesTo n m cs x).getD j (0, 0, 0)).2.2 ∧ ((linesTo n m cs x).getD j (0, 0, 0)).2.2 < ((markS n m.toNat (cs.getD x (0, 0)) ((linesTo n m cs x).take j)).length : Nat)) ∧ Fits .i64 ((j : Int) + 1) ∧ ∃ x' : Nat, x' ≤ (linesTo n m cs x).length ∧ (linesTo n m cs x).length - x' < (linesTo n m cs x).length - j ∧ (markS n m.toNat (cs.getD x (0, 0)) ((linesTo n m cs x).take j)).set ((linesTo n m cs x).getD j (0, 0, 0)).2.2.toNat true = markS n m.toNat (cs.getD x (0, 0)) ((linesTo n m cs x).take x') ∧ (j : Int) + 1 = (x' : Int) ∧ v = atTo (linesTo n m cs x) (cs.getD x (0, 0)).1 x' ∧ b = ((linesTo n m cs x).take x').any (meets (cs.getD x (0, 0)))) ∧
        (¬ ((linesTo n m cs x).getD j (0, 0, 0)).1 / n = (cs.getD x (0, 0)).1 / n → (0 ≤ (cs.getD x (0, 0)).2 → (0 ≤ ((linesTo n m cs x).getD j (0, 0, 0)).2.1 ∧ 0 < n) ∧ Fits .i64 (((linesTo n m cs x).getD j (0, 0, 0)).2.1 / n) ∧ (0 ≤ (cs.getD x (0, 0)).2 ∧ 0 < n) ∧ Fits .i64 ((cs.getD x (0, 0)).2 / n) ∧
          (((linesTo n m cs x).getD j (0, 0, 0)).2.1 / n = (cs.getD x (0, 0)).2 / n → (0 ≤ ((linesTo n m cs x).getD j (0, 0, 0)).2.2 ∧ ((linesTo n m cs x).getD j (0, 0, 0)).2.2 < ((markS n m.toNat (cs.getD x (0, 0)) ((linesTo n m cs x).take j)).length : Nat)) ∧ Fits .i64 ((j : Int) + 1) ∧ ∃ x' : Nat, x' ≤ (linesTo n m cs x).length ∧ (linesTo n m cs x).length - x' < (linesTo n m cs x).length - j ∧ (markS n m.toNat (cs.getD x (0, 0)) ((linesTo n m cs x).take j)).set ((linesTo n m cs x).getD j (0, 0, 0)).2.2.toNat true = markS n m.toNat (cs.getD x (0, 0)) ((linesTo n m cs x).take x') ∧ (j : Int) + 1 = (x' : Int) ∧ v = atTo (linesTo n m cs x) (cs.getD x (0, 0)).1 x' ∧ b = ((linesTo n m cs x).take x').any (meets (cs.getD x (0, 0)))) ∧
          (¬ ((linesTo n m cs x).getD j (0, 0, 0)).2.1 / n = (cs.getD x (0, 0)).2 / n → Fits .i64 ((j : Int) + 1) ∧ ∃ x' : Nat, x' ≤ (linesTo n m cs x).length ∧ (linesTo n m cs x).length - x' < (linesTo n m cs x).length - j ∧ markS n m.toNat (cs.getD x (0, 0)) ((linesTo n m cs x).take j) = markS n m.toNat (cs.getD x (0, 0)) ((linesTo n m cs x).take x') ∧ (j : Int) + 1 = (x' : Int) ∧ v = atTo (linesTo n m cs x) (cs.getD x (0, 0)).1 x' ∧ b = ((linesTo n m cs x).take x').any (meets (cs.getD x (0, 0))))) ∧
          (¬ 0 ≤ (cs.getD x (0, 0)).2 → Fits .i64 ((j : Int) + 1) ∧ ∃ x' : Nat, x' ≤ (linesTo n m cs x).length ∧ (linesTo n m cs x).length - x' < (linesTo n m cs x).length - j ∧ markS n m.toNat (cs.getD x (0, 0)) ((linesTo n m cs x).take j) = markS n m.toNat (cs.getD x (0, 0)) ((linesTo n m cs x).take x') ∧ (j : Int) + 1 = (x' : Int) ∧ v = atTo (linesTo n m cs x) (cs.getD x (0, 0)).1 x' ∧ b = ((linesTo n m cs x).take x').any (meets (cs.getD x (0, 0))))) := fun v b hv hb => by
      refine ⟨by omega, fits_div i1.1 (by omega) hn.1, by omega, fits_div c1 (by omega) hn.1, fun h => ?_, fun h => ⟨fun h0 => ⟨by omega, fits_div i2.1 (by omega) hn.1, by omega, fits_div h0 (by omega) hn.1, fun h5 => ?_, fun h5 => ?_⟩, fun h0 => ?_⟩⟩
      · exact ⟨by omega, fj, j + 1, by omega, by omega, hmk (near_true (.inl h)), by omega, hv, hb⟩
      · exact ⟨by omega, fj, j + 1, by omega, by omega, hmk (near_true (.inr h5)), by omega, hv, hb⟩
      · exact ⟨fj, j + 1, by omega, by omega, hmf (near_false h h5), by omega, hv, hb⟩
      · have h5 : ¬ ((linesTo n m cs x).getD j (0, 0, 0)).2.1 / n = (cs.getD x (0, 0)).2 / n := by
          have e : (cs.getD x (0, 0)).2 = -1 := by omega
          have := Int.ediv_nonneg i2.1 (show 0 ≤ n by omega)
          have e2 : (-1 : Int) / n < 0 := Int.ediv_neg_of_neg_of_pos (by omega) (by omega)
          rw [e]; omega
        exact ⟨fj, j + 1, by omega, by omega, hmf (near_false h h5), by omega, hv, hb⟩
    refine ⟨fun h1 => ?_, fun h1 => ?_⟩
    · have hm1 : meets (cs.getD x (0, 0)) ((linesTo n m cs x).getD j (0, 0, 0)) = true := by unfold meets; rw [decide_eq_true h1]; rfl
      rw [hm1, Bool.or_true] at hany
      rw [if_pos h1] at hat
      exact ⟨fun _ => R j true hat.symm hany.symm, fun _ => ⟨fun _ => R j true hat.symm hany.symm, fun h => absurd h1 h⟩⟩
    · rw [if_neg h1] at hat
      refine ⟨fun h2 => ?_, fun h2 => ⟨fun h => absurd h h1, fun _ => ?_⟩⟩
      · rw [h2, Bool.true_or] at hany
        exact R _ true hat.symm hany.symm
      · have hm1 : meets (cs.getD x (0, 0)) ((linesTo n m cs x).getD j (0, 0, 0)) = decide (((linesTo n m cs x).getD j (0, 0, 0)).2.1 = (cs.getD x (0, 0)).2) := by unfold meets; rw [decide_eq_false h1]; exact Bool.false_or _
        rw [h2, Bool.false_or, hm1] at hany
        exact R _ _ hat.symm hany.symm
  · have hjE : j = (linesTo n m cs x).length := by omega
    subst hjE
    rw [List.take_length]
    have hang : (cs.getD x (0, 0)).2 < 0 → ¬ atTo (linesTo n m cs x) (cs.getD x (0, 0)).1 (linesTo n m cs x).length < 0 → (0 ≤ atTo (linesTo n m cs x) (cs.getD x (0, 0)).1 (linesTo n m cs x).length ∧ atTo (linesTo n m cs x) (cs.getD x (0, 0)).1 (linesTo n m cs x).length < ((linesTo n m cs x).length : Nat)) ∧ Small ((ansTo n m cs x).length + (0 + 1)) ∧ (0 ≤ ((0 : Nat) : Int) ∧ ((0 : Nat) : Int) ≤ atTo (linesTo n m cs x) (cs.getD x (0, 0)).1 (linesTo n m cs x).length ∧ atTo (linesTo n m cs x) (cs.getD x (0, 0)).1 (linesTo n m cs x).length ≤ ((linesTo n m cs x).length : Nat)) ∧ Fits .i64 (atTo (linesTo n m cs x) (cs.getD x (0, 0)).1 (linesTo n m cs x).length + 1) ∧
        (0 ≤ atTo (linesTo n m cs x) (cs.getD x (0, 0)).1 (linesTo n m cs x).length + 1 ∧ atTo (linesTo n m cs x) (cs.getD x (0, 0)).1 (linesTo n m cs x).length + 1 ≤ ((linesTo n m cs x).length : Nat) ∧ (((linesTo n m cs x).length : Nat) : Int) ≤ ((linesTo n m cs x).length : Nat)) ∧ Small (0 + ((linesTo n m cs x).take (atTo (linesTo n m cs x) (cs.getD x (0, 0)).1 (linesTo n m cs x).length).toNat).length) ∧ Small (((linesTo n m cs x).take (atTo (linesTo n m cs x) (cs.getD x (0, 0)).1 (linesTo n m cs x).length).toNat).length + ((linesTo n m cs x).drop (atTo (linesTo n m cs x) (cs.getD x (0, 0)).1 (linesTo n m cs x).length + 1).toNat).length) ∧ Fits .i64 ((x : Int) + 1) ∧
        ∃ x' : Nat, x' ≤ cs.length ∧ cs.length - x' < cs.length - x ∧ ansTo n m cs x ++ [((linesTo n m cs x).getD (atTo (linesTo n m cs x) (cs.getD x (0, 0)).1 (linesTo n m cs x).length).toNat (0, 0, 0)).2.2] = ansTo n m cs x' ∧ (x : Int) + 1 = (x' : Int) ∧ (linesTo n m cs x).take (atTo (linesTo n m cs x) (cs.getD x (0, 0)).1 (linesTo n m cs x).length).toNat ++ (linesTo n m cs x).drop (atTo (linesTo n m cs x) (cs.getD x (0, 0)).1 (linesTo n m cs x).length + 1).toNat = linesTo n m cs x' := fun h0 h1 => by
      obtain ⟨q1, q2⟩ := hang_some (n := n) hE h0 h1
      have t1 : ((linesTo n m cs x).take (atTo (linesTo n m cs x) (cs.getD x (0, 0)).1 (linesTo n m cs x).length).toNat).length ≤ (linesTo n m cs x).length := List.length_take_le' _ _
      have t2 : ((linesTo n m cs x).drop (atTo (linesTo n m cs x) (cs.getD x (0, 0)).1 (linesTo n m cs x).length + 1).toNat).length ≤ (linesTo n m cs x).length := by rw [List.length_drop]; omega
      exact ⟨q1, hA, by omega, fits_i64 (by omega) (by omega), by omega, by unfold Small; omega, by unfold Small; omega, hF, next _ _ q2⟩
    refine ⟨fun h0 => ⟨fun h1 => ⟨hA, hF, next _ _ (hang_none h0 h1)⟩, fun h1 => ⟨fun h2 => absurd h2 (by omega), fun _ => ⟨fun _ => hang h0 h1, fun h2 => absurd h0 h2⟩⟩⟩, fun h0 => ⟨fun h2 => ⟨fun h3 => ⟨hA, hF, next _ _ (conn_no h2 h3)⟩, fun h3 => ⟨fun h4 => absurd h4 h0, fun _ => ?_⟩⟩, fun h2 => absurd h2 (by omega)⟩⟩
    have hy := conn_yes (n := n) (m := m) h2 h3
    have hml := markS_length n m.toNat (cs.getD x (0, 0)) (linesTo n m cs x)
    have hfa := frDn_all hml
    generalize markS n m.toNat (cs.getD x (0, 0)) (linesTo n m cs x) = T at hy hml hfa ⊢
    refine ⟨fits_i64 (by omega) (by omega), ⟨0, by omega, by omega, rfl⟩, fun s hs => ⟨fun h4 => ⟨by omega, fun h5 => ?_, fun h5 => ?_⟩, fun h4 => ⟨hA, fun h5 => ?_, fun h5 => ?_⟩⟩⟩
    · refine ⟨fits_i64 (by omega) (by omega), s + 1, by omega, by omega, by omega, ?_⟩
      have e : (m - 1 - (s : Int)).toNat = m.toNat - 1 - s := by omega
      rw [e] at h5
      rw [frDn, if_pos (by simpa using h5)]
      omega
    · refine ⟨fits_i64 (by omega) (by omega), s + 1, by omega, by omega, by omega, ?_⟩
      have e : (m - 1 - (s : Int)).toNat = m.toNat - 1 - s := by omega
      rw [e] at h5
      rw [frDn, if_neg (by simpa using h5)]
    all_goals
      have hs' : s = m.toNat := by omega
      subst hs'
      rw [hfa] at h5 ⊢
    · rw [if_pos h5] at hy
      exact ⟨by unfold Small; omega, by unfold Small; omega, hF, next _ _ hy⟩
    · rw [if_neg h5] at hy
      exact ⟨hF, next _ _ hy⟩

theorem ok49 : p49.OK Tryd.prog := p49.ok C49 (fun p => cz_ok (cs := [p54.ci, inl 56 Tryd.f56 (C56x p.1 p.2.1 p.2.2.2), H70.ci (pick70 p.1 p.2.1 p.2.2.1)]) ⟨PC.OK.ci ok54, inl_ok (cz_ok (cs := [inl 71 Tryd.f71 (C71x p.1 p.2.1 p.2.2.2)]) ⟨inl_ok (cz_ok (cs := [inl 69 Tryd.f69 (cz [] [])]) ⟨inl_ok (cz_ok (cs := []) trivial _) rfl (by decide +kernel) rfl, trivial⟩ _) rfl (by decide +kernel) rfl, trivial⟩ _) rfl (by decide +kernel) rfl, h70.ci (fun _ => ⟨trivial, trivial, trivial⟩) (fun args H K hk => by
    unfold pick70 at hk
    split at hk
    · split at hk
      · split at hk
        · split at hk
          · exact ⟨_, _, hk⟩
          · exact hk.elim
        · exact hk.elim
      · exact hk.elim
    · exact hk.elim), trivial⟩ _) (fn := Tryd.f49) rfl (by decide +kernel) rfl fun (p : Int × Int × Int × List Ed) hp => by
  obtain ⟨n, r, m, cs⟩ := p
  refine (g49_eq n r m cs).mpr ?_
  have hp : cs.length ≤ 1000 := hp
  simp only [pp1, eq_self, and_true, true_and, and_self, Int.toNat_natCast, peta]
  refine ⟨fun h => ?_, fun h0 => ⟨fun h => ?_, fun h => ?_⟩⟩
  · unfold serveF; rw [if_pos (by omega)]
  · unfold serveF; rw [if_neg (by omega), if_pos (by simpa using h)]
  have hc : ClosP n r m := by simpa using h
  have bad2 : cs.any (badEv n r) = true → ([], 2) = serveF n r m cs := fun hb => by
    unfold serveF; rw [if_neg (by omega), if_neg (fun c => c hc), if_pos hb]
  obtain ⟨k1, k2, k3, k4⟩ := hc
  have hnr : 0 < n * r := Int.mul_pos (by omega) (by omega)
  refine ⟨⟨0, ⟨by omega, rfl⟩, rfl⟩, fun x hx => ⟨fun h1 => ?_, fun h1 => ?_⟩⟩
  · have hxl : x < cs.length := by omega
    have hb : badEv n r (cs.getD x (0, 0)) = true → cs.any (badEv n r) = true := fun hb => List.any_eq_true.2 ⟨_, getD_mem cs (0, 0) hxl, hb⟩
    refine ⟨by omega, fun h2 => ⟨fun _ => bad2 (hb (by unfold badEv; rw [decide_eq_true h2, Bool.true_or, Bool.true_or])), fun h3 => absurd h3 (by omega)⟩, fun h2 => ⟨fits_i64 (by omega) (by omega), fun h3 => ⟨fun _ => bad2 (hb (by unfold badEv; rw [decide_eq_true h3, Bool.or_true, Bool.true_or])), fun h3 => absurd h3 (by omega)⟩, fun h3 => ⟨fun h4 => ⟨fun _ => bad2 (hb (by unfold badEv; rw [decide_eq_true h4, Bool.or_true])), fun h3 => absurd h3 (by omega)⟩, fun h4 => ?_⟩⟩⟩
    refine ⟨fits_nat (by omega), x + 1, ⟨by omega, ?_⟩, by omega, by omega⟩
    rw [take_snoc cs (0, 0) x hxl, List.any_append, hx.2]
    have : badEv n r (cs.getD x (0, 0)) = false := by
      simp only [badEv, decide_eq_false h2, decide_eq_false h3, decide_eq_false h4]
      rfl
    rw [Bool.false_or, List.any_cons, this]
    rfl
  · refine ⟨fun h2 => absurd h2 (by omega), fun _ => ?_⟩
    have hx2 : x = cs.length := by omega
    rw [hx2, List.take_length] at hx
    have hev : ∀ c ∈ cs, (0 ≤ c.1 ∧ c.1 < n * r) ∧ -1 ≤ c.2 ∧ c.2 < n * r := fun c hc => by
      have := List.any_eq_false.1 hx.2 c hc
      simp [badEv] at this
      omega
    refine ⟨⟨0, by omega, ⟨rfl, rfl⟩, rfl⟩, fun k hk => ⟨fun h2 => ?_, fun h2 => ?_⟩⟩
    · have hC := hev _ (getD_mem cs (0, 0) (show k < cs.length by omega))
      obtain ⟨q1, q2⟩ := lines_ok (N := n * r) (n := n) (m := m) (fun c hc => ⟨(hev c hc).1, (hev c hc).2.2⟩) k hk
      exact ⟨by omega, ⟨⟨k1, k2, k3, k4⟩, q1, hC.1, hC.2⟩, by rw [ansTo_length]; unfold Small; omega, fits_nat (by omega), k + 1, by omega, by omega, ⟨rfl, rfl⟩, by omega⟩
    · unfold serveF
      rw [if_neg (by omega), if_neg (fun c => c ⟨k1, k2, k3, k4⟩), if_neg (by rw [hx.2]; decide), show k = cs.length by omega]
end Go.SX.Pa
