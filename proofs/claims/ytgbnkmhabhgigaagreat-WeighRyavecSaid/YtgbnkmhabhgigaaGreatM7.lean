/- Parts of the proof, one after the other: WeN Wz6 Wz6E Wz6Q WeC Wz7 Wz7E WeT Wz7Q. -/
import Derived.Test.YtgbnkmhabhgigaaGreatM6
/- Chapter 08: weighings in plain words. -/
namespace Go.SX.We
def panG : Nat → List Int → List (List Int)
  | 0, l => [l]
  | n + 1, l => panG n (l ++ [1]) ++ (panG n (l ++ [0]) ++ panG n (l ++ [-1]))
def panR (n : Nat) : Nat → List Int → List (List Int)
  | 0, _ => []
  | j + 1, l => panG n (l ++ [(j : Int) - 1]) ++ panR n j l
theorem panG_R (n : Nat) (l : List Int) : panG (n + 1) l = panR n 3 l := by simp [panG, panR]
def pansL (w : List Int) : List (List Int) := panG w.length []
def leftP (w l : List Int) : Nat := w.length - l.length
theorem panG_mem : ∀ (n : Nat) (l x : List Int), x ∈ panG n l → x.length = l.length + n ∧ ∀ i, i < l.length → x.getD i 0 = l.getD i 0
  | 0, l, x, h => by
    have : x = l := by simpa [panG] using h
    subst this; simp
  | n + 1, l, x, h => by
    have key : ∀ p : Int, x ∈ panG n (l ++ [p]) → x.length = l.length + (n + 1) ∧ ∀ i, i < l.length → x.getD i 0 = l.getD i 0 := fun p hp => by
      obtain ⟨h1, h2⟩ := panG_mem n _ x hp
      refine ⟨by simp at h1; omega, fun i hi => ?_⟩
      rw [h2 i (by simp; omega)]
      simp [List.getD, List.getElem?_append_left hi]
    simp only [panG, List.mem_append] at h
    rcases h with h | h | h <;> exact key _ h
theorem panG_signs : ∀ (n : Nat) (l x : List Int), (∀ v ∈ l, v = 1 ∨ v = 0 ∨ v = -1) → x ∈ panG n l → ∀ v ∈ x, v = 1 ∨ v = 0 ∨ v = -1
  | 0, l, x, hl, h => by
    have : x = l := by simpa [panG] using h
    subst this; exact hl
  | n + 1, l, x, hl, h => by
    have key : ∀ p : Int, (p = 1 ∨ p = 0 ∨ p = -1) → x ∈ panG n (l ++ [p]) → ∀ v ∈ x, v = 1 ∨ v = 0 ∨ v = -1 := fun p hp hx => by
      refine panG_signs n _ x (fun v hv => ?_) hx
      rcases List.mem_append.1 hv with h | h
      · exact hl v h
      · have : v = p := by simpa using h
        rw [this]; exact hp
    simp only [panG, List.mem_append] at h
    rcases h with h | h | h
    · exact key _ (.inl rfl) h
    · exact key _ (.inr (.inl rfl)) h
    · exact key _ (.inr (.inr rfl)) h
def dotF (w l : List Int) : Nat → Int
  | 0 => 0
  | k + 1 => dotF w l k + l.getD k 0 * w.getD k 0
def goodP (w : List Int) (s : Int) (l : List Int) : Bool := decide (dotF w l l.length = s)
def lastP (l : List (List Int)) : List Int := l.getLastD []
theorem lastP_snoc (l : List (List Int)) (x : List Int) : lastP (l ++ [x]) = x := by simp [lastP, List.getLastD_eq_getLast?]
def pansF (w : List Int) (s : Int) : List Int × Int :=
  bif decide (totalF w 9 s = 0) then (match (pansL w).find? (goodP w s) with
    | none => ([], 5)
    | some x => (x, 0)) else ([], totalF w 9 s)
end Go.SX.We

/- Chapter 08: Pans, what is asked of each. -/
namespace Go.SX.We
open Go Go.Proofs
noncomputable section
abbrev tIs : Ty := .slice (.int .i64)
structure X58 where
  E : Ext false tIs
  pre : List tIs.den
  w : List Int
  l : List Int
def X58.gen (x : X58) : List (List Int) := panG (leftP x.w x.l) x.l
def X58.fed (x : X58) : Bool × List tIs.den := feed x.E.go x.pre x.gen
structure P58 (M : MM) (x : X58) : Prop where
  may : M false tIs x.E
  each : ∀ r1 y r2, x.gen = r1 ++ y :: r2 → x.E.may (x.pre ++ r1) y
  len : x.w.length ≤ 12
  long : x.l.length ≤ x.w.length
@[reducible] def c58 (M : MM) : HC where
  f := 64
  X := X58
  Hs x := [.ext false tIs x.E true x.pre]
  ags x := [.c (.ro (.int .i64) x.w), .c (.ro (.int .i64) x.l), .c (.raw x.E.yv)]
  Pre x := P58 M x
  res x := .c (.bool 0 x.fed.1)
  out x := [.ext false tIs x.E x.fed.1 x.fed.2]
  fr _ := false
@[reducible] def pick58 : Pick X58 := fun args H K => match args with
  | [.c (.ro (.int .i64) w), .c lv, .c (.raw _)] => (match extIx H 0 with
    | some j => (match H[j]? with
      | some (.ext false (.slice (.int .i64)) E _ pre) => (match lv with
        | .ro (.int .i64) l => K ⟨E, pre, w, l⟩ [j]
        | .raw u => bif isNil u then K ⟨E, pre, w, []⟩ [j] else False
        | _ => False)
      | _ => False)
    | none => False)
  | _ => False
@[reducible] def A58 (x : X58) : Ann where
  τ := Nat × List tIs.den
  pre := []
  preC := []
  keep := [0, 1, 2]
  slots k := [(7, .c (.int .i64 (1 - (k.1 : Int))))]
  ents k := [(0, .ext false tIs x.E true (x.pre ++ k.2))]
  ok k := k.1 ≤ 3 ∧ x.gen = k.2 ++ panR (leftP x.w x.l - 1) (3 - k.1) x.l ∧ (feed x.E.go x.pre k.2).1 = true
  m k := 3 - k.1
@[reducible] def C58 (M : MM) (x : X58) : Ctx := cy M [i75, HC.ciF ((c58 M).below (fun y => leftP y.w y.l) (leftP x.w x.l)) pick58] [(0, fun _ => A58 x)]
def g58 (M : MM) (x : X58) : Prop := HVC (C58 M x) Tryz.f64 (c58 M) x
structure X57 where
  E : Ext false tIs
  pre : List tIs.den
  w : List Int
@[reducible] def X57.to (x : X57) : X58 := ⟨x.E, x.pre, x.w, []⟩
@[reducible] def c57 (M : MM) : HC where
  f := 63
  X := X57
  Hs x := [.con 22 tIs x.w, .ext false tIs x.E true x.pre]
  ags x := [.c (.raw x.E.yv), .c (.ptr 0 0)]
  Pre x := P58 M x.to
  res _ := .tup []
  out x := [.con 22 tIs x.w, .ext false tIs x.E (feed x.E.go x.pre (pansL x.w)).1 (feed x.E.go x.pre (pansL x.w)).2]
  fr _ := false
@[reducible] def pick57 : Pick X57 := fun args H K => match args with
  | [.c (.raw _), .c (.ptr i 0)] => (match extIx H 0, H[i]? with
    | some j, some (.con _ (.slice (.int .i64)) w) => (match H[j]? with
      | some (.ext false (.slice (.int .i64)) E _ pre) => K ⟨E, pre, w⟩ [i, j]
      | _ => False)
    | _, _ => False)
  | _ => False
def g57 (M : MM) (x : X57) : Prop := HVC (cy M [HC.ciF (c58 M) pick58] []) Tryz.f63 (c57 M) x
@[reducible] def A60 (w : List Int) (s : Int) (l : List Int) : Ann := upToS l.length 11 [0, 1, 2, 9, 10] (fun _ => True) fun k => [(5, .c (.int .i64 (IntKind.i64.wrap (s - dotF w l k))))]
def withL (d : Nat) (K : List Int → Ann) (st : St) : Ann :=
  match findT d st.t with
  | .c (.ro (.int .i64) xs) => K xs
  | _ => noAnn
@[reducible] def i60 (w : List Int) (s : Int) : CI := inl 66 Tryz.f66 (ctxW tbl [] fun n => annOf n [(0, withL 9 fun l => A60 w s l)])
@[reducible] def R59 (w : List Int) (s : Int) : RAnn where
  a := false
  T := tIs
  go := goN (goodP w s)
  gen := pansL w
  preC := []
  ents _ := []
  fin pre := [(3, .blk 22 [.ro (.int .i64) (lastP pre)]), (4, .blk 4 [.kb true])]
  ex := .ret
  place := 2
  fz := [(0, tIs)]
@[reducible] def C59 (M : MM) (w : List Int) (s : Int) : Ctx := cr M [i60 w s, (c57 M).ci pick57] [] [(0, fun _ => R59 w s)]
@[reducible] def p25 : PC := ⟨30, [aIs, aI], [aIs, aI], fun p => p.1.length ≤ 1000 ∧ Fits .i64 p.2, fun p => pansF p.1 p.2⟩
def g25 (M : MM) (w : List Int) (s : Int) : Prop := p25.VC (cx [p55.ci, inl 65 Tryz.f65 (C59 M w s)] []) Tryz.f30 (w, s)
end
end Go.SX.We

/- Printed by VC.lean: what the executor asks. -/
namespace Go.SX.We
open Go Go.Proofs IntKind List
theorem g58_eq (M : MM) (x : X58) : g58 M x = (((x.l.length : Int) = (x.w.length : Int) → (x.l.length : Int) = (x.w.length : Int) ∧ x.E.yv = x.E.yv ∧ M false tIs x.E ∧ x.E.may x.pre x.l ∧ x.E.go x.pre x.l = x.fed.fst ∧ Ent.ext false tIs x.E x.fed.fst x.fed.snd = Ent.ext false tIs x.E (x.E.go x.pre x.l) (x.pre ++ [x.l]) ∧ True) ∧ (¬(x.l.length : Int) = (x.w.length : Int) → ¬(x.l.length : Int) = (x.w.length : Int) ∧ (∃ (x0 : Nat × List (List Int)), (x0.fst ≤ 3 ∧ x.gen = x0.snd ++ panR (leftP x.w x.l - 1) ((3 : Nat) - x0.fst) x.l ∧ (feed x.E.go x.pre x0.snd).fst = true) ∧ (Ent.ext false tIs x.E true (x.pre ++ x0.snd) = Ent.ext false tIs x.E true x.pre ∧ True) ∧ (1 : Int) = 1 - (x0.fst : Int) ∧ x.w = x.w ∧ x.l = x.l ∧ x.E.yv = x.E.yv ∧ True) ∧ ∀ (x_1 : Nat × List (List Int)), x_1.fst ≤ 3 ∧ x.gen = x_1.snd ++ panR (leftP x.w x.l - 1) ((3 : Nat) - x_1.fst) x.l ∧ (feed x.E.go x.pre x_1.snd).fst = true → ((-1 : Int) ≤ 1 - (x_1.fst : Int) → (-1 : Int) ≤ 1 - (x_1.fst : Int) ∧ (Small (x.l.length + ((0 : Nat) + 1)) ∧ [1 - (x_1.fst : Int)] ≠ []) ∧ True ∧ (Ent.ext false tIs x.E true (x.pre ++ x_1.snd) = Ent.ext false tIs x.E true (x.pre ++ x_1.snd) ∧ True) ∧ (x.w = x.w ∧ x.l ++ [1 - (x_1.fst : Int)] = x.l ++ [1 - (x_1.fst : Int)] ∧ x.E.yv = x.E.yv ∧ True) ∧ (P58 M (X58.mk x.E (x.pre ++ x_1.snd) x.w (x.l ++ [1 - (x_1.fst : Int)])) ∧ leftP x.w (x.l ++ [1 - (x_1.fst : Int)]) < leftP x.w x.l) ∧ ((!(X58.mk x.E (x.pre ++ x_1.snd) x.w (x.l ++ [1 - (x_1.fst : Int)])).fed.fst) = true → (!(X58.mk x.E (x.pre ++ x_1.snd) x.w (x.l ++ [1 - (x_1.fst : Int)])).fed.fst) = true ∧ false = x.fed.fst ∧ Ent.ext false tIs x.E x.fed.fst x.fed.snd = Ent.ext false tIs x.E (X58.mk x.E (x.pre ++ x_1.snd) x.w (x.l ++ [1 - (x_1.fst : Int)])).fed.fst (X58.mk x.E (x.pre ++ x_1.snd) x.w (x.l ++ [1 - (x_1.fst : Int)])).fed.snd ∧ True) ∧ ((!(X58.mk x.E (x.pre ++ x_1.snd) x.w (x.l ++ [1 - (x_1.fst : Int)])).fed.fst) = false → (!(X58.mk x.E (x.pre ++ x_1.snd) x.w (x.l ++ [1 - (x_1.fst : Int)])).fed.fst) = false ∧ Fits .i64 (1 - (x_1.fst : Int) - 1) ∧ ∃ (x' : Nat × List (List Int)), (x'.fst ≤ 3 ∧ x.gen = x'.snd ++ panR (leftP x.w x.l - 1) ((3 : Nat) - x'.fst) x.l ∧ (feed x.E.go x.pre x'.snd).fst = true) ∧ (3 : Nat) - x'.fst < 3 - x_1.fst ∧ (Ent.ext false tIs x.E true (x.pre ++ x'.snd) = Ent.ext false tIs x.E (X58.mk x.E (x.pre ++ x_1.snd) x.w (x.l ++ [1 - (x_1.fst : Int)])).fed.fst (X58.mk x.E (x.pre ++ x_1.snd) x.w (x.l ++ [1 - (x_1.fst : Int)])).fed.snd ∧ True) ∧ 1 - (x_1.fst : Int) - (1 : Int) = 1 - (↑x'.fst : Int) ∧ x.w = x.w ∧ x.l = x.l ∧ x.E.yv = x.E.yv ∧ True)) ∧ (¬(-1 : Int) ≤ 1 - (x_1.fst : Int) → ¬(-1 : Int) ≤ 1 - (x_1.fst : Int) ∧ true = x.fed.fst ∧ Ent.ext false tIs x.E x.fed.fst x.fed.snd = Ent.ext false tIs x.E true (x.pre ++ x_1.snd) ∧ True))) := by kernel_rfl
theorem g57_eq (M : MM) (x : X57) : g57 M x = (True ∧ (Ent.ext false tIs x.E true x.pre = Ent.ext false tIs x.E true x.pre ∧ True) ∧ (x.w = x.w ∧ nilT Int = nilT Int ∧ x.E.yv = x.E.yv ∧ True) ∧ P58 M (X58.mk x.E x.pre x.w []) ∧ True ∧ x.w = x.w ∧ Ent.ext false tIs x.E (feed x.E.go x.pre (pansL x.w)).fst (feed x.E.go x.pre (pansL x.w)).snd = Ent.ext false tIs x.E (X58.mk x.E x.pre x.w (nilT Int)).fed.fst (X58.mk x.E x.pre x.w (nilT Int)).fed.snd ∧ True) := by kernel_rfl
theorem g25_eq (M : MM) (w : List Int) (s : Int) : g25 M w s = ((w.length ≤ 1000 ∧ (9 : Int) ≤ 1000) ∧ (¬totalF w 9 s = 0 → ¬totalF w 9 s = 0 ∧ (nilT Int, totalF w 9 s) = pansF w s) ∧ (¬¬totalF w 9 s = 0 → ¬¬totalF w 9 s = 0 ∧ True ∧ (some (Ent.con (22 : Nat) tIs w) = some (Ent.con (22 : Nat) tIs w) ∧ True) ∧ (w = w ∧ (s = s ∧ True) ∧ (True ∧ True) ∧ (Value.slice none (0 : Nat) (0 : Nat) = Value.slice none (0 : Nat) (0 : Nat) ∧ True) ∧ (True ∧ True) ∧ True) ∧ (∀ (pre : List (List Int)) (x : List Int) (r : List (List Int)), pansL w = pre ++ x :: r → true = true ∧ (∃ (x0 : Nat), (x0 ≤ x.length ∧ True) ∧ (w = w ∧ (s = s ∧ True) ∧ (True ∧ True) ∧ (Value.slice none (0 : Nat) (0 : Nat) = Value.slice none (0 : Nat) (0 : Nat) ∧ True) ∧ (True ∧ True) ∧ True) ∧ 0 = (x0 : Int) ∧ s = IntKind.i64.wrap (s - dotF w x x0) ∧ (x.length : Int) = (x.length : Int) ∧ x = x ∧ x = x ∧ True ∧ True ∧ True) ∧ ∀ (x_1 : Nat), x_1 ≤ x.length ∧ True → ((x_1 : Int) < (x.length : Int) → (x_1 : Int) < (x.length : Int) ∧ (0 ≤ (x_1 : Int) ∧ (x_1 : Int) < (x.length : Int)) ∧ (¬x.getD (x_1 : Int).toNat (0 : Int) = 0 → ¬x.getD (x_1 : Int).toNat (0 : Int) = 0 ∧ (0 ≤ (x_1 : Int) ∧ (x_1 : Int) < (w.length : Int)) ∧ ∃ (x' : Nat), (x' ≤ x.length ∧ True) ∧ x.length - x' < x.length - x_1 ∧ (w = w ∧ (s = s ∧ True) ∧ (True ∧ True) ∧ (Value.slice none (0 : Nat) (0 : Nat) = Value.slice none (0 : Nat) (0 : Nat) ∧ True) ∧ (True ∧ True) ∧ True) ∧ IntKind.i64.wrap ((x_1 : Int) + 1) = (x' : Int) ∧ IntKind.i64.wrap (IntKind.i64.wrap (s - dotF w x x_1) - IntKind.i64.wrap (x.getD (x_1 : Int).toNat 0 * w.getD (x_1 : Int).toNat 0)) = IntKind.i64.wrap (s - dotF w x x') ∧ (x.length : Int) = (x.length : Int) ∧ x = x ∧ x = x ∧ True ∧ True ∧ True) ∧ (¬¬x.getD (x_1 : Int).toNat (0 : Int) = 0 → ¬¬x.getD (x_1 : Int).toNat (0 : Int) = 0 ∧ ∃ (x' : Nat), (x' ≤ x.length ∧ True) ∧ x.length - x' < x.length - x_1 ∧ (w = w ∧ (s = s ∧ True) ∧ (True ∧ True) ∧ (Value.slice none (0 : Nat) (0 : Nat) = Value.slice none (0 : Nat) (0 : Nat) ∧ True) ∧ (True ∧ True) ∧ True) ∧ IntKind.i64.wrap ((x_1 : Int) + 1) = (x' : Int) ∧ IntKind.i64.wrap (s - dotF w x x_1) = IntKind.i64.wrap (s - dotF w x x') ∧ (x.length : Int) = (x.length : Int) ∧ x = x ∧ x = x ∧ True ∧ True ∧ True)) ∧ (¬(x_1 : Int) < (x.length : Int) → ¬(x_1 : Int) < (x.length : Int) ∧ (IntKind.i64.wrap (s - dotF w x x_1) = 0 → IntKind.i64.wrap (s - dotF w x x_1) = 0 ∧ (Ex.ret = Ex.ret ∧ goN (goodP w s) pre x = false ∧ true = true) ∧ w = w ∧ (s = s ∧ True) ∧ (True ∧ True) ∧ (x = lastP (pre ++ [x]) ∧ True) ∧ (True ∧ True) ∧ True) ∧ (¬IntKind.i64.wrap (s - dotF w x x_1) = 0 → ¬IntKind.i64.wrap (s - dotF w x x_1) = 0 ∧ (goN (goodP w s) pre x = true ∧ true = true) ∧ w = w ∧ (s = s ∧ True) ∧ (True ∧ True) ∧ (Value.slice none (0 : Nat) (0 : Nat) = Value.slice none (0 : Nat) (0 : Nat) ∧ True) ∧ (True ∧ True) ∧ True))) ∧ (∀ (E : Ext false tIs), E.go = goN (goodP w s) → (∀ (pre : List (List Int)) (x : List Int) (r : List (List Int)), pansL w = pre ++ x :: r → E.may pre x) → M false tIs E → True ∧ (w = w ∧ Ent.ext false tIs E true (nilT (List Int)) = Ent.ext false tIs E true (nilT (List Int)) ∧ True) ∧ (E.yv = E.yv ∧ True ∧ True) ∧ P58 M (X57.mk E [] w).to ∧ (5 : Nat) = (5 : Nat) ∧ some (Ent.ext false tIs E (feed E.go (nilT (List Int)) (pansL w)).fst (feed E.go (nilT (List Int)) (pansL w)).snd) = some (Ent.ext false tIs E (feed (goN (goodP w s)) (nilT (List Int)) (pansL w)).fst (feed (goN (goodP w s)) (nilT (List Int)) (pansL w)).snd) ∧ some (Ent.con (22 : TypeId) tIs w) = some (Ent.con (22 : Nat) tIs w) ∧ True) ∧ ((feed (goN (goodP w s)) (nilT (List Int)) (pansL w)).fst = true → true = true ∧ (nilT Int, (5 : Int)) = pansF w s) ∧ ((feed (goN (goodP w s)) (nilT (List Int)) (pansL w)).fst = false → true = true ∧ (lastP (feed (goN (goodP w s)) (nilT (List Int)) (pansL w)).snd, (0 : Int)) = pansF w s))) := by kernel_rfl
end Go.SX.We

/- Chapter 08: Pans, proved. -/
namespace Go.SX.We
open Go Go.Proofs
theorem leftP_snoc (w l : List Int) (p : Int) : leftP w (l ++ [p]) = leftP w l - 1 := by unfold leftP; rw [List.length_append]; simp; omega
theorem panR_step {n k : Nat} (hk : k < 3) (l : List Int) : panR n (3 - k) l = panG n (l ++ [1 - (k : Int)]) ++ panR n (3 - (k + 1)) l := by
  have e : 3 - k = (2 - k) + 1 := by omega
  have e2 : 3 - (k + 1) = 2 - k := by omega
  have e3 : ((2 - k : Nat) : Int) - 1 = 1 - (k : Int) := by omega
  rw [e, e2, panR, e3]
theorem g58_ok (M : MM) (x : X58) (hp : P58 M x) : g58 M x := by
  refine (g58_eq M x).mpr ?_
  obtain ⟨may, each, len, long⟩ := hp
  have hfit : ∀ n : Int, -100000000 ≤ n → n ≤ 100000000 → Fits .i64 n := fun n h1 h2 => fits_i64 (by omega) (by omega)
  have hfed : ∀ d r, x.gen = d ++ r → (feed x.E.go x.pre d).1 = true → x.fed = feed x.E.go (x.pre ++ d) r := by
    intro d r h1 h2
    unfold X58.fed
    rw [h1, feed_append, if_pos h2, feed_all d _ h2]
  simp only [pp1, eq_self, and_true, true_and, and_self]
  refine ⟨fun h => ?_, fun h => ⟨⟨(0, []), ⟨by decide, ?_, rfl⟩, by simp, by simp⟩, ?_⟩⟩
  · have hl : leftP x.w x.l = 0 := by unfold leftP; omega
    have hg : x.gen = [x.l] := by unfold X58.gen; rw [hl]; rfl
    have hm := each [] x.l [] (by rw [hg]; rfl)
    have hx : x.fed = (x.E.go x.pre x.l, x.pre ++ [x.l]) := by
      unfold X58.fed
      rw [hg]
      cases hgo : x.E.go x.pre x.l <;> simp [feed, hgo]
    rw [hx]
    exact ⟨may, by simpa using hm, rfl, rfl⟩
  · have hl : leftP x.w x.l = (leftP x.w x.l - 1) + 1 := by unfold leftP; omega
    unfold X58.gen
    rw [hl, panG_R]; rfl
  · have hl : leftP x.w x.l = (leftP x.w x.l - 1) + 1 := by unfold leftP; omega
    rintro ⟨k, d⟩ ⟨k1, k2, k3⟩
    simp only at k1 k2 k3 ⊢
    refine ⟨fun hlt => ?_, fun hge => ?_⟩
    · have hk : k < 3 := by omega
      have hstep := panR_step (n := leftP x.w x.l - 1) hk x.l
      generalize hy : X58.mk x.E (x.pre ++ d) x.w (x.l ++ [1 - (k : Int)]) = y
      have hyg : y.gen = panG (leftP x.w x.l - 1) (x.l ++ [1 - (k : Int)]) := by rw [← hy]; unfold X58.gen; rw [leftP_snoc]
      rw [hstep, ← hyg] at k2
      have hy2 : y.fed = feed x.E.go (x.pre ++ d) y.gen := by rw [← hy]; rfl
      have hxf : x.fed = feed x.E.go (x.pre ++ d) (y.gen ++ panR (leftP x.w x.l - 1) (3 - (k + 1)) x.l) := hfed d _ k2 k3
      rw [feed_append, ← hy2] at hxf
      refine ⟨⟨by unfold Small; simp; omega, by simp⟩, ⟨?_, by rw [leftP_snoc]; omega⟩, fun hf => ?_, fun hf => ⟨hfit _ (by omega) (by omega), (k + 1, d ++ y.gen), ⟨by show k + 1 ≤ 3; omega, by rw [k2]; simp, ?_⟩, by show 3 - (k + 1) < 3 - k; omega, ?_, by show 1 - (k : Int) - 1 = 1 - ((k + 1 : Nat) : Int); omega⟩⟩
      · rw [← hy]
        refine ⟨may, fun r1 z r2 hr => ?_, len, by show (x.l ++ [1 - (k : Int)]).length ≤ _; rw [List.length_append]; simp; omega⟩
        rw [hy] at hr
        have := each (d ++ r1) z (r2 ++ panR (leftP x.w x.l - 1) (3 - (k + 1)) x.l) (by rw [k2, hr]; simp)
        rw [← List.append_assoc] at this
        exact this
      · have hf : y.fed.1 = false := by simpa using hf
        rw [if_neg (by rw [hf]; simp)] at hxf
        rw [hxf, hf]
        exact ⟨rfl, rfl⟩
      · have hf : y.fed.1 = true := by simpa using hf
        show (feed x.E.go x.pre (d ++ y.gen)).1 = true
        rw [feed_append, if_pos k3, feed_all d _ k3, ← hy2]; exact hf
      · have hf : y.fed.1 = true := by simpa using hf
        have h2 : y.fed.2 = x.pre ++ d ++ y.gen := by rw [hy2] at hf ⊢; exact feed_all _ _ hf
        rw [hf, h2, List.append_assoc]
    · have e : 3 - k = 0 := by omega
      rw [e] at k2
      have hd : x.gen = d := by rw [k2]; simp [panR]
      have hx : x.fed = feed x.E.go x.pre d := by unfold X58.fed; rw [hd]
      rw [hx, k3, feed_all d _ k3]
      exact ⟨rfl, rfl⟩
theorem pick58_ok : ∀ args H K, pick58 args H K → ∃ x js, K x js := by
  intro args H K h
  unfold pick58 at h
  split at h
  · split at h
    · split at h
      · split at h
        · exact ⟨_, _, h⟩
        · rename_i u
          cases hu : isNil u with
          | true => rw [hu] at h; exact ⟨_, _, h⟩
          | false => rw [hu] at h; exact h.elim
        · exact h.elim
      · exact h.elim
    · exact h.elim
  · exact h.elim
theorem h58 : HeapOK Tryz.prog (c58 (callM Tryz.prog)) := by
  refine heap_rec (fn := Tryz.f64) (fun x => leftP x.w x.l) (by kernel_rfl) (by kernel_rfl) (by kernel_rfl) (fun x => ⟨trivial, trivial⟩) (C58 (callM Tryz.prog)) (fun x hx => ?_) (fun x hx => g58_ok _ x hx)
  exact cy_ok (cs := [i75, HC.ciF ((c58 (callM Tryz.prog)).below (fun y => leftP y.w y.l) (leftP x.w x.l)) pick58]) ⟨clip_ok, HeapOK.ciF hx (fun _ => ⟨trivial, trivial⟩) pick58_ok, trivial⟩ _
theorem pick57_ok : ∀ args H K, pick57 args H K → ∃ x js, K x js := by
  intro args H K h
  unfold pick57 at h
  split at h
  · split at h
    · split at h
      · exact ⟨_, _, h⟩
      · exact h.elim
    · exact h.elim
  · exact h.elim
theorem g57_ok (M : MM) (x : X57) (h : P58 M x.to) : g57 M x := by
  refine (g57_eq M x).mpr ?_
  have e : (X58.mk x.E x.pre x.w []).fed = feed x.E.go x.pre (pansL x.w) := rfl
  have e2 : (X58.mk x.E x.pre x.w (nilT Int)).fed = feed x.E.go x.pre (pansL x.w) := rfl
  simp only [eq_self, and_true, true_and, and_self, e2]
  exact h
theorem h57 : HeapOK Tryz.prog (c57 (callM Tryz.prog)) :=
  heap_flat (fn := Tryz.f63) (by kernel_rfl) (by kernel_rfl) (by kernel_rfl) (fun _ => ⟨trivial, trivial, trivial⟩) (fun _ => cy (callM Tryz.prog) [HC.ciF (c58 (callM Tryz.prog)) pick58] [])
    (fun _ => cy_ok (cs := [HC.ciF (c58 (callM Tryz.prog)) pick58]) ⟨HeapOK.ciF h58 (fun _ => ⟨trivial, trivial⟩) pick58_ok, trivial⟩ _) (fun x hx => g57_ok _ x hx)
theorem i57_ok : ((c57 (callM Tryz.prog)).ci pick57).OK Tryz.prog := h57.ci (fun _ => ⟨trivial, trivial, trivial⟩) pick57_ok
theorem checkF_most {w : List Int} {m m' : Int} (h : (w.length : Int) ≤ m) (h' : (w.length : Int) ≤ m') : checkF w m = checkF w m' := by
  unfold checkF
  rw [decide_eq_false (show ¬ m < (w.length : Int) by omega), decide_eq_false (show ¬ m' < (w.length : Int) by omega)]
theorem total9 {w : List Int} {s : Int} : totalF w 9 s = 0 ↔ (Wts w ∧ w.length ≤ 9) ∧ 0 ≤ s := by
  by_cases hl : w.length ≤ 9
  · have e : totalF w 9 s = totalF w 12 s := by
      unfold totalF
      rw [decide_eq_true (show (w.length : Int) ≤ 9 by omega), decide_eq_true (show (w.length : Int) ≤ 12 by omega), checkF_most (m := 9) (m' := 12) (by omega) (by omega)]
    rw [e, total_ok]
    exact ⟨fun h => ⟨⟨h.1, hl⟩, h.2⟩, fun h => ⟨h.1.1, h.2⟩⟩
  · constructor
    · intro h
      unfold totalF checkF at h
      rw [decide_eq_false (show ¬ (w.length : Int) ≤ 9 by omega), decide_eq_true (show (9 : Int) < (w.length : Int) by omega)] at h
      simp at h
    · intro h; exact absurd h.1.2 hl
theorem wrap_sub (a b c : Int) : IntKind.i64.wrap (IntKind.i64.wrap (a - b) - IntKind.i64.wrap c) = IntKind.i64.wrap (a - (b + c)) := by
  simp only [IntKind.wrap_i64]
  omega
theorem wrap_zero {s d : Int} (hs : Fits .i64 s) (h1 : -1000000000 ≤ d) (h2 : d ≤ 1000000000) : IntKind.i64.wrap (s - d) = 0 ↔ d = s := by
  unfold Fits at hs
  have e1 : IntKind.i64.min = -9223372036854775808 := by decide
  have e2 : IntKind.i64.max = 9223372036854775807 := by decide
  rw [e1, e2] at hs
  rw [IntKind.wrap_i64]
  omega
theorem wrap_fits {s : Int} (hs : Fits .i64 s) : IntKind.i64.wrap s = s := by
  unfold Fits at hs
  have e1 : IntKind.i64.min = -9223372036854775808 := by decide
  have e2 : IntKind.i64.max = 9223372036854775807 := by decide
  rw [e1, e2] at hs
  rw [IntKind.wrap_i64]
  omega
theorem dotF_small {w l : List Int} (hw : ∀ v ∈ w, 0 ≤ v ∧ v ≤ 100000) (hl : ∀ v ∈ l, v = 1 ∨ v = 0 ∨ v = -1) : ∀ k, k ≤ 12 → k ≤ l.length → k ≤ w.length → -100000 * (k : Int) ≤ dotF w l k ∧ dotF w l k ≤ 100000 * (k : Int)
  | 0, _, _, _ => by simp [dotF]
  | k + 1, h, h1, h2 => by
    have ih := dotF_small hw hl k (by omega) (by omega) (by omega)
    have a := hw _ (getD_mem w 0 (k := k) (by omega))
    have b := hl _ (getD_mem l 0 (k := k) (by omega))
    unfold dotF
    rcases b with b | b | b <;> rw [b] <;> omega
theorem c59_ok (w : List Int) (s : Int) : (inl 65 Tryz.f65 (C59 (callM Tryz.prog) w s)).OK Tryz.prog :=
  inl_ok (cr_ok (cs := [i60 w s, (c57 (callM Tryz.prog)).ci pick57]) ⟨inl_ok (ctxW_ok mixed (chkAll_ok tbl_ok) (cs := []) trivial _) (by kernel_rfl) (by kernel_rfl) (by kernel_rfl), i57_ok, trivial⟩ _ _) (by kernel_rfl) (by kernel_rfl) (by kernel_rfl)
theorem ok25 : p25.OK Tryz.prog := p25.ok (fn := Tryz.f30) (fun p => cx [p55.ci, inl 65 Tryz.f65 (C59 (callM Tryz.prog) p.1 p.2)] []) (fun p => cx_ok (cs := [p55.ci, inl 65 Tryz.f65 (C59 (callM Tryz.prog) p.1 p.2)]) ⟨PC.OK.ci ok55, c59_ok _ _, trivial⟩ _) (by kernel_rfl) (by kernel_rfl) (by kernel_rfl) fun p hp => by
  have key : ∀ (w : List Int) (s : Int), w.length ≤ 1000 → Fits .i64 s → g25 (callM Tryz.prog) w s := fun w s hl hs => by
    refine (g25_eq _ w s).mpr ?_
    simp only [pp1, eq_self, and_true, true_and, and_self, Int.toNat_natCast]
    refine ⟨⟨hl, by decide⟩, fun h => by simp [pansF, h], fun h => ?_⟩
    have h : totalF w 9 s = 0 := Classical.not_not.1 h
    obtain ⟨⟨k, hlen⟩, h0⟩ := total9.1 h
    refine ⟨fun pre x r hr => ?_, fun E hg he hM => ⟨⟨hM, fun r1 y r2 hr => he r1 y r2 hr, by show w.length ≤ 12; omega, by show ([] : List Int).length ≤ _; simp⟩, by rw [hg]⟩, fun hf => ?_, fun hf => ?_⟩
    · have hx : x ∈ panG w.length [] := by
        have : x ∈ pansL w := by rw [hr]; simp
        exact this
      obtain ⟨hxl, _⟩ := panG_mem _ _ _ hx
      have hsg := panG_signs _ _ _ (fun v hv => by simp at hv) hx
      have hxl : x.length = w.length := by simpa using hxl
      refine ⟨⟨0, Nat.zero_le _, rfl, by simp [dotF, wrap_fits hs]⟩, fun j hj => ⟨fun hlt => ?_, fun hge => ?_⟩⟩
      · have hj1 : IntKind.i64.wrap ((j : Int) + 1) = ((j + 1 : Nat) : Int) := by rw [wrap_fits (fi (by omega) (by omega))]; omega
        refine ⟨by omega, fun hne => ⟨by omega, j + 1, by omega, by omega, hj1, ?_⟩, fun hne => ⟨j + 1, by omega, by omega, hj1, ?_⟩⟩
        · rw [wrap_sub]; rfl
        · have hne : x.getD j 0 = 0 := Classical.not_not.1 hne
          have : dotF w x (j + 1) = dotF w x j + x.getD j 0 * w.getD j 0 := rfl
          rw [this, hne]; simp
      · have hj : j = x.length := by omega
        subst hj
        have hd := dotF_small (w := w) (l := x) (fun v hv => ⟨by have := k.lo v hv; omega, k.hi v hv⟩) hsg x.length (by omega) (by omega) (by omega)
        rw [wrap_zero hs (by omega) (by omega)]
        exact ⟨fun hq => ⟨by simp [goN, goodP, hq], by rw [lastP_snoc]⟩, fun hq => by simp [goN, goodP, hq]⟩
    · cases hfi : (pansL w).find? (goodP w s) with
      | none => simp [pansF, h, hfi]
      | some y =>
        obtain ⟨q, h1, _⟩ := feed_some _ hfi []
        rw [h1] at hf; cases hf
    · cases hfi : (pansL w).find? (goodP w s) with
      | none => rw [feed_none _ hfi] at hf; cases hf
      | some y =>
        obtain ⟨q, h1, _⟩ := feed_some _ hfi []
        rw [h1]
        simp only [lastP_snoc]
        simp [pansF, h, hfi]
  exact key p.1 p.2 hp.1 hp.2
end Go.SX.We

/- Chapter 08: clashes in plain words. -/
namespace Go.SX.We
def cmpF : List Int → List Int → Int
  | [], [] => 0
  | [], _ :: _ => -1
  | _ :: _, [] => 1
  | a :: r, b :: s => bif decide (a < b) then -1 else bif decide (b < a) then 1 else cmpF r s
def hasI (y : List Int) (i : Int) : Bool := decide (i ∈ y)
def apartF (x y : List Int) : Bool := decide (cmpF x y < 0) && !(x.any (hasI y))
def tabS : List (Int × List (List Int)) → List (List Int × Int) → List (Int × List (List Int))
  | es, [] => es
  | es, x :: r => tabS (insF es x.2 ((lookF es x.2).getD [] ++ [x.1])) r
theorem tabS_snoc (l : List (List Int × Int)) (x : List Int × Int) : ∀ es, tabS es (l ++ [x]) = insF (tabS es l) x.2 ((lookF (tabS es l) x.2).getD [] ++ [x.1]) := by
  induction l with
  | nil => intro es; rfl
  | cons y r ih => intro es; exact ih _
def withF (w : List Int) (s : Int) : List (List Int) := (lookF (tabS [] (subsF w)) s).getD []
def mateF (w : List Int) (s : List Int × Int) : Option (List Int) := (withF w s.2).find? (apartF s.1)
def goodC (w : List Int) (s : List Int × Int) : Bool := (mateF w s).isSome
def clashF (w : List Int) : List Int × List Int × Int :=
  bif decide (checkF w 12 = 0) then (match (subsF w).find? (goodC w) with
    | none => ([], [], 5)
    | some x => (x.1, (mateF w x).getD [], 0)) else ([], [], checkF w 12)
end Go.SX.We

/- Chapter 08: Clash, what is asked of each. -/
namespace Go.SX.We
open Go Go.Proofs
noncomputable section
def i78 : CI := inl 110 Tryz.f110 (cx [] [])
def i68 : CI := inl 95 Tryz.f95 (cx [i78] [])
@[reducible] def p44 : PC := ⟨53, [aIs, aIs], [aI], fun p => p.1.length ≤ 1000 ∧ p.2.length ≤ 1000, fun p => cmpF p.1 p.2⟩
@[reducible] def C44 (p : List Int × List Int) : Ctx := cx [i68] [(0, fun _ => upTo p.1.length 11 [0, 1, 9, 10] fun k => k ≤ p.2.length ∧ cmpF (p.1.drop k) (p.2.drop k) = cmpF p.1 p.2)]
def g44 (x y : List Int) : Prop := p44.VC (C44 (x, y)) Tryz.f53 (x, y)
@[reducible] def p47 : PC := ⟨56, [aIs, aI], [aB], fun p => p.1.length ≤ 1000, fun p => hasI p.1 p.2⟩
@[reducible] def C47 (p : List Int × Int) : Ctx := cx [inl 97 Tryz.f97 (cx [] [(0, fun _ => upTo p.1.length 8 [0, 1, 6, 7] fun k => ∀ j, j < k → ¬ p.1.getD j 0 = p.2)])] []
def g47 (y : List Int) (i : Int) : Prop := p47.VC (C47 (y, i)) Tryz.f56 (y, i)
@[reducible] def p43 : PC := ⟨52, [aIs, aIs], [aB], fun p => p.1.length ≤ 1000 ∧ p.2.length ≤ 1000, fun p => apartF p.1 p.2⟩
def i46 : CI := inl 55 Tryz.f55 (cx [p47.ci] [])
@[reducible] def i69 (p : List Int × List Int) : CI := inl 96 Tryz.f96 (cx [i46] [(0, fun _ => upTo p.1.length 8 [0, 1, 6, 7] fun k => ∀ j, j < k → hasI p.2 (p.1.getD j 0) = false)])
@[reducible] def C43 (p : List Int × List Int) : Ctx := cx [p44.ci, inl 54 Tryz.f54 (cx [i69 p] [])] []
def g43 (x y : List Int) : Prop := p43.VC (C43 (x, y)) Tryz.f52 (x, y)
abbrev tIss : Ty := .slice (.slice (.int .i64))
@[reducible] def R17 (w : List Int) : RAnn where
  a := true
  T := tSub
  go := goT
  gen := subsF w
  preC := []
  ents pre := [(0, .mtab 22 (.slice (.int .i64)) (tabS [] pre) none)]
  fin _ := []
  ex := .ret
  place := 0
def withP (K : List Int → List (List Int) → Ann) (st : St) : Ann :=
  match findT 0 st.t, findT 1 st.t with
  | .c (.ro (.slice (.int .i64)) l), .c (.fn _ [_, k]) => (match st.h[k]? with
    | some (.blk _ [.ro (.int .i64) x, _]) => K x l
    | _ => noAnn)
  | _, _ => noAnn
def i51 : CI := inl 60 Tryz.f60 (cx [p43.ci] [])
def i50 : CI := inl 59 Tryz.f59 (cx [i51] [(0, withP fun x l => upTo l.length 8 [0, 1, 6, 7] fun k => ∀ j, j < k → apartF x (l.getD j []) = false)])
def i49 : CI := inl 58 Tryz.f58 (cx [i50] [])
@[reducible] def R48c (w : List Int) : RAnn where
  a := true
  T := tSub
  go := goN (goodC w)
  gen := subsF w
  preC := []
  ents _ := [(0, .tab false tIss (tabS [] (subsF w)))]
  fin pre := [(0, .tab false tIss (tabS [] (subsF w))), (4, .blk 22 [.ro (.int .i64) ((mateF w (lastS pre)).getD [])]), (7, .blk 92 [.ro (.int .i64) (lastS pre).1, .int .i64 (lastS pre).2]), (8, .blk 4 [.kb true])]
  ex := .ret
  place := 6
@[reducible] def C48c (M : MM) (w : List Int) : Ctx := cr M [i49, (c66 M).ci pick66] [] [(0, fun _ => R48c w)]
@[reducible] def p17 : PC := ⟨27, [aIs], [aIs, aIs, aI], fun w => w.length ≤ 1000, clashF⟩
@[reducible] def C17 (M : MM) (w : List Int) : Ctx := cr M [p40.ci, i42, (c66 M).ci pick66, inl 57 Tryz.f57 (C48c M w)] [] [(0, fun _ => R17 w)]
def g17 (M : MM) (w : List Int) : Prop := p17.VC (C17 M w) Tryz.f27 w
end
end Go.SX.We

/- Printed by VC.lean: what the executor asks. -/
namespace Go.SX.We
open Go Go.Proofs IntKind List
theorem g44_eq (x : List Int) (y : List Int) : g44 x y = ((∃ (x0 : Nat), (x0 ≤ x.length ∧ x0 ≤ y.length ∧ cmpF (drop x0 x) (drop x0 y) = cmpF x y) ∧ True ∧ 0 = (x0 : Int) ∧ (x.length : Int) = (x.length : Int) ∧ x = x ∧ x = x ∧ y = y ∧ True) ∧ ∀ (x_1 : Nat), x_1 ≤ x.length ∧ x_1 ≤ y.length ∧ cmpF (drop x_1 x) (drop x_1 y) = cmpF x y → ((x_1 : Int) < (x.length : Int) → (x_1 : Int) < (x.length : Int) ∧ (0 ≤ (x_1 : Int) ∧ (x_1 : Int) < (x.length : Int)) ∧ ((y.length : Int) ≤ (x_1 : Int) → (y.length : Int) ≤ (x_1 : Int) ∧ 1 = cmpF x y) ∧ (¬(y.length : Int) ≤ (x_1 : Int) → ¬(y.length : Int) ≤ (x_1 : Int) ∧ (0 ≤ (x_1 : Int) ∧ (x_1 : Int) < (y.length : Int)) ∧ (¬x.getD (x_1 : Int).toNat 0 = x.getD (x_1 : Int).toNat 0 → ¬x.getD (x_1 : Int).toNat 0 = x.getD (x_1 : Int).toNat 0 ∧ ¬y.getD (x_1 : Int).toNat 0 = y.getD (x_1 : Int).toNat 0 ∧ ¬y.getD (x_1 : Int).toNat 0 = y.getD (x_1 : Int).toNat 0 ∧ ¬x.getD (x_1 : Int).toNat 0 = x.getD (x_1 : Int).toNat 0 ∧ ¬x.getD (x_1 : Int).toNat 0 = x.getD (x_1 : Int).toNat 0 ∧ (¬(0 : Int) = 0 → ¬(0 : Int) = 0 ∧ 0 = cmpF x y) ∧ (¬¬(0 : Int) = 0 → ¬¬(0 : Int) = 0 ∧ Fits .i64 ((x_1 : Int) + 1) ∧ ∃ (x' : Nat), (x' ≤ x.length ∧ x' ≤ y.length ∧ cmpF (drop x' x) (drop x' y) = cmpF x y) ∧ x.length - x' < x.length - x_1 ∧ True ∧ (x_1 : Int) + 1 = (x' : Int) ∧ (x.length : Int) = (x.length : Int) ∧ x = x ∧ x = x ∧ y = y ∧ True)) ∧ (¬¬x.getD (x_1 : Int).toNat 0 = x.getD (x_1 : Int).toNat 0 → ¬¬x.getD (x_1 : Int).toNat 0 = x.getD (x_1 : Int).toNat 0 ∧ ¬¬y.getD (x_1 : Int).toNat 0 = y.getD (x_1 : Int).toNat 0 ∧ ¬¬y.getD (x_1 : Int).toNat 0 = y.getD (x_1 : Int).toNat 0 ∧ ¬¬x.getD (x_1 : Int).toNat 0 = x.getD (x_1 : Int).toNat 0 ∧ ¬¬x.getD (x_1 : Int).toNat 0 = x.getD (x_1 : Int).toNat 0 ∧ (x.getD (x_1 : Int).toNat 0 < y.getD (x_1 : Int).toNat 0 → x.getD (x_1 : Int).toNat 0 < y.getD (x_1 : Int).toNat 0 ∧ (¬(-1 : Int) = 0 → ¬(-1 : Int) = 0 ∧ (-1) = cmpF x y) ∧ (¬¬(-1 : Int) = 0 → ¬¬(-1 : Int) = 0 ∧ Fits .i64 ((x_1 : Int) + 1) ∧ ∃ (x' : Nat), (x' ≤ x.length ∧ x' ≤ y.length ∧ cmpF (drop x' x) (drop x' y) = cmpF x y) ∧ x.length - x' < x.length - x_1 ∧ True ∧ (x_1 : Int) + 1 = (x' : Int) ∧ (x.length : Int) = (x.length : Int) ∧ x = x ∧ x = x ∧ y = y ∧ True)) ∧ (¬x.getD (x_1 : Int).toNat 0 < y.getD (x_1 : Int).toNat 0 → ¬x.getD (x_1 : Int).toNat 0 < y.getD (x_1 : Int).toNat 0 ∧ (y.getD (x_1 : Int).toNat 0 < x.getD (x_1 : Int).toNat 0 → y.getD (x_1 : Int).toNat 0 < x.getD (x_1 : Int).toNat 0 ∧ (¬(1 : Int) = 0 → ¬(1 : Int) = 0 ∧ 1 = cmpF x y) ∧ (¬¬(1 : Int) = 0 → ¬¬(1 : Int) = 0 ∧ Fits .i64 ((x_1 : Int) + 1) ∧ ∃ (x' : Nat), (x' ≤ x.length ∧ x' ≤ y.length ∧ cmpF (drop x' x) (drop x' y) = cmpF x y) ∧ x.length - x' < x.length - x_1 ∧ True ∧ (x_1 : Int) + 1 = (x' : Int) ∧ (x.length : Int) = (x.length : Int) ∧ x = x ∧ x = x ∧ y = y ∧ True)) ∧ (¬y.getD (x_1 : Int).toNat 0 < x.getD (x_1 : Int).toNat 0 → ¬y.getD (x_1 : Int).toNat 0 < x.getD (x_1 : Int).toNat 0 ∧ (¬(0 : Int) = 0 → ¬(0 : Int) = 0 ∧ 0 = cmpF x y) ∧ (¬¬(0 : Int) = 0 → ¬¬(0 : Int) = 0 ∧ Fits .i64 ((x_1 : Int) + 1) ∧ ∃ (x' : Nat), (x' ≤ x.length ∧ x' ≤ y.length ∧ cmpF (drop x' x) (drop x' y) = cmpF x y) ∧ x.length - x' < x.length - x_1 ∧ True ∧ (x_1 : Int) + 1 = (x' : Int) ∧ (x.length : Int) = (x.length : Int) ∧ x = x ∧ x = x ∧ y = y ∧ True)))))) ∧ (¬(x_1 : Int) < (x.length : Int) → ¬(x_1 : Int) < (x.length : Int) ∧ ((x.length : Int) < (y.length : Int) → (x.length : Int) < (y.length : Int) ∧ (-1) = cmpF x y) ∧ (¬(x.length : Int) < (y.length : Int) → ¬(x.length : Int) < (y.length : Int) ∧ 0 = cmpF x y))) := by kernel_rfl
theorem g47_eq (y : List Int) (i : Int) : g47 y i = ((∃ (x0 : Nat), (x0 ≤ y.length ∧ ∀ (j : Nat), j < x0 → ¬y.getD j 0 = i) ∧ True ∧ 0 = (x0 : Int) ∧ (y.length : Int) = (y.length : Int) ∧ y = y ∧ y = y ∧ i = i ∧ True) ∧ ∀ (x : Nat), (x ≤ y.length ∧ ∀ (j : Nat), j < x → ¬y.getD j 0 = i) → ((x : Int) < (y.length : Int) → (x : Int) < (y.length : Int) ∧ (0 ≤ (x : Int) ∧ (x : Int) < (y.length : Int)) ∧ (i = y.getD (x : Int).toNat 0 → i = y.getD (x : Int).toNat 0 ∧ decide (0 ≤ (x : Int)) = hasI y i) ∧ (¬i = y.getD (x : Int).toNat 0 → ¬i = y.getD (x : Int).toNat 0 ∧ Fits .i64 ((x : Int) + 1) ∧ ∃ (x' : Nat), (x' ≤ y.length ∧ ∀ (j : Nat), j < x' → ¬y.getD j 0 = i) ∧ y.length - x' < y.length - x ∧ True ∧ (x : Int) + 1 = (x' : Int) ∧ (y.length : Int) = (y.length : Int) ∧ y = y ∧ y = y ∧ i = i ∧ True)) ∧ (¬(x : Int) < (y.length : Int) → ¬(x : Int) < (y.length : Int) ∧ decide ((0 : Int) ≤ -1) = hasI y i)) := by kernel_rfl
theorem g43_eq (x : List Int) (y : List Int) : g43 x y = ((x.length ≤ 1000 ∧ y.length ≤ 1000) ∧ (cmpF x y < 0 → cmpF x y < 0 ∧ cmpF x y < 0 ∧ (∃ (x0 : Nat), (x0 ≤ x.length ∧ ∀ (j : Nat), j < x0 → hasI y (x.getD j 0) = false) ∧ ((y = y ∧ True) ∧ True) ∧ 0 = (x0 : Int) ∧ (x.length : Int) = (x.length : Int) ∧ x = x ∧ x = x ∧ True ∧ True) ∧ ∀ (x_1 : Nat), (x_1 ≤ x.length ∧ ∀ (j : Nat), j < x_1 → hasI y (x.getD j 0) = false) → ((x_1 : Int) < (x.length : Int) → (x_1 : Int) < (x.length : Int) ∧ (0 ≤ (x_1 : Int) ∧ (x_1 : Int) < (x.length : Int)) ∧ y.length ≤ 1000 ∧ (hasI y (x.getD (x_1 : Int).toNat 0) = true → hasI y (x.getD (x_1 : Int).toNat 0) = true ∧ (decide ¬0 ≤ (x_1 : Int)) = apartF x y) ∧ (hasI y (x.getD (x_1 : Int).toNat 0) = false → hasI y (x.getD (x_1 : Int).toNat 0) = false ∧ Fits .i64 ((x_1 : Int) + 1) ∧ ∃ (x' : Nat), (x' ≤ x.length ∧ ∀ (j : Nat), j < x' → hasI y (x.getD j 0) = false) ∧ x.length - x' < x.length - x_1 ∧ ((y = y ∧ True) ∧ True) ∧ (x_1 : Int) + 1 = (x' : Int) ∧ (x.length : Int) = (x.length : Int) ∧ x = x ∧ x = x ∧ True ∧ True)) ∧ (¬(x_1 : Int) < (x.length : Int) → ¬(x_1 : Int) < (x.length : Int) ∧ (decide ¬(0 : Int) ≤ -1) = apartF x y)) ∧ (¬cmpF x y < 0 → ¬cmpF x y < 0 ∧ ¬cmpF x y < 0 ∧ false = apartF x y)) := by kernel_rfl
theorem g17_eq (M : MM) (w : List Int) : g17 M w = ((w.length ≤ 1000 ∧ (12 : Int) ≤ 1000) ∧ (¬checkF w (12 : Int) = 0 → ¬checkF w (12 : Int) = 0 ∧ true = true ∧ (nilT Int, nilT Int, checkF w 12) = clashF w) ∧ (¬¬checkF w (12 : Int) = 0 → ¬¬checkF w (12 : Int) = 0 ∧ True ∧ (some (Ent.blk (22 : Nat) [SC.ro (Ty.int IntKind.i64) w]) = some (Ent.blk (22 : Nat) [SC.ro (Ty.int IntKind.i64) w]) ∧ True) ∧ (Ent.mtab (22 : TypeId) (Ty.int IntKind.i64).slice (tabS (nilT (Int × List (List Int))) (nilT (List Int × Int))) none = Ent.mtab (22 : TypeId) (Ty.int IntKind.i64).slice (nilT (Int × List (List Int))) none ∧ (True ∧ True) ∧ (w = w ∧ True) ∧ True) ∧ (∀ (pre : List (List Int × Int)) (x : List Int × Int) (r : List (List Int × Int)), subsF w = pre ++ x :: r → true = true ∧ (((Small (((lookF (tabS [] pre) x.snd).getD []).length + ((0 : Nat) + 1)) ∧ x.snd = x.snd ∧ (true = true ∧ true = true) ∧ Ent.mtab (22 : TypeId) (Ty.int IntKind.i64).slice (tabS (nilT (Int × List (List Int))) (pre ++ [x])) none = Ent.mtab (22 : TypeId) (Ty.int IntKind.i64).slice (insF (tabS (nilT (Int × List (List Int))) pre) x.snd ((lookF (tabS (nilT (Int × List (List Int))) pre) x.snd).getD (nilT (List Int)) ++ [x.fst])) none ∧ (True ∧ True) ∧ True ∧ True) ∧ Small (((lookF (tabS [] pre) x.snd).getD []).length + ((0 : Nat) + 1)) ∧ x.snd = x.snd ∧ (true = true ∧ true = true) ∧ Ent.mtab (22 : TypeId) (Ty.int IntKind.i64).slice (tabS (nilT (Int × List (List Int))) (pre ++ [x])) none = Ent.mtab (22 : TypeId) (Ty.int IntKind.i64).slice (insF (tabS (nilT (Int × List (List Int))) pre) x.snd ((lookF (tabS (nilT (Int × List (List Int))) pre) x.snd).getD (nilT (List Int)) ++ [x.fst])) none ∧ (True ∧ True) ∧ True ∧ True) ∧ ((Small (((lookF (tabS [] pre) x.snd).getD []).length + ((0 : Nat) + 1)) ∧ x.snd = x.snd ∧ (true = true ∧ true = true) ∧ Ent.mtab (22 : TypeId) (Ty.int IntKind.i64).slice (tabS (nilT (Int × List (List Int))) (pre ++ [x])) none = Ent.mtab (22 : TypeId) (Ty.int IntKind.i64).slice (insF (tabS (nilT (Int × List (List Int))) pre) x.snd ((lookF (tabS (nilT (Int × List (List Int))) pre) x.snd).getD (nilT (List Int)) ++ [x.fst])) none ∧ (True ∧ True) ∧ True ∧ True) ∧ (Small (((lookF (tabS [] pre) x.snd).getD []).length + ((0 : Nat) + 1)) ∧ x.snd = x.snd ∧ (true = true ∧ true = true) ∧ Ent.mtab (22 : TypeId) (Ty.int IntKind.i64).slice (tabS (nilT (Int × List (List Int))) (pre ++ [x])) none = Ent.mtab (22 : TypeId) (Ty.int IntKind.i64).slice (insF (tabS (nilT (Int × List (List Int))) pre) x.snd ((lookF (tabS (nilT (Int × List (List Int))) pre) x.snd).getD (nilT (List Int)) ++ [x.fst])) none ∧ (True ∧ True) ∧ True ∧ True) ∧ Small (((lookF (tabS [] pre) x.snd).getD []).length + ((0 : Nat) + 1)) ∧ x.snd = x.snd ∧ (true = true ∧ true = true) ∧ Ent.mtab (22 : TypeId) (Ty.int IntKind.i64).slice (tabS (nilT (Int × List (List Int))) (pre ++ [x])) none = Ent.mtab (22 : TypeId) (Ty.int IntKind.i64).slice (insF (tabS (nilT (Int × List (List Int))) pre) x.snd ((lookF (tabS (nilT (Int × List (List Int))) pre) x.snd).getD (nilT (List Int)) ++ [x.fst])) none ∧ (True ∧ True) ∧ True ∧ True) ∧ (Small (((lookF (tabS [] pre) x.snd).getD []).length + ((0 : Nat) + 1)) ∧ x.snd = x.snd ∧ (true = true ∧ true = true) ∧ Ent.mtab (22 : TypeId) (Ty.int IntKind.i64).slice (tabS (nilT (Int × List (List Int))) (pre ++ [x])) none = Ent.mtab (22 : TypeId) (Ty.int IntKind.i64).slice (insF (tabS (nilT (Int × List (List Int))) pre) x.snd ((lookF (tabS (nilT (Int × List (List Int))) pre) x.snd).getD (nilT (List Int)) ++ [x.fst])) none ∧ (True ∧ True) ∧ True ∧ True) ∧ (Small (((lookF (tabS [] pre) x.snd).getD []).length + ((0 : Nat) + 1)) ∧ x.snd = x.snd ∧ (true = true ∧ true = true) ∧ Ent.mtab (22 : TypeId) (Ty.int IntKind.i64).slice (tabS (nilT (Int × List (List Int))) (pre ++ [x])) none = Ent.mtab (22 : TypeId) (Ty.int IntKind.i64).slice (insF (tabS (nilT (Int × List (List Int))) pre) x.snd ((lookF (tabS (nilT (Int × List (List Int))) pre) x.snd).getD (nilT (List Int)) ++ [x.fst])) none ∧ (True ∧ True) ∧ True ∧ True) ∧ Small (((lookF (tabS [] pre) x.snd).getD []).length + ((0 : Nat) + 1)) ∧ x.snd = x.snd ∧ (true = true ∧ true = true) ∧ Ent.mtab (22 : TypeId) (Ty.int IntKind.i64).slice (tabS (nilT (Int × List (List Int))) (pre ++ [x])) none = Ent.mtab (22 : TypeId) (Ty.int IntKind.i64).slice (insF (tabS (nilT (Int × List (List Int))) pre) x.snd ((lookF (tabS (nilT (Int × List (List Int))) pre) x.snd).getD (nilT (List Int)) ++ [x.fst])) none ∧ (True ∧ True) ∧ True ∧ True) ∧ (((Small (((lookF (tabS [] pre) x.snd).getD []).length + ((0 : Nat) + 1)) ∧ x.snd = x.snd ∧ (true = true ∧ true = true) ∧ Ent.mtab (22 : TypeId) (Ty.int IntKind.i64).slice (tabS (nilT (Int × List (List Int))) (pre ++ [x])) none = Ent.mtab (22 : TypeId) (Ty.int IntKind.i64).slice (insF (tabS (nilT (Int × List (List Int))) pre) x.snd ((lookF (tabS (nilT (Int × List (List Int))) pre) x.snd).getD (nilT (List Int)) ++ [x.fst])) none ∧ (True ∧ True) ∧ True ∧ True) ∧ Small (((lookF (tabS [] pre) x.snd).getD []).length + ((0 : Nat) + 1)) ∧ x.snd = x.snd ∧ (true = true ∧ true = true) ∧ Ent.mtab (22 : TypeId) (Ty.int IntKind.i64).slice (tabS (nilT (Int × List (List Int))) (pre ++ [x])) none = Ent.mtab (22 : TypeId) (Ty.int IntKind.i64).slice (insF (tabS (nilT (Int × List (List Int))) pre) x.snd ((lookF (tabS (nilT (Int × List (List Int))) pre) x.snd).getD (nilT (List Int)) ++ [x.fst])) none ∧ (True ∧ True) ∧ True ∧ True) ∧ ((Small (((lookF (tabS [] pre) x.snd).getD []).length + ((0 : Nat) + 1)) ∧ x.snd = x.snd ∧ (true = true ∧ true = true) ∧ Ent.mtab (22 : TypeId) (Ty.int IntKind.i64).slice (tabS (nilT (Int × List (List Int))) (pre ++ [x])) none = Ent.mtab (22 : TypeId) (Ty.int IntKind.i64).slice (insF (tabS (nilT (Int × List (List Int))) pre) x.snd ((lookF (tabS (nilT (Int × List (List Int))) pre) x.snd).getD (nilT (List Int)) ++ [x.fst])) none ∧ (True ∧ True) ∧ True ∧ True) ∧ (Small (((lookF (tabS [] pre) x.snd).getD []).length + ((0 : Nat) + 1)) ∧ x.snd = x.snd ∧ (true = true ∧ true = true) ∧ Ent.mtab (22 : TypeId) (Ty.int IntKind.i64).slice (tabS (nilT (Int × List (List Int))) (pre ++ [x])) none = Ent.mtab (22 : TypeId) (Ty.int IntKind.i64).slice (insF (tabS (nilT (Int × List (List Int))) pre) x.snd ((lookF (tabS (nilT (Int × List (List Int))) pre) x.snd).getD (nilT (List Int)) ++ [x.fst])) none ∧ (True ∧ True) ∧ True ∧ True) ∧ Small (((lookF (tabS [] pre) x.snd).getD []).length + ((0 : Nat) + 1)) ∧ x.snd = x.snd ∧ (true = true ∧ true = true) ∧ Ent.mtab (22 : TypeId) (Ty.int IntKind.i64).slice (tabS (nilT (Int × List (List Int))) (pre ++ [x])) none = Ent.mtab (22 : TypeId) (Ty.int IntKind.i64).slice (insF (tabS (nilT (Int × List (List Int))) pre) x.snd ((lookF (tabS (nilT (Int × List (List Int))) pre) x.snd).getD (nilT (List Int)) ++ [x.fst])) none ∧ (True ∧ True) ∧ True ∧ True) ∧ (Small (((lookF (tabS [] pre) x.snd).getD []).length + ((0 : Nat) + 1)) ∧ x.snd = x.snd ∧ (true = true ∧ true = true) ∧ Ent.mtab (22 : TypeId) (Ty.int IntKind.i64).slice (tabS (nilT (Int × List (List Int))) (pre ++ [x])) none = Ent.mtab (22 : TypeId) (Ty.int IntKind.i64).slice (insF (tabS (nilT (Int × List (List Int))) pre) x.snd ((lookF (tabS (nilT (Int × List (List Int))) pre) x.snd).getD (nilT (List Int)) ++ [x.fst])) none ∧ (True ∧ True) ∧ True ∧ True) ∧ (Small (((lookF (tabS [] pre) x.snd).getD []).length + ((0 : Nat) + 1)) ∧ x.snd = x.snd ∧ (true = true ∧ true = true) ∧ Ent.mtab (22 : TypeId) (Ty.int IntKind.i64).slice (tabS (nilT (Int × List (List Int))) (pre ++ [x])) none = Ent.mtab (22 : TypeId) (Ty.int IntKind.i64).slice (insF (tabS (nilT (Int × List (List Int))) pre) x.snd ((lookF (tabS (nilT (Int × List (List Int))) pre) x.snd).getD (nilT (List Int)) ++ [x.fst])) none ∧ (True ∧ True) ∧ True ∧ True) ∧ Small (((lookF (tabS [] pre) x.snd).getD []).length + ((0 : Nat) + 1)) ∧ x.snd = x.snd ∧ (true = true ∧ true = true) ∧ Ent.mtab (22 : TypeId) (Ty.int IntKind.i64).slice (tabS (nilT (Int × List (List Int))) (pre ++ [x])) none = Ent.mtab (22 : TypeId) (Ty.int IntKind.i64).slice (insF (tabS (nilT (Int × List (List Int))) pre) x.snd ((lookF (tabS (nilT (Int × List (List Int))) pre) x.snd).getD (nilT (List Int)) ++ [x.fst])) none ∧ (True ∧ True) ∧ True ∧ True) ∧ (((Small (((lookF (tabS [] pre) x.snd).getD []).length + ((0 : Nat) + 1)) ∧ x.snd = x.snd ∧ (true = true ∧ true = true) ∧ Ent.mtab (22 : TypeId) (Ty.int IntKind.i64).slice (tabS (nilT (Int × List (List Int))) (pre ++ [x])) none = Ent.mtab (22 : TypeId) (Ty.int IntKind.i64).slice (insF (tabS (nilT (Int × List (List Int))) pre) x.snd ((lookF (tabS (nilT (Int × List (List Int))) pre) x.snd).getD (nilT (List Int)) ++ [x.fst])) none ∧ (True ∧ True) ∧ True ∧ True) ∧ (Small (((lookF (tabS [] pre) x.snd).getD []).length + ((0 : Nat) + 1)) ∧ x.snd = x.snd ∧ (true = true ∧ true = true) ∧ Ent.mtab (22 : TypeId) (Ty.int IntKind.i64).slice (tabS (nilT (Int × List (List Int))) (pre ++ [x])) none = Ent.mtab (22 : TypeId) (Ty.int IntKind.i64).slice (insF (tabS (nilT (Int × List (List Int))) pre) x.snd ((lookF (tabS (nilT (Int × List (List Int))) pre) x.snd).getD (nilT (List Int)) ++ [x.fst])) none ∧ (True ∧ True) ∧ True ∧ True) ∧ Small (((lookF (tabS [] pre) x.snd).getD []).length + ((0 : Nat) + 1)) ∧ x.snd = x.snd ∧ (true = true ∧ true = true) ∧ Ent.mtab (22 : TypeId) (Ty.int IntKind.i64).slice (tabS (nilT (Int × List (List Int))) (pre ++ [x])) none = Ent.mtab (22 : TypeId) (Ty.int IntKind.i64).slice (insF (tabS (nilT (Int × List (List Int))) pre) x.snd ((lookF (tabS (nilT (Int × List (List Int))) pre) x.snd).getD (nilT (List Int)) ++ [x.fst])) none ∧ (True ∧ True) ∧ True ∧ True) ∧ ((Small (((lookF (tabS [] pre) x.snd).getD []).length + ((0 : Nat) + 1)) ∧ x.snd = x.snd ∧ (true = true ∧ true = true) ∧ Ent.mtab (22 : TypeId) (Ty.int IntKind.i64).slice (tabS (nilT (Int × List (List Int))) (pre ++ [x])) none = Ent.mtab (22 : TypeId) (Ty.int IntKind.i64).slice (insF (tabS (nilT (Int × List (List Int))) pre) x.snd ((lookF (tabS (nilT (Int × List (List Int))) pre) x.snd).getD (nilT (List Int)) ++ [x.fst])) none ∧ (True ∧ True) ∧ True ∧ True) ∧ (Small (((lookF (tabS [] pre) x.snd).getD []).length + ((0 : Nat) + 1)) ∧ x.snd = x.snd ∧ (true = true ∧ true = true) ∧ Ent.mtab (22 : TypeId) (Ty.int IntKind.i64).slice (tabS (nilT (Int × List (List Int))) (pre ++ [x])) none = Ent.mtab (22 : TypeId) (Ty.int IntKind.i64).slice (insF (tabS (nilT (Int × List (List Int))) pre) x.snd ((lookF (tabS (nilT (Int × List (List Int))) pre) x.snd).getD (nilT (List Int)) ++ [x.fst])) none ∧ (True ∧ True) ∧ True ∧ True) ∧ Small (((lookF (tabS [] pre) x.snd).getD []).length + ((0 : Nat) + 1)) ∧ x.snd = x.snd ∧ (true = true ∧ true = true) ∧ Ent.mtab (22 : TypeId) (Ty.int IntKind.i64).slice (tabS (nilT (Int × List (List Int))) (pre ++ [x])) none = Ent.mtab (22 : TypeId) (Ty.int IntKind.i64).slice (insF (tabS (nilT (Int × List (List Int))) pre) x.snd ((lookF (tabS (nilT (Int × List (List Int))) pre) x.snd).getD (nilT (List Int)) ++ [x.fst])) none ∧ (True ∧ True) ∧ True ∧ True) ∧ ((Small (((lookF (tabS [] pre) x.snd).getD []).length + ((0 : Nat) + 1)) ∧ x.snd = x.snd ∧ (true = true ∧ true = true) ∧ Ent.mtab (22 : TypeId) (Ty.int IntKind.i64).slice (tabS (nilT (Int × List (List Int))) (pre ++ [x])) none = Ent.mtab (22 : TypeId) (Ty.int IntKind.i64).slice (insF (tabS (nilT (Int × List (List Int))) pre) x.snd ((lookF (tabS (nilT (Int × List (List Int))) pre) x.snd).getD (nilT (List Int)) ++ [x.fst])) none ∧ (True ∧ True) ∧ True ∧ True) ∧ Small (((lookF (tabS [] pre) x.snd).getD []).length + ((0 : Nat) + 1)) ∧ x.snd = x.snd ∧ (true = true ∧ true = true) ∧ Ent.mtab (22 : TypeId) (Ty.int IntKind.i64).slice (tabS (nilT (Int × List (List Int))) (pre ++ [x])) none = Ent.mtab (22 : TypeId) (Ty.int IntKind.i64).slice (insF (tabS (nilT (Int × List (List Int))) pre) x.snd ((lookF (tabS (nilT (Int × List (List Int))) pre) x.snd).getD (nilT (List Int)) ++ [x.fst])) none ∧ (True ∧ True) ∧ True ∧ True) ∧ ((Small (((lookF (tabS [] pre) x.snd).getD []).length + ((0 : Nat) + 1)) ∧ x.snd = x.snd ∧ (true = true ∧ true = true) ∧ Ent.mtab (22 : TypeId) (Ty.int IntKind.i64).slice (tabS (nilT (Int × List (List Int))) (pre ++ [x])) none = Ent.mtab (22 : TypeId) (Ty.int IntKind.i64).slice (insF (tabS (nilT (Int × List (List Int))) pre) x.snd ((lookF (tabS (nilT (Int × List (List Int))) pre) x.snd).getD (nilT (List Int)) ++ [x.fst])) none ∧ (True ∧ True) ∧ True ∧ True) ∧ Small (((lookF (tabS [] pre) x.snd).getD []).length + ((0 : Nat) + 1)) ∧ x.snd = x.snd ∧ (true = true ∧ true = true) ∧ Ent.mtab (22 : TypeId) (Ty.int IntKind.i64).slice (tabS (nilT (Int × List (List Int))) (pre ++ [x])) none = Ent.mtab (22 : TypeId) (Ty.int IntKind.i64).slice (insF (tabS (nilT (Int × List (List Int))) pre) x.snd ((lookF (tabS (nilT (Int × List (List Int))) pre) x.snd).getD (nilT (List Int)) ++ [x.fst])) none ∧ (True ∧ True) ∧ True ∧ True) ∧ Small (((lookF (tabS [] pre) x.snd).getD []).length + ((0 : Nat) + 1)) ∧ x.snd = x.snd ∧ (true = true ∧ true = true) ∧ Ent.mtab (22 : TypeId) (Ty.int IntKind.i64).slice (tabS (nilT (Int × List (List Int))) (pre ++ [x])) none = Ent.mtab (22 : TypeId) (Ty.int IntKind.i64).slice (insF (tabS (nilT (Int × List (List Int))) pre) x.snd ((lookF (tabS (nilT (Int × List (List Int))) pre) x.snd).getD (nilT (List Int)) ++ [x.fst])) none ∧ (True ∧ True) ∧ True ∧ True) ∧ ((Small (((lookF (tabS [] pre) x.snd).getD []).length + ((0 : Nat) + 1)) ∧ x.snd = x.snd ∧ (true = true ∧ true = true) ∧ Ent.mtab (22 : TypeId) (Ty.int IntKind.i64).slice (tabS (nilT (Int × List (List Int))) (pre ++ [x])) none = Ent.mtab (22 : TypeId) (Ty.int IntKind.i64).slice (insF (tabS (nilT (Int × List (List Int))) pre) x.snd ((lookF (tabS (nilT (Int × List (List Int))) pre) x.snd).getD (nilT (List Int)) ++ [x.fst])) none ∧ (True ∧ True) ∧ True ∧ True) ∧ (Small (((lookF (tabS [] pre) x.snd).getD []).length + ((0 : Nat) + 1)) ∧ x.snd = x.snd ∧ (true = true ∧ true = true) ∧ Ent.mtab (22 : TypeId) (Ty.int IntKind.i64).slice (tabS (nilT (Int × List (List Int))) (pre ++ [x])) none = Ent.mtab (22 : TypeId) (Ty.int IntKind.i64).slice (insF (tabS (nilT (Int × List (List Int))) pre) x.snd ((lookF (tabS (nilT (Int × List (List Int))) pre) x.snd).getD (nilT (List Int)) ++ [x.fst])) none ∧ (True ∧ True) ∧ True ∧ True) ∧ Small (((lookF (tabS [] pre) x.snd).getD []).length + ((0 : Nat) + 1)) ∧ x.snd = x.snd ∧ (true = true ∧ true = true) ∧ Ent.mtab (22 : TypeId) (Ty.int IntKind.i64).slice (tabS (nilT (Int × List (List Int))) (pre ++ [x])) none = Ent.mtab (22 : TypeId) (Ty.int IntKind.i64).slice (insF (tabS (nilT (Int × List (List Int))) pre) x.snd ((lookF (tabS (nilT (Int × List (List Int))) pre) x.snd).getD (nilT (List Int)) ++ [x.fst])) none ∧ (True ∧ True) ∧ True ∧ True) ∧ ((Small (((lookF (tabS [] pre) x.snd).getD []).length + ((0 : Nat) + 1)) ∧ x.snd = x.snd ∧ (true = true ∧ true = true) ∧ Ent.mtab (22 : TypeId) (Ty.int IntKind.i64).slice (tabS (nilT (Int × List (List Int))) (pre ++ [x])) none = Ent.mtab (22 : TypeId) (Ty.int IntKind.i64).slice (insF (tabS (nilT (Int × List (List Int))) pre) x.snd ((lookF (tabS (nilT (Int × List (List Int))) pre) x.snd).getD (nilT (List Int)) ++ [x.fst])) none ∧ (True ∧ True) ∧ True ∧ True) ∧ (Small (((lookF (tabS [] pre) x.snd).getD []).length + ((0 : Nat) + 1)) ∧ x.snd = x.snd ∧ (true = true ∧ true = true) ∧ Ent.mtab (22 : TypeId) (Ty.int IntKind.i64).slice (tabS (nilT (Int × List (List Int))) (pre ++ [x])) none = Ent.mtab (22 : TypeId) (Ty.int IntKind.i64).slice (insF (tabS (nilT (Int × List (List Int))) pre) x.snd ((lookF (tabS (nilT (Int × List (List Int))) pre) x.snd).getD (nilT (List Int)) ++ [x.fst])) none ∧ (True ∧ True) ∧ True ∧ True) ∧ Small (((lookF (tabS [] pre) x.snd).getD []).length + ((0 : Nat) + 1)) ∧ x.snd = x.snd ∧ (true = true ∧ true = true) ∧ Ent.mtab (22 : TypeId) (Ty.int IntKind.i64).slice (tabS (nilT (Int × List (List Int))) (pre ++ [x])) none = Ent.mtab (22 : TypeId) (Ty.int IntKind.i64).slice (insF (tabS (nilT (Int × List (List Int))) pre) x.snd ((lookF (tabS (nilT (Int × List (List Int))) pre) x.snd).getD (nilT (List Int)) ++ [x.fst])) none ∧ (True ∧ True) ∧ True ∧ True) ∧ ((Small (((lookF (tabS [] pre) x.snd).getD []).length + ((0 : Nat) + 1)) ∧ x.snd = x.snd ∧ (true = true ∧ true = true) ∧ Ent.mtab (22 : TypeId) (Ty.int IntKind.i64).slice (tabS (nilT (Int × List (List Int))) (pre ++ [x])) none = Ent.mtab (22 : TypeId) (Ty.int IntKind.i64).slice (insF (tabS (nilT (Int × List (List Int))) pre) x.snd ((lookF (tabS (nilT (Int × List (List Int))) pre) x.snd).getD (nilT (List Int)) ++ [x.fst])) none ∧ (True ∧ True) ∧ True ∧ True) ∧ Small (((lookF (tabS [] pre) x.snd).getD []).length + ((0 : Nat) + 1)) ∧ x.snd = x.snd ∧ (true = true ∧ true = true) ∧ Ent.mtab (22 : TypeId) (Ty.int IntKind.i64).slice (tabS (nilT (Int × List (List Int))) (pre ++ [x])) none = Ent.mtab (22 : TypeId) (Ty.int IntKind.i64).slice (insF (tabS (nilT (Int × List (List Int))) pre) x.snd ((lookF (tabS (nilT (Int × List (List Int))) pre) x.snd).getD (nilT (List Int)) ++ [x.fst])) none ∧ (True ∧ True) ∧ True ∧ True) ∧ ((Small (((lookF (tabS [] pre) x.snd).getD []).length + ((0 : Nat) + 1)) ∧ x.snd = x.snd ∧ (true = true ∧ true = true) ∧ Ent.mtab (22 : TypeId) (Ty.int IntKind.i64).slice (tabS (nilT (Int × List (List Int))) (pre ++ [x])) none = Ent.mtab (22 : TypeId) (Ty.int IntKind.i64).slice (insF (tabS (nilT (Int × List (List Int))) pre) x.snd ((lookF (tabS (nilT (Int × List (List Int))) pre) x.snd).getD (nilT (List Int)) ++ [x.fst])) none ∧ (True ∧ True) ∧ True ∧ True) ∧ Small (((lookF (tabS [] pre) x.snd).getD []).length + ((0 : Nat) + 1)) ∧ x.snd = x.snd ∧ (true = true ∧ true = true) ∧ Ent.mtab (22 : TypeId) (Ty.int IntKind.i64).slice (tabS (nilT (Int × List (List Int))) (pre ++ [x])) none = Ent.mtab (22 : TypeId) (Ty.int IntKind.i64).slice (insF (tabS (nilT (Int × List (List Int))) pre) x.snd ((lookF (tabS (nilT (Int × List (List Int))) pre) x.snd).getD (nilT (List Int)) ++ [x.fst])) none ∧ (True ∧ True) ∧ True ∧ True) ∧ Small (((lookF (tabS [] pre) x.snd).getD []).length + ((0 : Nat) + 1)) ∧ x.snd = x.snd ∧ (true = true ∧ true = true) ∧ Ent.mtab (22 : TypeId) (Ty.int IntKind.i64).slice (tabS (nilT (Int × List (List Int))) (pre ++ [x])) none = Ent.mtab (22 : TypeId) (Ty.int IntKind.i64).slice (insF (tabS (nilT (Int × List (List Int))) pre) x.snd ((lookF (tabS (nilT (Int × List (List Int))) pre) x.snd).getD (nilT (List Int)) ++ [x.fst])) none ∧ (True ∧ True) ∧ True ∧ True) ∧ (∀ (E : Ext true tSub), E.go = goT → (∀ (pre : List (List Int × Int)) (x : List Int × Int) (r : List (List Int × Int)), subsF w = pre ++ x :: r → E.may pre x) → M true tSub E → True ∧ ((w = w ∧ True) ∧ Ent.ext true tSub E true (nilT (List Int × Int)) = Ent.ext true tSub E true (nilT (List Int × Int)) ∧ True) ∧ (E.yv = E.yv ∧ True ∧ True) ∧ P67 M (X66.mk E [] w).to ∧ (3 : Nat) = (3 : Nat) ∧ some (Ent.ext true tSub E (feed E.go (nilT (List Int × Int)) (subsF w)).fst (feed E.go (nilT (List Int × Int)) (subsF w)).snd) = some (Ent.ext true tSub E (feed goT (nilT (List Int × Int)) (subsF w)).fst (feed goT (nilT (List Int × Int)) (subsF w)).snd) ∧ some (Ent.blk (22 : TypeId) [SC.ro (Ty.int IntKind.i64) w]) = some (Ent.blk (22 : Nat) [SC.ro (Ty.int IntKind.i64) w]) ∧ True) ∧ ((feed goT (nilT (List Int × Int)) (subsF w)).fst = true → True ∧ (some (Ent.blk (22 : Nat) [SC.ro (Ty.int IntKind.i64) w]) = some (Ent.blk (22 : Nat) [SC.ro (Ty.int IntKind.i64) w]) ∧ True) ∧ (tabS (nilT (Int × List (List Int))) (subsF w) = tabS (nilT (Int × List (List Int))) (feed goT (nilT (List Int × Int)) (subsF w)).snd ∧ (True ∧ True) ∧ (w = w ∧ True) ∧ (True ∧ True) ∧ (Value.slice none (0 : Nat) (0 : Nat) = Value.slice none (0 : Nat) (0 : Nat) ∧ True) ∧ (w = w ∧ True) ∧ (True ∧ True) ∧ (Value.slice none (0 : Nat) (0 : Nat) = Value.slice none (0 : Nat) (0 : Nat) ∧ (0 : Int) = 0 ∧ True) ∧ (True ∧ True) ∧ True) ∧ (∀ (pre : List (List Int × Int)) (x : List Int × Int) (r : List (List Int × Int)), subsF w = pre ++ x :: r → true = true ∧ (∃ (x0 : Nat), (x0 ≤ ((lookF (tabS [] (subsF w)) x.snd).getD []).length ∧ ∀ (j : Nat), j < x0 → apartF x.fst (((lookF (tabS (nilT (Int × List (List Int))) (subsF w)) x.snd).getD (nilT (List Int))).getD j (nilT Int)) = false) ∧ (tabS (nilT (Int × List (List Int))) (subsF w) = tabS (nilT (Int × List (List Int))) (subsF w) ∧ (True ∧ True) ∧ (w = w ∧ True) ∧ (True ∧ True) ∧ (Value.slice none (0 : Nat) (0 : Nat) = Value.slice none (0 : Nat) (0 : Nat) ∧ True) ∧ True ∧ (True ∧ True) ∧ (Value.slice none (0 : Nat) (0 : Nat) = Value.slice none (0 : Nat) (0 : Nat) ∧ (0 : Int) = 0 ∧ True) ∧ (True ∧ True) ∧ (x.fst = x.fst ∧ x.snd = x.snd ∧ True) ∧ (x.fst = x.fst ∧ x.snd = x.snd ∧ True) ∧ True) ∧ 0 = (x0 : Int) ∧ (↑((lookF (tabS (nilT (Int × List (List Int))) (subsF w)) x.snd).getD (nilT (List Int))).length : Int) = (↑((lookF (tabS (nilT (Int × List (List Int))) (subsF w)) x.snd).getD (nilT (List Int))).length : Int) ∧ (lookF (tabS (nilT (Int × List (List Int))) (subsF w)) x.snd).getD (nilT (List Int)) = (lookF (tabS (nilT (Int × List (List Int))) (subsF w)) x.snd).getD (nilT (List Int)) ∧ (lookF (tabS (nilT (Int × List (List Int))) (subsF w)) x.snd).getD (nilT (List Int)) = (lookF (tabS (nilT (Int × List (List Int))) (subsF w)) x.snd).getD (nilT (List Int)) ∧ True ∧ True) ∧ ∀ (x_1 : Nat), (x_1 ≤ ((lookF (tabS [] (subsF w)) x.snd).getD []).length ∧ ∀ (j : Nat), j < x_1 → apartF x.fst (((lookF (tabS (nilT (Int × List (List Int))) (subsF w)) x.snd).getD (nilT (List Int))).getD j (nilT Int)) = false) → ((x_1 : Int) < (↑((lookF (tabS [] (subsF w)) x.snd).getD []).length : Int) → (x_1 : Int) < (↑((lookF (tabS [] (subsF w)) x.snd).getD []).length : Int) ∧ (0 ≤ (x_1 : Int) ∧ (x_1 : Int) < (↑((lookF (tabS [] (subsF w)) x.snd).getD []).length : Int)) ∧ (x.fst.length ≤ 1000 ∧ (((lookF (tabS [] (subsF w)) x.snd).getD []).getD (x_1 : Int).toNat []).length ≤ 1000) ∧ (apartF x.fst (((lookF (tabS (nilT (Int × List (List Int))) (subsF w)) x.snd).getD (nilT (List Int))).getD (x_1 : Int).toNat (nilT Int)) = true → apartF x.fst (((lookF (tabS (nilT (Int × List (List Int))) (subsF w)) x.snd).getD (nilT (List Int))).getD (x_1 : Int).toNat (nilT Int)) = true ∧ (0 ≤ (x_1 : Int) → 0 ≤ (x_1 : Int) ∧ (0 ≤ (x_1 : Int) ∧ (x_1 : Int) < (↑((lookF (tabS [] (subsF w)) x.snd).getD []).length : Int)) ∧ (0 ≤ (x_1 : Int) → 0 ≤ (x_1 : Int) ∧ (Ex.ret = Ex.ret ∧ goN (goodC w) pre x = false ∧ true = true) ∧ tabS (nilT (Int × List (List Int))) (subsF w) = tabS (nilT (Int × List (List Int))) (subsF w) ∧ (True ∧ True) ∧ (w = w ∧ True) ∧ (True ∧ True) ∧ (((lookF (tabS (nilT (Int × List (List Int))) (subsF w)) x.snd).getD (nilT (List Int))).getD (x_1 : Int).toNat (nilT Int) = (mateF w (lastS (pre ++ [x]))).getD (nilT Int) ∧ True) ∧ True ∧ (True ∧ True) ∧ (x.fst = (lastS (pre ++ [x])).fst ∧ x.snd = (lastS (pre ++ [x])).snd ∧ True) ∧ (True ∧ True) ∧ True) ∧ (¬0 ≤ (x_1 : Int) → ¬0 ≤ (x_1 : Int) ∧ (goN (goodC w) pre x = true ∧ true = true) ∧ tabS (nilT (Int × List (List Int))) (subsF w) = tabS (nilT (Int × List (List Int))) (subsF w) ∧ (True ∧ True) ∧ (w = w ∧ True) ∧ (True ∧ True) ∧ (False ∧ True) ∧ True ∧ (True ∧ True) ∧ (Value.slice none (0 : Nat) (0 : Nat) = Value.slice none (0 : Nat) (0 : Nat) ∧ (0 : Int) = 0 ∧ True) ∧ (True ∧ True) ∧ True)) ∧ (¬0 ≤ (x_1 : Int) → ¬0 ≤ (x_1 : Int) ∧ (0 ≤ (x_1 : Int) → 0 ≤ (x_1 : Int) ∧ (Ex.ret = Ex.ret ∧ goN (goodC w) pre x = false ∧ true = true) ∧ tabS (nilT (Int × List (List Int))) (subsF w) = tabS (nilT (Int × List (List Int))) (subsF w) ∧ (True ∧ True) ∧ (w = w ∧ True) ∧ (True ∧ True) ∧ ((mateF w (lastS (pre ++ [x]))).getD (nilT Int) = nilT Int ∧ True) ∧ True ∧ (True ∧ True) ∧ (x.fst = (lastS (pre ++ [x])).fst ∧ x.snd = (lastS (pre ++ [x])).snd ∧ True) ∧ (True ∧ True) ∧ True) ∧ (¬0 ≤ (x_1 : Int) → ¬0 ≤ (x_1 : Int) ∧ (goN (goodC w) pre x = true ∧ true = true) ∧ tabS (nilT (Int × List (List Int))) (subsF w) = tabS (nilT (Int × List (List Int))) (subsF w) ∧ (True ∧ True) ∧ (w = w ∧ True) ∧ (True ∧ True) ∧ (Value.slice none (0 : Nat) (0 : Nat) = Value.slice none (0 : Nat) (0 : Nat) ∧ True) ∧ True ∧ (True ∧ True) ∧ (Value.slice none (0 : Nat) (0 : Nat) = Value.slice none (0 : Nat) (0 : Nat) ∧ (0 : Int) = 0 ∧ True) ∧ (True ∧ True) ∧ True))) ∧ (apartF x.fst (((lookF (tabS (nilT (Int × List (List Int))) (subsF w)) x.snd).getD (nilT (List Int))).getD (x_1 : Int).toNat (nilT Int)) = false → apartF x.fst (((lookF (tabS (nilT (Int × List (List Int))) (subsF w)) x.snd).getD (nilT (List Int))).getD (x_1 : Int).toNat (nilT Int)) = false ∧ Fits .i64 ((x_1 : Int) + 1) ∧ ∃ (x' : Nat), (x' ≤ ((lookF (tabS [] (subsF w)) x.snd).getD []).length ∧ ∀ (j : Nat), j < x' → apartF x.fst (((lookF (tabS (nilT (Int × List (List Int))) (subsF w)) x.snd).getD (nilT (List Int))).getD j (nilT Int)) = false) ∧ ((lookF (tabS [] (subsF w)) x.snd).getD []).length - x' < ((lookF (tabS [] (subsF w)) x.snd).getD []).length - x_1 ∧ (tabS (nilT (Int × List (List Int))) (subsF w) = tabS (nilT (Int × List (List Int))) (subsF w) ∧ (True ∧ True) ∧ (w = w ∧ True) ∧ (True ∧ True) ∧ (Value.slice none (0 : Nat) (0 : Nat) = Value.slice none (0 : Nat) (0 : Nat) ∧ True) ∧ True ∧ (True ∧ True) ∧ (Value.slice none (0 : Nat) (0 : Nat) = Value.slice none (0 : Nat) (0 : Nat) ∧ (0 : Int) = 0 ∧ True) ∧ (True ∧ True) ∧ (x.fst = x.fst ∧ x.snd = x.snd ∧ True) ∧ (x.fst = x.fst ∧ x.snd = x.snd ∧ True) ∧ True) ∧ (x_1 : Int) + 1 = (x' : Int) ∧ (↑((lookF (tabS (nilT (Int × List (List Int))) (subsF w)) x.snd).getD (nilT (List Int))).length : Int) = (↑((lookF (tabS (nilT (Int × List (List Int))) (subsF w)) x.snd).getD (nilT (List Int))).length : Int) ∧ (lookF (tabS (nilT (Int × List (List Int))) (subsF w)) x.snd).getD (nilT (List Int)) = (lookF (tabS (nilT (Int × List (List Int))) (subsF w)) x.snd).getD (nilT (List Int)) ∧ (lookF (tabS (nilT (Int × List (List Int))) (subsF w)) x.snd).getD (nilT (List Int)) = (lookF (tabS (nilT (Int × List (List Int))) (subsF w)) x.snd).getD (nilT (List Int)) ∧ True ∧ True)) ∧ (¬(x_1 : Int) < (↑((lookF (tabS [] (subsF w)) x.snd).getD []).length : Int) → ¬(x_1 : Int) < (↑((lookF (tabS [] (subsF w)) x.snd).getD []).length : Int) ∧ ((0 : Int) ≤ -1 → (0 : Int) ≤ -1 ∧ ((0 : Int) ≤ -1 ∧ (-1) < (↑((lookF (tabS [] (subsF w)) x.snd).getD []).length : Int)) ∧ ((0 : Int) ≤ -1 → (0 : Int) ≤ -1 ∧ (Ex.ret = Ex.ret ∧ goN (goodC w) pre x = false ∧ true = true) ∧ tabS (nilT (Int × List (List Int))) (subsF w) = tabS (nilT (Int × List (List Int))) (subsF w) ∧ (True ∧ True) ∧ (w = w ∧ True) ∧ (True ∧ True) ∧ (((lookF (tabS (nilT (Int × List (List Int))) (subsF w)) x.snd).getD (nilT (List Int))).getD (-1).toNat (nilT Int) = (mateF w (lastS (pre ++ [x]))).getD (nilT Int) ∧ True) ∧ True ∧ (True ∧ True) ∧ (x.fst = (lastS (pre ++ [x])).fst ∧ x.snd = (lastS (pre ++ [x])).snd ∧ True) ∧ (True ∧ True) ∧ True) ∧ (¬(0 : Int) ≤ -1 → ¬(0 : Int) ≤ -1 ∧ (goN (goodC w) pre x = true ∧ true = true) ∧ tabS (nilT (Int × List (List Int))) (subsF w) = tabS (nilT (Int × List (List Int))) (subsF w) ∧ (True ∧ True) ∧ (w = w ∧ True) ∧ (True ∧ True) ∧ (False ∧ True) ∧ True ∧ (True ∧ True) ∧ (Value.slice none (0 : Nat) (0 : Nat) = Value.slice none (0 : Nat) (0 : Nat) ∧ (0 : Int) = 0 ∧ True) ∧ (True ∧ True) ∧ True)) ∧ (¬(0 : Int) ≤ -1 → ¬(0 : Int) ≤ -1 ∧ ((0 : Int) ≤ -1 → (0 : Int) ≤ -1 ∧ (Ex.ret = Ex.ret ∧ goN (goodC w) pre x = false ∧ true = true) ∧ tabS (nilT (Int × List (List Int))) (subsF w) = tabS (nilT (Int × List (List Int))) (subsF w) ∧ (True ∧ True) ∧ (w = w ∧ True) ∧ (True ∧ True) ∧ ((mateF w (lastS (pre ++ [x]))).getD (nilT Int) = nilT Int ∧ True) ∧ True ∧ (True ∧ True) ∧ (x.fst = (lastS (pre ++ [x])).fst ∧ x.snd = (lastS (pre ++ [x])).snd ∧ True) ∧ (True ∧ True) ∧ True) ∧ (¬(0 : Int) ≤ -1 → ¬(0 : Int) ≤ -1 ∧ (goN (goodC w) pre x = true ∧ true = true) ∧ tabS (nilT (Int × List (List Int))) (subsF w) = tabS (nilT (Int × List (List Int))) (subsF w) ∧ (True ∧ True) ∧ (w = w ∧ True) ∧ (True ∧ True) ∧ (Value.slice none (0 : Nat) (0 : Nat) = Value.slice none (0 : Nat) (0 : Nat) ∧ True) ∧ True ∧ (True ∧ True) ∧ (Value.slice none (0 : Nat) (0 : Nat) = Value.slice none (0 : Nat) (0 : Nat) ∧ (0 : Int) = 0 ∧ True) ∧ (True ∧ True) ∧ True)))) ∧ (∀ (E : Ext true tSub), E.go = goN (goodC w) → (∀ (pre : List (List Int × Int)) (x : List Int × Int) (r : List (List Int × Int)), subsF w = pre ++ x :: r → E.may pre x) → M true tSub E → True ∧ ((w = w ∧ True) ∧ Ent.ext true tSub E true (nilT (List Int × Int)) = Ent.ext true tSub E true (nilT (List Int × Int)) ∧ True) ∧ (E.yv = E.yv ∧ True ∧ True) ∧ P67 M (X66.mk E [] w).to ∧ (9 : Nat) = (9 : Nat) ∧ some (Ent.ext true tSub E (feed E.go (nilT (List Int × Int)) (subsF w)).fst (feed E.go (nilT (List Int × Int)) (subsF w)).snd) = some (Ent.ext true tSub E (feed (goN (goodC w)) (nilT (List Int × Int)) (subsF w)).fst (feed (goN (goodC w)) (nilT (List Int × Int)) (subsF w)).snd) ∧ some (Ent.blk (22 : TypeId) [SC.ro (Ty.int IntKind.i64) w]) = some (Ent.blk (22 : Nat) [SC.ro (Ty.int IntKind.i64) w]) ∧ True) ∧ ((feed (goN (goodC w)) (nilT (List Int × Int)) (subsF w)).fst = true → true = true ∧ true = true ∧ (nilT Int, nilT Int, (5 : Int)) = clashF w) ∧ ((feed (goN (goodC w)) (nilT (List Int × Int)) (subsF w)).fst = false → true = true ∧ true = true ∧ ((lastS (feed (goN (goodC w)) (nilT (List Int × Int)) (subsF w)).snd).fst, (mateF w (lastS (feed (goN (goodC w)) (nilT (List Int × Int)) (subsF w)).snd)).getD (nilT Int), (0 : Int)) = clashF w)) ∧ ((feed goT (nilT (List Int × Int)) (subsF w)).fst = false → true = true ∧ (nilT Int, nilT Int, (0 : Int)) = clashF w))) := by kernel_rfl
end Go.SX.We

/- Chapter 08: what the subsets are. -/
namespace Go.SX.We
def tlF (N : Nat) : Nat → List (List Int)
  | 0 => []
  | n + 1 => (([] :: tlF N n).map fun t => ((N - (n + 1) : Nat) : Int) :: t) ++ tlF N n
def lists (N : Nat) : List (List Int) := [] :: tlF N N
def sumAt (w : List Int) : List Int → Int
  | [] => 0
  | i :: t => w.getD i.toNat 0 + sumAt w t
theorem restF_eq (w : List Int) : ∀ (n : Nat) (l : List Int) (s : Int), restF w n l s = (tlF w.length n).map fun t => (l ++ t, s + sumAt w t)
  | 0, _, _ => rfl
  | n + 1, l, s => by
    have e1 := restF_eq w n (l ++ [((w.length - (n + 1) : Nat) : Int)]) (s + w.getD (w.length - (n + 1)) 0)
    have e2 := restF_eq w n l s
    rw [restF, e1, e2, tlF, List.map_append, List.map_map]
    congr 1
    simp [sumAt, Int.add_assoc, Function.comp_def]
theorem subsF_eq (w : List Int) : subsF w = (lists w.length).map fun t => (t, sumAt w t) := by
  unfold subsF genF lists
  rw [restF_eq]
  simp [sumAt]
def Ris (a N : Nat) : List Int → Prop
  | [] => True
  | i :: t => (a : Int) ≤ i ∧ i < (N : Int) ∧ Ris (i.toNat + 1) N t
theorem Ris.mono {N : Nat} : {t : List Int} → {a b : Nat} → a ≤ b → Ris b N t → Ris a N t
  | [], _, _, _, _ => trivial
  | _ :: _, _, _, h, ⟨h1, h2, h3⟩ => ⟨by omega, h2, h3⟩
theorem mem_tlF {N : Nat} : {n : Nat} → n ≤ N → {t : List Int} → (t ∈ tlF N n ↔ t ≠ [] ∧ Ris (N - n) N t)
  | 0, _, t => by
    constructor
    · intro h; simp [tlF] at h
    · rintro ⟨h1, h2⟩
      cases t with
      | nil => exact absurd rfl h1
      | cons i t => obtain ⟨q1, q2, _⟩ := h2; omega
  | n + 1, hn, t => by
    have ih := fun t => mem_tlF (N := N) (n := n) (by omega) (t := t)
    unfold tlF
    rw [List.mem_append, List.mem_map, ih]
    constructor
    · rintro (⟨u, hu, rfl⟩ | ⟨h1, h2⟩)
      · refine ⟨by simp, by omega, by omega, ?_⟩
        have e : (((N - (n + 1) : Nat) : Int).toNat + 1) = N - n := by omega
        rw [e]
        rcases List.mem_cons.1 hu with rfl | hu
        · trivial
        · exact ((ih u).1 hu).2
      · exact ⟨h1, h2.mono (by omega)⟩
    · rintro ⟨h1, h2⟩
      cases t with
      | nil => exact absurd rfl h1
      | cons i u =>
        obtain ⟨q1, q2, q3⟩ := h2
        by_cases hi : i = ((N - (n + 1) : Nat) : Int)
        · left
          subst hi
          refine ⟨u, ?_, rfl⟩
          have e : (((N - (n + 1) : Nat) : Int).toNat + 1) = N - n := by omega
          rw [e] at q3
          cases u with
          | nil => exact List.mem_cons_self ..
          | cons j u => exact List.mem_cons_of_mem _ ((ih _).2 ⟨by simp, q3⟩)
        · right
          exact ⟨by simp, by omega, q2, q3⟩
theorem mem_lists {N : Nat} {t : List Int} : t ∈ lists N ↔ Ris 0 N t := by
  unfold lists
  rw [List.mem_cons, mem_tlF (Nat.le_refl N), Nat.sub_self]
  constructor
  · rintro (rfl | h)
    · trivial
    · exact h.2
  · intro h
    cases t with
    | nil => exact .inl rfl
    | cons i t => exact .inr ⟨by simp, h⟩
theorem Ris.length {N : Nat} : {t : List Int} → {a : Nat} → Ris a N t → t ≠ [] → a + t.length ≤ N
  | [], _, _, h => absurd rfl h
  | i :: t, a, ⟨h1, h2, h3⟩, _ => by
    cases t with
    | nil => simp; omega
    | cons j t =>
      have := Ris.length h3 (by simp)
      simp at this ⊢
      omega
theorem Ris.short {N : Nat} {t : List Int} (h : Ris 0 N t) : t.length ≤ N := by
  cases t with
  | nil => simp
  | cons i t => have := h.length (by simp); omega
theorem mem_subsF {w : List Int} {x : List Int × Int} : x ∈ subsF w ↔ Ris 0 w.length x.1 ∧ x.2 = sumAt w x.1 := by
  rw [subsF_eq, List.mem_map]
  constructor
  · rintro ⟨t, h, rfl⟩
    exact ⟨mem_lists.1 h, rfl⟩
  · rintro ⟨h1, h2⟩
    exact ⟨x.1, mem_lists.2 h1, by rw [← h2]⟩
def bySum (l : List (List Int × Int)) (s : Int) : List (List Int) := (l.filter (hasSum s)).map Prod.fst
theorem lookF_insF {α : Type} (k s : Int) (v : α) : ∀ es : List (Int × α), lookF (insF es k v) s = if k = s then some v else lookF es s
  | [] => by unfold insF lookF; by_cases h : k = s <;> simp [h, lookF]
  | (j, y) :: r => by
    unfold insF
    by_cases hj : j = k
    · subst hj
      rw [if_pos rfl]
      unfold lookF
      by_cases h : j = s <;> simp [h]
    · rw [if_neg hj]
      unfold lookF
      by_cases h : j = s
      · subst h; rw [if_pos rfl, if_pos rfl, if_neg fun e => hj e.symm]
      · rw [if_neg h, if_neg h, lookF_insF k s v r]
theorem look_tabS (s : Int) : ∀ (l : List (List Int × Int)) (es : List (Int × List (List Int))), (lookF (tabS es l) s).getD [] = (lookF es s).getD [] ++ bySum l s
  | [], es => by simp [tabS, bySum]
  | x :: r, es => by
    rw [tabS, look_tabS s r, lookF_insF]
    unfold bySum hasSum
    by_cases h : x.2 = s
    · subst h; simp
    · simp [h]
theorem look_tab (l : List (List Int × Int)) (s : Int) : (lookF (tabS [] l) s).getD [] = bySum l s := by rw [look_tabS]; rfl
theorem withF_eq (w : List Int) (s : Int) : withF w s = bySum (subsF w) s := look_tab _ _
theorem bySum_length (l : List (List Int × Int)) (s : Int) : (bySum l s).length ≤ l.length := by
  unfold bySum; rw [List.length_map]; exact List.length_filter_le _ _
theorem mem_bySum {l : List (List Int × Int)} {s : Int} {t : List Int} : t ∈ bySum l s ↔ (t, s) ∈ l := by
  unfold bySum hasSum
  rw [List.mem_map]
  constructor
  · rintro ⟨x, hx, rfl⟩
    rw [List.mem_filter] at hx
    have := of_decide_eq_true hx.2
    rw [← this]; exact hx.1
  · intro h
    exact ⟨(t, s), by rw [List.mem_filter]; exact ⟨h, by simp⟩, rfl⟩
end Go.SX.We

/- Chapter 08: Clash, proved. -/
namespace Go.SX.We
open Go Go.Proofs
theorem drop_getD {α : Type} (l : List α) (d : α) {k : Nat} (h : k < l.length) : l.drop k = l.getD k d :: l.drop (k + 1) := by
  rw [List.drop_eq_getElem_cons h]; simp [List.getD, List.getElem?_eq_getElem h]
theorem i78_ok : i78.OK Tryz.prog := inl_ok cx0' (by kernel_rfl) (by kernel_rfl) (by kernel_rfl)
theorem i68_ok : i68.OK Tryz.prog := inl_ok (cx_ok (cs := [i78]) ⟨i78_ok, trivial⟩ _) (by kernel_rfl) (by kernel_rfl) (by kernel_rfl)
theorem ok44 : p44.OK Tryz.prog := p44.ok (fn := Tryz.f53) C44 (fun _ => cx_ok (cs := [i68]) ⟨i68_ok, trivial⟩ _) (by kernel_rfl) (by kernel_rfl) (by kernel_rfl) fun p hp => by
  have key : ∀ x y : List Int, x.length ≤ 1000 → y.length ≤ 1000 → g44 x y := fun x y hx hy => by
    refine (g44_eq x y).mpr ?_
    have n2 : (-1 : Int) = 0 ↔ False := by decide
    have n3 : (1 : Int) = 0 ↔ False := by decide
    simp only [pp1, eq_self, and_true, true_and, and_self, Int.toNat_natCast, not_true_eq_false, not_false_eq_true, false_implies, forall_const, n2, n3]
    refine ⟨⟨0, by simp⟩, fun k ⟨h1, h2, h3⟩ => ⟨fun h => ⟨by omega, fun h4 => ?_, fun h4 => ⟨by omega, fun h5 => ?_, fun h5 => ⟨fun h6 => ?_, fun h6 => ?_⟩⟩⟩, fun h => ⟨fun h4 => ?_, fun h4 => ?_⟩⟩⟩
    · have e : y.drop k = [] := List.drop_of_length_le (by omega)
      rw [← h3, drop_getD x 0 (by omega), e]; rfl
    · have e1 := drop_getD x 0 (k := k) (by omega)
      have e2 := drop_getD y 0 (k := k) (by omega)
      rw [← h3, e1, e2]
      unfold cmpF
      rw [decide_eq_true h5]; rfl
    · have e1 := drop_getD x 0 (k := k) (by omega)
      have e2 := drop_getD y 0 (k := k) (by omega)
      rw [← h3, e1, e2]
      conv => rhs; unfold cmpF
      rw [decide_eq_false h5, decide_eq_true h6]; rfl
    · have e1 := drop_getD x 0 (k := k) (by omega)
      have e2 := drop_getD y 0 (k := k) (by omega)
      refine ⟨fi (by omega) (by omega), k + 1, ⟨by omega, by omega, ?_⟩, by omega, by omega⟩
      rw [← h3, e1, e2]
      conv => rhs; unfold cmpF
      rw [decide_eq_false h5, decide_eq_false h6]; rfl
    · have e1 : x.drop k = [] := List.drop_of_length_le (by omega)
      rw [← h3, e1, drop_getD y 0 (k := k) (by omega)]; rfl
    · have e1 : x.drop k = [] := List.drop_of_length_le (by omega)
      have e2 : y.drop k = [] := List.drop_of_length_le (by omega)
      rw [← h3, e1, e2]; rfl
  exact key p.1 p.2 hp.1 hp.2
theorem hasI_iff {y : List Int} {i : Int} : hasI y i = true ↔ i ∈ y := by simp [hasI]
theorem hasI_false {y : List Int} {i : Int} (h : ∀ j, j < y.length → ¬ y.getD j 0 = i) : hasI y i = false := by
  cases hb : hasI y i with
  | false => rfl
  | true =>
    obtain ⟨k, h1, h2⟩ := mem_getD 0 (hasI_iff.1 hb)
    exact absurd h2 (h k h1)
theorem ok47 : p47.OK Tryz.prog := p47.ok (fn := Tryz.f56) C47 (fun p => cx_ok (cs := [inl 97 Tryz.f97 (cx [] [(0, fun _ => upTo p.1.length 8 [0, 1, 6, 7] fun k => ∀ j, j < k → ¬ p.1.getD j 0 = p.2)])]) ⟨inl_ok cx0' (by kernel_rfl) (by kernel_rfl) (by kernel_rfl), trivial⟩ _) (by kernel_rfl) (by kernel_rfl) (by kernel_rfl) fun p hp => by
  have key : ∀ (y : List Int) (i : Int), y.length ≤ 1000 → g47 y i := fun y i hy => by
    refine (g47_eq y i).mpr ?_
    simp only [pp1, eq_self, and_true, true_and, and_self, Int.toNat_natCast]
    refine ⟨⟨0, ⟨by omega, fun j hj => by omega⟩, rfl⟩, fun k ⟨h1, h2⟩ => ⟨fun h => ⟨by omega, fun h3 => ?_, fun h3 => ⟨fi (by omega) (by omega), k + 1, ⟨by omega, fun j hj => ?_⟩, by omega, by omega⟩⟩, fun h => ?_⟩⟩
    · rw [decide_eq_true (by omega)]
      symm
      rw [hasI_iff, h3]
      exact getD_mem y 0 (by omega)
    · rcases Nat.lt_succ_iff_lt_or_eq.1 hj with h4 | h4
      · exact h2 j h4
      · subst h4; exact fun e => h3 e.symm
    · rw [hasI_false fun j hj => h2 j (by omega)]; decide
  exact key p.1 p.2 hp
theorem i46_ok : i46.OK Tryz.prog := inl_ok (cx_ok (cs := [p47.ci]) ⟨PC.OK.ci ok47, trivial⟩ _) (by kernel_rfl) (by kernel_rfl) (by kernel_rfl)
theorem c43_ok (p : List Int × List Int) : CtxOK Tryz.prog (C43 p) :=
  cx_ok (cs := [p44.ci, inl 54 Tryz.f54 (cx [i69 p] [])]) ⟨PC.OK.ci ok44, inl_ok (cx_ok (cs := [i69 p]) ⟨inl_ok (cx_ok (cs := [i46]) ⟨i46_ok, trivial⟩ _) (by kernel_rfl) (by kernel_rfl) (by kernel_rfl), trivial⟩ _) (by kernel_rfl) (by kernel_rfl) (by kernel_rfl), trivial⟩ _
theorem any_upto {x : List Int} {f : Int → Bool} (h : ∀ j, j < x.length → f (x.getD j 0) = false) : x.any f = false := by
  rw [List.any_eq_false]
  intro v hv
  obtain ⟨k, h1, h2⟩ := mem_getD 0 hv
  rw [← h2, h k h1]; simp
theorem ok43 : p43.OK Tryz.prog := p43.ok (fn := Tryz.f52) C43 c43_ok (by kernel_rfl) (by kernel_rfl) (by kernel_rfl) fun p hp => by
  have key : ∀ x y : List Int, x.length ≤ 1000 → y.length ≤ 1000 → g43 x y := fun x y hx hy => by
    refine (g43_eq x y).mpr ?_
    simp only [pp1, eq_self, and_true, true_and, and_self, Int.toNat_natCast]
    refine ⟨⟨hx, hy⟩, fun h => ⟨⟨0, ⟨by omega, fun j hj => by omega⟩, rfl⟩, fun k ⟨h1, h2⟩ => ⟨fun h3 => ⟨by omega, hy, fun h4 => ?_, fun h4 => ⟨fi (by omega) (by omega), k + 1, ⟨by omega, fun j hj => ?_⟩, by omega, by omega⟩⟩, fun h3 => ?_⟩⟩, fun h => ?_⟩
    · have hm := getD_mem x 0 (k := k) (by omega)
      have ha : x.any (hasI y) = true := List.any_eq_true.2 ⟨_, hm, h4⟩
      unfold apartF
      rw [ha, decide_eq_false (show ¬¬ (0 : Int) ≤ k by omega)]; simp
    · rcases Nat.lt_succ_iff_lt_or_eq.1 hj with h5 | h5
      · exact h2 j h5
      · subst h5; exact h4
    · unfold apartF
      rw [any_upto fun j hj => h2 j (by omega), decide_eq_true h]; decide
    · unfold apartF
      rw [decide_eq_false h]; rfl
  exact key p.1 p.2 hp.1 hp.2
theorem i51_ok : i51.OK Tryz.prog := inl_ok (cx_ok (cs := [p43.ci]) ⟨PC.OK.ci ok43, trivial⟩ _) (by kernel_rfl) (by kernel_rfl) (by kernel_rfl)
theorem i50_ok : i50.OK Tryz.prog := inl_ok (cx_ok (cs := [i51]) ⟨i51_ok, trivial⟩ _) (by kernel_rfl) (by kernel_rfl) (by kernel_rfl)
theorem i49_ok : i49.OK Tryz.prog := inl_ok (cx_ok (cs := [i50]) ⟨i50_ok, trivial⟩ _) (by kernel_rfl) (by kernel_rfl) (by kernel_rfl)
theorem c17_ok (w : List Int) : CtxOK Tryz.prog (C17 (callM Tryz.prog) w) :=
  cr_ok (cs := [p40.ci, i42, (c66 (callM Tryz.prog)).ci pick66, inl 57 Tryz.f57 (C48c (callM Tryz.prog) w)]) ⟨PC.OK.ci ok40, i42_ok, i66_ok, inl_ok (cr_ok (cs := [i49, (c66 (callM Tryz.prog)).ci pick66]) ⟨i49_ok, i66_ok, trivial⟩ _ _) (by kernel_rfl) (by kernel_rfl) (by kernel_rfl), trivial⟩ _ _
theorem find_at {α : Type} (d : α) (f : α → Bool) : (l : List α) → (k : Nat) → k < l.length → (∀ j, j < k → f (l.getD j d) = false) → f (l.getD k d) = true → l.find? f = some (l.getD k d)
  | [], k, h, _, _ => by simp at h
  | a :: r, 0, _, _, h2 => by
    have h2 : f a = true := by simpa using h2
    rw [List.find?_cons, h2]; simp
  | a :: r, k + 1, h, h1, h2 => by
    have h0 : f a = false := by simpa using h1 0 (by omega)
    rw [List.find?_cons, h0]
    have := find_at d f r k (by simpa using h) (fun j hj => by simpa using h1 (j + 1) (by omega)) (by simpa using h2)
    simpa using this
theorem find_not {α : Type} (d : α) (f : α → Bool) (l : List α) (h : ∀ j, j < l.length → f (l.getD j d) = false) : l.find? f = none := by
  rw [List.find?_eq_none]
  intro x hx
  obtain ⟨k, h1, h2⟩ := mem_getD d hx
  rw [← h2, h k h1]; simp
theorem mateF_eq (w : List Int) (x : List Int × Int) : mateF w x = (bySum (subsF w) x.2).find? (apartF x.1) := by unfold mateF; rw [withF_eq]
theorem ok17 : p17.OK Tryz.prog := p17.ok (fn := Tryz.f27) (fun w => C17 (callM Tryz.prog) w) c17_ok (by kernel_rfl) (by kernel_rfl) (by kernel_rfl) fun w hw => by
  have key : ∀ w : List Int, w.length ≤ 1000 → g17 (callM Tryz.prog) w := fun w hl => by
    refine (g17_eq _ w).mpr ?_
    have n1 : (0 : Int) ≤ -1 ↔ False := by decide
    simp only [pp1, eq_self, and_true, true_and, and_self, Int.toNat_natCast, feed_goT, List.nil_append, tabS_snoc, n1, false_implies, not_false_eq_true, true_implies, nilT, look_tab]
    refine ⟨⟨hl, by decide⟩, fun h => by simp [clashF, h], fun h => ?_⟩
    have h : checkF w 12 = 0 := Classical.not_not.1 h
    have k := check_ok.1 h
    have hk := k.len
    have hs := subsF_short (w := w) (by omega)
    have hlen : ∀ t s, t ∈ bySum (subsF w) s → t.length ≤ 1000 := fun t s ht => by
      have : t.length ≤ w.length := (mem_subsF.1 (mem_bySum.1 ht)).1.short
      omega
    have hsub : ∀ s, (bySum (subsF w) s).length ≤ 8192 := fun s => Nat.le_trans (bySum_length _ _) hs
    refine ⟨rfl, fun pre x r hr => ?_, fun E hg he hM => ⟨P66_mk hM he (by omega) k.small, by rw [hg, feed_goT]; rfl⟩, ⟨fun pre x r hr => ⟨⟨0, ⟨by omega, fun j hj => by omega⟩, rfl⟩, fun j ⟨h1, h2⟩ => ⟨fun h3 => ⟨by omega, ⟨?_, ?_⟩, fun h4 => ⟨fun h5 => ⟨by omega, fun _ => ?_, fun h6 => absurd h5 h6⟩, fun h5 => absurd (by omega) h5⟩, fun h4 => ⟨fi (by have := hsub x.2; omega) (by have := hsub x.2; omega), j + 1, ⟨by omega, fun i hi => ?_⟩, by omega, by omega⟩⟩, fun h3 => ?_⟩⟩, fun E hg he hM => ⟨P66_mk hM he (by omega) k.small, by rw [hg]⟩, fun hf => ?_, fun hf => ?_⟩, fun h => by cases h⟩
    · have h1 : pre.length < (subsF w).length := by rw [hr]; simp
      have := bySum_length pre x.2
      unfold Small; omega
    · have hx : x ∈ subsF w := by rw [hr]; simp
      have := (mem_subsF.1 hx).1.short
      omega
    · exact hlen _ _ (getD_mem _ [] (by omega))
    · have hfd := find_at [] (apartF x.1) (bySum (subsF w) x.2) j (by omega) h2 h4
      rw [lastS_snoc]
      refine ⟨?_, ?_, rfl, rfl⟩
      · unfold goN goodC; rw [mateF_eq, hfd]; rfl
      · rw [mateF_eq, hfd]; rfl
    · rcases Nat.lt_succ_iff_lt_or_eq.1 hi with h5 | h5
      · exact h2 i h5
      · subst h5; exact h4
    · have hfd := find_not [] (apartF x.1) (bySum (subsF w) x.2) (fun i hi => h2 i (by omega))
      unfold goN goodC
      rw [mateF_eq, hfd]; rfl
    · cases hfi : (subsF w).find? (goodC w) with
      | none => simp [clashF, h, hfi]
      | some y =>
        obtain ⟨q, h1, _⟩ := feed_some _ hfi []
        rw [h1] at hf; cases hf
    · cases hfi : (subsF w).find? (goodC w) with
      | none => rw [feed_none _ hfi] at hf; cases hf
      | some y =>
        obtain ⟨q, h1, _⟩ := feed_some _ hfi []
        rw [h1]
        simp only [lastS_snoc]
        simp [clashF, h, hfi]
  exact key w hw
end Go.SX.We
