/- Parts of the proof, one after the other: WeP Wz1 Wz1E Wz1Q WeS Wz2 WzTr Wz2T Wz2E Wz2Q WzR. -/
import Derived.Test.YtgbnkmhabhgigaaGreatM4
import Derived.Test.YtgbnkmhabhgigaaGreatProg
import Derived.Lib.SlicesCompact
import Derived.Ground.NamesProg
import Derived.Ground.Names2Prog
import Derived.Shelf.Lay
import Derived.Shelf.Sort.Plain
import Derived.Shelf.Slices.CompactI
import Derived.Shelf.Slices.In.SortNone
import Derived.Sort.OwnSortedInts
/- Chapter 08 in plain words: subsets in lexicographic order. -/
namespace Go.SX.We
theorem peta {α β : Type} (p : α × β) : (p.1, p.2) = p := rfl
theorem pp1 {p q : Prop} : (p → p ∧ q) ↔ (p → q) := ⟨fun h hp => (h hp).2, fun h hp => ⟨hp, h hp⟩⟩
def restF (w : List Int) : Nat → List Int → Int → List (List Int × Int)
  | 0, _, _ => []
  | n + 1, l, s => ((l ++ [((w.length - (n + 1) : Nat) : Int)], s + w.getD (w.length - (n + 1)) 0) :: restF w n (l ++ [((w.length - (n + 1) : Nat) : Int)]) (s + w.getD (w.length - (n + 1)) 0)) ++ restF w n l s
def genF (w : List Int) (n : Nat) (l : List Int) (s : Int) : List (List Int × Int) := (l, s) :: restF w n l s
def fromF (l : List Int) : Int := if l = [] then 0 else l.getD (l.length - 1) 0 + 1
def leftN (w l : List Int) : Nat := (w.length - fromF l).toNat
def subsF (w : List Int) : List (List Int × Int) := genF w w.length [] 0
theorem fromF_snoc (l : List Int) (i : Int) : fromF (l ++ [i]) = i + 1 := by simp [fromF]
theorem leftN_add {w l : List Int} (h0 : 0 ≤ fromF l) (h1 : fromF l ≤ w.length) : ∃ a : Nat, fromF l = (a : Int) ∧ a + leftN w l = w.length := ⟨(fromF l).toNat, by omega, by unfold leftN; omega⟩
theorem leftN_snoc {w l : List Int} {k : Nat} {a : Nat} (h0 : fromF l = (a : Int)) (h1 : a + leftN w l = w.length) (hk : k < leftN w l) : leftN w (l ++ [fromF l + (k : Int)]) = leftN w l - (k + 1) := by
  unfold leftN at *
  rw [fromF_snoc]
  omega
theorem restF_step {w l : List Int} {s : Int} {k a : Nat} (h0 : fromF l = (a : Int)) (h1 : a + leftN w l = w.length) (hk : k < leftN w l) :
    restF w (leftN w l - k) l s = genF w (leftN w (l ++ [fromF l + (k : Int)])) (l ++ [fromF l + (k : Int)]) (s + w.getD (fromF l + (k : Int)).toNat 0) ++ restF w (leftN w l - (k + 1)) l s := by
  rw [leftN_snoc h0 h1 hk]
  obtain ⟨m, hm⟩ : ∃ m, leftN w l - k = m + 1 := ⟨leftN w l - k - 1, by omega⟩
  have e1 : leftN w l - (k + 1) = m := by omega
  have e2 : w.length - (m + 1) = a + k := by omega
  have e3 : ((w.length - (m + 1) : Nat) : Int) = fromF l + (k : Int) := by rw [e2, h0]; omega
  have e4 : w.length - (m + 1) = (fromF l + (k : Int)).toNat := by omega
  rw [hm, e1]
  show ((l ++ [((w.length - (m + 1) : Nat) : Int)], s + w.getD (w.length - (m + 1)) 0) :: restF w m (l ++ [((w.length - (m + 1) : Nat) : Int)]) (s + w.getD (w.length - (m + 1)) 0)) ++ restF w m l s = _
  rw [e3, e4]
  rfl
def goT {α : Type} : List α → α → Bool := fun _ _ => true
section
variable {α : Type} {go : List α → α → Bool}
theorem feed_append (a b : List α) : ∀ pre, feed go pre (a ++ b) = if (feed go pre a).1 = true then feed go (feed go pre a).2 b else feed go pre a := by
  induction a with
  | nil => intro pre; simp [feed]
  | cons x a ih =>
    intro pre
    simp only [List.cons_append, feed]
    by_cases hg : go pre x = true
    · simp only [hg, cond_true]; exact ih _
    · simp [Bool.eq_false_iff.2 hg]
theorem feed_all (a : List α) : ∀ pre, (feed go pre a).1 = true → (feed go pre a).2 = pre ++ a := by
  induction a with
  | nil => intro pre _; simp [feed]
  | cons x a ih =>
    intro pre h
    simp only [feed] at h ⊢
    cases hg : go pre x with
    | true => rw [hg] at h; simp only [cond_true] at h ⊢; rw [ih _ h]; simp
    | false => rw [hg] at h; cases h
theorem feed_true (h : ∀ pre x, go pre x = true) (a : List α) : ∀ pre, feed go pre a = (true, pre ++ a) := by
  induction a with
  | nil => intro pre; simp [feed]
  | cons x a ih => intro pre; simp only [feed, h, cond_true]; rw [ih]; simp
theorem feed_goT (a : List α) (pre : List α) : feed goT pre a = (true, pre ++ a) := feed_true (fun _ _ => rfl) a pre
end
end Go.SX.We

/- Chapter 08: the iterators, what is asked of each. -/
namespace Go.SX.We
open Go Go.Proofs
def ti3 : TI := ⟨1, 8, [.int .i64 0], .int .i64, some (.int .i64), false, false⟩
def ti4 : TI := ⟨1, 1, [.bool false], .bool, some .bool, false, false⟩
def ti5 : TI := ⟨1, 1, [.int .u8 0], .int .u8, some (.int .u8), false, false⟩
def ti9 : TI := ⟨1, 16, [.string ⟨#[]⟩], .str, some .str, false, false⟩
def ti22 : TI := ⟨1, 24, [.slice none 0 0], .slice 3, some (.slice (.int .i64)), false, false⟩
def ti69 : TI := ⟨1, 24, [.slice none 0 0], .slice 22, some (.slice (.slice (.int .i64))), false, false⟩
def ti68 : TI := ⟨2, 32, [.slice none 0 0, .int .i64 0], .struct [(0, 22), (1, 3)], some (.pair (.slice (.int .i64)) (.int .i64)), false, false⟩
def ti63 : TI := ⟨1, 8, [.map none], .map 3 93, none, false, false⟩
def ti118 : TI := ⟨1, 4, [.int .u32 0], .int .u32, some (.int .u32), false, false⟩
def ti120 : TI := ⟨1, 8, [.int .u64 0], .int .u64, some (.int .u64), false, false⟩
def ti55 : TI := ⟨1, 24, [.slice none 0 0], .slice 5, some (.slice (.int .u8)), false, false⟩
def ti91 : TI := ⟨1, 24, [.slice none 0 0], .slice 118, some (.slice (.int .u32)), false, false⟩
def ti93 : TI := ⟨2, 32, [.bool false, .slice none 0 0], .struct [(0, 4), (1, 50)], some (.pair .bool (.slice (.int .u32))), false, false⟩
def ti95 : TI := ⟨4, 64, [.bool false, .slice none 0 0, .bool false, .slice none 0 0], .struct [(0, 52), (2, 52)], some (.pair (.pair .bool (.slice (.int .u32))) (.pair .bool (.slice (.int .u32)))), false, false⟩
def ti57 : TI := ⟨1, 2, [.int .u16 0], .int .u16, some (.int .u16), false, false⟩
def ti48 : TI := ⟨1, 24, [.slice none 0 0], .slice 73, some (.slice (.int .u16)), false, false⟩
def ti43 : TI := ⟨1, 24, [.slice none 0 0], .slice 24, some (.slice .str), false, false⟩
def ti32 : TI := ⟨2, 32, [.bool false, .slice none 0 0], .struct [(0, 4), (1, 22)], some (.pair .bool (.slice (.int .i64))), false, false⟩
def ti34 : TI := ⟨4, 64, [.bool false, .slice none 0 0, .bool false, .slice none 0 0], .struct [(0, 32), (2, 32)], some (.pair (.pair .bool (.slice (.int .i64))) (.pair .bool (.slice (.int .i64)))), false, false⟩
def tif : TI := ⟨1, 8, [.nilFunc], .other, none, false, false⟩
def tbl : List (TypeId × TI) := [(3, ti3), (25, ti3), (4, ti4), (5, ti5), (9, ti9), (22, ti22), (93, ti69), (92, ti68), (87, ti63), (67, tif), (101, tif), (88, tif), (89, tif), (36, tif), (97, tif), (118, ti118), (115, ti120), (126, ti55), (50, ti91), (52, ti93), (54, ti95), (73, ti57), (37, ti48), (24, ti9), (43, ti43), (32, ti32), (34, ti34)]
theorem tbl_ok : chkAll Tryz.prog tbl = true := by kernel_rfl
theorem mixed : Tryz.prog.follows .mixedOrders = true := by kernel_rfl
abbrev aI : ATy := (false, .int .i64)
abbrev aB : ATy := (false, .bool)
abbrev aS : ATy := (false, .str)
abbrev aU : ATy := (false, .slice (.int .u32))
abbrev tN : Ty := .pair .bool (.slice (.int .u32))
abbrev aN : ATy := (true, tN)
abbrev aR : ATy := (true, .pair tN tN)
abbrev aIs : ATy := (false, .slice (.int .i64))
abbrev tSub : Ty := .pair (.slice (.int .i64)) (.int .i64)
abbrev MM : Type := (a : Bool) → (T : Ty) → Ext a T → Prop
@[reducible] noncomputable def cx (cs : List CI) (an : List (Nat × (St → Ann))) : Ctx := ctxOf tbl cs fun n => annOf n an
@[reducible] noncomputable def cy (M : MM) (cs : List CI) (an : List (Nat × (St → Ann))) : Ctx := ctxY M tbl cs fun n => annOf n an
@[reducible] noncomputable def cc (cs : List CI) : Ctx := ctxC tbl cs
def rannOf (n : Nat) : List (Nat × (St → RAnn)) → Option (St → RAnn)
  | [] => none
  | (k, a) :: r => bif Nat.beq k n then some a else rannOf n r
@[reducible] noncomputable def cr (M : MM) (cs : List CI) (an : List (Nat × (St → Ann))) (rn : List (Nat × (St → RAnn))) : Ctx := ctxR M tbl cs (fun n => annOf n an) fun n => rannOf n rn
theorem cx_ok {cs : List CI} (h : CsOK Tryz.prog cs) (an : List (Nat × (St → Ann))) : CtxOK Tryz.prog (cx cs an) := ctx_ok mixed (chkAll_ok tbl_ok) h _
theorem cy_ok {cs : List CI} (h : CsOK Tryz.prog cs) (an : List (Nat × (St → Ann))) : CtxOK Tryz.prog (cy (callM Tryz.prog) cs an) := ctxY_ok mixed (chkAll_ok tbl_ok) h _
theorem cr_ok {cs : List CI} (h : CsOK Tryz.prog cs) (an : List (Nat × (St → Ann))) (rn : List (Nat × (St → RAnn))) : CtxOK Tryz.prog (cr (callM Tryz.prog) cs an rn) := ctxR_ok mixed (chkAll_ok tbl_ok) h _ _
noncomputable section
@[reducible] def HC.ciF (c : HC) (pick : Pick c.X) : CI := ⟨c.f, heapSpec c pick, false, true⟩
theorem HeapOK.ciF {P : Program} {c : HC} (h : HeapOK P c) (hv : ∀ x, verOK c.fr 0 (c.Hs x) (c.out x)) {pick : Pick c.X} (hp : ∀ args H K, pick args H K → ∃ x js, K x js) : (HC.ciF c pick).OK P := ⟨h.spec hv hp, fun h => (by cases h)⟩
def extIx : List Ent → Nat → Option Nat
  | [], _ => none
  | .ext .. :: _, i => some i
  | _ :: r, i => extIx r (i + 1)
def g75 (xs : List Int) : Prop := runBody (cx [] []) Tryz.f98 [.c (.ro (.int .i64) xs)] [] fun sv H => sv = .c (.roc (.int .i64) xs) ∧ H.length = 0
@[reducible] def clipSpec : Spec := fun args H K => match args with
  | [.c (.ro (.int .i64) xs)] => K (.c (.roc (.int .i64) xs)) H
  | _ => False
@[reducible] def i75 : CI := ⟨98, clipSpec, true, false⟩
structure X67 where
  E : Ext true tSub
  pre : List tSub.den
  w : List Int
  l : List Int
  s : Int
def X67.gen (x : X67) : List (List Int × Int) := genF x.w (leftN x.w x.l) x.l x.s
def X67.fed (x : X67) : Bool × List tSub.den := feed x.E.go x.pre x.gen
structure P67 (M : MM) (x : X67) : Prop where
  may : M true tSub x.E
  each : ∀ r1 y r2, x.gen = r1 ++ y :: r2 → x.E.may (x.pre ++ r1) y
  len : x.w.length ≤ 30
  from0 : 0 ≤ fromF x.l ∧ fromF x.l ≤ x.w.length
  wts : ∀ v ∈ x.w, -1000000 ≤ v ∧ v ≤ 1000000
  sum : -1000000 * fromF x.l ≤ x.s ∧ x.s ≤ 1000000 * fromF x.l
  long : x.l.length ≤ fromF x.l
@[reducible] def c67 (M : MM) : HC where
  f := 94
  X := X67
  Hs x := [.ext true tSub x.E true x.pre]
  ags x := [.c (.ro (.int .i64) x.w), .agg [.ro (.int .i64) x.l, .int .i64 x.s], .c (.raw x.E.yv)]
  Pre x := P67 M x
  res x := .c (.bool 0 x.fed.1)
  out x := [.ext true tSub x.E x.fed.1 x.fed.2]
  fr _ := false
@[reducible] def pick67 : Pick X67 := fun args H K => match args with
  | [.c (.ro (.int .i64) w), .agg [lv, .int .i64 s], .c (.raw _)] => (match extIx H 0 with
    | some j => (match H[j]? with
      | some (.ext true (.pair (.slice (.int .i64)) (.int .i64)) E _ pre) => (match lv with
        | .ro (.int .i64) l => K ⟨E, pre, w, l, s⟩ [j]
        | .raw u => bif isNil u then K ⟨E, pre, w, [], s⟩ [j] else False
        | _ => False)
      | _ => False)
    | none => False)
  | _ => False
@[reducible] def A67 (x : X67) : Ann where
  τ := Nat × List tSub.den
  pre := []
  preC := []
  keep := [0, 2, 4]
  slots k := [(8, .c (.int .i64 (fromF x.l + k.1)))]
  ents k := [(0, .ext true tSub x.E true (x.pre ++ k.2))]
  ok k := k.1 ≤ leftN x.w x.l ∧ x.gen = k.2 ++ restF x.w (leftN x.w x.l - k.1) x.l x.s ∧ (feed x.E.go x.pre k.2).1 = true
  m k := leftN x.w x.l - k.1
@[reducible] def C67 (M : MM) (x : X67) : Ctx := cy M [i75, HC.ciF ((c67 M).below (fun y => leftN y.w y.l) (leftN x.w x.l)) pick67] [(0, fun _ => A67 x)]
def g67 (M : MM) (x : X67) : Prop := HVC (C67 M x) Tryz.f94 (c67 M) x
end
end Go.SX.We

/- Printed by VC.lean: what the executor asks. -/
namespace Go.SX.We
open Go Go.Proofs IntKind List
theorem g75_eq (xs : List Int) : g75 xs = ((0 ≤ (↑(0 : Nat) : Int) ∧ (↑(0 : Nat) : Int) ≤ (xs.length : Int) ∧ (xs.length : Int) ≤ (xs.length : Int)) ∧ ((xs.length : Int) = (xs.length : Int) ∧ true = true) ∧ SV.c (SC.roc (Ty.int IntKind.i64) (drop (↑(0 : Nat) : Int).toNat (take (xs.length : Int).toNat xs))) = SV.c (SC.roc (Ty.int IntKind.i64) xs) ∧ (0 : Nat) = (0 : Nat)) := by kernel_rfl
theorem g67_eq (M : MM) (x : X67) : g67 M x = (x.E.yv = x.E.yv ∧ M true tSub x.E ∧ x.E.may x.pre (x.l, x.s) ∧ ((!x.E.go x.pre (x.l, x.s)) = true → (!x.E.go x.pre (x.l, x.s)) = true ∧ false = x.fed.fst ∧ Ent.ext true tSub x.E x.fed.fst x.fed.snd = Ent.ext true tSub x.E (x.E.go x.pre (x.l, x.s)) (x.pre ++ [(x.l, x.s)]) ∧ True) ∧ ((!x.E.go x.pre (x.l, x.s)) = false → (!x.E.go x.pre (x.l, x.s)) = false ∧ (0 < (x.l.length : Int) → 0 < (x.l.length : Int) ∧ Fits .i64 ((x.l.length : Int) - 1) ∧ (0 ≤ (x.l.length : Int) - 1 ∧ (x.l.length : Int) - 1 < (x.l.length : Int)) ∧ Fits .i64 (x.l.getD ((x.l.length : Int) - 1).toNat 0 + 1) ∧ (∃ (x0 : Nat × List (List Int × Int)), (x0.fst ≤ leftN x.w x.l ∧ x.gen = x0.snd ++ restF x.w (leftN x.w x.l - x0.fst) x.l x.s ∧ (feed x.E.go x.pre x0.snd).fst = true) ∧ (bumpE (Ent.ext true tSub x.E (x.E.go x.pre (x.l, x.s)) (x.pre ++ [(x.l, x.s)])) (Ent.ext true tSub x.E true (x.pre ++ x0.snd)) = Ent.ext true tSub x.E (x.E.go x.pre (x.l, x.s)) (x.pre ++ [(x.l, x.s)]) ∧ (x.l = x.l ∧ x.s = x.s ∧ True) ∧ True) ∧ x.l.getD ((x.l.length : Int) - 1).toNat 0 + 1 = fromF x.l + (x0.fst : Int) ∧ True ∧ x.w = x.w ∧ x.E.yv = x.E.yv ∧ True) ∧ ∀ (x_1 : Nat × List (List Int × Int)), x_1.fst ≤ leftN x.w x.l ∧ x.gen = x_1.snd ++ restF x.w (leftN x.w x.l - x_1.fst) x.l x.s ∧ (feed x.E.go x.pre x_1.snd).fst = true → (fromF x.l + (x_1.fst : Int) < (x.w.length : Int) → fromF x.l + (x_1.fst : Int) < (x.w.length : Int) ∧ (0 ≤ fromF x.l + (x_1.fst : Int) ∧ fromF x.l + (x_1.fst : Int) < (x.w.length : Int)) ∧ Fits .i64 (x.s + x.w.getD (fromF x.l + (x_1.fst : Int)).toNat 0) ∧ ((Small (x.l.length + ((0 : Nat) + 1)) ∧ [fromF x.l + (x_1.fst : Int)] ≠ []) ∧ True ∧ (bumpE (Ent.ext true tSub x.E (x.E.go x.pre (x.l, x.s)) (x.pre ++ [(x.l, x.s)])) (Ent.ext true tSub x.E true (x.pre ++ x_1.snd)) = Ent.ext true tSub x.E true (x.pre ++ x_1.snd) ∧ True) ∧ (x.w = x.w ∧ (x.l ++ [fromF x.l + (x_1.fst : Int)] = x.l ++ [fromF x.l + (x_1.fst : Int)] ∧ x.s + x.w.getD (fromF x.l + (x_1.fst : Int)).toNat 0 = x.s + x.w.getD (fromF x.l + (x_1.fst : Int)).toNat 0 ∧ True) ∧ x.E.yv = x.E.yv ∧ True) ∧ (P67 M (X67.mk x.E (x.pre ++ x_1.snd) x.w (x.l ++ [fromF x.l + (x_1.fst : Int)]) (x.s + x.w.getD (fromF x.l + (x_1.fst : Int)).toNat 0)) ∧ leftN x.w (x.l ++ [fromF x.l + (x_1.fst : Int)]) < leftN x.w x.l) ∧ ((!(X67.mk x.E (x.pre ++ x_1.snd) x.w (x.l ++ [fromF x.l + (x_1.fst : Int)]) (x.s + x.w.getD (fromF x.l + (x_1.fst : Int)).toNat 0)).fed.fst) = true → (!(X67.mk x.E (x.pre ++ x_1.snd) x.w (x.l ++ [fromF x.l + (x_1.fst : Int)]) (x.s + x.w.getD (fromF x.l + (x_1.fst : Int)).toNat 0)).fed.fst) = true ∧ false = x.fed.fst ∧ Ent.ext true tSub x.E x.fed.fst x.fed.snd = Ent.ext true tSub x.E (X67.mk x.E (x.pre ++ x_1.snd) x.w (x.l ++ [fromF x.l + (x_1.fst : Int)]) (x.s + x.w.getD (fromF x.l + (x_1.fst : Int)).toNat 0)).fed.fst (X67.mk x.E (x.pre ++ x_1.snd) x.w (x.l ++ [fromF x.l + (x_1.fst : Int)]) (x.s + x.w.getD (fromF x.l + (x_1.fst : Int)).toNat 0)).fed.snd ∧ True) ∧ ((!(X67.mk x.E (x.pre ++ x_1.snd) x.w (x.l ++ [fromF x.l + (x_1.fst : Int)]) (x.s + x.w.getD (fromF x.l + (x_1.fst : Int)).toNat 0)).fed.fst) = false → (!(X67.mk x.E (x.pre ++ x_1.snd) x.w (x.l ++ [fromF x.l + (x_1.fst : Int)]) (x.s + x.w.getD (fromF x.l + (x_1.fst : Int)).toNat 0)).fed.fst) = false ∧ Fits .i64 (fromF x.l + (x_1.fst : Int) + 1) ∧ ∃ (x' : Nat × List (List Int × Int)), (x'.fst ≤ leftN x.w x.l ∧ x.gen = x'.snd ++ restF x.w (leftN x.w x.l - x'.fst) x.l x.s ∧ (feed x.E.go x.pre x'.snd).fst = true) ∧ leftN x.w x.l - x'.fst < leftN x.w x.l - x_1.fst ∧ (bumpE (Ent.ext true tSub x.E (x.E.go x.pre (x.l, x.s)) (x.pre ++ [(x.l, x.s)])) (Ent.ext true tSub x.E true (x.pre ++ x'.snd)) = Ent.ext true tSub x.E (X67.mk x.E (x.pre ++ x_1.snd) x.w (x.l ++ [fromF x.l + (x_1.fst : Int)]) (x.s + x.w.getD (fromF x.l + (x_1.fst : Int)).toNat 0)).fed.fst (X67.mk x.E (x.pre ++ x_1.snd) x.w (x.l ++ [fromF x.l + (x_1.fst : Int)]) (x.s + x.w.getD (fromF x.l + (x_1.fst : Int)).toNat 0)).fed.snd ∧ (x.l = x.l ∧ x.s = x.s ∧ True) ∧ True) ∧ fromF x.l + (x_1.fst : Int) + 1 = fromF x.l + (↑x'.fst : Int) ∧ True ∧ x.w = x.w ∧ x.E.yv = x.E.yv ∧ True)) ∧ (Small (x.l.length + ((0 : Nat) + 1)) ∧ [fromF x.l + (x_1.fst : Int)] ≠ []) ∧ True ∧ (bumpE (Ent.ext true tSub x.E (x.E.go x.pre (x.l, x.s)) (x.pre ++ [(x.l, x.s)])) (Ent.ext true tSub x.E true (x.pre ++ x_1.snd)) = Ent.ext true tSub x.E true (x.pre ++ x_1.snd) ∧ True) ∧ (x.w = x.w ∧ (x.l ++ [fromF x.l + (x_1.fst : Int)] = x.l ++ [fromF x.l + (x_1.fst : Int)] ∧ x.s + x.w.getD (fromF x.l + (x_1.fst : Int)).toNat 0 = x.s + x.w.getD (fromF x.l + (x_1.fst : Int)).toNat 0 ∧ True) ∧ x.E.yv = x.E.yv ∧ True) ∧ (P67 M (X67.mk x.E (x.pre ++ x_1.snd) x.w (x.l ++ [fromF x.l + (x_1.fst : Int)]) (x.s + x.w.getD (fromF x.l + (x_1.fst : Int)).toNat 0)) ∧ leftN x.w (x.l ++ [fromF x.l + (x_1.fst : Int)]) < leftN x.w x.l) ∧ ((!(X67.mk x.E (x.pre ++ x_1.snd) x.w (x.l ++ [fromF x.l + (x_1.fst : Int)]) (x.s + x.w.getD (fromF x.l + (x_1.fst : Int)).toNat 0)).fed.fst) = true → (!(X67.mk x.E (x.pre ++ x_1.snd) x.w (x.l ++ [fromF x.l + (x_1.fst : Int)]) (x.s + x.w.getD (fromF x.l + (x_1.fst : Int)).toNat 0)).fed.fst) = true ∧ false = x.fed.fst ∧ Ent.ext true tSub x.E x.fed.fst x.fed.snd = Ent.ext true tSub x.E (X67.mk x.E (x.pre ++ x_1.snd) x.w (x.l ++ [fromF x.l + (x_1.fst : Int)]) (x.s + x.w.getD (fromF x.l + (x_1.fst : Int)).toNat 0)).fed.fst (X67.mk x.E (x.pre ++ x_1.snd) x.w (x.l ++ [fromF x.l + (x_1.fst : Int)]) (x.s + x.w.getD (fromF x.l + (x_1.fst : Int)).toNat 0)).fed.snd ∧ True) ∧ ((!(X67.mk x.E (x.pre ++ x_1.snd) x.w (x.l ++ [fromF x.l + (x_1.fst : Int)]) (x.s + x.w.getD (fromF x.l + (x_1.fst : Int)).toNat 0)).fed.fst) = false → (!(X67.mk x.E (x.pre ++ x_1.snd) x.w (x.l ++ [fromF x.l + (x_1.fst : Int)]) (x.s + x.w.getD (fromF x.l + (x_1.fst : Int)).toNat 0)).fed.fst) = false ∧ Fits .i64 (fromF x.l + (x_1.fst : Int) + 1) ∧ ∃ (x' : Nat × List (List Int × Int)), (x'.fst ≤ leftN x.w x.l ∧ x.gen = x'.snd ++ restF x.w (leftN x.w x.l - x'.fst) x.l x.s ∧ (feed x.E.go x.pre x'.snd).fst = true) ∧ leftN x.w x.l - x'.fst < leftN x.w x.l - x_1.fst ∧ (bumpE (Ent.ext true tSub x.E (x.E.go x.pre (x.l, x.s)) (x.pre ++ [(x.l, x.s)])) (Ent.ext true tSub x.E true (x.pre ++ x'.snd)) = Ent.ext true tSub x.E (X67.mk x.E (x.pre ++ x_1.snd) x.w (x.l ++ [fromF x.l + (x_1.fst : Int)]) (x.s + x.w.getD (fromF x.l + (x_1.fst : Int)).toNat 0)).fed.fst (X67.mk x.E (x.pre ++ x_1.snd) x.w (x.l ++ [fromF x.l + (x_1.fst : Int)]) (x.s + x.w.getD (fromF x.l + (x_1.fst : Int)).toNat 0)).fed.snd ∧ (x.l = x.l ∧ x.s = x.s ∧ True) ∧ True) ∧ fromF x.l + (x_1.fst : Int) + 1 = fromF x.l + (↑x'.fst : Int) ∧ True ∧ x.w = x.w ∧ x.E.yv = x.E.yv ∧ True)) ∧ (¬fromF x.l + (x_1.fst : Int) < (x.w.length : Int) → ¬fromF x.l + (x_1.fst : Int) < (x.w.length : Int) ∧ true = x.fed.fst ∧ Ent.ext true tSub x.E x.fed.fst x.fed.snd = Ent.ext true tSub x.E true (x.pre ++ x_1.snd) ∧ True)) ∧ (¬0 < (x.l.length : Int) → ¬0 < (x.l.length : Int) ∧ (∃ (x0 : Nat × List (List Int × Int)), (x0.fst ≤ leftN x.w x.l ∧ x.gen = x0.snd ++ restF x.w (leftN x.w x.l - x0.fst) x.l x.s ∧ (feed x.E.go x.pre x0.snd).fst = true) ∧ (bumpE (Ent.ext true tSub x.E (x.E.go x.pre (x.l, x.s)) (x.pre ++ [(x.l, x.s)])) (Ent.ext true tSub x.E true (x.pre ++ x0.snd)) = Ent.ext true tSub x.E (x.E.go x.pre (x.l, x.s)) (x.pre ++ [(x.l, x.s)]) ∧ (x.l = x.l ∧ x.s = x.s ∧ True) ∧ True) ∧ 0 = fromF x.l + (x0.fst : Int) ∧ True ∧ x.w = x.w ∧ x.E.yv = x.E.yv ∧ True) ∧ ∀ (x_1 : Nat × List (List Int × Int)), x_1.fst ≤ leftN x.w x.l ∧ x.gen = x_1.snd ++ restF x.w (leftN x.w x.l - x_1.fst) x.l x.s ∧ (feed x.E.go x.pre x_1.snd).fst = true → (fromF x.l + (x_1.fst : Int) < (x.w.length : Int) → fromF x.l + (x_1.fst : Int) < (x.w.length : Int) ∧ (0 ≤ fromF x.l + (x_1.fst : Int) ∧ fromF x.l + (x_1.fst : Int) < (x.w.length : Int)) ∧ Fits .i64 (x.s + x.w.getD (fromF x.l + (x_1.fst : Int)).toNat 0) ∧ ((Small (x.l.length + ((0 : Nat) + 1)) ∧ [fromF x.l + (x_1.fst : Int)] ≠ []) ∧ True ∧ (bumpE (Ent.ext true tSub x.E (x.E.go x.pre (x.l, x.s)) (x.pre ++ [(x.l, x.s)])) (Ent.ext true tSub x.E true (x.pre ++ x_1.snd)) = Ent.ext true tSub x.E true (x.pre ++ x_1.snd) ∧ True) ∧ (x.w = x.w ∧ (x.l ++ [fromF x.l + (x_1.fst : Int)] = x.l ++ [fromF x.l + (x_1.fst : Int)] ∧ x.s + x.w.getD (fromF x.l + (x_1.fst : Int)).toNat 0 = x.s + x.w.getD (fromF x.l + (x_1.fst : Int)).toNat 0 ∧ True) ∧ x.E.yv = x.E.yv ∧ True) ∧ (P67 M (X67.mk x.E (x.pre ++ x_1.snd) x.w (x.l ++ [fromF x.l + (x_1.fst : Int)]) (x.s + x.w.getD (fromF x.l + (x_1.fst : Int)).toNat 0)) ∧ leftN x.w (x.l ++ [fromF x.l + (x_1.fst : Int)]) < leftN x.w x.l) ∧ ((!(X67.mk x.E (x.pre ++ x_1.snd) x.w (x.l ++ [fromF x.l + (x_1.fst : Int)]) (x.s + x.w.getD (fromF x.l + (x_1.fst : Int)).toNat 0)).fed.fst) = true → (!(X67.mk x.E (x.pre ++ x_1.snd) x.w (x.l ++ [fromF x.l + (x_1.fst : Int)]) (x.s + x.w.getD (fromF x.l + (x_1.fst : Int)).toNat 0)).fed.fst) = true ∧ false = x.fed.fst ∧ Ent.ext true tSub x.E x.fed.fst x.fed.snd = Ent.ext true tSub x.E (X67.mk x.E (x.pre ++ x_1.snd) x.w (x.l ++ [fromF x.l + (x_1.fst : Int)]) (x.s + x.w.getD (fromF x.l + (x_1.fst : Int)).toNat 0)).fed.fst (X67.mk x.E (x.pre ++ x_1.snd) x.w (x.l ++ [fromF x.l + (x_1.fst : Int)]) (x.s + x.w.getD (fromF x.l + (x_1.fst : Int)).toNat 0)).fed.snd ∧ True) ∧ ((!(X67.mk x.E (x.pre ++ x_1.snd) x.w (x.l ++ [fromF x.l + (x_1.fst : Int)]) (x.s + x.w.getD (fromF x.l + (x_1.fst : Int)).toNat 0)).fed.fst) = false → (!(X67.mk x.E (x.pre ++ x_1.snd) x.w (x.l ++ [fromF x.l + (x_1.fst : Int)]) (x.s + x.w.getD (fromF x.l + (x_1.fst : Int)).toNat 0)).fed.fst) = false ∧ Fits .i64 (fromF x.l + (x_1.fst : Int) + 1) ∧ ∃ (x' : Nat × List (List Int × Int)), (x'.fst ≤ leftN x.w x.l ∧ x.gen = x'.snd ++ restF x.w (leftN x.w x.l - x'.fst) x.l x.s ∧ (feed x.E.go x.pre x'.snd).fst = true) ∧ leftN x.w x.l - x'.fst < leftN x.w x.l - x_1.fst ∧ (bumpE (Ent.ext true tSub x.E (x.E.go x.pre (x.l, x.s)) (x.pre ++ [(x.l, x.s)])) (Ent.ext true tSub x.E true (x.pre ++ x'.snd)) = Ent.ext true tSub x.E (X67.mk x.E (x.pre ++ x_1.snd) x.w (x.l ++ [fromF x.l + (x_1.fst : Int)]) (x.s + x.w.getD (fromF x.l + (x_1.fst : Int)).toNat 0)).fed.fst (X67.mk x.E (x.pre ++ x_1.snd) x.w (x.l ++ [fromF x.l + (x_1.fst : Int)]) (x.s + x.w.getD (fromF x.l + (x_1.fst : Int)).toNat 0)).fed.snd ∧ (x.l = x.l ∧ x.s = x.s ∧ True) ∧ True) ∧ fromF x.l + (x_1.fst : Int) + 1 = fromF x.l + (↑x'.fst : Int) ∧ True ∧ x.w = x.w ∧ x.E.yv = x.E.yv ∧ True)) ∧ (Small (x.l.length + ((0 : Nat) + 1)) ∧ [fromF x.l + (x_1.fst : Int)] ≠ []) ∧ True ∧ (bumpE (Ent.ext true tSub x.E (x.E.go x.pre (x.l, x.s)) (x.pre ++ [(x.l, x.s)])) (Ent.ext true tSub x.E true (x.pre ++ x_1.snd)) = Ent.ext true tSub x.E true (x.pre ++ x_1.snd) ∧ True) ∧ (x.w = x.w ∧ (x.l ++ [fromF x.l + (x_1.fst : Int)] = x.l ++ [fromF x.l + (x_1.fst : Int)] ∧ x.s + x.w.getD (fromF x.l + (x_1.fst : Int)).toNat 0 = x.s + x.w.getD (fromF x.l + (x_1.fst : Int)).toNat 0 ∧ True) ∧ x.E.yv = x.E.yv ∧ True) ∧ (P67 M (X67.mk x.E (x.pre ++ x_1.snd) x.w (x.l ++ [fromF x.l + (x_1.fst : Int)]) (x.s + x.w.getD (fromF x.l + (x_1.fst : Int)).toNat 0)) ∧ leftN x.w (x.l ++ [fromF x.l + (x_1.fst : Int)]) < leftN x.w x.l) ∧ ((!(X67.mk x.E (x.pre ++ x_1.snd) x.w (x.l ++ [fromF x.l + (x_1.fst : Int)]) (x.s + x.w.getD (fromF x.l + (x_1.fst : Int)).toNat 0)).fed.fst) = true → (!(X67.mk x.E (x.pre ++ x_1.snd) x.w (x.l ++ [fromF x.l + (x_1.fst : Int)]) (x.s + x.w.getD (fromF x.l + (x_1.fst : Int)).toNat 0)).fed.fst) = true ∧ false = x.fed.fst ∧ Ent.ext true tSub x.E x.fed.fst x.fed.snd = Ent.ext true tSub x.E (X67.mk x.E (x.pre ++ x_1.snd) x.w (x.l ++ [fromF x.l + (x_1.fst : Int)]) (x.s + x.w.getD (fromF x.l + (x_1.fst : Int)).toNat 0)).fed.fst (X67.mk x.E (x.pre ++ x_1.snd) x.w (x.l ++ [fromF x.l + (x_1.fst : Int)]) (x.s + x.w.getD (fromF x.l + (x_1.fst : Int)).toNat 0)).fed.snd ∧ True) ∧ ((!(X67.mk x.E (x.pre ++ x_1.snd) x.w (x.l ++ [fromF x.l + (x_1.fst : Int)]) (x.s + x.w.getD (fromF x.l + (x_1.fst : Int)).toNat 0)).fed.fst) = false → (!(X67.mk x.E (x.pre ++ x_1.snd) x.w (x.l ++ [fromF x.l + (x_1.fst : Int)]) (x.s + x.w.getD (fromF x.l + (x_1.fst : Int)).toNat 0)).fed.fst) = false ∧ Fits .i64 (fromF x.l + (x_1.fst : Int) + 1) ∧ ∃ (x' : Nat × List (List Int × Int)), (x'.fst ≤ leftN x.w x.l ∧ x.gen = x'.snd ++ restF x.w (leftN x.w x.l - x'.fst) x.l x.s ∧ (feed x.E.go x.pre x'.snd).fst = true) ∧ leftN x.w x.l - x'.fst < leftN x.w x.l - x_1.fst ∧ (bumpE (Ent.ext true tSub x.E (x.E.go x.pre (x.l, x.s)) (x.pre ++ [(x.l, x.s)])) (Ent.ext true tSub x.E true (x.pre ++ x'.snd)) = Ent.ext true tSub x.E (X67.mk x.E (x.pre ++ x_1.snd) x.w (x.l ++ [fromF x.l + (x_1.fst : Int)]) (x.s + x.w.getD (fromF x.l + (x_1.fst : Int)).toNat 0)).fed.fst (X67.mk x.E (x.pre ++ x_1.snd) x.w (x.l ++ [fromF x.l + (x_1.fst : Int)]) (x.s + x.w.getD (fromF x.l + (x_1.fst : Int)).toNat 0)).fed.snd ∧ (x.l = x.l ∧ x.s = x.s ∧ True) ∧ True) ∧ fromF x.l + (x_1.fst : Int) + 1 = fromF x.l + (↑x'.fst : Int) ∧ True ∧ x.w = x.w ∧ x.E.yv = x.E.yv ∧ True)) ∧ (¬fromF x.l + (x_1.fst : Int) < (x.w.length : Int) → ¬fromF x.l + (x_1.fst : Int) < (x.w.length : Int) ∧ true = x.fed.fst ∧ Ent.ext true tSub x.E x.fed.fst x.fed.snd = Ent.ext true tSub x.E true (x.pre ++ x_1.snd) ∧ True)))) := by kernel_rfl
end Go.SX.We

/- Chapter 08: the iterators, proved. -/
namespace Go.SX.We
open Go Go.Proofs
theorem cx0 : CtxOK Tryz.prog (cx [] []) := cx_ok (cs := []) trivial []
theorem g75_ok (xs : List Int) : g75 xs := by
  refine (g75_eq xs).mpr ?_
  simp
theorem clip_ok : i75.OK Tryz.prog := by
  have key : SpecKeeps Tryz.prog 98 clipSpec := by
    intro B X w0 H g w args vals K hsp hs ha
    unfold clipSpec at hsp
    split at hsp
    · rename_i xs
      obtain ⟨hl, hr⟩ := ha
      match vals, hl with
      | [v], _ =>
      have hv : Ty.Rep w (Stable H g) (.slice (.int .i64)) xs [v] := hr 0 _ v rfl rfl
      let g0 : Gh := ⟨fun _ => 0, fun _ => .bool false, fun b => Stable H g b ∨ w.heap.size ≤ b⟩
      have hs0 : Sat w.heap.size (fun _ => False) w [] g0 w := ⟨rfl, rfl, rfl, Nat.le_refl _, Nat.le_refl _, fun b hb => .inr (hb.resolve_right id), fun _ _ _ => rfl, fun i e h => by simp at h, fun i j e f b h => by simp at h⟩
      have ha0 : ArgsRep w [] g0 [.c (.ro (.int .i64) xs)] [v] := ⟨rfl, fun j x u h1 h2 => by
        cases j with
        | zero =>
          simp at h1 h2; subst h1; subst h2
          exact Ty.Rep.sub (t := .slice (.int .i64)) hv fun b _ hb => ⟨.inl hb, fun ⟨i, e, h, _⟩ => by simp at h⟩
        | succ j => simp at h1⟩
      refine (body_calls cx0 (f := 98) (fn := Tryz.f98) (by kernel_rfl) (g75_ok xs) hs0 ha0).mono ?_
      rintro e w' ⟨v', rfl, sv, H', g', ⟨rfl, hH'⟩, hs', hev', hr'⟩
      obtain rfl := List.eq_nil_of_length_eq_zero hH'
      have hold : ∀ b, b < w.heap.size → w'.heap[b]? = w.heap[b]? := fun b hb => hs'.old b hb id
      obtain ⟨k1, k2⟩ := Sat.same hs hs'.os hs'.tape hs'.output hs'.size0 hold
      obtain ⟨r1, r2⟩ := hr'
      have hrep : (SC.roc (.int .i64) xs).Rep w' H g v' := ⟨Ty.Rep.sub (t := .slice (.int .i64)) r1 fun b _ hb => by
        have h1 := hb.1
        rw [hev'.ok] at h1
        rcases h1 with h1 | h1
        · exact h1
        · refine ⟨hs.okB b (.inl (Nat.le_trans hs.hB h1)), ?_⟩
          rintro ⟨i, e, q1, q2⟩
          have := (hs.ents i e q1).lt b q2
          omega, r2⟩
      exact ⟨v', rfl, ⟨_, _, g, hsp, k1, k2, hrep⟩, hs'.size0, hold⟩
    · exact hsp.elim
  exact ⟨⟨⟨Tryz.f98, by kernel_rfl, by kernel_rfl, by kernel_rfl⟩, fun B X w0 H g w args vals K h hs ha => (key B X w0 H g w args vals K h hs ha).mono fun e w' ⟨v, h1, h2, _⟩ => ⟨v, h1, h2⟩⟩, fun _ => key⟩
theorem bump_ext {a : Bool} {T : Ty} {E : Ext a T} {o o' : Bool} {p p' : List T.den} : bumpE (.ext a T E o p) (.ext a T E o' p') = .ext a T E o' p' := rfl
theorem g67_ok (M : MM) (x : X67) (hp : P67 M x) : g67 M x := by
  refine (g67_eq M x).mpr ?_
  obtain ⟨may, each, len, ⟨hf0, hf1⟩, wts, sum, long⟩ := hp
  obtain ⟨a, ha, han⟩ := leftN_add hf0 hf1
  have hgen : x.gen = (x.l, x.s) :: restF x.w (leftN x.w x.l) x.l x.s := rfl
  have hfit : ∀ n : Int, -100000000 ≤ n → n ≤ 100000000 → Fits .i64 n := fun n h1 h2 => fits_i64 (by omega) (by omega)
  have hfed : ∀ d r, x.gen = d ++ r → (feed x.E.go x.pre d).1 = true → x.fed = feed x.E.go (x.pre ++ d) r := by
    intro d r h1 h2
    unfold X67.fed
    rw [h1, feed_append, if_pos h2, feed_all d _ h2]
  have hlast : 0 < (x.l.length : Int) → x.l.getD ((x.l.length : Int) - 1).toNat 0 + 1 = fromF x.l := by
    intro h
    have : x.l ≠ [] := by intro e; rw [e] at h; simp at h
    unfold fromF
    rw [if_neg this, show ((x.l.length : Int) - 1).toNat = x.l.length - 1 by omega]
  have hround : ∀ k : Nat × List (List Int × Int), k.1 ≤ leftN x.w x.l ∧ x.gen = k.2 ++ restF x.w (leftN x.w x.l - k.1) x.l x.s ∧ (feed x.E.go x.pre k.2).1 = true → fromF x.l + (k.1 : Int) < x.w.length →
      k.1 < leftN x.w x.l ∧ P67 M ⟨x.E, x.pre ++ k.2, x.w, x.l ++ [fromF x.l + (k.1 : Int)], x.s + x.w.getD (fromF x.l + (k.1 : Int)).toNat 0⟩ ∧
      x.gen = (k.2 ++ (X67.mk x.E (x.pre ++ k.2) x.w (x.l ++ [fromF x.l + (k.1 : Int)]) (x.s + x.w.getD (fromF x.l + (k.1 : Int)).toNat 0)).gen) ++ restF x.w (leftN x.w x.l - (k.1 + 1)) x.l x.s := by
    rintro ⟨k, d⟩ ⟨h1, h2, h3⟩ h4
    simp only at h1 h2 h3 h4 ⊢
    have hk : k < leftN x.w x.l := by omega
    have hstep := restF_step (w := x.w) (s := x.s) ha han hk
    rw [hstep] at h2
    have hg : x.gen = (d ++ (X67.mk x.E (x.pre ++ d) x.w (x.l ++ [fromF x.l + (k : Int)]) (x.s + x.w.getD (fromF x.l + (k : Int)).toNat 0)).gen) ++ restF x.w (leftN x.w x.l - (k + 1)) x.l x.s := by
      rw [h2, List.append_assoc]; rfl
    have hw : -1000000 ≤ x.w.getD (fromF x.l + (k : Int)).toNat 0 ∧ x.w.getD (fromF x.l + (k : Int)).toNat 0 ≤ 1000000 := by
      have hlt : (fromF x.l + (k : Int)).toNat < x.w.length := by omega
      rw [List.getD_eq_getElem?_getD, List.getElem?_eq_getElem hlt]
      exact wts _ (List.getElem_mem hlt)
    refine ⟨hk, ⟨may, fun r1 y r2 hr => ?_, len, ?_, wts, ?_, ?_⟩, hg⟩
    · have := each (d ++ r1) y (r2 ++ restF x.w (leftN x.w x.l - (k + 1)) x.l x.s) (by rw [hg, hr]; simp)
      rw [← List.append_assoc] at this
      exact this
    · show 0 ≤ fromF (x.l ++ [fromF x.l + (k : Int)]) ∧ fromF (x.l ++ [fromF x.l + (k : Int)]) ≤ x.w.length
      rw [fromF_snoc]; omega
    · show -1000000 * fromF (x.l ++ [fromF x.l + (k : Int)]) ≤ x.s + x.w.getD (fromF x.l + (k : Int)).toNat 0 ∧ x.s + x.w.getD (fromF x.l + (k : Int)).toNat 0 ≤ 1000000 * fromF (x.l ++ [fromF x.l + (k : Int)])
      rw [fromF_snoc]; omega
    · show ((x.l ++ [fromF x.l + (k : Int)]).length : Int) ≤ fromF (x.l ++ [fromF x.l + (k : Int)])
      rw [fromF_snoc, List.length_append]; simp; omega
  have hsmall : ∀ n : Nat, (n : Int) ≤ 100 → Small n := fun n h => by unfold Small; omega
  simp only [pp1, eq_self, and_true, true_and, and_self, bump_ext]
  refine ⟨may, by have := each [] _ _ hgen; simpa using this, fun hgo => ?_, fun hgo => ?_⟩
  · have hgo : x.E.go x.pre (x.l, x.s) = false := by simpa using hgo
    have : x.fed = (false, x.pre ++ [(x.l, x.s)]) := by unfold X67.fed; rw [hgen]; simp [feed, hgo]
    rw [this, hgo]
    exact ⟨rfl, rfl⟩
  · have hgo : x.E.go x.pre (x.l, x.s) = true := by simpa using hgo
    have hstart : (0 : Nat) ≤ leftN x.w x.l ∧ x.gen = [(x.l, x.s)] ++ restF x.w (leftN x.w x.l - 0) x.l x.s ∧ (feed x.E.go x.pre [(x.l, x.s)]).1 = true := ⟨Nat.zero_le _, hgen, by simp [feed, hgo]⟩
    have hone : ∀ k : Nat × List (List Int × Int), k.1 ≤ leftN x.w x.l ∧ x.gen = k.2 ++ restF x.w (leftN x.w x.l - k.1) x.l x.s ∧ (feed x.E.go x.pre k.2).1 = true → fromF x.l + (k.1 : Int) < x.w.length → ∀ y : X67,
        y = X67.mk x.E (x.pre ++ k.2) x.w (x.l ++ [fromF x.l + (k.1 : Int)]) (x.s + x.w.getD (fromF x.l + (k.1 : Int)).toNat 0) →
        (0 ≤ fromF x.l + (k.1 : Int) ∧ fromF x.l + (k.1 : Int) < x.w.length) ∧ Fits .i64 (x.s + x.w.getD (fromF x.l + (k.1 : Int)).toNat 0) ∧ (Small (x.l.length + (0 + 1)) ∧ [fromF x.l + (k.1 : Int)] ≠ []) ∧
        (P67 M y ∧ leftN x.w (x.l ++ [fromF x.l + (k.1 : Int)]) < leftN x.w x.l) ∧
        ((!y.fed.1) = true → false = x.fed.1 ∧ Ent.ext true tSub x.E x.fed.1 x.fed.2 = Ent.ext true tSub x.E y.fed.1 y.fed.2) ∧
        ((!y.fed.1) = false → Fits .i64 (fromF x.l + (k.1 : Int) + 1) ∧ ∃ x' : Nat × List (List Int × Int), (x'.1 ≤ leftN x.w x.l ∧ x.gen = x'.2 ++ restF x.w (leftN x.w x.l - x'.1) x.l x.s ∧ (feed x.E.go x.pre x'.2).1 = true) ∧
          leftN x.w x.l - x'.1 < leftN x.w x.l - k.1 ∧ Ent.ext true tSub x.E true (x.pre ++ x'.2) = Ent.ext true tSub x.E y.fed.1 y.fed.2 ∧ fromF x.l + (k.1 : Int) + 1 = fromF x.l + (x'.1 : Int)) := by
      rintro ⟨k, d⟩ hk hlt y hy
      obtain ⟨r1, r2, r3⟩ := hround (k, d) hk hlt
      obtain ⟨k1, k2, k3⟩ := hk
      simp only at r1 r2 r3 k1 k2 k3 hlt hy ⊢
      rw [← hy] at r2 r3
      have hw := r2.sum
      rw [hy] at hw
      simp only [fromF_snoc] at hw
      have hy2 : y.fed = feed x.E.go (x.pre ++ d) y.gen := by rw [hy]; rfl
      have hxf : x.fed = feed x.E.go (x.pre ++ d) (y.gen ++ restF x.w (leftN x.w x.l - (k + 1)) x.l x.s) := hfed d _ (by rw [r3, List.append_assoc]) k3
      rw [feed_append, ← hy2] at hxf
      refine ⟨⟨by omega, hlt⟩, hfit _ (by omega) (by omega), ⟨hsmall _ (by simp; omega), by simp⟩, ⟨r2, by rw [leftN_snoc ha han r1]; omega⟩, fun h => ?_, fun h => ⟨hfit _ (by omega) (by omega), (k + 1, d ++ y.gen), ⟨by show k + 1 ≤ _; omega, r3, ?_⟩, by show leftN x.w x.l - (k + 1) < _; omega, ?_, by push_cast; omega⟩⟩
      · have h : y.fed.1 = false := by simpa using h
        rw [if_neg (by rw [h]; simp)] at hxf
        rw [hxf, h]
        exact ⟨rfl, rfl⟩
      · have h : y.fed.1 = true := by simpa using h
        show (feed x.E.go x.pre (d ++ y.gen)).1 = true
        rw [feed_append, if_pos k3, feed_all d _ k3, ← hy2]; exact h
      · have h : y.fed.1 = true := by simpa using h
        have h2 : y.fed.2 = x.pre ++ d ++ y.gen := by rw [hy2] at h ⊢; exact feed_all _ _ h
        rw [h, h2, List.append_assoc]
    have hend : ∀ k : Nat × List (List Int × Int), k.1 ≤ leftN x.w x.l ∧ x.gen = k.2 ++ restF x.w (leftN x.w x.l - k.1) x.l x.s ∧ (feed x.E.go x.pre k.2).1 = true → ¬ fromF x.l + (k.1 : Int) < x.w.length →
        true = x.fed.1 ∧ Ent.ext true tSub x.E x.fed.1 x.fed.2 = Ent.ext true tSub x.E true (x.pre ++ k.2) := by
      rintro ⟨k, d⟩ ⟨k1, k2, k3⟩ hge
      simp only at k1 k2 k3 hge ⊢
      have e : leftN x.w x.l - k = 0 := by omega
      rw [e] at k2
      have hd : x.gen = d := by rw [k2]; simp [restF]
      have hx : x.fed = feed x.E.go x.pre d := by unfold X67.fed; rw [hd]
      rw [hx, k3, feed_all d _ k3]
      exact ⟨rfl, rfl⟩
    have hst : Ent.ext true tSub x.E true (x.pre ++ [(x.l, x.s)]) = Ent.ext true tSub x.E (x.E.go x.pre (x.l, x.s)) (x.pre ++ [(x.l, x.s)]) := by rw [hgo]
    refine ⟨fun hl => ⟨hfit _ (by omega) (by omega), by omega, hfit _ (by have := hlast hl; omega) (by have := hlast hl; omega), ⟨(0, [(x.l, x.s)]), hstart, hst, by rw [hlast hl]; simp⟩, fun k hk => ⟨fun hlt => hone k hk hlt _ rfl, hend k hk⟩⟩,
      fun hl => ⟨⟨(0, [(x.l, x.s)]), hstart, hst, ?_⟩, fun k hk => ⟨fun hlt => hone k hk hlt _ rfl, hend k hk⟩⟩⟩
    have : x.l = [] := by
      rcases hx : x.l with _ | ⟨y, r⟩
      · rfl
      · rw [hx] at hl; simp at hl
    rw [this]; simp [fromF]
theorem h67 : HeapOK Tryz.prog (c67 (callM Tryz.prog)) := by
  refine heap_rec (fn := Tryz.f94) (fun x => leftN x.w x.l) (by kernel_rfl) (by kernel_rfl) (by kernel_rfl) (fun x => ⟨trivial, trivial⟩) (C67 (callM Tryz.prog)) (fun x hx => ?_) (fun x hx => g67_ok _ x hx)
  refine cy_ok (cs := [i75, HC.ciF ((c67 (callM Tryz.prog)).below (fun y => leftN y.w y.l) (leftN x.w x.l)) pick67]) ⟨clip_ok, HeapOK.ciF hx (fun y => ⟨trivial, trivial⟩) ?_, trivial⟩ _
  intro args H K h
  unfold pick67 at h
  split at h
  · split at h
    · split at h
      · split at h
        · exact ⟨_, _, h⟩
        · rename_i u
          cases hu : isNil u with
          | true => rw [hu] at h; exact ⟨_, _, h⟩
          | false => rw [hu] at h; exact h.elim
        · exact h.elim
      · exact h.elim
    · exact h.elim
  · exact h.elim
end Go.SX.We

/- Chapter 08: the functions in plain words. -/
namespace Go.SX.We
def sortF (l : List Int) : List Int := l.mergeSort fun x y => decide (x ≤ y)
def compF (l : List Int) : List Int := Lib.compact l
def sumsF (w : List Int) : List Int := (subsF w).map Prod.snd
def distF (w : List Int) : Bool := decide ((compF (sortF (sumsF w))).length = (sumsF w).length)
def upF : List Int → Bool
  | a :: b :: r => decide (a < b) && upF (b :: r)
  | _ => true
def checkF (w : List Int) (most : Int) : Int :=
  bif decide (most < (w.length : Int)) then 3 else bif decide (w.length = 0) || decide (w.getD 0 0 < 1) || decide (100000 < w.getD (w.length - 1) 0) then 2 else bif upF w then 0 else 2
def totalF (w : List Int) (most sum : Int) : Int := bif decide ((w.length : Int) ≤ most) && decide (sum < 0) then 1 else checkF w most
def distinctF (w : List Int) : Bool × Int := bif decide (checkF w 12 = 0) then (distF w, 0) else (false, checkF w 12)
def goN {α : Type} (good : α → Bool) : List α → α → Bool := fun _ x => !good x
theorem feed_none {α : Type} {good : α → Bool} : (l : List α) → l.find? good = none → ∀ pre, feed (goN good) pre l = (true, pre ++ l)
  | [], _, pre => by simp [feed]
  | x :: r, h, pre => by
    rw [List.find?_cons] at h
    cases hg : good x with
    | true => rw [hg] at h; cases h
    | false =>
      rw [hg] at h
      have e : goN good pre x = true := by simp [goN, hg]
      simp only [feed, e, cond_true]
      rw [feed_none r h]; simp
theorem feed_some {α : Type} {good : α → Bool} {y : α} : (l : List α) → l.find? good = some y → ∀ pre, ∃ q, feed (goN good) pre l = (false, q ++ [y]) ∧ good y = true ∧ ∃ r, l = q.drop pre.length ++ y :: r ∧ q.take pre.length = pre
  | [], h, pre => by cases h
  | x :: r, h, pre => by
    rw [List.find?_cons] at h
    cases hg : good x with
    | true =>
      rw [hg] at h
      obtain rfl : x = y := by simpa using h
      have e : goN good pre x = false := by simp [goN, hg]
      simp only [feed, e, cond_false]
      exact ⟨pre, rfl, hg, r, by simp, by simp⟩
    | false =>
      rw [hg] at h
      have e : goN good pre x = true := by simp [goN, hg]
      simp only [feed, e, cond_true]
      obtain ⟨q, h1, h2, s, h3, h4⟩ := feed_some r h (pre ++ [x])
      refine ⟨q, h1, h2, s, ?_, ?_⟩
      · have : q.drop pre.length = x :: q.drop (pre ++ [x]).length := by
          have e1 : q = (pre ++ [x]) ++ q.drop (pre ++ [x]).length := by conv => lhs; rw [← List.take_append_drop (pre ++ [x]).length q, h4]
          rw [e1]; simp
        rw [this, h3]; simp
      · have e1 : q = (pre ++ [x]) ++ q.drop (pre ++ [x]).length := by conv => lhs; rw [← List.take_append_drop (pre ++ [x]).length q, h4]
        rw [e1]; simp
def lastS (l : List (List Int × Int)) : List Int × Int := l.getLastD ([], 0)
theorem lastS_snoc (l : List (List Int × Int)) (x : List Int × Int) : lastS (l ++ [x]) = x := by simp [lastS, List.getLastD_eq_getLast?]
def hasSum (s : Int) (x : List Int × Int) : Bool := decide (x.2 = s)
def countF (s : Int) (l : List (List Int × Int)) : Int := ((l.filter (hasSum s)).length : Int)
def waysF (w : List Int) (s : Int) : Int × Int := bif decide (totalF w 12 s = 0) then (countF s (subsF w), 0) else (0, totalF w 12 s)
def subsetF (w : List Int) (s : Int) : List Int × Int :=
  bif decide (totalF w 12 s = 0) then (match (subsF w).find? (hasSum s) with
    | none => ([], 5)
    | some x => (x.1, 0)) else ([], totalF w 12 s)
end Go.SX.We

/- Chapter 08: 'distinct' and what it leads to, what is asked of each. -/
namespace Go.SX.We
open Go Go.Proofs
noncomputable section
structure X66 where
  E : Ext true tSub
  pre : List tSub.den
  w : List Int
@[reducible] def X66.to (x : X66) : X67 := ⟨x.E, x.pre, x.w, [], 0⟩
@[reducible] def c66 (M : MM) : HC where
  f := 93
  X := X66
  Hs x := [.blk 22 [.ro (.int .i64) x.w], .ext true tSub x.E true x.pre]
  ags x := [.c (.raw x.E.yv), .c (.ptr 0 0)]
  Pre x := P67 M x.to
  res _ := .tup []
  out x := [.blk 22 [.ro (.int .i64) x.w], .ext true tSub x.E (feed x.E.go x.pre (subsF x.w)).1 (feed x.E.go x.pre (subsF x.w)).2]
  fr _ := false
@[reducible] def pick66 : Pick X66 := fun args H K => match args with
  | [.c (.raw _), .c (.ptr i 0)] => (match extIx H 0, H[i]? with
    | some j, some (.blk _ [.ro (.int .i64) w]) => (match H[j]? with
      | some (.ext true (.pair (.slice (.int .i64)) (.int .i64)) E _ pre) => K ⟨E, pre, w⟩ [i, j]
      | _ => False)
    | _, _ => False)
  | _ => False
def g66 (M : MM) (x : X66) : Prop := HVC (cy M [HC.ciF (c67 M) pick67] []) Tryz.f93 (c66 M) x
def i42 : CI := inl 51 Tryz.f51 (cx [] [])
@[reducible] def c64 : HC where
  f := 75
  X := List Int
  Hs xs := [.row 3 (.int .i64) 0 xs]
  ags _ := [.c (.own 0 0)]
  Pre xs := xs.length ≤ 1000000
  res _ := .tup []
  out xs := [.row 3 (.int .i64) 0 (sortF xs)]
  fr _ := false
@[reducible] def pick64 : Pick (List Int) := fun args H K => match args with
  | [.c (.own i _)] => (match H[i]? with
    | some (.row _ (.int .i64) _ xs) => K xs [i]
    | _ => False)
  | _ => False
@[reducible] def c65 : HC where
  f := 76
  X := List Int
  Hs xs := [.row 3 (.int .i64) 0 xs]
  ags _ := [.c (.own 0 0)]
  Pre xs := xs.length ≤ 1000000
  res xs := .c (.ro (.int .i64) (compF xs))
  out _ := [.dead]
  fr _ := false
@[reducible] def R41 (w : List Int) : RAnn where
  a := true
  T := tSub
  go := goT
  gen := subsF w
  preC := [(0, 0, 3, .int .i64)]
  ents pre := [(0, .blk 22 [.own 2 1]), (2, .row 3 (.int .i64) 0 (pre.map Prod.snd))]
  fin _ := []
  ex := .ret
  place := 0
@[reducible] def p41 : PC := ⟨37, [aIs], [aB], fun w => w.length ≤ 13 ∧ ∀ v ∈ w, -1000000 ≤ v ∧ v ≤ 1000000, distF⟩
def g41 (M : MM) (w : List Int) : Prop := p41.VC (cr M [i42, (c66 M).ci pick66, c64.ci pick64, c65.ci pick64] [] [(0, fun _ => R41 w)]) Tryz.f37 w
end
end Go.SX.We

/- Chapter 08: slices.Sort and slices.Compact: the library's contracts, laid at this program. -/
namespace Go.Proofs
open Go.Shelf
def Tryz.lays189_ren : Go.Shelf.Ren := ⟨fun | 189 => 75 | 125 => 104 | 257 => 103 | 128 => 120 | 129 => 121 | 294 => 111 | 295 => 112 | 296 => 113 | 297 => 114 | 298 => 115 | 299 => 116 | 216 => 117 | 300 => 118 | 301 => 119 | 328 => 126 | 329 => 127 | 330 => 128 | 331 => 129 | 332 => 130 | 215 => 110 | 343 => 131 | n => n, fun | 28 => 22 | 3 => 3 | 46 => 119 | 0 => 0 | 51 => 118 | 53 => 115 | 4 => 4 | 183 => 146 | 182 => 145 | 131 => 151 | 5 => 5 | 9 => 9 | 218 => 157 | 222 => 161 | 228 => 163 | 229 => 164 | n => n, fun | n => n⟩
theorem Tryz.lays189 : Go.Proofs.Lays.n189 Tryz.prog Tryz.lays189_ren := {
  mixed := by kernel_rfl
  f125 := Tryz.func104.trans (congrArg some (by kernel_rfl))
  f128 := Tryz.func120.trans (congrArg some (by kernel_rfl))
  f129 := Tryz.func121.trans (congrArg some (by kernel_rfl))
  f189 := Tryz.func75.trans (congrArg some (by kernel_rfl))
  f215 := Tryz.func110.trans (congrArg some (by kernel_rfl))
  f216 := Tryz.func117.trans (congrArg some (by kernel_rfl))
  f257 := Tryz.func103.trans (congrArg some (by kernel_rfl))
  f294 := Tryz.func111.trans (congrArg some (by kernel_rfl))
  f295 := Tryz.func112.trans (congrArg some (by kernel_rfl))
  f296 := Tryz.func113.trans (congrArg some (by kernel_rfl))
  f297 := Tryz.func114.trans (congrArg some (by kernel_rfl))
  f298 := Tryz.func115.trans (congrArg some (by kernel_rfl))
  f299 := Tryz.func116.trans (congrArg some (by kernel_rfl))
  f300 := Tryz.func118.trans (congrArg some (by kernel_rfl))
  f301 := Tryz.func119.trans (congrArg some (by kernel_rfl))
  f328 := Tryz.func126.trans (congrArg some (by kernel_rfl))
  f329 := Tryz.func127.trans (congrArg some (by kernel_rfl))
  f330 := Tryz.func128.trans (congrArg some (by kernel_rfl))
  f331 := Tryz.func129.trans (congrArg some (by kernel_rfl))
  f332 := Tryz.func130.trans (congrArg some (by kernel_rfl))
  f343 := Tryz.func131.trans (congrArg some (by kernel_rfl))
  t0 := Tryz.underlying0
  a0 := Tryz.isAgg0
  z0 := Tryz.sizeOf0
  v0 := Tryz.zeroValue0
  t3 := Tryz.underlying3
  a3 := Tryz.isAgg3
  z3 := Tryz.sizeOf3
  v3 := Tryz.zeroValue3
  t4 := Tryz.underlying4
  a4 := Tryz.isAgg4
  z4 := Tryz.sizeOf4
  v4 := Tryz.zeroValue4
  t5 := Tryz.underlying5
  a5 := Tryz.isAgg5
  z5 := Tryz.sizeOf5
  v5 := Tryz.zeroValue5
  t9 := Tryz.underlying9
  a9 := Tryz.isAgg9
  z9 := Tryz.sizeOf9
  v9 := Tryz.zeroValue9
  t28 := Tryz.underlying22
  a28 := Tryz.isAgg22
  z28 := Tryz.sizeOf22
  v28 := Tryz.zeroValue22
  t46 := Tryz.underlying119
  a46 := Tryz.isAgg119
  z46 := Tryz.sizeOf119
  v46 := Tryz.zeroValue119
  t51 := Tryz.underlying118
  a51 := Tryz.isAgg118
  z51 := Tryz.sizeOf118
  v51 := Tryz.zeroValue118
  t53 := Tryz.underlying115
  a53 := Tryz.isAgg115
  z53 := Tryz.sizeOf115
  v53 := Tryz.zeroValue115
  t131 := Tryz.underlying151
  a131 := Tryz.isAgg151
  z131 := Tryz.sizeOf151
  v131 := Tryz.zeroValue151
  t182 := Tryz.underlying145
  a182 := Tryz.isAgg145
  z182 := Tryz.sizeOf145
  v182 := Tryz.zeroValue145
  t183 := Tryz.underlying146
  a183 := Tryz.isAgg146
  z183 := Tryz.sizeOf146
  v183 := Tryz.zeroValue146
  t218 := Tryz.underlying157
  a218 := Tryz.isAgg157
  z218 := Tryz.sizeOf157
  v218 := Tryz.zeroValue157
  t222 := Tryz.underlying161
  a222 := Tryz.isAgg161
  z222 := Tryz.sizeOf161
  v222 := Tryz.zeroValue161
  t228 := Tryz.underlying163
  a228 := Tryz.isAgg163
  z228 := Tryz.sizeOf163
  v228 := Tryz.zeroValue163
  t229 := Tryz.underlying164
  a229 := Tryz.isAgg164
  z229 := Tryz.sizeOf164
  v229 := Tryz.zeroValue164 }
open Go.Sort Go.RowKit in
theorem Tryz.slices_Sort_int (blk off cap : Nat) (zs : List Int) (w : World) (hH : Holds (Value.int .i64) w blk off zs.toArray) (hblk : blk < w.heap.size) (hsz : zs.length < 4611686018427387904) :
    Calls Tryz.prog 75 #[.slice (some ⟨blk, off, none⟩) zs.length cap] w fun e w' =>
      e = .returned (.tuple #[]) ∧ ∃ n os, w' = grow (putRow (Value.int .i64) (Sort.ahead w n) blk off (zs.mergeSort fun x y => decide (x ≤ y)).toArray) os := Any.slices_Sort_int Tryz.lays189 blk off cap zs w hH hblk hsz
def Tryz.laysNm220_ren : Go.Shelf.Ren := ⟨fun | 20 => 76 | n => n, fun | 22 => 22 | 3 => 3 | 4 => 4 | 0 => 0 | n => n, fun | n => n⟩
theorem Tryz.laysNm220 : Go.Proofs.Lays2.n20 Tryz.prog Tryz.laysNm220_ren := {
  mixed := by kernel_rfl
  f20 := Tryz.func76.trans (congrArg some (by kernel_rfl))
  t0 := Tryz.underlying0
  a0 := Tryz.isAgg0
  z0 := Tryz.sizeOf0
  v0 := Tryz.zeroValue0
  t3 := Tryz.underlying3
  a3 := Tryz.isAgg3
  z3 := Tryz.sizeOf3
  v3 := Tryz.zeroValue3
  t4 := Tryz.underlying4
  a4 := Tryz.isAgg4
  z4 := Tryz.sizeOf4
  v4 := Tryz.zeroValue4
  t22 := Tryz.underlying22
  a22 := Tryz.isAgg22
  z22 := Tryz.sizeOf22
  v22 := Tryz.zeroValue22
  i3 := by kernel_rfl }
open Go.RowKit Go.Lib Go.Sort in
theorem Tryz.slices_Compact_int (blk off cap : Nat) (zs : List Int) (w : World) (hH : Holds (Value.int .i64) w blk off zs.toArray) (hsz : zs.length ≤ 9223372036854775807) (hcap : zs.length ≤ cap) :
    Calls Tryz.prog 76 #[.slice (some ⟨blk, off, none⟩) zs.length cap] w fun e w' => e = .returned (.slice (some ⟨blk, off, none⟩) (Lib.compact zs).length cap) ∧ ∃ q, w' = putRow (Value.int .i64) (Sort.ahead w q) blk off (Lib.compact zs ++ List.replicate (zs.length - (Lib.compact zs).length) 0).toArray := Any.slices_Compact_int Tryz.laysNm220 blk off cap zs w hH hsz hcap
open Go.RowKit Go.Lib Go.Sort in
theorem Tryz.slices_Compact_int_empty (a : Option Addr) (cap : Nat) (w : World) :
    Calls Tryz.prog 76 #[.slice a 0 cap] w fun e w' => e = .returned (.slice a 0 cap) ∧ w' = w := Any.slices_Compact_int_empty Tryz.laysNm220 a cap w
open Go.RowKit Go.Sort in
theorem Tryz.slices_Sort_int_none (p : Option Addr) (cap : Nat) (w : World) :
    Calls Tryz.prog 75 #[.slice p 0 cap] w fun e w' => e = .returned (.tuple #[]) ∧ w' = w := Any.slices_Sort_int_none Tryz.lays189 p cap w
end Go.Proofs

/- Chapter 08: slices.Sort and slices.Compact, as contracts over rows. -/
namespace Go.SX.We
open Go Go.Proofs Go.RowKit Go.Sort
section
variable {B : Nat} {X : Nat → Prop} {w : World} {H : List Ent} {g : Gh} {i ver : Nat} {e : TypeId} {xs : List Int}
theorem elems_ints {ok : Nat → Prop} {cells : List Value} (hl : cells.length = xs.length) : ElemsAt (Ty.Rep w ok (.int .i64)) 1 xs (fun k => cells[k]?) ↔ cells = xs.map (Value.int .i64) := by
  constructor
  · intro h
    apply List.ext_getElem?
    intro j
    rw [List.getElem?_map]
    cases hx : xs[j]? with
    | none =>
      rw [List.getElem?_eq_none_iff] at hx
      rw [List.getElem?_eq_none (by omega)]; rfl
    | some x =>
      obtain ⟨c, h1, h2, h3⟩ := h j x hx
      cases h1
      have := h3 0 _ rfl
      simpa using this
  · rintro rfl j x hx
    refine ⟨[.int .i64 x], rfl, rfl, fun k u hk => ?_⟩
    cases k with
    | zero =>
      simp at hk; subst hk
      simp [hx]
    | succ k => simp at hk
theorem row_ints (h : Ent.OK B X w H g i (.row e (.int .i64) ver xs)) : w.ownsRow 0 e 1 (g.v i) xs.length (xs.map (Value.int .i64)) ∧ ∀ b, (g.v i).ownBlock = some b → B ≤ b ∨ X b := by
  obtain ⟨cells, h1, h2, _, h4⟩ := h
  have e := (elems_ints (by simpa [Ty.size] using h1.1)).1 h2
  rw [← e]
  exact ⟨h1, h4⟩
theorem ints_row (h : w.ownsRow 0 e 1 (g.v i) xs.length (xs.map (Value.int .i64))) (hm : ∀ b, (g.v i).ownBlock = some b → B ≤ b ∨ X b) : Ent.OK B X w H g i (.row e (.int .i64) ver xs) :=
  ⟨_, h, (elems_ints (by simp)).2 rfl, fun u hu => by obtain ⟨x, _, rfl⟩ := List.mem_map.1 hu; rfl, hm⟩
end
theorem sortF_length (l : List Int) : (sortF l).length = l.length := by simp [sortF]
theorem compF_length (l : List Int) : (compF l).length ≤ l.length := by
  unfold compF Lib.compact Lib.compactUpTo
  rw [List.length_map]
  exact Nat.le_trans (List.length_filter_le ..) (by simp)
theorem h64 : HeapOK Tryz.prog c64 := by
  refine ⟨⟨Tryz.f75, by kernel_rfl, by kernel_rfl, by kernel_rfl⟩, fun zs hz B X w0 g w vals hs ha => ?_⟩
  obtain ⟨hl, hr⟩ := ha
  match vals, hl with
  | [v], _ =>
  have hv : OwnRep (c64.Hs zs) g 0 0 v := (hr 0 _ v rfl rfl).2
  have hv : v = g.v 0 := hv.2 rfl
  obtain ⟨ho, hm⟩ := row_ints (hs.ents 0 _ rfl)
  rcases ho.2 with ⟨e1, e2⟩ | ⟨gb, cap, cur, e1, _, e3, e4, e5, e6, e7⟩
  · rw [e1] at hv; subst hv
    have hz0 : zs = [] := List.eq_nil_of_length_eq_zero e2
    subst hz0
    refine (Tryz.slices_Sort_int_none none 0 w).mono ?_
    rintro e w' ⟨rfl, rfl⟩
    have eo : c64.out [] = c64.Hs [] := by simp [sortF]
    rw [eo]
    exact ⟨_, g, rfl, hs, Evo.refl _ _ _, [], rfl, rfl, fun j p u h => by simp at h⟩
  · rw [e1] at hv; subst hv
    have e7 : cur.toList.take zs.length = zs.map (Value.int .i64) := by rw [← e7, Nat.mul_one]
    refine (Tryz.slices_Sort_int gb 0 cap zs w (holds_of_blockI e3 e7) (Array.getElem?_eq_some_iff.1 e3).1 (Nat.lt_of_le_of_lt hz (by decide))).mono ?_
    rintro e w' ⟨rfl, n, os, rfl⟩
    have hgr := grownBy_sortedI (w := w) (g := gb) (n := n) (os := os) (sortF zs).toArray
    have hown := ownsRow_sortedI (n := n) (os := os) (ss := zs) (ts := sortF zs) (sortF_length zs) (Nat.zero_le gb) e3 e4 e5 e6
    obtain ⟨q1, q2⟩ := hs.upd 0 (.row 3 (.int .i64) 0 zs) (.row 3 (.int .i64) 0 (sortF zs)) rfl rfl (fun _ => rfl) (fun _ _ => rfl) hgr.os hgr.tape hgr.output hgr.size
      (fun b hb hn => hgr.block b hb fun e => hn (by show (g.v 0).ownBlock = some b; rw [e1]; exact e.symm)) (fun b hb => .inl hb)
      (fun _ _ _ _ e => by cases e; exact ⟨0, zs, rfl, .inr ⟨rfl, (sortF_length zs).symm, rfl⟩⟩)
      (fun _ => ints_row (by rw [sortF_length, e1]; exact hown) hm)
    exact ⟨_, g, rfl, q1, q2, [], rfl, rfl, fun j p u h => by simp at h⟩
theorem h65 : HeapOK Tryz.prog c65 := by
  refine ⟨⟨Tryz.f76, by kernel_rfl, by kernel_rfl, by kernel_rfl⟩, fun zs hz B X w0 g w vals hs ha => ?_⟩
  obtain ⟨hl, hr⟩ := ha
  match vals, hl with
  | [v], _ =>
  have hv : OwnRep (c65.Hs zs) g 0 0 v := (hr 0 _ v rfl rfl).2
  have hv : v = g.v 0 := hv.2 rfl
  obtain ⟨ho, hm⟩ := row_ints (hs.ents 0 _ rfl)
  have dead (w' : World) (ho : w'.os = w.os) (ht : w'.tape = w.tape) (hp : w'.output = w.output) (hsz : w.heap.size ≤ w'.heap.size) (hh : ∀ b, b < w.heap.size → ¬ (Ent.row 3 (.int .i64) 0 zs).blocks g 0 b → w'.heap[b]? = w.heap[b]?) :=
    hs.upd (w1 := w') (g1 := g) 0 (.row 3 (.int .i64) 0 zs) .dead rfl rfl (fun _ => rfl) (fun _ _ => rfl) ho ht hp hsz hh (fun b hb => hb.elim) (fun _ _ _ _ e => by cases e) (fun _ => trivial)
  rcases ho.2 with ⟨e1, e2⟩ | ⟨gb, cap, cur, e1, _, e3, e4, e5, e6, e7⟩
  · rw [e1] at hv; subst hv
    have hz0 : zs = [] := List.eq_nil_of_length_eq_zero e2
    subst hz0
    refine (Tryz.slices_Compact_int_empty none 0 w).mono ?_
    rintro e w' ⟨rfl, rfl⟩
    obtain ⟨q1, q2⟩ := dead w' rfl rfl rfl (Nat.le_refl _) (fun _ _ _ => rfl)
    exact ⟨_, g, rfl, q1, q2, none, 0, rfl, Nat.le_refl _, fun h => (h rfl).elim⟩
  · rw [e1] at hv; subst hv
    have e7 : cur.toList.take zs.length = zs.map (Value.int .i64) := by rw [← e7, Nat.mul_one]
    have hblk : gb < w.heap.size := (Array.getElem?_eq_some_iff.1 e3).1
    refine (Tryz.slices_Compact_int gb 0 cap zs w (holds_of_blockI e3 e7) (Nat.le_trans hz (by decide)) e4).mono ?_
    rintro e w' ⟨rfl, n, hw⟩
    have hw : w' = grow (putRow (Value.int .i64) (Sort.ahead w n) gb 0 (compF zs ++ List.replicate (zs.length - (compF zs).length) 0).toArray) #[] := by rw [grow_empty]; exact hw
    have hlen : (compF zs ++ List.replicate (zs.length - (compF zs).length) 0).length = zs.length := by
      have := compF_length zs
      rw [List.length_append, List.length_replicate]; omega
    have hgr := grownBy_sortedI (w := w) (g := gb) (n := n) (os := #[]) (compF zs ++ List.replicate (zs.length - (compF zs).length) 0).toArray
    have hown := ownsRow_sortedI (n := n) (os := #[]) (ss := zs) (ts := compF zs ++ List.replicate (zs.length - (compF zs).length) 0) hlen (Nat.zero_le gb) e3 e4 e5 e6
    rw [← hw] at hgr hown
    obtain ⟨q1, q2⟩ := dead w' hgr.os hgr.tape hgr.output hgr.size
      (fun b hb hn => hgr.block b hb fun e => hn (by show (g.v 0).ownBlock = some b; rw [e1]; exact e.symm))
    refine ⟨_, g, rfl, q1, q2, some ⟨gb, 0, none⟩, cap, rfl, Nat.le_trans (compF_length zs) e4, fun _ => ⟨_, rfl, Nat.lt_of_lt_of_le hblk hgr.size, ⟨hs.okB _ (hm gb (by rw [e1]; rfl)), fun ⟨i, e, hi, hb⟩ => ?_⟩, ?_⟩⟩
    · cases i with
      | zero => simp at hi; subst hi; exact hb
      | succ i => simp at hi
    · intro j x hx
      refine ⟨[.int .i64 x], rfl, rfl, fun k u hk => ?_⟩
      have hj : j < (compF zs).length := (List.getElem?_eq_some_iff.1 hx).1
      have hc := compF_length zs
      cases k with
      | zero =>
        simp at hk; subst hk
        have hcell := hown.cellAt j (by omega)
        rw [show Ty.size (.int .i64) = 1 from rfl]
        have ea : Addr.add ⟨gb, 0, none⟩ (j * 1 + 0) = ⟨gb, j, none⟩ := by
          unfold Addr.add; simp
          intro h; exact h.symm
        show w'.cell? (Addr.add ⟨gb, 0, none⟩ (j * 1 + 0)) = _
        rw [ea, hcell, List.getElem?_map, List.getElem?_append_left hj, hx]
        rfl
      | succ k => simp at hk
end Go.SX.We

/- Printed by VC.lean: what the executor asks. -/
namespace Go.SX.We
open Go Go.Proofs IntKind List
theorem g66_eq (M : MM) (x : X66) : g66 M x = (True ∧ (Ent.ext true tSub x.E true x.pre = Ent.ext true tSub x.E true x.pre ∧ True) ∧ (x.w = x.w ∧ (nilT Int = nilT Int ∧ (0 : Int) = 0 ∧ True) ∧ x.E.yv = x.E.yv ∧ True) ∧ P67 M (X67.mk x.E x.pre x.w [] 0) ∧ True ∧ (x.w = x.w ∧ True) ∧ Ent.ext true tSub x.E (feed x.E.go x.pre (subsF x.w)).fst (feed x.E.go x.pre (subsF x.w)).snd = Ent.ext true tSub x.E (X67.mk x.E x.pre x.w (nilT Int) 0).fed.fst (X67.mk x.E x.pre x.w (nilT Int) 0).fed.snd ∧ True) := by kernel_rfl
theorem g41_eq (M : MM) (w : List Int) : g41 M w = (True ∧ (some (Ent.blk (22 : Nat) [SC.ro (Ty.int IntKind.i64) w]) = some (Ent.blk (22 : Nat) [SC.ro (Ty.int IntKind.i64) w]) ∧ True) ∧ ((True ∧ True) ∧ (w = w ∧ True) ∧ nilT Int = List.map Prod.snd (nilT (List Int × Int)) ∧ True) ∧ (∀ (pre : List (List Int × Int)) (x : List Int × Int) (r : List (List Int × Int)), subsF w = pre ++ x :: r → true = true ∧ Small ((List.map Prod.snd pre).length + ((0 : Nat) + 1)) ∧ (true = true ∧ true = true) ∧ (True ∧ True) ∧ True ∧ List.map Prod.snd pre ++ [x.snd] = List.map Prod.snd (pre ++ [x]) ∧ True) ∧ (∀ (E : Ext true tSub), E.go = goT → (∀ (pre : List (List Int × Int)) (x : List Int × Int) (r : List (List Int × Int)), subsF w = pre ++ x :: r → E.may pre x) → M true tSub E → True ∧ ((w = w ∧ True) ∧ Ent.ext true tSub E true (nilT (List Int × Int)) = Ent.ext true tSub E true (nilT (List Int × Int)) ∧ True) ∧ (E.yv = E.yv ∧ True ∧ True) ∧ P67 M (X66.mk E [] w).to ∧ (3 : Nat) = (3 : Nat) ∧ some (Ent.ext true tSub E (feed E.go (nilT (List Int × Int)) (subsF w)).fst (feed E.go (nilT (List Int × Int)) (subsF w)).snd) = some (Ent.ext true tSub E (feed goT (nilT (List Int × Int)) (subsF w)).fst (feed goT (nilT (List Int × Int)) (subsF w)).snd) ∧ some (Ent.blk (22 : TypeId) [SC.ro (Ty.int IntKind.i64) w]) = some (Ent.blk (22 : Nat) [SC.ro (Ty.int IntKind.i64) w]) ∧ True) ∧ ((feed goT (nilT (List Int × Int)) (subsF w)).fst = true → True ∧ (List.map Prod.snd (feed goT (nilT (List Int × Int)) (subsF w)).snd = List.map Prod.snd (feed goT (nilT (List Int × Int)) (subsF w)).snd ∧ True) ∧ (True ∧ True) ∧ (List.map Prod.snd (feed goT [] (subsF w)).snd).length ≤ 1000000 ∧ True ∧ (sortF (List.map Prod.snd (feed goT (nilT (List Int × Int)) (subsF w)).snd) = sortF (List.map Prod.snd (feed goT (nilT (List Int × Int)) (subsF w)).snd) ∧ True) ∧ (True ∧ True) ∧ (sortF (List.map Prod.snd (feed goT [] (subsF w)).snd)).length ≤ 1000000 ∧ true = true ∧ decide ((↑(compF (sortF (List.map Prod.snd (feed goT (nilT (List Int × Int)) (subsF w)).snd))).length : Int) = (↑(List.map Prod.snd (feed goT (nilT (List Int × Int)) (subsF w)).snd).length : Int)) = distF w) ∧ ((feed goT (nilT (List Int × Int)) (subsF w)).fst = false → true = true ∧ false = distF w)) := by kernel_rfl
end Go.SX.We

/- Chapter 08: 'distinct' and what it leads to, proved. -/
namespace Go.SX.We
open Go Go.Proofs
theorem restF_length (w : List Int) : ∀ n l s, (restF w n l s).length + 1 = 2 ^ n
  | 0, _, _ => rfl
  | n + 1, l, s => by
    have h1 := restF_length w n (l ++ [((w.length - (n + 1) : Nat) : Int)]) (s + w.getD (w.length - (n + 1)) 0)
    have h2 := restF_length w n l s
    simp only [restF, List.length_append, List.length_cons, Nat.pow_succ]
    omega
theorem subsF_length (w : List Int) : (subsF w).length = 2 ^ w.length := restF_length w _ _ _
theorem subsF_short {w : List Int} (h : w.length ≤ 13) : (subsF w).length ≤ 8192 := by
  rw [subsF_length]
  exact Nat.pow_le_pow_right (by decide) h
theorem sub66 (x : X66) : x.to.gen = subsF x.w := by
  show genF x.w (leftN x.w []) [] 0 = _
  have : leftN x.w [] = x.w.length := by simp [leftN, fromF]
  rw [this]; rfl
theorem P66_mk {M : MM} {E : Ext true tSub} {pre : List tSub.den} {w : List Int} (hM : M true tSub E) (each : ∀ r1 y r2, subsF w = r1 ++ y :: r2 → E.may (pre ++ r1) y) (hl : w.length ≤ 30) (hw : ∀ v ∈ w, -1000000 ≤ v ∧ v ≤ 1000000) : P67 M (X66.mk E pre w).to where
  may := hM
  each r1 y r2 h := each r1 y r2 (by rw [← h]; exact (sub66 ⟨E, pre, w⟩).symm)
  len := hl
  from0 := by show 0 ≤ fromF [] ∧ fromF [] ≤ _; simp [fromF]
  wts := hw
  sum := by show -1000000 * fromF [] ≤ 0 ∧ (0 : Int) ≤ 1000000 * fromF []; simp [fromF]
  long := by show (([] : List Int).length : Int) ≤ fromF []; simp [fromF]
theorem g66_ok (M : MM) (x : X66) (h : P67 M x.to) : g66 M x := by
  refine (g66_eq M x).mpr ?_
  have e : x.to.fed = feed x.E.go x.pre (subsF x.w) := by rw [← sub66]; rfl
  have e2 : (X67.mk x.E x.pre x.w [] 0).fed = feed x.E.go x.pre (subsF x.w) := e
  simp only [pp1, eq_self, and_true, true_and, and_self, e2]
  exact h
theorem pick67_ok : ∀ args H K, pick67 args H K → ∃ x js, K x js := by
  intro args H K h
  unfold pick67 at h
  split at h
  · split at h
    · split at h
      · split at h
        · exact ⟨_, _, h⟩
        · rename_i u
          cases hu : isNil u with
          | true => rw [hu] at h; exact ⟨_, _, h⟩
          | false => rw [hu] at h; exact h.elim
        · exact h.elim
      · exact h.elim
    · exact h.elim
  · exact h.elim
theorem pick66_ok : ∀ args H K, pick66 args H K → ∃ x js, K x js := by
  intro args H K h
  unfold pick66 at h
  split at h
  · split at h
    · split at h
      · exact ⟨_, _, h⟩
      · exact h.elim
    · exact h.elim
  · exact h.elim
theorem pick64_ok : ∀ args H K, pick64 args H K → ∃ x js, K x js := by
  intro args H K h
  unfold pick64 at h
  split at h
  · split at h
    · exact ⟨_, _, h⟩
    · exact h.elim
  · exact h.elim
theorem h66 : HeapOK Tryz.prog (c66 (callM Tryz.prog)) :=
  heap_flat (fn := Tryz.f93) (by kernel_rfl) (by kernel_rfl) (by kernel_rfl) (fun x => ⟨trivial, trivial, trivial⟩) (fun _ => cy (callM Tryz.prog) [HC.ciF (c67 (callM Tryz.prog)) pick67] [])
    (fun _ => cy_ok (cs := [HC.ciF (c67 (callM Tryz.prog)) pick67]) ⟨HeapOK.ciF h67 (fun _ => ⟨trivial, trivial⟩) pick67_ok, trivial⟩ _) (fun x hx => g66_ok _ x hx)
theorem i42_ok : i42.OK Tryz.prog := inl_ok (cx_ok (cs := []) trivial []) (by kernel_rfl) (by kernel_rfl) (by kernel_rfl)
theorem i66_ok : ((c66 (callM Tryz.prog)).ci pick66).OK Tryz.prog := h66.ci (fun _ => ⟨trivial, trivial, trivial⟩) pick66_ok
theorem i64_ok : (c64.ci pick64).OK Tryz.prog := h64.ci (fun _ => ⟨trivial, trivial⟩) pick64_ok
theorem i65_ok : (c65.ci pick64).OK Tryz.prog := h65.ci (fun _ => ⟨trivial, trivial⟩) pick64_ok
theorem g41_ok (M : MM) (w : List Int) (h : p41.Pre w) : g41 M w := by
  obtain ⟨hl, hw⟩ := h
  refine (g41_eq M w).mpr ?_
  have hs := subsF_short hl
  have hsm : ∀ n : Nat, n ≤ 8193 → Small n := fun n h => by unfold Small; omega
  simp only [pp1, eq_self, and_true, true_and, and_self, feed_goT, List.nil_append, List.map_nil, List.map_append, List.map_cons]
  refine ⟨fun pre x r h => ?_, fun E hg he hM => ⟨P66_mk hM he (by omega) hw, ?_⟩, fun _ => ⟨by simp; omega, by rw [sortF_length]; simp; omega, ?_⟩, fun h => by cases h⟩
  · have : pre.length < (subsF w).length := by rw [h]; simp
    exact hsm _ (by simp; omega)
  · rw [hg, feed_goT]; rfl
  · unfold distF
    rw [decide_eq_decide]
    show _ ↔ (compF (sortF ((subsF w).map Prod.snd))).length = ((subsF w).map Prod.snd).length
    omega
theorem c41_ok : p41.OK Tryz.prog := p41.ok (fun w => cr (callM Tryz.prog) [i42, (c66 (callM Tryz.prog)).ci pick66, c64.ci pick64, c65.ci pick64] [] [(0, fun _ => R41 w)])
  (fun w => cr_ok (cs := [i42, (c66 (callM Tryz.prog)).ci pick66, c64.ci pick64, c65.ci pick64]) ⟨i42_ok, i66_ok, i64_ok, i65_ok, trivial⟩ _ _) (by kernel_rfl) (by kernel_rfl) (by kernel_rfl) (fun w h => g41_ok _ w h)
end Go.SX.We

/- Chapter 08: the rows' common ground: the arguments' types. -/
namespace Go.SX.We
open Go Go.Proofs
set_option maxRecDepth 100000 in
theorem tyU : TyM Tryz.prog 5 (.int .u8) := .int Tryz.underlying5
set_option maxRecDepth 100000 in
theorem tyW : TyM Tryz.prog 73 (.int .u16) := .int Tryz.underlying73
set_option maxRecDepth 100000 in
theorem tyWs : TyM Tryz.prog 37 (.slice (.int .u16)) := .slice Tryz.underlying37 (by kernel_rfl) tyW
set_option maxRecDepth 100000 in
theorem slice_rep {W : World} {ok : Nat → Prop} {T : Ty} {y : (Ty.slice T).den} {t e : TypeId} {v : Value} {base : Nat} (ht : Tryz.prog.underlying t = some (.slice e)) (hv : Value.okWide Tryz.prog W .any base t v)
    (h : (Ty.slice T).Rep W ok y v.cells.toList) : (Ty.slice T).Rep W ok y [v] := by
  obtain ⟨a, len, cap, rfl⟩ := WideShapes.okWide_slice ht hv
  exact h
set_option maxRecDepth 100000 in
theorem int_rep {W : World} {ok : Nat → Prop} {k k' : IntKind} {y : Int} {t : TypeId} {v : Value} {base : Nat} (ht : Tryz.prog.underlying t = some (.int k')) (hv : Value.okWide Tryz.prog W .any base t v)
    (h : (Ty.int k).Rep W ok y v.cells.toList) : (Ty.int k).Rep W ok y [v] := by
  obtain ⟨n, rfl⟩ := WideShapes.okWide_int ht hv
  exact h
theorem wfu {x : (Ty.int .u8).den} (h : Ty.Wf (.int .u8) x) : 0 ≤ x ∧ x ≤ 255 := by
  have e1 : IntKind.u8.min = 0 := by decide
  have e2 : IntKind.u8.max = 255 := by decide
  unfold Ty.Wf at h
  rw [e1, e2] at h
  exact h
theorem wfw {x : (Ty.int .u16).den} (h : Ty.Wf (.int .u16) x) : 0 ≤ x ∧ x ≤ 65535 := by
  have e1 : IntKind.u16.min = 0 := by decide
  have e2 : IntKind.u16.max = 65535 := by decide
  unfold Ty.Wf at h
  rw [e1, e2] at h
  exact h
theorem wfWs {x : (Ty.slice (.int .u16)).den} (h : Ty.Wf (.slice (.int .u16)) x) : ∀ b ∈ x, 0 ≤ b ∧ b ≤ 65535 := fun b hb => wfw (h.2 b hb)
theorem own : ownKnob Tryz.prog.godebug = none := by kernel_rfl
theorem laidOut : laidOutB Tryz.prog = true := by kernel_rfl
end Go.SX.We
