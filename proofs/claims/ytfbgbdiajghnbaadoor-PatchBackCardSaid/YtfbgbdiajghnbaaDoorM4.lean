/- Parts of the proof, one after the other: PaP PaN Pa1 PaR Pa1E Pa1Q Pa2 Pa2E Pa2Q PaTr Pa3 Pa3E Pa4 Pa4E Pa4Q Pa5 Pa6 Pa6E Pa6Q Pa7 Pa7E Pa7Q. -/
import Derived.Test.YtfbgbdiajghnbaaDoorM3
import Derived.Lib.SlTrimSet
import Derived.Test.YtfbgbdiajghnbaaDoorProg
import Derived.Ground.NamesProg
import Derived.Shelf.Lay
import Derived.Shelf.Strings.SlTrimAscii
/- Chapter 06 in plain words: what the functions of the packages compute. -/
namespace Go.SX.Pa

abbrev Ed := Int × Int
abbrev Cl := Int × Int × Int
theorem peta {α β : Type} (p : α × β) : (p.1, p.2) = p := rfl
theorem pp1 {p q : Prop} : (p → p ∧ q) ↔ (p → q) := ⟨fun h hp => (h hp).2, fun h hp => ⟨hp, h hp⟩⟩

/-- Are three numbers those of a Clos network? -/
def ClosP (n r m : Int) : Prop := (1 ≤ n ∧ n ≤ 12) ∧ (1 ≤ r ∧ r ≤ 12) ∧ n * r ≤ 12 ∧ 1 ≤ m ∧ m ≤ 12
instance {n r m : Int} : Decidable (ClosP n r m) := by unfold ClosP; infer_instance
def strictF (n r m : Int) : Bool × Int := if ClosP n r m then (decide (2 * n - 1 ≤ m ∨ r = 1 ∧ n ≤ m), 0) else (false, 1)
def waksF (k : Int) : Int × Int := if 1 ≤ k ∧ k ≤ 20 then ((k - 1) * 2 ^ k.toNat + 1, 0) else (0, 1)
def switchesF (k : Int) : Int := (2 * k - 1) * 2 ^ (k - 1).toNat
/-- A permutation of the numbers below n. -/
def PermP (l : List Int) (n : Int) : Prop := (l.length : Int) = n ∧ (∀ x ∈ l, 0 ≤ x ∧ x < n) ∧ l.Nodup
instance {l : List Int} {n : Int} : Decidable (PermP l n) := by unfold PermP; infer_instance
def seenR (n : Int) (l : List Int) : List Bool := (List.range n.toNat).map fun i : Nat => decide ((i : Int) ∈ l)
def readF (n r m : Int) (perm : List Int) : Cl × Int := ((n, r, m), if ClosP n r m then (if PermP perm (n * r) then 0 else 2) else 1)
def edgesTo (n : Int) (perm : List Int) (k : Nat) : List Ed := (List.range k).map fun i : Nat => ((i : Int) / n, perm.getD i 0 / n)
def edgesF (n : Int) (perm : List Int) : List Ed := edgesTo n perm perm.length
def touch (es : List Ed) (c : List Int) (i j : Nat) : Bool := decide (c.getD j 0 = c.getD i 0 ∧ ((es.getD j (0, 0)).1 = (es.getD i (0, 0)).1 ∨ (es.getD j (0, 0)).2 = (es.getD i (0, 0)).2))
def clashF (es : List Ed) (c : List Int) (i : Nat) : Bool := (List.range i).any (touch es c i)
end Go.SX.Pa
namespace Go.SX.Pa
/-- Counting in a map. -/
def addT (es : List (Int × Int)) (v : Int) : List (Int × Int) := insF es v ((lookF es v).getD 0 + 1)
abbrev DegSt := List (Int × Int) × List (Int × Int) × Int
def degStep (s : DegSt) (e : Ed) : DegSt := (addT s.1 e.1, addT s.2.1 e.2, max (max s.2.2 ((lookF (addT s.1 e.1) e.1).getD 0)) ((lookF (addT s.2.1 e.2) e.2).getD 0))
def degTo (es : List Ed) (k : Nat) : DegSt := (es.take k).foldl degStep ([], [], 0)
def degF (es : List Ed) : Int := (degTo es es.length).2.2
/-- The first colouring with the numbers below m that begins with 'out', f more edges to be coloured. -/
def extF (es : List Ed) (m : Nat) : Nat → List Int → Option (List Int)
  | 0, out => some out
  | f + 1, out => (List.range m).findSome? fun c : Nat => if clashF es (out ++ [(c : Int)]) out.length = true then none else extF es m f (out ++ [(c : Int)])
def extR (es : List Ed) (m : Int) (out : List Int) : Option (List Int) := extF es m.toNat (es.length - out.length) out
def loopOut (out : List Int) : Nat → List Int
  | 0 => out
  | k + 1 => out ++ [(k : Int)]
def noExt (es : List Ed) (m : Int) (out : List Int) (k : Nat) : Prop := ∀ c : Nat, c < k → clashF es (out ++ [(c : Int)]) out.length = true ∨ extR es m (out ++ [(c : Int)]) = none
def colF (es : List Ed) (m : Int) : Option (List Int) := if degF es ≤ m then extR es m [] else none
def routeF (n r m : Int) (perm : List Int) : List Int × Int :=
  if ClosP n r m then (if PermP perm (n * r) then (match colF (edgesF n perm) m with | some l => (l, 0) | none => ([], 5)) else ([], 2)) else ([], 1)
def badEd (a c : Int) (e : Ed) : Bool := decide (min e.1 e.2 < 0 ∨ a ≤ e.1 ∨ c ≤ e.2)
def colorsF (a c : Int) (es : List Ed) : List Int × Int :=
  if 12 < es.length then ([], 3) else if min a c < 1 ∨ 6 < max a c ∨ es.any (badEd a c) = true then ([], 1) else ((colF es (degF es)).getD [], 0)
end Go.SX.Pa
namespace Go.SX.Pa
def xr (a b : Int) : Int := bitsF .xor .i64 a b
def hN (k : Nat) : Nat := 2 ^ (k - 1)
def swN (k : Nat) : Nat := (2 * k - 1) * 2 ^ (k - 1)
def elF (h n : Nat) (s : ByteArray) (p0 p1 : List Int) (x : Nat) : Int :=
  let part := xr ((x : Int) % 2) (bt (s.extract 0 h) (x / 2) - 48)
  let at_ := (if part = 0 then p0 else p1).getD (x / 2) 0
  xr (2 * at_ + part) (bt (s.extract (h + 2 * n) s.size) at_.toNat - 48)
/-- The permutation of settings (of 2^k inputs). -/
def applyF : Nat → ByteArray → List Int
  | 0, _ => []
  | 1, s => [bt s 0 - 48, 1 - (bt s 0 - 48)]
  | k + 2, s => (List.range (2 * hN (k + 2))).map (elF (hN (k + 2)) (swN (k + 1)) s (applyF (k + 1) (s.extract (hN (k + 2)) (hN (k + 2) + swN (k + 1)))) (applyF (k + 1) (s.extract (hN (k + 2) + swN (k + 1)) (hN (k + 2) + 2 * swN (k + 1)))))
def applyEl (k : Nat) (s : ByteArray) (x : Nat) : Int := elF (hN k) (swN (k - 1)) s (applyF (k - 1) (s.extract (hN k) (hN k + swN (k - 1)))) (applyF (k - 1) (s.extract (hN k + swN (k - 1)) (hN k + 2 * swN (k - 1)))) x
def applyTo (k : Nat) (s : ByteArray) (x : Nat) : List Int := (List.range x).map (applyEl k s) ++ List.replicate (2 * hN k - x) 0
def Bits (s : ByteArray) : Prop := ∀ i, i < s.size → bt s i = 48 ∨ bt s i = 49
def applyP (k : Int) (s : ByteArray) : List Int × Int := if 1 ≤ k ∧ k ≤ 3 then (if s.size = swN k.toNat ∧ Lib.trimS s.data.toList [48, 49] = [] then (applyF k.toNat s, 0) else ([], 2)) else ([], 1)
def beforeF : List Int → List Int → Bool
  | _, [] => false
  | [], _ :: _ => true
  | x :: a, y :: b => if x = y then beforeF a b else decide (x < y)
/-- The letters of a number as settings. -/
def letters (x n : Nat) : List Int := (List.range n).map fun i => (48 + (x >>> i) % 2 : Nat)
def writ (x n : Nat) : ByteArray := strOf (letters x n)
def waysTo (k : Nat) (perm : List Int) (x : Nat) : Nat := (List.range x).countP fun y => decide (applyF k (writ y (swN k)) = perm)
def waysF (k : Int) (perm : List Int) : Int × Int := if 1 ≤ k ∧ k ≤ 2 then (if PermP perm (2 ^ k.toNat) then (waysTo k.toNat perm (2 ^ swN k.toNat), 0) else (0, 2)) else (0, 1)
end Go.SX.Pa
namespace Go.SX.Pa
def letTo (x n i : Nat) : List Int := (letters x n).take i ++ List.replicate (n - i) 0
def cmpTo (a b : List Int) (i : Nat) : Bool := (List.range i).all fun j => decide (a.getD j 0 = b.getD j 0)
end Go.SX.Pa

/- Chapter 06 in plain words, part N: permutations by number. -/
namespace Go.SX.Pa
def nthAt (code : List Int) (i : Nat) : Nat := if i < code.length then (code.getD i 0).toNat % (i + 1) else 0
def nthTo (code : List Int) : Nat → List Int
  | 0 => []
  | i + 1 => (nthTo code i).take (nthAt code i) ++ [(i : Int)] ++ (nthTo code i).drop (nthAt code i)
/-- The digits of a number that stand for a permutation. -/
def codeTo (p : Nat) : Nat → List Int × Nat
  | 0 => ([], p)
  | i + 1 => ((codeTo p i).1 ++ [(((codeTo p i).2 % (i + 1) : Nat) : Int)], (codeTo p i).2 / (i + 1))
def permAt (K p : Nat) : List Int := nthTo (codeTo p (2 ^ K)).1 (2 ^ K)
def facN : Nat → Nat
  | 0 => 1
  | i + 1 => (i + 1) * facN i
def sumTo (K : Nat) : Nat → Nat
  | 0 => 0
  | p + 1 => sumTo K p + waysTo K (permAt K p) (2 ^ swN K)
def netF (x : Int × Int × Int) : Int × Int × Int := (x.1 % 12 + 1, x.2.1 % (12 / (x.1 % 12 + 1)) + 1, x.2.2 % 12 + 1)
def graphTo (x : List Ed) (i : Nat) : List Ed := (x.take i).map fun p => (p.1 % 6, p.2 % 6)
def graphX (x : List Ed) : List Ed := graphTo x 12
def Byte2 (p : Ed) : Prop := (0 ≤ p.1 ∧ p.1 ≤ 255) ∧ 0 ≤ p.2 ∧ p.2 ≤ 255
def Byte3 (p : Int × Int × Int) : Prop := (0 ≤ p.1 ∧ p.1 ≤ 255) ∧ (0 ≤ p.2.1 ∧ p.2.1 ≤ 255) ∧ 0 ≤ p.2.2 ∧ p.2.2 ≤ 255
def Bytes (l : List Int) : Prop := l.length ≤ maxLen ∧ ∀ b ∈ l, 0 ≤ b ∧ b ≤ 255
end Go.SX.Pa

/- Chapter 06: the program's functions, what is asked of each. -/
namespace Go.SX.Pa
open Go Go.Proofs

def ti3 : TI := ⟨1, 8, [.int .i64 0], .int .i64, some (.int .i64), false, false⟩
def ti4 : TI := ⟨1, 1, [.bool false], .bool, some .bool, false, false⟩
def ti5 : TI := ⟨1, 1, [.int .u8 0], .int .u8, some (.int .u8), false, false⟩
def ti9 : TI := ⟨1, 16, [.string ⟨#[]⟩], .str, some .str, false, false⟩
def ti22 : TI := ⟨1, 24, [.slice none 0 0], .slice 3, some (.slice (.int .i64)), false, false⟩
def ti36 : TI := ⟨1, 24, [.slice none 0 0], .slice 58, some (.slice (.pair (.int .i64) (.int .i64))), false, false⟩
def ti44 : TI := ⟨1, 24, [.slice none 0 0], .slice 5, some (.slice (.int .u8)), false, false⟩
def ti58 : TI := ⟨2, 16, [.int .i64 0, .int .i64 0], .struct [(0, 3), (1, 3)], some (.pair (.int .i64) (.int .i64)), true, false⟩
def ti81 : TI := ⟨3, 24, [.int .i64 0, .int .i64 0, .int .i64 0], .struct [(0, 3), (1, 3), (2, 3)], some (.pair (.int .i64) (.pair (.int .i64) (.int .i64))), true, false⟩
def ti92 : TI := ⟨1, 24, [.slice none 0 0], .slice 4, some (.slice .bool), false, false⟩
def ti97 : TI := ⟨1, 24, [.slice none 0 0], .slice 22, some (.slice (.slice (.int .i64))), false, false⟩
def ti106 : TI := ⟨2, 48, [.slice none 0 0, .slice none 0 0], .array 2 22, some (.pair (.slice (.int .i64)) (.slice (.int .i64))), false, true⟩
def ti108 : TI := ⟨1, 8, [.map none], .map 3 3, none, false, false⟩
def ti23 : TI := ⟨3, 24, [.int .i64 0, .int .i64 0, .int .i64 0], .array 3 3, some (.pair (.int .i64) (.pair (.int .i64) (.int .i64))), false, false⟩
def ti48 : TI := ⟨1, 24, [.slice none 0 0], .slice 77, some (.slice (.pair (.int .u8) (.int .u8))), false, false⟩
def ti77 : TI := ⟨2, 2, [.int .u8 0, .int .u8 0], .array 2 5, some (.pair (.int .u8) (.int .u8)), false, false⟩
def ti54 : TI := ⟨3, 3, [.int .u8 0, .int .u8 0, .int .u8 0], .array 3 5, some (.pair (.int .u8) (.pair (.int .u8) (.int .u8))), false, false⟩
def tif : TI := ⟨1, 8, [.nilFunc], .other, none, false, false⟩
def tbl : List (TypeId × TI) := [(3, ti3), (25, ti3), (4, ti4), (5, ti5), (9, ti9), (22, ti22), (36, ti36), (44, ti44), (58, ti58), (81, ti81), (92, ti92), (97, ti97), (106, ti106), (108, ti108), (34, tif), (86, tif), (23, ti23), (48, ti48), (77, ti77), (54, ti54)]
theorem tbl_ok : chkAll Tryd.prog tbl = true := by kernel_rfl
theorem mixed : Tryd.prog.follows .mixedOrders = true := by kernel_rfl

abbrev aI : ATy := (false, .int .i64)
abbrev aB : ATy := (false, .bool)
abbrev aS : ATy := (false, .str)
abbrev tEd : Ty := .pair (.int .i64) (.int .i64)
abbrev tCl : Ty := .pair (.int .i64) (.pair (.int .i64) (.int .i64))
abbrev aCl : ATy := (true, tCl)
abbrev aEd : ATy := (true, tEd)
abbrev aEds : ATy := (false, .slice tEd)
abbrev aIs : ATy := (false, .slice (.int .i64))
abbrev aBs : ATy := (false, .slice (.int .u8))
abbrev tB2 : Ty := .pair (.int .u8) (.int .u8)
abbrev aB2 : ATy := (true, tB2)
abbrev aB2s : ATy := (false, .slice tB2)
abbrev aU : ATy := (false, .int .u8)
abbrev aB3 : ATy := (true, .pair (.int .u8) (.pair (.int .u8) (.int .u8)))

@[reducible] noncomputable def cx (cs : List CI) (an : List (Nat × (St → Ann))) : Ctx := ctxOf tbl cs fun n => annOf n an
theorem cx_ok {cs : List CI} (h : CsOK Tryd.prog cs) (an : List (Nat × (St → Ann))) : CtxOK Tryd.prog (cx cs an) := ctx_ok mixed (chkAll_ok tbl_ok) h _
theorem cx0 {an : List (Nat × (St → Ann))}  : CtxOK Tryd.prog (cx [] an) := cx_ok (cs := []) trivial an
theorem cx1 {c1 : CI} {an : List (Nat × (St → Ann))} (h1 : c1.OK Tryd.prog) : CtxOK Tryd.prog (cx [c1] an) := cx_ok (cs := [c1]) ⟨h1, trivial⟩ an
theorem cx2 {c1 c2 : CI} {an : List (Nat × (St → Ann))} (h1 : c1.OK Tryd.prog) (h2 : c2.OK Tryd.prog) : CtxOK Tryd.prog (cx [c1, c2] an) := cx_ok (cs := [c1, c2]) ⟨h1, h2, trivial⟩ an
theorem cx3 {c1 c2 c3 : CI} {an : List (Nat × (St → Ann))} (h1 : c1.OK Tryd.prog) (h2 : c2.OK Tryd.prog) (h3 : c3.OK Tryd.prog) : CtxOK Tryd.prog (cx [c1, c2, c3] an) := cx_ok (cs := [c1, c2, c3]) ⟨h1, h2, h3, trivial⟩ an

noncomputable section
/-- A loop with one counter that starts at 0 and runs to a bound, with further slots. -/
@[reducible] def upToS (n : Nat) (slot : Nat) (keep : List Nat) (ok : Nat → Prop) (more : Nat → List (Nat × SV)) : Ann where
  τ := Nat
  pre := []
  preC := []
  keep := keep
  slots k := (slot, .c (.int .i64 k)) :: more k
  ents _ := []
  ok k := k ≤ n ∧ ok k
  m k := n - k
@[reducible] def upTo (n : Nat) (slot : Nat) (keep : List Nat) (ok : Nat → Prop) : Ann := upToS n slot keep ok fun _ => []

@[reducible] def p54 : PC := ⟨54, [aI, aI, aI], [aCl, aB], fun _ => True, fun p => (p, decide (ClosP p.1 p.2.1 p.2.2))⟩
def g54 (n r m : Int) : Prop := p54.VC (cx [] []) Tryd.f54 (n, r, m)
@[reducible] def p20 : PC := ⟨20, [aI, aI, aI], [aB, aI], fun _ => True, fun p => strictF p.1 p.2.1 p.2.2⟩
def g20 (n r m : Int) : Prop := p20.VC (cx [p54.ci] []) Tryd.f20 (n, r, m)
@[reducible] def p19 : PC := ⟨19, [aI], [aI, aI], fun _ => True, waksF⟩
def g19 (k : Int) : Prop := p19.VC (cx [] []) Tryd.f19 k
@[reducible] def p63 : PC := ⟨63, [aI], [aB], fun _ => True, fun k => decide (1 ≤ k ∧ k ≤ 3)⟩
def g63 (k : Int) : Prop := p63.VC (cx [] []) Tryd.f63 k
@[reducible] def p52 : PC := ⟨52, [aI], [aI], fun k => 1 ≤ k ∧ k ≤ 3, switchesF⟩
def g52 (k : Int) : Prop := p52.VC (cx [] []) Tryd.f52 k
@[reducible] def p51 : PC := ⟨51, [aIs, aI], [aB], fun p => p.1.length ≤ 1000, fun p => decide (PermP p.1 p.2)⟩
@[reducible] def A51 (l : List Int) (n : Int) : Ann where
  τ := Nat
  pre := []
  preC := []
  keep := [0, 1, 5, 14, 15]
  slots k := [(16, .c (.int .i64 k))]
  ents k := [(0, .row 4 .bool 1 (seenR n (l.take k)))]
  ok k := k ≤ l.length ∧ (∀ x ∈ l.take k, 0 ≤ x ∧ x < n) ∧ (l.take k).Nodup
  m k := l.length - k
@[reducible] def C51 (p : List Int × Int) : Ctx := cx [] [(0, fun _ => A51 p.1 p.2)]
def g51 (l : List Int) (n : Int) : Prop := p51.VC (C51 (l, n)) Tryd.f51 (l, n)
@[reducible] def p61 : PC := ⟨61, [aI, aI, aI, aIs], [aCl, aI], fun p => p.2.2.2.length ≤ 1000, fun p => readF p.1 p.2.1 p.2.2.1 p.2.2.2⟩
def g61 (n r m : Int) (l : List Int) : Prop := p61.VC (cx [p54.ci, p51.ci] []) Tryd.f61 (n, r, m, l)
@[reducible] def p62 : PC := ⟨62, [aCl, aIs], [aEds], fun p => p.2.length ≤ 1000 ∧ 1 ≤ p.1.1 ∧ p.1.1 ≤ 12 ∧ ∀ x ∈ p.2, 0 ≤ x ∧ x ≤ 1000, fun p => edgesF p.1.1 p.2⟩
@[reducible] def A62 (n : Int) (l : List Int) : Ann where
  τ := Nat
  pre := [(5, 58, tEd)]
  preC := []
  keep := [1, 2, 8, 9]
  slots k := [(10, .c (.int .i64 k)), (5, .c (.own 1 1))]
  ents k := [(1, .row 58 tEd 0 (edgesTo n l k))]
  ok k := k ≤ l.length
  m k := l.length - k
@[reducible] def C62 (p : Cl × List Int) : Ctx := cx [] [(0, fun _ => A62 p.1.1 p.2)]
def g62 (c : Cl) (l : List Int) : Prop := p62.VC (C62 (c, l)) Tryd.f62 (c, l)
@[reducible] def p66 : PC := ⟨66, [aEds, aIs, aI], [aB], fun p => p.1.length ≤ 1000 ∧ p.2.1.length ≤ 1000 ∧ 0 ≤ p.2.2 ∧ p.2.2 < p.1.length ∧ p.2.2 < p.2.1.length, fun p => clashF p.1 p.2.1 p.2.2.toNat⟩
@[reducible] def C66 (p : List Ed × List Int × Int) : Ctx := cx [] [(0, fun _ => upTo p.2.2.toNat 13 [0, 1, 2, 11, 12] fun k => ∀ j, j < k → touch p.1 p.2.1 p.2.2.toNat j = false)]
def g66 (es : List Ed) (c : List Int) (i : Int) : Prop := p66.VC (C66 (es, c, i)) Tryd.f66 (es, c, i)
end
end Go.SX.Pa

/- Chapter 06: the rows' common ground: the arguments' types. -/
namespace Go.SX.Pa
open Go Go.Proofs
theorem tyI : TyM Tryd.prog 3 (.int .i64) := .int Tryd.underlying3
theorem tyIs : TyM Tryd.prog 22 (.slice (.int .i64)) := .slice Tryd.underlying22 (by kernel_rfl) tyI
theorem tyC : TyM Tryd.prog 23 tCl := .three Tryd.underlying23 (by kernel_rfl) tyI (by kernel_rfl)
theorem tyEd : TyM Tryd.prog 58 tEd := .pair Tryd.underlying58 rfl rfl (by kernel_rfl) (by kernel_rfl) tyI tyI (by kernel_rfl)
theorem tyEds : TyM Tryd.prog 36 (.slice tEd) := .slice Tryd.underlying36 (by kernel_rfl) tyEd
theorem tyU : TyM Tryd.prog 5 (.int .u8) := .int Tryd.underlying5
theorem tyS : TyM Tryd.prog 9 .str := .str Tryd.underlying9
theorem tyBs : TyM Tryd.prog 44 (.slice (.int .u8)) := .slice Tryd.underlying44 (by kernel_rfl) tyU
theorem tyB2 : TyM Tryd.prog 77 (.pair (.int .u8) (.int .u8)) := .two Tryd.underlying77 (by kernel_rfl) tyU (by kernel_rfl)
theorem tyB2s : TyM Tryd.prog 48 (.slice (.pair (.int .u8) (.int .u8))) := .slice Tryd.underlying48 (by kernel_rfl) tyB2
theorem tyB3 : TyM Tryd.prog 54 (.pair (.int .u8) (.pair (.int .u8) (.int .u8))) := .three Tryd.underlying54 (by kernel_rfl) tyU (by kernel_rfl)
set_option maxRecDepth 100000 in
theorem slice_rep {W : World} {ok : Nat → Prop} {T : Ty} {y : (Ty.slice T).den} {t e : TypeId} {v : Value} {base : Nat} (ht : Tryd.prog.underlying t = some (.slice e)) (hv : Value.okWide Tryd.prog W .any base t v)
    (h : (Ty.slice T).Rep W ok y v.cells.toList) : (Ty.slice T).Rep W ok y [v] := by
  obtain ⟨a, len, cap, rfl⟩ := WideShapes.okWide_slice ht hv
  exact h
set_option maxRecDepth 100000 in
theorem int_rep {W : World} {ok : Nat → Prop} {k k' : IntKind} {y : Int} {t : TypeId} {v : Value} {base : Nat} (ht : Tryd.prog.underlying t = some (.int k')) (hv : Value.okWide Tryd.prog W .any base t v)
    (h : (Ty.int k).Rep W ok y v.cells.toList) : (Ty.int k).Rep W ok y [v] := by
  obtain ⟨n, rfl⟩ := WideShapes.okWide_int ht hv
  exact h
set_option maxRecDepth 100000 in
theorem arr_rep {W : World} {ok : Nat → Prop} {T : Ty} {y : T.den} {t e : TypeId} {n : Nat} {v : Value} {base : Nat} (ht : Tryd.prog.underlying t = some (.array n e)) (hv : Value.okWide Tryd.prog W .any base t v)
    (h : T.Rep W ok y v.cells.toList) : ∃ cs : List Value, v = .agg cs.toArray ∧ T.Rep W ok y cs := by
  obtain ⟨cs, rfl⟩ : ∃ cs, v = .agg cs := by
    unfold Value.okWide at hv
    simp only [ht] at hv
    obtain ⟨cs, e, _⟩ := hv
    exact ⟨cs, e⟩
  exact ⟨cs.toList, by simp, h⟩
set_option maxRecDepth 100000 in
theorem str_rep {W : World} {ok : Nat → Prop} {y : ByteArray} {t : TypeId} {v : Value} {base : Nat} (ht : Tryd.prog.underlying t = some .string) (hv : Value.okWide Tryd.prog W .any base t v)
    (h : Ty.str.Rep W ok y v.cells.toList) : Ty.str.Rep W ok y [v] := by
  obtain ⟨n, rfl⟩ := WideShapes.okWide_string ht hv
  exact h
theorem wfU {n : Int} (h : (Ty.int .u8).Wf n) : 0 ≤ n ∧ n ≤ 255 := h
theorem wfBs {l : List Int} (h : (Ty.slice (.int .u8)).Wf l) : Bytes l := h
theorem wfB2 {p : Int × Int} (h : (Ty.pair (.int .u8) (.int .u8)).Wf p) : Byte2 p := h
theorem wfB2s {l : List (Int × Int)} (h : (Ty.slice (.pair (.int .u8) (.int .u8))).Wf l) : l.length ≤ maxLen ∧ ∀ p ∈ l, Byte2 p := h
theorem wfB3 {p : Int × Int × Int} (h : (Ty.pair (.int .u8) (.pair (.int .u8) (.int .u8))).Wf p) : Byte3 p := h
theorem own : ownKnob Tryd.prog.godebug = none := by kernel_rfl
theorem laidOut : laidOutB Tryd.prog = true := by kernel_rfl
end Go.SX.Pa

/- Printed by VC.lean: what the executor asks. -/
namespace Go.SX.Pa
open Go Go.Proofs
theorem g54_eq (n : Int) (r : Int) (m : Int) : g54 n r m = (
 ((1 : Int) ≤ min (min n r) m →
 (1 : Int) ≤ min (min n r) m ∧
 (1 : Int) ≤ min (min n r) m ∧
 (max (max n r) m ≤ (12 : Int) →
 max (max n r) m ≤ (12 : Int) ∧
 max (max n r) m ≤ (12 : Int) ∧
 max (max n r) m ≤ (12 : Int) ∧ Fits IntKind.i64 (n * r) ∧ ((n, r, m), decide (n * r ≤ (12 : Int))) = ((n, r, m), decide (ClosP n r m))) ∧
 (¬max (max n r) m ≤ (12 : Int) →
 ¬max (max n r) m ≤ (12 : Int) ∧ ¬max (max n r) m ≤ (12 : Int) ∧ ¬max (max n r) m ≤ (12 : Int) ∧ ((n, r, m), false) = ((n, r, m), decide (ClosP n r m)))) ∧
 (¬(1 : Int) ≤ min (min n r) m → ¬(1 : Int) ≤ min (min n r) m ∧ ¬(1 : Int) ≤ min (min n r) m ∧ ((n, r, m), false) = ((n, r, m), decide (ClosP n r m)))) := by
 kernel_rfl

theorem g20_eq (n : Int) (r : Int) (m : Int) : g20 n r m = (
 True ∧
 ((!decide (ClosP n r m)) = true → (!decide (ClosP n r m)) = true ∧ (false, (1 : Int)) = strictF n r m) ∧
 ((!decide (ClosP n r m)) = false →
 (!decide (ClosP n r m)) = false ∧
 Fits IntKind.i64 ((2 : Int) * n) ∧
 Fits IntKind.i64 ((2 : Int) * n - (1 : Int)) ∧
 ((2 : Int) * n - (1 : Int) ≤ m → (2 : Int) * n - (1 : Int) ≤ m ∧ (2 : Int) * n - (1 : Int) ≤ m ∧ (true, (0 : Int)) = strictF n r m) ∧
 (¬(2 : Int) * n - (1 : Int) ≤ m →
 ¬(2 : Int) * n - (1 : Int) ≤ m ∧
 ¬(2 : Int) * n - (1 : Int) ≤ m ∧
 (r = (1 : Int) → r = (1 : Int) ∧ r = (1 : Int) ∧ (decide (n ≤ m), (0 : Int)) = strictF n r m) ∧
 (¬r = (1 : Int) → ¬r = (1 : Int) ∧ ¬r = (1 : Int) ∧ (false, (0 : Int)) = strictF n r m)))) := by
 kernel_rfl

theorem g19_eq (k : Int) : g19 k = (
 (k < (1 : Int) → k < (1 : Int) ∧ k < (1 : Int) ∧ ((0 : Int), (1 : Int)) = waksF k) ∧
 (¬k < (1 : Int) →
 ¬k < (1 : Int) ∧
 ¬k < (1 : Int) ∧
 ((20 : Int) < k → (20 : Int) < k ∧ (20 : Int) < k ∧ ((0 : Int), (1 : Int)) = waksF k) ∧
 (¬(20 : Int) < k →
 ¬(20 : Int) < k ∧
 ¬(20 : Int) < k ∧
 Fits IntKind.i64 (k - (1 : Int)) ∧
 ((0 : Int) ≤ k ∧ k < (64 : Int)) ∧
 Fits IntKind.i64 ((k - (1 : Int)) * (2 : Int) ^ k.toNat) ∧
 Fits IntKind.i64 ((k - (1 : Int)) * (2 : Int) ^ k.toNat + (1 : Int)) ∧ ((k - (1 : Int)) * (2 : Int) ^ k.toNat + (1 : Int), (0 : Int)) = waksF k))) := by
 kernel_rfl

theorem g63_eq (k : Int) : g63 k = (
 ((1 : Int) ≤ k → (1 : Int) ≤ k ∧ (1 : Int) ≤ k ∧ decide (k ≤ (3 : Int)) = decide ((1 : Int) ≤ k ∧ k ≤ (3 : Int))) ∧
 (¬(1 : Int) ≤ k → ¬(1 : Int) ≤ k ∧ ¬(1 : Int) ≤ k ∧ false = decide ((1 : Int) ≤ k ∧ k ≤ (3 : Int)))) := by
 kernel_rfl

theorem g52_eq (k : Int) : g52 k = (
 Fits IntKind.i64 ((2 : Int) * k) ∧
 Fits IntKind.i64 ((2 : Int) * k - (1 : Int)) ∧
 Fits IntKind.i64 (k - (1 : Int)) ∧
 ((0 : Int) ≤ k - (1 : Int) ∧ k - (1 : Int) < (64 : Int)) ∧
 Fits IntKind.i64 (((2 : Int) * k - (1 : Int)) * (2 : Int) ^ (k - (1 : Int)).toNat) ∧ ((2 : Int) * k - (1 : Int)) * (2 : Int) ^ (k - (1 : Int)).toNat = switchesF k) := by
 kernel_rfl

theorem g51_eq (l : List Int) (n : Int) : g51 l n = (
 (¬(↑l.length : Int) = n → ¬(↑l.length : Int) = n ∧ false = decide (PermP l n)) ∧
 (¬¬(↑l.length : Int) = n →
 ¬¬(↑l.length : Int) = n ∧
 ((0 : Int) ≤ n ∧ n ≤ n ∧ Small n.toNat) ∧
 (∃ (x0 : Nat),
 (x0 ≤ l.length ∧ (∀ (x : Int), x ∈ List.take x0 l → (0 : Int) ≤ x ∧ x < n) ∧ (List.take x0 l).Nodup) ∧
 (List.replicate n.toNat false = seenR n (List.take x0 l) ∧ True) ∧
 (0 : Int) = (↑x0 : Int) ∧ (↑l.length : Int) = (↑l.length : Int) ∧ l = l ∧ True ∧ l = l ∧ n = n ∧ True) ∧
 ∀ (x : Nat),
 x ≤ l.length ∧ (∀ (x_1 : Int), x_1 ∈ List.take x l → (0 : Int) ≤ x_1 ∧ x_1 < n) ∧ (List.take x l).Nodup →
 ((↑x : Int) < (↑l.length : Int) →
 (↑x : Int) < (↑l.length : Int) ∧
 ((0 : Int) ≤ (↑x : Int) ∧ (↑x : Int) < (↑l.length : Int)) ∧
 (l.getD (↑x : Int).toNat (0 : Int) < (0 : Int) →
 l.getD (↑x : Int).toNat (0 : Int) < (0 : Int) ∧ l.getD (↑x : Int).toNat (0 : Int) < (0 : Int) ∧ false = decide (PermP l n)) ∧
 (¬l.getD (↑x : Int).toNat (0 : Int) < (0 : Int) →
 ¬l.getD (↑x : Int).toNat (0 : Int) < (0 : Int) ∧
 ¬l.getD (↑x : Int).toNat (0 : Int) < (0 : Int) ∧
 (n ≤ l.getD (↑x : Int).toNat (0 : Int) →
 n ≤ l.getD (↑x : Int).toNat (0 : Int) ∧
 n ≤ l.getD (↑x : Int).toNat (0 : Int) ∧ n ≤ l.getD (↑x : Int).toNat (0 : Int) ∧ false = decide (PermP l n)) ∧
 (¬n ≤ l.getD (↑x : Int).toNat (0 : Int) →
 ¬n ≤ l.getD (↑x : Int).toNat (0 : Int) ∧
 ¬n ≤ l.getD (↑x : Int).toNat (0 : Int) ∧
 ¬n ≤ l.getD (↑x : Int).toNat (0 : Int) ∧
 ((0 : Int) ≤ l.getD (↑x : Int).toNat (0 : Int) ∧ l.getD (↑x : Int).toNat (0 : Int) < (↑(seenR n (List.take x l)).length : Int)) ∧
 ((seenR n (List.take x l)).getD (l.getD (↑x : Int).toNat (0 : Int)).toNat false = true →
 (seenR n (List.take x l)).getD (l.getD (↑x : Int).toNat (0 : Int)).toNat false = true ∧
 (seenR n (List.take x l)).getD (l.getD (↑x : Int).toNat (0 : Int)).toNat false = true ∧ false = decide (PermP l n)) ∧
 ((seenR n (List.take x l)).getD (l.getD (↑x : Int).toNat (0 : Int)).toNat false = false →
 (seenR n (List.take x l)).getD (l.getD (↑x : Int).toNat (0 : Int)).toNat false = false ∧
 (seenR n (List.take x l)).getD (l.getD (↑x : Int).toNat (0 : Int)).toNat false = false ∧
 ((0 : Int) ≤ l.getD (↑x : Int).toNat (0 : Int) ∧ l.getD (↑x : Int).toNat (0 : Int) < (↑(seenR n (List.take x l)).length : Int)) ∧
 Fits IntKind.i64 ((↑x : Int) + (1 : Int)) ∧
 ∃ (x' : Nat),
 (x' ≤ l.length ∧ (∀ (x : Int), x ∈ List.take x' l → (0 : Int) ≤ x ∧ x < n) ∧ (List.take x' l).Nodup) ∧
 l.length - x' < l.length - x ∧
 ((seenR n (List.take x l)).set (l.getD (↑x : Int).toNat (0 : Int)).toNat true = seenR n (List.take x' l) ∧ True) ∧
 (↑x : Int) + (1 : Int) = (↑x' : Int) ∧
 (↑l.length : Int) = (↑l.length : Int) ∧ l = l ∧ True ∧ l = l ∧ n = n ∧ True)))) ∧
 (¬(↑x : Int) < (↑l.length : Int) → ¬(↑x : Int) < (↑l.length : Int) ∧ true = decide (PermP l n)))) := by
 kernel_rfl

theorem g61_eq (n : Int) (r : Int) (m : Int) (l : List Int) : g61 n r m l = (
 True ∧
 ((!decide (ClosP n r m)) = true → (!decide (ClosP n r m)) = true ∧ (!decide (ClosP n r m)) = true ∧ ((n, r, m), (1 : Int)) = readF n r m l) ∧
 ((!decide (ClosP n r m)) = false →
 (!decide (ClosP n r m)) = false ∧
 (!decide (ClosP n r m)) = false ∧
 Fits IntKind.i64 (n * r) ∧
 l.length ≤ (1000 : Nat) ∧
 ((!decide (PermP l (n * r))) = true → (!decide (PermP l (n * r))) = true ∧ (!decide (PermP l (n * r))) = true ∧ ((n, r, m), (2 : Int)) = readF n r m l) ∧
 ((!decide (PermP l (n * r))) = false → (!decide (PermP l (n * r))) = false ∧ (!decide (PermP l (n * r))) = false ∧ ((n, r, m), (0 : Int)) = readF n r m l))) := by
 kernel_rfl

theorem g62_eq (c : Cl) (l : List Int) : g62 c l = (
 (∃ (x0 : Nat),
 x0 ≤ l.length ∧
 ((c.fst = c.fst ∧ c.snd.fst = c.snd.fst ∧ c.snd.snd = c.snd.snd ∧ True) ∧ [] = edgesTo c.fst l x0 ∧ True) ∧
 (0 : Int) = (↑x0 : Int) ∧ True ∧ (↑l.length : Int) = (↑l.length : Int) ∧ l = l ∧ True ∧ l = l ∧ True) ∧
 ∀ (x : Nat),
 x ≤ l.length →
 ((↑x : Int) < (↑l.length : Int) →
 (↑x : Int) < (↑l.length : Int) ∧
 ((0 : Int) ≤ (↑x : Int) ∧ (↑x : Int) < (↑l.length : Int)) ∧
 ((0 : Int) ≤ (↑x : Int) ∧ (0 : Int) < c.fst) ∧
 Fits IntKind.i64 ((↑x : Int) / c.fst) ∧
 ((0 : Int) ≤ l.getD (↑x : Int).toNat (0 : Int) ∧ (0 : Int) < c.fst) ∧
 Fits IntKind.i64 (l.getD (↑x : Int).toNat (0 : Int) / c.fst) ∧
 Small ((edgesTo c.fst l x).length + ((0 : Nat) + (1 : Nat))) ∧
 Fits IntKind.i64 ((↑x : Int) + (1 : Int)) ∧
 ∃ (x' : Nat),
 x' ≤ l.length ∧
 l.length - x' < l.length - x ∧
 ((c.fst = c.fst ∧ c.snd.fst = c.snd.fst ∧ c.snd.snd = c.snd.snd ∧ True) ∧
 edgesTo c.fst l x ++ [((↑x : Int) / c.fst, l.getD (↑x : Int).toNat (0 : Int) / c.fst)] = edgesTo c.fst l x' ∧ True) ∧
 (↑x : Int) + (1 : Int) = (↑x' : Int) ∧ True ∧ (↑l.length : Int) = (↑l.length : Int) ∧ l = l ∧ True ∧ l = l ∧ True) ∧
 (¬(↑x : Int) < (↑l.length : Int) → ¬(↑x : Int) < (↑l.length : Int) ∧ edgesTo c.fst l x = edgesF c.fst l)) := by
 kernel_rfl

theorem g66_eq (es : List Ed) (c : List Int) (i : Int) : g66 es c i = (
 ((0 : Int) ≤ (↑(0 : Nat) : Int) ∧ (↑(0 : Nat) : Int) ≤ i ∧ i ≤ (↑es.length : Int)) ∧
 True ∧
 (∃ (x0 : Nat),
 (x0 ≤ i.toNat ∧ ∀ (j : Nat), j < x0 → touch es c i.toNat j = false) ∧
 True ∧
 (0 : Int) = (↑x0 : Int) ∧
 (↑(List.drop (↑(0 : Nat) : Int).toNat (List.take i.toNat es)).length : Int) = (↑(List.drop (↑(0 : Nat) : Int).toNat (List.take i.toNat es)).length : Int) ∧
 List.drop (↑(0 : Nat) : Int).toNat (List.take i.toNat es) = List.drop (↑(0 : Nat) : Int).toNat (List.take i.toNat es) ∧ es = es ∧ c = c ∧ i = i ∧ True) ∧
 ∀ (x : Nat),
 (x ≤ i.toNat ∧ ∀ (j : Nat), j < x → touch es c i.toNat j = false) →
 ((↑x : Int) < (↑(List.drop (↑(0 : Nat) : Int).toNat (List.take i.toNat es)).length : Int) →
 (↑x : Int) < (↑(List.drop (↑(0 : Nat) : Int).toNat (List.take i.toNat es)).length : Int) ∧
 ((0 : Int) ≤ (↑x : Int) ∧ (↑x : Int) < (↑(List.drop (↑(0 : Nat) : Int).toNat (List.take i.toNat es)).length : Int)) ∧
 ((0 : Int) ≤ (↑x : Int) ∧ (↑x : Int) < (↑c.length : Int)) ∧
 ((0 : Int) ≤ i ∧ i < (↑c.length : Int)) ∧
 (c.getD (↑x : Int).toNat (0 : Int) = c.getD i.toNat (0 : Int) →
 c.getD (↑x : Int).toNat (0 : Int) = c.getD i.toNat (0 : Int) ∧
 c.getD (↑x : Int).toNat (0 : Int) = c.getD i.toNat (0 : Int) ∧
 ((0 : Int) ≤ i ∧ i < (↑es.length : Int)) ∧
 (((List.drop (↑(0 : Nat) : Int).toNat (List.take i.toNat es)).getD (↑x : Int).toNat ((0 : Int), (0 : Int))).fst =
 (es.getD i.toNat ((0 : Int), (0 : Int))).fst →
 ((List.drop (↑(0 : Nat) : Int).toNat (List.take i.toNat es)).getD (↑x : Int).toNat ((0 : Int), (0 : Int))).fst =
 (es.getD i.toNat ((0 : Int), (0 : Int))).fst ∧
 ((List.drop (↑(0 : Nat) : Int).toNat (List.take i.toNat es)).getD (↑x : Int).toNat ((0 : Int), (0 : Int))).fst =
 (es.getD i.toNat ((0 : Int), (0 : Int))).fst ∧
 true = clashF es c i.toNat) ∧
 (¬((List.drop (↑(0 : Nat) : Int).toNat (List.take i.toNat es)).getD (↑x : Int).toNat ((0 : Int), (0 : Int))).fst =
 (es.getD i.toNat ((0 : Int), (0 : Int))).fst →
 ¬((List.drop (↑(0 : Nat) : Int).toNat (List.take i.toNat es)).getD (↑x : Int).toNat ((0 : Int), (0 : Int))).fst =
 (es.getD i.toNat ((0 : Int), (0 : Int))).fst ∧
 ¬((List.drop (↑(0 : Nat) : Int).toNat (List.take i.toNat es)).getD (↑x : Int).toNat ((0 : Int), (0 : Int))).fst =
 (es.getD i.toNat ((0 : Int), (0 : Int))).fst ∧
 ((0 : Int) ≤ i ∧ i < (↑es.length : Int)) ∧
 (((List.drop (↑(0 : Nat) : Int).toNat (List.take i.toNat es)).getD (↑x : Int).toNat ((0 : Int), (0 : Int))).snd =
 (es.getD i.toNat ((0 : Int), (0 : Int))).snd →
 ((List.drop (↑(0 : Nat) : Int).toNat (List.take i.toNat es)).getD (↑x : Int).toNat ((0 : Int), (0 : Int))).snd =
 (es.getD i.toNat ((0 : Int), (0 : Int))).snd ∧
 ((List.drop (↑(0 : Nat) : Int).toNat (List.take i.toNat es)).getD (↑x : Int).toNat ((0 : Int), (0 : Int))).snd =
 (es.getD i.toNat ((0 : Int), (0 : Int))).snd ∧
 ((List.drop (↑(0 : Nat) : Int).toNat (List.take i.toNat es)).getD (↑x : Int).toNat ((0 : Int), (0 : Int))).snd =
 (es.getD i.toNat ((0 : Int), (0 : Int))).snd ∧
 true = clashF es c i.toNat) ∧
 (¬((List.drop (↑(0 : Nat) : Int).toNat (List.take i.toNat es)).getD (↑x : Int).toNat ((0 : Int), (0 : Int))).snd =
 (es.getD i.toNat ((0 : Int), (0 : Int))).snd →
 ¬((List.drop (↑(0 : Nat) : Int).toNat (List.take i.toNat es)).getD (↑x : Int).toNat ((0 : Int), (0 : Int))).snd =
 (es.getD i.toNat ((0 : Int), (0 : Int))).snd ∧
 ¬((List.drop (↑(0 : Nat) : Int).toNat (List.take i.toNat es)).getD (↑x : Int).toNat ((0 : Int), (0 : Int))).snd =
 (es.getD i.toNat ((0 : Int), (0 : Int))).snd ∧
 ¬((List.drop (↑(0 : Nat) : Int).toNat (List.take i.toNat es)).getD (↑x : Int).toNat ((0 : Int), (0 : Int))).snd =
 (es.getD i.toNat ((0 : Int), (0 : Int))).snd ∧
 Fits IntKind.i64 ((↑x : Int) + (1 : Int)) ∧
 ∃ (x' : Nat),
 (x' ≤ i.toNat ∧ ∀ (j : Nat), j < x' → touch es c i.toNat j = false) ∧
 i.toNat - x' < i.toNat - x ∧
 True ∧
 (↑x : Int) + (1 : Int) = (↑x' : Int) ∧
 (↑(List.drop (↑(0 : Nat) : Int).toNat (List.take i.toNat es)).length : Int) =
 (↑(List.drop (↑(0 : Nat) : Int).toNat (List.take i.toNat es)).length : Int) ∧
 List.drop (↑(0 : Nat) : Int).toNat (List.take i.toNat es) =
 List.drop (↑(0 : Nat) : Int).toNat (List.take i.toNat es) ∧
 es = es ∧ c = c ∧ i = i ∧ True))) ∧
 (¬c.getD (↑x : Int).toNat (0 : Int) = c.getD i.toNat (0 : Int) →
 ¬c.getD (↑x : Int).toNat (0 : Int) = c.getD i.toNat (0 : Int) ∧
 ¬c.getD (↑x : Int).toNat (0 : Int) = c.getD i.toNat (0 : Int) ∧
 Fits IntKind.i64 ((↑x : Int) + (1 : Int)) ∧
 ∃ (x' : Nat),
 (x' ≤ i.toNat ∧ ∀ (j : Nat), j < x' → touch es c i.toNat j = false) ∧
 i.toNat - x' < i.toNat - x ∧
 True ∧
 (↑x : Int) + (1 : Int) = (↑x' : Int) ∧
 (↑(List.drop (↑(0 : Nat) : Int).toNat (List.take i.toNat es)).length : Int) =
 (↑(List.drop (↑(0 : Nat) : Int).toNat (List.take i.toNat es)).length : Int) ∧
 List.drop (↑(0 : Nat) : Int).toNat (List.take i.toNat es) = List.drop (↑(0 : Nat) : Int).toNat (List.take i.toNat es) ∧
 es = es ∧ c = c ∧ i = i ∧ True)) ∧
 (¬(↑x : Int) < (↑(List.drop (↑(0 : Nat) : Int).toNat (List.take i.toNat es)).length : Int) →
 ¬(↑x : Int) < (↑(List.drop (↑(0 : Nat) : Int).toNat (List.take i.toNat es)).length : Int) ∧ false = clashF es c i.toNat)) := by
 kernel_rfl

end Go.SX.Pa

/- Chapter 06, part 1: the contracts. -/
namespace Go.SX.Pa
open Go Go.Proofs

theorem yes {p A B : Prop} (h : p) (a : A) : (p → A) ∧ (¬ p → B) := ⟨fun _ => a, fun n => absurd h n⟩
theorem no {p A B : Prop} (h : ¬ p) (a : B) : (p → A) ∧ (¬ p → B) := ⟨fun n => absurd n h, fun _ => a⟩
theorem yesB {b : Bool} {A B : Prop} (h : b = true) (a : A) : (b = true → A) ∧ (b = false → B) := ⟨fun _ => a, fun n => by rw [h] at n; cases n⟩
theorem noB {b : Bool} {A B : Prop} (h : b = false) (a : B) : (b = true → A) ∧ (b = false → B) := ⟨fun n => (by rw [h] at n; cases n), fun _ => a⟩
theorem fits_nat {n : Nat} (h : n ≤ 1000000000) : Fits .i64 ((n : Int) + 1) := fits_i64 (by omega) (by omega)
theorem all_below {p : Nat → Prop} {k : Nat} (h : ∀ b, b < k → p b) (hk : p k) : ∀ b, b < k + 1 → p b := fun b hb => by
  rcases Nat.lt_succ_iff_lt_or_eq.1 hb with h1 | h1
  · exact h b h1
  · subst h1; exact hk
theorem take_mem {α : Type} (l : List α) (d x : α) (k : Nat) (h : k < l.length) : x ∈ l.take (k + 1) ↔ x ∈ l.take k ∨ x = l.getD k d := by
  rw [List.take_add_one, List.mem_append, List.getElem?_eq_getElem h]
  simp [List.getD, List.getElem?_eq_getElem h]
theorem take_snoc {α : Type} (l : List α) (d : α) (k : Nat) (h : k < l.length) : l.take (k + 1) = l.take k ++ [l.getD k d] := by
  rw [List.take_add_one, List.getElem?_eq_getElem h]
  simp [List.getD, List.getElem?_eq_getElem h]
theorem getD_take {α : Type} (l : List α) (d : α) {j k : Nat} (h : j < k) : (l.take k).getD j d = l.getD j d := by
  simp [List.getD, h]
theorem getD_mem {α : Type} (l : List α) (d : α) {k : Nat} (h : k < l.length) : l.getD k d ∈ l := by
  simp [List.getD, List.getElem?_eq_getElem h]

theorem mul_fits {n r : Int} (h1 : 1 ≤ n) (h2 : n ≤ 12) (h3 : 1 ≤ r) (h4 : r ≤ 12) : Fits .i64 (n * r) := by
  have hb : n * r ≤ 12 * 12 := Int.mul_le_mul (by omega) (by omega) (by omega) (by omega)
  have hc : 0 ≤ n * r := Int.mul_nonneg (by omega) (by omega)
  exact fits_i64 (by omega) (by omega)
theorem waks_fits {k : Int} (h1 : 1 ≤ k) (h2 : k ≤ 20) : Fits .i64 ((k - 1) * 2 ^ k.toNat) ∧ Fits .i64 ((k - 1) * 2 ^ k.toNat + 1) := by
  have hp : (2 : Int) ^ k.toNat ≤ 2 ^ 20 := by
    have : (2 : Nat) ^ k.toNat ≤ 2 ^ 20 := Nat.pow_le_pow_right (by omega) (by omega)
    exact_mod_cast this
  have hp0 : (0 : Int) < 2 ^ k.toNat := Int.pow_pos (by omega)
  have h0 : 0 ≤ (k - 1) * 2 ^ k.toNat := Int.mul_nonneg (by omega) (by omega)
  have h2 : (k - 1) * 2 ^ k.toNat ≤ 19 * 2 ^ 20 := Int.mul_le_mul (by omega) hp (by omega) (by omega)
  have e : (2 : Int) ^ 20 = 1048576 := by decide
  rw [e] at h2
  exact ⟨fits_i64 (by omega) (by omega), fits_i64 (by omega) (by omega)⟩

theorem ok54 : p54.OK Tryd.prog := p54.ok (fun _ => cx [] []) (fun _ => cx0) (fn := Tryd.f54) rfl (by decide +kernel) rfl fun (x : Int × Int × Int) _ => by
  obtain ⟨n, r, m⟩ := x
  refine (g54_eq n r m).mpr ?_
  simp only [pp1]
  refine ⟨fun h1 => ⟨fun h2 => ?_, fun h2 => ?_⟩, fun h1 => ?_⟩
  · refine ⟨mul_fits (by omega) (by omega) (by omega) (by omega), ?_⟩
    congr 1
    apply decide_eq_decide.2
    unfold ClosP
    omega
  · congr 1
    symm
    apply decide_eq_false
    unfold ClosP
    omega
  · congr 1
    symm
    apply decide_eq_false
    unfold ClosP
    omega

theorem ok20 : p20.OK Tryd.prog := p20.ok (fun _ => cx [p54.ci] []) (fun _ => cx1 (PC.OK.ci ok54)) (fn := Tryd.f20) rfl (by decide +kernel) rfl fun (x : Int × Int × Int) _ => by
  obtain ⟨n, r, m⟩ := x
  refine (g20_eq n r m).mpr ?_
  simp only [pp1, true_and]
  unfold strictF
  refine ⟨fun h => ?_, fun h => ?_⟩
  · have h : ¬ ClosP n r m := by simpa using h
    rw [if_neg h]
  · have h : ClosP n r m := by simpa using h
    rw [if_pos h]
    have h' := h
    unfold ClosP at h'
    refine ⟨fits_i64 (by omega) (by omega), fits_i64 (by omega) (by omega), fun h1 => ?_, fun h1 => ⟨fun h2 => ?_, fun h2 => ?_⟩⟩
    · rw [decide_eq_true (.inl h1)]
    · congr 1
      apply decide_eq_decide.2
      omega
    · congr 1
      symm
      apply decide_eq_false
      omega

theorem ok19 : p19.OK Tryd.prog := p19.ok (fun _ => cx [] []) (fun _ => cx0) (fn := Tryd.f19) rfl (by decide +kernel) rfl fun (k : Int) _ => by
  refine (g19_eq k).mpr ?_
  simp only [pp1]
  unfold waksF
  refine ⟨fun h => by rw [if_neg (by omega)], fun h => ⟨fun h1 => by rw [if_neg (by omega)], fun h1 => ?_⟩⟩
  have hf := waks_fits (k := k) (by omega) (by omega)
  exact ⟨fits_i64 (by omega) (by omega), ⟨by omega, by omega⟩, hf.1, hf.2, by rw [if_pos (by omega)]⟩

theorem ok63 : p63.OK Tryd.prog := p63.ok (fun _ => cx [] []) (fun _ => cx0) (fn := Tryd.f63) rfl (by decide +kernel) rfl fun (k : Int) _ => by
  refine (g63_eq k).mpr ?_
  simp only [pp1]
  exact ⟨fun h => decide_eq_decide.2 (by omega), fun h => (decide_eq_false (by omega)).symm⟩

theorem ok52 : p52.OK Tryd.prog := p52.ok (fun _ => cx [] []) (fun _ => cx0) (fn := Tryd.f52) rfl (by decide +kernel) rfl fun (k : Int) hk => by
  refine (g52_eq k).mpr ?_
  have hk : 1 ≤ k ∧ k ≤ 3 := hk
  have h3 : k = 1 ∨ k = 2 ∨ k = 3 := by omega
  refine ⟨fits_i64 (by omega) (by omega), fits_i64 (by omega) (by omega), fits_i64 (by omega) (by omega), ⟨by omega, by omega⟩, ?_, rfl⟩
  rcases h3 with rfl | rfl | rfl <;> exact fits_i64 (by decide) (by decide)

theorem seenR_length (n : Int) (l : List Int) : (seenR n l).length = n.toNat := by simp [seenR]
theorem seenR_get {n : Int} {l : List Int} {x : Int} (h0 : 0 ≤ x) (h1 : x < n) : (seenR n l).getD x.toNat false = decide (x ∈ l) := by
  have hlt : x.toNat < n.toNat := by omega
  simp [seenR, List.getD, hlt, Int.toNat_of_nonneg h0]
theorem seenR_set {n : Int} {l : List Int} {x : Int} (h0 : 0 ≤ x) (_h1 : x < n) : (seenR n l).set x.toNat true = seenR n (l ++ [x]) := by
  apply List.ext_getElem
  · simp [seenR]
  · intro i h2 h3
    simp only [seenR, List.getElem_set, List.getElem_map, List.getElem_range, List.mem_append, List.mem_singleton]
    split
    · rename_i h
      symm
      apply decide_eq_true
      right
      omega
    · rename_i h
      apply decide_eq_decide.2
      constructor
      · exact .inl
      · rintro (h4 | h4)
        · exact h4
        · omega
theorem nodup_snoc {l : List Int} {x : Int} (h : l.Nodup) (hx : x ∉ l) : (l ++ [x]).Nodup := by
  rw [List.nodup_append]
  refine ⟨h, by simp, fun a ha b hb => ?_⟩
  simp at hb
  subst hb
  intro e; subst e; exact hx ha

theorem ok51 : p51.OK Tryd.prog := p51.ok C51 (fun _ => cx0) (fn := Tryd.f51) rfl (by decide +kernel) rfl fun (p : List Int × Int) hp => by
  obtain ⟨l, n⟩ := p
  refine (g51_eq l n).mpr ?_
  have hp : l.length ≤ 1000 := hp
  simp only [pp1, eq_self, and_true, and_self, Int.toNat_natCast]
  refine ⟨fun h => (decide_eq_false (fun h2 => h h2.1)).symm, fun h => ?_⟩
  have h : (l.length : Int) = n := by omega
  refine ⟨⟨by omega, by omega, by unfold Small; omega⟩, ⟨0, ⟨by omega, by simp, by simp⟩, ?_, rfl⟩, fun k ⟨hk, hr, hn⟩ => ⟨fun h1 => ?_, fun h1 => ?_⟩⟩
  · unfold seenR
    apply List.ext_getElem
    · simp
    · intro i h2 h3; simp
  · have hk' : k < l.length := by omega
    have hm : l.getD k 0 ∈ l := getD_mem l 0 hk'
    have hno : ∀ (q : Prop), q → (PermP l n → ¬ q) → false = decide (PermP l n) := fun q hq h2 => (decide_eq_false fun h3 => h2 h3 hq).symm
    refine ⟨by omega, fun h2 => hno _ h2 fun h3 => by have := h3.2.1 _ hm; omega, fun h2 => ⟨fun h3 => hno _ h3 fun h4 => by have := h4.2.1 _ hm; omega, fun h3 => ?_⟩⟩
    have b0 : 0 ≤ l.getD k 0 := by omega
    have b1 : l.getD k 0 < n := by omega
    rw [seenR_length, seenR_get b0 b1]
    refine ⟨by omega, fun h4 => ?_, fun h4 => ?_⟩
    · have h4 : l.getD k 0 ∈ l.take k := by simpa using h4
      refine hno _ h4 fun h5 h6 => ?_
      have h7 : (l.take (k + 1)).Nodup := h5.2.2.sublist (List.take_sublist _ _)
      rw [take_snoc l 0 k hk', List.nodup_append] at h7
      exact h7.2.2 _ h6 _ (by simp) rfl
    · have h4 : l.getD k 0 ∉ l.take k := by simpa using h4
      refine ⟨by omega, fits_nat (by omega), k + 1, ⟨by omega, ?_, ?_⟩, by omega, ?_, by simp⟩
      · intro x hx
        rcases (take_mem l 0 x k hk').1 hx with h5 | h5
        · exact hr x h5
        · subst h5; exact ⟨b0, b1⟩
      · rw [take_snoc l 0 k hk']; exact nodup_snoc hn h4
      · rw [take_snoc l 0 k hk', seenR_set b0 b1]
  · have : l.take k = l := List.take_of_length_le (by omega)
    rw [this] at hr hn
    exact (decide_eq_true ⟨h, hr, hn⟩).symm

theorem clos_fits {n r m : Int} (h : ClosP n r m) : 1 ≤ n * r ∧ n * r ≤ 12 := by
  obtain ⟨h1, h2, h3, _⟩ := h
  have : 1 * 1 ≤ n * r := Int.mul_le_mul (by omega) (by omega) (by omega) (by omega)
  omega

theorem ok61 : p61.OK Tryd.prog := p61.ok (fun _ => cx [p54.ci, p51.ci] []) (fun _ => cx2 (PC.OK.ci ok54) (PC.OK.ci ok51)) (fn := Tryd.f61) rfl (by decide +kernel) rfl fun (x : Int × Int × Int × List Int) hx => by
  obtain ⟨n, r, m, l⟩ := x
  refine (g61_eq n r m l).mpr ?_
  have hx : l.length ≤ 1000 := hx
  simp only [pp1, true_and]
  unfold readF
  refine ⟨fun h => ?_, fun h => ?_⟩
  · have h : ¬ ClosP n r m := by simpa using h
    rw [if_neg h]
  · have h : ClosP n r m := by simpa using h
    have hb := clos_fits h
    rw [if_pos h]
    refine ⟨fits_i64 (by omega) (by omega), hx, fun h1 => ?_, fun h1 => ?_⟩
    · have h1 : ¬ PermP l (n * r) := by simpa using h1
      rw [if_neg h1]
    · have h1 : PermP l (n * r) := by simpa using h1
      rw [if_pos h1]

theorem edgesTo_succ (n : Int) (l : List Int) (k : Nat) : edgesTo n l (k + 1) = edgesTo n l k ++ [((k : Int) / n, l.getD k 0 / n)] := by
  simp [edgesTo, List.range_succ]
theorem edgesTo_length (n : Int) (l : List Int) (k : Nat) : (edgesTo n l k).length = k := by simp [edgesTo]

theorem ok62 : p62.OK Tryd.prog := p62.ok C62 (fun _ => cx0) (fn := Tryd.f62) rfl (by decide +kernel) rfl fun (p : Cl × List Int) hp => by
  obtain ⟨c, l⟩ := p
  refine (g62_eq c l).mpr ?_
  obtain ⟨h1, h2, h3, h4⟩ := hp
  have h1 : l.length ≤ 1000 := h1
  have h2 : (1 : Int) ≤ c.1 := h2
  have h3 : c.1 ≤ (12 : Int) := h3
  have h4 : ∀ x : Int, x ∈ l → 0 ≤ x ∧ x ≤ 1000 := h4
  simp only [pp1, eq_self, and_true, true_and, and_self, Int.toNat_natCast]
  refine ⟨⟨0, by omega, rfl, rfl⟩, fun k hk => ⟨fun h5 => ?_, fun h5 => ?_⟩⟩
  · have hk' : k < l.length := by omega
    have hx := h4 _ (getD_mem l 0 hk')
    have q1 : (k : Int) / c.1 ≤ k := Int.ediv_le_self _ (by omega)
    have q2 : 0 ≤ (k : Int) / c.1 := Int.ediv_nonneg (by omega) (by omega)
    have q3 : l.getD k 0 / c.1 ≤ l.getD k 0 := Int.ediv_le_self _ (by omega)
    have q4 : 0 ≤ l.getD k 0 / c.1 := Int.ediv_nonneg (by omega) (by omega)
    refine ⟨by omega, by omega, fits_i64 (by omega) (by omega), by omega, fits_i64 (by omega) (by omega), ?_, fits_nat (by omega), k + 1, by omega, by omega, (edgesTo_succ _ _ _).symm, by simp⟩
    rw [edgesTo_length]; unfold Small; omega
  · have : k = l.length := by omega
    subst this
    rfl

theorem touch_clash {es : List Ed} {c : List Int} {i j : Nat} (hj : j < i) (h : touch es c i j = true) : clashF es c i = true := List.any_eq_true.2 ⟨j, List.mem_range.2 hj, h⟩
theorem no_clash {es : List Ed} {c : List Int} {i : Nat} (h : ∀ j, j < i → touch es c i j = false) : clashF es c i = false := by
  unfold clashF
  rw [List.any_eq_false]
  intro j hj
  rw [h j (List.mem_range.1 hj)]
  simp

theorem ok66 : p66.OK Tryd.prog := p66.ok C66 (fun _ => cx0) (fn := Tryd.f66) rfl (by decide +kernel) rfl fun (p : List Ed × List Int × Int) hp => by
  obtain ⟨es, c, i⟩ := p
  refine (g66_eq es c i).mpr ?_
  obtain ⟨h1, h2, h3, h4, h5⟩ := hp
  have h1 : es.length ≤ 1000 := h1
  have h2 : c.length ≤ 1000 := h2
  have h3 : (0 : Int) ≤ i := h3
  have h4 : i < (es.length : Int) := h4
  have h5 : i < (c.length : Int) := h5
  simp only [pp1, eq_self, and_true, true_and, and_self, Int.toNat_natCast, List.drop_zero]
  have hl : (es.take i.toNat).length = i.toNat := by rw [List.length_take]; omega
  rw [hl]
  refine ⟨by omega, ⟨0, ⟨by omega, fun j hj => by omega⟩, rfl⟩, fun k ⟨hk, hb⟩ => ⟨fun h6 => ?_, fun h6 => ?_⟩⟩
  · have hk' : k < i.toNat := by omega
    rw [getD_take es (0, 0) hk']
    have step : touch es c i.toNat k = false → Fits IntKind.i64 ((k : Int) + 1) ∧ ∃ x', (x' ≤ i.toNat ∧ ∀ (j : Nat), j < x' → touch es c i.toNat j = false) ∧ i.toNat - x' < i.toNat - k ∧ (k : Int) + 1 = (x' : Nat) := fun h =>
      ⟨fits_nat (by omega), k + 1, ⟨by omega, all_below hb h⟩, by omega, by simp⟩
    refine ⟨by omega, by omega, by omega, fun e1 => ⟨by omega, fun e2 => ?_, fun e2 => ⟨by omega, fun e3 => ?_, fun e3 => step ?_⟩⟩, fun e1 => step ?_⟩
    · exact (touch_clash hk' (decide_eq_true ⟨e1, .inl e2⟩)).symm
    · exact (touch_clash hk' (decide_eq_true ⟨e1, .inr e3⟩)).symm
    · exact decide_eq_false fun h => h.2.elim e2 e3
    · exact decide_eq_false fun h => e1 h.1
  · have : k = i.toNat := by omega
    subst this
    exact (no_clash hb).symm
end Go.SX.Pa

/- Chapter 06, part 2: colourings. -/
namespace Go.SX.Pa
open Go Go.Proofs
noncomputable section
@[reducible] def p59 : PC := ⟨59, [aEds], [aI], fun es => es.length ≤ 1000, degF⟩
@[reducible] def A59 (es : List Ed) : Ann where
  τ := Nat
  pre := []
  preC := []
  keep := [3, 4, 10, 11]
  slots k := [(12, .c (.int .i64 k)), (5, .c (.int .i64 (degTo es k).2.2))]
  ents k := [(0, .tab false (.int .i64) (degTo es k).1), (1, .tab false (.int .i64) (degTo es k).2.1)]
  ok k := k ≤ es.length
  m k := es.length - k
@[reducible] def C59 (es : List Ed) : Ctx := cx [] [(0, fun _ => A59 es)]
def g59 (es : List Ed) : Prop := p59.VC (C59 es) Tryd.f59 es

@[reducible] def H72 : HC where
  f := 72
  X := List Ed × Int × List Int
  Hs x := [.blk 22 [.own 4 0], .blk 36 [.ro tEd x.1], .blk 3 [.int .i64 x.2.1], .blk 34 [.fn 72 [0, 1, 2, 3]], .row 3 (.int .i64) 0 x.2.2]
  ags _ := [.c (.ptr 0 0), .c (.ptr 1 0), .c (.ptr 2 0), .c (.ptr 3 0)]
  Pre x := x.2.2.length ≤ x.1.length ∧ x.1.length ≤ 1000 ∧ 0 ≤ x.2.1 ∧ x.2.1 ≤ 1000
  res x := .c (.bool 0 (extR x.1 x.2.1 x.2.2).isSome)
  out x := [.blk 22 [.own 4 1], .blk 36 [.ro tEd x.1], .blk 3 [.int .i64 x.2.1], .blk 34 [.fn 72 [0, 1, 2, 3]], .row 3 (.int .i64) 1 ((extR x.1 x.2.1 x.2.2).getD x.2.2)]
  fr i := Nat.beq i 4
@[reducible] def pick72 (es : List Ed) (m : Int) (j : Nat) (js : List Nat) : Pick H72.X := fun _ H K => match H[j]? with
  | some (.row _ t _ xs) => if h : t = .int .i64 then K (es, m, (h ▸ xs : List (Ty.int .i64).den)) js else False
  | _ => False
@[reducible] def m72 (x : H72.X) : Nat := x.1.length - x.2.2.length
@[reducible] def A72 (es : List Ed) (m : Int) (out : List Int) : Ann where
  τ := Nat
  pre := []
  preC := []
  keep := [0, 1, 2, 3, 5, 13]
  slots k := [(14, .c (.int .i64 k))]
  ents k := [(0, .blk 22 [.own 4 1]), (4, .row 3 (.int .i64) 0 (loopOut out k))]
  ok k := (k : Int) ≤ m ∧ noExt es m out k
  m k := m.toNat - k
@[reducible] def C72 (x : H72.X) : Ctx := cx [p66.ci, (H72.below m72 (m72 x)).ci (pick72 x.1 x.2.1 4 [0, 1, 2, 3, 4])] [(0, fun _ => A72 x.1 x.2.1 x.2.2)]
def g72 (es : List Ed) (m : Int) (out : List Int) : Prop := HVC (C72 (es, m, out)) Tryd.f72 H72 (es, m, out)

@[reducible] def n58 : NC := ⟨58, [aEds, aI], .int .i64, fun p => p.1.length ≤ 1000 ∧ 0 ≤ p.2 ∧ p.2 ≤ 1000, fun p => colF p.1 p.2⟩
@[reducible] def C58 (p : List Ed × Int) : Ctx := cx [p59.ci, H72.ci (pick72 p.1 p.2 2 [3, 0, 1, 4, 2])] []
def g58 (es : List Ed) (m : Int) : Prop := NilVC (C58 (es, m)) Tryd.f58 n58 (es, m)
end
end Go.SX.Pa

/- Printed by VC.lean: what the executor asks. -/
namespace Go.SX.Pa
open Go Go.Proofs
theorem g59_eq (es : List Ed) : g59 es = (
 (∃ (x0 : Nat),
 x0 ≤ es.length ∧
 ([] = (degTo es x0).fst ∧ [] = (degTo es x0).snd.fst ∧ True) ∧
 (0 : Int) = (↑x0 : Int) ∧ (0 : Int) = (degTo es x0).snd.snd ∧ (↑es.length : Int) = (↑es.length : Int) ∧ es = es ∧ True ∧ True ∧ True) ∧
 ∀ (x : Nat),
 x ≤ es.length →
 ((↑x : Int) < (↑es.length : Int) →
 (↑x : Int) < (↑es.length : Int) ∧
 ((0 : Int) ≤ (↑x : Int) ∧ (↑x : Int) < (↑es.length : Int)) ∧
 Fits IntKind.i64 ((lookF (degTo es x).fst (es.getD (↑x : Int).toNat ((0 : Int), (0 : Int))).fst).getD (0 : Int) + (1 : Int)) ∧
 Fits IntKind.i64 ((lookF (degTo es x).snd.fst (es.getD (↑x : Int).toNat ((0 : Int), (0 : Int))).snd).getD (0 : Int) + (1 : Int)) ∧
 Fits IntKind.i64 ((↑x : Int) + (1 : Int)) ∧
 ∃ (x' : Nat),
 x' ≤ es.length ∧
 es.length - x' < es.length - x ∧
 (insF (degTo es x).fst (es.getD (↑x : Int).toNat ((0 : Int), (0 : Int))).fst
 ((lookF (degTo es x).fst (es.getD (↑x : Int).toNat ((0 : Int), (0 : Int))).fst).getD (0 : Int) + (1 : Int)) =
 (degTo es x').fst ∧
 insF (degTo es x).snd.fst (es.getD (↑x : Int).toNat ((0 : Int), (0 : Int))).snd
 ((lookF (degTo es x).snd.fst (es.getD (↑x : Int).toNat ((0 : Int), (0 : Int))).snd).getD (0 : Int) + (1 : Int)) =
 (degTo es x').snd.fst ∧
 True) ∧
 (↑x : Int) + (1 : Int) = (↑x' : Int) ∧
 max
 (max (degTo es x).snd.snd
 ((lookF
 (insF (degTo es x).fst (es.getD (↑x : Int).toNat ((0 : Int), (0 : Int))).fst
 ((lookF (degTo es x).fst (es.getD (↑x : Int).toNat ((0 : Int), (0 : Int))).fst).getD (0 : Int) + (1 : Int)))
 (es.getD (↑x : Int).toNat ((0 : Int), (0 : Int))).fst).getD
 (0 : Int)))
 ((lookF
 (insF (degTo es x).snd.fst (es.getD (↑x : Int).toNat ((0 : Int), (0 : Int))).snd
 ((lookF (degTo es x).snd.fst (es.getD (↑x : Int).toNat ((0 : Int), (0 : Int))).snd).getD (0 : Int) + (1 : Int)))
 (es.getD (↑x : Int).toNat ((0 : Int), (0 : Int))).snd).getD
 (0 : Int)) =
 (degTo es x').snd.snd ∧
 (↑es.length : Int) = (↑es.length : Int) ∧ es = es ∧ True ∧ True ∧ True) ∧
 (¬(↑x : Int) < (↑es.length : Int) → ¬(↑x : Int) < (↑es.length : Int) ∧ (degTo es x).snd.snd = degF es)) := by
 kernel_rfl

theorem g72_eq (es : List Ed) (m : Int) (out : List Int) : g72 es m out = (
 ((↑out.length : Int) = (↑es.length : Int) →
 (↑out.length : Int) = (↑es.length : Int) ∧
 true = (extR es m out).isSome ∧ (True ∧ True) ∧ (es = es ∧ True) ∧ (m = m ∧ True) ∧ (True ∧ True) ∧ out = (extR es m out).getD out ∧ True) ∧
 (¬(↑out.length : Int) = (↑es.length : Int) →
 ¬(↑out.length : Int) = (↑es.length : Int) ∧
 (∃ (x0 : Nat),
 ((↑x0 : Int) ≤ m ∧ ∀ (c : Nat), c < x0 → clashF es (out ++ [(↑c : Int)]) out.length = true ∨ extR es m (out ++ [(↑c : Int)]) = none) ∧
 ((True ∧ True) ∧ (es = es ∧ True) ∧ (m = m ∧ True) ∧ (True ∧ True) ∧ out = loopOut out x0 ∧ True) ∧
 (0 : Int) = (↑x0 : Int) ∧ m = m ∧ (↑out.length : Int) = (↑out.length : Int) ∧ True ∧ True ∧ True ∧ True ∧ True) ∧
 ∀ (x : Nat),
 ((↑x : Int) ≤ m ∧ ∀ (c : Nat), c < x → clashF es (out ++ [(↑c : Int)]) out.length = true ∨ extR es m (out ++ [(↑c : Int)]) = none) →
 ((↑x : Int) < m →
 (↑x : Int) < m ∧
 ((0 : Int) ≤ (↑out.length : Int) ∧ (↑out.length : Int) ≤ (↑(loopOut out x).length : Int)) ∧
 Small ((↑out.length : Int).toNat + ((0 : Nat) + (1 : Nat))) ∧
 (es.length ≤ (1000 : Nat) ∧
 (List.take (↑out.length : Int).toNat (loopOut out x) ++ [(↑x : Int)]).length ≤ (1000 : Nat) ∧
 (0 : Int) ≤ (↑out.length : Int) ∧
 (↑out.length : Int) < (↑es.length : Int) ∧
 (↑out.length : Int) < (↑(List.take (↑out.length : Int).toNat (loopOut out x) ++ [(↑x : Int)]).length : Int)) ∧
 ((!clashF es (List.take (↑out.length : Int).toNat (loopOut out x) ++ [(↑x : Int)]) (↑out.length : Int).toNat) = true →
 (!clashF es (List.take (↑out.length : Int).toNat (loopOut out x) ++ [(↑x : Int)]) (↑out.length : Int).toNat) = true ∧
 (!clashF es (List.take (↑out.length : Int).toNat (loopOut out x) ++ [(↑x : Int)]) (↑out.length : Int).toNat) = true ∧
 True ∧
 ((True ∧ True) ∧
 (es = es ∧ True) ∧
 (m = m ∧ True) ∧
 (True ∧ True) ∧
 List.take (↑out.length : Int).toNat (loopOut out x) ++ [(↑x : Int)] =
 List.take (↑out.length : Int).toNat (loopOut out x) ++ [(↑x : Int)] ∧
 True) ∧
 (True ∧ True ∧ True ∧ True ∧ True) ∧
 (((List.take (↑out.length : Int).toNat (loopOut out x) ++ [(↑x : Int)]).length ≤ es.length ∧
 es.length ≤ (1000 : Nat) ∧ (0 : Int) ≤ m ∧ m ≤ (1000 : Int)) ∧
 m72 (es, m, List.take (↑out.length : Int).toNat (loopOut out x) ++ [(↑x : Int)]) < m72 (es, m, out)) ∧
 ((extR es m (List.take (↑out.length : Int).toNat (loopOut out x) ++ [(↑x : Int)])).isSome = true →
 (extR es m (List.take (↑out.length : Int).toNat (loopOut out x) ++ [(↑x : Int)])).isSome = true ∧
 (extR es m (List.take (↑out.length : Int).toNat (loopOut out x) ++ [(↑x : Int)])).isSome = true ∧
 true = (extR es m out).isSome ∧
 (True ∧ True) ∧
 (es = es ∧ True) ∧
 (m = m ∧ True) ∧
 (True ∧ True) ∧
 (extR es m (List.take (↑out.length : Int).toNat (loopOut out x) ++ [(↑x : Int)])).getD
 (List.take (↑out.length : Int).toNat (loopOut out x) ++ [(↑x : Int)]) =
 (extR es m out).getD out ∧
 True) ∧
 ((extR es m (List.take (↑out.length : Int).toNat (loopOut out x) ++ [(↑x : Int)])).isSome = false →
 (extR es m (List.take (↑out.length : Int).toNat (loopOut out x) ++ [(↑x : Int)])).isSome = false ∧
 (extR es m (List.take (↑out.length : Int).toNat (loopOut out x) ++ [(↑x : Int)])).isSome = false ∧
 Fits IntKind.i64 ((↑x : Int) + (1 : Int)) ∧
 ∃ (x' : Nat),
 ((↑x' : Int) ≤ m ∧
 ∀ (c : Nat), c < x' → clashF es (out ++ [(↑c : Int)]) out.length = true ∨ extR es m (out ++ [(↑c : Int)]) = none) ∧
 m.toNat - x' < m.toNat - x ∧
 ((True ∧ True) ∧
 (es = es ∧ True) ∧
 (m = m ∧ True) ∧
 (True ∧ True) ∧
 (extR es m (List.take (↑out.length : Int).toNat (loopOut out x) ++ [(↑x : Int)])).getD
 (List.take (↑out.length : Int).toNat (loopOut out x) ++ [(↑x : Int)]) =
 loopOut out x' ∧
 True) ∧
 (↑x : Int) + (1 : Int) = (↑x' : Int) ∧
 m = m ∧ (↑out.length : Int) = (↑out.length : Int) ∧ True ∧ True ∧ True ∧ True ∧ True)) ∧
 ((!clashF es (List.take (↑out.length : Int).toNat (loopOut out x) ++ [(↑x : Int)]) (↑out.length : Int).toNat) = false →
 (!clashF es (List.take (↑out.length : Int).toNat (loopOut out x) ++ [(↑x : Int)]) (↑out.length : Int).toNat) = false ∧
 (!clashF es (List.take (↑out.length : Int).toNat (loopOut out x) ++ [(↑x : Int)]) (↑out.length : Int).toNat) = false ∧
 Fits IntKind.i64 ((↑x : Int) + (1 : Int)) ∧
 ∃ (x' : Nat),
 ((↑x' : Int) ≤ m ∧ ∀ (c : Nat), c < x' → clashF es (out ++ [(↑c : Int)]) out.length = true ∨ extR es m (out ++ [(↑c : Int)]) = none) ∧
 m.toNat - x' < m.toNat - x ∧
 ((True ∧ True) ∧
 (es = es ∧ True) ∧
 (m = m ∧ True) ∧ (True ∧ True) ∧ List.take (↑out.length : Int).toNat (loopOut out x) ++ [(↑x : Int)] = loopOut out x' ∧ True) ∧
 (↑x : Int) + (1 : Int) = (↑x' : Int) ∧ m = m ∧ (↑out.length : Int) = (↑out.length : Int) ∧ True ∧ True ∧ True ∧ True ∧ True)) ∧
 (¬(↑x : Int) < m →
 ¬(↑x : Int) < m ∧
 ((0 : Int) ≤ (↑out.length : Int) ∧ (↑out.length : Int) ≤ (↑(loopOut out x).length : Int)) ∧
 false = (extR es m out).isSome ∧
 (True ∧ True) ∧ (es = es ∧ True) ∧ (m = m ∧ True) ∧ (True ∧ True) ∧ List.take (↑out.length : Int).toNat (loopOut out x) = (extR es m out).getD out ∧ True))) := by
 kernel_rfl

theorem g58_eq (es : List Ed) (m : Int) : g58 es m = (
 es.length ≤ (1000 : Nat) ∧
 (m < degF es → m < degF es ∧ colF es m = none) ∧
 (¬m < degF es →
 ¬m < degF es ∧
 ((0 : Int) ≤ (0 : Int) ∧ (0 : Int) ≤ (↑es.length : Int) ∧ Small (↑es.length : Int).toNat) ∧
 True ∧
 ((True ∧ True) ∧
 (es = es ∧ True) ∧ (m = m ∧ True) ∧ (True ∧ True) ∧ List.replicate (Int.toNat (0 : Int)) (0 : Int) = List.replicate (Int.toNat (0 : Int)) (0 : Int) ∧ True) ∧
 (True ∧ True ∧ True ∧ True ∧ True) ∧
 ((List.replicate (Int.toNat (0 : Int)) (0 : Int)).length ≤ es.length ∧ es.length ≤ (1000 : Nat) ∧ (0 : Int) ≤ m ∧ m ≤ (1000 : Int)) ∧
 ((!(extR es m (List.replicate (Int.toNat (0 : Int)) (0 : Int))).isSome) = true →
 (!(extR es m (List.replicate (Int.toNat (0 : Int)) (0 : Int))).isSome) = true ∧ colF es m = none) ∧
 ((!(extR es m (List.replicate (Int.toNat (0 : Int)) (0 : Int))).isSome) = false →
 (!(extR es m (List.replicate (Int.toNat (0 : Int)) (0 : Int))).isSome) = false ∧
 colF es m = some ((extR es m (List.replicate (Int.toNat (0 : Int)) (0 : Int))).getD (List.replicate (Int.toNat (0 : Int)) (0 : Int)))))) := by
 kernel_rfl

end Go.SX.Pa

/- Chapter 06, part 2: the contracts of the colourings. -/
namespace Go.SX.Pa
open Go Go.Proofs

theorem lookF_insF {α : Type} (n : Int) (x : α) (v : Int) : (es : List (Int × α)) → lookF (insF es n x) v = if n = v then some x else lookF es v
  | [] => by simp [insF, lookF]
  | p :: r => by
    unfold insF
    split
    · rename_i h
      simp only [lookF, h]
      split <;> rfl
    · rename_i h
      simp only [lookF]
      rw [lookF_insF n x v r]
      split
      · rename_i h2
        rw [if_neg (by intro e; exact h (h2.trans e.symm))]
      · rfl
theorem look_add (es : List (Int × Int)) (u v : Int) : (lookF (addT es u) v).getD 0 = (lookF es v).getD 0 + if u = v then 1 else 0 := by
  unfold addT
  rw [lookF_insF]
  split
  · rename_i h; subst h; simp
  · simp

theorem degTo_succ (es : List Ed) (k : Nat) (h : k < es.length) : degTo es (k + 1) = degStep (degTo es k) (es.getD k (0, 0)) := by
  unfold degTo
  rw [take_snoc es (0, 0) k h, List.foldl_append]
  rfl
/-- What the maps hold. -/
theorem degTo_look (es : List Ed) (v : Int) (k : Nat) (h : k ≤ es.length) :
    (lookF (degTo es k).1 v).getD 0 = ((es.take k).countP fun e => decide (e.1 = v) : Nat) ∧ (lookF (degTo es k).2.1 v).getD 0 = ((es.take k).countP fun e => decide (e.2 = v) : Nat) := by
  induction k with
  | zero => simp [degTo, lookF]
  | succ k ih =>
    obtain ⟨h1, h2⟩ := ih (by omega)
    rw [degTo_succ es k (by omega), take_snoc es (0, 0) k (by omega), List.countP_append, List.countP_append]
    unfold degStep
    simp only [look_add, h1, h2, List.countP_cons, List.countP_nil, Nat.zero_add, decide_eq_true_eq]
    refine ⟨?_, ?_⟩ <;> split <;> simp
theorem degTo_bound (es : List Ed) (v : Int) (k : Nat) (h : k ≤ es.length) : (0 ≤ (lookF (degTo es k).1 v).getD 0 ∧ (lookF (degTo es k).1 v).getD 0 ≤ es.length) ∧ 0 ≤ (lookF (degTo es k).2.1 v).getD 0 ∧ (lookF (degTo es k).2.1 v).getD 0 ≤ es.length := by
  obtain ⟨h1, h2⟩ := degTo_look es v k h
  rw [h1, h2]
  have l1 : (es.take k).countP (fun e => decide (e.1 = v)) ≤ (es.take k).length := List.countP_le_length
  have l2 : (es.take k).countP (fun e => decide (e.2 = v)) ≤ (es.take k).length := List.countP_le_length
  have : (es.take k).length ≤ es.length := by simp; omega
  omega

theorem ok59 : p59.OK Tryd.prog := p59.ok C59 (fun _ => cx0) (fn := Tryd.f59) rfl (by decide +kernel) rfl fun (es : List Ed) hp => by
  refine (g59_eq es).mpr ?_
  have hp : es.length ≤ 1000 := hp
  simp only [pp1, eq_self, and_true, and_self, Int.toNat_natCast]
  refine ⟨⟨0, by omega, ⟨rfl, rfl⟩, rfl, rfl⟩, fun k hk => ⟨fun h1 => ?_, fun h1 => ?_⟩⟩
  · have hk' : k < es.length := by omega
    have b1 := (degTo_bound es (es.getD k (0, 0)).1 k hk).1
    have b2 := (degTo_bound es (es.getD k (0, 0)).2 k hk).2
    refine ⟨by omega, fits_i64 (by omega) (by omega), fits_i64 (by omega) (by omega), fits_nat (by omega), k + 1, by omega, by omega, ?_⟩
    rw [degTo_succ es k hk']
    refine ⟨⟨rfl, rfl⟩, by simp, rfl⟩
  · have : k = es.length := by omega
    subst this
    rfl

theorem findSome_at {α : Type} {f : Nat → Option α} {m x : Nat} {l : α} (hx : x < m) (h : ∀ c, c < x → f c = none) (hf : f x = some l) : (List.range m).findSome? f = some l := by
  have e : List.range m = List.range x ++ x :: (List.range' (x + 1) (m - x - 1)) := by
    rw [List.range_eq_range', List.range_eq_range', show x :: List.range' (x + 1) (m - x - 1) = List.range' x (m - x - 1 + 1) from rfl, show List.range' 0 x ++ List.range' x (m - x - 1 + 1) = List.range' 0 (x + (m - x - 1 + 1)) by
      have := @List.range'_append 0 x (m - x - 1 + 1) 1
      simpa using this]
    congr 1
    omega
  rw [e, List.findSome?_append]
  have : (List.range x).findSome? f = none := by
    rw [List.findSome?_eq_none_iff]
    intro c hc
    exact h c (List.mem_range.1 hc)
  rw [this]
  simp [hf]
theorem findSome_no {α : Type} {f : Nat → Option α} {m : Nat} (h : ∀ c, c < m → f c = none) : (List.range m).findSome? f = none := by
  rw [List.findSome?_eq_none_iff]
  intro c hc
  exact h c (List.mem_range.1 hc)

theorem extR_done {es : List Ed} {m : Int} {out : List Int} (h : out.length = es.length) : extR es m out = some out := by
  unfold extR
  rw [h, Nat.sub_self]
  rfl
theorem extR_step {es : List Ed} {m : Int} {out : List Int} (h : out.length < es.length) : extR es m out = (List.range m.toNat).findSome? fun c : Nat => if clashF es (out ++ [(c : Int)]) out.length = true then none else extR es m (out ++ [(c : Int)]) := by
  conv => lhs; unfold extR
  obtain ⟨f, hf⟩ : ∃ f, es.length - out.length = f + 1 := ⟨es.length - out.length - 1, by omega⟩
  rw [hf]
  unfold extF
  congr 1
  funext c
  split
  · rfl
  · unfold extR
    rw [List.length_append, List.length_singleton, show es.length - (out.length + 1) = f by omega]
theorem extR_at {es : List Ed} {m : Int} {out l : List Int} {x : Nat} (h : out.length < es.length) (hx : (x : Int) < m) (hn : noExt es m out x) (hc : clashF es (out ++ [(x : Int)]) out.length = false) (he : extR es m (out ++ [(x : Int)]) = some l) : extR es m out = some l := by
  rw [extR_step h]
  refine findSome_at (x := x) (by omega) (fun c hc => ?_) ?_
  · rcases hn c hc with h1 | h1
    · rw [if_pos h1]
    · rw [h1]; split <;> rfl
  · rw [hc]; exact he
theorem extR_no {es : List Ed} {m : Int} {out : List Int} {x : Nat} (h : out.length < es.length) (hx : m ≤ x) (hn : noExt es m out x) : extR es m out = none := by
  rw [extR_step h]
  refine findSome_no fun c hc => ?_
  rcases hn c (by omega) with h1 | h1
  · rw [if_pos h1]
  · rw [h1]; split <;> rfl
theorem take_loopOut (out : List Int) (k : Nat) : (loopOut out k).take out.length = out := by
  cases k <;> simp [loopOut]
theorem loopOut_le (out : List Int) (k : Nat) : out.length ≤ (loopOut out k).length := by
  cases k <;> simp [loopOut]
theorem noExt_succ {es : List Ed} {m : Int} {out : List Int} {x : Nat} (hn : noExt es m out x) (h : clashF es (out ++ [(x : Int)]) out.length = true ∨ extR es m (out ++ [(x : Int)]) = none) : noExt es m out (x + 1) := fun c hc => by
  rcases Nat.lt_succ_iff_lt_or_eq.1 hc with h1 | h1
  · exact hn c h1
  · subst h1; exact h

theorem h72 : HeapOK Tryd.prog H72 := heap_rec (fn := Tryd.f72) m72 rfl (by decide +kernel) rfl (fun _ => ⟨trivial, trivial, trivial, trivial, trivial, trivial⟩) C72
  (fun x h => cx2 (PC.OK.ci ok66) (h.ci (fun _ => ⟨trivial, trivial, trivial, trivial, trivial, trivial⟩) fun args H K hk => by
    unfold pick72 at hk
    split at hk
    · split at hk
      · exact ⟨_, _, hk⟩
      · exact hk.elim
    · exact hk.elim)) fun (x : List Ed × Int × List Int) hx => by
  obtain ⟨es, m, out⟩ := x
  refine (g72_eq es m out).mpr ?_
  obtain ⟨h1, h2, h3, h4⟩ := hx
  have h1 : out.length ≤ es.length := h1
  have h2 : es.length ≤ 1000 := h2
  have h3 : (0 : Int) ≤ m := h3
  have h4 : m ≤ (1000 : Int) := h4
  simp only [pp1, eq_self, and_true, true_and, and_self, Int.toNat_natCast, take_loopOut]
  refine ⟨fun h => ?_, fun h => ⟨⟨0, ⟨by omega, fun c hc => by omega⟩, rfl, rfl⟩, fun k ⟨hk, hn⟩ => ⟨fun h5 => ?_, fun h5 => ?_⟩⟩⟩
  · rw [extR_done (by omega)]
    exact ⟨rfl, rfl⟩
  · have hlt : out.length < es.length := by omega
    have hl := loopOut_le out k
    have hl1 : (out ++ [(k : Int)]).length = out.length + 1 := by simp
    rw [hl1]
    refine ⟨by omega, by unfold Small; omega, by omega, fun h6 => ⟨⟨by omega, ?_⟩, fun h7 => ?_, fun h7 => ?_⟩, fun h6 => ?_⟩
    · show es.length - (out ++ [(k : Int)]).length < es.length - out.length
      rw [hl1]; omega
    · obtain ⟨l, hl⟩ := Option.isSome_iff_exists.1 h7
      have he := extR_at hlt h5 hn (by simpa using h6) hl
      rw [he, hl]
      exact ⟨rfl, rfl⟩
    · have h8 : extR es m (out ++ [(k : Int)]) = none := by simpa using h7
      refine ⟨fits_nat (by omega), k + 1, ⟨by omega, noExt_succ hn (.inr h8)⟩, by omega, ?_, by simp⟩
      rw [h8]; rfl
    · exact ⟨fits_nat (by omega), k + 1, ⟨by omega, noExt_succ hn (.inl (by simpa using h6))⟩, by omega, rfl, by simp⟩
  · have hl := loopOut_le out k
    rw [extR_no (by omega) (by omega : m ≤ k) hn]
    exact ⟨by omega, rfl, rfl⟩

theorem ok58 : NilOK Tryd.prog n58 := n58.rec_ok (fn := Tryd.f58) (fun _ => 0) C58 (fun _ _ => cx2 (PC.OK.ci ok59) (h72.ci (fun _ => ⟨trivial, trivial, trivial, trivial, trivial, trivial⟩) fun args H K hk => by
    unfold pick72 at hk
    split at hk
    · split at hk
      · exact ⟨_, _, hk⟩
      · exact hk.elim
    · exact hk.elim)) rfl (by decide +kernel) rfl fun (x : List Ed × Int) hx => by
  obtain ⟨es, m⟩ := x
  refine (g58_eq es m).mpr ?_
  obtain ⟨h1, h2, h3⟩ := hx
  have h1 : es.length ≤ 1000 := h1
  have h2 : (0 : Int) ≤ m := h2
  have h3 : m ≤ (1000 : Int) := h3
  simp only [pp1, eq_self, true_and, and_self, Int.toNat_natCast]
  unfold colF
  have e0 : (List.replicate (Int.toNat 0) (0 : Int)) = [] := rfl
  rw [e0]
  refine ⟨h1, fun h => by rw [if_neg (by omega)], fun h => ⟨⟨by omega, by omega, by unfold Small; omega⟩, ⟨by simp, by omega⟩, fun h4 => ?_, fun h4 => ?_⟩⟩
  · have h4 : extR es m [] = none := by simpa using h4
    rw [h4]; simp
  · rw [if_pos (by omega)]
    have h4 : (extR es m []).isSome = true := by simpa using h4
    obtain ⟨l, hl⟩ := Option.isSome_iff_exists.1 h4
    rw [hl]; rfl
end Go.SX.Pa

/- Chapter 06: strings.Trim, by the library's contract. -/
namespace Go.Proofs
open Go.Shelf
def Tryd.lays160_ren : Go.Shelf.Ren := ⟨fun | 160 => 67 | 232 => 74 | 231 => 73 | 227 => 75 | 234 => 77 | 233 => 76 | 236 => 79 | 235 => 78 | 228 => 81 | 271 => 84 | 151 => 83 | 197 => 82 | 120 => 88 | 152 => 87 | 260 => 86 | 137 => 89 | 119 => 90 | 224 => 91 | 225 => 92 | 217 => 93 | 266 => 94 | n => n, fun | 9 => 9 | 4 => 4 | 3 => 3 | 5 => 5 | 117 => 112 | 116 => 111 | 0 => 0 | 124 => 115 | 21 => 21 | 105 => 120 | 46 => 126 | 119 => 125 | 139 => 129 | 138 => 128 | n => n, fun | 3 => 0 | 4 => 1 | n => n⟩
theorem Tryd.lays160 : Go.Proofs.Lays.n160 Tryd.prog Tryd.lays160_ren where
  mixed := by kernel_rfl
  f119 := Tryd.func90.trans (congrArg some (by kernel_rfl))
  f120 := Tryd.func88.trans (congrArg some (by kernel_rfl))
  f137 := Tryd.func89.trans (congrArg some (by kernel_rfl))
  f151 := Tryd.func83.trans (congrArg some (by kernel_rfl))
  f152 := Tryd.func87.trans (congrArg some (by kernel_rfl))
  f160 := Tryd.func67.trans (congrArg some (by kernel_rfl))
  f197 := Tryd.func82.trans (congrArg some (by kernel_rfl))
  f217 := Tryd.func93.trans (congrArg some (by kernel_rfl))
  f224 := Tryd.func91.trans (congrArg some (by kernel_rfl))
  f225 := Tryd.func92.trans (congrArg some (by kernel_rfl))
  f227 := Tryd.func75.trans (congrArg some (by kernel_rfl))
  f228 := Tryd.func81.trans (congrArg some (by kernel_rfl))
  f231 := Tryd.func73.trans (congrArg some (by kernel_rfl))
  f232 := Tryd.func74.trans (congrArg some (by kernel_rfl))
  f233 := Tryd.func76.trans (congrArg some (by kernel_rfl))
  f234 := Tryd.func77.trans (congrArg some (by kernel_rfl))
  f235 := Tryd.func78.trans (congrArg some (by kernel_rfl))
  f236 := Tryd.func79.trans (congrArg some (by kernel_rfl))
  f260 := Tryd.func86.trans (congrArg some (by kernel_rfl))
  f266 := Tryd.func94.trans (congrArg some (by kernel_rfl))
  f271 := Tryd.func84.trans (congrArg some (by kernel_rfl))
  t0 := Tryd.underlying0
  a0 := Tryd.isAgg0
  z0 := Tryd.sizeOf0
  v0 := Tryd.zeroValue0
  t3 := Tryd.underlying3
  a3 := Tryd.isAgg3
  z3 := Tryd.sizeOf3
  v3 := Tryd.zeroValue3
  t4 := Tryd.underlying4
  a4 := Tryd.isAgg4
  z4 := Tryd.sizeOf4
  v4 := Tryd.zeroValue4
  t5 := Tryd.underlying5
  a5 := Tryd.isAgg5
  z5 := Tryd.sizeOf5
  v5 := Tryd.zeroValue5
  t9 := Tryd.underlying9
  a9 := Tryd.isAgg9
  z9 := Tryd.sizeOf9
  v9 := Tryd.zeroValue9
  t21 := Tryd.underlying21
  a21 := Tryd.isAgg21
  z21 := Tryd.sizeOf21
  v21 := Tryd.zeroValue21
  t46 := Tryd.underlying126
  a46 := Tryd.isAgg126
  z46 := Tryd.sizeOf126
  v46 := Tryd.zeroValue126
  t105 := Tryd.underlying120
  a105 := Tryd.isAgg120
  z105 := Tryd.sizeOf120
  v105 := Tryd.zeroValue120
  t116 := Tryd.underlying111
  a116 := Tryd.isAgg111
  z116 := Tryd.sizeOf111
  t117 := Tryd.underlying112
  a117 := Tryd.isAgg112
  z117 := Tryd.sizeOf112
  v117 := Tryd.zeroValue112
  t119 := Tryd.underlying125
  a119 := Tryd.isAgg125
  z119 := Tryd.sizeOf125
  t124 := Tryd.underlying115
  a124 := Tryd.isAgg115
  z124 := Tryd.sizeOf115
  v124 := Tryd.zeroValue115
  t138 := Tryd.underlying128
  a138 := Tryd.isAgg128
  z138 := Tryd.sizeOf128
  v138 := Tryd.zeroValue128
  t139 := Tryd.underlying129
  a139 := Tryd.isAgg129
  z139 := Tryd.sizeOf129
  v139 := Tryd.zeroValue129
  g3 := by kernel_rfl
  g4 := by kernel_rfl
end Go.Proofs
namespace Go.SX.Pa
open Go Go.Proofs Go.Shelf Go.RowKit
def bits01 : ByteArray := ⟨#[48, 49]⟩
@[reducible] noncomputable def p67 : PC := ⟨67, [(false, .str), (false, .str)], [(false, .str)], fun p => p.2 = bits01 ∧ p.1.size ≤ 1000, fun p => ⟨(Lib.trimS p.1.data.toList [48, 49]).toArray⟩⟩
theorem ok67 : p67.OK Tryd.prog := by
  refine ⟨⟨Tryd.f67, rfl, by decide +kernel, rfl⟩, fun ok x vals w hx ha => ?_⟩
  obtain ⟨s, c⟩ := x
  obtain ⟨h1, h2⟩ := hx
  have h1 : c = bits01 := h1
  have h2 : s.size ≤ 1000 := h2
  subst h1
  obtain ⟨v0, r0, e0, a0, v1, e1, a1⟩ := ha
  have a0 : v0 = .string s := by simpa [VRep, Ty.Rep] using a0
  have a1 : v1 = .string bits01 := by simpa [VRep, Ty.Rep] using a1
  subst a0; subst a1; subst e1; subst e0
  have hcon := Any.strings_Trim_laid Tryd.lays160 (by kernel_rfl) s ⟨#[48, 49]⟩ w (by omega) (by decide) (ascii_of_all (by decide))
  change Calls Tryd.prog 67 _ _ (fun e w' => e = .returned (.string ⟨(Lib.trimS s.data.toList [48, 49]).toArray⟩) ∧ Below w.heap.size w w') at hcon
  refine Calls.mono hcon ?_
  rintro e w' ⟨rfl, hB⟩
  exact ⟨_, rfl, by simp [ResR, VRep, Ty.Rep], hB⟩
end Go.SX.Pa

/- Chapter 06, part 3: Apply. -/
namespace Go.SX.Pa
open Go Go.Proofs
noncomputable section
@[reducible] def p53 : PC := ⟨53, [aI, aS], [aIs], fun p => (1 ≤ p.1 ∧ p.1 ≤ 3) ∧ p.2.size = swN p.1.toNat ∧ Bits p.2, fun p => applyF p.1.toNat p.2⟩
@[reducible] def A53 (k : Nat) (s : ByteArray) : Ann where
  τ := Nat
  pre := []
  preC := []
  keep := [8, 9, 10, 11, 66]
  slots x := [(67, .c (.int .i64 x))]
  ents x := [(1, .row 3 (.int .i64) 1 (applyTo k s x))]
  ok x := x ≤ 2 * hN k
  m x := 2 * hN k - x
@[reducible] def m53 (p : Int × ByteArray) : Nat := p.1.toNat
@[reducible] def C53 (p : Int × ByteArray) : Ctx := cx [p52.ci, (p53.below m53 (m53 p)).ci] [(0, fun _ => A53 p.1.toNat p.2)]
@[reducible] def p45 : PC := ⟨45, [aI, aS], [aIs, aI], fun p => p.2.size ≤ 1000, fun p => applyP p.1 p.2⟩
def g45 (k : Int) (s : ByteArray) : Prop := p45.VC (cx [p63.ci, p52.ci, p67.ci, p53.ci] []) Tryd.f45 (k, s)
@[reducible] def p60 : PC := ⟨60, [aIs, aIs], [aB], fun p => p.1.length ≤ 1000 ∧ p.2.length ≤ 1000, fun p => beforeF p.1 p.2⟩
@[reducible] def C60 (p : List Int × List Int) : Ctx := cx [] [(0, fun _ => upTo p.1.length 5 [0, 1] fun k => k ≤ p.2.length ∧ beforeF (p.1.drop k) (p.2.drop k) = beforeF p.1 p.2)]
def g60 (a b : List Int) : Prop := p60.VC (C60 (a, b)) Tryd.f60 (a, b)
@[reducible] def p28 : PC := ⟨28, [aIs, aIs], [aB], fun p => p.1.length ≤ 1000 ∧ p.2.length ≤ 1000, fun p => decide (p.1 = p.2)⟩
def g28 (a b : List Int) : Prop := p28.VC (cx [p60.ci] []) Tryd.f28 (a, b)
@[reducible] def p38 : PC := ⟨38, [aI, aI, aI, aIs], [aIs, aI], fun p => p.2.2.2.length ≤ 1000, fun p => routeF p.1 p.2.1 p.2.2.1 p.2.2.2⟩
def g38 (n r m : Int) (l : List Int) : Prop := p38.VC (cx [p61.ci, p62.ci, n58.ci] []) Tryd.f38 (n, r, m, l)
@[reducible] def C71 (a c : Int) (es : List Ed) : Ctx := cx [inl 57 Tryd.f57 (cx [] [])] [(0, fun _ => upTo es.length 8 [0, 1, 6, 7] fun k => (es.take k).any (badEd a c) = false)]
@[reducible] def C56 (a c : Int) (es : List Ed) : Ctx := cx [inl 71 Tryd.f71 (C71 a c es)] []
@[reducible] def p26 : PC := ⟨26, [aI, aI, aEds], [aIs, aI], fun p => p.2.2.length ≤ 1000, fun p => colorsF p.1 p.2.1 p.2.2⟩
@[reducible] def C26 (p : Int × Int × List Ed) : Ctx := cx [inl 56 Tryd.f56 (C56 p.1 p.2.1 p.2.2), p59.ci, n58.ci] []
def g26 (a c : Int) (es : List Ed) : Prop := p26.VC (C26 (a, c, es)) Tryd.f26 (a, c, es)
end
end Go.SX.Pa

/- Printed by VC.lean: what the executor asks. -/
namespace Go.SX.Pa
open Go Go.Proofs
theorem g45_eq (k : Int) (s : ByteArray) : g45 k s = (
 True ∧
 ((!decide ((1 : Int) ≤ k ∧ k ≤ (3 : Int))) = true →
 (!decide ((1 : Int) ≤ k ∧ k ≤ (3 : Int))) = true ∧ (!decide ((1 : Int) ≤ k ∧ k ≤ (3 : Int))) = true ∧ ([], (1 : Int)) = applyP k s) ∧
 ((!decide ((1 : Int) ≤ k ∧ k ≤ (3 : Int))) = false →
 (!decide ((1 : Int) ≤ k ∧ k ≤ (3 : Int))) = false ∧
 (!decide ((1 : Int) ≤ k ∧ k ≤ (3 : Int))) = false ∧
 ((1 : Int) ≤ k ∧ k ≤ (3 : Int)) ∧
 (¬(↑s.size : Int) = switchesF k → ¬(↑s.size : Int) = switchesF k ∧ ¬(↑s.size : Int) = switchesF k ∧ ([], (2 : Int)) = applyP k s) ∧
 (¬¬(↑s.size : Int) = switchesF k →
 ¬¬(↑s.size : Int) = switchesF k ∧
 ¬¬(↑s.size : Int) = switchesF k ∧
 (ByteArray.mk #[(48 : UInt8), (49 : UInt8)] = bits01 ∧ s.size ≤ (1000 : Nat)) ∧
 (¬ByteArray.mk (Lib.trimS s.data.toList [(48 : UInt8), (49 : UInt8)]).toArray = ByteArray.mk #[] →
 ¬ByteArray.mk (Lib.trimS s.data.toList [(48 : UInt8), (49 : UInt8)]).toArray = ByteArray.mk #[] ∧
 ¬ByteArray.mk (Lib.trimS s.data.toList [(48 : UInt8), (49 : UInt8)]).toArray = ByteArray.mk #[] ∧
 ¬ByteArray.mk (Lib.trimS s.data.toList [(48 : UInt8), (49 : UInt8)]).toArray = ByteArray.mk #[] ∧ ([], (2 : Int)) = applyP k s) ∧
 (¬¬ByteArray.mk (Lib.trimS s.data.toList [(48 : UInt8), (49 : UInt8)]).toArray = ByteArray.mk #[] →
 ¬¬ByteArray.mk (Lib.trimS s.data.toList [(48 : UInt8), (49 : UInt8)]).toArray = ByteArray.mk #[] ∧
 ¬¬ByteArray.mk (Lib.trimS s.data.toList [(48 : UInt8), (49 : UInt8)]).toArray = ByteArray.mk #[] ∧
 ¬¬ByteArray.mk (Lib.trimS s.data.toList [(48 : UInt8), (49 : UInt8)]).toArray = ByteArray.mk #[] ∧
 (((1 : Int) ≤ k ∧ k ≤ (3 : Int)) ∧ s.size = swN k.toNat ∧ ∀ (i : Nat), i < s.size → bt s i = (48 : Int) ∨ bt s i = (49 : Int)) ∧
 (applyF k.toNat s, (0 : Int)) = applyP k s)))) := by
 kernel_rfl

theorem g60_eq (a : List Int) (b : List Int) : g60 a b = (
 (∃ (x0 : Nat), (x0 ≤ a.length ∧ x0 ≤ b.length ∧ beforeF (List.drop x0 a) (List.drop x0 b) = beforeF a b) ∧ True ∧ (0 : Int) = (↑x0 : Int) ∧ a = a ∧ b = b ∧ True) ∧
 ∀ (x : Nat),
 x ≤ a.length ∧ x ≤ b.length ∧ beforeF (List.drop x a) (List.drop x b) = beforeF a b →
 ((↑x : Int) < (↑a.length : Int) →
 (↑x : Int) < (↑a.length : Int) ∧
 (↑x : Int) < (↑a.length : Int) ∧
 ((↑x : Int) < (↑b.length : Int) →
 (↑x : Int) < (↑b.length : Int) ∧
 (↑x : Int) < (↑b.length : Int) ∧
 ((0 : Int) ≤ (↑x : Int) ∧ (↑x : Int) < (↑a.length : Int)) ∧
 ((0 : Int) ≤ (↑x : Int) ∧ (↑x : Int) < (↑b.length : Int)) ∧
 (¬a.getD (↑x : Int).toNat (0 : Int) = b.getD (↑x : Int).toNat (0 : Int) →
 ¬a.getD (↑x : Int).toNat (0 : Int) = b.getD (↑x : Int).toNat (0 : Int) ∧
 ((0 : Int) ≤ (↑x : Int) ∧ (↑x : Int) < (↑a.length : Int)) ∧
 ((0 : Int) ≤ (↑x : Int) ∧ (↑x : Int) < (↑b.length : Int)) ∧
 decide (a.getD (↑x : Int).toNat (0 : Int) < b.getD (↑x : Int).toNat (0 : Int)) = beforeF a b) ∧
 (¬¬a.getD (↑x : Int).toNat (0 : Int) = b.getD (↑x : Int).toNat (0 : Int) →
 ¬¬a.getD (↑x : Int).toNat (0 : Int) = b.getD (↑x : Int).toNat (0 : Int) ∧
 Fits IntKind.i64 ((↑x : Int) + (1 : Int)) ∧
 ∃ (x' : Nat),
 (x' ≤ a.length ∧ x' ≤ b.length ∧ beforeF (List.drop x' a) (List.drop x' b) = beforeF a b) ∧
 a.length - x' < a.length - x ∧ True ∧ (↑x : Int) + (1 : Int) = (↑x' : Int) ∧ a = a ∧ b = b ∧ True)) ∧
 (¬(↑x : Int) < (↑b.length : Int) →
 ¬(↑x : Int) < (↑b.length : Int) ∧ ¬(↑x : Int) < (↑b.length : Int) ∧ decide ((↑a.length : Int) < (↑b.length : Int)) = beforeF a b)) ∧
 (¬(↑x : Int) < (↑a.length : Int) → ¬(↑x : Int) < (↑a.length : Int) ∧ ¬(↑x : Int) < (↑a.length : Int) ∧ decide ((↑a.length : Int) < (↑b.length : Int)) = beforeF a b)) := by
 kernel_rfl

theorem g28_eq (a : List Int) (b : List Int) : g28 a b = (
 (a.length ≤ (1000 : Nat) ∧ b.length ≤ (1000 : Nat)) ∧
 ((!beforeF a b) = true → (!beforeF a b) = true ∧ (!beforeF a b) = true ∧ (b.length ≤ (1000 : Nat) ∧ a.length ≤ (1000 : Nat)) ∧ (!beforeF b a) = decide (a = b)) ∧
 ((!beforeF a b) = false → (!beforeF a b) = false ∧ (!beforeF a b) = false ∧ false = decide (a = b))) := by
 kernel_rfl

theorem g38_eq (n : Int) (r : Int) (m : Int) (l : List Int) : g38 n r m l = (
 l.length ≤ (1000 : Nat) ∧
 (¬(readF n r m l).snd = (0 : Int) → ¬(readF n r m l).snd = (0 : Int) ∧ ([], (readF n r m l).snd) = routeF n r m l) ∧
 (¬¬(readF n r m l).snd = (0 : Int) →
 ¬¬(readF n r m l).snd = (0 : Int) ∧
 (l.length ≤ (1000 : Nat) ∧ (1 : Int) ≤ (readF n r m l).fst.fst ∧ (readF n r m l).fst.fst ≤ (12 : Int) ∧ ∀ (x : Int), x ∈ l → (0 : Int) ≤ x ∧ x ≤ (1000 : Int)) ∧
 ((edgesF (readF n r m l).fst.fst l).length ≤ (1000 : Nat) ∧ (0 : Int) ≤ m ∧ m ≤ (1000 : Int)) ∧
 (colF (edgesF (readF n r m l).fst.fst l) m = none → ([], (5 : Int)) = routeF n r m l) ∧
 ∀ (ys : List Int), colF (edgesF (readF n r m l).fst.fst l) m = some ys → ys ≠ [] ∧ (ys, (0 : Int)) = routeF n r m l)) := by
 kernel_rfl

theorem g26_eq (a : Int) (c : Int) (es : List Ed) : g26 a c es = (
 ((12 : Int) < (↑es.length : Int) → (12 : Int) < (↑es.length : Int) ∧ (12 : Int) < (↑es.length : Int) ∧ ([], (3 : Int)) = colorsF a c es) ∧
 (¬(12 : Int) < (↑es.length : Int) →
 ¬(12 : Int) < (↑es.length : Int) ∧
 ¬(12 : Int) < (↑es.length : Int) ∧
 (min a c < (1 : Int) → min a c < (1 : Int) ∧ min a c < (1 : Int) ∧ ([], (1 : Int)) = colorsF a c es) ∧
 (¬min a c < (1 : Int) →
 ¬min a c < (1 : Int) ∧
 ¬min a c < (1 : Int) ∧
 ((6 : Int) < max a c → (6 : Int) < max a c ∧ (6 : Int) < max a c ∧ (6 : Int) < max a c ∧ ([], (1 : Int)) = colorsF a c es) ∧
 (¬(6 : Int) < max a c →
 ¬(6 : Int) < max a c ∧
 ¬(6 : Int) < max a c ∧
 ¬(6 : Int) < max a c ∧
 (∃ (x0 : Nat),
 (x0 ≤ es.length ∧ (List.take x0 es).any (badEd a c) = false) ∧
 ((a = a ∧ True) ∧ (c = c ∧ True) ∧ True) ∧ (0 : Int) = (↑x0 : Int) ∧ (↑es.length : Int) = (↑es.length : Int) ∧ es = es ∧ es = es ∧ True ∧ True) ∧
 ∀ (x : Nat),
 x ≤ es.length ∧ (List.take x es).any (badEd a c) = false →
 ((↑x : Int) < (↑es.length : Int) →
 (↑x : Int) < (↑es.length : Int) ∧
 ((0 : Int) ≤ (↑x : Int) ∧ (↑x : Int) < (↑es.length : Int)) ∧
 (min (es.getD (↑x : Int).toNat ((0 : Int), (0 : Int))).fst (es.getD (↑x : Int).toNat ((0 : Int), (0 : Int))).snd < (0 : Int) →
 min (es.getD (↑x : Int).toNat ((0 : Int), (0 : Int))).fst (es.getD (↑x : Int).toNat ((0 : Int), (0 : Int))).snd < (0 : Int) ∧
 min (es.getD (↑x : Int).toNat ((0 : Int), (0 : Int))).fst (es.getD (↑x : Int).toNat ((0 : Int), (0 : Int))).snd < (0 : Int) ∧
 ((0 : Int) ≤ (↑x : Int) →
 (0 : Int) ≤ (↑x : Int) ∧ (0 : Int) ≤ (↑x : Int) ∧ (0 : Int) ≤ (↑x : Int) ∧ ([], (1 : Int)) = colorsF a c es) ∧
 (¬(0 : Int) ≤ (↑x : Int) →
 ¬(0 : Int) ≤ (↑x : Int) ∧
 ¬(0 : Int) ≤ (↑x : Int) ∧
 ¬(0 : Int) ≤ (↑x : Int) ∧
 es.length ≤ (1000 : Nat) ∧
 (es.length ≤ (1000 : Nat) ∧ (0 : Int) ≤ degF es ∧ degF es ≤ (1000 : Int)) ∧
 (colF es (degF es) = none → ([], (0 : Int)) = colorsF a c es) ∧
 ∀ (ys : List Int), colF es (degF es) = some ys → (ys, (0 : Int)) = colorsF a c es)) ∧
 (¬min (es.getD (↑x : Int).toNat ((0 : Int), (0 : Int))).fst (es.getD (↑x : Int).toNat ((0 : Int), (0 : Int))).snd < (0 : Int) →
 ¬min (es.getD (↑x : Int).toNat ((0 : Int), (0 : Int))).fst (es.getD (↑x : Int).toNat ((0 : Int), (0 : Int))).snd < (0 : Int) ∧
 ¬min (es.getD (↑x : Int).toNat ((0 : Int), (0 : Int))).fst (es.getD (↑x : Int).toNat ((0 : Int), (0 : Int))).snd < (0 : Int) ∧
 (a ≤ (es.getD (↑x : Int).toNat ((0 : Int), (0 : Int))).fst →
 a ≤ (es.getD (↑x : Int).toNat ((0 : Int), (0 : Int))).fst ∧
 a ≤ (es.getD (↑x : Int).toNat ((0 : Int), (0 : Int))).fst ∧
 a ≤ (es.getD (↑x : Int).toNat ((0 : Int), (0 : Int))).fst ∧
 ((0 : Int) ≤ (↑x : Int) →
 (0 : Int) ≤ (↑x : Int) ∧ (0 : Int) ≤ (↑x : Int) ∧ (0 : Int) ≤ (↑x : Int) ∧ ([], (1 : Int)) = colorsF a c es) ∧
 (¬(0 : Int) ≤ (↑x : Int) →
 ¬(0 : Int) ≤ (↑x : Int) ∧
 ¬(0 : Int) ≤ (↑x : Int) ∧
 ¬(0 : Int) ≤ (↑x : Int) ∧
 es.length ≤ (1000 : Nat) ∧
 (es.length ≤ (1000 : Nat) ∧ (0 : Int) ≤ degF es ∧ degF es ≤ (1000 : Int)) ∧
 (colF es (degF es) = none → ([], (0 : Int)) = colorsF a c es) ∧
 ∀ (ys : List Int), colF es (degF es) = some ys → (ys, (0 : Int)) = colorsF a c es)) ∧
 (¬a ≤ (es.getD (↑x : Int).toNat ((0 : Int), (0 : Int))).fst →
 ¬a ≤ (es.getD (↑x : Int).toNat ((0 : Int), (0 : Int))).fst ∧
 ¬a ≤ (es.getD (↑x : Int).toNat ((0 : Int), (0 : Int))).fst ∧
 ¬a ≤ (es.getD (↑x : Int).toNat ((0 : Int), (0 : Int))).fst ∧
 (c ≤ (es.getD (↑x : Int).toNat ((0 : Int), (0 : Int))).snd →
 c ≤ (es.getD (↑x : Int).toNat ((0 : Int), (0 : Int))).snd ∧
 ((0 : Int) ≤ (↑x : Int) →
 (0 : Int) ≤ (↑x : Int) ∧ (0 : Int) ≤ (↑x : Int) ∧ (0 : Int) ≤ (↑x : Int) ∧ ([], (1 : Int)) = colorsF a c es) ∧
 (¬(0 : Int) ≤ (↑x : Int) →
 ¬(0 : Int) ≤ (↑x : Int) ∧
 ¬(0 : Int) ≤ (↑x : Int) ∧
 ¬(0 : Int) ≤ (↑x : Int) ∧
 es.length ≤ (1000 : Nat) ∧
 (es.length ≤ (1000 : Nat) ∧ (0 : Int) ≤ degF es ∧ degF es ≤ (1000 : Int)) ∧
 (colF es (degF es) = none → ([], (0 : Int)) = colorsF a c es) ∧
 ∀ (ys : List Int), colF es (degF es) = some ys → (ys, (0 : Int)) = colorsF a c es)) ∧
 (¬c ≤ (es.getD (↑x : Int).toNat ((0 : Int), (0 : Int))).snd →
 ¬c ≤ (es.getD (↑x : Int).toNat ((0 : Int), (0 : Int))).snd ∧
 Fits IntKind.i64 ((↑x : Int) + (1 : Int)) ∧
 ∃ (x' : Nat),
 (x' ≤ es.length ∧ (List.take x' es).any (badEd a c) = false) ∧
 es.length - x' < es.length - x ∧
 ((a = a ∧ True) ∧ (c = c ∧ True) ∧ True) ∧
 (↑x : Int) + (1 : Int) = (↑x' : Int) ∧
 (↑es.length : Int) = (↑es.length : Int) ∧ es = es ∧ es = es ∧ True ∧ True)))) ∧
 (¬(↑x : Int) < (↑es.length : Int) →
 ¬(↑x : Int) < (↑es.length : Int) ∧
 ((0 : Int) ≤ (-1 : Int) → (0 : Int) ≤ (-1 : Int) ∧ (0 : Int) ≤ (-1 : Int) ∧ (0 : Int) ≤ (-1 : Int) ∧ ([], (1 : Int)) = colorsF a c es) ∧
 (¬(0 : Int) ≤ (-1 : Int) →
 ¬(0 : Int) ≤ (-1 : Int) ∧
 ¬(0 : Int) ≤ (-1 : Int) ∧
 ¬(0 : Int) ≤ (-1 : Int) ∧
 es.length ≤ (1000 : Nat) ∧
 (es.length ≤ (1000 : Nat) ∧ (0 : Int) ≤ degF es ∧ degF es ≤ (1000 : Int)) ∧
 (colF es (degF es) = none → ([], (0 : Int)) = colorsF a c es) ∧
 ∀ (ys : List Int), colF es (degF es) = some ys → (ys, (0 : Int)) = colorsF a c es)))))) := by
 kernel_rfl

end Go.SX.Pa

/- Chapter 06, part 4: apply, which calls itself. -/
namespace Go.SX.Pa
open Go Go.Proofs
def g53 (k : Int) (s : ByteArray) : Prop := p53.VC (C53 (k, s)) Tryd.f53 (k, s)
end Go.SX.Pa

/- Printed by VC.lean: what the executor asks. -/
namespace Go.SX.Pa
open Go Go.Proofs
theorem g53_eq (k : Int) (s : ByteArray) : g53 k s = (
 (k = (1 : Int) →
 k = (1 : Int) ∧
 ((0 : Int) ≤ (0 : Int) ∧ (0 : Int) < (↑s.size : Int)) ∧
 Fits IntKind.i64 (IntKind.u8.wrap (bt s (Int.toNat (0 : Int)) - (48 : Int))) ∧
 Fits IntKind.i64 ((1 : Int) - IntKind.u8.wrap (bt s (Int.toNat (0 : Int)) - (48 : Int))) ∧
 [IntKind.u8.wrap (bt s (Int.toNat (0 : Int)) - (48 : Int)), (1 : Int) - IntKind.u8.wrap (bt s (Int.toNat (0 : Int)) - (48 : Int))] = applyF k.toNat s) ∧
 (¬k = (1 : Int) →
 ¬k = (1 : Int) ∧
 Fits IntKind.i64 (k - (1 : Int)) ∧
 ((0 : Int) ≤ k - (1 : Int) ∧ k - (1 : Int) < (64 : Int)) ∧
 Fits IntKind.i64 ((1 : Int) * (2 : Int) ^ (k - (1 : Int)).toNat) ∧
 Fits IntKind.i64 (k - (1 : Int)) ∧
 ((1 : Int) ≤ k - (1 : Int) ∧ k - (1 : Int) ≤ (3 : Int)) ∧
 ((0 : Int) ≤ (↑(0 : Nat) : Int) ∧
 (↑(0 : Nat) : Int) ≤ (1 : Int) * (2 : Int) ^ (k - (1 : Int)).toNat ∧ (1 : Int) * (2 : Int) ^ (k - (1 : Int)).toNat ≤ (↑s.size : Int)) ∧
 true = true ∧
 Fits IntKind.i64 ((2 : Int) * switchesF (k - (1 : Int))) ∧
 Fits IntKind.i64 ((1 : Int) * (2 : Int) ^ (k - (1 : Int)).toNat + (2 : Int) * switchesF (k - (1 : Int))) ∧
 ((0 : Int) ≤ (1 : Int) * (2 : Int) ^ (k - (1 : Int)).toNat + (2 : Int) * switchesF (k - (1 : Int)) ∧
 (1 : Int) * (2 : Int) ^ (k - (1 : Int)).toNat + (2 : Int) * switchesF (k - (1 : Int)) ≤ (↑s.size : Int) ∧ (↑s.size : Int) ≤ (↑s.size : Int)) ∧
 true = true ∧
 Fits IntKind.i64 (k - (1 : Int)) ∧
 Fits IntKind.i64 ((1 : Int) * (2 : Int) ^ (k - (1 : Int)).toNat + switchesF (k - (1 : Int))) ∧
 ((0 : Int) ≤ (1 : Int) * (2 : Int) ^ (k - (1 : Int)).toNat ∧
 (1 : Int) * (2 : Int) ^ (k - (1 : Int)).toNat ≤ (1 : Int) * (2 : Int) ^ (k - (1 : Int)).toNat + switchesF (k - (1 : Int)) ∧
 (1 : Int) * (2 : Int) ^ (k - (1 : Int)).toNat + switchesF (k - (1 : Int)) ≤ (↑s.size : Int)) ∧
 true = true ∧
 Fits IntKind.i64 (k - (1 : Int)) ∧
 Fits IntKind.i64 ((1 : Int) * (2 : Int) ^ (k - (1 : Int)).toNat + switchesF (k - (1 : Int))) ∧
 Fits IntKind.i64 ((2 : Int) * switchesF (k - (1 : Int))) ∧
 Fits IntKind.i64 ((1 : Int) * (2 : Int) ^ (k - (1 : Int)).toNat + (2 : Int) * switchesF (k - (1 : Int))) ∧
 ((0 : Int) ≤ (1 : Int) * (2 : Int) ^ (k - (1 : Int)).toNat + switchesF (k - (1 : Int)) ∧
 (1 : Int) * (2 : Int) ^ (k - (1 : Int)).toNat + switchesF (k - (1 : Int)) ≤
 (1 : Int) * (2 : Int) ^ (k - (1 : Int)).toNat + (2 : Int) * switchesF (k - (1 : Int)) ∧
 (1 : Int) * (2 : Int) ^ (k - (1 : Int)).toNat + (2 : Int) * switchesF (k - (1 : Int)) ≤ (↑s.size : Int)) ∧
 true = true ∧
 (((((1 : Int) ≤ k - (1 : Int) ∧ k - (1 : Int) ≤ (3 : Int)) ∧
 (s.extract ((1 : Int) * (2 : Int) ^ (k - (1 : Int)).toNat).toNat
 ((1 : Int) * (2 : Int) ^ (k - (1 : Int)).toNat + switchesF (k - (1 : Int))).toNat).size =
 swN (k - (1 : Int)).toNat ∧
 ∀ (i : Nat),
 i <
 (s.extract ((1 : Int) * (2 : Int) ^ (k - (1 : Int)).toNat).toNat
 ((1 : Int) * (2 : Int) ^ (k - (1 : Int)).toNat + switchesF (k - (1 : Int))).toNat).size →
 bt
 (s.extract ((1 : Int) * (2 : Int) ^ (k - (1 : Int)).toNat).toNat
 ((1 : Int) * (2 : Int) ^ (k - (1 : Int)).toNat + switchesF (k - (1 : Int))).toNat)
 i =
 (48 : Int) ∨
 bt
 (s.extract ((1 : Int) * (2 : Int) ^ (k - (1 : Int)).toNat).toNat
 ((1 : Int) * (2 : Int) ^ (k - (1 : Int)).toNat + switchesF (k - (1 : Int))).toNat)
 i =
 (49 : Int)) ∧
 m53
 (k - (1 : Int),
 s.extract ((1 : Int) * (2 : Int) ^ (k - (1 : Int)).toNat).toNat
 ((1 : Int) * (2 : Int) ^ (k - (1 : Int)).toNat + switchesF (k - (1 : Int))).toNat) <
 m53 (k, s)) ∧
 (((((1 : Int) ≤ k - (1 : Int) ∧ k - (1 : Int) ≤ (3 : Int)) ∧
 (s.extract ((1 : Int) * (2 : Int) ^ (k - (1 : Int)).toNat + switchesF (k - (1 : Int))).toNat
 ((1 : Int) * (2 : Int) ^ (k - (1 : Int)).toNat + (2 : Int) * switchesF (k - (1 : Int))).toNat).size =
 swN (k - (1 : Int)).toNat ∧
 ∀ (i : Nat),
 i <
 (s.extract ((1 : Int) * (2 : Int) ^ (k - (1 : Int)).toNat + switchesF (k - (1 : Int))).toNat
 ((1 : Int) * (2 : Int) ^ (k - (1 : Int)).toNat + (2 : Int) * switchesF (k - (1 : Int))).toNat).size →
 bt
 (s.extract ((1 : Int) * (2 : Int) ^ (k - (1 : Int)).toNat + switchesF (k - (1 : Int))).toNat
 ((1 : Int) * (2 : Int) ^ (k - (1 : Int)).toNat + (2 : Int) * switchesF (k - (1 : Int))).toNat)
 i =
 (48 : Int) ∨
 bt
 (s.extract ((1 : Int) * (2 : Int) ^ (k - (1 : Int)).toNat + switchesF (k - (1 : Int))).toNat
 ((1 : Int) * (2 : Int) ^ (k - (1 : Int)).toNat + (2 : Int) * switchesF (k - (1 : Int))).toNat)
 i =
 (49 : Int)) ∧
 m53
 (k - (1 : Int),
 s.extract ((1 : Int) * (2 : Int) ^ (k - (1 : Int)).toNat + switchesF (k - (1 : Int))).toNat
 ((1 : Int) * (2 : Int) ^ (k - (1 : Int)).toNat + (2 : Int) * switchesF (k - (1 : Int))).toNat) <
 m53 (k, s)) ∧
 Fits IntKind.i64 ((2 : Int) * ((1 : Int) * (2 : Int) ^ (k - (1 : Int)).toNat)) ∧
 ((0 : Int) ≤ (2 : Int) * ((1 : Int) * (2 : Int) ^ (k - (1 : Int)).toNat) ∧
 (2 : Int) * ((1 : Int) * (2 : Int) ^ (k - (1 : Int)).toNat) ≤
 (2 : Int) * ((1 : Int) * (2 : Int) ^ (k - (1 : Int)).toNat) ∧
 Small ((2 : Int) * ((1 : Int) * (2 : Int) ^ (k - (1 : Int)).toNat)).toNat) ∧
 (∃ (x0 : Nat),
 x0 ≤ (2 : Nat) * hN k.toNat ∧
 ((applyF (k - (1 : Int)).toNat
 (s.extract ((1 : Int) * (2 : Int) ^ (k - (1 : Int)).toNat).toNat
 ((1 : Int) * (2 : Int) ^ (k - (1 : Int)).toNat + switchesF (k - (1 : Int))).toNat) =
 applyF (k - (1 : Int)).toNat
 (s.extract ((1 : Int) * (2 : Int) ^ (k - (1 : Int)).toNat).toNat
 ((1 : Int) * (2 : Int) ^ (k - (1 : Int)).toNat + switchesF (k - (1 : Int))).toNat) ∧
 applyF (k - (1 : Int)).toNat
 (s.extract ((1 : Int) * (2 : Int) ^ (k - (1 : Int)).toNat + switchesF (k - (1 : Int))).toNat
 ((1 : Int) * (2 : Int) ^ (k - (1 : Int)).toNat + (2 : Int) * switchesF (k - (1 : Int))).toNat) =
 applyF (k - (1 : Int)).toNat
 (s.extract ((1 : Int) * (2 : Int) ^ (k - (1 : Int)).toNat + switchesF (k - (1 : Int))).toNat
 ((1 : Int) * (2 : Int) ^ (k - (1 : Int)).toNat + (2 : Int) * switchesF (k - (1 : Int))).toNat) ∧
 True) ∧
 List.replicate ((2 : Int) * ((1 : Int) * (2 : Int) ^ (k - (1 : Int)).toNat)).toNat (0 : Int) =
 applyTo k.toNat s x0 ∧
 True) ∧
 (0 : Int) = (↑x0 : Int) ∧
 (↑(List.replicate ((2 : Int) * ((1 : Int) * (2 : Int) ^ (k - (1 : Int)).toNat)).toNat (0 : Int)).length :
 Int) =
 (↑(List.replicate ((2 : Int) * ((1 : Int) * (2 : Int) ^ (k - (1 : Int)).toNat)).toNat (0 : Int)).length :
 Int) ∧
 True ∧
 True ∧
 s.extract ((1 : Int) * (2 : Int) ^ (k - (1 : Int)).toNat + (2 : Int) * switchesF (k - (1 : Int))).toNat
 (↑s.size : Int).toNat =
 s.extract
 ((1 : Int) * (2 : Int) ^ (k - (1 : Int)).toNat + (2 : Int) * switchesF (k - (1 : Int))).toNat
 (↑s.size : Int).toNat ∧
 s.extract (↑(0 : Nat) : Int).toNat ((1 : Int) * (2 : Int) ^ (k - (1 : Int)).toNat).toNat =
 s.extract (↑(0 : Nat) : Int).toNat ((1 : Int) * (2 : Int) ^ (k - (1 : Int)).toNat).toNat ∧
 True) ∧
 ∀ (x : Nat),
 x ≤ (2 : Nat) * hN k.toNat →
 ((↑x : Int) <
 (↑(List.replicate ((2 : Int) * ((1 : Int) * (2 : Int) ^ (k - (1 : Int)).toNat)).toNat (0 : Int)).length :
 Int) →
 (↑x : Int) <
 (↑(List.replicate ((2 : Int) * ((1 : Int) * (2 : Int) ^ (k - (1 : Int)).toNat)).toNat (0 : Int)).length :
 Int) ∧
 ((0 : Int) ≤ (↑x : Int) ∧ (0 : Int) < (2 : Int)) ∧
 ((0 : Int) ≤ (↑x : Int) ∧ (0 : Int) < (2 : Int)) ∧
 Fits IntKind.i64 ((↑x : Int) / (2 : Int)) ∧
 ((0 : Int) ≤ (↑x : Int) / (2 : Int) ∧
 (↑x : Int) / (2 : Int) <
 (↑(s.extract (↑(0 : Nat) : Int).toNat
 ((1 : Int) * (2 : Int) ^ (k - (1 : Int)).toNat).toNat).size :
 Int)) ∧
 Fits IntKind.i64
 (IntKind.u8.wrap
 (bt (s.extract (↑(0 : Nat) : Int).toNat ((1 : Int) * (2 : Int) ^ (k - (1 : Int)).toNat).toNat)
 ((↑x : Int) / (2 : Int)).toNat -
 (48 : Int))) ∧
 ((0 : Int) ≤
 bitsF BinOp.xor IntKind.i64 ((↑x : Int) % (2 : Int))
 (IntKind.u8.wrap
 (bt
 (s.extract (↑(0 : Nat) : Int).toNat
 ((1 : Int) * (2 : Int) ^ (k - (1 : Int)).toNat).toNat)
 ((↑x : Int) / (2 : Int)).toNat -
 (48 : Int))) ∧
 bitsF BinOp.xor IntKind.i64 ((↑x : Int) % (2 : Int))
 (IntKind.u8.wrap
 (bt
 (s.extract (↑(0 : Nat) : Int).toNat
 ((1 : Int) * (2 : Int) ^ (k - (1 : Int)).toNat).toNat)
 ((↑x : Int) / (2 : Int)).toNat -
 (48 : Int))) <
 (↑(2 : Nat) : Int)) ∧
 (True ∧
 (bitsF BinOp.xor IntKind.i64 ((↑x : Int) % (2 : Int))
 (IntKind.u8.wrap
 (bt
 (s.extract (↑(0 : Nat) : Int).toNat
 ((1 : Int) * (2 : Int) ^ (k - (1 : Int)).toNat).toNat)
 ((↑x : Int) / (2 : Int)).toNat -
 (48 : Int))) =
 (↑(0 : Nat) : Int) →
 ((0 : Int) ≤ (↑x : Int) ∧ (0 : Int) < (2 : Int)) ∧
 Fits IntKind.i64 ((↑x : Int) / (2 : Int)) ∧
 ((0 : Int) ≤ (↑x : Int) / (2 : Int) ∧
 (↑x : Int) / (2 : Int) <
 (↑(applyF (k - (1 : Int)).toNat
 (s.extract ((1 : Int) * (2 : Int) ^ (k - (1 : Int)).toNat).toNat
 ((1 : Int) * (2 : Int) ^ (k - (1 : Int)).toNat +
 switchesF (k - (1 : Int))).toNat)).length :
 Int)) ∧
 Fits IntKind.i64
 ((2 : Int) *
 (applyF (k - (1 : Int)).toNat
 (s.extract ((1 : Int) * (2 : Int) ^ (k - (1 : Int)).toNat).toNat
 ((1 : Int) * (2 : Int) ^ (k - (1 : Int)).toNat +
 switchesF (k - (1 : Int))).toNat)).getD
 ((↑x : Int) / (2 : Int)).toNat (0 : Int)) ∧
 Fits IntKind.i64
 ((2 : Int) *
 (applyF (k - (1 : Int)).toNat
 (s.extract ((1 : Int) * (2 : Int) ^ (k - (1 : Int)).toNat).toNat
 ((1 : Int) * (2 : Int) ^ (k - (1 : Int)).toNat +
 switchesF (k - (1 : Int))).toNat)).getD
 ((↑x : Int) / (2 : Int)).toNat (0 : Int) +
 bitsF BinOp.xor IntKind.i64 ((↑x : Int) % (2 : Int))
 (IntKind.u8.wrap
 (bt
 (s.extract (↑(0 : Nat) : Int).toNat
 ((1 : Int) * (2 : Int) ^ (k - (1 : Int)).toNat).toNat)
 ((↑x : Int) / (2 : Int)).toNat -
 (48 : Int)))) ∧
 ((0 : Int) ≤
 (applyF (k - (1 : Int)).toNat
 (s.extract ((1 : Int) * (2 : Int) ^ (k - (1 : Int)).toNat).toNat
 ((1 : Int) * (2 : Int) ^ (k - (1 : Int)).toNat +
 switchesF (k - (1 : Int))).toNat)).getD
 ((↑x : Int) / (2 : Int)).toNat (0 : Int) ∧
 (applyF (k - (1 : Int)).toNat
 (s.extract ((1 : Int) * (2 : Int) ^ (k - (1 : Int)).toNat).toNat
 ((1 : Int) * (2 : Int) ^ (k - (1 : Int)).toNat +
 switchesF (k - (1 : Int))).toNat)).getD
 ((↑x : Int) / (2 : Int)).toNat (0 : Int) <
 (↑(s.extract
 ((1 : Int) * (2 : Int) ^ (k - (1 : Int)).toNat +
 (2 : Int) * switchesF (k - (1 : Int))).toNat
 (↑s.size : Int).toNat).size :
 Int)) ∧
 Fits IntKind.i64
 (IntKind.u8.wrap
 (bt
 (s.extract
 ((1 : Int) * (2 : Int) ^ (k - (1 : Int)).toNat +
 (2 : Int) * switchesF (k - (1 : Int))).toNat
 (↑s.size : Int).toNat)
 ((applyF (k - (1 : Int)).toNat
 (s.extract
 ((1 : Int) * (2 : Int) ^ (k - (1 : Int)).toNat).toNat
 ((1 : Int) * (2 : Int) ^ (k - (1 : Int)).toNat +
 switchesF (k - (1 : Int))).toNat)).getD
 ((↑x : Int) / (2 : Int)).toNat (0 : Int)).toNat -
 (48 : Int))) ∧
 ((0 : Int) ≤ (↑x : Int) ∧
 (↑x : Int) < (↑(applyTo k.toNat s x).length : Int)) ∧
 Fits IntKind.i64 ((↑x : Int) + (1 : Int)) ∧
 ∃ (x' : Nat),
 x' ≤ (2 : Nat) * hN k.toNat ∧
 (2 : Nat) * hN k.toNat - x' < (2 : Nat) * hN k.toNat - x ∧
 ((applyF (k - (1 : Int)).toNat
 (s.extract
 ((1 : Int) * (2 : Int) ^ (k - (1 : Int)).toNat).toNat
 ((1 : Int) * (2 : Int) ^ (k - (1 : Int)).toNat +
 switchesF (k - (1 : Int))).toNat) =
 applyF (k - (1 : Int)).toNat
 (s.extract
 ((1 : Int) * (2 : Int) ^ (k - (1 : Int)).toNat).toNat
 ((1 : Int) * (2 : Int) ^ (k - (1 : Int)).toNat +
 switchesF (k - (1 : Int))).toNat) ∧
 applyF (k - (1 : Int)).toNat
 (s.extract
 ((1 : Int) * (2 : Int) ^ (k - (1 : Int)).toNat +
 switchesF (k - (1 : Int))).toNat
 ((1 : Int) * (2 : Int) ^ (k - (1 : Int)).toNat +
 (2 : Int) * switchesF (k - (1 : Int))).toNat) =
 applyF (k - (1 : Int)).toNat
 (s.extract
 ((1 : Int) * (2 : Int) ^ (k - (1 : Int)).toNat +
 switchesF (k - (1 : Int))).toNat
 ((1 : Int) * (2 : Int) ^ (k - (1 : Int)).toNat +
 (2 : Int) * switchesF (k - (1 : Int))).toNat) ∧
 True) ∧
 (applyTo k.toNat s x).set (↑x : Int).toNat
 (bitsF BinOp.xor IntKind.i64
 ((2 : Int) *
 (applyF (k - (1 : Int)).toNat
 (s.extract
 ((1 : Int) *
 (2 : Int) ^
 (k - (1 : Int)).toNat).toNat
 ((1 : Int) *
 (2 : Int) ^ (k - (1 : Int)).toNat +
 switchesF
 (k - (1 : Int))).toNat)).getD
 ((↑x : Int) / (2 : Int)).toNat (0 : Int) +
 bitsF BinOp.xor IntKind.i64 ((↑x : Int) % (2 : Int))
 (IntKind.u8.wrap
 (bt
 (s.extract (↑(0 : Nat) : Int).toNat
 ((1 : Int) *
 (2 : Int) ^
 (k - (1 : Int)).toNat).toNat)
 ((↑x : Int) / (2 : Int)).toNat -
 (48 : Int))))
 (IntKind.u8.wrap
 (bt
 (s.extract
 ((1 : Int) *
 (2 : Int) ^ (k - (1 : Int)).toNat +
 (2 : Int) *
 switchesF (k - (1 : Int))).toNat
 (↑s.size : Int).toNat)
 ((applyF (k - (1 : Int)).toNat
 (s.extract
 ((1 : Int) *
 (2 : Int) ^
 (k - (1 : Int)).toNat).toNat
 ((1 : Int) *
 (2 : Int) ^
 (k - (1 : Int)).toNat +
 switchesF
 (k - (1 : Int))).toNat)).getD
 ((↑x : Int) / (2 : Int)).toNat
 (0 : Int)).toNat -
 (48 : Int)))) =
 applyTo k.toNat s x' ∧
 True) ∧
 (↑x : Int) + (1 : Int) = (↑x' : Int) ∧
 (↑(List.replicate
 ((2 : Int) *
 ((1 : Int) *
 (2 : Int) ^ (k - (1 : Int)).toNat)).toNat
 (0 : Int)).length :
 Int) =
 (↑(List.replicate
 ((2 : Int) *
 ((1 : Int) *
 (2 : Int) ^ (k - (1 : Int)).toNat)).toNat
 (0 : Int)).length :
 Int) ∧
 True ∧
 True ∧
 s.extract
 ((1 : Int) * (2 : Int) ^ (k - (1 : Int)).toNat +
 (2 : Int) * switchesF (k - (1 : Int))).toNat
 (↑s.size : Int).toNat =
 s.extract
 ((1 : Int) * (2 : Int) ^ (k - (1 : Int)).toNat +
 (2 : Int) * switchesF (k - (1 : Int))).toNat
 (↑s.size : Int).toNat ∧
 s.extract (↑(0 : Nat) : Int).toNat
 ((1 : Int) *
 (2 : Int) ^ (k - (1 : Int)).toNat).toNat =
 s.extract (↑(0 : Nat) : Int).toNat
 ((1 : Int) *
 (2 : Int) ^ (k - (1 : Int)).toNat).toNat ∧
 True)) ∧
 (bitsF BinOp.xor IntKind.i64 ((↑x : Int) % (2 : Int))
 (IntKind.u8.wrap
 (bt
 (s.extract (↑(0 : Nat) : Int).toNat
 ((1 : Int) * (2 : Int) ^ (k - (1 : Int)).toNat).toNat)
 ((↑x : Int) / (2 : Int)).toNat -
 (48 : Int))) =
 (↑(1 : Nat) : Int) →
 ((0 : Int) ≤ (↑x : Int) ∧ (0 : Int) < (2 : Int)) ∧
 Fits IntKind.i64 ((↑x : Int) / (2 : Int)) ∧
 ((0 : Int) ≤ (↑x : Int) / (2 : Int) ∧
 (↑x : Int) / (2 : Int) <
 (↑(applyF (k - (1 : Int)).toNat
 (s.extract
 ((1 : Int) * (2 : Int) ^ (k - (1 : Int)).toNat +
 switchesF (k - (1 : Int))).toNat
 ((1 : Int) * (2 : Int) ^ (k - (1 : Int)).toNat +
 (2 : Int) * switchesF (k - (1 : Int))).toNat)).length :
 Int)) ∧
 Fits IntKind.i64
 ((2 : Int) *
 (applyF (k - (1 : Int)).toNat
 (s.extract
 ((1 : Int) * (2 : Int) ^ (k - (1 : Int)).toNat +
 switchesF (k - (1 : Int))).toNat
 ((1 : Int) * (2 : Int) ^ (k - (1 : Int)).toNat +
 (2 : Int) * switchesF (k - (1 : Int))).toNat)).getD
 ((↑x : Int) / (2 : Int)).toNat (0 : Int)) ∧
 Fits IntKind.i64
 ((2 : Int) *
 (applyF (k - (1 : Int)).toNat
 (s.extract
 ((1 : Int) * (2 : Int) ^ (k - (1 : Int)).toNat +
 switchesF (k - (1 : Int))).toNat
 ((1 : Int) * (2 : Int) ^ (k - (1 : Int)).toNat +
 (2 : Int) * switchesF (k - (1 : Int))).toNat)).getD
 ((↑x : Int) / (2 : Int)).toNat (0 : Int) +
 bitsF BinOp.xor IntKind.i64 ((↑x : Int) % (2 : Int))
 (IntKind.u8.wrap
 (bt
 (s.extract (↑(0 : Nat) : Int).toNat
 ((1 : Int) * (2 : Int) ^ (k - (1 : Int)).toNat).toNat)
 ((↑x : Int) / (2 : Int)).toNat -
 (48 : Int)))) ∧
 ((0 : Int) ≤
 (applyF (k - (1 : Int)).toNat
 (s.extract
 ((1 : Int) * (2 : Int) ^ (k - (1 : Int)).toNat +
 switchesF (k - (1 : Int))).toNat
 ((1 : Int) * (2 : Int) ^ (k - (1 : Int)).toNat +
 (2 : Int) * switchesF (k - (1 : Int))).toNat)).getD
 ((↑x : Int) / (2 : Int)).toNat (0 : Int) ∧
 (applyF (k - (1 : Int)).toNat
 (s.extract
 ((1 : Int) * (2 : Int) ^ (k - (1 : Int)).toNat +
 switchesF (k - (1 : Int))).toNat
 ((1 : Int) * (2 : Int) ^ (k - (1 : Int)).toNat +
 (2 : Int) * switchesF (k - (1 : Int))).toNat)).getD
 ((↑x : Int) / (2 : Int)).toNat (0 : Int) <
 (↑(s.extract
 ((1 : Int) * (2 : Int) ^ (k - (1 : Int)).toNat +
 (2 : Int) * switchesF (k - (1 : Int))).toNat
 (↑s.size : Int).toNat).size :
 Int)) ∧
 Fits IntKind.i64
 (IntKind.u8.wrap
 (bt
 (s.extract
 ((1 : Int) * (2 : Int) ^ (k - (1 : Int)).toNat +
 (2 : Int) * switchesF (k - (1 : Int))).toNat
 (↑s.size : Int).toNat)
 ((applyF (k - (1 : Int)).toNat
 (s.extract
 ((1 : Int) * (2 : Int) ^ (k - (1 : Int)).toNat +
 switchesF (k - (1 : Int))).toNat
 ((1 : Int) * (2 : Int) ^ (k - (1 : Int)).toNat +
 (2 : Int) * switchesF (k - (1 : Int))).toNat)).getD
 ((↑x : Int) / (2 : Int)).toNat (0 : Int)).toNat -
 (48 : Int))) ∧
 ((0 : Int) ≤ (↑x : Int) ∧
 (↑x : Int) < (↑(applyTo k.toNat s x).length : Int)) ∧
 Fits IntKind.i64 ((↑x : Int) + (1 : Int)) ∧
 ∃ (x' : Nat),
 x' ≤ (2 : Nat) * hN k.toNat ∧
 (2 : Nat) * hN k.toNat - x' < (2 : Nat) * hN k.toNat - x ∧
 ((applyF (k - (1 : Int)).toNat
 (s.extract
 ((1 : Int) * (2 : Int) ^ (k - (1 : Int)).toNat).toNat
 ((1 : Int) * (2 : Int) ^ (k - (1 : Int)).toNat +
 switchesF (k - (1 : Int))).toNat) =
 applyF (k - (1 : Int)).toNat
 (s.extract
 ((1 : Int) * (2 : Int) ^ (k - (1 : Int)).toNat).toNat
 ((1 : Int) * (2 : Int) ^ (k - (1 : Int)).toNat +
 switchesF (k - (1 : Int))).toNat) ∧
 applyF (k - (1 : Int)).toNat
 (s.extract
 ((1 : Int) * (2 : Int) ^ (k - (1 : Int)).toNat +
 switchesF (k - (1 : Int))).toNat
 ((1 : Int) * (2 : Int) ^ (k - (1 : Int)).toNat +
 (2 : Int) * switchesF (k - (1 : Int))).toNat) =
 applyF (k - (1 : Int)).toNat
 (s.extract
 ((1 : Int) * (2 : Int) ^ (k - (1 : Int)).toNat +
 switchesF (k - (1 : Int))).toNat
 ((1 : Int) * (2 : Int) ^ (k - (1 : Int)).toNat +
 (2 : Int) * switchesF (k - (1 : Int))).toNat) ∧
 True) ∧
 (applyTo k.toNat s x).set (↑x : Int).toNat
 (bitsF BinOp.xor IntKind.i64
 ((2 : Int) *
 (applyF (k - (1 : Int)).toNat
 (s.extract
 ((1 : Int) *
 (2 : Int) ^ (k - (1 : Int)).toNat +
 switchesF (k - (1 : Int))).toNat
 ((1 : Int) *
 (2 : Int) ^ (k - (1 : Int)).toNat +
 (2 : Int) *
 switchesF
 (k - (1 : Int))).toNat)).getD
 ((↑x : Int) / (2 : Int)).toNat (0 : Int) +
 bitsF BinOp.xor IntKind.i64 ((↑x : Int) % (2 : Int))
 (IntKind.u8.wrap
 (bt
 (s.extract (↑(0 : Nat) : Int).toNat
 ((1 : Int) *
 (2 : Int) ^
 (k - (1 : Int)).toNat).toNat)
 ((↑x : Int) / (2 : Int)).toNat -
 (48 : Int))))
 (IntKind.u8.wrap
 (bt
 (s.extract
 ((1 : Int) * (2 : Int) ^ (k - (1 : Int)).toNat +
 (2 : Int) * switchesF (k - (1 : Int))).toNat
 (↑s.size : Int).toNat)
 ((applyF (k - (1 : Int)).toNat
 (s.extract
 ((1 : Int) *
 (2 : Int) ^
 (k - (1 : Int)).toNat +
 switchesF (k - (1 : Int))).toNat
 ((1 : Int) *
 (2 : Int) ^
 (k - (1 : Int)).toNat +
 (2 : Int) *
 switchesF
 (k - (1 : Int))).toNat)).getD
 ((↑x : Int) / (2 : Int)).toNat
 (0 : Int)).toNat -
 (48 : Int)))) =
 applyTo k.toNat s x' ∧
 True) ∧
 (↑x : Int) + (1 : Int) = (↑x' : Int) ∧
 (↑(List.replicate
 ((2 : Int) *
 ((1 : Int) *
 (2 : Int) ^ (k - (1 : Int)).toNat)).toNat
 (0 : Int)).length :
 Int) =
 (↑(List.replicate
 ((2 : Int) *
 ((1 : Int) *
 (2 : Int) ^ (k - (1 : Int)).toNat)).toNat
 (0 : Int)).length :
 Int) ∧
 True ∧
 True ∧
 s.extract
 ((1 : Int) * (2 : Int) ^ (k - (1 : Int)).toNat +
 (2 : Int) * switchesF (k - (1 : Int))).toNat
 (↑s.size : Int).toNat =
 s.extract
 ((1 : Int) * (2 : Int) ^ (k - (1 : Int)).toNat +
 (2 : Int) * switchesF (k - (1 : Int))).toNat
 (↑s.size : Int).toNat ∧
 s.extract (↑(0 : Nat) : Int).toNat
 ((1 : Int) *
 (2 : Int) ^ (k - (1 : Int)).toNat).toNat =
 s.extract (↑(0 : Nat) : Int).toNat
 ((1 : Int) *
 (2 : Int) ^ (k - (1 : Int)).toNat).toNat ∧
 True)) ∧
 (¬(↑x : Int) <
 (↑(List.replicate ((2 : Int) * ((1 : Int) * (2 : Int) ^ (k - (1 : Int)).toNat)).toNat (0 : Int)).length :
 Int) →
 ¬(↑x : Int) <
 (↑(List.replicate ((2 : Int) * ((1 : Int) * (2 : Int) ^ (k - (1 : Int)).toNat)).toNat
 (0 : Int)).length :
 Int) ∧
 applyTo k.toNat s x = applyF k.toNat s)) ∧
 ((((1 : Int) ≤ k - (1 : Int) ∧ k - (1 : Int) ≤ (3 : Int)) ∧
 (s.extract ((1 : Int) * (2 : Int) ^ (k - (1 : Int)).toNat + switchesF (k - (1 : Int))).toNat
 ((1 : Int) * (2 : Int) ^ (k - (1 : Int)).toNat + (2 : Int) * switchesF (k - (1 : Int))).toNat).size =
 swN (k - (1 : Int)).toNat ∧
 ∀ (i : Nat),
 i <
 (s.extract ((1 : Int) * (2 : Int) ^ (k - (1 : Int)).toNat + switchesF (k - (1 : Int))).toNat
 ((1 : Int) * (2 : Int) ^ (k - (1 : Int)).toNat + (2 : Int) * switchesF (k - (1 : Int))).toNat).size →
 bt
 (s.extract ((1 : Int) * (2 : Int) ^ (k - (1 : Int)).toNat + switchesF (k - (1 : Int))).toNat
 ((1 : Int) * (2 : Int) ^ (k - (1 : Int)).toNat + (2 : Int) * switchesF (k - (1 : Int))).toNat)
 i =
 (48 : Int) ∨
 bt
 (s.extract ((1 : Int) * (2 : Int) ^ (k - (1 : Int)).toNat + switchesF (k - (1 : Int))).toNat
 ((1 : Int) * (2 : Int) ^ (k - (1 : Int)).toNat + (2 : Int) * switchesF (k - (1 : Int))).toNat)
 i =
 (49 : Int)) ∧
 m53
 (k - (1 : Int),
 s.extract ((1 : Int) * (2 : Int) ^ (k - (1 : Int)).toNat + switchesF (k - (1 : Int))).toNat
 ((1 : Int) * (2 : Int) ^ (k - (1 : Int)).toNat + (2 : Int) * switchesF (k - (1 : Int))).toNat) <
 m53 (k, s)) ∧
 Fits IntKind.i64 ((2 : Int) * ((1 : Int) * (2 : Int) ^ (k - (1 : Int)).toNat)) ∧
 ((0 : Int) ≤ (2 : Int) * ((1 : Int) * (2 : Int) ^ (k - (1 : Int)).toNat) ∧
 (2 : Int) * ((1 : Int) * (2 : Int) ^ (k - (1 : Int)).toNat) ≤
 (2 : Int) * ((1 : Int) * (2 : Int) ^ (k - (1 : Int)).toNat) ∧
 Small ((2 : Int) * ((1 : Int) * (2 : Int) ^ (k - (1 : Int)).toNat)).toNat) ∧
 (∃ (x0 : Nat),
 x0 ≤ (2 : Nat) * hN k.toNat ∧
 ((applyF (k - (1 : Int)).toNat
 (s.extract ((1 : Int) * (2 : Int) ^ (k - (1 : Int)).toNat).toNat
 ((1 : Int) * (2 : Int) ^ (k - (1 : Int)).toNat + switchesF (k - (1 : Int))).toNat) =
 applyF (k - (1 : Int)).toNat
 (s.extract ((1 : Int) * (2 : Int) ^ (k - (1 : Int)).toNat).toNat
 ((1 : Int) * (2 : Int) ^ (k - (1 : Int)).toNat + switchesF (k - (1 : Int))).toNat) ∧
 applyF (k - (1 : Int)).toNat
 (s.extract ((1 : Int) * (2 : Int) ^ (k - (1 : Int)).toNat + switchesF (k - (1 : Int))).toNat
 ((1 : Int) * (2 : Int) ^ (k - (1 : Int)).toNat + (2 : Int) * switchesF (k - (1 : Int))).toNat) =
 applyF (k - (1 : Int)).toNat
 (s.extract ((1 : Int) * (2 : Int) ^ (k - (1 : Int)).toNat + switchesF (k - (1 : Int))).toNat
 ((1 : Int) * (2 : Int) ^ (k - (1 : Int)).toNat + (2 : Int) * switchesF (k - (1 : Int))).toNat) ∧
 True) ∧
 List.replicate ((2 : Int) * ((1 : Int) * (2 : Int) ^ (k - (1 : Int)).toNat)).toNat (0 : Int) =
 applyTo k.toNat s x0 ∧
 True) ∧
 (0 : Int) = (↑x0 : Int) ∧
 (↑(List.replicate ((2 : Int) * ((1 : Int) * (2 : Int) ^ (k - (1 : Int)).toNat)).toNat (0 : Int)).length :
 Int) =
 (↑(List.replicate ((2 : Int) * ((1 : Int) * (2 : Int) ^ (k - (1 : Int)).toNat)).toNat (0 : Int)).length :
 Int) ∧
 True ∧
 True ∧
 s.extract ((1 : Int) * (2 : Int) ^ (k - (1 : Int)).toNat + (2 : Int) * switchesF (k - (1 : Int))).toNat
 (↑s.size : Int).toNat =
 s.extract
 ((1 : Int) * (2 : Int) ^ (k - (1 : Int)).toNat + (2 : Int) * switchesF (k - (1 : Int))).toNat
 (↑s.size : Int).toNat ∧
 s.extract (↑(0 : Nat) : Int).toNat ((1 : Int) * (2 : Int) ^ (k - (1 : Int)).toNat).toNat =
 s.extract (↑(0 : Nat) : Int).toNat ((1 : Int) * (2 : Int) ^ (k - (1 : Int)).toNat).toNat ∧
 True) ∧
 ∀ (x : Nat),
 x ≤ (2 : Nat) * hN k.toNat →
 ((↑x : Int) <
 (↑(List.replicate ((2 : Int) * ((1 : Int) * (2 : Int) ^ (k - (1 : Int)).toNat)).toNat (0 : Int)).length :
 Int) →
 (↑x : Int) <
 (↑(List.replicate ((2 : Int) * ((1 : Int) * (2 : Int) ^ (k - (1 : Int)).toNat)).toNat (0 : Int)).length :
 Int) ∧
 ((0 : Int) ≤ (↑x : Int) ∧ (0 : Int) < (2 : Int)) ∧
 ((0 : Int) ≤ (↑x : Int) ∧ (0 : Int) < (2 : Int)) ∧
 Fits IntKind.i64 ((↑x : Int) / (2 : Int)) ∧
 ((0 : Int) ≤ (↑x : Int) / (2 : Int) ∧
 (↑x : Int) / (2 : Int) <
 (↑(s.extract (↑(0 : Nat) : Int).toNat
 ((1 : Int) * (2 : Int) ^ (k - (1 : Int)).toNat).toNat).size :
 Int)) ∧
 Fits IntKind.i64
 (IntKind.u8.wrap
 (bt (s.extract (↑(0 : Nat) : Int).toNat ((1 : Int) * (2 : Int) ^ (k - (1 : Int)).toNat).toNat)
 ((↑x : Int) / (2 : Int)).toNat -
 (48 : Int))) ∧
 ((0 : Int) ≤
 bitsF BinOp.xor IntKind.i64 ((↑x : Int) % (2 : Int))
 (IntKind.u8.wrap
 (bt
 (s.extract (↑(0 : Nat) : Int).toNat
 ((1 : Int) * (2 : Int) ^ (k - (1 : Int)).toNat).toNat)
 ((↑x : Int) / (2 : Int)).toNat -
 (48 : Int))) ∧
 bitsF BinOp.xor IntKind.i64 ((↑x : Int) % (2 : Int))
 (IntKind.u8.wrap
 (bt
 (s.extract (↑(0 : Nat) : Int).toNat
 ((1 : Int) * (2 : Int) ^ (k - (1 : Int)).toNat).toNat)
 ((↑x : Int) / (2 : Int)).toNat -
 (48 : Int))) <
 (↑(2 : Nat) : Int)) ∧
 (True ∧
 (bitsF BinOp.xor IntKind.i64 ((↑x : Int) % (2 : Int))
 (IntKind.u8.wrap
 (bt
 (s.extract (↑(0 : Nat) : Int).toNat
 ((1 : Int) * (2 : Int) ^ (k - (1 : Int)).toNat).toNat)
 ((↑x : Int) / (2 : Int)).toNat -
 (48 : Int))) =
 (↑(0 : Nat) : Int) →
 ((0 : Int) ≤ (↑x : Int) ∧ (0 : Int) < (2 : Int)) ∧
 Fits IntKind.i64 ((↑x : Int) / (2 : Int)) ∧
 ((0 : Int) ≤ (↑x : Int) / (2 : Int) ∧
 (↑x : Int) / (2 : Int) <
 (↑(applyF (k - (1 : Int)).toNat
 (s.extract ((1 : Int) * (2 : Int) ^ (k - (1 : Int)).toNat).toNat
 ((1 : Int) * (2 : Int) ^ (k - (1 : Int)).toNat +
 switchesF (k - (1 : Int))).toNat)).length :
 Int)) ∧
 Fits IntKind.i64
 ((2 : Int) *
 (applyF (k - (1 : Int)).toNat
 (s.extract ((1 : Int) * (2 : Int) ^ (k - (1 : Int)).toNat).toNat
 ((1 : Int) * (2 : Int) ^ (k - (1 : Int)).toNat +
 switchesF (k - (1 : Int))).toNat)).getD
 ((↑x : Int) / (2 : Int)).toNat (0 : Int)) ∧
 Fits IntKind.i64
 ((2 : Int) *
 (applyF (k - (1 : Int)).toNat
 (s.extract ((1 : Int) * (2 : Int) ^ (k - (1 : Int)).toNat).toNat
 ((1 : Int) * (2 : Int) ^ (k - (1 : Int)).toNat +
 switchesF (k - (1 : Int))).toNat)).getD
 ((↑x : Int) / (2 : Int)).toNat (0 : Int) +
 bitsF BinOp.xor IntKind.i64 ((↑x : Int) % (2 : Int))
 (IntKind.u8.wrap
 (bt
 (s.extract (↑(0 : Nat) : Int).toNat
 ((1 : Int) * (2 : Int) ^ (k - (1 : Int)).toNat).toNat)
 ((↑x : Int) / (2 : Int)).toNat -
 (48 : Int)))) ∧
 ((0 : Int) ≤
 (applyF (k - (1 : Int)).toNat
 (s.extract ((1 : Int) * (2 : Int) ^ (k - (1 : Int)).toNat).toNat
 ((1 : Int) * (2 : Int) ^ (k - (1 : Int)).toNat +
 switchesF (k - (1 : Int))).toNat)).getD
 ((↑x : Int) / (2 : Int)).toNat (0 : Int) ∧
 (applyF (k - (1 : Int)).toNat
 (s.extract ((1 : Int) * (2 : Int) ^ (k - (1 : Int)).toNat).toNat
 ((1 : Int) * (2 : Int) ^ (k - (1 : Int)).toNat +
 switchesF (k - (1 : Int))).toNat)).getD
 ((↑x : Int) / (2 : Int)).toNat (0 : Int) <
 (↑(s.extract
 ((1 : Int) * (2 : Int) ^ (k - (1 : Int)).toNat +
 (2 : Int) * switchesF (k - (1 : Int))).toNat
 (↑s.size : Int).toNat).size :
 Int)) ∧
 Fits IntKind.i64
 (IntKind.u8.wrap
 (bt
 (s.extract
 ((1 : Int) * (2 : Int) ^ (k - (1 : Int)).toNat +
 (2 : Int) * switchesF (k - (1 : Int))).toNat
 (↑s.size : Int).toNat)
 ((applyF (k - (1 : Int)).toNat
 (s.extract
 ((1 : Int) * (2 : Int) ^ (k - (1 : Int)).toNat).toNat
 ((1 : Int) * (2 : Int) ^ (k - (1 : Int)).toNat +
 switchesF (k - (1 : Int))).toNat)).getD
 ((↑x : Int) / (2 : Int)).toNat (0 : Int)).toNat -
 (48 : Int))) ∧
 ((0 : Int) ≤ (↑x : Int) ∧
 (↑x : Int) < (↑(applyTo k.toNat s x).length : Int)) ∧
 Fits IntKind.i64 ((↑x : Int) + (1 : Int)) ∧
 ∃ (x' : Nat),
 x' ≤ (2 : Nat) * hN k.toNat ∧
 (2 : Nat) * hN k.toNat - x' < (2 : Nat) * hN k.toNat - x ∧
 ((applyF (k - (1 : Int)).toNat
 (s.extract
 ((1 : Int) * (2 : Int) ^ (k - (1 : Int)).toNat).toNat
 ((1 : Int) * (2 : Int) ^ (k - (1 : Int)).toNat +
 switchesF (k - (1 : Int))).toNat) =
 applyF (k - (1 : Int)).toNat
 (s.extract
 ((1 : Int) * (2 : Int) ^ (k - (1 : Int)).toNat).toNat
 ((1 : Int) * (2 : Int) ^ (k - (1 : Int)).toNat +
 switchesF (k - (1 : Int))).toNat) ∧
 applyF (k - (1 : Int)).toNat
 (s.extract
 ((1 : Int) * (2 : Int) ^ (k - (1 : Int)).toNat +
 switchesF (k - (1 : Int))).toNat
 ((1 : Int) * (2 : Int) ^ (k - (1 : Int)).toNat +
 (2 : Int) * switchesF (k - (1 : Int))).toNat) =
 applyF (k - (1 : Int)).toNat
 (s.extract
 ((1 : Int) * (2 : Int) ^ (k - (1 : Int)).toNat +
 switchesF (k - (1 : Int))).toNat
 ((1 : Int) * (2 : Int) ^ (k - (1 : Int)).toNat +
 (2 : Int) * switchesF (k - (1 : Int))).toNat) ∧
 True) ∧
 (applyTo k.toNat s x).set (↑x : Int).toNat
 (bitsF BinOp.xor IntKind.i64
 ((2 : Int) *
 (applyF (k - (1 : Int)).toNat
 (s.extract
 ((1 : Int) *
 (2 : Int) ^
 (k - (1 : Int)).toNat).toNat
 ((1 : Int) *
 (2 : Int) ^ (k - (1 : Int)).toNat +
 switchesF
 (k - (1 : Int))).toNat)).getD
 ((↑x : Int) / (2 : Int)).toNat (0 : Int) +
 bitsF BinOp.xor IntKind.i64 ((↑x : Int) % (2 : Int))
 (IntKind.u8.wrap
 (bt
 (s.extract (↑(0 : Nat) : Int).toNat
 ((1 : Int) *
 (2 : Int) ^
 (k - (1 : Int)).toNat).toNat)
 ((↑x : Int) / (2 : Int)).toNat -
 (48 : Int))))
 (IntKind.u8.wrap
 (bt
 (s.extract
 ((1 : Int) *
 (2 : Int) ^ (k - (1 : Int)).toNat +
 (2 : Int) *
 switchesF (k - (1 : Int))).toNat
 (↑s.size : Int).toNat)
 ((applyF (k - (1 : Int)).toNat
 (s.extract
 ((1 : Int) *
 (2 : Int) ^
 (k - (1 : Int)).toNat).toNat
 ((1 : Int) *
 (2 : Int) ^
 (k - (1 : Int)).toNat +
 switchesF
 (k - (1 : Int))).toNat)).getD
 ((↑x : Int) / (2 : Int)).toNat
 (0 : Int)).toNat -
 (48 : Int)))) =
 applyTo k.toNat s x' ∧
 True) ∧
 (↑x : Int) + (1 : Int) = (↑x' : Int) ∧
 (↑(List.replicate
 ((2 : Int) *
 ((1 : Int) *
 (2 : Int) ^ (k - (1 : Int)).toNat)).toNat
 (0 : Int)).length :
 Int) =
 (↑(List.replicate
 ((2 : Int) *
 ((1 : Int) *
 (2 : Int) ^ (k - (1 : Int)).toNat)).toNat
 (0 : Int)).length :
 Int) ∧
 True ∧
 True ∧
 s.extract
 ((1 : Int) * (2 : Int) ^ (k - (1 : Int)).toNat +
 (2 : Int) * switchesF (k - (1 : Int))).toNat
 (↑s.size : Int).toNat =
 s.extract
 ((1 : Int) * (2 : Int) ^ (k - (1 : Int)).toNat +
 (2 : Int) * switchesF (k - (1 : Int))).toNat
 (↑s.size : Int).toNat ∧
 s.extract (↑(0 : Nat) : Int).toNat
 ((1 : Int) *
 (2 : Int) ^ (k - (1 : Int)).toNat).toNat =
 s.extract (↑(0 : Nat) : Int).toNat
 ((1 : Int) *
 (2 : Int) ^ (k - (1 : Int)).toNat).toNat ∧
 True)) ∧
 (bitsF BinOp.xor IntKind.i64 ((↑x : Int) % (2 : Int))
 (IntKind.u8.wrap
 (bt
 (s.extract (↑(0 : Nat) : Int).toNat
 ((1 : Int) * (2 : Int) ^ (k - (1 : Int)).toNat).toNat)
 ((↑x : Int) / (2 : Int)).toNat -
 (48 : Int))) =
 (↑(1 : Nat) : Int) →
 ((0 : Int) ≤ (↑x : Int) ∧ (0 : Int) < (2 : Int)) ∧
 Fits IntKind.i64 ((↑x : Int) / (2 : Int)) ∧
 ((0 : Int) ≤ (↑x : Int) / (2 : Int) ∧
 (↑x : Int) / (2 : Int) <
 (↑(applyF (k - (1 : Int)).toNat
 (s.extract
 ((1 : Int) * (2 : Int) ^ (k - (1 : Int)).toNat +
 switchesF (k - (1 : Int))).toNat
 ((1 : Int) * (2 : Int) ^ (k - (1 : Int)).toNat +
 (2 : Int) * switchesF (k - (1 : Int))).toNat)).length :
 Int)) ∧
 Fits IntKind.i64
 ((2 : Int) *
 (applyF (k - (1 : Int)).toNat
 (s.extract
 ((1 : Int) * (2 : Int) ^ (k - (1 : Int)).toNat +
 switchesF (k - (1 : Int))).toNat
 ((1 : Int) * (2 : Int) ^ (k - (1 : Int)).toNat +
 (2 : Int) * switchesF (k - (1 : Int))).toNat)).getD
 ((↑x : Int) / (2 : Int)).toNat (0 : Int)) ∧
 Fits IntKind.i64
 ((2 : Int) *
 (applyF (k - (1 : Int)).toNat
 (s.extract
 ((1 : Int) * (2 : Int) ^ (k - (1 : Int)).toNat +
 switchesF (k - (1 : Int))).toNat
 ((1 : Int) * (2 : Int) ^ (k - (1 : Int)).toNat +
 (2 : Int) * switchesF (k - (1 : Int))).toNat)).getD
 ((↑x : Int) / (2 : Int)).toNat (0 : Int) +
 bitsF BinOp.xor IntKind.i64 ((↑x : Int) % (2 : Int))
 (IntKind.u8.wrap
 (bt
 (s.extract (↑(0 : Nat) : Int).toNat
 ((1 : Int) * (2 : Int) ^ (k - (1 : Int)).toNat).toNat)
 ((↑x : Int) / (2 : Int)).toNat -
 (48 : Int)))) ∧
 ((0 : Int) ≤
 (applyF (k - (1 : Int)).toNat
 (s.extract
 ((1 : Int) * (2 : Int) ^ (k - (1 : Int)).toNat +
 switchesF (k - (1 : Int))).toNat
 ((1 : Int) * (2 : Int) ^ (k - (1 : Int)).toNat +
 (2 : Int) * switchesF (k - (1 : Int))).toNat)).getD
 ((↑x : Int) / (2 : Int)).toNat (0 : Int) ∧
 (applyF (k - (1 : Int)).toNat
 (s.extract
 ((1 : Int) * (2 : Int) ^ (k - (1 : Int)).toNat +
 switchesF (k - (1 : Int))).toNat
 ((1 : Int) * (2 : Int) ^ (k - (1 : Int)).toNat +
 (2 : Int) * switchesF (k - (1 : Int))).toNat)).getD
 ((↑x : Int) / (2 : Int)).toNat (0 : Int) <
 (↑(s.extract
 ((1 : Int) * (2 : Int) ^ (k - (1 : Int)).toNat +
 (2 : Int) * switchesF (k - (1 : Int))).toNat
 (↑s.size : Int).toNat).size :
 Int)) ∧
 Fits IntKind.i64
 (IntKind.u8.wrap
 (bt
 (s.extract
 ((1 : Int) * (2 : Int) ^ (k - (1 : Int)).toNat +
 (2 : Int) * switchesF (k - (1 : Int))).toNat
 (↑s.size : Int).toNat)
 ((applyF (k - (1 : Int)).toNat
 (s.extract
 ((1 : Int) * (2 : Int) ^ (k - (1 : Int)).toNat +
 switchesF (k - (1 : Int))).toNat
 ((1 : Int) * (2 : Int) ^ (k - (1 : Int)).toNat +
 (2 : Int) * switchesF (k - (1 : Int))).toNat)).getD
 ((↑x : Int) / (2 : Int)).toNat (0 : Int)).toNat -
 (48 : Int))) ∧
 ((0 : Int) ≤ (↑x : Int) ∧
 (↑x : Int) < (↑(applyTo k.toNat s x).length : Int)) ∧
 Fits IntKind.i64 ((↑x : Int) + (1 : Int)) ∧
 ∃ (x' : Nat),
 x' ≤ (2 : Nat) * hN k.toNat ∧
 (2 : Nat) * hN k.toNat - x' < (2 : Nat) * hN k.toNat - x ∧
 ((applyF (k - (1 : Int)).toNat
 (s.extract
 ((1 : Int) * (2 : Int) ^ (k - (1 : Int)).toNat).toNat
 ((1 : Int) * (2 : Int) ^ (k - (1 : Int)).toNat +
 switchesF (k - (1 : Int))).toNat) =
 applyF (k - (1 : Int)).toNat
 (s.extract
 ((1 : Int) * (2 : Int) ^ (k - (1 : Int)).toNat).toNat
 ((1 : Int) * (2 : Int) ^ (k - (1 : Int)).toNat +
 switchesF (k - (1 : Int))).toNat) ∧
 applyF (k - (1 : Int)).toNat
 (s.extract
 ((1 : Int) * (2 : Int) ^ (k - (1 : Int)).toNat +
 switchesF (k - (1 : Int))).toNat
 ((1 : Int) * (2 : Int) ^ (k - (1 : Int)).toNat +
 (2 : Int) * switchesF (k - (1 : Int))).toNat) =
 applyF (k - (1 : Int)).toNat
 (s.extract
 ((1 : Int) * (2 : Int) ^ (k - (1 : Int)).toNat +
 switchesF (k - (1 : Int))).toNat
 ((1 : Int) * (2 : Int) ^ (k - (1 : Int)).toNat +
 (2 : Int) * switchesF (k - (1 : Int))).toNat) ∧
 True) ∧
 (applyTo k.toNat s x).set (↑x : Int).toNat
 (bitsF BinOp.xor IntKind.i64
 ((2 : Int) *
 (applyF (k - (1 : Int)).toNat
 (s.extract
 ((1 : Int) *
 (2 : Int) ^ (k - (1 : Int)).toNat +
 switchesF (k - (1 : Int))).toNat
 ((1 : Int) *
 (2 : Int) ^ (k - (1 : Int)).toNat +
 (2 : Int) *
 switchesF
 (k - (1 : Int))).toNat)).getD
 ((↑x : Int) / (2 : Int)).toNat (0 : Int) +
 bitsF BinOp.xor IntKind.i64 ((↑x : Int) % (2 : Int))
 (IntKind.u8.wrap
 (bt
 (s.extract (↑(0 : Nat) : Int).toNat
 ((1 : Int) *
 (2 : Int) ^
 (k - (1 : Int)).toNat).toNat)
 ((↑x : Int) / (2 : Int)).toNat -
 (48 : Int))))
 (IntKind.u8.wrap
 (bt
 (s.extract
 ((1 : Int) * (2 : Int) ^ (k - (1 : Int)).toNat +
 (2 : Int) * switchesF (k - (1 : Int))).toNat
 (↑s.size : Int).toNat)
 ((applyF (k - (1 : Int)).toNat
 (s.extract
 ((1 : Int) *
 (2 : Int) ^
 (k - (1 : Int)).toNat +
 switchesF (k - (1 : Int))).toNat
 ((1 : Int) *
 (2 : Int) ^
 (k - (1 : Int)).toNat +
 (2 : Int) *
 switchesF
 (k - (1 : Int))).toNat)).getD
 ((↑x : Int) / (2 : Int)).toNat
 (0 : Int)).toNat -
 (48 : Int)))) =
 applyTo k.toNat s x' ∧
 True) ∧
 (↑x : Int) + (1 : Int) = (↑x' : Int) ∧
 (↑(List.replicate
 ((2 : Int) *
 ((1 : Int) *
 (2 : Int) ^ (k - (1 : Int)).toNat)).toNat
 (0 : Int)).length :
 Int) =
 (↑(List.replicate
 ((2 : Int) *
 ((1 : Int) *
 (2 : Int) ^ (k - (1 : Int)).toNat)).toNat
 (0 : Int)).length :
 Int) ∧
 True ∧
 True ∧
 s.extract
 ((1 : Int) * (2 : Int) ^ (k - (1 : Int)).toNat +
 (2 : Int) * switchesF (k - (1 : Int))).toNat
 (↑s.size : Int).toNat =
 s.extract
 ((1 : Int) * (2 : Int) ^ (k - (1 : Int)).toNat +
 (2 : Int) * switchesF (k - (1 : Int))).toNat
 (↑s.size : Int).toNat ∧
 s.extract (↑(0 : Nat) : Int).toNat
 ((1 : Int) *
 (2 : Int) ^ (k - (1 : Int)).toNat).toNat =
 s.extract (↑(0 : Nat) : Int).toNat
 ((1 : Int) *
 (2 : Int) ^ (k - (1 : Int)).toNat).toNat ∧
 True)) ∧
 (¬(↑x : Int) <
 (↑(List.replicate ((2 : Int) * ((1 : Int) * (2 : Int) ^ (k - (1 : Int)).toNat)).toNat (0 : Int)).length :
 Int) →
 ¬(↑x : Int) <
 (↑(List.replicate ((2 : Int) * ((1 : Int) * (2 : Int) ^ (k - (1 : Int)).toNat)).toNat
 (0 : Int)).length :
 Int) ∧
 applyTo k.toNat s x = applyF k.toNat s)) ∧
 ((((1 : Int) ≤ k - (1 : Int) ∧ k - (1 : Int) ≤ (3 : Int)) ∧
 (s.extract ((1 : Int) * (2 : Int) ^ (k - (1 : Int)).toNat).toNat
 ((1 : Int) * (2 : Int) ^ (k - (1 : Int)).toNat + switchesF (k - (1 : Int))).toNat).size =
 swN (k - (1 : Int)).toNat ∧
 ∀ (i : Nat),
 i <
 (s.extract ((1 : Int) * (2 : Int) ^ (k - (1 : Int)).toNat).toNat
 ((1 : Int) * (2 : Int) ^ (k - (1 : Int)).toNat + switchesF (k - (1 : Int))).toNat).size →
 bt
 (s.extract ((1 : Int) * (2 : Int) ^ (k - (1 : Int)).toNat).toNat
 ((1 : Int) * (2 : Int) ^ (k - (1 : Int)).toNat + switchesF (k - (1 : Int))).toNat)
 i =
 (48 : Int) ∨
 bt
 (s.extract ((1 : Int) * (2 : Int) ^ (k - (1 : Int)).toNat).toNat
 ((1 : Int) * (2 : Int) ^ (k - (1 : Int)).toNat + switchesF (k - (1 : Int))).toNat)
 i =
 (49 : Int)) ∧
 m53
 (k - (1 : Int),
 s.extract ((1 : Int) * (2 : Int) ^ (k - (1 : Int)).toNat).toNat
 ((1 : Int) * (2 : Int) ^ (k - (1 : Int)).toNat + switchesF (k - (1 : Int))).toNat) <
 m53 (k, s)) ∧
 ((((1 : Int) ≤ k - (1 : Int) ∧ k - (1 : Int) ≤ (3 : Int)) ∧
 (s.extract ((1 : Int) * (2 : Int) ^ (k - (1 : Int)).toNat + switchesF (k - (1 : Int))).toNat
 ((1 : Int) * (2 : Int) ^ (k - (1 : Int)).toNat + (2 : Int) * switchesF (k - (1 : Int))).toNat).size =
 swN (k - (1 : Int)).toNat ∧
 ∀ (i : Nat),
 i <
 (s.extract ((1 : Int) * (2 : Int) ^ (k - (1 : Int)).toNat + switchesF (k - (1 : Int))).toNat
 ((1 : Int) * (2 : Int) ^ (k - (1 : Int)).toNat + (2 : Int) * switchesF (k - (1 : Int))).toNat).size →
 bt
 (s.extract ((1 : Int) * (2 : Int) ^ (k - (1 : Int)).toNat + switchesF (k - (1 : Int))).toNat
 ((1 : Int) * (2 : Int) ^ (k - (1 : Int)).toNat + (2 : Int) * switchesF (k - (1 : Int))).toNat)
 i =
 (48 : Int) ∨
 bt
 (s.extract ((1 : Int) * (2 : Int) ^ (k - (1 : Int)).toNat + switchesF (k - (1 : Int))).toNat
 ((1 : Int) * (2 : Int) ^ (k - (1 : Int)).toNat + (2 : Int) * switchesF (k - (1 : Int))).toNat)
 i =
 (49 : Int)) ∧
 m53
 (k - (1 : Int),
 s.extract ((1 : Int) * (2 : Int) ^ (k - (1 : Int)).toNat + switchesF (k - (1 : Int))).toNat
 ((1 : Int) * (2 : Int) ^ (k - (1 : Int)).toNat + (2 : Int) * switchesF (k - (1 : Int))).toNat) <
 m53 (k, s)) ∧
 Fits IntKind.i64 ((2 : Int) * ((1 : Int) * (2 : Int) ^ (k - (1 : Int)).toNat)) ∧
 ((0 : Int) ≤ (2 : Int) * ((1 : Int) * (2 : Int) ^ (k - (1 : Int)).toNat) ∧
 (2 : Int) * ((1 : Int) * (2 : Int) ^ (k - (1 : Int)).toNat) ≤
 (2 : Int) * ((1 : Int) * (2 : Int) ^ (k - (1 : Int)).toNat) ∧
 Small ((2 : Int) * ((1 : Int) * (2 : Int) ^ (k - (1 : Int)).toNat)).toNat) ∧
 (∃ (x0 : Nat),
 x0 ≤ (2 : Nat) * hN k.toNat ∧
 ((applyF (k - (1 : Int)).toNat
 (s.extract ((1 : Int) * (2 : Int) ^ (k - (1 : Int)).toNat).toNat
 ((1 : Int) * (2 : Int) ^ (k - (1 : Int)).toNat + switchesF (k - (1 : Int))).toNat) =
 applyF (k - (1 : Int)).toNat
 (s.extract ((1 : Int) * (2 : Int) ^ (k - (1 : Int)).toNat).toNat
 ((1 : Int) * (2 : Int) ^ (k - (1 : Int)).toNat + switchesF (k - (1 : Int))).toNat) ∧
 applyF (k - (1 : Int)).toNat
 (s.extract ((1 : Int) * (2 : Int) ^ (k - (1 : Int)).toNat + switchesF (k - (1 : Int))).toNat
 ((1 : Int) * (2 : Int) ^ (k - (1 : Int)).toNat + (2 : Int) * switchesF (k - (1 : Int))).toNat) =
 applyF (k - (1 : Int)).toNat
 (s.extract ((1 : Int) * (2 : Int) ^ (k - (1 : Int)).toNat + switchesF (k - (1 : Int))).toNat
 ((1 : Int) * (2 : Int) ^ (k - (1 : Int)).toNat + (2 : Int) * switchesF (k - (1 : Int))).toNat) ∧
 True) ∧
 List.replicate ((2 : Int) * ((1 : Int) * (2 : Int) ^ (k - (1 : Int)).toNat)).toNat (0 : Int) =
 applyTo k.toNat s x0 ∧
 True) ∧
 (0 : Int) = (↑x0 : Int) ∧
 (↑(List.replicate ((2 : Int) * ((1 : Int) * (2 : Int) ^ (k - (1 : Int)).toNat)).toNat (0 : Int)).length : Int) =
 (↑(List.replicate ((2 : Int) * ((1 : Int) * (2 : Int) ^ (k - (1 : Int)).toNat)).toNat (0 : Int)).length :
 Int) ∧
 True ∧
 True ∧
 s.extract ((1 : Int) * (2 : Int) ^ (k - (1 : Int)).toNat + (2 : Int) * switchesF (k - (1 : Int))).toNat
 (↑s.size : Int).toNat =
 s.extract
 ((1 : Int) * (2 : Int) ^ (k - (1 : Int)).toNat + (2 : Int) * switchesF (k - (1 : Int))).toNat
 (↑s.size : Int).toNat ∧
 s.extract (↑(0 : Nat) : Int).toNat ((1 : Int) * (2 : Int) ^ (k - (1 : Int)).toNat).toNat =
 s.extract (↑(0 : Nat) : Int).toNat ((1 : Int) * (2 : Int) ^ (k - (1 : Int)).toNat).toNat ∧
 True) ∧
 ∀ (x : Nat),
 x ≤ (2 : Nat) * hN k.toNat →
 ((↑x : Int) <
 (↑(List.replicate ((2 : Int) * ((1 : Int) * (2 : Int) ^ (k - (1 : Int)).toNat)).toNat (0 : Int)).length :
 Int) →
 (↑x : Int) <
 (↑(List.replicate ((2 : Int) * ((1 : Int) * (2 : Int) ^ (k - (1 : Int)).toNat)).toNat (0 : Int)).length :
 Int) ∧
 ((0 : Int) ≤ (↑x : Int) ∧ (0 : Int) < (2 : Int)) ∧
 ((0 : Int) ≤ (↑x : Int) ∧ (0 : Int) < (2 : Int)) ∧
 Fits IntKind.i64 ((↑x : Int) / (2 : Int)) ∧
 ((0 : Int) ≤ (↑x : Int) / (2 : Int) ∧
 (↑x : Int) / (2 : Int) <
 (↑(s.extract (↑(0 : Nat) : Int).toNat
 ((1 : Int) * (2 : Int) ^ (k - (1 : Int)).toNat).toNat).size :
 Int)) ∧
 Fits IntKind.i64
 (IntKind.u8.wrap
 (bt (s.extract (↑(0 : Nat) : Int).toNat ((1 : Int) * (2 : Int) ^ (k - (1 : Int)).toNat).toNat)
 ((↑x : Int) / (2 : Int)).toNat -
 (48 : Int))) ∧
 ((0 : Int) ≤
 bitsF BinOp.xor IntKind.i64 ((↑x : Int) % (2 : Int))
 (IntKind.u8.wrap
 (bt
 (s.extract (↑(0 : Nat) : Int).toNat
 ((1 : Int) * (2 : Int) ^ (k - (1 : Int)).toNat).toNat)
 ((↑x : Int) / (2 : Int)).toNat -
 (48 : Int))) ∧
 bitsF BinOp.xor IntKind.i64 ((↑x : Int) % (2 : Int))
 (IntKind.u8.wrap
 (bt
 (s.extract (↑(0 : Nat) : Int).toNat
 ((1 : Int) * (2 : Int) ^ (k - (1 : Int)).toNat).toNat)
 ((↑x : Int) / (2 : Int)).toNat -
 (48 : Int))) <
 (↑(2 : Nat) : Int)) ∧
 (True ∧
 (bitsF BinOp.xor IntKind.i64 ((↑x : Int) % (2 : Int))
 (IntKind.u8.wrap
 (bt
 (s.extract (↑(0 : Nat) : Int).toNat
 ((1 : Int) * (2 : Int) ^ (k - (1 : Int)).toNat).toNat)
 ((↑x : Int) / (2 : Int)).toNat -
 (48 : Int))) =
 (↑(0 : Nat) : Int) →
 ((0 : Int) ≤ (↑x : Int) ∧ (0 : Int) < (2 : Int)) ∧
 Fits IntKind.i64 ((↑x : Int) / (2 : Int)) ∧
 ((0 : Int) ≤ (↑x : Int) / (2 : Int) ∧
 (↑x : Int) / (2 : Int) <
 (↑(applyF (k - (1 : Int)).toNat
 (s.extract ((1 : Int) * (2 : Int) ^ (k - (1 : Int)).toNat).toNat
 ((1 : Int) * (2 : Int) ^ (k - (1 : Int)).toNat +
 switchesF (k - (1 : Int))).toNat)).length :
 Int)) ∧
 Fits IntKind.i64
 ((2 : Int) *
 (applyF (k - (1 : Int)).toNat
 (s.extract ((1 : Int) * (2 : Int) ^ (k - (1 : Int)).toNat).toNat
 ((1 : Int) * (2 : Int) ^ (k - (1 : Int)).toNat +
 switchesF (k - (1 : Int))).toNat)).getD
 ((↑x : Int) / (2 : Int)).toNat (0 : Int)) ∧
 Fits IntKind.i64
 ((2 : Int) *
 (applyF (k - (1 : Int)).toNat
 (s.extract ((1 : Int) * (2 : Int) ^ (k - (1 : Int)).toNat).toNat
 ((1 : Int) * (2 : Int) ^ (k - (1 : Int)).toNat +
 switchesF (k - (1 : Int))).toNat)).getD
 ((↑x : Int) / (2 : Int)).toNat (0 : Int) +
 bitsF BinOp.xor IntKind.i64 ((↑x : Int) % (2 : Int))
 (IntKind.u8.wrap
 (bt
 (s.extract (↑(0 : Nat) : Int).toNat
 ((1 : Int) * (2 : Int) ^ (k - (1 : Int)).toNat).toNat)
 ((↑x : Int) / (2 : Int)).toNat -
 (48 : Int)))) ∧
 ((0 : Int) ≤
 (applyF (k - (1 : Int)).toNat
 (s.extract ((1 : Int) * (2 : Int) ^ (k - (1 : Int)).toNat).toNat
 ((1 : Int) * (2 : Int) ^ (k - (1 : Int)).toNat +
 switchesF (k - (1 : Int))).toNat)).getD
 ((↑x : Int) / (2 : Int)).toNat (0 : Int) ∧
 (applyF (k - (1 : Int)).toNat
 (s.extract ((1 : Int) * (2 : Int) ^ (k - (1 : Int)).toNat).toNat
 ((1 : Int) * (2 : Int) ^ (k - (1 : Int)).toNat +
 switchesF (k - (1 : Int))).toNat)).getD
 ((↑x : Int) / (2 : Int)).toNat (0 : Int) <
 (↑(s.extract
 ((1 : Int) * (2 : Int) ^ (k - (1 : Int)).toNat +
 (2 : Int) * switchesF (k - (1 : Int))).toNat
 (↑s.size : Int).toNat).size :
 Int)) ∧
 Fits IntKind.i64
 (IntKind.u8.wrap
 (bt
 (s.extract
 ((1 : Int) * (2 : Int) ^ (k - (1 : Int)).toNat +
 (2 : Int) * switchesF (k - (1 : Int))).toNat
 (↑s.size : Int).toNat)
 ((applyF (k - (1 : Int)).toNat
 (s.extract
 ((1 : Int) * (2 : Int) ^ (k - (1 : Int)).toNat).toNat
 ((1 : Int) * (2 : Int) ^ (k - (1 : Int)).toNat +
 switchesF (k - (1 : Int))).toNat)).getD
 ((↑x : Int) / (2 : Int)).toNat (0 : Int)).toNat -
 (48 : Int))) ∧
 ((0 : Int) ≤ (↑x : Int) ∧
 (↑x : Int) < (↑(applyTo k.toNat s x).length : Int)) ∧
 Fits IntKind.i64 ((↑x : Int) + (1 : Int)) ∧
 ∃ (x' : Nat),
 x' ≤ (2 : Nat) * hN k.toNat ∧
 (2 : Nat) * hN k.toNat - x' < (2 : Nat) * hN k.toNat - x ∧
 ((applyF (k - (1 : Int)).toNat
 (s.extract
 ((1 : Int) * (2 : Int) ^ (k - (1 : Int)).toNat).toNat
 ((1 : Int) * (2 : Int) ^ (k - (1 : Int)).toNat +
 switchesF (k - (1 : Int))).toNat) =
 applyF (k - (1 : Int)).toNat
 (s.extract
 ((1 : Int) * (2 : Int) ^ (k - (1 : Int)).toNat).toNat
 ((1 : Int) * (2 : Int) ^ (k - (1 : Int)).toNat +
 switchesF (k - (1 : Int))).toNat) ∧
 applyF (k - (1 : Int)).toNat
 (s.extract
 ((1 : Int) * (2 : Int) ^ (k - (1 : Int)).toNat +
 switchesF (k - (1 : Int))).toNat
 ((1 : Int) * (2 : Int) ^ (k - (1 : Int)).toNat +
 (2 : Int) * switchesF (k - (1 : Int))).toNat) =
 applyF (k - (1 : Int)).toNat
 (s.extract
 ((1 : Int) * (2 : Int) ^ (k - (1 : Int)).toNat +
 switchesF (k - (1 : Int))).toNat
 ((1 : Int) * (2 : Int) ^ (k - (1 : Int)).toNat +
 (2 : Int) * switchesF (k - (1 : Int))).toNat) ∧
 True) ∧
 (applyTo k.toNat s x).set (↑x : Int).toNat
 (bitsF BinOp.xor IntKind.i64
 ((2 : Int) *
 (applyF (k - (1 : Int)).toNat
 (s.extract
 ((1 : Int) *
 (2 : Int) ^ (k - (1 : Int)).toNat).toNat
 ((1 : Int) *
 (2 : Int) ^ (k - (1 : Int)).toNat +
 switchesF (k - (1 : Int))).toNat)).getD
 ((↑x : Int) / (2 : Int)).toNat (0 : Int) +
 bitsF BinOp.xor IntKind.i64 ((↑x : Int) % (2 : Int))
 (IntKind.u8.wrap
 (bt
 (s.extract (↑(0 : Nat) : Int).toNat
 ((1 : Int) *
 (2 : Int) ^
 (k - (1 : Int)).toNat).toNat)
 ((↑x : Int) / (2 : Int)).toNat -
 (48 : Int))))
 (IntKind.u8.wrap
 (bt
 (s.extract
 ((1 : Int) * (2 : Int) ^ (k - (1 : Int)).toNat +
 (2 : Int) * switchesF (k - (1 : Int))).toNat
 (↑s.size : Int).toNat)
 ((applyF (k - (1 : Int)).toNat
 (s.extract
 ((1 : Int) *
 (2 : Int) ^
 (k - (1 : Int)).toNat).toNat
 ((1 : Int) *
 (2 : Int) ^
 (k - (1 : Int)).toNat +
 switchesF
 (k - (1 : Int))).toNat)).getD
 ((↑x : Int) / (2 : Int)).toNat
 (0 : Int)).toNat -
 (48 : Int)))) =
 applyTo k.toNat s x' ∧
 True) ∧
 (↑x : Int) + (1 : Int) = (↑x' : Int) ∧
 (↑(List.replicate
 ((2 : Int) *
 ((1 : Int) *
 (2 : Int) ^ (k - (1 : Int)).toNat)).toNat
 (0 : Int)).length :
 Int) =
 (↑(List.replicate
 ((2 : Int) *
 ((1 : Int) *
 (2 : Int) ^ (k - (1 : Int)).toNat)).toNat
 (0 : Int)).length :
 Int) ∧
 True ∧
 True ∧
 s.extract
 ((1 : Int) * (2 : Int) ^ (k - (1 : Int)).toNat +
 (2 : Int) * switchesF (k - (1 : Int))).toNat
 (↑s.size : Int).toNat =
 s.extract
 ((1 : Int) * (2 : Int) ^ (k - (1 : Int)).toNat +
 (2 : Int) * switchesF (k - (1 : Int))).toNat
 (↑s.size : Int).toNat ∧
 s.extract (↑(0 : Nat) : Int).toNat
 ((1 : Int) *
 (2 : Int) ^ (k - (1 : Int)).toNat).toNat =
 s.extract (↑(0 : Nat) : Int).toNat
 ((1 : Int) *
 (2 : Int) ^ (k - (1 : Int)).toNat).toNat ∧
 True)) ∧
 (bitsF BinOp.xor IntKind.i64 ((↑x : Int) % (2 : Int))
 (IntKind.u8.wrap
 (bt
 (s.extract (↑(0 : Nat) : Int).toNat
 ((1 : Int) * (2 : Int) ^ (k - (1 : Int)).toNat).toNat)
 ((↑x : Int) / (2 : Int)).toNat -
 (48 : Int))) =
 (↑(1 : Nat) : Int) →
 ((0 : Int) ≤ (↑x : Int) ∧ (0 : Int) < (2 : Int)) ∧
 Fits IntKind.i64 ((↑x : Int) / (2 : Int)) ∧
 ((0 : Int) ≤ (↑x : Int) / (2 : Int) ∧
 (↑x : Int) / (2 : Int) <
 (↑(applyF (k - (1 : Int)).toNat
 (s.extract
 ((1 : Int) * (2 : Int) ^ (k - (1 : Int)).toNat +
 switchesF (k - (1 : Int))).toNat
 ((1 : Int) * (2 : Int) ^ (k - (1 : Int)).toNat +
 (2 : Int) * switchesF (k - (1 : Int))).toNat)).length :
 Int)) ∧
 Fits IntKind.i64
 ((2 : Int) *
 (applyF (k - (1 : Int)).toNat
 (s.extract
 ((1 : Int) * (2 : Int) ^ (k - (1 : Int)).toNat +
 switchesF (k - (1 : Int))).toNat
 ((1 : Int) * (2 : Int) ^ (k - (1 : Int)).toNat +
 (2 : Int) * switchesF (k - (1 : Int))).toNat)).getD
 ((↑x : Int) / (2 : Int)).toNat (0 : Int)) ∧
 Fits IntKind.i64
 ((2 : Int) *
 (applyF (k - (1 : Int)).toNat
 (s.extract
 ((1 : Int) * (2 : Int) ^ (k - (1 : Int)).toNat +
 switchesF (k - (1 : Int))).toNat
 ((1 : Int) * (2 : Int) ^ (k - (1 : Int)).toNat +
 (2 : Int) * switchesF (k - (1 : Int))).toNat)).getD
 ((↑x : Int) / (2 : Int)).toNat (0 : Int) +
 bitsF BinOp.xor IntKind.i64 ((↑x : Int) % (2 : Int))
 (IntKind.u8.wrap
 (bt
 (s.extract (↑(0 : Nat) : Int).toNat
 ((1 : Int) * (2 : Int) ^ (k - (1 : Int)).toNat).toNat)
 ((↑x : Int) / (2 : Int)).toNat -
 (48 : Int)))) ∧
 ((0 : Int) ≤
 (applyF (k - (1 : Int)).toNat
 (s.extract
 ((1 : Int) * (2 : Int) ^ (k - (1 : Int)).toNat +
 switchesF (k - (1 : Int))).toNat
 ((1 : Int) * (2 : Int) ^ (k - (1 : Int)).toNat +
 (2 : Int) * switchesF (k - (1 : Int))).toNat)).getD
 ((↑x : Int) / (2 : Int)).toNat (0 : Int) ∧
 (applyF (k - (1 : Int)).toNat
 (s.extract
 ((1 : Int) * (2 : Int) ^ (k - (1 : Int)).toNat +
 switchesF (k - (1 : Int))).toNat
 ((1 : Int) * (2 : Int) ^ (k - (1 : Int)).toNat +
 (2 : Int) * switchesF (k - (1 : Int))).toNat)).getD
 ((↑x : Int) / (2 : Int)).toNat (0 : Int) <
 (↑(s.extract
 ((1 : Int) * (2 : Int) ^ (k - (1 : Int)).toNat +
 (2 : Int) * switchesF (k - (1 : Int))).toNat
 (↑s.size : Int).toNat).size :
 Int)) ∧
 Fits IntKind.i64
 (IntKind.u8.wrap
 (bt
 (s.extract
 ((1 : Int) * (2 : Int) ^ (k - (1 : Int)).toNat +
 (2 : Int) * switchesF (k - (1 : Int))).toNat
 (↑s.size : Int).toNat)
 ((applyF (k - (1 : Int)).toNat
 (s.extract
 ((1 : Int) * (2 : Int) ^ (k - (1 : Int)).toNat +
 switchesF (k - (1 : Int))).toNat
 ((1 : Int) * (2 : Int) ^ (k - (1 : Int)).toNat +
 (2 : Int) * switchesF (k - (1 : Int))).toNat)).getD
 ((↑x : Int) / (2 : Int)).toNat (0 : Int)).toNat -
 (48 : Int))) ∧
 ((0 : Int) ≤ (↑x : Int) ∧ (↑x : Int) < (↑(applyTo k.toNat s x).length : Int)) ∧
 Fits IntKind.i64 ((↑x : Int) + (1 : Int)) ∧
 ∃ (x' : Nat),
 x' ≤ (2 : Nat) * hN k.toNat ∧
 (2 : Nat) * hN k.toNat - x' < (2 : Nat) * hN k.toNat - x ∧
 ((applyF (k - (1 : Int)).toNat
 (s.extract
 ((1 : Int) * (2 : Int) ^ (k - (1 : Int)).toNat).toNat
 ((1 : Int) * (2 : Int) ^ (k - (1 : Int)).toNat +
 switchesF (k - (1 : Int))).toNat) =
 applyF (k - (1 : Int)).toNat
 (s.extract
 ((1 : Int) * (2 : Int) ^ (k - (1 : Int)).toNat).toNat
 ((1 : Int) * (2 : Int) ^ (k - (1 : Int)).toNat +
 switchesF (k - (1 : Int))).toNat) ∧
 applyF (k - (1 : Int)).toNat
 (s.extract
 ((1 : Int) * (2 : Int) ^ (k - (1 : Int)).toNat +
 switchesF (k - (1 : Int))).toNat
 ((1 : Int) * (2 : Int) ^ (k - (1 : Int)).toNat +
 (2 : Int) * switchesF (k - (1 : Int))).toNat) =
 applyF (k - (1 : Int)).toNat
 (s.extract
 ((1 : Int) * (2 : Int) ^ (k - (1 : Int)).toNat +
 switchesF (k - (1 : Int))).toNat
 ((1 : Int) * (2 : Int) ^ (k - (1 : Int)).toNat +
 (2 : Int) * switchesF (k - (1 : Int))).toNat) ∧
 True) ∧
 (applyTo k.toNat s x).set (↑x : Int).toNat
 (bitsF BinOp.xor IntKind.i64
 ((2 : Int) *
 (applyF (k - (1 : Int)).toNat
 (s.extract
 ((1 : Int) *
 (2 : Int) ^ (k - (1 : Int)).toNat +
 switchesF (k - (1 : Int))).toNat
 ((1 : Int) *
 (2 : Int) ^ (k - (1 : Int)).toNat +
 (2 : Int) *
 switchesF (k - (1 : Int))).toNat)).getD
 ((↑x : Int) / (2 : Int)).toNat (0 : Int) +
 bitsF BinOp.xor IntKind.i64 ((↑x : Int) % (2 : Int))
 (IntKind.u8.wrap
 (bt
 (s.extract (↑(0 : Nat) : Int).toNat
 ((1 : Int) *
 (2 : Int) ^ (k - (1 : Int)).toNat).toNat)
 ((↑x : Int) / (2 : Int)).toNat -
 (48 : Int))))
 (IntKind.u8.wrap
 (bt
 (s.extract
 ((1 : Int) * (2 : Int) ^ (k - (1 : Int)).toNat +
 (2 : Int) * switchesF (k - (1 : Int))).toNat
 (↑s.size : Int).toNat)
 ((applyF (k - (1 : Int)).toNat
 (s.extract
 ((1 : Int) *
 (2 : Int) ^ (k - (1 : Int)).toNat +
 switchesF (k - (1 : Int))).toNat
 ((1 : Int) *
 (2 : Int) ^ (k - (1 : Int)).toNat +
 (2 : Int) *
 switchesF
 (k - (1 : Int))).toNat)).getD
 ((↑x : Int) / (2 : Int)).toNat
 (0 : Int)).toNat -
 (48 : Int)))) =
 applyTo k.toNat s x' ∧
 True) ∧
 (↑x : Int) + (1 : Int) = (↑x' : Int) ∧
 (↑(List.replicate
 ((2 : Int) *
 ((1 : Int) *
 (2 : Int) ^ (k - (1 : Int)).toNat)).toNat
 (0 : Int)).length :
 Int) =
 (↑(List.replicate
 ((2 : Int) *
 ((1 : Int) *
 (2 : Int) ^ (k - (1 : Int)).toNat)).toNat
 (0 : Int)).length :
 Int) ∧
 True ∧
 True ∧
 s.extract
 ((1 : Int) * (2 : Int) ^ (k - (1 : Int)).toNat +
 (2 : Int) * switchesF (k - (1 : Int))).toNat
 (↑s.size : Int).toNat =
 s.extract
 ((1 : Int) * (2 : Int) ^ (k - (1 : Int)).toNat +
 (2 : Int) * switchesF (k - (1 : Int))).toNat
 (↑s.size : Int).toNat ∧
 s.extract (↑(0 : Nat) : Int).toNat
 ((1 : Int) *
 (2 : Int) ^ (k - (1 : Int)).toNat).toNat =
 s.extract (↑(0 : Nat) : Int).toNat
 ((1 : Int) *
 (2 : Int) ^ (k - (1 : Int)).toNat).toNat ∧
 True)) ∧
 (¬(↑x : Int) <
 (↑(List.replicate ((2 : Int) * ((1 : Int) * (2 : Int) ^ (k - (1 : Int)).toNat)).toNat (0 : Int)).length :
 Int) →
 ¬(↑x : Int) <
 (↑(List.replicate ((2 : Int) * ((1 : Int) * (2 : Int) ^ (k - (1 : Int)).toNat)).toNat (0 : Int)).length :
 Int) ∧
 applyTo k.toNat s x = applyF k.toNat s))) := by
 kernel_rfl

end Go.SX.Pa

/- Chapter 06, part 4: apply, which calls itself: its contract. -/
namespace Go.SX.Pa
open Go Go.Proofs

theorem w8 {b : Int} (h : b = 48 ∨ b = 49) : IntKind.u8.wrap (b - 48) = b - 48 := by
  rcases h with rfl | rfl <;> decide
theorem xr01 {a b : Int} (ha : a = 0 ∨ a = 1) (hb : b = 0 ∨ b = 1) : bitsF .xor .i64 a b = 0 ∨ bitsF .xor .i64 a b = 1 := by
  rcases ha with rfl | rfl <;> rcases hb with rfl | rfl <;> decide
theorem xr_two {a p b : Int} (h : 0 ≤ a ∧ a < 4) (hp : p = 0 ∨ p = 1) (hb : b = 0 ∨ b = 1) : bitsF .xor .i64 (2 * a + p) b = 2 * a + bitsF .xor .i64 p b := by
  have : a = 0 ∨ a = 1 ∨ a = 2 ∨ a = 3 := by omega
  rcases this with rfl | rfl | rfl | rfl <;> rcases hp with rfl | rfl <;> rcases hb with rfl | rfl <;> decide
theorem bt_extract {s : ByteArray} {a b i : Nat} (h : a + i < b) (hb : b ≤ s.size) : bt (s.extract a b) i = bt s (a + i) := by
  unfold bt
  have e : (s.extract a b).data = s.data.extract a b := by simp
  have hb' : b ≤ s.data.size := hb
  rw [e, Array.getElem?_extract, if_pos (by omega)]
theorem size_extract {s : ByteArray} {a b : Nat} (_h : a ≤ b) (hb : b ≤ s.size) : (s.extract a b).size = b - a := by
  have : b ≤ s.data.size := hb
  simp
  omega
theorem Bits.extract {s : ByteArray} (h : Bits s) {a b : Nat} (hab : a ≤ b) (hb : b ≤ s.size) : Bits (s.extract a b) := fun i hi => by
  rw [size_extract hab hb] at hi
  rw [bt_extract (by omega) hb]
  exact h _ (by omega)

theorem swN_one : swN 1 = 1 := by decide
theorem swN_two : swN 2 = 6 := by decide
theorem swN_three : swN 3 = 20 := by decide

/-- An element lies below the number of inputs. -/
theorem elF_bound {h n : Nat} {s : ByteArray} {p0 p1 : List Int} {x : Nat} (hb : Bits s) (hs : s.size = 2 * h + 2 * n) (h4 : h ≤ 4) (hx : x < 2 * h) (l0 : p0.length = h) (l1 : p1.length = h) (r0 : ∀ y ∈ p0, 0 ≤ y ∧ y < h) (r1 : ∀ y ∈ p1, 0 ≤ y ∧ y < h) :
    0 ≤ elF h n s p0 p1 x ∧ elF h n s p0 p1 x < 2 * h := by
  unfold elF
  simp only
  have b1 := hb.extract (a := 0) (b := h) (by omega) (by omega) (x / 2) (by rw [size_extract (by omega) (by omega)]; omega)
  have hx2 : (x : Int) % 2 = 0 ∨ (x : Int) % 2 = 1 := by omega
  have q1 := xr01 hx2 (show bt (s.extract 0 h) (x / 2) - 48 = 0 ∨ bt (s.extract 0 h) (x / 2) - 48 = 1 by omega)
  change bitsF .xor .i64 _ _ = 0 ∨ _ at q1
  unfold xr
  generalize bitsF .xor .i64 ((x : Int) % 2) (bt (s.extract 0 h) (x / 2) - 48) = p at q1 ⊢
  have hat : 0 ≤ (if p = 0 then p0 else p1).getD (x / 2) 0 ∧ (if p = 0 then p0 else p1).getD (x / 2) 0 < h := by
    split
    · exact r0 _ (getD_mem p0 0 (by omega))
    · exact r1 _ (getD_mem p1 0 (by omega))
  generalize (if p = 0 then p0 else p1).getD (x / 2) 0 = at_ at hat ⊢
  have b2 := hb.extract (a := h + 2 * n) (b := s.size) (by omega) (by omega) at_.toNat (by rw [size_extract (by omega) (by omega)]; omega)
  have hb2 : bt (s.extract (h + 2 * n) s.size) at_.toNat - 48 = 0 ∨ bt (s.extract (h + 2 * n) s.size) at_.toNat - 48 = 1 := by omega
  rw [xr_two (by omega) q1 hb2]
  have := xr01 q1 hb2
  omega

theorem applyF_one (s : ByteArray) : applyF 1 s = [bt s 0 - 48, 1 - (bt s 0 - 48)] := rfl
theorem applyF_next (K : Nat) (h : 2 ≤ K) (s : ByteArray) : applyF K s = (List.range (2 * hN K)).map (applyEl K s) := by
  obtain ⟨k, rfl⟩ : ∃ k, K = k + 2 := ⟨K - 2, by omega⟩
  rfl
theorem applyF_good : (K : Nat) → 1 ≤ K → K ≤ 3 → (s : ByteArray) → s.size = swN K → Bits s → (applyF K s).length = 2 * hN K ∧ ∀ y ∈ applyF K s, 0 ≤ y ∧ y < (2 * hN K : Nat)
  | 0, h, _, _, _, _ => absurd h (by decide)
  | 1, _, _, s, hs, hb => by
    rw [applyF_one]
    have := hb 0 (by rw [hs, swN_one]; omega)
    have e : hN 1 = 1 := by decide
    rw [e]
    refine ⟨rfl, fun y hy => ?_⟩
    simp at hy
    omega
  | k + 2, _, h3, s, hs, hb => by
    have hsz : s.size = 2 * hN (k + 2) + 2 * swN (k + 1) ∧ hN (k + 2) ≤ 4 ∧ hN (k + 2) = 2 * hN (k + 1) := by
      have : k = 0 ∨ k = 1 := by omega
      rcases this with rfl | rfl
      · rw [hs]; decide
      · rw [hs]; decide
    obtain ⟨z1, z2, z3⟩ := hsz
    obtain ⟨l0, r0⟩ := applyF_good (k + 1) (by omega) (by omega) (s.extract (hN (k + 2)) (hN (k + 2) + swN (k + 1))) (by rw [size_extract (by omega) (by omega)]; omega) (hb.extract (by omega) (by omega))
    obtain ⟨l1, r1⟩ := applyF_good (k + 1) (by omega) (by omega) (s.extract (hN (k + 2) + swN (k + 1)) (hN (k + 2) + 2 * swN (k + 1))) (by rw [size_extract (by omega) (by omega)]; omega) (hb.extract (by omega) (by omega))
    rw [applyF_next (k + 2) (by omega)]
    refine ⟨by simp, fun y hy => ?_⟩
    obtain ⟨x, hx, rfl⟩ := List.mem_map.1 hy
    have := elF_bound hb z1 z2 (List.mem_range.1 hx) (by rw [l0, ← z3]) (by rw [l1, ← z3]) (fun y hy => by rw [z3]; exact r0 y hy) (fun y hy => by rw [z3]; exact r1 y hy)
    exact_mod_cast this

theorem applyTo_length (K : Nat) (s : ByteArray) (x : Nat) (h : x ≤ 2 * hN K) : (applyTo K s x).length = 2 * hN K := by simp [applyTo]; omega
theorem applyTo_set (K : Nat) (s : ByteArray) (x : Nat) (h : x < 2 * hN K) : (applyTo K s x).set x (applyEl K s x) = applyTo K s (x + 1) := by
  unfold applyTo
  rw [List.set_append, if_neg (by simp)]
  obtain ⟨m, hm⟩ : ∃ m, 2 * hN K - x = m + 1 := ⟨2 * hN K - x - 1, by omega⟩
  rw [hm, show 2 * hN K - (x + 1) = m by omega]
  simp [List.range_succ, List.replicate_succ]

theorem ok53 : p53.OK Tryd.prog := p53.rec_ok (fn := Tryd.f53) m53 C53 (fun _ h => cx2 (PC.OK.ci ok52) (PC.OK.ci h)) rfl (by decide +kernel) rfl fun (p : Int × ByteArray) hp => by
  obtain ⟨k, s⟩ := p
  refine (g53_eq k s).mpr ?_
  obtain ⟨⟨h1, h2⟩, h3, h4⟩ := hp
  have h1 : (1 : Int) ≤ k := h1
  have h2 : k ≤ (3 : Int) := h2
  have h3 : s.size = swN k.toNat := h3
  have hb : Bits s := h4
  simp only [pp1, eq_self, and_true, true_and, and_self, Int.toNat_natCast]
  refine ⟨fun h => ?_, fun h => ?_⟩
  · subst h
    have e : (1 : Int).toNat = 1 := rfl
    rw [e, swN_one] at h3
    have b := hb 0 (by omega)
    have e0 : Int.toNat 0 = 0 := rfl
    rw [e0, w8 b, e, applyF_one]
    exact ⟨by omega, fits_i64 (by omega) (by omega), fits_i64 (by omega) (by omega), rfl⟩
  · obtain ⟨K, hK⟩ : ∃ K : Nat, k = (K : Nat) := ⟨k.toNat, by omega⟩
    subst hK
    have hK : K = 2 ∨ K = 3 := by omega
    rw [Int.toNat_natCast] at h3
    have eK : ((K : Int) - 1).toNat = K - 1 := by omega
    have eH : (1 : Int) * 2 ^ (K - 1) = (hN K : Nat) := by rcases hK with rfl | rfl <;> decide
    have eS : switchesF ((K : Int) - 1) = (swN (K - 1) : Nat) := by rcases hK with rfl | rfl <;> decide
    have z : s.size = 2 * hN K + 2 * swN (K - 1) ∧ hN K ≤ 4 ∧ hN K = 2 * hN (K - 1) ∧ swN (K - 1) ≤ 6 := by
      rw [h3]
      rcases hK with rfl | rfl <;> decide
    obtain ⟨z1, z2, z3, z4⟩ := z
    simp only [eK, eH, eS, Int.toNat_natCast]
    have aEl : applyEl K s = elF (hN K) (swN (K - 1)) s (applyF (K - 1) (s.extract (hN K) (hN K + swN (K - 1)))) (applyF (K - 1) (s.extract (hN K + swN (K - 1)) (hN K + 2 * swN (K - 1)))) := rfl
    have hset := applyTo_set K s
    have hlen := applyTo_length K s
    have hdone : applyTo K s (2 * hN K) = applyF K s := by rw [applyF_next K (by omega)]; simp [applyTo]
    have hzero : applyTo K s 0 = List.replicate (2 * hN K) 0 := by simp [applyTo]
    generalize hh : hN K = h at *
    generalize hn : swN (K - 1) = n at *
    have t1 : ((h : Int) + (n : Int)).toNat = h + n := by omega
    have t2 : ((h : Int) + 2 * (n : Int)).toNat = h + 2 * n := by omega
    have t3 : (2 * (h : Int)).toNat = 2 * h := by omega
    simp only [t1, t2, t3, List.length_replicate]
    have s0 : (s.extract h (h + n)).size = n := by rw [size_extract (by omega) (by omega)]; omega
    have s1 : (s.extract (h + n) (h + 2 * n)).size = n := by rw [size_extract (by omega) (by omega)]; omega
    have sl : (s.extract (h + 2 * n) s.size).size = h := by rw [size_extract (by omega) (by omega)]; omega
    have sf : (s.extract 0 h).size = h := by rw [size_extract (by omega) (by omega)]; omega
    have B0 : Bits (s.extract h (h + n)) := hb.extract (by omega) (by omega)
    have B1 : Bits (s.extract (h + n) (h + 2 * n)) := hb.extract (by omega) (by omega)
    have Bl : Bits (s.extract (h + 2 * n) s.size) := hb.extract (by omega) (by omega)
    have Bf : Bits (s.extract 0 h) := hb.extract (by omega) (by omega)
    obtain ⟨l0, r0⟩ := applyF_good (K - 1) (by omega) (by omega) _ (by rw [s0, hn]) B0
    obtain ⟨l1, r1⟩ := applyF_good (K - 1) (by omega) (by omega) _ (by rw [s1, hn]) B1
    rw [← z3] at l0 l1 r0 r1
    rw [s0, s1, sl, sf]
    generalize applyF (K - 1) (s.extract h (h + n)) = p0 at *
    generalize applyF (K - 1) (s.extract (h + n) (h + 2 * n)) = p1 at *
    have F := fun {a : Int} (q1 : -100 ≤ a) (q2 : a ≤ 100) => (fits_i64 (n := a) (by omega) (by omega))
    refine ⟨F (by omega) (by omega), by omega, F (by omega) (by omega), F (by omega) (by omega), by omega, by omega, F (by omega) (by omega), F (by omega) (by omega), by omega, F (by omega) (by omega), F (by omega) (by omega), by omega, F (by omega) (by omega), F (by omega) (by omega), F (by omega) (by omega), F (by omega) (by omega), by omega,
      ⟨⟨by omega, by omega, fun i hi => B0 i (by omega)⟩, ?_⟩, ⟨⟨by omega, by omega, fun i hi => B1 i (by omega)⟩, ?_⟩, F (by omega) (by omega), ⟨by omega, by omega, by unfold Small; omega⟩, ⟨0, by omega, hzero.symm, rfl⟩, fun x hx => ⟨fun h5 => ?_, fun h5 => ?_⟩⟩
    · show K - 1 < (K : Int).toNat
      omega
    · show K - 1 < (K : Int).toNat
      omega
    · have hx' : x < 2 * h := by omega
      have tx : ((x : Int) / 2).toNat = x / 2 := by omega
      rw [tx]
      have b1 := Bf (x / 2) (by omega)
      rw [w8 b1]
      have hx2 : (x : Int) % 2 = 0 ∨ (x : Int) % 2 = 1 := by omega
      have q1 := xr01 hx2 (show bt (s.extract 0 h) (x / 2) - 48 = 0 ∨ bt (s.extract 0 h) (x / 2) - 48 = 1 by omega)
      have hel : applyEl K s x = elF h n s p0 p1 x := by rw [aEl]
      have hset := hset x hx'
      rw [hel] at hset
      unfold elF xr at hset
      simp only at hset
      have hlx := hlen x hx
      generalize bitsF .xor .i64 ((x : Int) % 2) (bt (s.extract 0 h) (x / 2) - 48) = p at q1 hset ⊢
      have a0 := r0 _ (getD_mem p0 0 (k := x / 2) (by omega))
      have a1 := r1 _ (getD_mem p1 0 (k := x / 2) (by omega))
      refine ⟨by omega, by omega, F (by omega) (by omega), by omega, F (by omega) (by omega), by omega, fun e => ?_, fun e => ?_⟩
      · rw [if_pos (by omega)] at hset
        generalize p0.getD (x / 2) 0 = y at a0 hset ⊢
        have b2 := Bl y.toNat (by omega)
        rw [w8 b2]
        exact ⟨by omega, F (by omega) (by omega), by omega, F (by omega) (by omega), F (by omega) (by omega), by omega, F (by omega) (by omega), by omega, fits_nat (by omega), x + 1, by omega, by omega, hset, by simp⟩
      · rw [if_neg (by omega)] at hset
        generalize p1.getD (x / 2) 0 = y at a1 hset ⊢
        have b2 := Bl y.toNat (by omega)
        rw [w8 b2]
        exact ⟨by omega, F (by omega) (by omega), by omega, F (by omega) (by omega), F (by omega) (by omega), by omega, F (by omega) (by omega), by omega, fits_nat (by omega), x + 1, by omega, by omega, hset, by simp⟩
    · have : x = 2 * h := by omega
      subst this
      exact hdone
end Go.SX.Pa

/- Chapter 06, part 5: the contracts of Apply, Same, Route, Colors. -/
namespace Go.SX.Pa
open Go Go.Proofs

theorem all_of_drop {α : Type} (p : α → Bool) : (l : List α) → (∀ x ∈ l.dropWhile p, p x = true) → ∀ x ∈ l, p x = true
  | [], _ => fun x hx => by simp at hx
  | a :: r, h => by
    unfold List.dropWhile at h
    cases hp : p a with
    | true =>
      rw [hp] at h
      intro x hx
      rcases List.mem_cons.1 hx with rfl | h1
      · exact hp
      · exact all_of_drop p r h x h1
    | false =>
      rw [hp] at h
      have := h a List.mem_cons_self
      rw [hp] at this; cases this
theorem drop_nil {α : Type} (p : α → Bool) : (l : List α) → (l.dropWhile p = [] ↔ ∀ x ∈ l, p x = true)
  | [] => by simp
  | a :: r => by
    unfold List.dropWhile
    cases hp : p a with
    | true => rw [drop_nil p r]; simp [hp]
    | false => simp [hp]
theorem trim_nil {l cs : List UInt8} : Lib.trimS l cs = [] ↔ ∀ x ∈ l, cs.contains x = true := by
  unfold Lib.trimS Lib.trimLeftS Lib.trimRightS
  constructor
  · intro h
    have h1 : ∀ x ∈ l.reverse.dropWhile (cs.contains ·), cs.contains x = true := fun x hx => (drop_nil _ _).1 h x (List.mem_reverse.2 hx)
    intro x hx
    exact all_of_drop _ _ h1 x (List.mem_reverse.2 hx)
  · intro h
    have : l.reverse.dropWhile (cs.contains ·) = [] := (drop_nil _ _).2 fun x hx => h x (List.mem_reverse.1 hx)
    rw [this]; rfl
theorem bits_trim {s : ByteArray} : Lib.trimS s.data.toList [48, 49] = [] ↔ Bits s := by
  rw [trim_nil]
  constructor
  · intro h i hi
    have hi' : i < s.data.size := hi
    have h1 := h (s.data[i]) (by rw [Array.mem_toList_iff]; exact Array.getElem_mem hi')
    unfold bt
    rw [Array.getElem?_eq_getElem hi']
    simp at h1
    rcases h1 with h1 | h1 <;> rw [h1] <;> decide
  · intro h x hx
    obtain ⟨i, hi, e⟩ := List.getElem_of_mem hx
    have hi' : i < s.data.size := by simpa using hi
    have := h i hi'
    unfold bt at this
    rw [Array.getElem?_eq_getElem hi'] at this
    have e' : s.data[i] = x := by simpa using e
    rw [e'] at this
    simp only [Option.getD_some] at this
    have h2 : x.toNat = 48 ∨ x.toNat = 49 := by omega
    rcases h2 with h2 | h2
    · have : x = 48 := UInt8.toNat_inj.1 (by rw [h2]; rfl)
      subst this; rfl
    · have : x = 49 := UInt8.toNat_inj.1 (by rw [h2]; rfl)
      subst this; rfl
theorem swF_nat {k : Int} (h : 1 ≤ k ∧ k ≤ 3) : switchesF k = (swN k.toNat : Nat) := by
  have : k = 1 ∨ k = 2 ∨ k = 3 := by omega
  rcases this with rfl | rfl | rfl <;> decide

theorem ok45 : p45.OK Tryd.prog := p45.ok (fun _ => cx [p63.ci, p52.ci, p67.ci, p53.ci] []) (fun _ => cx_ok (cs := [p63.ci, p52.ci, p67.ci, p53.ci]) ⟨PC.OK.ci ok63, PC.OK.ci ok52, PC.OK.ci ok67, PC.OK.ci ok53, trivial⟩ _) (fn := Tryd.f45) rfl (by decide +kernel) rfl fun (p : Int × ByteArray) hp => by
  obtain ⟨k, s⟩ := p
  refine (g45_eq k s).mpr ?_
  have hp : s.size ≤ 1000 := hp
  simp only [pp1, true_and]
  unfold applyP
  refine ⟨fun h => ?_, fun h => ?_⟩
  · rw [Bool.not_eq_true'] at h
    rw [if_neg (of_decide_eq_false h)]
  · have h : 1 ≤ k ∧ k ≤ 3 := by simpa using h
    rw [if_pos h, swF_nat h]
    refine ⟨h, fun h1 => ?_, fun h1 => ⟨⟨rfl, hp⟩, fun h2 => ?_, fun h2 => ?_⟩⟩
    · rw [if_neg (fun h2 => h1 (by rw [h2.1]))]
    · rw [if_neg (fun h3 => h2 (by rw [h3.2]))]
    · have e1 : s.size = swN k.toNat := by omega
      have e2 : Lib.trimS s.data.toList [48, 49] = [] := by
        have := Classical.not_not.1 h2
        simpa using this
      rw [if_pos ⟨e1, e2⟩]
      exact ⟨⟨h, e1, bits_trim.1 e2⟩, rfl⟩

theorem drop_getD {α : Type} (l : List α) (d : α) (k : Nat) (h : k < l.length) : l.drop k = l.getD k d :: l.drop (k + 1) := by
  rw [List.drop_eq_getElem_cons h, List.getD_eq_getElem?_getD, List.getElem?_eq_getElem h]
  rfl
theorem beforeF_nil_left (b : List Int) : beforeF [] b = decide (0 < b.length) := by cases b <;> simp [beforeF]
theorem beforeF_nil_right (a : List Int) : beforeF a [] = false := by cases a <;> rfl
theorem ok60 : p60.OK Tryd.prog := p60.ok C60 (fun _ => cx0) (fn := Tryd.f60) rfl (by decide +kernel) rfl fun (p : List Int × List Int) hp => by
  obtain ⟨a, b⟩ := p
  refine (g60_eq a b).mpr ?_
  obtain ⟨ha, hb⟩ : a.length ≤ 1000 ∧ b.length ≤ 1000 := hp
  simp only [pp1, eq_self, and_true, true_and, Int.toNat_natCast]
  have step : ∀ k : Nat, k < a.length → k < b.length → beforeF (a.drop k) (b.drop k) = if a.getD k 0 = b.getD k 0 then beforeF (a.drop (k + 1)) (b.drop (k + 1)) else decide (a.getD k 0 < b.getD k 0) := fun k h1 h2 => by
    rw [drop_getD a 0 k h1, drop_getD b 0 k h2]; rfl
  refine ⟨⟨0, ⟨by omega, by omega, rfl⟩, rfl⟩, fun k ⟨hk1, hk2, hok⟩ => ⟨fun h1 => ⟨fun h2 => ⟨by omega, by omega, fun h3 => ⟨by omega, by omega, ?_⟩, fun h3 => ⟨fits_nat (by omega), k + 1, ⟨by omega, by omega, ?_⟩, by omega, by omega⟩⟩, fun h2 => ?_⟩, fun h1 => ?_⟩⟩
  · rw [← hok, step k (by omega) (by omega), if_neg h3]
  · rw [← hok, step k (by omega) (by omega), if_pos (Classical.not_not.1 h3)]
  · have e : b.drop k = [] := List.drop_eq_nil_of_le (by omega)
    rw [← hok, e, beforeF_nil_right]
    exact decide_eq_false (by omega)
  · have e : a.drop k = [] := List.drop_eq_nil_of_le (by omega)
    rw [← hok, e, beforeF_nil_left, List.length_drop]
    exact decide_eq_decide.2 (by omega)
theorem before_same : (a b : List Int) → (!(beforeF a b) && !(beforeF b a)) = decide (a = b)
  | [], [] => rfl
  | [], _ :: _ => rfl
  | _ :: _, [] => rfl
  | x :: a, y :: b => by
    have ih := before_same a b
    unfold beforeF
    by_cases h : x = y
    · subst h
      simp only [if_true, ih, List.cons.injEq, true_and]
    · have h' : ¬ y = x := fun e => h e.symm
      simp only [if_neg h', List.cons.injEq, h, false_and, decide_false]
      rcases Int.lt_or_gt_of_ne h with h1 | h1
      · simp [h1]
      · simp [h1]
theorem ok28 : p28.OK Tryd.prog := p28.ok (fun _ => cx [p60.ci] []) (fun _ => cx1 (PC.OK.ci ok60)) (fn := Tryd.f28) rfl (by decide +kernel) rfl fun (p : List Int × List Int) hp => by
  obtain ⟨a, b⟩ := p
  refine (g28_eq a b).mpr ?_
  have hp : a.length ≤ 1000 ∧ b.length ≤ 1000 := hp
  have hs := before_same a b
  simp only [pp1]
  refine ⟨hp, fun h => ⟨⟨hp.2, hp.1⟩, ?_⟩, fun h => ?_⟩
  · rw [← hs, h, Bool.true_and]
  · rw [← hs, h, Bool.false_and]

theorem extF_length (es : List Ed) (m : Nat) : (f : Nat) → (out l : List Int) → extF es m f out = some l → l.length = out.length + f
  | 0, out, l, h => by
    simp [extF] at h; subst h; rfl
  | f + 1, out, l, h => by
    unfold extF at h
    obtain ⟨c, _, hc⟩ := List.exists_of_findSome?_eq_some h
    split at hc
    · cases hc
    · have := extF_length es m f _ _ hc
      simp at this
      omega
theorem colF_length {es : List Ed} {m : Int} {l : List Int} (h : colF es m = some l) : l.length = es.length := by
  unfold colF at h
  split at h
  · have := extF_length _ _ _ _ _ h
    simpa using this
  · cases h
theorem edgesF_length (n : Int) (l : List Int) : (edgesF n l).length = l.length := edgesTo_length _ _ _

theorem ok38 : p38.OK Tryd.prog := p38.ok (fun _ => cx [p61.ci, p62.ci, n58.ci] []) (fun _ => cx3 (PC.OK.ci ok61) (PC.OK.ci ok62) ok58.ci) (fn := Tryd.f38) rfl (by decide +kernel) rfl fun (x : Int × Int × Int × List Int) hx => by
  obtain ⟨n, r, m, l⟩ := x
  refine (g38_eq n r m l).mpr ?_
  have hx : l.length ≤ 1000 := hx
  simp only [pp1]
  unfold routeF readF
  simp only
  by_cases h1 : ClosP n r m
  · rw [if_pos h1, if_pos h1]
    by_cases h2 : PermP l (n * r)
    · rw [if_pos h2, if_pos h2]
      have hc := clos_fits h1
      have h2' := h2
      obtain ⟨q1, q2, q3⟩ := h2'
      obtain ⟨c1, c2, c3, c4⟩ := h1
      refine ⟨hx, fun h => absurd rfl h, fun _ => ⟨⟨hx, by omega, by omega, fun x hx => ?_⟩, ⟨by rw [edgesF_length]; omega, by omega, by omega⟩, fun h3 => by rw [h3], fun ys h3 => ⟨fun e => ?_, by rw [h3]⟩⟩⟩
      · have := q2 x hx; omega
      · have := colF_length h3
        rw [edgesF_length, e] at this
        simp at this
        omega
    · rw [if_neg h2, if_neg h2]
      exact ⟨hx, fun _ => rfl, fun h => absurd (show ¬ (2 : Int) = 0 by omega) h⟩
  · rw [if_neg h1, if_neg h1]
    exact ⟨hx, fun _ => rfl, fun h => absurd (show ¬ (1 : Int) = 0 by omega) h⟩

theorem degTo_nonneg (es : List Ed) : (k : Nat) → k ≤ es.length → 0 ≤ (degTo es k).2.2 ∧ (degTo es k).2.2 ≤ es.length
  | 0, _ => by simp [degTo]
  | k + 1, h => by
    have ih := degTo_nonneg es k (by omega)
    rw [degTo_succ es k (by omega)]
    have b1 := (degTo_bound es (es.getD k (0, 0)).1 (k + 1) h).1
    have b2 := (degTo_bound es (es.getD k (0, 0)).2 (k + 1) h).2
    rw [degTo_succ es k (by omega)] at b1 b2
    unfold degStep at b1 b2 ⊢
    simp only at b1 b2 ⊢
    omega
theorem degF_bound (es : List Ed) : 0 ≤ degF es ∧ degF es ≤ es.length := degTo_nonneg es es.length (Nat.le_refl _)

theorem take_any {α : Type} (f : α → Bool) (l : List α) (d : α) (k : Nat) (h : k < l.length) : (l.take (k + 1)).any f = ((l.take k).any f || f (l.getD k d)) := by
  rw [take_snoc l d k h, List.any_append]
  simp
theorem any_of_get {α : Type} {f : α → Bool} {l : List α} {k : Nat} (d : α) (hk : k < l.length) (h : f (l.getD k d) = true) : l.any f = true := List.any_eq_true.2 ⟨_, getD_mem l d hk, h⟩

theorem ok26 : p26.OK Tryd.prog := p26.ok C26 (fun _ => cx3 (inl_ok (cx1 (inl_ok (cx1 (inl_ok cx0 rfl (by decide +kernel) rfl)) rfl (by decide +kernel) rfl)) rfl (by decide +kernel) rfl) (PC.OK.ci ok59) ok58.ci) (fn := Tryd.f26) rfl (by decide +kernel) rfl fun (x : Int × Int × List Ed) hx => by
  obtain ⟨a, c, es⟩ := x
  refine (g26_eq a c es).mpr ?_
  have hx : es.length ≤ 1000 := hx
  have hd := degF_bound es
  simp only [pp1, eq_self, and_true, true_and, and_self, Int.toNat_natCast]
  unfold colorsF
  refine ⟨fun h => by rw [if_pos (by omega)], fun h => ⟨fun h1 => ?_, fun h1 => ⟨fun h2 => ?_, fun h2 => ⟨⟨0, ⟨by omega, by simp⟩, rfl⟩, fun k ⟨hk, hok⟩ => ⟨fun h3 => ?_, fun h3 => ?_⟩⟩⟩⟩⟩
  · rw [if_neg (by omega), if_pos (.inl h1)]
  · rw [if_neg (by omega), if_pos (.inr (.inl h2))]
  · have hk' : k < es.length := by omega
    have no : ∀ {q : Prop}, ¬ (0 : Int) ≤ (k : Nat) → q := fun h => absurd (Int.natCast_nonneg k) h
    have bad : badEd a c (es.getD k (0, 0)) = true → ([], 1) = (if 12 < es.length then (([] : List Int), (3 : Int)) else if min a c < 1 ∨ 6 < max a c ∨ es.any (badEd a c) = true then ([], 1) else ((colF es (degF es)).getD [], 0)) := fun hb => by
      rw [if_neg (by omega), if_pos (.inr (.inr (any_of_get (0, 0) hk' hb)))]
    refine ⟨by omega, fun h4 => ⟨fun _ => bad (decide_eq_true (.inl h4)), fun h => no h⟩, fun h4 => ⟨fun h5 => ⟨fun _ => bad (decide_eq_true (.inr (.inl h5))), fun h => no h⟩, fun h5 => ⟨fun h6 => ⟨fun _ => bad (decide_eq_true (.inr (.inr h6))), fun h => no h⟩, fun h6 => ⟨fits_nat (by omega), k + 1, ⟨by omega, ?_⟩, by omega, by simp⟩⟩⟩⟩
    rw [take_any _ _ (0, 0) k hk', hok, Bool.false_or]
    exact decide_eq_false (by omega)
  · have : k = es.length := by omega
    subst this
    rw [List.take_length] at hok
    rw [if_neg (by omega), if_neg (by rw [hok]; simp; omega)]
    exact ⟨fun h => absurd h (by omega), fun _ => ⟨hx, ⟨hx, by omega, by omega⟩, fun h => by rw [h]; rfl, fun ys h => by rw [h]; rfl⟩⟩
end Go.SX.Pa

/- Chapter 06, part 6: Ways, and what the laws call. -/
namespace Go.SX.Pa
open Go Go.Proofs
noncomputable section
@[reducible] def p18 : PC := ⟨18, [aI, aIs], [aI, aI], fun p => p.2.length ≤ 1000, fun p => waysF p.1 p.2⟩
@[reducible] def A18a (k : Nat) (l : List Int) : Ann := upToS (2 ^ swN k) 29 [0, 1, 28] (fun _ => True) fun x => [(6, .c (.int .i64 (waysTo k l x)))]
@[reducible] def A18b (x n : Nat) : Ann where
  τ := Nat
  pre := []
  preC := []
  keep := [0, 1, 6, 7, 8, 28, 29, 36]
  slots i := [(37, .c (.int .i64 i))]
  ents i := [(0, .row 5 (.int .u8) 1 (letTo x n i))]
  ok i := i ≤ n
  m i := n - i
@[reducible] def A18c (k x : Nat) (l : List Int) : Ann := upToS (applyF k (writ x (swN k))).length 55 [0, 1, 6, 7, 28, 29, 53, 54] (fun _ => True) fun i => [(10, .c (.bool 0 (cmpTo (applyF k (writ x (swN k))) l i)))]
@[reducible] def C18 (p : Int × List Int) : Ctx := cx [p51.ci, p52.ci, p53.ci] [(0, fun _ => A18a p.1.toNat p.2), (1, withI 29 fun x => A18b x.toNat (swN p.1.toNat)), (2, withI 29 fun x => A18c p.1.toNat x.toNat p.2)]
def g18 (k : Int) (l : List Int) : Prop := p18.VC (C18 (k, l)) Tryd.f18 (k, l)
end
end Go.SX.Pa

/- Printed by VC.lean: what the executor asks. -/
namespace Go.SX.Pa
open Go Go.Proofs
theorem g18_eq (k : Int) (l : List Int) : g18 k l = (
 (k < (1 : Int) → k < (1 : Int) ∧ k < (1 : Int) ∧ ((0 : Int), (1 : Int)) = waysF k l) ∧
 (¬k < (1 : Int) →
 ¬k < (1 : Int) ∧
 ¬k < (1 : Int) ∧
 ((2 : Int) < k → (2 : Int) < k ∧ (2 : Int) < k ∧ (2 : Int) < k ∧ ((0 : Int), (1 : Int)) = waysF k l) ∧
 (¬(2 : Int) < k →
 ¬(2 : Int) < k ∧
 ¬(2 : Int) < k ∧
 ¬(2 : Int) < k ∧
 ((0 : Int) ≤ k ∧ k < (64 : Int)) ∧
 Fits IntKind.i64 ((1 : Int) * (2 : Int) ^ k.toNat) ∧
 l.length ≤ (1000 : Nat) ∧
 ((!decide (PermP l ((1 : Int) * (2 : Int) ^ k.toNat))) = true →
 (!decide (PermP l ((1 : Int) * (2 : Int) ^ k.toNat))) = true ∧
 (!decide (PermP l ((1 : Int) * (2 : Int) ^ k.toNat))) = true ∧ ((0 : Int), (2 : Int)) = waysF k l) ∧
 ((!decide (PermP l ((1 : Int) * (2 : Int) ^ k.toNat))) = false →
 (!decide (PermP l ((1 : Int) * (2 : Int) ^ k.toNat))) = false ∧
 (!decide (PermP l ((1 : Int) * (2 : Int) ^ k.toNat))) = false ∧
 ((1 : Int) ≤ k ∧ k ≤ (3 : Int)) ∧
 ((0 : Int) ≤ switchesF k ∧ switchesF k < (64 : Int)) ∧
 Fits IntKind.i64 ((1 : Int) * (2 : Int) ^ (switchesF k).toNat) ∧
 (∃ (x0 : Nat),
 (x0 ≤ (2 : Nat) ^ swN k.toNat ∧ True) ∧
 True ∧
 (0 : Int) = (↑x0 : Int) ∧
 (0 : Int) = (↑(waysTo k.toNat l x0) : Int) ∧
 (1 : Int) * (2 : Int) ^ (switchesF k).toNat = (1 : Int) * (2 : Int) ^ (switchesF k).toNat ∧ k = k ∧ l = l ∧ True) ∧
 ∀ (x : Nat),
 x ≤ (2 : Nat) ^ swN k.toNat ∧ True →
 ((↑x : Int) < (1 : Int) * (2 : Int) ^ (switchesF k).toNat →
 (↑x : Int) < (1 : Int) * (2 : Int) ^ (switchesF k).toNat ∧
 ((1 : Int) ≤ k ∧ k ≤ (3 : Int)) ∧
 ((0 : Int) ≤ switchesF k ∧ switchesF k ≤ switchesF k ∧ Small (switchesF k).toNat) ∧
 (∃ (x0 : Nat),
 x0 ≤ swN k.toNat ∧
 (List.replicate (switchesF k).toNat (0 : Int) = letTo (↑x : Int).toNat (swN k.toNat) x0 ∧ True) ∧
 (0 : Int) = (↑x0 : Int) ∧
 (↑(List.replicate (switchesF k).toNat (0 : Int)).length : Int) =
 (↑(List.replicate (switchesF k).toNat (0 : Int)).length : Int) ∧
 True ∧
 (↑x : Int) = (↑x : Int) ∧
 (↑x : Int) = (↑x : Int) ∧
 (↑(waysTo k.toNat l x) : Int) = (↑(waysTo k.toNat l x) : Int) ∧
 (1 : Int) * (2 : Int) ^ (switchesF k).toNat = (1 : Int) * (2 : Int) ^ (switchesF k).toNat ∧
 k = k ∧ l = l ∧ True) ∧
 ∀ (x_1 : Nat),
 x_1 ≤ swN k.toNat →
 ((↑x_1 : Int) < (↑(List.replicate (switchesF k).toNat (0 : Int)).length : Int) →
 (↑x_1 : Int) < (↑(List.replicate (switchesF k).toNat (0 : Int)).length : Int) ∧
 ((0 : Int) ≤ (↑x_1 : Int) ∧ (↑x_1 : Int) < (64 : Int)) ∧
 ((0 : Int) ≤ (↑x_1 : Int) ∧ (↑x_1 : Int) < (↑(letTo (↑x : Int).toNat (swN k.toNat) x_1).length : Int)) ∧
 Fits IntKind.i64 ((↑x_1 : Int) + (1 : Int)) ∧
 ∃ (x' : Nat),
 x' ≤ swN k.toNat ∧
 swN k.toNat - x' < swN k.toNat - x_1 ∧
 ((letTo (↑x : Int).toNat (swN k.toNat) x_1).set (↑x_1 : Int).toNat
 (IntKind.u8.wrap
 ((48 : Int) +
 IntKind.u8.wrap
 (bitsF BinOp.and IntKind.i64 ((↑x : Int) / (2 : Int) ^ (↑x_1 : Int).toNat)
 (1 : Int)))) =
 letTo (↑x : Int).toNat (swN k.toNat) x' ∧
 True) ∧
 (↑x_1 : Int) + (1 : Int) = (↑x' : Int) ∧
 (↑(List.replicate (switchesF k).toNat (0 : Int)).length : Int) =
 (↑(List.replicate (switchesF k).toNat (0 : Int)).length : Int) ∧
 True ∧
 (↑x : Int) = (↑x : Int) ∧
 (↑x : Int) = (↑x : Int) ∧
 (↑(waysTo k.toNat l x) : Int) = (↑(waysTo k.toNat l x) : Int) ∧
 (1 : Int) * (2 : Int) ^ (switchesF k).toNat =
 (1 : Int) * (2 : Int) ^ (switchesF k).toNat ∧
 k = k ∧ l = l ∧ True) ∧
 (¬(↑x_1 : Int) < (↑(List.replicate (switchesF k).toNat (0 : Int)).length : Int) →
 ¬(↑x_1 : Int) < (↑(List.replicate (switchesF k).toNat (0 : Int)).length : Int) ∧
 (((1 : Int) ≤ k ∧ k ≤ (3 : Int)) ∧
 (strOf (letTo (↑x : Int).toNat (swN k.toNat) x_1)).size = swN k.toNat ∧
 ∀ (i : Nat),
 i < (strOf (letTo (↑x : Int).toNat (swN k.toNat) x_1)).size →
 bt (strOf (letTo (↑x : Int).toNat (swN k.toNat) x_1)) i = (48 : Int) ∨
 bt (strOf (letTo (↑x : Int).toNat (swN k.toNat) x_1)) i = (49 : Int)) ∧
 (∃ (x0 : Nat),
 (x0 ≤ (applyF k.toNat (writ (↑x : Int).toNat (swN k.toNat))).length ∧ True) ∧
 (letTo (↑x : Int).toNat (swN k.toNat) x_1 = letTo (↑x : Int).toNat (swN k.toNat) x_1 ∧ True) ∧
 (0 : Int) = (↑x0 : Int) ∧
 true = cmpTo (applyF k.toNat (writ (↑x : Int).toNat (swN k.toNat))) l x0 ∧
 (↑(applyF k.toNat (strOf (letTo (↑x : Int).toNat (swN k.toNat) x_1))).length : Int) =
 (↑(applyF k.toNat (strOf (letTo (↑x : Int).toNat (swN k.toNat) x_1))).length : Int) ∧
 applyF k.toNat (strOf (letTo (↑x : Int).toNat (swN k.toNat) x_1)) =
 applyF k.toNat (strOf (letTo (↑x : Int).toNat (swN k.toNat) x_1)) ∧
 (↑x : Int) = (↑x : Int) ∧
 (↑x : Int) = (↑x : Int) ∧
 (↑(waysTo k.toNat l x) : Int) = (↑(waysTo k.toNat l x) : Int) ∧
 (1 : Int) * (2 : Int) ^ (switchesF k).toNat =
 (1 : Int) * (2 : Int) ^ (switchesF k).toNat ∧
 k = k ∧ l = l ∧ True) ∧
 ∀ (x_2 : Nat),
 x_2 ≤ (applyF k.toNat (writ (↑x : Int).toNat (swN k.toNat))).length ∧ True →
 ((↑x_2 : Int) < (↑(applyF k.toNat (strOf (letTo (↑x : Int).toNat (swN k.toNat) x_1))).length : Int) →
 (↑x_2 : Int) < (↑(applyF k.toNat (strOf (letTo (↑x : Int).toNat (swN k.toNat) x_1))).length : Int) ∧
 ((0 : Int) ≤ (↑x_2 : Int) ∧
 (↑x_2 : Int) <
 (↑(applyF k.toNat (strOf (letTo (↑x : Int).toNat (swN k.toNat) x_1))).length : Int)) ∧
 (cmpTo (applyF k.toNat (writ (↑x : Int).toNat (swN k.toNat))) l x_2 = true →
 cmpTo (applyF k.toNat (writ (↑x : Int).toNat (swN k.toNat))) l x_2 = true ∧
 cmpTo (applyF k.toNat (writ (↑x : Int).toNat (swN k.toNat))) l x_2 = true ∧
 ((0 : Int) ≤ (↑x_2 : Int) ∧ (↑x_2 : Int) < (↑l.length : Int)) ∧
 Fits IntKind.i64 ((↑x_2 : Int) + (1 : Int)) ∧
 ∃ (x' : Nat),
 (x' ≤ (applyF k.toNat (writ (↑x : Int).toNat (swN k.toNat))).length ∧ True) ∧
 (applyF k.toNat (writ (↑x : Int).toNat (swN k.toNat))).length - x' <
 (applyF k.toNat (writ (↑x : Int).toNat (swN k.toNat))).length - x_2 ∧
 (letTo (↑x : Int).toNat (swN k.toNat) x_1 =
 letTo (↑x : Int).toNat (swN k.toNat) x_1 ∧
 True) ∧
 (↑x_2 : Int) + (1 : Int) = (↑x' : Int) ∧
 decide
 ((applyF k.toNat
 (strOf (letTo (↑x : Int).toNat (swN k.toNat) x_1))).getD
 (↑x_2 : Int).toNat (0 : Int) =
 l.getD (↑x_2 : Int).toNat (0 : Int)) =
 cmpTo (applyF k.toNat (writ (↑x : Int).toNat (swN k.toNat))) l x' ∧
 (↑(applyF k.toNat
 (strOf (letTo (↑x : Int).toNat (swN k.toNat) x_1))).length :
 Int) =
 (↑(applyF k.toNat
 (strOf (letTo (↑x : Int).toNat (swN k.toNat) x_1))).length :
 Int) ∧
 applyF k.toNat (strOf (letTo (↑x : Int).toNat (swN k.toNat) x_1)) =
 applyF k.toNat (strOf (letTo (↑x : Int).toNat (swN k.toNat) x_1)) ∧
 (↑x : Int) = (↑x : Int) ∧
 (↑x : Int) = (↑x : Int) ∧
 (↑(waysTo k.toNat l x) : Int) = (↑(waysTo k.toNat l x) : Int) ∧
 (1 : Int) * (2 : Int) ^ (switchesF k).toNat =
 (1 : Int) * (2 : Int) ^ (switchesF k).toNat ∧
 k = k ∧ l = l ∧ True) ∧
 (cmpTo (applyF k.toNat (writ (↑x : Int).toNat (swN k.toNat))) l x_2 = false →
 cmpTo (applyF k.toNat (writ (↑x : Int).toNat (swN k.toNat))) l x_2 = false ∧
 cmpTo (applyF k.toNat (writ (↑x : Int).toNat (swN k.toNat))) l x_2 = false ∧
 Fits IntKind.i64 ((↑x_2 : Int) + (1 : Int)) ∧
 ∃ (x' : Nat),
 (x' ≤ (applyF k.toNat (writ (↑x : Int).toNat (swN k.toNat))).length ∧ True) ∧
 (applyF k.toNat (writ (↑x : Int).toNat (swN k.toNat))).length - x' <
 (applyF k.toNat (writ (↑x : Int).toNat (swN k.toNat))).length - x_2 ∧
 (letTo (↑x : Int).toNat (swN k.toNat) x_1 =
 letTo (↑x : Int).toNat (swN k.toNat) x_1 ∧
 True) ∧
 (↑x_2 : Int) + (1 : Int) = (↑x' : Int) ∧
 false = cmpTo (applyF k.toNat (writ (↑x : Int).toNat (swN k.toNat))) l x' ∧
 (↑(applyF k.toNat
 (strOf (letTo (↑x : Int).toNat (swN k.toNat) x_1))).length :
 Int) =
 (↑(applyF k.toNat
 (strOf (letTo (↑x : Int).toNat (swN k.toNat) x_1))).length :
 Int) ∧
 applyF k.toNat (strOf (letTo (↑x : Int).toNat (swN k.toNat) x_1)) =
 applyF k.toNat (strOf (letTo (↑x : Int).toNat (swN k.toNat) x_1)) ∧
 (↑x : Int) = (↑x : Int) ∧
 (↑x : Int) = (↑x : Int) ∧
 (↑(waysTo k.toNat l x) : Int) = (↑(waysTo k.toNat l x) : Int) ∧
 (1 : Int) * (2 : Int) ^ (switchesF k).toNat =
 (1 : Int) * (2 : Int) ^ (switchesF k).toNat ∧
 k = k ∧ l = l ∧ True)) ∧
 (¬(↑x_2 : Int) < (↑(applyF k.toNat (strOf (letTo (↑x : Int).toNat (swN k.toNat) x_1))).length : Int) →
 ¬(↑x_2 : Int) < (↑(applyF k.toNat (strOf (letTo (↑x : Int).toNat (swN k.toNat) x_1))).length : Int) ∧
 (cmpTo (applyF k.toNat (writ (↑x : Int).toNat (swN k.toNat))) l x_2 = true →
 cmpTo (applyF k.toNat (writ (↑x : Int).toNat (swN k.toNat))) l x_2 = true ∧
 Fits IntKind.i64 ((↑(waysTo k.toNat l x) : Int) + (1 : Int)) ∧
 Fits IntKind.i64 ((↑x : Int) + (1 : Int)) ∧
 ∃ (x' : Nat),
 (x' ≤ (2 : Nat) ^ swN k.toNat ∧ True) ∧
 (2 : Nat) ^ swN k.toNat - x' < (2 : Nat) ^ swN k.toNat - x ∧
 True ∧
 (↑x : Int) + (1 : Int) = (↑x' : Int) ∧
 (↑(waysTo k.toNat l x) : Int) + (1 : Int) = (↑(waysTo k.toNat l x') : Int) ∧
 (1 : Int) * (2 : Int) ^ (switchesF k).toNat =
 (1 : Int) * (2 : Int) ^ (switchesF k).toNat ∧
 k = k ∧ l = l ∧ True) ∧
 (cmpTo (applyF k.toNat (writ (↑x : Int).toNat (swN k.toNat))) l x_2 = false →
 cmpTo (applyF k.toNat (writ (↑x : Int).toNat (swN k.toNat))) l x_2 = false ∧
 Fits IntKind.i64 ((↑x : Int) + (1 : Int)) ∧
 ∃ (x' : Nat),
 (x' ≤ (2 : Nat) ^ swN k.toNat ∧ True) ∧
 (2 : Nat) ^ swN k.toNat - x' < (2 : Nat) ^ swN k.toNat - x ∧
 True ∧
 (↑x : Int) + (1 : Int) = (↑x' : Int) ∧
 (↑(waysTo k.toNat l x) : Int) = (↑(waysTo k.toNat l x') : Int) ∧
 (1 : Int) * (2 : Int) ^ (switchesF k).toNat =
 (1 : Int) * (2 : Int) ^ (switchesF k).toNat ∧
 k = k ∧ l = l ∧ True)))) ∧
 (¬(↑x : Int) < (1 : Int) * (2 : Int) ^ (switchesF k).toNat →
 ¬(↑x : Int) < (1 : Int) * (2 : Int) ^ (switchesF k).toNat ∧ ((↑(waysTo k.toNat l x) : Int), (0 : Int)) = waysF k l))))) := by
 kernel_rfl

end Go.SX.Pa

/- Chapter 06, part 6: the contract of Ways. -/
namespace Go.SX.Pa
open Go Go.Proofs

theorem and_one {y : Int} (h : 0 ≤ y ∧ y < 64) : bitsF .and .i64 y 1 = y % 2 := by
  have key : ∀ z : Fin 64, bitsF .and .i64 ((z : Nat) : Int) 1 = ((z : Nat) : Int) % 2 := by decide +kernel
  have := key ⟨y.toNat, by omega⟩
  simpa [Int.toNat_of_nonneg h.1] using this
theorem wrap_small {y : Int} (h : 0 ≤ y ∧ y < 64) : IntKind.u8.wrap y = y := by
  have key : ∀ z : Fin 64, IntKind.u8.wrap ((z : Nat) : Int) = ((z : Nat) : Int) := by decide +kernel
  have := key ⟨y.toNat, by omega⟩
  simpa [Int.toNat_of_nonneg h.1] using this
theorem letter_eq {x i : Nat} (h : x < 64) : IntKind.u8.wrap (48 + IntKind.u8.wrap (bitsF .and .i64 ((x : Int) / 2 ^ i) 1)) = ((48 + (x >>> i) % 2 : Nat) : Int) := by
  have e : (x : Int) / 2 ^ i = ((x / 2 ^ i : Nat) : Int) := by simp
  have hle : x / 2 ^ i ≤ x := Nat.div_le_self _ _
  rw [e, Nat.shiftRight_eq_div_pow]
  generalize x / 2 ^ i = d at hle ⊢
  rw [and_one (by omega), wrap_small (y := (d : Int) % 2) (by omega), wrap_small (by omega)]
  omega
theorem letters_length (x n : Nat) : (letters x n).length = n := by simp [letters]
theorem letTo_length (x n i : Nat) (h : i ≤ n) : (letTo x n i).length = n := by simp [letTo, letters_length]; omega
theorem letTo_all (x n : Nat) : letTo x n n = letters x n := by
  unfold letTo
  rw [List.take_of_length_le (by rw [letters_length]; exact Nat.le_refl _)]
  simp
theorem letTo_set (x n i : Nat) (h : i < n) : (letTo x n i).set i ((48 + (x >>> i) % 2 : Nat) : Int) = letTo x n (i + 1) := by
  unfold letTo
  have hl : ((letters x n).take i).length = i := by rw [List.length_take, letters_length]; omega
  rw [List.set_append, if_neg (by omega), hl, Nat.sub_self]
  obtain ⟨m, hm⟩ : ∃ m, n - i = m + 1 := ⟨n - i - 1, by omega⟩
  rw [hm, show n - (i + 1) = m by omega, List.replicate_succ, List.set_cons_zero, take_snoc (letters x n) 0 i (by rw [letters_length]; exact h)]
  have : (letters x n).getD i 0 = ((48 + (x >>> i) % 2 : Nat) : Int) := by simp [letters, List.getD, h]
  rw [this, List.append_assoc]
  rfl
theorem cmpTo_succ (a b : List Int) (i : Nat) : cmpTo a b (i + 1) = (cmpTo a b i && decide (a.getD i 0 = b.getD i 0)) := by
  simp [cmpTo, List.range_succ]
theorem cmpTo_all {a b : List Int} (h : a.length = b.length) : cmpTo a b a.length = decide (a = b) := by
  unfold cmpTo
  apply Bool.eq_iff_iff.2
  rw [List.all_eq_true, decide_eq_true_iff]
  constructor
  · intro h1
    apply List.ext_getElem h
    intro i h2 h3
    have := h1 i (List.mem_range.2 h2)
    rw [decide_eq_true_iff] at this
    simpa [List.getD, List.getElem?_eq_getElem h2, List.getElem?_eq_getElem h3] using this
  · rintro rfl i _
    simp
theorem writ_size (x n : Nat) : (writ x n).size = n := by
  show (strOf (letters x n)).size = n
  simp [strOf, letters_length, ByteArray.size]
theorem writ_bt (x n i : Nat) (h : i < n) : bt (writ x n) i = ((48 + (x >>> i) % 2 : Nat) : Int) := by
  unfold writ bt strOf
  have : i < (letters x n).length := by rw [letters_length]; exact h
  have e : (letters x n)[i]'this = ((48 + (x >>> i) % 2 : Nat) : Int) := by simp [letters]
  simp [List.getElem?_eq_getElem this, e]
  omega
theorem writ_bits (x n : Nat) : Bits (writ x n) := fun i hi => by
  rw [writ_size] at hi
  rw [writ_bt x n i hi]
  omega
theorem waysTo_succ (k : Nat) (l : List Int) (x : Nat) : waysTo k l (x + 1) = waysTo k l x + if applyF k (writ x (swN k)) = l then 1 else 0 := by
  unfold waysTo
  rw [List.range_succ, List.countP_append]
  simp [List.countP_cons]
theorem waysTo_le (k : Nat) (l : List Int) (x : Nat) : waysTo k l x ≤ x := by
  have := List.countP_le_length (p := fun y => decide (applyF k (writ y (swN k)) = l)) (l := List.range x)
  simpa [waysTo] using this

theorem ok18 : p18.OK Tryd.prog := p18.ok C18 (fun _ => cx3 (PC.OK.ci ok51) (PC.OK.ci ok52) (PC.OK.ci ok53)) (fn := Tryd.f18) rfl (by decide +kernel) rfl fun (p : Int × List Int) hp => by
  obtain ⟨k, l⟩ := p
  refine (g18_eq k l).mpr ?_
  have hp : l.length ≤ 1000 := hp
  simp only [pp1, eq_self, and_true, true_and, and_self, Int.toNat_natCast]
  unfold waysF
  refine ⟨fun h => by rw [if_neg (by omega)], fun h => ⟨fun h1 => by rw [if_neg (by omega)], fun h1 => ?_⟩⟩
  rw [if_pos (by omega)]
  obtain ⟨K, hK⟩ : ∃ K : Nat, k = (K : Nat) := ⟨k.toNat, by omega⟩
  subst hK
  have hK : K = 1 ∨ K = 2 := by omega
  have eS : switchesF (K : Int) = (swN K : Nat) := by rcases hK with rfl | rfl <;> decide
  have z : swN K ≤ 6 ∧ 2 ^ swN K ≤ 64 ∧ (2 : Nat) ^ K ≤ 4 ∧ 2 ^ K = 2 * hN K := by rcases hK with rfl | rfl <;> decide
  obtain ⟨z1, z2, z3, z4⟩ := z
  simp only [eS, Int.toNat_natCast, Int.one_mul]
  have e2 : ((2 : Int) ^ K) = ((2 ^ K : Nat) : Int) := by simp
  have e3 : ((2 : Int) ^ swN K) = ((2 ^ swN K : Nat) : Int) := by simp
  rw [e2, e3]
  generalize hW : (2 : Nat) ^ swN K = W at *
  generalize hV : (2 : Nat) ^ K = V at *
  refine ⟨by omega, fits_i64 (by omega) (by omega), hp, fun h2 => ?_, fun h2 => ?_⟩
  · rw [Bool.not_eq_true'] at h2
    rw [if_neg (of_decide_eq_false h2)]
  · have h2 : PermP l (V : Int) := by simpa using h2
    rw [if_pos h2]
    have hl : l.length = V := by have := h2.1; omega
    refine ⟨by omega, by omega, fits_i64 (by omega) (by omega), ⟨0, by omega, rfl, by simp [waysTo]⟩, fun x hx => ⟨fun h3 => ⟨by omega, ⟨by omega, by omega, by unfold Small; omega⟩, ⟨0, by omega, by simp [letTo], rfl⟩, fun i hi => ⟨fun h4 => ?_, fun h4 => ?_⟩⟩, fun h3 => ?_⟩⟩
    · rw [List.length_replicate] at h4
      rw [letter_eq (by omega), letTo_set x _ i (by omega), letTo_length x _ i hi]
      exact ⟨by omega, by omega, fits_nat (by omega), i + 1, by omega, by omega, rfl, by simp⟩
    · rw [List.length_replicate] at h4
      have : i = swN K := by omega
      subst this
      simp only [letTo_all x (swN K), show strOf (letters x (swN K)) = writ x (swN K) from rfl]
      have hg := applyF_good K (by omega) (by omega) (writ x (swN K)) (writ_size _ _) (writ_bits _ _)
      have hal : (applyF K (writ x (swN K))).length = l.length := by rw [hg.1, hl, z4]
      have hw := waysTo_succ K l x
      have hwl := waysTo_le K l x
      have hall := cmpTo_all hal
      have hsu := cmpTo_succ (applyF K (writ x (swN K))) l
      refine ⟨⟨by omega, writ_size _ _, writ_bits _ _⟩, ⟨0, by omega, rfl, by simp [cmpTo]⟩, fun j hj => ⟨fun h5 => ⟨by omega, fun h6 => ⟨by omega, fits_nat (by omega), j + 1, by omega, by omega, by simp, ?_⟩, fun h6 => ⟨fits_nat (by omega), j + 1, by omega, by omega, by simp, ?_⟩⟩, fun h5 => ?_⟩⟩
      · rw [hsu, h6, Bool.true_and]
      · rw [hsu, h6, Bool.false_and]
      · have : j = (applyF K (writ x (swN K))).length := by omega
        subst this
        rw [hall]
        refine ⟨fun h6 => ⟨fits_nat (by omega), fits_nat (by omega), x + 1, by omega, by omega, by simp, ?_⟩, fun h6 => ⟨fits_nat (by omega), x + 1, by omega, by omega, by simp, ?_⟩⟩
        · rw [hw, if_pos (of_decide_eq_true h6)]; simp
        · rw [hw, if_neg (of_decide_eq_false h6)]; simp
    · have : x = W := by omega
      rw [this]
end Go.SX.Pa

/- Chapter 06, part 7: what all laws call. -/
namespace Go.SX.Pa
open Go Go.Proofs
noncomputable section
@[reducible] def p25 : PC := ⟨25, [], [aB], fun _ => True, fun _ => true⟩
def g25 : Prop := p25.VC (cx [p38.ci, p20.ci, p45.ci, p18.ci, p19.ci, p26.ci, p28.ci] []) Tryd.f25 ()
@[reducible] def p17 : PC := ⟨17, [aIs], [aIs], fun _ => True, fun l => l.take 13⟩
def g17 (l : List Int) : Prop := p17.VC (cx [] []) Tryd.f17 l
@[reducible] def p21 : PC := ⟨21, [aI, aI, aI], [aB], fun _ => True, fun p => decide (p.2.1 ≤ p.1 ∧ p.1 ≤ p.2.2)⟩
def g21 (a b c : Int) : Prop := p21.VC (cx [] []) Tryd.f21 (a, b, c)
@[reducible] def p24 : PC := ⟨24, [aI, aI, aI], [aB], fun _ => True, fun p => decide (ClosP p.1 p.2.1 p.2.2)⟩
def g24 (n r m : Int) : Prop := p24.VC (cx [p21.ci] []) Tryd.f24 (n, r, m)
@[reducible] def p34 : PC := ⟨34, [aIs, aI], [aB], fun p => p.1.length ≤ 1000, fun p => decide (p.2 ∈ p.1)⟩
@[reducible] def C34 (p : List Int × Int) : Ctx := cx [] [(0, fun _ => upTo p.1.length 5 [0, 1] fun k => p.2 ∉ p.1.take k)]
def g34 (l : List Int) (x : Int) : Prop := p34.VC (C34 (l, x)) Tryd.f34 (l, x)
@[reducible] def p22 : PC := ⟨22, [aI, aIs], [aB], fun p => p.2.length ≤ 1000 ∧ 0 ≤ p.1 ∧ p.1 ≤ 1000000, fun p => decide (PermP p.2 p.1)⟩
@[reducible] def C22 (p : Int × List Int) : Ctx := cx [p21.ci, p34.ci] [(0, fun _ => upTo p.2.length 5 [0, 1] fun k => (∀ x ∈ p.2.take k, 0 ≤ x ∧ x < p.1) ∧ (p.2.take k).Nodup)]
def g22 (n : Int) (l : List Int) : Prop := p22.VC (C22 (n, l)) Tryd.f22 (n, l)
@[reducible] def p32 : PC := ⟨32, [aI], [aI], fun k => 1 ≤ k ∧ k ≤ 3, switchesF⟩
@[reducible] def C32 (k : Int) : Ctx := cx [(p32.below (fun k : Int => k.toNat) k.toNat).ci] []
def g32 (k : Int) : Prop := p32.VC (C32 k) Tryd.f32 k
@[reducible] def p55 : PC := ⟨55, [aI, aI], [aS], fun p => 0 ≤ p.1 ∧ p.1 < 64 ∧ 0 ≤ p.2 ∧ p.2 ≤ 6, fun p => writ p.1.toNat p.2.toNat⟩
@[reducible] def C55 (p : Int × Int) : Ctx := cx [] [(0, fun _ => upToS p.2.toNat 6 [0, 1] (fun _ => True) fun i => [(5, .c (.str (writ p.1.toNat i)))])]
def g55 (x n : Int) : Prop := p55.VC (C55 (x, n)) Tryd.f55 (x, n)
@[reducible] def p48 : PC := ⟨48, [aI, aS], [aIs], fun p => (1 ≤ p.1 ∧ p.1 ≤ 3) ∧ p.2.size = swN p.1.toNat ∧ Bits p.2, fun p => applyF p.1.toNat p.2⟩
@[reducible] def A48 (k : Nat) (s : ByteArray) : Ann where
  τ := Nat
  pre := []
  preC := []
  keep := [5, 7, 8, 9]
  slots x := [(11, .c (.int .i64 x)), (10, .c (.own 1 1))]
  ents x := [(1, .row 3 (.int .i64) 0 ((List.range x).map (applyEl k s)))]
  ok x := x ≤ 2 * hN k
  m x := 2 * hN k - x
@[reducible] def C48 (p : Int × ByteArray) : Ctx := cx [p32.ci, (p48.below m53 (m53 p)).ci] [(0, fun _ => A48 p.1.toNat p.2)]
@[reducible] def p23 : PC := ⟨23, [aI, aIs], [aI], fun p => 1 ≤ p.1 ∧ p.1 ≤ 2 ∧ p.2.length ≤ 1000, fun p => (waysTo p.1.toNat p.2 (2 ^ swN p.1.toNat) : Nat)⟩
@[reducible] def C23 (p : Int × List Int) : Ctx := cx [p32.ci, p55.ci, p48.ci, p28.ci] [(0, fun _ => upToS (2 ^ swN p.1.toNat) 7 [0, 1, 6] (fun _ => True) fun x => [(5, .c (.int .i64 (waysTo p.1.toNat p.2 x)))])]
def g23 (k : Int) (l : List Int) : Prop := p23.VC (C23 (k, l)) Tryd.f23 (k, l)
end
end Go.SX.Pa

/- Printed by VC.lean: what the executor asks. -/
namespace Go.SX.Pa
open Go Go.Proofs
theorem g25_eq  : g25  = (
 (0 : Nat) + (1 : Nat) + (1 : Nat) + (1 : Nat) + (1 : Nat) ≤ (1000 : Nat) ∧
 True ∧
 (ByteArray.mk #[(48 : UInt8), (48 : UInt8), (48 : UInt8), (48 : UInt8), (48 : UInt8), (48 : UInt8)]).size ≤ (1000 : Nat) ∧
 (0 : Nat) + (1 : Nat) + (1 : Nat) + (1 : Nat) + (1 : Nat) ≤ (1000 : Nat) ∧
 True ∧
 (0 : Nat) + (1 : Nat) + (1 : Nat) + (1 : Nat) ≤ (1000 : Nat) ∧
 ((routeF (2 : Int) (2 : Int) (2 : Int) [(2 : Int), (0 : Int), (1 : Int), (3 : Int)]).fst.length ≤ (1000 : Nat) ∧
 (0 : Nat) + (1 : Nat) + (1 : Nat) + (1 : Nat) + (1 : Nat) ≤ (1000 : Nat)) ∧
 (decide ((routeF (2 : Int) (2 : Int) (2 : Int) [(2 : Int), (0 : Int), (1 : Int), (3 : Int)]).fst = [(0 : Int), (1 : Int), (0 : Int), (1 : Int)]) = true →
 decide ((routeF (2 : Int) (2 : Int) (2 : Int) [(2 : Int), (0 : Int), (1 : Int), (3 : Int)]).fst = [(0 : Int), (1 : Int), (0 : Int), (1 : Int)]) = true ∧
 decide ((routeF (2 : Int) (2 : Int) (2 : Int) [(2 : Int), (0 : Int), (1 : Int), (3 : Int)]).fst = [(0 : Int), (1 : Int), (0 : Int), (1 : Int)]) = true ∧
 ((routeF (2 : Int) (2 : Int) (2 : Int) [(2 : Int), (0 : Int), (1 : Int), (3 : Int)]).snd = (0 : Int) →
 (routeF (2 : Int) (2 : Int) (2 : Int) [(2 : Int), (0 : Int), (1 : Int), (3 : Int)]).snd = (0 : Int) ∧
 (routeF (2 : Int) (2 : Int) (2 : Int) [(2 : Int), (0 : Int), (1 : Int), (3 : Int)]).snd = (0 : Int) ∧
 (routeF (2 : Int) (2 : Int) (2 : Int) [(2 : Int), (0 : Int), (1 : Int), (3 : Int)]).snd = (0 : Int) ∧
 ((!(strictF (2 : Int) (2 : Int) (2 : Int)).fst) = true →
 (!(strictF (2 : Int) (2 : Int) (2 : Int)).fst) = true ∧
 (!(strictF (2 : Int) (2 : Int) (2 : Int)).fst) = true ∧
 (!(strictF (2 : Int) (2 : Int) (2 : Int)).fst) = true ∧
 ((strictF (2 : Int) (2 : Int) (2 : Int)).snd = (0 : Int) →
 (strictF (2 : Int) (2 : Int) (2 : Int)).snd = (0 : Int) ∧
 (strictF (2 : Int) (2 : Int) (2 : Int)).snd = (0 : Int) ∧
 (strictF (2 : Int) (2 : Int) (2 : Int)).snd = (0 : Int) ∧
 ((applyP (2 : Int)
 (ByteArray.mk #[(48 : UInt8), (48 : UInt8), (48 : UInt8), (48 : UInt8), (48 : UInt8), (48 : UInt8)])).fst.length ≤
 (1000 : Nat) ∧
 (0 : Nat) + (1 : Nat) + (1 : Nat) + (1 : Nat) + (1 : Nat) ≤ (1000 : Nat)) ∧
 (decide
 ((applyP (2 : Int)
 (ByteArray.mk #[(48 : UInt8), (48 : UInt8), (48 : UInt8), (48 : UInt8), (48 : UInt8), (48 : UInt8)])).fst =
 [(0 : Int), (1 : Int), (2 : Int), (3 : Int)]) =
 true →
 decide
 ((applyP (2 : Int)
 (ByteArray.mk #[(48 : UInt8), (48 : UInt8), (48 : UInt8), (48 : UInt8), (48 : UInt8), (48 : UInt8)])).fst =
 [(0 : Int), (1 : Int), (2 : Int), (3 : Int)]) =
 true ∧
 decide
 ((applyP (2 : Int)
 (ByteArray.mk #[(48 : UInt8), (48 : UInt8), (48 : UInt8), (48 : UInt8), (48 : UInt8), (48 : UInt8)])).fst =
 [(0 : Int), (1 : Int), (2 : Int), (3 : Int)]) =
 true ∧
 decide
 ((applyP (2 : Int)
 (ByteArray.mk
 #[(48 : UInt8), (48 : UInt8), (48 : UInt8), (48 : UInt8), (48 : UInt8), (48 : UInt8)])).fst =
 [(0 : Int), (1 : Int), (2 : Int), (3 : Int)]) =
 true ∧
 ((applyP (2 : Int)
 (ByteArray.mk
 #[(48 : UInt8), (48 : UInt8), (48 : UInt8), (48 : UInt8), (48 : UInt8), (48 : UInt8)])).snd =
 (0 : Int) →
 (applyP (2 : Int)
 (ByteArray.mk
 #[(48 : UInt8), (48 : UInt8), (48 : UInt8), (48 : UInt8), (48 : UInt8), (48 : UInt8)])).snd =
 (0 : Int) ∧
 (applyP (2 : Int)
 (ByteArray.mk
 #[(48 : UInt8), (48 : UInt8), (48 : UInt8), (48 : UInt8), (48 : UInt8), (48 : UInt8)])).snd =
 (0 : Int) ∧
 (applyP (2 : Int)
 (ByteArray.mk
 #[(48 : UInt8), (48 : UInt8), (48 : UInt8), (48 : UInt8), (48 : UInt8), (48 : UInt8)])).snd =
 (0 : Int) ∧
 ((waysF (2 : Int) [(0 : Int), (1 : Int), (2 : Int), (3 : Int)]).fst = (4 : Int) →
 (waysF (2 : Int) [(0 : Int), (1 : Int), (2 : Int), (3 : Int)]).fst = (4 : Int) ∧
 (waysF (2 : Int) [(0 : Int), (1 : Int), (2 : Int), (3 : Int)]).fst = (4 : Int) ∧
 (waysF (2 : Int) [(0 : Int), (1 : Int), (2 : Int), (3 : Int)]).fst = (4 : Int) ∧
 ((waysF (2 : Int) [(0 : Int), (1 : Int), (2 : Int), (3 : Int)]).snd = (0 : Int) →
 (waysF (2 : Int) [(0 : Int), (1 : Int), (2 : Int), (3 : Int)]).snd = (0 : Int) ∧
 (waysF (2 : Int) [(0 : Int), (1 : Int), (2 : Int), (3 : Int)]).snd = (0 : Int) ∧
 (waysF (2 : Int) [(0 : Int), (1 : Int), (2 : Int), (3 : Int)]).snd = (0 : Int) ∧
 ((waksF (3 : Int)).fst = (17 : Int) →
 (waksF (3 : Int)).fst = (17 : Int) ∧
 (waksF (3 : Int)).fst = (17 : Int) ∧
 (waksF (3 : Int)).fst = (17 : Int) ∧
 ((waksF (3 : Int)).snd = (0 : Int) →
 (waksF (3 : Int)).snd = (0 : Int) ∧
 (waksF (3 : Int)).snd = (0 : Int) ∧
 (waksF (3 : Int)).snd = (0 : Int) ∧
 ((colorsF (2 : Int) (2 : Int)
 [((0 : Int), (0 : Int)), ((0 : Int), (0 : Int)),
 ((1 : Int), (1 : Int))]).fst.length ≤
 (1000 : Nat) ∧
 (0 : Nat) + (1 : Nat) + (1 : Nat) + (1 : Nat) ≤
 (1000 : Nat)) ∧
 (decide
 ((colorsF (2 : Int) (2 : Int)
 [((0 : Int), (0 : Int)), ((0 : Int), (0 : Int)),
 ((1 : Int), (1 : Int))]).fst =
 [(0 : Int), (1 : Int), (0 : Int)]) =
 true →
 decide
 ((colorsF (2 : Int) (2 : Int)
 [((0 : Int), (0 : Int)), ((0 : Int), (0 : Int)),
 ((1 : Int), (1 : Int))]).fst =
 [(0 : Int), (1 : Int), (0 : Int)]) =
 true ∧
 decide
 ((colorsF (2 : Int) (2 : Int)
 [((0 : Int), (0 : Int)),
 ((0 : Int), (0 : Int)),
 ((1 : Int), (1 : Int))]).fst =
 [(0 : Int), (1 : Int), (0 : Int)]) =
 true ∧
 decide
 ((colorsF (2 : Int) (2 : Int)
 [((0 : Int), (0 : Int)),
 ((0 : Int), (0 : Int)),
 ((1 : Int), (1 : Int))]).fst =
 [(0 : Int), (1 : Int), (0 : Int)]) =
 true ∧
 decide
 ((colorsF (2 : Int) (2 : Int)
 [((0 : Int), (0 : Int)),
 ((0 : Int), (0 : Int)),
 ((1 : Int), (1 : Int))]).snd =
 (0 : Int)) =
 true) ∧
 (decide
 ((colorsF (2 : Int) (2 : Int)
 [((0 : Int), (0 : Int)), ((0 : Int), (0 : Int)),
 ((1 : Int), (1 : Int))]).fst =
 [(0 : Int), (1 : Int), (0 : Int)]) =
 false →
 decide
 ((colorsF (2 : Int) (2 : Int)
 [((0 : Int), (0 : Int)), ((0 : Int), (0 : Int)),
 ((1 : Int), (1 : Int))]).fst =
 [(0 : Int), (1 : Int), (0 : Int)]) =
 false ∧
 decide
 ((colorsF (2 : Int) (2 : Int)
 [((0 : Int), (0 : Int)),
 ((0 : Int), (0 : Int)),
 ((1 : Int), (1 : Int))]).fst =
 [(0 : Int), (1 : Int), (0 : Int)]) =
 false ∧
 decide
 ((colorsF (2 : Int) (2 : Int)
 [((0 : Int), (0 : Int)),
 ((0 : Int), (0 : Int)),
 ((1 : Int), (1 : Int))]).fst =
 [(0 : Int), (1 : Int), (0 : Int)]) =
 false ∧
 false = true)) ∧
 (¬(waksF (3 : Int)).snd = (0 : Int) →
 ¬(waksF (3 : Int)).snd = (0 : Int) ∧
 ¬(waksF (3 : Int)).snd = (0 : Int) ∧
 ¬(waksF (3 : Int)).snd = (0 : Int) ∧ false = true)) ∧
 (¬(waksF (3 : Int)).fst = (17 : Int) →
 ¬(waksF (3 : Int)).fst = (17 : Int) ∧
 ¬(waksF (3 : Int)).fst = (17 : Int) ∧
 ¬(waksF (3 : Int)).fst = (17 : Int) ∧ false = true)) ∧
 (¬(waysF (2 : Int) [(0 : Int), (1 : Int), (2 : Int), (3 : Int)]).snd = (0 : Int) →
 ¬(waysF (2 : Int) [(0 : Int), (1 : Int), (2 : Int), (3 : Int)]).snd = (0 : Int) ∧
 ¬(waysF (2 : Int) [(0 : Int), (1 : Int), (2 : Int), (3 : Int)]).snd = (0 : Int) ∧
 ¬(waysF (2 : Int) [(0 : Int), (1 : Int), (2 : Int), (3 : Int)]).snd = (0 : Int) ∧
 false = true)) ∧
 (¬(waysF (2 : Int) [(0 : Int), (1 : Int), (2 : Int), (3 : Int)]).fst = (4 : Int) →
 ¬(waysF (2 : Int) [(0 : Int), (1 : Int), (2 : Int), (3 : Int)]).fst = (4 : Int) ∧
 ¬(waysF (2 : Int) [(0 : Int), (1 : Int), (2 : Int), (3 : Int)]).fst = (4 : Int) ∧
 ¬(waysF (2 : Int) [(0 : Int), (1 : Int), (2 : Int), (3 : Int)]).fst = (4 : Int) ∧ false = true)) ∧
 (¬(applyP (2 : Int)
 (ByteArray.mk
 #[(48 : UInt8), (48 : UInt8), (48 : UInt8), (48 : UInt8), (48 : UInt8), (48 : UInt8)])).snd =
 (0 : Int) →
 ¬(applyP (2 : Int)
 (ByteArray.mk
 #[(48 : UInt8), (48 : UInt8), (48 : UInt8), (48 : UInt8), (48 : UInt8), (48 : UInt8)])).snd =
 (0 : Int) ∧
 ¬(applyP (2 : Int)
 (ByteArray.mk
 #[(48 : UInt8), (48 : UInt8), (48 : UInt8), (48 : UInt8), (48 : UInt8), (48 : UInt8)])).snd =
 (0 : Int) ∧
 ¬(applyP (2 : Int)
 (ByteArray.mk
 #[(48 : UInt8), (48 : UInt8), (48 : UInt8), (48 : UInt8), (48 : UInt8), (48 : UInt8)])).snd =
 (0 : Int) ∧
 false = true)) ∧
 (decide
 ((applyP (2 : Int)
 (ByteArray.mk #[(48 : UInt8), (48 : UInt8), (48 : UInt8), (48 : UInt8), (48 : UInt8), (48 : UInt8)])).fst =
 [(0 : Int), (1 : Int), (2 : Int), (3 : Int)]) =
 false →
 decide
 ((applyP (2 : Int)
 (ByteArray.mk #[(48 : UInt8), (48 : UInt8), (48 : UInt8), (48 : UInt8), (48 : UInt8), (48 : UInt8)])).fst =
 [(0 : Int), (1 : Int), (2 : Int), (3 : Int)]) =
 false ∧
 decide
 ((applyP (2 : Int)
 (ByteArray.mk #[(48 : UInt8), (48 : UInt8), (48 : UInt8), (48 : UInt8), (48 : UInt8), (48 : UInt8)])).fst =
 [(0 : Int), (1 : Int), (2 : Int), (3 : Int)]) =
 false ∧
 decide
 ((applyP (2 : Int)
 (ByteArray.mk
 #[(48 : UInt8), (48 : UInt8), (48 : UInt8), (48 : UInt8), (48 : UInt8), (48 : UInt8)])).fst =
 [(0 : Int), (1 : Int), (2 : Int), (3 : Int)]) =
 false ∧
 false = true)) ∧
 (¬(strictF (2 : Int) (2 : Int) (2 : Int)).snd = (0 : Int) →
 ¬(strictF (2 : Int) (2 : Int) (2 : Int)).snd = (0 : Int) ∧
 ¬(strictF (2 : Int) (2 : Int) (2 : Int)).snd = (0 : Int) ∧
 ¬(strictF (2 : Int) (2 : Int) (2 : Int)).snd = (0 : Int) ∧ false = true)) ∧
 ((!(strictF (2 : Int) (2 : Int) (2 : Int)).fst) = false →
 (!(strictF (2 : Int) (2 : Int) (2 : Int)).fst) = false ∧
 (!(strictF (2 : Int) (2 : Int) (2 : Int)).fst) = false ∧ (!(strictF (2 : Int) (2 : Int) (2 : Int)).fst) = false ∧ false = true)) ∧
 (¬(routeF (2 : Int) (2 : Int) (2 : Int) [(2 : Int), (0 : Int), (1 : Int), (3 : Int)]).snd = (0 : Int) →
 ¬(routeF (2 : Int) (2 : Int) (2 : Int) [(2 : Int), (0 : Int), (1 : Int), (3 : Int)]).snd = (0 : Int) ∧
 ¬(routeF (2 : Int) (2 : Int) (2 : Int) [(2 : Int), (0 : Int), (1 : Int), (3 : Int)]).snd = (0 : Int) ∧
 ¬(routeF (2 : Int) (2 : Int) (2 : Int) [(2 : Int), (0 : Int), (1 : Int), (3 : Int)]).snd = (0 : Int) ∧ false = true)) ∧
 (decide ((routeF (2 : Int) (2 : Int) (2 : Int) [(2 : Int), (0 : Int), (1 : Int), (3 : Int)]).fst = [(0 : Int), (1 : Int), (0 : Int), (1 : Int)]) = false →
 decide ((routeF (2 : Int) (2 : Int) (2 : Int) [(2 : Int), (0 : Int), (1 : Int), (3 : Int)]).fst = [(0 : Int), (1 : Int), (0 : Int), (1 : Int)]) = false ∧
 decide ((routeF (2 : Int) (2 : Int) (2 : Int) [(2 : Int), (0 : Int), (1 : Int), (3 : Int)]).fst = [(0 : Int), (1 : Int), (0 : Int), (1 : Int)]) = false ∧
 false = true)) := by
 kernel_rfl

theorem g17_eq (l : List Int) : g17 l = (
 ((0 : Int) ≤ (↑(0 : Nat) : Int) ∧ (↑(0 : Nat) : Int) ≤ min (↑l.length : Int) (13 : Int) ∧ min (↑l.length : Int) (13 : Int) ≤ (↑l.length : Int)) ∧
 True ∧
 Small ((0 : Nat) + (List.drop (↑(0 : Nat) : Int).toNat (List.take (min (↑l.length : Int) (13 : Int)).toNat l)).length) ∧
 List.drop (↑(0 : Nat) : Int).toNat (List.take (min (↑l.length : Int) (13 : Int)).toNat l) = List.take (13 : Nat) l) := by
 kernel_rfl

theorem g21_eq (a : Int) (b : Int) (c : Int) : g21 a b c = (
 (b ≤ a → b ≤ a ∧ b ≤ a ∧ decide (a ≤ c) = decide (b ≤ a ∧ a ≤ c)) ∧ (¬b ≤ a → ¬b ≤ a ∧ ¬b ≤ a ∧ false = decide (b ≤ a ∧ a ≤ c))) := by
 kernel_rfl

theorem g24_eq (n : Int) (r : Int) (m : Int) : g24 n r m = (
 True ∧
 (decide ((1 : Int) ≤ n ∧ n ≤ (12 : Int)) = true →
 decide ((1 : Int) ≤ n ∧ n ≤ (12 : Int)) = true ∧
 decide ((1 : Int) ≤ n ∧ n ≤ (12 : Int)) = true ∧
 True ∧
 (decide ((1 : Int) ≤ r ∧ r ≤ (12 : Int)) = true →
 decide ((1 : Int) ≤ r ∧ r ≤ (12 : Int)) = true ∧
 decide ((1 : Int) ≤ r ∧ r ≤ (12 : Int)) = true ∧
 decide ((1 : Int) ≤ r ∧ r ≤ (12 : Int)) = true ∧
 Fits IntKind.i64 (n * r) ∧
 (n * r ≤ (12 : Int) →
 n * r ≤ (12 : Int) ∧ n * r ≤ (12 : Int) ∧ n * r ≤ (12 : Int) ∧ True ∧ decide ((1 : Int) ≤ m ∧ m ≤ (12 : Int)) = decide (ClosP n r m)) ∧
 (¬n * r ≤ (12 : Int) → ¬n * r ≤ (12 : Int) ∧ ¬n * r ≤ (12 : Int) ∧ ¬n * r ≤ (12 : Int) ∧ false = decide (ClosP n r m))) ∧
 (decide ((1 : Int) ≤ r ∧ r ≤ (12 : Int)) = false →
 decide ((1 : Int) ≤ r ∧ r ≤ (12 : Int)) = false ∧
 decide ((1 : Int) ≤ r ∧ r ≤ (12 : Int)) = false ∧ decide ((1 : Int) ≤ r ∧ r ≤ (12 : Int)) = false ∧ false = decide (ClosP n r m))) ∧
 (decide ((1 : Int) ≤ n ∧ n ≤ (12 : Int)) = false →
 decide ((1 : Int) ≤ n ∧ n ≤ (12 : Int)) = false ∧ decide ((1 : Int) ≤ n ∧ n ≤ (12 : Int)) = false ∧ false = decide (ClosP n r m))) := by
 kernel_rfl

theorem g34_eq (l : List Int) (x : Int) : g34 l x = (
 (∃ (x0 : Nat), (x0 ≤ l.length ∧ ¬x ∈ List.take x0 l) ∧ True ∧ (0 : Int) = (↑x0 : Int) ∧ l = l ∧ x = x ∧ True) ∧
 ∀ (x_1 : Nat),
 x_1 ≤ l.length ∧ ¬x ∈ List.take x_1 l →
 ((↑x_1 : Int) < (↑l.length : Int) →
 (↑x_1 : Int) < (↑l.length : Int) ∧
 ((0 : Int) ≤ (↑x_1 : Int) ∧ (↑x_1 : Int) < (↑l.length : Int)) ∧
 (l.getD (↑x_1 : Int).toNat (0 : Int) = x → l.getD (↑x_1 : Int).toNat (0 : Int) = x ∧ true = decide (x ∈ l)) ∧
 (¬l.getD (↑x_1 : Int).toNat (0 : Int) = x →
 ¬l.getD (↑x_1 : Int).toNat (0 : Int) = x ∧
 Fits IntKind.i64 ((↑x_1 : Int) + (1 : Int)) ∧
 ∃ (x' : Nat),
 (x' ≤ l.length ∧ ¬x ∈ List.take x' l) ∧ l.length - x' < l.length - x_1 ∧ True ∧ (↑x_1 : Int) + (1 : Int) = (↑x' : Int) ∧ l = l ∧ x = x ∧ True)) ∧
 (¬(↑x_1 : Int) < (↑l.length : Int) → ¬(↑x_1 : Int) < (↑l.length : Int) ∧ false = decide (x ∈ l))) := by
 kernel_rfl

theorem g22_eq (n : Int) (l : List Int) : g22 n l = (
 (∃ (x0 : Nat), (x0 ≤ l.length ∧ (∀ (x : Int), x ∈ List.take x0 l → (0 : Int) ≤ x ∧ x < n) ∧ (List.take x0 l).Nodup) ∧ True ∧ (0 : Int) = (↑x0 : Int) ∧ n = n ∧ l = l ∧ True) ∧
 ∀ (x : Nat),
 x ≤ l.length ∧ (∀ (x_1 : Int), x_1 ∈ List.take x l → (0 : Int) ≤ x_1 ∧ x_1 < n) ∧ (List.take x l).Nodup →
 ((↑x : Int) < (↑l.length : Int) →
 (↑x : Int) < (↑l.length : Int) ∧
 ((0 : Int) ≤ (↑x : Int) ∧ (↑x : Int) < (↑l.length : Int)) ∧
 Fits IntKind.i64 (n - (1 : Int)) ∧
 True ∧
 ((!decide ((0 : Int) ≤ l.getD (↑x : Int).toNat (0 : Int) ∧ l.getD (↑x : Int).toNat (0 : Int) ≤ n - (1 : Int))) = true →
 (!decide ((0 : Int) ≤ l.getD (↑x : Int).toNat (0 : Int) ∧ l.getD (↑x : Int).toNat (0 : Int) ≤ n - (1 : Int))) = true ∧
 (!decide ((0 : Int) ≤ l.getD (↑x : Int).toNat (0 : Int) ∧ l.getD (↑x : Int).toNat (0 : Int) ≤ n - (1 : Int))) = true ∧ false = decide (PermP l n)) ∧
 ((!decide ((0 : Int) ≤ l.getD (↑x : Int).toNat (0 : Int) ∧ l.getD (↑x : Int).toNat (0 : Int) ≤ n - (1 : Int))) = false →
 (!decide ((0 : Int) ≤ l.getD (↑x : Int).toNat (0 : Int) ∧ l.getD (↑x : Int).toNat (0 : Int) ≤ n - (1 : Int))) = false ∧
 (!decide ((0 : Int) ≤ l.getD (↑x : Int).toNat (0 : Int) ∧ l.getD (↑x : Int).toNat (0 : Int) ≤ n - (1 : Int))) = false ∧
 ((0 : Int) ≤ (↑(0 : Nat) : Int) ∧ (↑(0 : Nat) : Int) ≤ (↑x : Int) ∧ (↑x : Int) ≤ (↑l.length : Int)) ∧
 True ∧
 ((0 : Int) ≤ (↑x : Int) ∧ (↑x : Int) < (↑l.length : Int)) ∧
 (List.drop (↑(0 : Nat) : Int).toNat (List.take (↑x : Int).toNat l)).length ≤ (1000 : Nat) ∧
 (decide (l.getD (↑x : Int).toNat (0 : Int) ∈ List.drop (↑(0 : Nat) : Int).toNat (List.take (↑x : Int).toNat l)) = true →
 decide (l.getD (↑x : Int).toNat (0 : Int) ∈ List.drop (↑(0 : Nat) : Int).toNat (List.take (↑x : Int).toNat l)) = true ∧
 decide (l.getD (↑x : Int).toNat (0 : Int) ∈ List.drop (↑(0 : Nat) : Int).toNat (List.take (↑x : Int).toNat l)) = true ∧
 false = decide (PermP l n)) ∧
 (decide (l.getD (↑x : Int).toNat (0 : Int) ∈ List.drop (↑(0 : Nat) : Int).toNat (List.take (↑x : Int).toNat l)) = false →
 decide (l.getD (↑x : Int).toNat (0 : Int) ∈ List.drop (↑(0 : Nat) : Int).toNat (List.take (↑x : Int).toNat l)) = false ∧
 decide (l.getD (↑x : Int).toNat (0 : Int) ∈ List.drop (↑(0 : Nat) : Int).toNat (List.take (↑x : Int).toNat l)) = false ∧
 Fits IntKind.i64 ((↑x : Int) + (1 : Int)) ∧
 ∃ (x' : Nat),
 (x' ≤ l.length ∧ (∀ (x : Int), x ∈ List.take x' l → (0 : Int) ≤ x ∧ x < n) ∧ (List.take x' l).Nodup) ∧
 l.length - x' < l.length - x ∧ True ∧ (↑x : Int) + (1 : Int) = (↑x' : Int) ∧ n = n ∧ l = l ∧ True))) ∧
 (¬(↑x : Int) < (↑l.length : Int) → ¬(↑x : Int) < (↑l.length : Int) ∧ decide ((↑l.length : Int) = n) = decide (PermP l n))) := by
 kernel_rfl

theorem g32_eq (k : Int) : g32 k = (
 (k = (1 : Int) → k = (1 : Int) ∧ (1 : Int) = switchesF k) ∧
 (¬k = (1 : Int) →
 ¬k = (1 : Int) ∧
 ((0 : Int) ≤ k ∧ k < (64 : Int)) ∧
 Fits IntKind.i64 ((1 : Int) * (2 : Int) ^ k.toNat) ∧
 Fits IntKind.i64 (k - (1 : Int)) ∧
 (((1 : Int) ≤ k - (1 : Int) ∧ k - (1 : Int) ≤ (3 : Int)) ∧ (k - (1 : Int)).toNat < k.toNat) ∧
 Fits IntKind.i64 ((2 : Int) * switchesF (k - (1 : Int))) ∧
 Fits IntKind.i64 ((1 : Int) * (2 : Int) ^ k.toNat + (2 : Int) * switchesF (k - (1 : Int))) ∧
 (1 : Int) * (2 : Int) ^ k.toNat + (2 : Int) * switchesF (k - (1 : Int)) = switchesF k)) := by
 kernel_rfl

theorem g55_eq (x : Int) (n : Int) : g55 x n = (
 (∃ (x0 : Nat), (x0 ≤ n.toNat ∧ True) ∧ True ∧ (0 : Int) = (↑x0 : Int) ∧ ByteArray.mk #[] = writ x.toNat x0 ∧ x = x ∧ n = n ∧ True) ∧
 ∀ (x_1 : Nat),
 x_1 ≤ n.toNat ∧ True →
 ((↑x_1 : Int) < n →
 (↑x_1 : Int) < n ∧
 ((0 : Int) ≤ (↑x_1 : Int) ∧ (↑x_1 : Int) < (64 : Int)) ∧
 Fits IntKind.i64 ((48 : Int) + bitsF BinOp.and IntKind.i64 (x / (2 : Int) ^ (↑x_1 : Int).toNat) (1 : Int)) ∧
 Small ((writ x.toNat x_1).size + (strOf [IntKind.u8.wrap ((48 : Int) + bitsF BinOp.and IntKind.i64 (x / (2 : Int) ^ (↑x_1 : Int).toNat) (1 : Int))]).size) ∧
 Fits IntKind.i64 ((↑x_1 : Int) + (1 : Int)) ∧
 ∃ (x' : Nat),
 (x' ≤ n.toNat ∧ True) ∧
 n.toNat - x' < n.toNat - x_1 ∧
 True ∧
 (↑x_1 : Int) + (1 : Int) = (↑x' : Int) ∧
 writ x.toNat x_1 ++ strOf [IntKind.u8.wrap ((48 : Int) + bitsF BinOp.and IntKind.i64 (x / (2 : Int) ^ (↑x_1 : Int).toNat) (1 : Int))] =
 writ x.toNat x' ∧
 x = x ∧ n = n ∧ True) ∧
 (¬(↑x_1 : Int) < n → ¬(↑x_1 : Int) < n ∧ writ x.toNat x_1 = writ x.toNat n.toNat)) := by
 kernel_rfl

theorem g23_eq (k : Int) (l : List Int) : g23 k l = (
 ((1 : Int) ≤ k ∧ k ≤ (3 : Int)) ∧
 (∃ (x0 : Nat),
 (x0 ≤ (2 : Nat) ^ swN k.toNat ∧ True) ∧ True ∧ (0 : Int) = (↑x0 : Int) ∧ (0 : Int) = (↑(waysTo k.toNat l x0) : Int) ∧ switchesF k = switchesF k ∧ k = k ∧ l = l ∧ True) ∧
 ∀ (x : Nat),
 x ≤ (2 : Nat) ^ swN k.toNat ∧ True →
 ((0 : Int) ≤ switchesF k ∧ switchesF k < (64 : Int)) ∧
 Fits IntKind.i64 ((1 : Int) * (2 : Int) ^ (switchesF k).toNat) ∧
 ((↑x : Int) < (1 : Int) * (2 : Int) ^ (switchesF k).toNat →
 (↑x : Int) < (1 : Int) * (2 : Int) ^ (switchesF k).toNat ∧
 ((0 : Int) ≤ (↑x : Int) ∧ (↑x : Int) < (64 : Int) ∧ (0 : Int) ≤ switchesF k ∧ switchesF k ≤ (6 : Int)) ∧
 (((1 : Int) ≤ k ∧ k ≤ (3 : Int)) ∧
 (writ (↑x : Int).toNat (switchesF k).toNat).size = swN k.toNat ∧
 ∀ (i : Nat),
 i < (writ (↑x : Int).toNat (switchesF k).toNat).size →
 bt (writ (↑x : Int).toNat (switchesF k).toNat) i = (48 : Int) ∨ bt (writ (↑x : Int).toNat (switchesF k).toNat) i = (49 : Int)) ∧
 ((applyF k.toNat (writ (↑x : Int).toNat (switchesF k).toNat)).length ≤ (1000 : Nat) ∧ l.length ≤ (1000 : Nat)) ∧
 (decide (applyF k.toNat (writ (↑x : Int).toNat (switchesF k).toNat) = l) = true →
 decide (applyF k.toNat (writ (↑x : Int).toNat (switchesF k).toNat) = l) = true ∧
 Fits IntKind.i64 ((↑(waysTo k.toNat l x) : Int) + (1 : Int)) ∧
 Fits IntKind.i64 ((↑x : Int) + (1 : Int)) ∧
 ∃ (x' : Nat),
 (x' ≤ (2 : Nat) ^ swN k.toNat ∧ True) ∧
 (2 : Nat) ^ swN k.toNat - x' < (2 : Nat) ^ swN k.toNat - x ∧
 True ∧
 (↑x : Int) + (1 : Int) = (↑x' : Int) ∧
 (↑(waysTo k.toNat l x) : Int) + (1 : Int) = (↑(waysTo k.toNat l x') : Int) ∧ switchesF k = switchesF k ∧ k = k ∧ l = l ∧ True) ∧
 (decide (applyF k.toNat (writ (↑x : Int).toNat (switchesF k).toNat) = l) = false →
 decide (applyF k.toNat (writ (↑x : Int).toNat (switchesF k).toNat) = l) = false ∧
 Fits IntKind.i64 ((↑x : Int) + (1 : Int)) ∧
 ∃ (x' : Nat),
 (x' ≤ (2 : Nat) ^ swN k.toNat ∧ True) ∧
 (2 : Nat) ^ swN k.toNat - x' < (2 : Nat) ^ swN k.toNat - x ∧
 True ∧
 (↑x : Int) + (1 : Int) = (↑x' : Int) ∧
 (↑(waysTo k.toNat l x) : Int) = (↑(waysTo k.toNat l x') : Int) ∧ switchesF k = switchesF k ∧ k = k ∧ l = l ∧ True)) ∧
 (¬(↑x : Int) < (1 : Int) * (2 : Int) ^ (switchesF k).toNat →
 ¬(↑x : Int) < (1 : Int) * (2 : Int) ^ (switchesF k).toNat ∧ (↑(waysTo k.toNat l x) : Int) = (↑(waysTo k.toNat l ((2 : Nat) ^ swN k.toNat)) : Int))) := by
 kernel_rfl

end Go.SX.Pa

/- Chapter 06, part 7: the contracts of what all laws call. -/
namespace Go.SX.Pa
open Go Go.Proofs

def zeros6 : ByteArray := ByteArray.mk #[48, 48, 48, 48, 48, 48]
theorem live1 : routeF 2 2 2 [2, 0, 1, 3] = ([0, 1, 0, 1], 0) := by decide +kernel
theorem live2 : strictF 2 2 2 = (false, 0) := by decide +kernel
theorem live3 : applyP 2 (ByteArray.mk #[48, 48, 48, 48, 48, 48]) = ([0, 1, 2, 3], 0) := by decide +kernel
theorem live4 : waysF 2 [0, 1, 2, 3] = (4, 0) := by decide +kernel
theorem live5 : waksF 3 = (17, 0) := by decide +kernel
theorem live6 : colorsF 2 2 [(0, 0), (0, 0), (1, 1)] = ([0, 1, 0], 0) := by decide +kernel

theorem ok25 : p25.OK Tryd.prog := p25.ok (fun _ => cx [p38.ci, p20.ci, p45.ci, p18.ci, p19.ci, p26.ci, p28.ci] []) (fun _ => cx_ok (cs := [p38.ci, p20.ci, p45.ci, p18.ci, p19.ci, p26.ci, p28.ci]) ⟨PC.OK.ci ok38, PC.OK.ci ok20, PC.OK.ci ok45, PC.OK.ci ok18, PC.OK.ci ok19, PC.OK.ci ok26, PC.OK.ci ok28, trivial⟩ _) (fn := Tryd.f25) rfl (by decide +kernel) rfl fun x _ => by
  obtain ⟨⟩ := x
  refine g25_eq.mpr ?_
  simp only [live1, live2, live3, live4, live5, live6, pp1, eq_self, true_and, and_self, decide_true, forall_const, List.length_cons, List.length_nil]
  simp
  try decide

theorem ok17 : p17.OK Tryd.prog := p17.ok (fun _ => cx [] []) (fun _ => cx0) (fn := Tryd.f17) rfl (by decide +kernel) rfl fun (l : List Int) _ => by
  refine (g17_eq l).mpr ?_
  simp only [true_and, Int.toNat_natCast, List.drop_zero]
  have e : (min (l.length : Int) 13).toNat = min l.length 13 := by omega
  rw [e]
  refine ⟨by omega, by unfold Small; rw [List.length_take]; omega, ?_⟩
  rcases Nat.le_total l.length 13 with h | h
  · rw [Nat.min_eq_left h, List.take_of_length_le (Nat.le_refl _), List.take_of_length_le h]
  · rw [Nat.min_eq_right h]

theorem ok21 : p21.OK Tryd.prog := p21.ok (fun _ => cx [] []) (fun _ => cx0) (fn := Tryd.f21) rfl (by decide +kernel) rfl fun (p : Int × Int × Int) _ => by
  obtain ⟨a, b, c⟩ := p
  refine (g21_eq a b c).mpr ?_
  simp only [pp1]
  exact ⟨fun h => decide_eq_decide.2 (by omega), fun h => (decide_eq_false (by omega)).symm⟩

theorem ok24 : p24.OK Tryd.prog := p24.ok (fun _ => cx [p21.ci] []) (fun _ => cx1 (PC.OK.ci ok21)) (fn := Tryd.f24) rfl (by decide +kernel) rfl fun (p : Int × Int × Int) _ => by
  obtain ⟨n, r, m⟩ := p
  refine (g24_eq n r m).mpr ?_
  simp only [pp1, true_and]
  refine ⟨fun h1 => ⟨fun h2 => ?_, fun h2 => ?_⟩, fun h1 => ?_⟩
  · have h1 := of_decide_eq_true h1
    have h2 := of_decide_eq_true h2
    refine ⟨mul_fits (by omega) (by omega) (by omega) (by omega), fun h3 => decide_eq_decide.2 ?_, fun h3 => (decide_eq_false fun h => h3 h.2.2.1).symm⟩
    unfold ClosP
    omega
  · have h2 := of_decide_eq_false h2
    exact (decide_eq_false fun h => h2 h.2.1).symm
  · have h1 := of_decide_eq_false h1
    exact (decide_eq_false fun h => h1 h.1).symm

theorem ok34 : p34.OK Tryd.prog := p34.ok C34 (fun _ => cx0) (fn := Tryd.f34) rfl (by decide +kernel) rfl fun (p : List Int × Int) hp => by
  obtain ⟨l, x⟩ := p
  refine (g34_eq l x).mpr ?_
  have hp : l.length ≤ 1000 := hp
  simp only [pp1, eq_self, and_true, true_and, and_self, Int.toNat_natCast]
  refine ⟨⟨0, ⟨by omega, by simp⟩, rfl⟩, fun k ⟨hk, hno⟩ => ⟨fun h1 => ?_, fun h1 => ?_⟩⟩
  · have hk' : k < l.length := by omega
    refine ⟨by omega, fun h2 => (decide_eq_true ?_).symm, fun h2 => ⟨fits_nat (by omega), k + 1, ⟨by omega, fun h3 => ?_⟩, by omega, by simp⟩⟩
    · rw [← h2]; exact getD_mem l 0 hk'
    · rcases (take_mem l 0 x k hk').1 h3 with h4 | h4
      · exact hno h4
      · exact h2 h4.symm
  · have : l.take k = l := List.take_of_length_le (by omega)
    rw [this] at hno
    exact (decide_eq_false hno).symm

theorem ok22 : p22.OK Tryd.prog := p22.ok C22 (fun _ => cx2 (PC.OK.ci ok21) (PC.OK.ci ok34)) (fn := Tryd.f22) rfl (by decide +kernel) rfl fun (p : Int × List Int) hp => by
  obtain ⟨n, l⟩ := p
  refine (g22_eq n l).mpr ?_
  obtain ⟨q1, q2, q3⟩ := hp
  have q1 : l.length ≤ 1000 := q1
  have q2 : (0 : Int) ≤ n := q2
  have q3 : n ≤ (1000000 : Int) := q3
  simp only [pp1, eq_self, and_true, true_and, and_self, Int.toNat_natCast, List.drop_zero]
  refine ⟨⟨0, ⟨by omega, by simp, by simp⟩, rfl⟩, fun k ⟨hk, hr, hn⟩ => ⟨fun h1 => ?_, fun h1 => ?_⟩⟩
  · have hk' : k < l.length := by omega
    have hm : l.getD k 0 ∈ l := getD_mem l 0 hk'
    refine ⟨by omega, fits_i64 (by omega) (by omega), fun h2 => ?_, fun h2 => ⟨by omega, by omega, by rw [List.length_take]; omega, fun h3 => ?_, fun h3 => ⟨fits_nat (by omega), k + 1, ⟨by omega, fun x hx => ?_, ?_⟩, by omega, by simp⟩⟩⟩
    · rw [Bool.not_eq_true'] at h2
      have h2 := of_decide_eq_false h2
      exact (decide_eq_false fun h => h2 (by have := h.2.1 _ hm; omega)).symm
    · have h3 := of_decide_eq_true h3
      refine (decide_eq_false fun h => ?_).symm
      have h7 : (l.take (k + 1)).Nodup := h.2.2.sublist (List.take_sublist _ _)
      rw [take_snoc l 0 k hk', List.nodup_append] at h7
      exact h7.2.2 _ h3 _ (by simp) rfl
    · rcases (take_mem l 0 x k hk').1 hx with h4 | h4
      · exact hr x h4
      · subst h4
        rw [Bool.not_eq_false'] at h2
        have h2 := of_decide_eq_true h2
        omega
    · rw [take_snoc l 0 k hk']; exact nodup_snoc hn (of_decide_eq_false h3)
  · have : l.take k = l := List.take_of_length_le (by omega)
    rw [this] at hr hn
    apply decide_eq_decide.2
    exact ⟨fun h => ⟨h, hr, hn⟩, fun h => h.1⟩

theorem ok32 : p32.OK Tryd.prog := p32.rec_ok (fn := Tryd.f32) (fun k : Int => k.toNat) C32 (fun _ h => cx1 (PC.OK.ci h)) rfl (by decide +kernel) rfl fun (k : Int) hk => by
  refine (g32_eq k).mpr ?_
  have hk : 1 ≤ k ∧ k ≤ 3 := hk
  have h3 : k = 1 ∨ k = 2 ∨ k = 3 := by omega
  simp only [pp1]
  rcases h3 with rfl | rfl | rfl
  · exact ⟨fun _ => by decide, fun h => absurd rfl h⟩
  · exact ⟨fun h => absurd h (by decide), fun _ => ⟨by decide, fits_i64 (by decide) (by decide), fits_i64 (by decide) (by decide), by decide, fits_i64 (by decide) (by decide), fits_i64 (by decide) (by decide), by decide⟩⟩
  · exact ⟨fun h => absurd h (by decide), fun _ => ⟨by decide, fits_i64 (by decide) (by decide), fits_i64 (by decide) (by decide), by decide, fits_i64 (by decide) (by decide), fits_i64 (by decide) (by decide), by decide⟩⟩

theorem letter_eq1 {x i : Nat} (h : x < 64) : bitsF .and .i64 ((x : Int) / 2 ^ i) 1 = (((x >>> i) % 2 : Nat) : Int) := by
  have e : (x : Int) / 2 ^ i = ((x / 2 ^ i : Nat) : Int) := by simp
  have hle : x / 2 ^ i ≤ x := Nat.div_le_self _ _
  rw [e, Nat.shiftRight_eq_div_pow]
  generalize x / 2 ^ i = d at hle ⊢
  rw [and_one (by omega)]
  omega
theorem strOf_append (a b : List Int) : strOf a ++ strOf b = strOf (a ++ b) := by
  unfold strOf
  rw [List.map_append]
  apply ByteArray.ext
  simp
theorem writ_succ (x n : Nat) : writ x n ++ strOf [((48 + (x >>> n) % 2 : Nat) : Int)] = writ x (n + 1) := by
  unfold writ
  rw [strOf_append]
  simp [letters, List.range_succ]

theorem ok55 : p55.OK Tryd.prog := p55.ok C55 (fun _ => cx0) (fn := Tryd.f55) rfl (by decide +kernel) rfl fun (p : Int × Int) hp => by
  obtain ⟨x, n⟩ := p
  refine (g55_eq x n).mpr ?_
  obtain ⟨q1, q2, q3, q4⟩ := hp
  have q1 : (0 : Int) ≤ x := q1
  have q2 : x < (64 : Int) := q2
  have q3 : (0 : Int) ≤ n := q3
  have q4 : n ≤ (6 : Int) := q4
  obtain ⟨X, rfl⟩ : ∃ X : Nat, x = (X : Nat) := ⟨x.toNat, by omega⟩
  simp only [pp1, eq_self, and_true, true_and, and_self, Int.toNat_natCast]
  refine ⟨⟨0, by omega, rfl, rfl⟩, fun k hk => ⟨fun h1 => ?_, fun h1 => ?_⟩⟩
  · rw [letter_eq1 (by omega)]
    have ew : IntKind.u8.wrap (48 + ((X >>> k % 2 : Nat) : Int)) = ((48 + (X >>> k) % 2 : Nat) : Int) := by
      rw [wrap_small (by omega)]; omega
    rw [ew, writ_succ, writ_size]
    refine ⟨by omega, fits_i64 (by omega) (by omega), ?_, fits_nat (by omega), k + 1, by omega, by omega, by simp, rfl⟩
    have : (strOf [((48 + (X >>> k) % 2 : Nat) : Int)]).size = 1 := rfl
    rw [this]; unfold Small; omega
  · have : k = n.toNat := by omega
    rw [this]
end Go.SX.Pa
