/- Chapter 06 in plain words: what the functions of the packages compute. -/
import Derived.Test.YtfbgbdiajghnbaaDoorSxS
import Derived.Lib.SlTrimSet
namespace Go.SX.Pa

abbrev Ed := Int × Int
abbrev Cl := Int × Int × Int
theorem pp1 {p q : Prop} : (p → p ∧ q) ↔ (p → q) := ⟨fun h hp => (h hp).2, fun h hp => ⟨hp, h hp⟩⟩

/-- Are three numbers those of a Clos network? -/
def ClosP (n r m : Int) : Prop := (1 ≤ n ∧ n ≤ 12) ∧ (1 ≤ r ∧ r ≤ 12) ∧ n * r ≤ 12 ∧ 1 ≤ m ∧ m ≤ 12
instance {n r m : Int} : Decidable (ClosP n r m) := by unfold ClosP; infer_instance
def strictF (n r m : Int) : Bool × Int := if ClosP n r m then (decide (2 * n - 1 ≤ m ∨ r = 1 ∧ n ≤ m), 0) else (false, 1)
def waksF (k : Int) : Int × Int := if 1 ≤ k ∧ k ≤ 20 then ((k - 1) * 2 ^ k.toNat + 1, 0) else (0, 1)
def switchesF (k : Int) : Int := (2 * k - 1) * 2 ^ (k - 1).toNat
/-- A permutation of the numbers below n. -/
def PermP (l : List Int) (n : Int) : Prop := (l.length : Int) = n ∧ (∀ x ∈ l, 0 ≤ x ∧ x < n) ∧ l.Nodup
instance {l : List Int} {n : Int} : Decidable (PermP l n) := by unfold PermP; infer_instance
def seenR (n : Int) (l : List Int) : List Bool := (List.range n.toNat).map fun i : Nat => decide ((i : Int) ∈ l)
def readF (n r m : Int) (perm : List Int) : Cl × Int := ((n, r, m), if ClosP n r m then (if PermP perm (n * r) then 0 else 2) else 1)
def edgesTo (n : Int) (perm : List Int) (k : Nat) : List Ed := (List.range k).map fun i : Nat => ((i : Int) / n, perm.getD i 0 / n)
def edgesF (n : Int) (perm : List Int) : List Ed := edgesTo n perm perm.length
def touch (es : List Ed) (c : List Int) (i j : Nat) : Bool := decide (c.getD j 0 = c.getD i 0 ∧ ((es.getD j (0, 0)).1 = (es.getD i (0, 0)).1 ∨ (es.getD j (0, 0)).2 = (es.getD i (0, 0)).2))
def clashF (es : List Ed) (c : List Int) (i : Nat) : Bool := (List.range i).any (touch es c i)
end Go.SX.Pa
namespace Go.SX.Pa
/-- Counting in a map. -/
def addT (es : List (Int × Int)) (v : Int) : List (Int × Int) := insF es v ((lookF es v).getD 0 + 1)
abbrev DegSt := List (Int × Int) × List (Int × Int) × Int
def degStep (s : DegSt) (e : Ed) : DegSt := (addT s.1 e.1, addT s.2.1 e.2, max (max s.2.2 ((lookF (addT s.1 e.1) e.1).getD 0)) ((lookF (addT s.2.1 e.2) e.2).getD 0))
def degTo (es : List Ed) (k : Nat) : DegSt := (es.take k).foldl degStep ([], [], 0)
def degF (es : List Ed) : Int := (degTo es es.length).2.2
/-- The first colouring with the numbers below m that begins with 'out', f more edges to be coloured. -/
def extF (es : List Ed) (m : Nat) : Nat → List Int → Option (List Int)
  | 0, out => some out
  | f + 1, out => (List.range m).findSome? fun c : Nat => if clashF es (out ++ [(c : Int)]) out.length = true then none else extF es m f (out ++ [(c : Int)])
def extR (es : List Ed) (m : Int) (out : List Int) : Option (List Int) := extF es m.toNat (es.length - out.length) out
def loopOut (out : List Int) : Nat → List Int
  | 0 => out
  | k + 1 => out ++ [(k : Int)]
def noExt (es : List Ed) (m : Int) (out : List Int) (k : Nat) : Prop := ∀ c : Nat, c < k → clashF es (out ++ [(c : Int)]) out.length = true ∨ extR es m (out ++ [(c : Int)]) = none
def colF (es : List Ed) (m : Int) : Option (List Int) := if degF es ≤ m then extR es m [] else none
def routeF (n r m : Int) (perm : List Int) : List Int × Int :=
  if ClosP n r m then (if PermP perm (n * r) then (match colF (edgesF n perm) m with | some l => (l, 0) | none => ([], 5)) else ([], 2)) else ([], 1)
def badEd (a c : Int) (e : Ed) : Bool := decide (min e.1 e.2 < 0 ∨ a ≤ e.1 ∨ c ≤ e.2)
def colorsF (a c : Int) (es : List Ed) : List Int × Int :=
  if 12 < es.length then ([], 3) else if min a c < 1 ∨ 6 < max a c ∨ es.any (badEd a c) = true then ([], 1) else ((colF es (degF es)).getD [], 0)
end Go.SX.Pa
namespace Go.SX.Pa
def xr (a b : Int) : Int := bitsF .xor .i64 a b
def hN (k : Nat) : Nat := 2 ^ (k - 1)
def swN (k : Nat) : Nat := (2 * k - 1) * 2 ^ (k - 1)
def elF (h n : Nat) (s : ByteArray) (p0 p1 : List Int) (x : Nat) : Int :=
  let part := xr ((x : Int) % 2) (bt (s.extract 0 h) (x / 2) - 48)
  let at_ := (if part = 0 then p0 else p1).getD (x / 2) 0
  xr (2 * at_ + part) (bt (s.extract (h + 2 * n) s.size) at_.toNat - 48)
/-- The permutation of settings (of 2^k inputs). -/
def applyF : Nat → ByteArray → List Int
  | 0, _ => []
  | 1, s => [bt s 0 - 48, 1 - (bt s 0 - 48)]
  | k + 2, s => (List.range (2 * hN (k + 2))).map (elF (hN (k + 2)) (swN (k + 1)) s (applyF (k + 1) (s.extract (hN (k + 2)) (hN (k + 2) + swN (k + 1)))) (applyF (k + 1) (s.extract (hN (k + 2) + swN (k + 1)) (hN (k + 2) + 2 * swN (k + 1)))))
def applyEl (k : Nat) (s : ByteArray) (x : Nat) : Int := elF (hN k) (swN (k - 1)) s (applyF (k - 1) (s.extract (hN k) (hN k + swN (k - 1)))) (applyF (k - 1) (s.extract (hN k + swN (k - 1)) (hN k + 2 * swN (k - 1)))) x
def applyTo (k : Nat) (s : ByteArray) (x : Nat) : List Int := (List.range x).map (applyEl k s) ++ List.replicate (2 * hN k - x) 0
def Bits (s : ByteArray) : Prop := ∀ i, i < s.size → bt s i = 48 ∨ bt s i = 49
def applyP (k : Int) (s : ByteArray) : List Int × Int := if 1 ≤ k ∧ k ≤ 3 then (if s.size = swN k.toNat ∧ Lib.trimS s.data.toList [48, 49] = [] then (applyF k.toNat s, 0) else ([], 2)) else ([], 1)
def beforeF : List Int → List Int → Bool
  | _, [] => false
  | [], _ :: _ => true
  | x :: a, y :: b => if x = y then beforeF a b else decide (x < y)
/-- The letters of a number as settings. -/
def letters (x n : Nat) : List Int := (List.range n).map fun i => (48 + (x >>> i) % 2 : Nat)
def writ (x n : Nat) : ByteArray := strOf (letters x n)
def waysTo (k : Nat) (perm : List Int) (x : Nat) : Nat := (List.range x).countP fun y => decide (applyF k (writ y (swN k)) = perm)
def waysF (k : Int) (perm : List Int) : Int × Int := if 1 ≤ k ∧ k ≤ 2 then (if PermP perm (2 ^ k.toNat) then (waysTo k.toNat perm (2 ^ swN k.toNat), 0) else (0, 2)) else (0, 1)
end Go.SX.Pa
namespace Go.SX.Pa
def letTo (x n i : Nat) : List Int := (letters x n).take i ++ List.replicate (n - i) 0
def cmpTo (a b : List Int) (i : Nat) : Bool := (List.range i).all fun j => decide (a.getD j 0 = b.getD j 0)
end Go.SX.Pa
