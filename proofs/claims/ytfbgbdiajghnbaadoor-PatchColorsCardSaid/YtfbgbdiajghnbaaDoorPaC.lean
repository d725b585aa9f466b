/- Chapter 06 in plain words, part C: the reference's colourings. -/
import Derived.Test.YtfbgbdiajghnbaaDoorPaP
namespace Go.SX.Pa
def properF (es : List Ed) (l : List Int) : Bool := (List.range l.length).all fun i => !clashF es l i
/-- The reference's search: f more edges. -/
def refG (es : List Ed) (m : Nat) : Nat → List Int → Option (List Int)
  | 0, l => if properF es l = true then some l else none
  | f + 1, l => if properF es l = true then (List.range m).findSome? fun c : Nat => refG es m f (l ++ [(c : Int)]) else none
def refC (es : List Ed) (m : Int) (l : List Int) : Option (List Int) := refG es m.toNat (es.length - l.length) l
def noRef (es : List Ed) (m : Int) (l : List Int) (k : Nat) : Prop := ∀ c : Nat, c < k → refC es m (l ++ [(c : Int)]) = none
def cntA (es : List Ed) (v : Nat) : Int := (es.countP fun e => decide (e.1 = (v : Int)) : Nat)
def cntB (es : List Ed) (v : Nat) : Int := (es.countP fun e => decide (e.2 = (v : Int)) : Nat)
def degR (es : List Ed) : Nat → Int
  | 0 => 0
  | v + 1 => max (max (degR es v) (cntA es v)) (cntB es v)
def graphF (a c : Int) (es : List Ed) : Int := if 12 < es.length then 3 else if ¬ (1 ≤ a ∧ a ≤ 6) ∨ ¬ (1 ≤ c ∧ c ≤ 6) ∨ es.any (badEd a c) = true then 1 else 0
end Go.SX.Pa
