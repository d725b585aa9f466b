/- Parts of the proof, one after the other: WzN1 WzN1E WzN1Q WzN2Q WzN3Q WzN4 WzN4E WzN4Q WzN5 WzN5E WzN5Q. -/
import Derived.Test.YtgbnkmhabhgigaaGreatM5
import Derived.Test.YtgbnkmhabhgigaaGreatM8
/- Chapter 08: num's functions on sizes, what is asked of each. -/
namespace Go.SX.We.Nm
open Go Go.Proofs
noncomputable section
abbrev aW : ATy := (false, .int .u32)
@[reducible] def A82 (xs : List Int) : Ann where
  τ := Nat
  pre := []
  preC := []
  keep := []
  slots k := [(0, .c (.ro (.int .u32) (xs.take (xs.length - k))))]
  ents _ := []
  ok k := k ≤ xs.length ∧ trimF (xs.take (xs.length - k)) = trimF xs
  m k := xs.length - k
@[reducible] def p82 : PC := ⟨82, [aU], [aU], fun xs => xs.length ≤ 1000000, trimF⟩
def g82 (xs : List Int) : Prop := p82.VC (cx [] [(0, fun _ => A82 xs)]) Tryz.f82 xs
@[reducible] def A84 (a c : List Int) : Ann where
  τ := Nat
  pre := []
  preC := []
  keep := [0, 1]
  slots k := [(5, .c (.int .i64 ((a.length : Int) - 1 - k)))]
  ents _ := []
  ok k := k ≤ a.length ∧ cmpD a c (a.length - k) = cmpD a c a.length
  m k := a.length - k
@[reducible] def p84 : PC := ⟨84, [aU, aU], [aI], fun p => p.1.length ≤ 1000000 ∧ p.2.length ≤ 1000000, fun p => cmpN p.1 p.2⟩
def g84 (a c : List Int) : Prop := p84.VC (cx [] [(0, fun _ => A84 a c)]) Tryz.f84 (a, c)
abbrev U32 (x : Int) : Prop := 0 ≤ x ∧ x < 4294967296
abbrev B01 (x : Int) : Prop := 0 ≤ x ∧ x ≤ 1
@[reducible] def p105 : PC := ⟨105, [aW, aW, aW], [aW, aW], fun p => U32 p.1 ∧ U32 p.2.1 ∧ B01 p.2.2, fun p => ((p.1 + p.2.1 + p.2.2) % 4294967296, (p.1 + p.2.1 + p.2.2) / 4294967296)⟩
def g105 (x y c : Int) : Prop := p105.VC (cx [] []) Tryz.f105 (x, y, c)
@[reducible] def p106 : PC := ⟨106, [aW, aW, aW], [aW, aW], fun p => U32 p.1 ∧ U32 p.2.1 ∧ B01 p.2.2, fun p => ((p.1 - p.2.1 - p.2.2) % 4294967296, -((p.1 - p.2.1 - p.2.2) / 4294967296))⟩
def g106 (x y c : Int) : Prop := p106.VC (cx [] []) Tryz.f106 (x, y, c)
def with2 (i j : Nat) (K : List Int → List Int → Ann) (st : St) : Ann :=
  match findT i st.t, findT j st.t with
  | .c (.ro (.int .u32) a), .c (.ro (.int .u32) c) => K a c
  | _, _ => noAnn
@[reducible] def A83 (a c : List Int) : Ann where
  τ := Nat
  pre := []
  preC := []
  keep := [5, 20, 21]
  slots k := [(0, .c (.ro (.int .u32) a)), (1, .c (.ro (.int .u32) c)), (6, .c (.int .u32 ((valF 4294967296 (a.take k) + valF 4294967296 (c.take k)) / (4294967296 : Int) ^ k))), (22, .c (.int .i64 k))]
  ents k := [(0, .row 118 (.int .u32) 1 (digs 4294967296 (valF 4294967296 (a.take k) + valF 4294967296 (c.take k)) k ++ List.replicate (a.length + 1 - k) 0))]
  ok k := k ≤ a.length
  m k := a.length - k
@[reducible] def p83 : PC := ⟨83, [aU, aU], [aU], fun p => (FigsF 4294967296 p.1 ∧ FigsF 4294967296 p.2) ∧ p.1.length ≤ 100000 ∧ p.2.length ≤ 100000, fun p => lim 4294967296 (valF 4294967296 p.1 + valF 4294967296 p.2)⟩
def g83 (a c : List Int) : Prop := p83.VC (cx [p82.ci, p105.ci] [(0, with2 0 1 A83)]) Tryz.f83 (a, c)
@[reducible] def A85 (a c : List Int) : Ann where
  τ := Nat
  pre := []
  preC := []
  keep := [0, 1, 5, 12, 13]
  slots k := [(6, .c (.int .u32 (-((valF 4294967296 (a.take k) - valF 4294967296 (c.take k)) / (4294967296 : Int) ^ k)))), (14, .c (.int .i64 k))]
  ents k := [(0, .row 118 (.int .u32) 1 (digs 4294967296 (valF 4294967296 (a.take k) - valF 4294967296 (c.take k)) k ++ List.replicate (a.length - k) 0))]
  ok k := k ≤ a.length
  m k := a.length - k
@[reducible] def p85 : PC := ⟨85, [aU, aU], [aU], fun p => (FigsF 4294967296 p.1 ∧ FigsF 4294967296 p.2) ∧ (p.1.length ≤ 100000 ∧ p.2.length ≤ p.1.length) ∧ valF 4294967296 p.2 ≤ valF 4294967296 p.1, fun p => lim 4294967296 (valF 4294967296 p.1 - valF 4294967296 p.2)⟩
def g85 (a c : List Int) : Prop := p85.VC (cx [p82.ci, p106.ci] [(0, fun _ => A85 a c)]) Tryz.f85 (a, c)
def mulS (a c : List Int) (i j : Nat) : Int := valF 4294967296 (a.take i) * valF 4294967296 c + a.getD i 0 * valF 4294967296 (c.take j) * (4294967296 : Int) ^ i
def mulP (a c : List Int) (i : Nat) : Int := valF 4294967296 (a.take i) * valF 4294967296 c
@[reducible] def A90o (a c : List Int) : Ann where
  τ := Nat
  pre := []
  preC := []
  keep := [0, 1, 5, 18, 19]
  slots k := [(20, .c (.int .i64 k))]
  ents k := [(0, .row 118 (.int .u32) 1 (digs 4294967296 (mulP a c k) (a.length + c.length)))]
  ok k := k ≤ a.length
  m k := a.length - k
@[reducible] def A90i (a c : List Int) (i : Nat) : Ann where
  τ := Nat
  pre := []
  preC := []
  keep := [0, 1, 5, 6, 7, 18, 19, 20, 25, 26]
  slots j := [(8, .c (.int .u64 (mulS a c i j / (4294967296 : Int) ^ (i + j) - mulP a c i / (4294967296 : Int) ^ (i + j)))), (27, .c (.int .i64 j))]
  ents j := [(0, .row 118 (.int .u32) 1 (digs 4294967296 (mulS a c i j) (i + j) ++ (digs 4294967296 (mulP a c i) (a.length + c.length)).drop (i + j)))]
  ok j := j ≤ c.length
  m j := c.length - j
@[reducible] def p90 : PC := ⟨90, [aU, aU], [aU], fun p => (FigsF 4294967296 p.1 ∧ FigsF 4294967296 p.2) ∧ p.1.length ≤ 100000 ∧ p.2.length ≤ 100000, fun p => lim 4294967296 (valF 4294967296 p.1 * valF 4294967296 p.2)⟩
def g90 (a c : List Int) : Prop := p90.VC (cx [p82.ci] [(0, fun _ => A90o a c), (1, withI 6 fun i => A90i a c i.toNat)]) Tryz.f90 (a, c)
@[reducible] def A91 (a : List Int) (w : Int) : Ann where
  τ := Nat
  pre := []
  preC := []
  keep := [0, 1, 6]
  slots k := [(7, .c (.int .u64 (valF 4294967296 (a.drop (a.length - k)) % w))), (8, .c (.int .i64 ((a.length : Int) - 1 - k)))]
  ents k := [(0, .row 118 (.int .u32) 1 (List.replicate (a.length - k) 0 ++ digs 4294967296 (valF 4294967296 (a.drop (a.length - k)) / w) k))]
  ok k := k ≤ a.length
  m k := a.length - k
@[reducible] def p91 : PC := ⟨91, [aU, aW], [aU, aW], fun p => FigsF 4294967296 p.1 ∧ p.1.length ≤ 100000 ∧ 1 ≤ p.2 ∧ p.2 < 4294967296, fun p => (lim 4294967296 (valF 4294967296 p.1 / p.2), valF 4294967296 p.1 % p.2)⟩
def g91 (a : List Int) (w : Int) : Prop := p91.VC (cx [p82.ci] [(0, fun _ => A91 a w)]) Tryz.f91 (a, w)
@[reducible] def A125 (a : List Int) (n : Int) : Ann where
  τ := Nat
  pre := []
  preC := []
  keep := [0, 1, 5, 11, 12]
  slots k := [(13, .c (.int .i64 k))]
  ents k := [(0, .row 118 (.int .u32) 1 (digs 4294967296 (valF 4294967296 a / 2 ^ n.toNat) k ++ List.replicate (a.length - k) 0))]
  ok k := k ≤ a.length
  m k := a.length - k
@[reducible] def p125 : PC := ⟨125, [aU, aI], [aU], fun p => FigsF 4294967296 p.1 ∧ p.1.length ≤ 100000 ∧ 0 ≤ p.2 ∧ p.2 < 32, fun p => lim 4294967296 (valF 4294967296 p.1 / 2 ^ p.2.toNat)⟩
def g125 (a : List Int) (n : Int) : Prop := p125.VC (cx [p82.ci] [(0, fun _ => A125 a n)]) Tryz.f125 (a, n)
end
end Go.SX.We.Nm

/- Printed by VC.lean: what the executor asks. -/
namespace Go.SX.We.Nm
open Go Go.Proofs IntKind List
theorem g82_eq (xs : List Int) : g82 xs = ((∃ (x0 : Nat), (x0 ≤ xs.length ∧ trimF (take (xs.length - x0) xs) = trimF xs) ∧ True ∧ xs = take (xs.length - x0) xs ∧ True) ∧ ∀ (x : Nat), x ≤ xs.length ∧ trimF (take (xs.length - x) xs) = trimF xs → (0 < (↑(take (xs.length - x) xs).length : Int) → 0 < (↑(take (xs.length - x) xs).length : Int) ∧ 0 < (↑(take (xs.length - x) xs).length : Int) ∧ Fits .i64 ((↑(take (xs.length - x) xs).length : Int) - 1) ∧ (0 ≤ (↑(take (xs.length - x) xs).length : Int) - 1 ∧ (↑(take (xs.length - x) xs).length : Int) - 1 < (↑(take (xs.length - x) xs).length : Int)) ∧ ((take (xs.length - x) xs).getD ((↑(take (xs.length - x) xs).length : Int) - 1).toNat (0 : Int) = 0 → (take (xs.length - x) xs).getD ((↑(take (xs.length - x) xs).length : Int) - 1).toNat (0 : Int) = 0 ∧ (take (xs.length - x) xs).getD ((↑(take (xs.length - x) xs).length : Int) - 1).toNat (0 : Int) = 0 ∧ Fits .i64 ((↑(take (xs.length - x) xs).length : Int) - 1) ∧ ((0 : Int) ≤ 0 ∧ (↑(0 : Nat) : Int) ≤ (↑(take (xs.length - x) xs).length : Int) - 1 ∧ (↑(take (xs.length - x) xs).length : Int) - 1 ≤ (↑(take (xs.length - x) xs).length : Int)) ∧ ∃ (x' : Nat), (x' ≤ xs.length ∧ trimF (take (xs.length - x') xs) = trimF xs) ∧ xs.length - x' < xs.length - x ∧ True ∧ drop (↑(0 : Nat) : Int).toNat (take ((↑(take (xs.length - x) xs).length : Int) - 1).toNat (take (xs.length - x) xs)) = take (xs.length - x') xs ∧ True) ∧ (¬(take (xs.length - x) xs).getD ((↑(take (xs.length - x) xs).length : Int) - 1).toNat (0 : Int) = 0 → ¬(take (xs.length - x) xs).getD ((↑(take (xs.length - x) xs).length : Int) - 1).toNat (0 : Int) = 0 ∧ ¬(take (xs.length - x) xs).getD ((↑(take (xs.length - x) xs).length : Int) - 1).toNat (0 : Int) = 0 ∧ take (xs.length - x) xs = trimF xs)) ∧ (¬0 < (↑(take (xs.length - x) xs).length : Int) → ¬0 < (↑(take (xs.length - x) xs).length : Int) ∧ ¬0 < (↑(take (xs.length - x) xs).length : Int) ∧ take (xs.length - x) xs = trimF xs)) := by kernel_rfl
theorem g84_eq (a : List Int) (c : List Int) : g84 a c = ((¬(a.length : Int) = (c.length : Int) → ¬(a.length : Int) = (c.length : Int) ∧ ((a.length : Int) < (c.length : Int) → (a.length : Int) < (c.length : Int) ∧ (-1) = cmpN a c) ∧ (¬(a.length : Int) < (c.length : Int) → ¬(a.length : Int) < (c.length : Int) ∧ 1 = cmpN a c)) ∧ (¬¬(a.length : Int) = (c.length : Int) → ¬¬(a.length : Int) = (c.length : Int) ∧ Fits .i64 ((a.length : Int) - 1) ∧ (∃ (x0 : Nat), (x0 ≤ a.length ∧ cmpD a c (a.length - x0) = cmpD a c a.length) ∧ True ∧ (a.length : Int) - 1 = (a.length : Int) - 1 - (x0 : Int) ∧ a = a ∧ c = c ∧ True) ∧ ∀ (x : Nat), x ≤ a.length ∧ cmpD a c (a.length - x) = cmpD a c a.length → (0 ≤ (a.length : Int) - 1 - (x : Int) → 0 ≤ (a.length : Int) - 1 - (x : Int) ∧ (0 ≤ (a.length : Int) - 1 - (x : Int) ∧ (a.length : Int) - 1 - (x : Int) < (a.length : Int)) ∧ (0 ≤ (a.length : Int) - 1 - (x : Int) ∧ (a.length : Int) - 1 - (x : Int) < (c.length : Int)) ∧ (¬a.getD ((a.length : Int) - 1 - (x : Int)).toNat 0 = c.getD ((a.length : Int) - 1 - (x : Int)).toNat 0 → ¬a.getD ((a.length : Int) - 1 - (x : Int)).toNat 0 = c.getD ((a.length : Int) - 1 - (x : Int)).toNat 0 ∧ (0 ≤ (a.length : Int) - 1 - (x : Int) ∧ (a.length : Int) - 1 - (x : Int) < (a.length : Int)) ∧ (0 ≤ (a.length : Int) - 1 - (x : Int) ∧ (a.length : Int) - 1 - (x : Int) < (c.length : Int)) ∧ (a.getD ((a.length : Int) - 1 - (x : Int)).toNat 0 < c.getD ((a.length : Int) - 1 - (x : Int)).toNat 0 → a.getD ((a.length : Int) - 1 - (x : Int)).toNat 0 < c.getD ((a.length : Int) - 1 - (x : Int)).toNat 0 ∧ (-1) = cmpN a c) ∧ (¬a.getD ((a.length : Int) - 1 - (x : Int)).toNat 0 < c.getD ((a.length : Int) - 1 - (x : Int)).toNat 0 → ¬a.getD ((a.length : Int) - 1 - (x : Int)).toNat 0 < c.getD ((a.length : Int) - 1 - (x : Int)).toNat 0 ∧ 1 = cmpN a c)) ∧ (¬¬a.getD ((a.length : Int) - 1 - (x : Int)).toNat 0 = c.getD ((a.length : Int) - 1 - (x : Int)).toNat 0 → ¬¬a.getD ((a.length : Int) - 1 - (x : Int)).toNat 0 = c.getD ((a.length : Int) - 1 - (x : Int)).toNat 0 ∧ Fits .i64 ((a.length : Int) - 1 - (x : Int) - 1) ∧ ∃ (x' : Nat), (x' ≤ a.length ∧ cmpD a c (a.length - x') = cmpD a c a.length) ∧ a.length - x' < a.length - x ∧ True ∧ (a.length : Int) - 1 - (x : Int) - 1 = (a.length : Int) - 1 - (x' : Int) ∧ a = a ∧ c = c ∧ True)) ∧ (¬0 ≤ (a.length : Int) - 1 - (x : Int) → ¬0 ≤ (a.length : Int) - 1 - (x : Int) ∧ 0 = cmpN a c))) := by kernel_rfl
theorem g105_eq (x : Int) (y : Int) (c : Int) : g105 x y c = (((0 : Int) ≤ 32 ∧ (32 : Int) < 64) ∧ (u32.wrap (u64.wrap (u64.wrap (u64.wrap x + u64.wrap y) + u64.wrap c)), u32.wrap (u64.wrap (u64.wrap (u64.wrap x + u64.wrap y) + u64.wrap c) / 2 ^ Int.toNat 32)) = ((x + y + c) % 4294967296, (x + y + c) / 4294967296)) := by kernel_rfl
theorem g106_eq (x : Int) (y : Int) (c : Int) : g106 x y c = (((0 : Int) ≤ 31 ∧ (31 : Int) < 32) ∧ (u32.wrap (u32.wrap (x - y) - c), bitsF .or .u32 (bitsF .and .u32 (bitsF .xor .u32 (if IntKind.u32.signed = true then (-1) else IntKind.u32.max) x) y) (bitsF .and .u32 (bitsF .xor .u32 (if IntKind.u32.signed = true then (-1) else IntKind.u32.max) (bitsF .xor .u32 x y)) (u32.wrap (u32.wrap (x - y) - c))) / 2 ^ Int.toNat 31) = ((x - y - c) % 4294967296, -((x - y - c) / 4294967296))) := by kernel_rfl
theorem g83_eq (a : List Int) (c : List Int) : g83 a c = (((a.length : Int) < (c.length : Int) → (a.length : Int) < (c.length : Int) ∧ Fits .i64 ((c.length : Int) + 1) ∧ (0 ≤ (c.length : Int) + 1 ∧ (c.length : Int) + 1 ≤ (c.length : Int) + 1 ∧ Small ((c.length : Int) + 1).toNat) ∧ (∃ (x0 : Nat), x0 ≤ c.length ∧ (replicate ((c.length : Int) + 1).toNat 0 = dQ (vQ (take x0 c) + vQ (take x0 a)) x0 ++ replicate (c.length + 1 - x0) 0 ∧ True) ∧ c = c ∧ a = a ∧ 0 = (vQ (take x0 c) + vQ (take x0 a)) / 4294967296 ^ x0 ∧ 0 = (x0 : Int) ∧ (c.length : Int) = (c.length : Int) ∧ c = c ∧ True ∧ True) ∧ ∀ (x : Nat), x ≤ c.length → ((x : Int) < (c.length : Int) → (x : Int) < (c.length : Int) ∧ ((x : Int) < (a.length : Int) → (x : Int) < (a.length : Int) ∧ (0 ≤ (x : Int) ∧ (x : Int) < (a.length : Int)) ∧ (0 ≤ (x : Int) ∧ (x : Int) < (c.length : Int)) ∧ ((0 ≤ c.getD (x : Int).toNat 0 ∧ c.getD (x : Int).toNat (0 : Int) < 4294967296) ∧ (0 ≤ a.getD (x : Int).toNat 0 ∧ a.getD (x : Int).toNat (0 : Int) < 4294967296) ∧ 0 ≤ (vQ (take x c) + vQ (take x a)) / 4294967296 ^ x ∧ (vQ (take x c) + vQ (take x a)) / 4294967296 ^ x ≤ 1) ∧ (0 ≤ (x : Int) ∧ (x : Int) < (↑(dQ (vQ (take x c) + vQ (take x a)) x ++ replicate (c.length + 1 - x) 0).length : Int)) ∧ Fits .i64 ((x : Int) + 1) ∧ ∃ (x' : Nat), x' ≤ c.length ∧ c.length - x' < c.length - x ∧ ((dQ (vQ (take x c) + vQ (take x a)) x ++ replicate (c.length + 1 - x) 0).set (x : Int).toNat ((c.getD (x : Int).toNat 0 + a.getD (x : Int).toNat 0 + (vQ (take x c) + vQ (take x a)) / 4294967296 ^ x) % 4294967296) = dQ (vQ (take x' c) + vQ (take x' a)) x' ++ replicate (c.length + 1 - x') 0 ∧ True) ∧ c = c ∧ a = a ∧ (c.getD (x : Int).toNat 0 + a.getD (x : Int).toNat 0 + (vQ (take x c) + vQ (take x a)) / 4294967296 ^ x) / 4294967296 = (vQ (take x' c) + vQ (take x' a)) / 4294967296 ^ x' ∧ (x : Int) + 1 = (x' : Int) ∧ (c.length : Int) = (c.length : Int) ∧ c = c ∧ True ∧ True) ∧ (¬(x : Int) < (a.length : Int) → ¬(x : Int) < (a.length : Int) ∧ (0 ≤ (x : Int) ∧ (x : Int) < (c.length : Int)) ∧ ((0 ≤ c.getD (x : Int).toNat 0 ∧ c.getD (x : Int).toNat (0 : Int) < 4294967296) ∧ ((0 : Int) ≤ 0 ∧ (0 : Int) < 4294967296) ∧ 0 ≤ (vQ (take x c) + vQ (take x a)) / 4294967296 ^ x ∧ (vQ (take x c) + vQ (take x a)) / 4294967296 ^ x ≤ 1) ∧ (0 ≤ (x : Int) ∧ (x : Int) < (↑(dQ (vQ (take x c) + vQ (take x a)) x ++ replicate (c.length + 1 - x) 0).length : Int)) ∧ Fits .i64 ((x : Int) + 1) ∧ ∃ (x' : Nat), x' ≤ c.length ∧ c.length - x' < c.length - x ∧ ((dQ (vQ (take x c) + vQ (take x a)) x ++ replicate (c.length + 1 - x) 0).set (x : Int).toNat ((c.getD (x : Int).toNat 0 + 0 + (vQ (take x c) + vQ (take x a)) / 4294967296 ^ x) % 4294967296) = dQ (vQ (take x' c) + vQ (take x' a)) x' ++ replicate (c.length + 1 - x') 0 ∧ True) ∧ c = c ∧ a = a ∧ (c.getD (x : Int).toNat 0 + 0 + (vQ (take x c) + vQ (take x a)) / 4294967296 ^ x) / 4294967296 = (vQ (take x' c) + vQ (take x' a)) / 4294967296 ^ x' ∧ (x : Int) + 1 = (x' : Int) ∧ (c.length : Int) = (c.length : Int) ∧ c = c ∧ True ∧ True)) ∧ (¬(x : Int) < (c.length : Int) → ¬(x : Int) < (c.length : Int) ∧ (0 ≤ (c.length : Int) ∧ (c.length : Int) < (↑(dQ (vQ (take x c) + vQ (take x a)) x ++ replicate (c.length + 1 - x) 0).length : Int)) ∧ ((dQ (vQ (take x c) + vQ (take x a)) x ++ replicate (c.length + 1 - x) 0).set (c.length : Int).toNat ((vQ (take x c) + vQ (take x a)) / 4294967296 ^ x)).length ≤ (1000000 : Nat) ∧ trimF ((dQ (vQ (take x c) + vQ (take x a)) x ++ replicate (c.length + 1 - x) 0).set (c.length : Int).toNat ((vQ (take x c) + vQ (take x a)) / 4294967296 ^ x)) = lQ (vQ a + vQ c))) ∧ (¬(a.length : Int) < (c.length : Int) → ¬(a.length : Int) < (c.length : Int) ∧ Fits .i64 ((a.length : Int) + 1) ∧ (0 ≤ (a.length : Int) + 1 ∧ (a.length : Int) + 1 ≤ (a.length : Int) + 1 ∧ Small ((a.length : Int) + 1).toNat) ∧ (∃ (x0 : Nat), x0 ≤ a.length ∧ (replicate ((a.length : Int) + 1).toNat 0 = dQ (vQ (take x0 a) + vQ (take x0 c)) x0 ++ replicate (a.length + 1 - x0) 0 ∧ True) ∧ a = a ∧ c = c ∧ 0 = (vQ (take x0 a) + vQ (take x0 c)) / 4294967296 ^ x0 ∧ 0 = (x0 : Int) ∧ (a.length : Int) = (a.length : Int) ∧ a = a ∧ True ∧ True) ∧ ∀ (x : Nat), x ≤ a.length → ((x : Int) < (a.length : Int) → (x : Int) < (a.length : Int) ∧ ((x : Int) < (c.length : Int) → (x : Int) < (c.length : Int) ∧ (0 ≤ (x : Int) ∧ (x : Int) < (c.length : Int)) ∧ (0 ≤ (x : Int) ∧ (x : Int) < (a.length : Int)) ∧ ((0 ≤ a.getD (x : Int).toNat 0 ∧ a.getD (x : Int).toNat (0 : Int) < 4294967296) ∧ (0 ≤ c.getD (x : Int).toNat 0 ∧ c.getD (x : Int).toNat (0 : Int) < 4294967296) ∧ 0 ≤ (vQ (take x a) + vQ (take x c)) / 4294967296 ^ x ∧ (vQ (take x a) + vQ (take x c)) / 4294967296 ^ x ≤ 1) ∧ (0 ≤ (x : Int) ∧ (x : Int) < (↑(dQ (vQ (take x a) + vQ (take x c)) x ++ replicate (a.length + 1 - x) 0).length : Int)) ∧ Fits .i64 ((x : Int) + 1) ∧ ∃ (x' : Nat), x' ≤ a.length ∧ a.length - x' < a.length - x ∧ ((dQ (vQ (take x a) + vQ (take x c)) x ++ replicate (a.length + 1 - x) 0).set (x : Int).toNat ((a.getD (x : Int).toNat 0 + c.getD (x : Int).toNat 0 + (vQ (take x a) + vQ (take x c)) / 4294967296 ^ x) % 4294967296) = dQ (vQ (take x' a) + vQ (take x' c)) x' ++ replicate (a.length + 1 - x') 0 ∧ True) ∧ a = a ∧ c = c ∧ (a.getD (x : Int).toNat 0 + c.getD (x : Int).toNat 0 + (vQ (take x a) + vQ (take x c)) / 4294967296 ^ x) / 4294967296 = (vQ (take x' a) + vQ (take x' c)) / 4294967296 ^ x' ∧ (x : Int) + 1 = (x' : Int) ∧ (a.length : Int) = (a.length : Int) ∧ a = a ∧ True ∧ True) ∧ (¬(x : Int) < (c.length : Int) → ¬(x : Int) < (c.length : Int) ∧ (0 ≤ (x : Int) ∧ (x : Int) < (a.length : Int)) ∧ ((0 ≤ a.getD (x : Int).toNat 0 ∧ a.getD (x : Int).toNat (0 : Int) < 4294967296) ∧ ((0 : Int) ≤ 0 ∧ (0 : Int) < 4294967296) ∧ 0 ≤ (vQ (take x a) + vQ (take x c)) / 4294967296 ^ x ∧ (vQ (take x a) + vQ (take x c)) / 4294967296 ^ x ≤ 1) ∧ (0 ≤ (x : Int) ∧ (x : Int) < (↑(dQ (vQ (take x a) + vQ (take x c)) x ++ replicate (a.length + 1 - x) 0).length : Int)) ∧ Fits .i64 ((x : Int) + 1) ∧ ∃ (x' : Nat), x' ≤ a.length ∧ a.length - x' < a.length - x ∧ ((dQ (vQ (take x a) + vQ (take x c)) x ++ replicate (a.length + 1 - x) 0).set (x : Int).toNat ((a.getD (x : Int).toNat 0 + 0 + (vQ (take x a) + vQ (take x c)) / 4294967296 ^ x) % 4294967296) = dQ (vQ (take x' a) + vQ (take x' c)) x' ++ replicate (a.length + 1 - x') 0 ∧ True) ∧ a = a ∧ c = c ∧ (a.getD (x : Int).toNat 0 + 0 + (vQ (take x a) + vQ (take x c)) / 4294967296 ^ x) / 4294967296 = (vQ (take x' a) + vQ (take x' c)) / 4294967296 ^ x' ∧ (x : Int) + 1 = (x' : Int) ∧ (a.length : Int) = (a.length : Int) ∧ a = a ∧ True ∧ True)) ∧ (¬(x : Int) < (a.length : Int) → ¬(x : Int) < (a.length : Int) ∧ (0 ≤ (a.length : Int) ∧ (a.length : Int) < (↑(dQ (vQ (take x a) + vQ (take x c)) x ++ replicate (a.length + 1 - x) 0).length : Int)) ∧ ((dQ (vQ (take x a) + vQ (take x c)) x ++ replicate (a.length + 1 - x) 0).set (a.length : Int).toNat ((vQ (take x a) + vQ (take x c)) / 4294967296 ^ x)).length ≤ (1000000 : Nat) ∧ trimF ((dQ (vQ (take x a) + vQ (take x c)) x ++ replicate (a.length + 1 - x) 0).set (a.length : Int).toNat ((vQ (take x a) + vQ (take x c)) / 4294967296 ^ x)) = lQ (vQ a + vQ c)))) := by kernel_rfl
theorem g85_eq (a : List Int) (c : List Int) : g85 a c = ((0 ≤ (a.length : Int) ∧ (a.length : Int) ≤ (a.length : Int) ∧ Small (a.length : Int).toNat) ∧ (∃ (x0 : Nat), x0 ≤ a.length ∧ (replicate (a.length : Int).toNat 0 = dQ (vQ (take x0 a) - vQ (take x0 c)) x0 ++ replicate (a.length - x0) 0 ∧ True) ∧ 0 = -((vQ (take x0 a) - vQ (take x0 c)) / 4294967296 ^ x0) ∧ 0 = (x0 : Int) ∧ (a.length : Int) = (a.length : Int) ∧ a = a ∧ True ∧ a = a ∧ c = c ∧ True) ∧ ∀ (x : Nat), x ≤ a.length → ((x : Int) < (a.length : Int) → (x : Int) < (a.length : Int) ∧ ((x : Int) < (c.length : Int) → (x : Int) < (c.length : Int) ∧ (0 ≤ (x : Int) ∧ (x : Int) < (c.length : Int)) ∧ (0 ≤ (x : Int) ∧ (x : Int) < (a.length : Int)) ∧ ((0 ≤ a.getD (x : Int).toNat 0 ∧ a.getD (x : Int).toNat (0 : Int) < 4294967296) ∧ (0 ≤ c.getD (x : Int).toNat 0 ∧ c.getD (x : Int).toNat (0 : Int) < 4294967296) ∧ 0 ≤ -((vQ (take x a) - vQ (take x c)) / 4294967296 ^ x) ∧ -((vQ (take x a) - vQ (take x c)) / 4294967296 ^ x) ≤ 1) ∧ (0 ≤ (x : Int) ∧ (x : Int) < (↑(dQ (vQ (take x a) - vQ (take x c)) x ++ replicate (a.length - x) 0).length : Int)) ∧ Fits .i64 ((x : Int) + 1) ∧ ∃ (x' : Nat), x' ≤ a.length ∧ a.length - x' < a.length - x ∧ ((dQ (vQ (take x a) - vQ (take x c)) x ++ replicate (a.length - x) 0).set (x : Int).toNat ((a.getD (x : Int).toNat 0 - c.getD (x : Int).toNat 0 - -((vQ (take x a) - vQ (take x c)) / 4294967296 ^ x)) % 4294967296) = dQ (vQ (take x' a) - vQ (take x' c)) x' ++ replicate (a.length - x') 0 ∧ True) ∧ -((a.getD (x : Int).toNat 0 - c.getD (x : Int).toNat 0 - -((vQ (take x a) - vQ (take x c)) / 4294967296 ^ x)) / 4294967296) = -((vQ (take x' a) - vQ (take x' c)) / 4294967296 ^ x') ∧ (x : Int) + 1 = (x' : Int) ∧ (a.length : Int) = (a.length : Int) ∧ a = a ∧ True ∧ a = a ∧ c = c ∧ True) ∧ (¬(x : Int) < (c.length : Int) → ¬(x : Int) < (c.length : Int) ∧ (0 ≤ (x : Int) ∧ (x : Int) < (a.length : Int)) ∧ ((0 ≤ a.getD (x : Int).toNat 0 ∧ a.getD (x : Int).toNat (0 : Int) < 4294967296) ∧ ((0 : Int) ≤ 0 ∧ (0 : Int) < 4294967296) ∧ 0 ≤ -((vQ (take x a) - vQ (take x c)) / 4294967296 ^ x) ∧ -((vQ (take x a) - vQ (take x c)) / 4294967296 ^ x) ≤ 1) ∧ (0 ≤ (x : Int) ∧ (x : Int) < (↑(dQ (vQ (take x a) - vQ (take x c)) x ++ replicate (a.length - x) 0).length : Int)) ∧ Fits .i64 ((x : Int) + 1) ∧ ∃ (x' : Nat), x' ≤ a.length ∧ a.length - x' < a.length - x ∧ ((dQ (vQ (take x a) - vQ (take x c)) x ++ replicate (a.length - x) 0).set (x : Int).toNat ((a.getD (x : Int).toNat 0 - 0 - -((vQ (take x a) - vQ (take x c)) / 4294967296 ^ x)) % 4294967296) = dQ (vQ (take x' a) - vQ (take x' c)) x' ++ replicate (a.length - x') 0 ∧ True) ∧ -((a.getD (x : Int).toNat 0 - 0 - -((vQ (take x a) - vQ (take x c)) / 4294967296 ^ x)) / 4294967296) = -((vQ (take x' a) - vQ (take x' c)) / 4294967296 ^ x') ∧ (x : Int) + 1 = (x' : Int) ∧ (a.length : Int) = (a.length : Int) ∧ a = a ∧ True ∧ a = a ∧ c = c ∧ True)) ∧ (¬(x : Int) < (a.length : Int) → ¬(x : Int) < (a.length : Int) ∧ (dQ (vQ (take x a) - vQ (take x c)) x ++ replicate (a.length - x) 0).length ≤ (1000000 : Nat) ∧ trimF (dQ (vQ (take x a) - vQ (take x c)) x ++ replicate (a.length - x) 0) = lQ (vQ a - vQ c))) := by kernel_rfl
theorem g90_eq (a : List Int) (c : List Int) : g90 a c = (Fits .i64 ((a.length : Int) + (c.length : Int)) ∧ (0 ≤ (a.length : Int) + (c.length : Int) ∧ (a.length : Int) + (c.length : Int) ≤ (a.length : Int) + (c.length : Int) ∧ Small ((a.length : Int) + (c.length : Int)).toNat) ∧ (∃ (x0 : Nat), x0 ≤ a.length ∧ (replicate ((a.length : Int) + (c.length : Int)).toNat 0 = dQ (mulP a c x0) (a.length + c.length) ∧ True) ∧ 0 = (x0 : Int) ∧ (a.length : Int) = (a.length : Int) ∧ a = a ∧ True ∧ a = a ∧ c = c ∧ True) ∧ ∀ (x : Nat), x ≤ a.length → ((x : Int) < (a.length : Int) → (x : Int) < (a.length : Int) ∧ (0 ≤ (x : Int) ∧ (x : Int) < (a.length : Int)) ∧ (∃ (x0 : Nat), x0 ≤ c.length ∧ (dQ (mulP a c x) (a.length + c.length) = dQ (mulS a c (x : Int).toNat x0) ((x : Int).toNat + x0) ++ drop ((x : Int).toNat + x0) (dQ (mulP a c (x : Int).toNat) (a.length + c.length)) ∧ True) ∧ 0 = mulS a c (x : Int).toNat x0 / 4294967296 ^ ((x : Int).toNat + x0) - mulP a c (x : Int).toNat / 4294967296 ^ ((x : Int).toNat + x0) ∧ 0 = (x0 : Int) ∧ (c.length : Int) = (c.length : Int) ∧ c = c ∧ a.getD (x : Int).toNat 0 = a.getD (x : Int).toNat 0 ∧ (x : Int) = (x : Int) ∧ (x : Int) = (x : Int) ∧ (a.length : Int) = (a.length : Int) ∧ a = a ∧ True ∧ a = a ∧ c = c ∧ True) ∧ ∀ (x_1 : Nat), x_1 ≤ c.length → ((x_1 : Int) < (c.length : Int) → (x_1 : Int) < (c.length : Int) ∧ (0 ≤ (x_1 : Int) ∧ (x_1 : Int) < (c.length : Int)) ∧ Fits .i64 ((x : Int) + (x_1 : Int)) ∧ (0 ≤ (x : Int) + (x_1 : Int) ∧ (x : Int) + (x_1 : Int) < (↑(dQ (mulS a c (x : Int).toNat x_1) ((x : Int).toNat + x_1) ++ drop ((x : Int).toNat + x_1) (dQ (mulP a c (x : Int).toNat) (a.length + c.length))).length : Int)) ∧ Fits .i64 ((x : Int) + (x_1 : Int)) ∧ ((0 : Int) ≤ 32 ∧ (32 : Int) < 64) ∧ (0 ≤ (x : Int) + (x_1 : Int) ∧ (x : Int) + (x_1 : Int) < (↑(dQ (mulS a c (x : Int).toNat x_1) ((x : Int).toNat + x_1) ++ drop ((x : Int).toNat + x_1) (dQ (mulP a c (x : Int).toNat) (a.length + c.length))).length : Int)) ∧ Fits .i64 ((x_1 : Int) + 1) ∧ ∃ (x' : Nat), x' ≤ c.length ∧ c.length - x' < c.length - x_1 ∧ ((dQ (mulS a c (x : Int).toNat x_1) ((x : Int).toNat + x_1) ++ drop ((x : Int).toNat + x_1) (dQ (mulP a c (x : Int).toNat) (a.length + c.length))).set ((x : Int) + (x_1 : Int)).toNat (u32.wrap (u64.wrap (u64.wrap (u64.wrap (u64.wrap (a.getD (x : Int).toNat 0) * u64.wrap (c.getD (x_1 : Int).toNat 0)) + u64.wrap ((dQ (mulS a c (x : Int).toNat x_1) ((x : Int).toNat + x_1) ++ drop ((x : Int).toNat + x_1) (dQ (mulP a c (x : Int).toNat) (a.length + c.length))).getD ((x : Int) + (x_1 : Int)).toNat 0)) + (mulS a c (x : Int).toNat x_1 / 4294967296 ^ ((x : Int).toNat + x_1) - mulP a c (x : Int).toNat / 4294967296 ^ ((x : Int).toNat + x_1))))) = dQ (mulS a c (x : Int).toNat x') ((x : Int).toNat + x') ++ drop ((x : Int).toNat + x') (dQ (mulP a c (x : Int).toNat) (a.length + c.length)) ∧ True) ∧ u64.wrap (u64.wrap (u64.wrap (u64.wrap (a.getD (x : Int).toNat 0) * u64.wrap (c.getD (x_1 : Int).toNat 0)) + u64.wrap ((dQ (mulS a c (x : Int).toNat x_1) ((x : Int).toNat + x_1) ++ drop ((x : Int).toNat + x_1) (dQ (mulP a c (x : Int).toNat) (a.length + c.length))).getD ((x : Int) + (x_1 : Int)).toNat 0)) + (mulS a c (x : Int).toNat x_1 / 4294967296 ^ ((x : Int).toNat + x_1) - mulP a c (x : Int).toNat / 4294967296 ^ ((x : Int).toNat + x_1))) / 2 ^ Int.toNat 32 = mulS a c (x : Int).toNat x' / 4294967296 ^ ((x : Int).toNat + x') - mulP a c (x : Int).toNat / 4294967296 ^ ((x : Int).toNat + x') ∧ (x_1 : Int) + 1 = (x' : Int) ∧ (c.length : Int) = (c.length : Int) ∧ c = c ∧ a.getD (x : Int).toNat 0 = a.getD (x : Int).toNat 0 ∧ (x : Int) = (x : Int) ∧ (x : Int) = (x : Int) ∧ (a.length : Int) = (a.length : Int) ∧ a = a ∧ True ∧ a = a ∧ c = c ∧ True) ∧ (¬(x_1 : Int) < (c.length : Int) → ¬(x_1 : Int) < (c.length : Int) ∧ Fits .i64 ((x : Int) + (c.length : Int)) ∧ (0 ≤ (x : Int) + (c.length : Int) ∧ (x : Int) + (c.length : Int) < (↑(dQ (mulS a c (x : Int).toNat x_1) ((x : Int).toNat + x_1) ++ drop ((x : Int).toNat + x_1) (dQ (mulP a c (x : Int).toNat) (a.length + c.length))).length : Int)) ∧ Fits .i64 ((x : Int) + 1) ∧ ∃ (x' : Nat), x' ≤ a.length ∧ a.length - x' < a.length - x ∧ ((dQ (mulS a c (x : Int).toNat x_1) ((x : Int).toNat + x_1) ++ drop ((x : Int).toNat + x_1) (dQ (mulP a c (x : Int).toNat) (a.length + c.length))).set ((x : Int) + (c.length : Int)).toNat (u32.wrap (mulS a c (x : Int).toNat x_1 / 4294967296 ^ ((x : Int).toNat + x_1) - mulP a c (x : Int).toNat / 4294967296 ^ ((x : Int).toNat + x_1))) = dQ (mulP a c x') (a.length + c.length) ∧ True) ∧ (x : Int) + 1 = (x' : Int) ∧ (a.length : Int) = (a.length : Int) ∧ a = a ∧ True ∧ a = a ∧ c = c ∧ True)) ∧ (¬(x : Int) < (a.length : Int) → ¬(x : Int) < (a.length : Int) ∧ (dQ (mulP a c x) (a.length + c.length)).length ≤ 1000000 ∧ trimF (dQ (mulP a c x) (a.length + c.length)) = lQ (vQ a * vQ c))) := by kernel_rfl
theorem g91_eq (a : List Int) (w : Int) : g91 a w = ((0 ≤ (a.length : Int) ∧ (a.length : Int) ≤ (a.length : Int) ∧ Small (a.length : Int).toNat) ∧ Fits .i64 ((a.length : Int) - 1) ∧ (∃ (x0 : Nat), x0 ≤ a.length ∧ (replicate (a.length : Int).toNat 0 = replicate (a.length - x0) 0 ++ dQ (vQ (drop (a.length - x0) a) / w) x0 ∧ True) ∧ 0 = vQ (drop (a.length - x0) a) % w ∧ (a.length : Int) - 1 = (a.length : Int) - 1 - (x0 : Int) ∧ True ∧ a = a ∧ w = w ∧ True) ∧ ∀ (x : Nat), x ≤ a.length → (0 ≤ (a.length : Int) - 1 - (x : Int) → 0 ≤ (a.length : Int) - 1 - (x : Int) ∧ ((0 : Int) ≤ 32 ∧ (32 : Int) < 64) ∧ (0 ≤ (a.length : Int) - 1 - (x : Int) ∧ (a.length : Int) - 1 - (x : Int) < (a.length : Int)) ∧ (0 ≤ bitsF .or .u64 (u64.wrap (vQ (drop (a.length - x) a) % w * 2 ^ Int.toNat 32)) (u64.wrap (a.getD ((a.length : Int) - 1 - (x : Int)).toNat 0)) ∧ 0 < u64.wrap w) ∧ (0 ≤ (a.length : Int) - 1 - (x : Int) ∧ (a.length : Int) - 1 - (x : Int) < (↑(replicate (a.length - x) 0 ++ dQ (vQ (drop (a.length - x) a) / w) x).length : Int)) ∧ ((0 ≤ bitsF .or .u64 (u64.wrap (vQ (drop (a.length - x) a) % w * 2 ^ Int.toNat 32)) (u64.wrap (a.getD ((a.length : Int) - 1 - (x : Int)).toNat 0)) ∧ 0 < u64.wrap w) ∧ Fits .i64 ((a.length : Int) - 1 - (x : Int) - 1) ∧ ∃ (x' : Nat), x' ≤ a.length ∧ a.length - x' < a.length - x ∧ ((replicate (a.length - x) 0 ++ dQ (vQ (drop (a.length - x) a) / w) x).set ((a.length : Int) - 1 - (x : Int)).toNat (u32.wrap (u64.wrap (bitsF .or .u64 (u64.wrap (vQ (drop (a.length - x) a) % w * 2 ^ Int.toNat 32)) (u64.wrap (a.getD ((a.length : Int) - 1 - (x : Int)).toNat 0)) / u64.wrap w))) = replicate (a.length - x') 0 ++ dQ (vQ (drop (a.length - x') a) / w) x' ∧ True) ∧ bitsF .or .u64 (u64.wrap (vQ (drop (a.length - x) a) % w * 2 ^ Int.toNat 32)) (u64.wrap (a.getD ((a.length : Int) - 1 - (x : Int)).toNat 0)) % u64.wrap w = vQ (drop (a.length - x') a) % w ∧ (a.length : Int) - 1 - (x : Int) - 1 = (a.length : Int) - 1 - (x' : Int) ∧ True ∧ a = a ∧ w = w ∧ True) ∧ (0 ≤ bitsF .or .u64 (u64.wrap (vQ (drop (a.length - x) a) % w * 2 ^ Int.toNat 32)) (u64.wrap (a.getD ((a.length : Int) - 1 - (x : Int)).toNat 0)) ∧ 0 < u64.wrap w) ∧ Fits .i64 ((a.length : Int) - 1 - (x : Int) - 1) ∧ ∃ (x' : Nat), x' ≤ a.length ∧ a.length - x' < a.length - x ∧ ((replicate (a.length - x) 0 ++ dQ (vQ (drop (a.length - x) a) / w) x).set ((a.length : Int) - 1 - (x : Int)).toNat (u32.wrap (u64.wrap (bitsF .or .u64 (u64.wrap (vQ (drop (a.length - x) a) % w * 2 ^ Int.toNat 32)) (u64.wrap (a.getD ((a.length : Int) - 1 - (x : Int)).toNat 0)) / u64.wrap w))) = replicate (a.length - x') 0 ++ dQ (vQ (drop (a.length - x') a) / w) x' ∧ True) ∧ bitsF .or .u64 (u64.wrap (vQ (drop (a.length - x) a) % w * 2 ^ Int.toNat 32)) (u64.wrap (a.getD ((a.length : Int) - 1 - (x : Int)).toNat 0)) % u64.wrap w = vQ (drop (a.length - x') a) % w ∧ (a.length : Int) - 1 - (x : Int) - 1 = (a.length : Int) - 1 - (x' : Int) ∧ True ∧ a = a ∧ w = w ∧ True) ∧ (¬0 ≤ (a.length : Int) - 1 - (x : Int) → ¬0 ≤ (a.length : Int) - 1 - (x : Int) ∧ (replicate (a.length - x) 0 ++ dQ (vQ (drop (a.length - x) a) / w) x).length ≤ 1000000 ∧ (trimF (replicate (a.length - x) 0 ++ dQ (vQ (drop (a.length - x) a) / w) x), u32.wrap (vQ (drop (a.length - x) a) % w)) = (lQ (vQ a / w), vQ a % w))) := by kernel_rfl
theorem g125_eq (a : List Int) (n : Int) : g125 a n = ((0 ≤ (a.length : Int) ∧ (a.length : Int) ≤ (a.length : Int) ∧ Small (a.length : Int).toNat) ∧ (∃ (x0 : Nat), x0 ≤ a.length ∧ (replicate (a.length : Int).toNat 0 = dQ (vQ a / 2 ^ n.toNat) x0 ++ replicate (a.length - x0) 0 ∧ True) ∧ 0 = (x0 : Int) ∧ (a.length : Int) = (a.length : Int) ∧ a = a ∧ True ∧ a = a ∧ n = n ∧ True) ∧ ∀ (x : Nat), x ≤ a.length → ((x : Int) < (a.length : Int) → (x : Int) < (a.length : Int) ∧ (0 ≤ (x : Int) ∧ (x : Int) < (a.length : Int)) ∧ Fits .i64 ((x : Int) + 1) ∧ ((x : Int) + 1 < (a.length : Int) → (x : Int) + 1 < (a.length : Int) ∧ Fits .i64 ((x : Int) + 1) ∧ (0 ≤ (x : Int) + 1 ∧ (x : Int) + 1 < (a.length : Int)) ∧ ((0 : Int) ≤ 32 ∧ (32 : Int) < 64) ∧ (0 ≤ n ∧ n < 64) ∧ (0 ≤ (x : Int) ∧ (x : Int) < (↑(dQ (vQ a / 2 ^ n.toNat) x ++ replicate (a.length - x) 0).length : Int)) ∧ Fits .i64 ((x : Int) + 1) ∧ ∃ (x' : Nat), x' ≤ a.length ∧ a.length - x' < a.length - x ∧ ((dQ (vQ a / 2 ^ n.toNat) x ++ replicate (a.length - x) 0).set (x : Int).toNat (u32.wrap (bitsF .or .u64 (u64.wrap (a.getD (x : Int).toNat 0)) (u64.wrap (u64.wrap (a.getD ((x : Int) + 1).toNat 0) * 2 ^ Int.toNat 32)) / 2 ^ n.toNat)) = dQ (vQ a / 2 ^ n.toNat) x' ++ replicate (a.length - x') 0 ∧ True) ∧ (x : Int) + 1 = (x' : Int) ∧ (a.length : Int) = (a.length : Int) ∧ a = a ∧ True ∧ a = a ∧ n = n ∧ True) ∧ (¬(x : Int) + 1 < (a.length : Int) → ¬(x : Int) + 1 < (a.length : Int) ∧ (0 ≤ n ∧ n < 64) ∧ (0 ≤ (x : Int) ∧ (x : Int) < (↑(dQ (vQ a / 2 ^ n.toNat) x ++ replicate (a.length - x) 0).length : Int)) ∧ Fits .i64 ((x : Int) + 1) ∧ ∃ (x' : Nat), x' ≤ a.length ∧ a.length - x' < a.length - x ∧ ((dQ (vQ a / 2 ^ n.toNat) x ++ replicate (a.length - x) 0).set (x : Int).toNat (u32.wrap (u64.wrap (a.getD (x : Int).toNat 0) / 2 ^ n.toNat)) = dQ (vQ a / 2 ^ n.toNat) x' ++ replicate (a.length - x') 0 ∧ True) ∧ (x : Int) + 1 = (x' : Int) ∧ (a.length : Int) = (a.length : Int) ∧ a = a ∧ True ∧ a = a ∧ n = n ∧ True)) ∧ (¬(x : Int) < (a.length : Int) → ¬(x : Int) < (a.length : Int) ∧ (dQ (vQ a / 2 ^ n.toNat) x ++ replicate (a.length - x) 0).length ≤ 1000000 ∧ trimF (dQ (vQ a / 2 ^ n.toNat) x ++ replicate (a.length - x) 0) = lQ (vQ a / 2 ^ n.toNat))) := by kernel_rfl
end Go.SX.We.Nm

/- Chapter 08: num's functions on sizes, proved. -/
namespace Go.SX.We.Nm
open Go Go.Proofs
theorem fj {n : Int} (h1 : -1000000000000000 ≤ n) (h2 : n ≤ 1000000000000000) : Fits .i64 n := fits_i64 (by omega) (by omega)
theorem cx0z {an : List (Nat × (St → Ann))} : CtxOK Tryz.prog (cx [] an) := cx_ok (cs := []) trivial an
theorem sm {n : Nat} (h : n ≤ 1000000000) : Small n := h
theorem e32 : (2 : Int) ^ Int.toNat 32 = 4294967296 := by decide
theorem bw0 : (0 : Int) < 4294967296 := by decide
theorem bw2 : (2 : Int) ≤ 4294967296 := by decide
theorem ok82 : p82.OK Tryz.prog := p82.ok (fn := Tryz.f82) (fun xs => cx [] [(0, fun _ => A82 xs)]) (fun _ => cx0z) (by kernel_rfl) (by kernel_rfl) (by kernel_rfl) fun xs hl => by
  have hl : xs.length ≤ 1000000 := hl
  refine (g82_eq xs).mpr ?_
  simp only [pp1, vQ, dQ, lQ, eq_self, and_true, true_and, List.length_take]
  refine ⟨⟨0, ⟨by omega, by simp⟩, by simp⟩, fun x hx => ⟨fun h1 => ⟨fj (by omega) (by omega), by omega, fun h2 => ⟨fj (by omega) (by omega), by omega, x + 1, ?_⟩, fun h2 => ?_⟩, fun h1 => ?_⟩⟩
  · obtain ⟨hx1, hx2⟩ := hx
    have e1 : (((min (xs.length - x) xs.length : Nat) : Int) - 1).toNat = xs.length - (x + 1) := by omega
    have e2 : xs.length - x = (xs.length - (x + 1)) + 1 := by omega
    have e3 : xs.length - (x + 1) < xs.length := by omega
    refine ⟨⟨by omega, ?_⟩, by omega, ?_⟩
    · rw [e1, List.getD_eq_getElem?_getD, List.getElem?_take_of_lt (by omega), List.getElem?_eq_getElem e3] at h2
      rw [← hx2, e2, List.take_add_one, List.getElem?_eq_getElem e3]
      simp only [Option.getD_some] at h2
      simp only [Option.toList_some, h2, trim_snoc0]
    · rw [e1, List.take_take, Nat.min_eq_left (by omega)]; rfl
  · obtain ⟨hx1, hx2⟩ := hx
    have e1 : (((min (xs.length - x) xs.length : Nat) : Int) - 1).toNat = xs.length - (x + 1) := by omega
    have e2 : xs.length - x = (xs.length - (x + 1)) + 1 := by omega
    have e3 : xs.length - (x + 1) < xs.length := by omega
    rw [e1, List.getD_eq_getElem?_getD, List.getElem?_take_of_lt (by omega), List.getElem?_eq_getElem e3] at h2
    rw [← hx2, e2, List.take_add_one, List.getElem?_eq_getElem e3]
    simp only [Option.getD_some] at h2
    simp only [Option.toList_some]
    rw [trim_snoc _ h2]
  · obtain ⟨hx1, hx2⟩ := hx
    have e1 : xs.length - x = 0 := by omega
    rw [← hx2, e1]; rfl
theorem ok84 : p84.OK Tryz.prog := p84.ok (fn := Tryz.f84) (fun p => cx [] [(0, fun _ => A84 p.1 p.2)]) (fun _ => cx0z) (by kernel_rfl) (by kernel_rfl) (by kernel_rfl) fun p hp => by
  obtain ⟨a, c⟩ := p
  obtain ⟨h1, h2⟩ := hp
  have h1 : a.length ≤ 1000000 := h1
  have h2 : c.length ≤ 1000000 := h2
  refine (g84_eq a c).mpr ?_
  simp only [pp1, vQ, dQ, lQ, eq_self, and_true, true_and]
  refine ⟨fun h => ⟨fun h3 => ?_, fun h3 => ?_⟩, fun h => ⟨fj (by omega) (by omega), ⟨0, ⟨by omega, rfl⟩, by omega⟩, fun x hx => ⟨fun h3 => ⟨by omega, by omega, fun h4 => ⟨by omega, by omega, fun h5 => ?_, fun h5 => ?_⟩, fun h4 => ⟨fj (by omega) (by omega), x + 1, ⟨by omega, ?_⟩, by omega, by omega⟩⟩, fun h3 => ?_⟩⟩⟩
  · rw [cmpN, if_neg (by omega), if_pos (by omega)]
  · rw [cmpN, if_neg (by omega), if_neg (by omega)]
  · have e1 : ((a.length : Int) - 1 - x).toNat = a.length - x - 1 := by omega
    rw [e1] at h4 h5
    rw [cmpN, if_pos (by omega), ← hx.2, show a.length - x = (a.length - x - 1) + 1 by omega, cmpD, if_neg h4, if_pos h5]
  · have e1 : ((a.length : Int) - 1 - x).toNat = a.length - x - 1 := by omega
    rw [e1] at h4 h5
    rw [cmpN, if_pos (by omega), ← hx.2, show a.length - x = (a.length - x - 1) + 1 by omega, cmpD, if_neg h4, if_neg h5]
  · have e1 : ((a.length : Int) - 1 - x).toNat = a.length - x - 1 := by omega
    rw [e1] at h4
    rw [← hx.2, show a.length - x = (a.length - (x + 1)) + 1 by omega, cmpD, if_pos (by rw [show a.length - (x + 1) = a.length - x - 1 by omega]; exact Decidable.not_not.1 h4)]
  · rw [cmpN, if_pos (by omega), ← hx.2, show a.length - x = 0 by omega]; rfl
theorem ok105 : p105.OK Tryz.prog := p105.ok (fn := Tryz.f105) (fun _ => cx [] []) (fun _ => cx0z) (by kernel_rfl) (by kernel_rfl) (by kernel_rfl) fun p hp => by
  obtain ⟨x, y, c⟩ := p
  obtain ⟨h1, h2, h3⟩ := hp
  simp only at h1 h2 h3
  refine (g105_eq x y c).mpr ⟨by omega, ?_⟩
  rw [e32, w64_id (n := x) (by omega) (by omega), w64_id (n := y) (by omega) (by omega), w64_id (n := c) (by omega) (by omega), w64_id (n := x + y) (by omega) (by omega), w64_id (n := x + y + c) (by omega) (by omega), w32, w32_id (n := (x + y + c) / 4294967296) (by omega) (by omega)]
theorem ok106 : p106.OK Tryz.prog := p106.ok (fn := Tryz.f106) (fun _ => cx [] []) (fun _ => cx0z) (by kernel_rfl) (by kernel_rfl) (by kernel_rfl) fun p hp => by
  obtain ⟨x, y, c⟩ := p
  obtain ⟨h1, h2, h3⟩ := hp
  simp only at h1 h2 h3
  refine (g106_eq x y c).mpr ⟨by omega, ?_⟩
  have e1 : (if IntKind.u32.signed = true then (-1 : Int) else IntKind.u32.max) = 4294967295 := by decide
  have e2 : (2 : Int) ^ Int.toNat 31 = 2147483648 := by decide
  have e3 : IntKind.u32.wrap (IntKind.u32.wrap (x - y) - c) = (x - y - c) % 4294967296 := by rw [w32, w32]; omega
  rw [e1, e2, e3, sub32 h1 h2 h3]
theorem plus_round {a c : List Int} (ha : FigsF 4294967296 a) (hc : FigsF 4294967296 c) (x : Nat) : 0 ≤ (valF 4294967296 (a.take x) + valF 4294967296 (c.take x)) / (4294967296 : Int) ^ x ∧ (valF 4294967296 (a.take x) + valF 4294967296 (c.take x)) / (4294967296 : Int) ^ x ≤ 1 := by
  have r1 := val_take_range bw0 ha x
  have r2 := val_take_range bw0 hc x
  exact div_le_one bw0 (by omega) (by omega)
theorem plus_next (a c : List Int) (x : Nat) : valF 4294967296 (a.take (x + 1)) + valF 4294967296 (c.take (x + 1)) = (valF 4294967296 (a.take x) + valF 4294967296 (c.take x)) + (a.getD x 0 + c.getD x 0) * (4294967296 : Int) ^ x := by
  rw [val_take_succ', val_take_succ', Int.add_mul]; omega
theorem plus_step {a c : List Int} {x n : Nat} (hx : x < n) {y : Int} (hy : y = c.getD x 0) :
    (digs 4294967296 (valF 4294967296 (a.take x) + valF 4294967296 (c.take x)) x ++ List.replicate (n + 1 - x) 0).set x ((a.getD x 0 + y + (valF 4294967296 (a.take x) + valF 4294967296 (c.take x)) / (4294967296 : Int) ^ x) % 4294967296) = digs 4294967296 (valF 4294967296 (a.take (x + 1)) + valF 4294967296 (c.take (x + 1))) (x + 1) ++ List.replicate (n + 1 - (x + 1)) 0 ∧
    (a.getD x 0 + y + (valF 4294967296 (a.take x) + valF 4294967296 (c.take x)) / (4294967296 : Int) ^ x) / 4294967296 = (valF 4294967296 (a.take (x + 1)) + valF 4294967296 (c.take (x + 1))) / (4294967296 : Int) ^ (x + 1) := by
  subst hy
  rw [plus_next, div_step bw0, show n + 1 - x = (n + 1 - (x + 1)) + 1 by omega]
  refine ⟨step_row bw0 (by rw [Int.add_comm]), by rw [Int.add_comm]⟩
theorem plus_end {a c : List Int} (ha : FigsF 4294967296 a) (hc : FigsF 4294967296 c) (hl : c.length ≤ a.length) {x : Nat} (hx : x = a.length) :
    trimF ((digs 4294967296 (valF 4294967296 (a.take x) + valF 4294967296 (c.take x)) x ++ List.replicate (a.length + 1 - x) 0).set a.length ((valF 4294967296 (a.take x) + valF 4294967296 (c.take x)) / (4294967296 : Int) ^ x)) = lim 4294967296 (valF 4294967296 a + valF 4294967296 c) := by
  have r := plus_round ha hc x
  have r1 := val_take_range bw0 ha x
  have r2 := val_take_range bw0 hc x
  subst hx
  rw [show a.length + 1 - a.length = 0 + 1 by omega, last_row bw0 (by omega) (by omega), List.take_length, List.take_of_length_le hl]
  rw [List.take_length] at r1
  rw [List.take_of_length_le hl] at r2
  simp only [List.replicate_zero, List.append_nil]
  refine (lim_digs bw2 (by omega) ?_).symm
  rw [Int.pow_succ]; omega
theorem ok83 : p83.OK Tryz.prog := p83.ok (fn := Tryz.f83) (fun _ => cx [p82.ci, p105.ci] [(0, with2 0 1 A83)]) (fun _ => cx_ok (cs := [p82.ci, p105.ci]) ⟨PC.OK.ci ok82, PC.OK.ci ok105, trivial⟩ _) (by kernel_rfl) (by kernel_rfl) (by kernel_rfl) fun p hp => by
  obtain ⟨a, c⟩ := p
  obtain ⟨⟨ha, hc⟩, h1, h2⟩ := hp
  have h1 : a.length ≤ 100000 := h1
  have h2 : c.length ≤ 100000 := h2
  have ha : FigsF 4294967296 a := ha
  have hc : FigsF 4294967296 c := hc
  refine (g83_eq a c).mpr ?_
  simp only [pp1, vQ, dQ, lQ, eq_self, and_true, true_and, Int.toNat_natCast, List.length_set, List.length_append, digs_len, List.length_replicate]
  have key : ∀ (a c : List Int), FigsF 4294967296 a → FigsF 4294967296 c → a.length ≤ 100000 → c.length ≤ a.length → ∀ x : Nat, x < a.length → (0 ≤ a.getD x 0 ∧ a.getD x 0 < 4294967296) ∧ (0 ≤ c.getD x 0 ∧ c.getD x 0 < 4294967296) := fun a c ha hc _ _ x _ => ⟨figs_getD bw0 ha x, figs_getD bw0 hc x⟩
  have z : ∀ (c : List Int) (x : Nat), ¬ (x : Int) < c.length → (0 : Int) = c.getD x 0 := fun c x h => by
    rw [List.getD_eq_getElem?_getD, List.getElem?_eq_none (by omega)]; rfl
  have e1 : ∀ n : Nat, ((n : Int) + 1).toNat = n + 1 := fun n => by omega
  refine ⟨fun h => ⟨fj (by omega) (by omega), ⟨by omega, by omega, sm (by omega)⟩, ⟨0, by omega, ?_, ?_, rfl⟩, fun x hx => ⟨fun h3 => ⟨fun h4 => ⟨by omega, by omega, ⟨figs_getD bw0 hc x, figs_getD bw0 ha x, plus_round hc ha x⟩, by omega, fj (by omega) (by omega), x + 1, by omega, by omega, ?_⟩, fun h4 => ⟨by omega, ⟨figs_getD bw0 hc x, by omega, plus_round hc ha x⟩, by omega, fj (by omega) (by omega), x + 1, by omega, by omega, ?_⟩⟩, fun h3 => ⟨by omega, by omega, ?_⟩⟩⟩,
    fun h => ⟨fj (by omega) (by omega), ⟨by omega, by omega, sm (by omega)⟩, ⟨0, by omega, ?_, ?_, rfl⟩, fun x hx => ⟨fun h3 => ⟨fun h4 => ⟨by omega, by omega, ⟨figs_getD bw0 ha x, figs_getD bw0 hc x, plus_round ha hc x⟩, by omega, fj (by omega) (by omega), x + 1, by omega, by omega, ?_⟩, fun h4 => ⟨by omega, ⟨figs_getD bw0 ha x, by omega, plus_round ha hc x⟩, by omega, fj (by omega) (by omega), x + 1, by omega, by omega, ?_⟩⟩, fun h3 => ⟨by omega, by omega, ?_⟩⟩⟩⟩
  · rw [e1]; rfl
  · simp [valF]
  · obtain ⟨q1, q2⟩ := plus_step (a := c) (c := a) (x := x) (n := c.length) (by omega) rfl
    exact ⟨q1, q2, by omega⟩
  · obtain ⟨q1, q2⟩ := plus_step (a := c) (c := a) (x := x) (n := c.length) (by omega) (z a x h4)
    exact ⟨q1, q2, by omega⟩
  · rw [plus_end hc ha (by omega) (by omega), Int.add_comm]
  · rw [e1]; rfl
  · simp [valF]
  · obtain ⟨q1, q2⟩ := plus_step (a := a) (c := c) (x := x) (n := a.length) (by omega) rfl
    exact ⟨q1, q2, by omega⟩
  · obtain ⟨q1, q2⟩ := plus_step (a := a) (c := c) (x := x) (n := a.length) (by omega) (z c x h4)
    exact ⟨q1, q2, by omega⟩
  · exact plus_end ha hc (by omega) (by omega)
end Go.SX.We.Nm

/- Chapter 08: num's functions on sizes, proved: minus, times, byWord, up, down. -/
namespace Go.SX.We.Nm
open Go Go.Proofs
theorem minus_round {a c : List Int} (ha : FigsF 4294967296 a) (hc : FigsF 4294967296 c) (x : Nat) :
    0 ≤ -((valF 4294967296 (a.take x) - valF 4294967296 (c.take x)) / 4294967296 ^ x) ∧ -((valF 4294967296 (a.take x) - valF 4294967296 (c.take x)) / 4294967296 ^ x) ≤ 1 := by
  have r1 := val_take_range bw0 ha x
  have r2 := val_take_range bw0 hc x
  have := div_neg_one bw0 (S := valF 4294967296 (a.take x) - valF 4294967296 (c.take x)) (k := x) (by omega) (by omega)
  omega
theorem minus_next (a c : List Int) (x : Nat) : valF 4294967296 (a.take (x + 1)) - valF 4294967296 (c.take (x + 1)) = (valF 4294967296 (a.take x) - valF 4294967296 (c.take x)) + (a.getD x 0 - c.getD x 0) * 4294967296 ^ x := by
  rw [val_take_succ', val_take_succ', Int.sub_mul]; omega
theorem minus_step {a c : List Int} {x n : Nat} (hx : x < n) {y : Int} (hy : y = c.getD x 0) :
    (digs 4294967296 (valF 4294967296 (a.take x) - valF 4294967296 (c.take x)) x ++ List.replicate (n - x) 0).set x ((a.getD x 0 - y - -((valF 4294967296 (a.take x) - valF 4294967296 (c.take x)) / 4294967296 ^ x)) % 4294967296) =
      digs 4294967296 (valF 4294967296 (a.take (x + 1)) - valF 4294967296 (c.take (x + 1))) (x + 1) ++ List.replicate (n - (x + 1)) 0 ∧
    -((a.getD x 0 - y - -((valF 4294967296 (a.take x) - valF 4294967296 (c.take x)) / 4294967296 ^ x)) / 4294967296) = -((valF 4294967296 (a.take (x + 1)) - valF 4294967296 (c.take (x + 1))) / 4294967296 ^ (x + 1)) := by
  subst hy
  rw [minus_next, div_step bw0, show n - x = (n - (x + 1)) + 1 by omega]
  refine ⟨step_row bw0 ?_, ?_⟩
  · congr 1; omega
  · congr 2; omega
theorem ok85 : p85.OK Tryz.prog := p85.ok (fn := Tryz.f85) (fun p => cx [p82.ci, p106.ci] [(0, fun _ => A85 p.1 p.2)]) (fun _ => cx_ok (cs := [p82.ci, p106.ci]) ⟨PC.OK.ci ok82, PC.OK.ci ok106, trivial⟩ _) (by kernel_rfl) (by kernel_rfl) (by kernel_rfl) fun p hp => by
  obtain ⟨a, c⟩ := p
  obtain ⟨⟨ha, hc⟩, ⟨h1, h2⟩, h3⟩ := hp
  have h1 : a.length ≤ 100000 := h1
  have h2 : c.length ≤ a.length := h2
  have ha : FigsF 4294967296 a := ha
  have hc : FigsF 4294967296 c := hc
  have h3 : valF 4294967296 c ≤ valF 4294967296 a := h3
  refine (g85_eq a c).mpr ?_
  simp only [pp1, vQ, dQ, lQ, eq_self, and_true, true_and, Int.toNat_natCast, List.length_set, List.length_append, digs_len, List.length_replicate]
  have z : ∀ (c : List Int) (x : Nat), ¬ (x : Int) < c.length → (0 : Int) = c.getD x 0 := fun c x h => by
    rw [List.getD_eq_getElem?_getD, List.getElem?_eq_none (by omega)]; rfl
  refine ⟨⟨by omega, by omega, sm (by omega)⟩, ⟨0, by omega, rfl, by simp [valF], rfl⟩, fun x hx => ⟨fun h3 => ⟨fun h4 => ⟨by omega, by omega, ⟨figs_getD bw0 ha x, figs_getD bw0 hc x, minus_round ha hc x⟩, by omega, fj (by omega) (by omega), x + 1, by omega, by omega, ?_⟩, fun h4 => ⟨by omega, ⟨figs_getD bw0 ha x, by omega, minus_round ha hc x⟩, by omega, fj (by omega) (by omega), x + 1, by omega, by omega, ?_⟩⟩, fun h3 => ⟨by omega, ?_⟩⟩⟩
  · obtain ⟨q1, q2⟩ := minus_step (a := a) (c := c) (x := x) (n := a.length) (by omega) rfl
    exact ⟨q1, q2, by omega⟩
  · obtain ⟨q1, q2⟩ := minus_step (a := a) (c := c) (x := x) (n := a.length) (by omega) (z c x h4)
    exact ⟨q1, q2, by omega⟩
  · have hx' : x = a.length := by omega
    subst hx'
    have r1 := val_range bw0 ha
    have r2 := val_range bw0 hc
    rw [Nat.sub_self, List.replicate_zero, List.append_nil, List.take_length, List.take_of_length_le h2]
    exact (lim_digs bw2 (by omega) (by omega)).symm
theorem mulS_eq (a c : List Int) (i j : Nat) : mulS a c i j = mulP a c i + a.getD i 0 * valF 4294967296 (c.take j) * 4294967296 ^ i := rfl
theorem mulS_zero (a c : List Int) (i : Nat) : mulS a c i 0 = mulP a c i := by simp [mulS_eq, valF]
theorem mulS_succ (a c : List Int) (i j : Nat) : mulS a c i (j + 1) = mulS a c i j + a.getD i 0 * c.getD j 0 * 4294967296 ^ (i + j) := by
  rw [mulS_eq, mulS_eq, val_take_succ', Int.mul_add, Int.add_mul, Int.pow_add, ← Int.add_assoc]
  congr 1
  rw [Int.mul_assoc, Int.mul_assoc, Int.mul_assoc, Int.mul_comm (4294967296 ^ i)]
theorem mulS_last (a c : List Int) {i j : Nat} (hj : j = c.length) : mulS a c i j = mulP a c (i + 1) := by
  subst hj
  rw [mulS_eq, mulP, mulP, val_take_succ', Int.add_mul, List.take_length]
  congr 1
  rw [Int.mul_assoc, Int.mul_assoc, Int.mul_comm (valF 4294967296 c)]
theorem mulP_range {a c : List Int} (ha : FigsF 4294967296 a) (hc : FigsF 4294967296 c) (i : Nat) : 0 ≤ mulP a c i ∧ mulP a c i < 4294967296 ^ (i + c.length) := by
  have r1 := val_take_range bw0 ha i
  have r2 := val_range bw0 hc
  have p1 := pow_pos' bw0 i
  have p2 := pow_pos' bw0 c.length
  refine ⟨Int.mul_nonneg r1.1 r2.1, ?_⟩
  rw [mulP, Int.pow_add]
  have q1 : valF 4294967296 (a.take i) * valF 4294967296 c ≤ valF 4294967296 (a.take i) * 4294967296 ^ c.length := Int.mul_le_mul_of_nonneg_left (by omega) r1.1
  have q2 : valF 4294967296 (a.take i) * 4294967296 ^ c.length < 4294967296 ^ i * 4294967296 ^ c.length := Int.mul_lt_mul_of_pos_right r1.2 p2
  omega
theorem mul_carry {a c : List Int} (ha : FigsF 4294967296 a) (hc : FigsF 4294967296 c) (i j : Nat) :
    0 ≤ mulS a c i j / 4294967296 ^ (i + j) - mulP a c i / 4294967296 ^ (i + j) ∧ mulS a c i j / 4294967296 ^ (i + j) - mulP a c i / 4294967296 ^ (i + j) < 4294967296 := by
  have r1 := figs_getD bw0 ha i
  have r2 := val_take_range bw0 hc j
  have p1 := pow_pos' bw0 i
  have p2 := pow_pos' bw0 j
  have p3 := pow_pos' bw0 (i + j)
  have r3 := mulP_range ha hc i
  have q0 : 0 ≤ a.getD i 0 * valF 4294967296 (c.take j) * 4294967296 ^ i := Int.mul_nonneg (Int.mul_nonneg r1.1 r2.1) (by omega)
  have q1 : a.getD i 0 * valF 4294967296 (c.take j) ≤ 4294967295 * 4294967296 ^ j := Int.le_trans (Int.mul_le_mul_of_nonneg_left (Int.le_of_lt r2.2) r1.1) (Int.mul_le_mul_of_nonneg_right (by omega) (by omega))
  have q2 : a.getD i 0 * valF 4294967296 (c.take j) * 4294967296 ^ i ≤ 4294967295 * 4294967296 ^ (i + j) := by
    rw [Int.pow_add, Int.mul_comm (4294967296 ^ i), ← Int.mul_assoc]
    exact Int.mul_le_mul_of_nonneg_right q1 (by omega)
  have s1 : mulP a c i / 4294967296 ^ (i + j) ≤ mulS a c i j / 4294967296 ^ (i + j) := Int.ediv_le_ediv p3 (by rw [mulS_eq]; omega)
  have s2 : mulP a c i < (mulP a c i / 4294967296 ^ (i + j) + 1) * 4294967296 ^ (i + j) := Int.lt_ediv_add_one_mul_self _ p3
  have s3 : mulS a c i j / 4294967296 ^ (i + j) < mulP a c i / 4294967296 ^ (i + j) + 4294967296 := by
    apply Int.ediv_lt_of_lt_mul p3
    rw [mulS_eq]
    rw [Int.add_mul] at s2 ⊢
    omega
  omega
theorem mul_row {a c : List Int} (L : Nat) {i j : Nat} (h : i + j < L) {v : Int} (hv : v = (mulS a c i j / 4294967296 ^ (i + j) + a.getD i 0 * c.getD j 0) % 4294967296) :
    (digs 4294967296 (mulS a c i j) (i + j) ++ List.drop (i + j) (digs 4294967296 (mulP a c i) L)).set (i + j) v = digs 4294967296 (mulS a c i (j + 1)) (i + (j + 1)) ++ List.drop (i + (j + 1)) (digs 4294967296 (mulP a c i) L) := by
  rw [mulS_succ, ← Nat.add_assoc, digs_step bw0, ← hv, List.set_append_right _ _ (by rw [digs_len]; omega), digs_len, Nat.sub_self, List.drop_eq_getElem_cons (by rw [digs_len]; exact h), List.set_cons_zero, List.append_assoc]
  rfl
theorem mul_get {a c : List Int} {L i j : Nat} (h : i + j < L) : (digs 4294967296 (mulS a c i j) (i + j) ++ List.drop (i + j) (digs 4294967296 (mulP a c i) L)).getD (i + j) 0 = mulP a c i / 4294967296 ^ (i + j) % 4294967296 := by
  rw [List.getD_eq_getElem?_getD, List.getElem?_append_right (by rw [digs_len]; omega), digs_len, Nat.sub_self, List.getElem?_drop, Nat.add_zero, ← List.getD_eq_getElem?_getD, digs_get bw0 _ h]
theorem mul_step {a c : List Int} (ha : FigsF 4294967296 a) (hc : FigsF 4294967296 c) {L i j : Nat} (h : i + j < L) :
    (digs 4294967296 (mulS a c i j) (i + j) ++ List.drop (i + j) (digs 4294967296 (mulP a c i) L)).set (i + j)
      (IntKind.u32.wrap (IntKind.u64.wrap (IntKind.u64.wrap (IntKind.u64.wrap (IntKind.u64.wrap (a.getD i 0) * IntKind.u64.wrap (c.getD j 0)) + IntKind.u64.wrap ((digs 4294967296 (mulS a c i j) (i + j) ++ List.drop (i + j) (digs 4294967296 (mulP a c i) L)).getD (i + j) 0)) + (mulS a c i j / 4294967296 ^ (i + j) - mulP a c i / 4294967296 ^ (i + j))))) =
      digs 4294967296 (mulS a c i (j + 1)) (i + (j + 1)) ++ List.drop (i + (j + 1)) (digs 4294967296 (mulP a c i) L) ∧
    IntKind.u64.wrap (IntKind.u64.wrap (IntKind.u64.wrap (IntKind.u64.wrap (a.getD i 0) * IntKind.u64.wrap (c.getD j 0)) + IntKind.u64.wrap ((digs 4294967296 (mulS a c i j) (i + j) ++ List.drop (i + j) (digs 4294967296 (mulP a c i) L)).getD (i + j) 0)) + (mulS a c i j / 4294967296 ^ (i + j) - mulP a c i / 4294967296 ^ (i + j))) / 4294967296 =
      mulS a c i (j + 1) / 4294967296 ^ (i + (j + 1)) - mulP a c i / 4294967296 ^ (i + (j + 1)) := by
  have r1 := figs_getD bw0 ha i
  have r2 := figs_getD bw0 hc j
  have r3 := mul_carry ha hc i j
  rw [mul_get h]
  obtain ⟨x, hx⟩ : ∃ x, x = a.getD i 0 := ⟨_, rfl⟩
  obtain ⟨y, hy⟩ : ∃ y, y = c.getD j 0 := ⟨_, rfl⟩
  obtain ⟨p, hp⟩ : ∃ p, p = mulP a c i / 4294967296 ^ (i + j) := ⟨_, rfl⟩
  obtain ⟨s, hs⟩ : ∃ s, s = mulS a c i j / 4294967296 ^ (i + j) := ⟨_, rfl⟩
  rw [← hx] at r1
  rw [← hy] at r2
  rw [← hp, ← hs] at r3
  have m0 : 0 ≤ x * y := Int.mul_nonneg r1.1 r2.1
  have m1 : x * y ≤ 4294967295 * 4294967295 := Int.le_trans (Int.mul_le_mul_of_nonneg_left (show y ≤ 4294967295 by omega) r1.1) (Int.mul_le_mul_of_nonneg_right (by omega) (by omega))
  have e : IntKind.u64.wrap (IntKind.u64.wrap (IntKind.u64.wrap (IntKind.u64.wrap x * IntKind.u64.wrap y) + IntKind.u64.wrap (p % 4294967296)) + (s - p)) = x * y + p % 4294967296 + (s - p) := by
    rw [w64_id (n := x) (by omega) (by omega), w64_id (n := y) (by omega) (by omega), w64_id (n := x * y) (by omega) (by omega), w64_id (n := p % 4294967296) (by omega) (by omega), w64_id (n := x * y + p % 4294967296) (by omega) (by omega), w64_id (by omega) (by omega)]
  rw [← hx, ← hy, ← hp, ← hs, e]
  refine ⟨mul_row L h ?_, ?_⟩
  · rw [w32, ← hs, ← hx, ← hy]; omega
  · rw [mulS_succ, ← Nat.add_assoc, div_step bw0, Int.pow_succ 4294967296 (i + j), ← div_div (pow_pos' bw0 (i + j)) (mulP a c i), ← hs, ← hp, ← hx, ← hy]; omega
theorem mul_end {a c : List Int} (ha : FigsF 4294967296 a) (hc : FigsF 4294967296 c) {i j : Nat} (hi : i < a.length) (hj : j = c.length) :
    (digs 4294967296 (mulS a c i j) (i + j) ++ List.drop (i + j) (digs 4294967296 (mulP a c i) (a.length + c.length))).set (i + c.length) (IntKind.u32.wrap (mulS a c i j / 4294967296 ^ (i + j) - mulP a c i / 4294967296 ^ (i + j))) = digs 4294967296 (mulP a c (i + 1)) (a.length + c.length) := by
  have r0 := mul_carry ha hc i j
  have r1 := mulP_range ha hc i
  have r2 := mulP_range ha hc (i + 1)
  have hS := mulS_last a c (i := i) hj
  subst hj
  obtain ⟨m, hm⟩ : ∃ m, a.length + c.length = (i + c.length) + (m + 1) := ⟨a.length - i - 1, by omega⟩
  have e0 : mulP a c i / 4294967296 ^ (i + c.length) = 0 := Int.ediv_eq_zero_of_lt r1.1 r1.2
  rw [e0, Int.sub_zero] at r0
  rw [e0, Int.sub_zero, w32_id r0.1 r0.2, digs_drop bw0 _ (by omega), e0, digs_zero bw0, hm, Nat.add_sub_cancel_left, last_row bw0 r0.1 r0.2, hS, ← Nat.add_assoc, Nat.add_right_comm, ← digs_more bw0 r2.1 r2.2]
  congr 1; omega
theorem ok90 : p90.OK Tryz.prog := p90.ok (fn := Tryz.f90) (fun p => cx [p82.ci] [(0, fun _ => A90o p.1 p.2), (1, withI 6 fun i => A90i p.1 p.2 i.toNat)]) (fun _ => cx_ok (cs := [p82.ci]) ⟨PC.OK.ci ok82, trivial⟩ _) (by kernel_rfl) (by kernel_rfl) (by kernel_rfl) fun p hp => by
  obtain ⟨a, c⟩ := p
  obtain ⟨⟨ha, hc⟩, h1, h2⟩ := hp
  have h1 : a.length ≤ 100000 := h1
  have h2 : c.length ≤ 100000 := h2
  have ha : FigsF 4294967296 a := ha
  have hc : FigsF 4294967296 c := hc
  refine (g90_eq a c).mpr ?_
  simp only [pp1, vQ, dQ, lQ, eq_self, and_true, true_and, and_self, Int.toNat_natCast, List.length_set, List.length_append, digs_len, List.length_replicate, List.length_drop, e32]
  have t1 : ((a.length : Int) + c.length).toNat = a.length + c.length := by omega
  have t2 : ∀ x y : Nat, ((x : Int) + y).toNat = x + y := fun x y => by omega
  simp only [t1, t2]
  refine ⟨fj (by omega) (by omega), ⟨by omega, by omega, sm (by omega)⟩, ⟨0, by omega, ?_, rfl⟩, fun x hx => ⟨fun h3 => ⟨by omega, ⟨0, by omega, ?_, ?_, rfl⟩, fun y hy => ⟨fun h4 => ⟨by omega, fj (by omega) (by omega), by omega, fj (by omega) (by omega), by omega, by omega, fj (by omega) (by omega), y + 1, by omega, by omega, ?_⟩, fun h4 => ⟨fj (by omega) (by omega), by omega, fj (by omega) (by omega), x + 1, by omega, by omega, ?_⟩⟩⟩, fun h3 => ⟨by omega, ?_⟩⟩⟩
  · simp [mulP, valF, digs_zero bw0]
  · rw [mulS_zero, Nat.add_zero, ← digs_take bw0 (mulP a c x) (show x ≤ a.length + c.length by omega), List.take_append_drop]
  · rw [mulS_zero, Int.sub_self]
  · obtain ⟨q1, q2⟩ := mul_step ha hc (L := a.length + c.length) (i := x) (j := y) (by omega)
    exact ⟨q1, q2, by omega⟩
  · exact ⟨mul_end ha hc (by omega) (by omega), by omega⟩
  · have hx' : x = a.length := by omega
    subst hx'
    have r := mulP_range ha hc a.length
    have e : mulP a c a.length = valF 4294967296 a * valF 4294967296 c := by rw [mulP, List.take_length]
    rw [e] at r ⊢
    exact (lim_digs bw2 r.1 r.2).symm
end Go.SX.We.Nm

/- Chapter 08: num's functions on sizes, proved: byWord, up, down. -/
namespace Go.SX.We.Nm
open Go Go.Proofs
theorem digs_cons {b : Int} (z x : Int) (n : Nat) (hb : 0 < b) (h0 : 0 ≤ x) (h1 : x < b) : digs b (x + b * z) (n + 1) = x :: digs b z n := by
  rw [digs, Int.add_mul_emod_self_left, Int.emod_eq_of_lt h0 h1, Int.add_mul_ediv_left _ _ (by omega), Int.ediv_eq_zero_of_lt h0 h1, Int.zero_add]
theorem u64bits : (2 : Int) ^ IntKind.u64.bits = 18446744073709551616 := by decide
theorem word_or {r x : Int} (hr : 0 ≤ r ∧ r < 4294967296) (hx : 0 ≤ x ∧ x < 4294967296) :
    bitsF BinOp.or IntKind.u64 (IntKind.u64.wrap (r * 4294967296)) (IntKind.u64.wrap x) = r * 4294967296 + x ∧ bitsF BinOp.or IntKind.u64 (IntKind.u64.wrap x) (IntKind.u64.wrap (r * 4294967296)) = r * 4294967296 + x := by
  rw [w64_id (n := r * 4294967296) (by omega) (by omega), w64_id (n := x) (by omega) (by omega)]
  have e : (2 : Int) ^ 32 = 4294967296 := by decide
  have := bits_or (k := .u64) rfl (n := 32) (a := r) (c := x) hr.1 hx.1 (by rw [u64bits, e]; omega) (by rw [e]; omega) (by decide)
  rw [e] at this
  exact this
theorem word_step {a : List Int} {w : Int} (ha : FigsF 4294967296 a) (h0 : 1 ≤ w) (h1 : w < 4294967296) {i x : Nat} (hi : i + (x + 1) = a.length) :
    let r := valF 4294967296 (a.drop (i + 1)) % w
    let q := valF 4294967296 (a.drop (i + 1)) / w
    let t := r * 4294967296 + a.getD i 0
    (0 ≤ t / w ∧ t / w < 4294967296) ∧ (List.replicate (i + 1) 0 ++ digs 4294967296 q x).set i (t / w) = List.replicate i 0 ++ digs 4294967296 (valF 4294967296 (a.drop i) / w) (x + 1) ∧ t % w = valF 4294967296 (a.drop i) % w := by
  intro r q t
  have hv := val_drop (b := 4294967296) (xs := a) (i := i) (by omega)
  have rx := figs_getD bw0 ha i
  have rr : 0 ≤ r ∧ r < w := ⟨Int.emod_nonneg _ (by omega), Int.emod_lt_of_pos _ (by omega)⟩
  have dm := Int.emod_add_mul_ediv (valF 4294967296 (a.drop (i + 1))) w
  have ev : valF 4294967296 (a.drop i) = t + 4294967296 * q * w := by
    rw [hv, ← dm]
    show a.getD i 0 + 4294967296 * (r + w * q) = r * 4294967296 + a.getD i 0 + 4294967296 * q * w
    rw [Int.mul_add, Int.mul_comm w q, ← Int.mul_assoc]; omega
  have e1 : valF 4294967296 (a.drop i) / w = t / w + 4294967296 * q := by rw [ev, Int.add_mul_ediv_right _ _ (by omega)]
  have e2 : valF 4294967296 (a.drop i) % w = t % w := by rw [ev, Int.add_mul_emod_self_right]
  have ht0 : 0 ≤ t := by show 0 ≤ r * 4294967296 + a.getD i 0; omega
  have ht1 : t < 4294967296 * w := by show r * 4294967296 + a.getD i 0 < 4294967296 * w; omega
  have d0 : 0 ≤ t / w := Int.ediv_nonneg ht0 (by omega)
  have d1 : t / w < 4294967296 := Int.ediv_lt_of_lt_mul (by omega) ht1
  refine ⟨⟨d0, d1⟩, ?_, e2.symm⟩
  rw [e1, digs_cons _ _ _ bw0 d0 d1, List.replicate_succ', List.append_assoc, List.set_append_right _ _ (by simp), List.length_replicate, Nat.sub_self]
  rfl
theorem vc91 (a : List Int) (w : Int) (ha : FigsF 4294967296 a) (h1 : a.length ≤ 100000) (h2 : 1 ≤ w) (h3 : w < 4294967296) : g91 a w := by
  refine (g91_eq a w).mpr ?_
  simp only [pp1, vQ, dQ, lQ, eq_self, and_true, true_and, and_self, Int.toNat_natCast, List.length_set, List.length_append, digs_len, List.length_replicate, List.length_drop, e32]
  refine ⟨⟨by omega, by omega, sm (by omega)⟩, fj (by omega) (by omega), ⟨0, by omega, ?_, ?_, by omega⟩, fun x hx => ⟨fun h4 => ?_, fun h4 => ?_⟩⟩
  · simp [digs]
  · rw [Nat.sub_zero, List.drop_length]; simp [valF]
  · obtain ⟨i, hi⟩ : ∃ i, a.length - x = i + 1 := ⟨a.length - x - 1, by omega⟩
    have ei : ((a.length : Int) - 1 - x).toNat = i := by omega
    have el : a.length - (x + 1) = i := by omega
    have rx := figs_getD bw0 ha i
    have rr : 0 ≤ valF 4294967296 (a.drop (i + 1)) % w ∧ valF 4294967296 (a.drop (i + 1)) % w < w := ⟨Int.emod_nonneg _ (by omega), Int.emod_lt_of_pos _ (by omega)⟩
    obtain ⟨⟨s0, s1⟩, s2, s3⟩ := word_step ha h2 h3 (i := i) (x := x) (by omega)
    have or1 := (word_or (r := valF 4294967296 (a.drop (i + 1)) % w) (x := a.getD i 0) (by omega) rx).1
    have ww : IntKind.u64.wrap w = w := w64_id (by omega) (by omega)
    simp only [hi, ei, or1, ww]
    refine ⟨by omega, by omega, by omega, by omega, by omega, fj (by omega) (by omega), x + 1, by omega, by omega, ?_⟩
    rw [el, w64_id s0 (by omega), w32_id s0 s1]
    exact ⟨s2, s3, by omega⟩
  · have hx' : x = a.length := by omega
    subst hx'
    have r := val_range bw0 ha
    have hd : 0 ≤ valF 4294967296 a / w := Int.ediv_nonneg r.1 (by omega)
    have hlt : valF 4294967296 a / w < 4294967296 ^ a.length := Int.lt_of_le_of_lt (Int.ediv_le_self _ r.1) r.2
    have hr : 0 ≤ valF 4294967296 a % w ∧ valF 4294967296 a % w < w := ⟨Int.emod_nonneg _ (by omega), Int.emod_lt_of_pos _ (by omega)⟩
    rw [Nat.sub_self, List.replicate_zero, List.nil_append, List.drop_zero, w32_id hr.1 (by omega)]
    exact ⟨by omega, by rw [lim_digs bw2 hd hlt]⟩
theorem ok91 : p91.OK Tryz.prog := p91.ok (fn := Tryz.f91) (fun p => cx [p82.ci] [(0, fun _ => A91 p.1 p.2)]) (fun _ => cx_ok (cs := [p82.ci]) ⟨PC.OK.ci ok82, trivial⟩ _) (by kernel_rfl) (by kernel_rfl) (by kernel_rfl) fun p hp => vc91 p.1 p.2 hp.1 hp.2.1 hp.2.2.1 hp.2.2.2
theorem pow2_split {n : Nat} (hn : n < 32) : (4294967296 : Int) = 2 ^ (32 - n) * 2 ^ n ∧ (1 : Int) ≤ 2 ^ n ∧ (1 : Int) ≤ 2 ^ (32 - n) := by
  have : (2 : Int) ^ (32 - n) * 2 ^ n = 2 ^ 32 := by rw [← Int.pow_add]; congr 1; omega
  have p1 := pow_pos' (b := 2) (by decide) n
  have p2 := pow_pos' (b := 2) (by decide) (32 - n)
  exact ⟨by rw [this]; rfl, by omega, by omega⟩
theorem up_fig {n : Nat} (hn : n < 32) {v h : Int} (hv : 0 ≤ v ∧ v < 4294967296) (hh : 0 ≤ h ∧ h < 2 ^ n) :
    bitsF BinOp.or IntKind.u32 h (v * 2 ^ n % 4294967296) = (h + v * 2 ^ n) % 4294967296 ∧ v * 2 ^ n / 4294967296 = (h + v * 2 ^ n) / 4294967296 ∧ 0 ≤ v * 2 ^ n ∧ v * 2 ^ n < 18446744073709551616 ∧ v * 2 ^ n / 4294967296 < 2 ^ n := by
  obtain ⟨e, p1, p2⟩ := pow2_split hn
  have m1 : v * 2 ^ n % 4294967296 = v % 2 ^ (32 - n) * 2 ^ n := by
    conv => lhs; rw [e]
    rw [Int.mul_comm v, Int.mul_comm (2 ^ (32 - n)), Int.mul_emod_mul_of_pos _ _ (by omega), Int.mul_comm]
  have r1 : 0 ≤ v % 2 ^ (32 - n) := Int.emod_nonneg _ (by omega)
  have r2 : v % 2 ^ (32 - n) < 2 ^ (32 - n) := Int.emod_lt_of_pos _ (by omega)
  have r3 : (v % 2 ^ (32 - n) + 1) * 2 ^ n ≤ 2 ^ (32 - n) * 2 ^ n := Int.mul_le_mul_of_nonneg_right r2 (by omega)
  rw [Int.add_mul, Int.one_mul, ← e] at r3
  have b1 := (bits_or (k := .u32) rfl (n := n) (a := v % 2 ^ (32 - n)) (c := h) r1 hh.1 (by rw [show (2 : Int) ^ IntKind.u32.bits = 4294967296 by decide]; omega) hh.2 (by show n ≤ 32; omega)).2
  rw [m1, b1]
  have v0 : 0 ≤ v * 2 ^ n := Int.mul_nonneg hv.1 (by omega)
  have v1 : v * 2 ^ n < 4294967296 * 2 ^ n := Int.mul_lt_mul_of_pos_right hv.2 (by omega)
  have v2 : (2 : Int) ^ n ≤ 2 ^ 32 := pow_mono' (by decide) (by omega)
  rw [show (2 : Int) ^ 32 = 4294967296 by decide] at v2
  refine ⟨?_, ?_, v0, by omega, ?_⟩ <;> omega
theorem up_step {a : List Int} (ha : FigsF 4294967296 a) {n x : Nat} (hn : n < 32) (hx : x < a.length) :
    (((digs 4294967296 (valF 4294967296 (a.take x) * 2 ^ n) (x + 1) ++ List.replicate (a.length - x) 0).set x (bitsF BinOp.or IntKind.u32 ((digs 4294967296 (valF 4294967296 (a.take x) * 2 ^ n) (x + 1) ++ List.replicate (a.length - x) 0).getD x 0)
      (IntKind.u32.wrap (IntKind.u64.wrap (IntKind.u64.wrap (a.getD x 0) * 2 ^ n))))).set (x + 1) (IntKind.u32.wrap (IntKind.u64.wrap (IntKind.u64.wrap (a.getD x 0) * 2 ^ n) / 4294967296))) =
      digs 4294967296 (valF 4294967296 (a.take (x + 1)) * 2 ^ n) (x + 1 + 1) ++ List.replicate (a.length - (x + 1)) 0 := by
  obtain ⟨pe, p1, p2⟩ := pow2_split hn
  have r := figs_getD bw0 ha x
  have rt := val_take_range bw0 ha x
  have px := pow_pos' bw0 x
  obtain ⟨Z, hZ⟩ : ∃ Z, Z = valF 4294967296 (a.take x) * 2 ^ n := ⟨_, rfl⟩
  obtain ⟨v, hv⟩ : ∃ v, v = a.getD x 0 := ⟨_, rfl⟩
  have hZ' : valF 4294967296 (a.take (x + 1)) * 2 ^ n = Z + v * 2 ^ n * 4294967296 ^ x := by
    rw [val_take_succ', Int.add_mul, hZ, hv, Int.mul_assoc, Int.mul_assoc, Int.mul_comm (4294967296 ^ x)]
  have z0 : 0 ≤ Z := by rw [hZ]; exact Int.mul_nonneg rt.1 (by omega)
  have z1 : Z < 2 ^ n * 4294967296 ^ x := by
    rw [hZ, Int.mul_comm (2 ^ n)]
    exact Int.mul_lt_mul_of_pos_right rt.2 (by omega)
  have hh : 0 ≤ Z / 4294967296 ^ x ∧ Z / 4294967296 ^ x < 2 ^ n := ⟨Int.ediv_nonneg z0 (by omega), Int.ediv_lt_of_lt_mul px z1⟩
  rw [← hv] at r
  obtain ⟨u1, u2, u3, u4, u5⟩ := up_fig hn r hh
  have v2 : (2 : Int) ^ n ≤ 2 ^ 32 := pow_mono' (by decide) (by omega)
  rw [show (2 : Int) ^ 32 = 4294967296 by decide] at v2
  have hg : (digs 4294967296 Z (x + 1) ++ List.replicate (a.length - x) 0).getD x 0 = Z / 4294967296 ^ x := by
    rw [List.getD_eq_getElem?_getD, List.getElem?_append_left (by rw [digs_len]; omega), ← List.getD_eq_getElem?_getD, digs_get bw0 _ (by omega), Int.emod_eq_of_lt hh.1 (by omega)]
  rw [hZ', ← hZ, ← hv, hg, w64_id (n := v) (by omega) (by omega), w64_id u3 u4, w32, w32_id (n := v * 2 ^ n / 4294967296) (Int.ediv_nonneg u3 (by omega)) (by omega), u1, u2]
  rw [digs_snoc bw0 (Z + v * 2 ^ n * 4294967296 ^ x), digs_step bw0, digs_snoc bw0, div_step bw0, Int.emod_eq_of_lt (a := (Z / 4294967296 ^ x + v * 2 ^ n) / 4294967296) (by omega) (by omega), show a.length - x = (a.length - (x + 1)) + 1 by omega, List.replicate_succ]
  have e : ∀ (xs r : List Int) (p q u w : Int), xs.length = x → ((xs ++ [p] ++ q :: r).set x u).set (x + 1) w = xs ++ [u] ++ [w] ++ r := by
    intro xs r p q u w hl
    rw [List.append_assoc, List.set_append_right _ _ (by omega), hl, Nat.sub_self, List.set_append_right _ _ (by omega), hl, Nat.add_sub_cancel_left]
    simp
  exact e _ _ _ _ _ _ (digs_len _ _)
theorem down_fig {a : List Int} (ha : FigsF 4294967296 a) {n x : Nat} (hn : n < 32) (hx : x < a.length) :
    valF 4294967296 a / 2 ^ n / 4294967296 ^ x % 4294967296 = (a.getD (x + 1) 0 * 4294967296 + a.getD x 0) / 2 ^ n % 4294967296 := by
  obtain ⟨pe, p1, p2⟩ := pow2_split hn
  have px := pow_pos' bw0 x
  rw [div_div (b := 2 ^ n) (by omega), Int.mul_comm (2 ^ n), ← div_div px, val_div bw0 ha, val_drop hx]
  have : ∃ R, valF 4294967296 (a.drop (x + 1)) = a.getD (x + 1) 0 + 4294967296 * R := by
    rcases Nat.lt_or_ge (x + 1) a.length with h | h
    · exact ⟨_, val_drop h⟩
    · refine ⟨0, ?_⟩
      rw [List.drop_eq_nil_of_le h, List.getD_eq_getElem?_getD, List.getElem?_eq_none h]; rfl
  obtain ⟨R, hR⟩ := this
  have : a.getD x 0 + 4294967296 * (a.getD (x + 1) 0 + 4294967296 * R) = (a.getD (x + 1) 0 * 4294967296 + a.getD x 0) + 2 ^ (32 - n) * R * 4294967296 * 2 ^ n := by
    have : 2 ^ (32 - n) * R * 4294967296 * 2 ^ n = 4294967296 * (4294967296 * R) := by
      rw [Int.mul_right_comm, Int.mul_right_comm (2 ^ (32 - n)), ← pe, Int.mul_comm]
    rw [this]; omega
  rw [hR, this, Int.add_mul_ediv_right _ _ (by omega), Int.add_mul_emod_self_right]
theorem down_step {a : List Int} (ha : FigsF 4294967296 a) {n x : Nat} (hn : n < 32) (hx : x < a.length) :
    (digs 4294967296 (valF 4294967296 a / 2 ^ n) x ++ List.replicate (a.length - x) 0).set x (IntKind.u32.wrap ((a.getD (x + 1) 0 * 4294967296 + a.getD x 0) / 2 ^ n)) = digs 4294967296 (valF 4294967296 a / 2 ^ n) (x + 1) ++ List.replicate (a.length - (x + 1)) 0 := by
  have := step_row (S := valF 4294967296 a / 2 ^ n) (c := 0) (k := x) (m := a.length - (x + 1)) (v := IntKind.u32.wrap ((a.getD (x + 1) 0 * 4294967296 + a.getD x 0) / 2 ^ n)) bw0 (by rw [w32, Int.add_zero, down_fig ha hn hx])
  rw [Int.zero_mul, Int.add_zero] at this
  rw [show a.length - x = (a.length - (x + 1)) + 1 by omega, this]
theorem vc125 (a : List Int) (m : Int) (ha : FigsF 4294967296 a) (h1 : a.length ≤ 100000) (h2 : 0 ≤ m) (h3 : m < 32) : g125 a m := by
  obtain ⟨n, rfl⟩ := Int.eq_ofNat_of_zero_le h2
  have hn : n < 32 := by omega
  refine (g125_eq a n).mpr ?_
  have t1 : ∀ x : Nat, ((x : Int) + 1).toNat = x + 1 := fun x => by omega
  simp only [pp1, vQ, dQ, lQ, eq_self, and_true, true_and, and_self, Int.toNat_natCast, List.length_set, List.length_append, digs_len, List.length_replicate, List.length_drop, e32, t1]
  refine ⟨⟨by omega, by omega, sm (by omega)⟩, ⟨0, by omega, rfl, rfl⟩, fun x hx => ⟨fun h4 => ⟨by omega, fj (by omega) (by omega), fun h5 => ⟨fj (by omega) (by omega), by omega, by omega, by omega, by omega, fj (by omega) (by omega), x + 1, by omega, by omega, ?_, by omega⟩, fun h5 => ⟨by omega, by omega, fj (by omega) (by omega), x + 1, by omega, by omega, ?_, by omega⟩⟩, fun h4 => ⟨by omega, ?_⟩⟩⟩
  · have or2 := (word_or (r := a.getD (x + 1) 0) (x := a.getD x 0) (figs_getD bw0 ha _) (figs_getD bw0 ha _)).2
    rw [w64_id (n := a.getD (x + 1) 0) (figs_getD bw0 ha _).1 (by have := (figs_getD bw0 ha (x + 1)).2; omega), or2]
    exact down_step ha hn (by omega)
  · have e : a.getD (x + 1) 0 = 0 := by rw [List.getD_eq_getElem?_getD, List.getElem?_eq_none (by omega)]; rfl
    have := down_step ha hn (x := x) (by omega)
    rw [e, Int.zero_mul, Int.zero_add] at this
    rw [w64_id (n := a.getD x 0) (figs_getD bw0 ha _).1 (by have := (figs_getD bw0 ha x).2; omega)]
    exact this
  · have hx' : x = a.length := by omega
    subst hx'
    have r := val_range bw0 ha
    have p1 := pow_pos' (b := 2) (by decide) n
    have hd : 0 ≤ valF 4294967296 a / 2 ^ n := Int.ediv_nonneg r.1 (by omega)
    have hlt : valF 4294967296 a / 2 ^ n < 4294967296 ^ a.length := Int.lt_of_le_of_lt (Int.ediv_le_self _ r.1) r.2
    rw [Nat.sub_self, List.replicate_zero, List.append_nil, lim_digs bw2 hd hlt]
theorem ok125 : p125.OK Tryz.prog := p125.ok (fn := Tryz.f125) (fun p => cx [p82.ci] [(0, fun _ => A125 p.1 p.2)]) (fun _ => cx_ok (cs := [p82.ci]) ⟨PC.OK.ci ok82, trivial⟩ _) (by kernel_rfl) (by kernel_rfl) (by kernel_rfl) fun p hp => vc125 p.1 p.2 hp.1 hp.2.1 hp.2.2.1 hp.2.2.2
end Go.SX.We.Nm

/- Chapter 08: num's leading zeros, what is asked. -/
namespace Go.SX.We.Nm
open Go Go.Proofs
noncomputable section
def lens8 : ByteArray := ⟨#[0, 1, 2, 2, 3, 3, 3, 3, 4, 4, 4, 4, 4, 4, 4, 4, 5, 5, 5, 5, 5, 5, 5, 5, 5, 5, 5, 5, 5, 5, 5, 5, 6, 6, 6, 6, 6, 6, 6, 6, 6, 6, 6, 6, 6, 6, 6, 6, 6, 6, 6, 6, 6, 6, 6, 6, 6, 6, 6, 6, 6, 6, 6, 6, 7, 7, 7, 7, 7, 7, 7, 7, 7, 7, 7, 7, 7, 7, 7, 7, 7, 7, 7, 7, 7, 7, 7, 7, 7, 7, 7, 7, 7, 7, 7, 7, 7, 7, 7, 7, 7, 7, 7, 7, 7, 7, 7, 7, 7, 7, 7, 7, 7, 7, 7, 7, 7, 7, 7, 7, 7, 7, 7, 7, 7, 7, 7, 7, 8, 8, 8, 8, 8, 8, 8, 8, 8, 8, 8, 8, 8, 8, 8, 8, 8, 8, 8, 8, 8, 8, 8, 8, 8, 8, 8, 8, 8, 8, 8, 8, 8, 8, 8, 8, 8, 8, 8, 8, 8, 8, 8, 8, 8, 8, 8, 8, 8, 8, 8, 8, 8, 8, 8, 8, 8, 8, 8, 8, 8, 8, 8, 8, 8, 8, 8, 8, 8, 8, 8, 8, 8, 8, 8, 8, 8, 8, 8, 8, 8, 8, 8, 8, 8, 8, 8, 8, 8, 8, 8, 8, 8, 8, 8, 8, 8, 8, 8, 8, 8, 8, 8, 8, 8, 8, 8, 8, 8, 8, 8, 8, 8, 8, 8, 8, 8, 8, 8, 8, 8, 8, 8, 8, 8, 8, 8, 8]⟩
def tb8 (t : Int) : Int := if t ≥ 128 then 8 else if t ≥ 64 then 7 else if t ≥ 32 then 6 else if t ≥ 16 then 5 else if t ≥ 8 then 4 else if t ≥ 4 then 3 else if t ≥ 2 then 2 else if t ≥ 1 then 1 else 0
def len32 (x : Int) : Int := if x ≥ 65536 then (if x / 65536 ≥ 256 then 24 + tb8 (x / 65536 / 256) else 16 + tb8 (x / 65536)) else if x ≥ 256 then 8 + tb8 (x / 256) else tb8 x
@[reducible] def p120 : PC := ⟨120, [aW], [aI], fun x => 0 ≤ x ∧ x < 4294967296, len32⟩
def g120 (x : Int) : Prop := p120.VC (cx [] []) Tryz.f120 x
@[reducible] def p122 : PC := ⟨122, [aW], [aI], fun x => 0 ≤ x ∧ x < 4294967296, fun x => 32 - len32 x⟩
def g122 (x : Int) : Prop := p122.VC (cx [p120.ci] []) Tryz.f122 x
end
end Go.SX.We.Nm

/- Printed by VC.lean: what the executor asks. -/
namespace Go.SX.We.Nm
open Go Go.Proofs IntKind List
theorem g120_eq (x : Int) : g120 x = ((65536 ≤ x → 65536 ≤ x ∧ ((0 : Int) ≤ 16 ∧ (16 : Int) < 32) ∧ (256 ≤ x / 2 ^ Int.toNat 16 → 256 ≤ x / 2 ^ Int.toNat 16 ∧ ((0 : Int) ≤ 8 ∧ (8 : Int) < 32) ∧ Fits .i64 24 ∧ (0 ≤ u8.wrap (x / 2 ^ Int.toNat 16 / 2 ^ Int.toNat 8) ∧ u8.wrap (x / 2 ^ Int.toNat 16 / 2 ^ Int.toNat 8) < (↑(lens8).size : Int)) ∧ Fits .i64 (bt (lens8) (u8.wrap (x / 2 ^ Int.toNat 16 / 2 ^ Int.toNat 8)).toNat) ∧ Fits .i64 (16 + 8 + bt (lens8) (u8.wrap (x / 2 ^ Int.toNat 16 / 2 ^ Int.toNat 8)).toNat) ∧ 16 + 8 + bt (lens8) (u8.wrap (x / 2 ^ Int.toNat 16 / 2 ^ Int.toNat 8)).toNat = len32 x) ∧ (¬256 ≤ x / 2 ^ Int.toNat 16 → ¬256 ≤ x / 2 ^ Int.toNat 16 ∧ (0 ≤ u8.wrap (x / 2 ^ Int.toNat 16) ∧ u8.wrap (x / 2 ^ Int.toNat 16) < (↑(lens8).size : Int)) ∧ Fits .i64 (bt (lens8) (u8.wrap (x / 2 ^ Int.toNat 16)).toNat) ∧ Fits .i64 (16 + bt (lens8) (u8.wrap (x / 2 ^ Int.toNat 16)).toNat) ∧ 16 + bt (lens8) (u8.wrap (x / 2 ^ Int.toNat 16)).toNat = len32 x)) ∧ (¬65536 ≤ x → ¬65536 ≤ x ∧ (256 ≤ x → 256 ≤ x ∧ ((0 : Int) ≤ 8 ∧ (8 : Int) < 32) ∧ Fits .i64 8 ∧ (0 ≤ u8.wrap (x / 2 ^ Int.toNat 8) ∧ u8.wrap (x / 2 ^ Int.toNat 8) < (↑(lens8).size : Int)) ∧ Fits .i64 (bt (lens8) (u8.wrap (x / 2 ^ Int.toNat 8)).toNat) ∧ Fits .i64 (0 + 8 + bt (lens8) (u8.wrap (x / 2 ^ Int.toNat 8)).toNat) ∧ 0 + 8 + bt (lens8) (u8.wrap (x / 2 ^ Int.toNat 8)).toNat = len32 x) ∧ (¬256 ≤ x → ¬256 ≤ x ∧ (0 ≤ u8.wrap x ∧ u8.wrap x < (↑(lens8).size : Int)) ∧ Fits .i64 (bt (lens8) (u8.wrap x).toNat) ∧ Fits .i64 (0 + bt (lens8) (u8.wrap x).toNat) ∧ 0 + bt (lens8) (u8.wrap x).toNat = len32 x))) := by kernel_rfl
theorem g122_eq (x : Int) : g122 x = ((0 ≤ x ∧ x < 4294967296) ∧ Fits .i64 (32 - len32 x) ∧ 32 - len32 x = 32 - len32 x) := by kernel_rfl
end Go.SX.We.Nm

/- Chapter 08: num's leading zeros, proved. -/
namespace Go.SX.We.Nm
open Go Go.Proofs
theorem tb_all : ((List.range 256).all fun n => decide (bt lens8 n = tb8 (n : Int))) = true := by kernel_rfl
theorem lens_size : lens8.size = 256 := by kernel_rfl
theorem tb_bound (t : Int) : 0 ≤ tb8 t ∧ tb8 t ≤ 8 ∧ (1 ≤ t → 1 ≤ tb8 t) := by
  unfold tb8
  by_cases h1 : t ≥ 128
  · rw [if_pos h1]; omega
  rw [if_neg h1]
  by_cases h2 : t ≥ 64
  · rw [if_pos h2]; omega
  rw [if_neg h2]
  by_cases h3 : t ≥ 32
  · rw [if_pos h3]; omega
  rw [if_neg h3]
  by_cases h4 : t ≥ 16
  · rw [if_pos h4]; omega
  rw [if_neg h4]
  by_cases h5 : t ≥ 8
  · rw [if_pos h5]; omega
  rw [if_neg h5]
  by_cases h6 : t ≥ 4
  · rw [if_pos h6]; omega
  rw [if_neg h6]
  by_cases h7 : t ≥ 2
  · rw [if_pos h7]; omega
  rw [if_neg h7]
  by_cases h8 : t ≥ 1
  · rw [if_pos h8]; omega
  rw [if_neg h8]; omega
theorem tb_tab {t : Int} (h0 : 0 ≤ t) (h1 : t < 256) : IntKind.u8.wrap t = t ∧ bt lens8 t.toNat = tb8 t := by
  refine ⟨?_, ?_⟩
  · unfold IntKind.wrap IntKind.signed IntKind.bits; simp; omega
  · have := List.all_eq_true.1 tb_all t.toNat (List.mem_range.2 (by omega))
    have h : bt lens8 t.toNat = tb8 (t.toNat : Int) := of_decide_eq_true this
    have e : ((t.toNat : Nat) : Int) = t := Int.toNat_of_nonneg h0
    exact h.trans (congrArg tb8 e)
theorem len32_bound {x : Int} (h0 : 0 ≤ x) (h1 : x < 4294967296) : 0 ≤ len32 x ∧ len32 x ≤ 32 ∧ (1 ≤ x → 1 ≤ len32 x) := by
  have b1 := tb_bound (x / 65536 / 256)
  have b2 := tb_bound (x / 65536)
  have b3 := tb_bound (x / 256)
  have b4 := tb_bound x
  by_cases h : x ≥ 65536
  · by_cases h2 : x / 65536 ≥ 256
    · rw [len32, if_pos h, if_pos h2]; omega
    · rw [len32, if_pos h, if_neg h2]; omega
  · by_cases h2 : x ≥ 256
    · rw [len32, if_neg h, if_pos h2]; omega
    · rw [len32, if_neg h, if_neg h2]; omega
theorem vc120 {x : Int} (h0 : 0 ≤ x) (h1 : x < 4294967296) : g120 x := by
  refine (g120_eq x).mpr ?_
  have p16 : (2 : Int) ^ Int.toNat 16 = 65536 := by decide
  have p8 : (2 : Int) ^ Int.toNat 8 = 256 := by decide
  have b1 := tb_bound (x / 65536 / 256)
  have b2 := tb_bound (x / 65536)
  have b3 := tb_bound (x / 256)
  have b4 := tb_bound x
  simp only [pp1, vQ, dQ, lQ, eq_self, and_true, true_and, and_self, p16, p8, lens_size]
  refine ⟨fun h => ⟨by omega, fun h2 => ?_, fun h2 => ?_⟩, fun h => ⟨fun h2 => ?_, fun h2 => ?_⟩⟩
  · obtain ⟨e1, e2⟩ := tb_tab (t := x / 65536 / 256) (by omega) (by omega)
    rw [e1, e2]
    refine ⟨by omega, fj (by omega) (by omega), by omega, fj (by omega) (by omega), fj (by omega) (by omega), ?_⟩
    rw [len32, if_pos (by omega), if_pos (by omega)]; rfl
  · obtain ⟨e1, e2⟩ := tb_tab (t := x / 65536) (by omega) (by omega)
    rw [e1, e2]
    refine ⟨by omega, fj (by omega) (by omega), fj (by omega) (by omega), ?_⟩
    rw [len32, if_pos (by omega), if_neg (by omega)]
  · obtain ⟨e1, e2⟩ := tb_tab (t := x / 256) (by omega) (by omega)
    rw [e1, e2]
    refine ⟨by omega, fj (by omega) (by omega), by omega, fj (by omega) (by omega), fj (by omega) (by omega), ?_⟩
    rw [len32, if_neg (by omega), if_pos (by omega)]; rfl
  · obtain ⟨e1, e2⟩ := tb_tab (t := x) (by omega) (by omega)
    rw [e1, e2]
    refine ⟨by omega, fj (by omega) (by omega), fj (by omega) (by omega), ?_⟩
    rw [len32, if_neg (by omega), if_neg (by omega), Int.zero_add]
theorem ok120 : p120.OK Tryz.prog := p120.ok (fn := Tryz.f120) (fun _ => cx [] []) (fun _ => cx0z) (by kernel_rfl) (by kernel_rfl) (by kernel_rfl) fun _ hp => vc120 hp.1 hp.2
theorem vc122 {x : Int} (h0 : 0 ≤ x) (h1 : x < 4294967296) : g122 x := by
  refine (g122_eq x).mpr ?_
  have := len32_bound h0 h1
  simp only [pp1, vQ, dQ, lQ, eq_self, and_true, true_and, and_self]
  exact ⟨⟨h0, h1⟩, fj (by omega) (by omega)⟩
theorem ok122 : p122.OK Tryz.prog := p122.ok (fn := Tryz.f122) (fun _ => cx [p120.ci] []) (fun _ => cx_ok (cs := [p120.ci]) ⟨PC.OK.ci ok120, trivial⟩ _) (by kernel_rfl) (by kernel_rfl) (by kernel_rfl) fun _ hp => vc122 hp.1 hp.2
end Go.SX.We.Nm

/- Chapter 08: one figure of a quotient, what is asked. -/
namespace Go.SX.We.Nm
open Go Go.Proofs
noncomputable section
structure X124 where
  us : List Int
  j : Nat
  v : List Int
@[reducible] def c124 : HC where
  f := 124
  X := X124
  Hs x := [.row 118 (.int .u32) 0 x.us]
  ags x := [.c (.mid 0 0 x.j (x.v.length + 1)), .c (.ro (.int .u32) x.v)]
  Pre x := (FigsF 4294967296 x.us ∧ FigsF 4294967296 x.v) ∧ (2 ≤ x.v.length ∧ x.v.length ≤ 200000) ∧ (x.us.length ≤ 200000 ∧ x.j + x.v.length + 1 ≤ x.us.length) ∧ 1 ≤ dV1 x.v ∧ dU x.us x.j x.v < dV x.v * 4294967296
  res x := .c (.int .u32 (dU x.us x.j x.v / dV x.v))
  out x := [.row 118 (.int .u32) 0 (putF x.us x.j (digs 4294967296 (dU x.us x.j x.v % dV x.v) (x.v.length + 1)))]
  fr _ := false
@[reducible] def A124a (x : X124) : Ann where
  τ := Int
  pre := []
  preC := []
  keep := [0, 1, 5, 6]
  slots g := [(7, .c (.int .u64 g)), (8, .c (.int .u64 (dTop x.us x.j x.v - g * dV1 x.v)))]
  ents _ := []
  ok g := (dU x.us x.j x.v / dV x.v ≤ g ∧ g ≤ 8589934592) ∧ 0 ≤ dTop x.us x.j x.v - g * dV1 x.v ∧ dTop x.us x.j x.v - g * dV1 x.v < 4294967296
  m g := g.toNat
@[reducible] def A124b (x : X124) (g : Int) : Ann where
  τ := Nat
  pre := []
  preC := []
  keep := [0, 1, 5, 82, 83]
  slots i := [(7, .c (.int .u64 g)), (9, .c (.int .u64 (dP x.v g i / 4294967296 ^ i))), (10, .c (.int .u32 (-(dD x.us x.j x.v g i / 4294967296 ^ i)))), (84, .c (.int .i64 i))]
  ents i := [(0, .row 118 (.int .u32) 1 (putF x.us x.j (digs 4294967296 (dD x.us x.j x.v g i) i)))]
  ok i := i ≤ x.v.length
  m i := x.v.length - i
@[reducible] def A124c (x : X124) (g : Int) : Ann where
  τ := Nat
  pre := []
  preC := []
  keep := [0, 1, 5, 131, 132]
  slots i := [(7, .c (.int .u64 g)), (13, .c (.int .u32 (dS x.us x.j x.v (g + 1) i / 4294967296 ^ i))), (133, .c (.int .i64 i))]
  ents i := [(0, .row 118 (.int .u32) 1 (putF x.us x.j (digs 4294967296 (dS x.us x.j x.v (g + 1) i) i ++ (digs 4294967296 (dW x.us x.j x.v (g + 1)) (x.v.length + 1)).drop i)))]
  ok i := i ≤ x.v.length
  m i := x.v.length - i
@[reducible] def C124 (x : X124) : Ctx := cx [p105.ci, p106.ci] [(0, fun _ => A124a x), (1, withI 7 fun g => A124b x g), (2, withI 7 fun g => A124c x g)]
def g124 (us : List Int) (j : Nat) (v : List Int) : Prop := HVC (C124 ⟨us, j, v⟩) Tryz.f124 c124 ⟨us, j, v⟩
end
end Go.SX.We.Nm

/- Printed by VC.lean: what the executor asks. -/
namespace Go.SX.We.Nm
open Go Go.Proofs IntKind List
def R124 (us : List Int) (j : Nat) (v : List Int) (G : Int) : Prop := (∃ (x0 : Nat), x0 ≤ v.length ∧ (us = putF us j (dQ (dD us j v G x0) x0) ∧ True) ∧ G = G ∧ 0 = dP v G x0 / 4294967296 ^ x0 ∧ 0 = -(dD us j v G x0 / 4294967296 ^ x0) ∧ 0 = (x0 : Int) ∧ (v.length : Int) = (v.length : Int) ∧ v = v ∧ (v.length : Int) = (v.length : Int) ∧ ((j = j ∧ v.length + 1 = v.length + 1) ∧ us.length = (putF us j (dQ (dD us j v G x0) x0)).length) ∧ v = v ∧ True) ∧ ∀ (x_1 : Nat), x_1 ≤ v.length → ((x_1 : Int) < (v.length : Int) → (x_1 : Int) < (v.length : Int) ∧ (0 ≤ (x_1 : Int) ∧ (x_1 : Int) < (v.length : Int)) ∧ ((0 : Int) ≤ 32 ∧ (32 : Int) < 64) ∧ (0 ≤ (x_1 : Int) ∧ (x_1 : Int) < (↑(v.length + 1) : Int)) ∧ ((0 ≤ (putF us j (dQ (dD us j v G x_1) x_1)).getD (j + (x_1 : Int).toNat) 0 ∧ (putF us j (dQ (dD us j v G x_1) x_1)).getD (j + (x_1 : Int).toNat) (0 : Int) < 4294967296) ∧ (0 ≤ u32.wrap (u64.wrap (u64.wrap (G * u64.wrap (v.getD (x_1 : Int).toNat 0)) + dP v G x_1 / 4294967296 ^ x_1)) ∧ u32.wrap (u64.wrap (u64.wrap (G * u64.wrap (v.getD (x_1 : Int).toNat 0)) + dP v G x_1 / 4294967296 ^ x_1)) < 4294967296) ∧ 0 ≤ -(dD us j v G x_1 / 4294967296 ^ x_1) ∧ -(dD us j v G x_1 / 4294967296 ^ x_1) ≤ 1) ∧ (0 ≤ (x_1 : Int) ∧ (x_1 : Int) < (↑(v.length + 1) : Int)) ∧ Fits .i64 ((x_1 : Int) + 1) ∧ ∃ (G' : Nat), G' ≤ v.length ∧ v.length - G' < v.length - x_1 ∧ ((putF us j (dQ (dD us j v G x_1) x_1)).set (j + (x_1 : Int).toNat) (((putF us j (dQ (dD us j v G x_1) x_1)).getD (j + (x_1 : Int).toNat) 0 - u32.wrap (u64.wrap (u64.wrap (G * u64.wrap (v.getD (x_1 : Int).toNat 0)) + dP v G x_1 / 4294967296 ^ x_1)) - -(dD us j v G x_1 / 4294967296 ^ x_1)) % 4294967296) = putF us j (dQ (dD us j v G G') G') ∧ True) ∧ G = G ∧ u64.wrap (u64.wrap (G * u64.wrap (v.getD (x_1 : Int).toNat 0)) + dP v G x_1 / 4294967296 ^ x_1) / 2 ^ Int.toNat 32 = dP v G G' / 4294967296 ^ G' ∧ -(((putF us j (dQ (dD us j v G x_1) x_1)).getD (j + (x_1 : Int).toNat) 0 - u32.wrap (u64.wrap (u64.wrap (G * u64.wrap (v.getD (x_1 : Int).toNat 0)) + dP v G x_1 / 4294967296 ^ x_1)) - -(dD us j v G x_1 / 4294967296 ^ x_1)) / 4294967296) = -(dD us j v G G' / 4294967296 ^ G') ∧ (x_1 : Int) + 1 = (G' : Int) ∧ (v.length : Int) = (v.length : Int) ∧ v = v ∧ (v.length : Int) = (v.length : Int) ∧ ((j = j ∧ v.length + 1 = v.length + 1) ∧ ((putF us j (dQ (dD us j v G x_1) x_1)).set (j + (x_1 : Int).toNat) (((putF us j (dQ (dD us j v G x_1) x_1)).getD (j + (x_1 : Int).toNat) 0 - u32.wrap (u64.wrap (u64.wrap (G * u64.wrap (v.getD (x_1 : Int).toNat 0)) + dP v G x_1 / 4294967296 ^ x_1)) - -(dD us j v G x_1 / 4294967296 ^ x_1)) % 4294967296)).length = (putF us j (dQ (dD us j v G G') G')).length) ∧ v = v ∧ True) ∧ (¬(x_1 : Int) < (v.length : Int) → ¬(x_1 : Int) < (v.length : Int) ∧ (0 ≤ (v.length : Int) ∧ (v.length : Int) < (↑(v.length + 1) : Int)) ∧ ((0 ≤ (putF us j (dQ (dD us j v G x_1) x_1)).getD (j + (v.length : Int).toNat) 0 ∧ (putF us j (dQ (dD us j v G x_1) x_1)).getD (j + (v.length : Int).toNat) (0 : Int) < 4294967296) ∧ (0 ≤ u32.wrap (dP v G x_1 / 4294967296 ^ x_1) ∧ u32.wrap (dP v G x_1 / 4294967296 ^ x_1) < 4294967296) ∧ 0 ≤ -(dD us j v G x_1 / 4294967296 ^ x_1) ∧ -(dD us j v G x_1 / 4294967296 ^ x_1) ≤ 1) ∧ (0 ≤ (v.length : Int) ∧ (v.length : Int) < (↑(v.length + 1) : Int)) ∧ (0 < -(((putF us j (dQ (dD us j v G x_1) x_1)).getD (j + (v.length : Int).toNat) 0 - u32.wrap (dP v G x_1 / 4294967296 ^ x_1) - -(dD us j v G x_1 / 4294967296 ^ x_1)) / 4294967296) → 0 < -(((putF us j (dQ (dD us j v G x_1) x_1)).getD (j + (v.length : Int).toNat) 0 - u32.wrap (dP v G x_1 / 4294967296 ^ x_1) - -(dD us j v G x_1 / 4294967296 ^ x_1)) / 4294967296) ∧ (∃ (x0 : Nat), x0 ≤ v.length ∧ ((putF us j (dQ (dD us j v G x_1) x_1)).set (j + (v.length : Int).toNat) (((putF us j (dQ (dD us j v G x_1) x_1)).getD (j + (v.length : Int).toNat) 0 - u32.wrap (dP v G x_1 / 4294967296 ^ x_1) - -(dD us j v G x_1 / 4294967296 ^ x_1)) % 4294967296) = putF us j (dQ (dS us j v (u64.wrap (G - 1) + 1) x0) x0 ++ drop x0 (dQ (dW us j v (u64.wrap (G - 1) + 1)) (v.length + 1))) ∧ True) ∧ u64.wrap (G - 1) = u64.wrap (G - 1) ∧ 0 = dS us j v (u64.wrap (G - 1) + 1) x0 / 4294967296 ^ x0 ∧ 0 = (x0 : Int) ∧ (v.length : Int) = (v.length : Int) ∧ v = v ∧ (v.length : Int) = (v.length : Int) ∧ ((j = j ∧ v.length + 1 = v.length + 1) ∧ ((putF us j (dQ (dD us j v G x_1) x_1)).set (j + (v.length : Int).toNat) (((putF us j (dQ (dD us j v G x_1) x_1)).getD (j + (v.length : Int).toNat) 0 - u32.wrap (dP v G x_1 / 4294967296 ^ x_1) - -(dD us j v G x_1 / 4294967296 ^ x_1)) % 4294967296)).length = (putF us j (dQ (dS us j v (u64.wrap (G - 1) + 1) x0) x0 ++ drop x0 (dQ (dW us j v (u64.wrap (G - 1) + 1)) (v.length + 1)))).length) ∧ v = v ∧ True) ∧ ∀ (x_2 : Nat), x_2 ≤ v.length → ((x_2 : Int) < (v.length : Int) → (x_2 : Int) < (v.length : Int) ∧ (0 ≤ (x_2 : Int) ∧ (x_2 : Int) < (↑(v.length + 1) : Int)) ∧ (0 ≤ (x_2 : Int) ∧ (x_2 : Int) < (v.length : Int)) ∧ ((0 ≤ (putF us j (dQ (dS us j v (u64.wrap (G - 1) + 1) x_2) x_2 ++ drop x_2 (dQ (dW us j v (u64.wrap (G - 1) + 1)) (v.length + 1)))).getD (j + (x_2 : Int).toNat) 0 ∧ (putF us j (dQ (dS us j v (u64.wrap (G - 1) + 1) x_2) x_2 ++ drop x_2 (dQ (dW us j v (u64.wrap (G - 1) + 1)) (v.length + 1)))).getD (j + (x_2 : Int).toNat) (0 : Int) < 4294967296) ∧ (0 ≤ v.getD (x_2 : Int).toNat 0 ∧ v.getD (x_2 : Int).toNat (0 : Int) < 4294967296) ∧ 0 ≤ dS us j v (u64.wrap (G - 1) + 1) x_2 / 4294967296 ^ x_2 ∧ dS us j v (u64.wrap (G - 1) + 1) x_2 / 4294967296 ^ x_2 ≤ 1) ∧ (0 ≤ (x_2 : Int) ∧ (x_2 : Int) < (↑(v.length + 1) : Int)) ∧ Fits .i64 ((x_2 : Int) + 1) ∧ ∃ (G' : Nat), G' ≤ v.length ∧ v.length - G' < v.length - x_2 ∧ ((putF us j (dQ (dS us j v (u64.wrap (G - 1) + 1) x_2) x_2 ++ drop x_2 (dQ (dW us j v (u64.wrap (G - 1) + 1)) (v.length + 1)))).set (j + (x_2 : Int).toNat) (((putF us j (dQ (dS us j v (u64.wrap (G - 1) + 1) x_2) x_2 ++ drop x_2 (dQ (dW us j v (u64.wrap (G - 1) + 1)) (v.length + 1)))).getD (j + (x_2 : Int).toNat) 0 + v.getD (x_2 : Int).toNat 0 + dS us j v (u64.wrap (G - 1) + 1) x_2 / 4294967296 ^ x_2) % 4294967296) = putF us j (dQ (dS us j v (u64.wrap (G - 1) + 1) G') G' ++ drop G' (dQ (dW us j v (u64.wrap (G - 1) + 1)) (v.length + 1))) ∧ True) ∧ u64.wrap (G - 1) = u64.wrap (G - 1) ∧ ((putF us j (dQ (dS us j v (u64.wrap (G - 1) + 1) x_2) x_2 ++ drop x_2 (dQ (dW us j v (u64.wrap (G - 1) + 1)) (v.length + 1)))).getD (j + (x_2 : Int).toNat) 0 + v.getD (x_2 : Int).toNat 0 + dS us j v (u64.wrap (G - 1) + 1) x_2 / 4294967296 ^ x_2) / 4294967296 = dS us j v (u64.wrap (G - 1) + 1) G' / 4294967296 ^ G' ∧ (x_2 : Int) + 1 = (G' : Int) ∧ (v.length : Int) = (v.length : Int) ∧ v = v ∧ (v.length : Int) = (v.length : Int) ∧ ((j = j ∧ v.length + 1 = v.length + 1) ∧ ((putF us j (dQ (dS us j v (u64.wrap (G - 1) + 1) x_2) x_2 ++ drop x_2 (dQ (dW us j v (u64.wrap (G - 1) + 1)) (v.length + 1)))).set (j + (x_2 : Int).toNat) (((putF us j (dQ (dS us j v (u64.wrap (G - 1) + 1) x_2) x_2 ++ drop x_2 (dQ (dW us j v (u64.wrap (G - 1) + 1)) (v.length + 1)))).getD (j + (x_2 : Int).toNat) 0 + v.getD (x_2 : Int).toNat 0 + dS us j v (u64.wrap (G - 1) + 1) x_2 / 4294967296 ^ x_2) % 4294967296)).length = (putF us j (dQ (dS us j v (u64.wrap (G - 1) + 1) G') G' ++ drop G' (dQ (dW us j v (u64.wrap (G - 1) + 1)) (v.length + 1)))).length) ∧ v = v ∧ True) ∧ (¬(x_2 : Int) < (v.length : Int) → ¬(x_2 : Int) < (v.length : Int) ∧ (0 ≤ (v.length : Int) ∧ (v.length : Int) < (↑(v.length + 1) : Int)) ∧ (0 ≤ (v.length : Int) ∧ (v.length : Int) < (↑(v.length + 1) : Int)) ∧ u32.wrap (u64.wrap (G - 1)) = dU us j v / dV v ∧ (putF us j (dQ (dS us j v (u64.wrap (G - 1) + 1) x_2) x_2 ++ drop x_2 (dQ (dW us j v (u64.wrap (G - 1) + 1)) (v.length + 1)))).set (j + (v.length : Int).toNat) (u32.wrap ((putF us j (dQ (dS us j v (u64.wrap (G - 1) + 1) x_2) x_2 ++ drop x_2 (dQ (dW us j v (u64.wrap (G - 1) + 1)) (v.length + 1)))).getD (j + (v.length : Int).toNat) 0 + dS us j v (u64.wrap (G - 1) + 1) x_2 / 4294967296 ^ x_2)) = putF us j (dQ (dU us j v % dV v) (v.length + 1)) ∧ True)) ∧ (¬0 < -(((putF us j (dQ (dD us j v G x_1) x_1)).getD (j + (v.length : Int).toNat) 0 - u32.wrap (dP v G x_1 / 4294967296 ^ x_1) - -(dD us j v G x_1 / 4294967296 ^ x_1)) / 4294967296) → ¬0 < -(((putF us j (dQ (dD us j v G x_1) x_1)).getD (j + (v.length : Int).toNat) 0 - u32.wrap (dP v G x_1 / 4294967296 ^ x_1) - -(dD us j v G x_1 / 4294967296 ^ x_1)) / 4294967296) ∧ u32.wrap G = dU us j v / dV v ∧ (putF us j (dQ (dD us j v G x_1) x_1)).set (j + (v.length : Int).toNat) (((putF us j (dQ (dD us j v G x_1) x_1)).getD (j + (v.length : Int).toNat) 0 - u32.wrap (dP v G x_1 / 4294967296 ^ x_1) - -(dD us j v G x_1 / 4294967296 ^ x_1)) % 4294967296) = putF us j (dQ (dU us j v % dV v) (v.length + 1)) ∧ True))
theorem g124_eq (us : List Int) (j : Nat) (v : List Int) : g124 us j v = ((0 ≤ (v.length : Int) ∧ (v.length : Int) < (↑(v.length + 1) : Int)) ∧ ((0 : Int) ≤ 32 ∧ (32 : Int) < 64) ∧ Fits .i64 ((v.length : Int) - 1) ∧ (0 ≤ (v.length : Int) - 1 ∧ (v.length : Int) - 1 < (↑(v.length + 1) : Int)) ∧ Fits .i64 ((v.length : Int) - 1) ∧ (0 ≤ (v.length : Int) - 1 ∧ (v.length : Int) - 1 < (v.length : Int)) ∧ (0 ≤ bitsF .or .u64 (u64.wrap (u64.wrap (us.getD (j + (v.length : Int).toNat) 0) * 2 ^ Int.toNat 32)) (u64.wrap (us.getD (j + ((v.length : Int) - 1).toNat) 0)) ∧ 0 < u64.wrap (v.getD ((v.length : Int) - 1).toNat 0)) ∧ Fits .i64 ((v.length : Int) - 1) ∧ (0 ≤ (v.length : Int) - 1 ∧ (v.length : Int) - 1 < (v.length : Int)) ∧ (0 ≤ bitsF .or .u64 (u64.wrap (u64.wrap (us.getD (j + (v.length : Int).toNat) 0) * 2 ^ Int.toNat 32)) (u64.wrap (us.getD (j + ((v.length : Int) - 1).toNat) 0)) ∧ 0 < u64.wrap (v.getD ((v.length : Int) - 1).toNat 0)) ∧ (∃ (x0 : Int), ((dU us j v / dV v ≤ x0 ∧ x0 ≤ 8589934592) ∧ 0 ≤ dTop us j v - x0 * dV1 v ∧ dTop us j v - x0 * dV1 v < 4294967296) ∧ (us = us ∧ True) ∧ u64.wrap (bitsF .or .u64 (u64.wrap (u64.wrap (us.getD (j + (v.length : Int).toNat) 0) * 2 ^ Int.toNat 32)) (u64.wrap (us.getD (j + ((v.length : Int) - 1).toNat) 0)) / u64.wrap (v.getD ((v.length : Int) - 1).toNat 0)) = x0 ∧ bitsF .or .u64 (u64.wrap (u64.wrap (us.getD (j + (v.length : Int).toNat) 0) * 2 ^ Int.toNat 32)) (u64.wrap (us.getD (j + ((v.length : Int) - 1).toNat) 0)) % u64.wrap (v.getD ((v.length : Int) - 1).toNat 0) = dTop us j v - x0 * dV1 v ∧ bitsF .or .u64 (u64.wrap (u64.wrap (us.getD (j + (v.length : Int).toNat) 0) * 2 ^ Int.toNat 32)) (u64.wrap (us.getD (j + ((v.length : Int) - 1).toNat) 0)) = bitsF .or .u64 (u64.wrap (u64.wrap (us.getD (j + (v.length : Int).toNat) 0) * 2 ^ Int.toNat 32)) (u64.wrap (us.getD (j + ((v.length : Int) - 1).toNat) 0)) ∧ (v.length : Int) = (v.length : Int) ∧ ((j = j ∧ v.length + 1 = v.length + 1) ∧ us.length = us.length) ∧ v = v ∧ True) ∧ ∀ (x : Int), (dU us j v / dV v ≤ x ∧ x ≤ 8589934592) ∧ 0 ≤ dTop us j v - x * dV1 v ∧ dTop us j v - x * dV1 v < 4294967296 → ((0 : Int) ≤ 32 ∧ (32 : Int) < 64) ∧ (0 < x / 2 ^ Int.toNat 32 → 0 < x / 2 ^ Int.toNat 32 ∧ 0 < x / 2 ^ Int.toNat 32 ∧ Fits .i64 ((v.length : Int) - 1) ∧ (0 ≤ (v.length : Int) - 1 ∧ (v.length : Int) - 1 < (v.length : Int)) ∧ ((0 : Int) ≤ 32 ∧ (32 : Int) < 64) ∧ (0 < u64.wrap (dTop us j v - x * dV1 v + u64.wrap (v.getD ((v.length : Int) - 1).toNat 0)) / 2 ^ Int.toNat 32 → 0 < u64.wrap (dTop us j v - x * dV1 v + u64.wrap (v.getD ((v.length : Int) - 1).toNat 0)) / 2 ^ Int.toNat 32 ∧ R124 us j v (u64.wrap (x - 1))) ∧ (¬0 < u64.wrap (dTop us j v - x * dV1 v + u64.wrap (v.getD ((v.length : Int) - 1).toNat 0)) / 2 ^ Int.toNat 32 → ¬0 < u64.wrap (dTop us j v - x * dV1 v + u64.wrap (v.getD ((v.length : Int) - 1).toNat 0)) / 2 ^ Int.toNat 32 ∧ ∃ (x' : Int), ((dU us j v / dV v ≤ x' ∧ x' ≤ 8589934592) ∧ 0 ≤ dTop us j v - x' * dV1 v ∧ dTop us j v - x' * dV1 v < 4294967296) ∧ x'.toNat < x.toNat ∧ (us = us ∧ True) ∧ u64.wrap (x - 1) = x' ∧ u64.wrap (dTop us j v - x * dV1 v + u64.wrap (v.getD ((v.length : Int) - 1).toNat 0)) = dTop us j v - x' * dV1 v ∧ bitsF .or .u64 (u64.wrap (u64.wrap (us.getD (j + (v.length : Int).toNat) 0) * 2 ^ Int.toNat 32)) (u64.wrap (us.getD (j + ((v.length : Int) - 1).toNat) 0)) = bitsF .or .u64 (u64.wrap (u64.wrap (us.getD (j + (v.length : Int).toNat) 0) * 2 ^ Int.toNat 32)) (u64.wrap (us.getD (j + ((v.length : Int) - 1).toNat) 0)) ∧ (v.length : Int) = (v.length : Int) ∧ ((j = j ∧ v.length + 1 = v.length + 1) ∧ us.length = us.length) ∧ v = v ∧ True)) ∧ (¬0 < x / 2 ^ Int.toNat 32 → ¬0 < x / 2 ^ Int.toNat 32 ∧ ¬0 < x / 2 ^ Int.toNat 32 ∧ Fits .i64 ((v.length : Int) - 2) ∧ (0 ≤ (v.length : Int) - 2 ∧ (v.length : Int) - 2 < (v.length : Int)) ∧ ((0 : Int) ≤ 32 ∧ (32 : Int) < 64) ∧ Fits .i64 ((v.length : Int) - 2) ∧ (0 ≤ (v.length : Int) - 2 ∧ (v.length : Int) - 2 < (↑(v.length + 1) : Int)) ∧ (bitsF .or .u64 (u64.wrap ((dTop us j v - x * dV1 v) * 2 ^ Int.toNat 32)) (u64.wrap (us.getD (j + ((v.length : Int) - 2).toNat) 0)) < u64.wrap (x * u64.wrap (v.getD ((v.length : Int) - 2).toNat 0)) → bitsF .or .u64 (u64.wrap ((dTop us j v - x * dV1 v) * 2 ^ Int.toNat 32)) (u64.wrap (us.getD (j + ((v.length : Int) - 2).toNat) 0)) < u64.wrap (x * u64.wrap (v.getD ((v.length : Int) - 2).toNat 0)) ∧ bitsF .or .u64 (u64.wrap ((dTop us j v - x * dV1 v) * 2 ^ Int.toNat 32)) (u64.wrap (us.getD (j + ((v.length : Int) - 2).toNat) 0)) < u64.wrap (x * u64.wrap (v.getD ((v.length : Int) - 2).toNat 0)) ∧ Fits .i64 ((v.length : Int) - 1) ∧ (0 ≤ (v.length : Int) - 1 ∧ (v.length : Int) - 1 < (v.length : Int)) ∧ ((0 : Int) ≤ 32 ∧ (32 : Int) < 64) ∧ (0 < u64.wrap (dTop us j v - x * dV1 v + u64.wrap (v.getD ((v.length : Int) - 1).toNat 0)) / 2 ^ Int.toNat 32 → 0 < u64.wrap (dTop us j v - x * dV1 v + u64.wrap (v.getD ((v.length : Int) - 1).toNat 0)) / 2 ^ Int.toNat 32 ∧ R124 us j v (u64.wrap (x - 1))) ∧ (¬0 < u64.wrap (dTop us j v - x * dV1 v + u64.wrap (v.getD ((v.length : Int) - 1).toNat 0)) / 2 ^ Int.toNat 32 → ¬0 < u64.wrap (dTop us j v - x * dV1 v + u64.wrap (v.getD ((v.length : Int) - 1).toNat 0)) / 2 ^ Int.toNat 32 ∧ ∃ (x' : Int), ((dU us j v / dV v ≤ x' ∧ x' ≤ 8589934592) ∧ 0 ≤ dTop us j v - x' * dV1 v ∧ dTop us j v - x' * dV1 v < 4294967296) ∧ x'.toNat < x.toNat ∧ (us = us ∧ True) ∧ u64.wrap (x - 1) = x' ∧ u64.wrap (dTop us j v - x * dV1 v + u64.wrap (v.getD ((v.length : Int) - 1).toNat 0)) = dTop us j v - x' * dV1 v ∧ bitsF .or .u64 (u64.wrap (u64.wrap (us.getD (j + (v.length : Int).toNat) 0) * 2 ^ Int.toNat 32)) (u64.wrap (us.getD (j + ((v.length : Int) - 1).toNat) 0)) = bitsF .or .u64 (u64.wrap (u64.wrap (us.getD (j + (v.length : Int).toNat) 0) * 2 ^ Int.toNat 32)) (u64.wrap (us.getD (j + ((v.length : Int) - 1).toNat) 0)) ∧ (v.length : Int) = (v.length : Int) ∧ ((j = j ∧ v.length + 1 = v.length + 1) ∧ us.length = us.length) ∧ v = v ∧ True)) ∧ (¬bitsF .or .u64 (u64.wrap ((dTop us j v - x * dV1 v) * 2 ^ Int.toNat 32)) (u64.wrap (us.getD (j + ((v.length : Int) - 2).toNat) 0)) < u64.wrap (x * u64.wrap (v.getD ((v.length : Int) - 2).toNat 0)) → ¬bitsF .or .u64 (u64.wrap ((dTop us j v - x * dV1 v) * 2 ^ Int.toNat 32)) (u64.wrap (us.getD (j + ((v.length : Int) - 2).toNat) 0)) < u64.wrap (x * u64.wrap (v.getD ((v.length : Int) - 2).toNat 0)) ∧ ¬bitsF .or .u64 (u64.wrap ((dTop us j v - x * dV1 v) * 2 ^ Int.toNat 32)) (u64.wrap (us.getD (j + ((v.length : Int) - 2).toNat) 0)) < u64.wrap (x * u64.wrap (v.getD ((v.length : Int) - 2).toNat 0)) ∧ R124 us j v x))) := by kernel_rfl
end Go.SX.We.Nm

/- Chapter 08: one figure of a quotient, proved. -/
namespace Go.SX.We.Nm
open Go Go.Proofs
section
variable {us v : List Int} {j : Nat}
theorem set_row {S c : Int} {x : Nat} (hx : j + x < us.length) : (putF us j (digs 4294967296 S x)).set (j + x) ((S / 4294967296 ^ x + c) % 4294967296) = putF us j (digs 4294967296 (S + c * 4294967296 ^ x) (x + 1)) := by
  have := putF_set_end (us := us) (j := j) (ys := digs 4294967296 S x) (by rw [digs_len]; exact hx) ((S / 4294967296 ^ x + c) % 4294967296)
  rw [digs_len] at this
  rw [this, digs_step cw0]
theorem get_row (h : DigP us j v) {S : Int} {x : Nat} (hx : x ≤ v.length) : (putF us j (digs 4294967296 S x)).getD (j + x) 0 = us.getD (j + x) 0 :=
  putF_ge (by rw [digs_len]; have := h.room; omega) (by rw [digs_len]; exact Nat.le_refl _)
theorem dig_mul (h : DigP us j v) {g : Int} (g0 : 0 ≤ g) (g1 : g < 4294967296) (x : Nat) : IntKind.u64.wrap (IntKind.u64.wrap (g * IntKind.u64.wrap (v.getD x 0)) + dP v g x / 4294967296 ^ x) = dP v g x / 4294967296 ^ x + g * v.getD x 0 := by
  have r := figs_getD cw0 h.fv x
  have p := h.p_range g0 g1 x
  have m0 : 0 ≤ g * v.getD x 0 := Int.mul_nonneg g0 r.1
  have m1 : g * v.getD x 0 ≤ 4294967295 * 4294967295 := Int.le_trans (Int.mul_le_mul_of_nonneg_left (show v.getD x 0 ≤ 4294967295 by omega) g0) (Int.mul_le_mul_of_nonneg_right (by omega) (by omega))
  rw [w64_id (n := v.getD x 0) r.1 (by omega), w64_id (n := g * v.getD x 0) m0 (by omega), w64_id (by omega) (by omega), Int.add_comm]
theorem dig_step (h : DigP us j v) {g : Int} (g0 : 0 ≤ g) (g1 : g < 4294967296) {x : Nat} (hx : x < v.length) :
    (putF us j (digs 4294967296 (dD us j v g x) x)).set (j + x) ((us.getD (j + x) 0 - (dP v g x / 4294967296 ^ x + g * v.getD x 0) % 4294967296 - -(dD us j v g x / 4294967296 ^ x)) % 4294967296) = putF us j (digs 4294967296 (dD us j v g (x + 1)) (x + 1)) ∧
    (dP v g x / 4294967296 ^ x + g * v.getD x 0) / 4294967296 = dP v g (x + 1) / 4294967296 ^ (x + 1) ∧
    -((us.getD (j + x) 0 - (dP v g x / 4294967296 ^ x + g * v.getD x 0) % 4294967296 - -(dD us j v g x / 4294967296 ^ x)) / 4294967296) = -(dD us j v g (x + 1) / 4294967296 ^ (x + 1)) := by
  have hr := h.room
  rw [dD_succ us j v g (Nat.le_of_lt hx), dP_succ, div_step cw0, div_step cw0, ← set_row (by omega)]
  refine ⟨?_, rfl, ?_⟩
  · congr 2; omega
  · congr 2; omega
theorem dig_top (h : DigP us j v) (g : Int) {x : Nat} (hx : x = v.length) :
    (putF us j (digs 4294967296 (dD us j v g x) x)).set (j + v.length) ((us.getD (j + v.length) 0 - dP v g x / 4294967296 ^ x - -(dD us j v g x / 4294967296 ^ x)) % 4294967296) = putF us j (digs 4294967296 (dW us j v g) (v.length + 1)) ∧
    -((us.getD (j + v.length) 0 - dP v g x / 4294967296 ^ x - -(dD us j v g x / 4294967296 ^ x)) / 4294967296) = -(dW us j v g / 4294967296 ^ (v.length + 1)) := by
  have hr := h.room
  subst hx
  rw [dW_eq h g, div_step cw0, ← set_row (by omega)]
  refine ⟨?_, ?_⟩
  · congr 2; omega
  · congr 2; omega
theorem two_len (us : List Int) (j : Nat) (v : List Int) (S W : Int) {x : Nat} (hx : x ≤ v.length) : (digs 4294967296 S x ++ List.drop x (digs 4294967296 W (v.length + 1))).length = v.length + 1 := by
  rw [List.length_append, List.length_drop, digs_len, digs_len]; omega
theorem two_get (h : DigP us j v) {S W : Int} {x : Nat} (hx : x ≤ v.length) : (putF us j (digs 4294967296 S x ++ List.drop x (digs 4294967296 W (v.length + 1)))).getD (j + x) 0 = W / 4294967296 ^ x % 4294967296 := by
  have hr := h.room
  rw [putF_lt (by omega) (by rw [two_len us j v S W hx]; omega), List.getD_eq_getElem?_getD, List.getElem?_append_right (by rw [digs_len]; omega), digs_len, Nat.sub_self, List.getElem?_drop, ← List.getD_eq_getElem?_getD, digs_get cw0 _ (by omega), Nat.add_zero]
theorem two_set (h : DigP us j v) {S W c : Int} {x : Nat} (hx : x ≤ v.length) : (putF us j (digs 4294967296 S x ++ List.drop x (digs 4294967296 W (v.length + 1)))).set (j + x) ((S / 4294967296 ^ x + c) % 4294967296) = putF us j (digs 4294967296 (S + c * 4294967296 ^ x) (x + 1) ++ List.drop (x + 1) (digs 4294967296 W (v.length + 1))) := by
  have hr := h.room
  rw [putF_set (by omega) (by rw [two_len us j v S W hx]; omega), List.set_append_right _ _ (by rw [digs_len]; omega), digs_len, Nat.sub_self, List.drop_eq_getElem_cons (by rw [digs_len]; omega), List.set_cons_zero, digs_step cw0, List.append_assoc]
  rfl
theorem two_plen (h : DigP us j v) {S W : Int} {x : Nat} (hx : x ≤ v.length) : (putF us j (digs 4294967296 S x ++ List.drop x (digs 4294967296 W (v.length + 1)))).length = us.length := by
  have hr := h.room
  exact putF_len (by rw [two_len us j v S W hx]; omega)
theorem one_plen (h : DigP us j v) {S : Int} {x : Nat} (hx : x ≤ v.length + 1) : (putF us j (digs 4294967296 S x)).length = us.length := by
  have hr := h.room
  exact putF_len (by rw [digs_len]; omega)
theorem R124_ok (h : DigP us j v) {G : Int} (g1 : G < 4294967296) (q0 : dU us j v / dV v ≤ G) (q1 : G ≤ dU us j v / dV v + 1) : R124 us j v G := by
  have hq := h.q0
  have g0 : 0 ≤ G := by omega
  have hn := h.n2
  have hnv := h.nv
  have hr := h.room
  have hu := h.nu
  obtain ⟨w1, w2, w3, w4⟩ := h.w_range q0 q1
  unfold R124
  simp only [pp1, vQ, dQ, lQ, eq_self, and_true, true_and, and_self, Int.toNat_natCast, dig_mul h g0 g1, e32, w32]
  refine ⟨⟨0, by omega, putF_nil.symm, by simp [dP, valF], by simp [dD_zero], rfl, (one_plen h (by omega)).symm⟩, fun x hx => ⟨fun h1 => ?_, fun h1 => ?_⟩⟩
  · have hx' : x < v.length := by omega
    rw [get_row h hx]
    obtain ⟨s1, s2, s3⟩ := dig_step h g0 g1 hx'
    refine ⟨by omega, by omega, by omega, ⟨figs_getD cw0 h.fu _, by omega, h.d_range G x⟩, by omega, fj (by omega) (by omega), x + 1, by omega, by omega, s1, s2, s3, by omega, ?_⟩
    rw [List.length_set, one_plen h (by omega), one_plen h (by omega)]
  · have hx' : x = v.length := by omega
    subst hx'
    rw [get_row h (Nat.le_refl _)]
    have p := h.p_range g0 g1 v.length
    have ep : dP v G v.length / 4294967296 ^ v.length % 4294967296 = dP v G v.length / 4294967296 ^ v.length := Int.emod_eq_of_lt p.1 p.2
    obtain ⟨t1, t2⟩ := dig_top h G (x := v.length) rfl
    rw [ep, t1, t2]
    refine ⟨by omega, ⟨figs_getD cw0 h.fu _, by omega, h.d_range G v.length⟩, by omega, fun h2 => ?_, fun h2 => ?_⟩
    · have hw : dW us j v G < 0 := by
        rcases Int.lt_or_le (dW us j v G) 0 with hlt | hge
        · exact hlt
        · have := Int.ediv_nonneg hge (Int.le_of_lt (pow_pos' cw0 (v.length + 1)))
          omega
      obtain ⟨hG, hW⟩ := w2 hw
      have eG : IntKind.u64.wrap (G - 1) + 1 = G := by rw [w64_id (by omega) (by omega)]; omega
      simp only [eG]
      refine ⟨⟨0, by omega, by simp [digs], by simp [dS, valF, Int.emod_one], rfl, ?_⟩, fun x hx => ⟨fun h3 => ?_, fun h3 => ?_⟩⟩
      · rw [one_plen h (by omega), two_plen h (by omega)]
      · rw [two_get h hx]
        have e0 : ∀ a b c : Int, a + b + c = c + (a + b) := fun a b c => by omega
        refine ⟨by omega, by omega, ⟨⟨Int.emod_nonneg _ (by decide), Int.emod_lt_of_pos _ (by decide)⟩, figs_getD cw0 h.fv x, h.s_range G x⟩, by omega, fj (by omega) (by omega), x + 1, by omega, by omega, ?_, ?_, by omega, ?_⟩
        · rw [dS_succ, e0, two_set h hx]
        · rw [dS_succ, div_step cw0, e0]
        · rw [List.length_set, two_plen h hx, two_plen h (by omega)]
      · have hx' : x = v.length := by omega
        subst hx'
        rw [two_get h (Nat.le_refl _)]
        refine ⟨by omega, by omega, ?_, ?_⟩
        · rw [w64_id (by omega) (by omega)]; omega
        · have e1 : (dW us j v G / 4294967296 ^ v.length % 4294967296 + dS us j v G v.length / 4294967296 ^ v.length) % 4294967296 = (dS us j v G v.length / 4294967296 ^ v.length + dW us j v G / 4294967296 ^ v.length) % 4294967296 := by omega
          rw [e1, two_set h (Nat.le_refl _), ← dW_back h G, hW, List.drop_eq_nil_of_le (by rw [digs_len]; omega), List.append_nil]
    · have hw : 0 ≤ dW us j v G := by
        rcases Int.lt_or_le (dW us j v G) 0 with hlt | hge
        · have : dW us j v G / 4294967296 ^ (v.length + 1) < 0 := Int.ediv_neg_of_neg_of_pos hlt (pow_pos' cw0 (v.length + 1))
          omega
        · exact hge
      obtain ⟨hG, hW⟩ := w1 hw
      rw [hW]
      exact ⟨by omega, rfl⟩
theorem vc124 (h : DigP us j v) : g124 us j v := by
  refine (g124_eq us j v).mpr ?_
  have hq := h.q0
  have hn := h.n2
  have hnv := h.nv
  have hr := h.room
  have hu := h.nu
  have ht := h.top
  have hv1 := h.v1
  have htop := h.top_le
  have n1 : ((v.length : Int) - 1).toNat = v.length - 1 := by omega
  have n2 : ((v.length : Int) - 2).toNat = v.length - 2 := by omega
  have fa := figs_getD cw0 h.fu (j + v.length)
  have fb := figs_getD cw0 h.fu (j + (v.length - 1))
  have fc := figs_getD cw0 h.fu (j + (v.length - 2))
  have fd := figs_getD cw0 h.fv (v.length - 2)
  have eT : bitsF BinOp.or IntKind.u64 (IntKind.u64.wrap (us.getD (j + v.length) 0 * 4294967296)) (IntKind.u64.wrap (us.getD (j + (v.length - 1)) 0)) = dTop us j v := by
    rw [(word_or fa fb).1]; rfl
  have eV : v.getD (v.length - 1) 0 = dV1 v := rfl
  simp only [pp1, vQ, dQ, lQ, eq_self, and_true, true_and, and_self, Int.toNat_natCast, e32, n1, n2, eV]
  have wa : IntKind.u64.wrap (us.getD (j + v.length) 0) = us.getD (j + v.length) 0 := w64_id fa.1 (by omega)
  have wv : IntKind.u64.wrap (dV1 v) = dV1 v := w64_id (by omega) (by omega)
  have wd : IntKind.u64.wrap (v.getD (v.length - 2) 0) = v.getD (v.length - 2) 0 := w64_id fd.1 (by omega)
  simp only [wa, wv, wd, eT]
  have hf := h.first
  have hd0 : 0 ≤ dTop us j v / dV1 v := Int.ediv_nonneg htop.1 (by omega)
  have hd1 : dTop us j v / dV1 v < 8589934592 := Int.ediv_lt_of_lt_mul (by omega) (by rw [Int.add_mul] at htop; omega)
  have hm0 : 0 ≤ dTop us j v % dV1 v := Int.emod_nonneg _ (by omega)
  have hm1 : dTop us j v % dV1 v < dV1 v := Int.emod_lt_of_pos _ (by omega)
  have hme := Int.emod_add_mul_ediv (dTop us j v) (dV1 v)
  rw [Int.mul_comm (dV1 v)] at hme
  refine ⟨by omega, by omega, fj (by omega) (by omega), by omega, fj (by omega) (by omega), by omega, by omega, fj (by omega) (by omega), by omega, by omega, ⟨dTop us j v / dV1 v, ⟨⟨hf, by omega⟩, by omega, by omega⟩, w64_id hd0 (by omega), by omega⟩, fun g hg => ?_⟩
  obtain ⟨⟨k1, k2⟩, k3, k4⟩ := hg
  have kw : IntKind.u64.wrap (dTop us j v - g * dV1 v + dV1 v) = dTop us j v - (g - 1) * dV1 v := by
    rw [w64_id (by omega) (by omega), Int.sub_mul]; omega
  have kg : ∀ g : Int, 1 ≤ g → g ≤ 8589934592 → IntKind.u64.wrap (g - 1) = g - 1 := fun g h1 h2 => w64_id (by omega) (by omega)
  have ke : dTop us j v - (g - 1) * dV1 v = dTop us j v - g * dV1 v + dV1 v := by rw [Int.sub_mul]; omega
  have less : dU us j v / dV v ≤ g - 1 → (0 < (dTop us j v - (g - 1) * dV1 v) / 4294967296 → R124 us j v (g - 1)) ∧ (¬ 0 < (dTop us j v - (g - 1) * dV1 v) / 4294967296 → ∃ x', ((dU us j v / dV v ≤ x' ∧ x' ≤ 8589934592) ∧ 0 ≤ dTop us j v - x' * dV1 v ∧ dTop us j v - x' * dV1 v < 4294967296) ∧ x'.toNat < g.toNat ∧ g - 1 = x' ∧ dTop us j v - (g - 1) * dV1 v = dTop us j v - x' * dV1 v) := by
    intro hl
    refine ⟨fun hb => ?_, fun hb => ⟨g - 1, ⟨⟨hl, by omega⟩, by omega, by omega⟩, by omega, rfl, rfl⟩⟩
    have hb' : 4294967296 ≤ dTop us j v - (g - 1) * dV1 v := by omega
    have g1 : g - 1 < 4294967296 := by
      have : (g - 1) * dV1 v < 4294967296 * dV1 v := by rw [Int.add_mul] at htop; omega
      exact Int.lt_of_mul_lt_mul_right this (by omega)
    have hfine := h.fine (g := g - 1) (by omega) g1 (by
      have a1 : (g - 1) * v.getD (v.length - 2) 0 ≤ (g - 1) * 4294967296 := Int.mul_le_mul_of_nonneg_left (by omega) (by omega)
      omega)
    exact R124_ok h g1 hl hfine
  refine ⟨by omega, fun c1 => ?_, fun c1 => ?_⟩
  · have hl : dU us j v / dV v ≤ g - 1 := by omega
    rw [kw, kg g (by omega) k2]
    obtain ⟨l1, l2⟩ := less hl
    exact ⟨fj (by omega) (by omega), by omega, by omega, l1, l2⟩
  · have g1 : g < 4294967296 := by omega
    have g0 : 0 ≤ g := by omega
    have eO : bitsF BinOp.or IntKind.u64 (IntKind.u64.wrap ((dTop us j v - g * dV1 v) * 4294967296)) (IntKind.u64.wrap (us.getD (j + (v.length - 2)) 0)) = (dTop us j v - g * dV1 v) * 4294967296 + us.getD (j + (v.length - 2)) 0 := (word_or ⟨k3, k4⟩ fc).1
    have m0 : 0 ≤ g * v.getD (v.length - 2) 0 := Int.mul_nonneg g0 fd.1
    have m1 : g * v.getD (v.length - 2) 0 ≤ 4294967295 * 4294967295 := Int.le_trans (Int.mul_le_mul_of_nonneg_left (show v.getD (v.length - 2) 0 ≤ 4294967295 by omega) g0) (Int.mul_le_mul_of_nonneg_right (by omega) (by omega))
    rw [eO, w64_id m0 (by omega)]
    refine ⟨fj (by omega) (by omega), by omega, by omega, fj (by omega) (by omega), by omega, fun c2 => ?_, fun c2 => ?_⟩
    · have hl : dU us j v / dV v ≤ g - 1 := h.great (by omega)
      rw [kw, kg g (by omega) k2]
      obtain ⟨l1, l2⟩ := less hl
      exact ⟨fj (by omega) (by omega), by omega, by omega, l1, l2⟩
    · exact R124_ok h g1 k1 (h.fine g0 g1 (by omega))
end
theorem h124 : HeapOK Tryz.prog c124 :=
  heap_flat (c := c124) (fn := Tryz.f124) (by kernel_rfl) (by kernel_rfl) (by kernel_rfl) (fun _ => ⟨trivial, trivial⟩) C124 (fun _ => cx_ok (cs := [p105.ci, p106.ci]) ⟨PC.OK.ci ok105, PC.OK.ci ok106, trivial⟩ _)
    fun x hx => vc124 ⟨hx.1.1, hx.1.2, hx.2.1.1, hx.2.1.2, hx.2.2.1.1, hx.2.2.1.2, hx.2.2.2.1, hx.2.2.2.2⟩
end Go.SX.We.Nm
