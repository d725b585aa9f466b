/- Parts of the proof, one after the other: WzZ1 WzZ1E WzZ1Q WzZ2Q WzZ3 WzZ3E WzZ3Q. -/
import Derived.Test.YtgbnkmhabhgigaaGreatM11
/- Chapter 08: the reference's integers, what is asked of each. -/
namespace Go.SX.We.Nm
open Go Go.Proofs
abbrev tZ : Ty := .pair .bool (.slice (.int .i64))
abbrev aZ : ATy := (true, tZ)
abbrev aQ : ATy := (true, .pair tZ tZ)
abbrev iZ (z : Int) : DN := intB 10000 z
abbrev vZ (p : DN) : Int := vB 10000 p
abbrev OkZ (k : Nat) (p : DN) : Prop := OkB 10000 k p
def plusL (a c : List Int) : Nat := if (valF 10000 a + valF 10000 c) / 10000 ^ max a.length c.length = 0 then max a.length c.length else max a.length c.length + 1
noncomputable section
@[reducible] def A78 (M : List Int) : Ann where
  τ := Nat
  pre := []
  preC := []
  keep := [1, 2]
  slots k := [(3, .c (.int .i64 ((M.length : Int) - k)))]
  ents _ := []
  ok k := k ≤ M.length ∧ trimF (M.take (M.length - k)) = trimF M
  m k := M.length - k
@[reducible] def r78 : PC := ⟨78, [aZ], [aZ], fun p => p.2.length ≤ 1000000, fun p => (p.1 && decide (0 < ((trimF p.2).length : Int)), trimF p.2)⟩
def h78 (n : Bool) (M : List Int) : Prop := r78.VC (cx [] [(0, fun _ => A78 M)]) Tryz.f78 (n, M)
@[reducible] def A42z (v : Int) : Ann where
  τ := Nat
  pre := []
  preC := [(1, 1, 3, .int .i64)]
  keep := [2, 3]
  slots k := [(0, .c (.int .i64 (v / 10000 ^ k)))]
  ents k := [(1, .blk 32 [.bool 0 (decide (v < 0)), .own 2 1]), (2, .row 3 (.int .i64) 0 ((lim 10000 v).take k))]
  ok k := k ≤ (lim 10000 v).length
  m k := (lim 10000 v).length - k
@[reducible] def r42 : PC := ⟨42, [aI], [aZ], fun v => 0 ≤ v ∧ v ≤ 1000000, fun v => iZ v⟩
def h42 (v : Int) : Prop := r42.VC (cx [] [(0, fun _ => A42z v)]) Tryz.f42 v
@[reducible] def r99 : PC := ⟨99, [aIs, aIs], [aI], fun p => p.1.length ≤ 1000000 ∧ p.2.length ≤ 1000000, fun p => cmpN p.1 p.2⟩
def h99 (a c : List Int) : Prop := r99.VC (cx [] [(0, fun _ => A84 a c)]) Tryz.f99 (a, c)
@[reducible] def A102z (a c : List Int) : Ann where
  τ := Nat
  pre := []
  preC := []
  keep := [0, 1]
  slots k := [(5, .c (.own 0 1)), (6, .c (.int .i64 ((valF 10000 (a.take k) + valF 10000 (c.take k)) / 10000 ^ k))), (7, .c (.int .i64 k))]
  ents k := [(0, .row 3 (.int .i64) 0 (digs 10000 (valF 10000 (a.take k) + valF 10000 (c.take k)) k))]
  ok k := k ≤ plusL a c
  m k := plusL a c - k
@[reducible] def r102 : PC := ⟨102, [aIs, aIs], [aIs], fun p => (FigsF 10000 p.1 ∧ FigsF 10000 p.2) ∧ p.1.length ≤ 100000 ∧ p.2.length ≤ 100000, fun p => digs 10000 (valF 10000 p.1 + valF 10000 p.2) (plusL p.1 p.2)⟩
def h102 (a c : List Int) : Prop := r102.VC (cx [] [(0, fun _ => A102z a c)]) Tryz.f102 (a, c)
@[reducible] def A101z (a c : List Int) : Ann where
  τ := Nat
  pre := []
  preC := []
  keep := [0, 1]
  slots k := [(5, .c (.own 0 1)), (6, .c (.int .i64 (-((valF 10000 (a.take k) - valF 10000 (c.take k)) / 10000 ^ k)))), (7, .c (.int .i64 k))]
  ents k := [(0, .row 3 (.int .i64) 0 (digs 10000 (valF 10000 (a.take k) - valF 10000 (c.take k)) k))]
  ok k := k ≤ a.length
  m k := a.length - k
@[reducible] def r101 : PC := ⟨101, [aIs, aIs], [aIs], fun p => (FigsF 10000 p.1 ∧ FigsF 10000 p.2) ∧ (p.1.length ≤ 100000 ∧ p.2.length ≤ p.1.length) ∧ valF 10000 p.2 ≤ valF 10000 p.1, fun p => digs 10000 (valF 10000 p.1 - valF 10000 p.2) p.1.length⟩
def h101 (a c : List Int) : Prop := r101.VC (cx [] [(0, fun _ => A101z a c)]) Tryz.f101 (a, c)
@[reducible] def r80 : PC := ⟨80, [aZ], [aZ], OkZ 500, fun p => iZ (-(vZ p))⟩
def h80 (n : Bool) (m : List Int) : Prop := r80.VC (cx [] []) Tryz.f80 (n, m)
@[reducible] def r69 : PC := ⟨69, [aZ], [aZ], OkZ 500, fun p => iZ (absI (vZ p))⟩
def h69 (n : Bool) (m : List Int) : Prop := r69.VC (cx [] []) Tryz.f69 (n, m)
@[reducible] def r18 : PC := ⟨18, [aZ], [aI], OkZ 500, fun p => sgnF (vZ p)⟩
def h18 (n : Bool) (m : List Int) : Prop := r18.VC (cx [] []) Tryz.f18 (n, m)
@[reducible] def r72 : PC := ⟨72, [aZ, aZ], [aZ], fun p => OkZ 500 p.1 ∧ OkZ 500 p.2, fun p => iZ (vZ p.1 + vZ p.2)⟩
def h72 (n1 : Bool) (m1 : List Int) (n2 : Bool) (m2 : List Int) : Prop := r72.VC (cx [r78.ci, r102.ci, r99.ci, r101.ci] []) Tryz.f72 ((n1, m1), (n2, m2))
@[reducible] def r77 : PC := ⟨77, [aZ, aZ], [aZ], fun p => OkZ 500 p.1 ∧ OkZ 500 p.2, fun p => iZ (vZ p.1 - vZ p.2)⟩
def h77 (n1 : Bool) (m1 : List Int) (n2 : Bool) (m2 : List Int) : Prop := r77.VC (cx [r72.ci, r80.ci] []) Tryz.f77 ((n1, m1), (n2, m2))
@[reducible] def r39 : PC := ⟨39, [aZ, aZ], [aI], fun p => OkZ 400 p.1 ∧ OkZ 400 p.2, fun p => sgnF (vZ p.1 - vZ p.2)⟩
def h39 (n1 : Bool) (m1 : List Int) (n2 : Bool) (m2 : List Int) : Prop := r39.VC (cx [r18.ci, r77.ci] []) Tryz.f39 ((n1, m1), (n2, m2))
end
end Go.SX.We.Nm

/- Printed by VC.lean: what the executor asks. -/
namespace Go.SX.We.Nm
open Go Go.Proofs IntKind List
theorem h78_eq (n : Bool) (M : List Int) : h78 n M = ((∃ (x0 : Nat), (x0 ≤ M.length ∧ trimF (take (M.length - x0) M) = trimF M) ∧ ((n = n ∧ M = M ∧ True) ∧ (True ∧ Value.slice none (0 : Nat) (0 : Nat) = Value.slice none (0 : Nat) (0 : Nat) ∧ True) ∧ True) ∧ (M.length : Int) = (M.length : Int) - (x0 : Int) ∧ True ∧ True ∧ True) ∧ ∀ (x : Nat), x ≤ M.length ∧ trimF (take (M.length - x) M) = trimF M → (0 < (M.length : Int) - (x : Int) → 0 < (M.length : Int) - (x : Int) ∧ 0 < (M.length : Int) - (x : Int) ∧ Fits .i64 ((M.length : Int) - (x : Int) - 1) ∧ (0 ≤ (M.length : Int) - (x : Int) - 1 ∧ (M.length : Int) - (x : Int) - 1 < (M.length : Int)) ∧ (M.getD ((M.length : Int) - (x : Int) - 1).toNat (0 : Int) = 0 → M.getD ((M.length : Int) - (x : Int) - 1).toNat (0 : Int) = 0 ∧ M.getD ((M.length : Int) - (x : Int) - 1).toNat (0 : Int) = 0 ∧ Fits .i64 ((M.length : Int) - (x : Int) - 1) ∧ ∃ (x' : Nat), (x' ≤ M.length ∧ trimF (take (M.length - x') M) = trimF M) ∧ M.length - x' < M.length - x ∧ ((n = n ∧ M = M ∧ True) ∧ (True ∧ Value.slice none (0 : Nat) (0 : Nat) = Value.slice none (0 : Nat) (0 : Nat) ∧ True) ∧ True) ∧ (M.length : Int) - (x : Int) - 1 = (M.length : Int) - (x' : Int) ∧ True ∧ True ∧ True) ∧ (¬M.getD ((M.length : Int) - (x : Int) - 1).toNat (0 : Int) = 0 → ¬M.getD ((M.length : Int) - (x : Int) - 1).toNat (0 : Int) = 0 ∧ ¬M.getD ((M.length : Int) - (x : Int) - 1).toNat (0 : Int) = 0 ∧ ((0 : Int) ≤ 0 ∧ (↑(0 : Nat) : Int) ≤ (M.length : Int) - (x : Int) ∧ (M.length : Int) - (x : Int) ≤ (M.length : Int)) ∧ Small ((0 : Nat) + (drop (↑(0 : Nat) : Int).toNat (take ((M.length : Int) - (x : Int)).toNat M)).length) ∧ (n = true → n = true ∧ n = true ∧ (decide (0 < (M.length : Int) - (x : Int)), drop (↑(0 : Nat) : Int).toNat (take ((M.length : Int) - (x : Int)).toNat M)) = (n && decide (0 < (↑(trimF M).length : Int)), trimF M)) ∧ (n = false → n = false ∧ n = false ∧ (false, drop (↑(0 : Nat) : Int).toNat (take ((M.length : Int) - (x : Int)).toNat M)) = (n && decide (0 < (↑(trimF M).length : Int)), trimF M)))) ∧ (¬0 < (M.length : Int) - (x : Int) → ¬0 < (M.length : Int) - (x : Int) ∧ ¬0 < (M.length : Int) - (x : Int) ∧ ((0 : Int) ≤ 0 ∧ (↑(0 : Nat) : Int) ≤ (M.length : Int) - (x : Int) ∧ (M.length : Int) - (x : Int) ≤ (M.length : Int)) ∧ Small ((0 : Nat) + (drop (↑(0 : Nat) : Int).toNat (take ((M.length : Int) - (x : Int)).toNat M)).length) ∧ (n = true → n = true ∧ n = true ∧ (decide (0 < (M.length : Int) - (x : Int)), drop (↑(0 : Nat) : Int).toNat (take ((M.length : Int) - (x : Int)).toNat M)) = (n && decide (0 < (↑(trimF M).length : Int)), trimF M)) ∧ (n = false → n = false ∧ n = false ∧ (false, drop (↑(0 : Nat) : Int).toNat (take ((M.length : Int) - (x : Int)).toNat M)) = (n && decide (0 < (↑(trimF M).length : Int)), trimF M)))) := by kernel_rfl
theorem h42_eq (v : Int) : h42 v = ((∃ (x0 : Nat), x0 ≤ (lim 10000 v).length ∧ ((True ∧ Value.slice none (0 : Nat) (0 : Nat) = Value.slice none (0 : Nat) (0 : Nat) ∧ True) ∧ (decide (v < 0) = decide (v < 0) ∧ True ∧ True) ∧ nilT Int = take x0 (lim 10000 v) ∧ True) ∧ v = v / 10000 ^ x0 ∧ True ∧ True ∧ True) ∧ ∀ (x : Nat), x ≤ (lim 10000 v).length → (¬v / 10000 ^ x = 0 → ¬v / 10000 ^ x = 0 ∧ (0 ≤ v / 10000 ^ x ∧ (0 : Int) < 10000) ∧ (v / 10000 ^ x % (10000 : Int) < 0 → v / 10000 ^ x % (10000 : Int) < 0 ∧ Fits .i64 (0 - v / 10000 ^ x % 10000) ∧ Small ((take x (lim 10000 v)).length + ((0 : Nat) + 1)) ∧ (0 ≤ v / 10000 ^ x ∧ (0 : Int) < 10000) ∧ Fits .i64 (v / 10000 ^ x / 10000) ∧ ∃ (x' : Nat), x' ≤ (lim 10000 v).length ∧ (lim 10000 v).length - x' < (lim 10000 v).length - x ∧ ((True ∧ Value.slice none (0 : Nat) (0 : Nat) = Value.slice none (0 : Nat) (0 : Nat) ∧ True) ∧ (decide (v < 0) = decide (v < 0) ∧ True ∧ True) ∧ take x (lim 10000 v) ++ [0 - v / 10000 ^ x % 10000] = take x' (lim 10000 v) ∧ True) ∧ v / 10000 ^ x / 10000 = v / 10000 ^ x' ∧ True ∧ True ∧ True) ∧ (¬v / 10000 ^ x % (10000 : Int) < 0 → ¬v / 10000 ^ x % (10000 : Int) < 0 ∧ Small ((take x (lim 10000 v)).length + ((0 : Nat) + 1)) ∧ (0 ≤ v / 10000 ^ x ∧ (0 : Int) < 10000) ∧ Fits .i64 (v / 10000 ^ x / 10000) ∧ ∃ (x' : Nat), x' ≤ (lim 10000 v).length ∧ (lim 10000 v).length - x' < (lim 10000 v).length - x ∧ ((True ∧ Value.slice none (0 : Nat) (0 : Nat) = Value.slice none (0 : Nat) (0 : Nat) ∧ True) ∧ (decide (v < 0) = decide (v < 0) ∧ True ∧ True) ∧ take x (lim 10000 v) ++ [v / 10000 ^ x % 10000] = take x' (lim 10000 v) ∧ True) ∧ v / 10000 ^ x / 10000 = v / 10000 ^ x' ∧ True ∧ True ∧ True)) ∧ (¬¬v / 10000 ^ x = 0 → ¬¬v / 10000 ^ x = 0 ∧ (decide (v < 0), take x (lim 10000 v)) = iZ v)) := by kernel_rfl
theorem h99_eq (a : List Int) (c : List Int) : h99 a c = ((¬(a.length : Int) = (c.length : Int) → ¬(a.length : Int) = (c.length : Int) ∧ ((a.length : Int) < (c.length : Int) → (a.length : Int) < (c.length : Int) ∧ (-1) = cmpN a c) ∧ (¬(a.length : Int) < (c.length : Int) → ¬(a.length : Int) < (c.length : Int) ∧ 1 = cmpN a c)) ∧ (¬¬(a.length : Int) = (c.length : Int) → ¬¬(a.length : Int) = (c.length : Int) ∧ Fits .i64 ((a.length : Int) - 1) ∧ (∃ (x0 : Nat), (x0 ≤ a.length ∧ cmpD a c (a.length - x0) = cmpD a c a.length) ∧ True ∧ (a.length : Int) - 1 = (a.length : Int) - 1 - (x0 : Int) ∧ a = a ∧ c = c ∧ True) ∧ ∀ (x : Nat), x ≤ a.length ∧ cmpD a c (a.length - x) = cmpD a c a.length → (0 ≤ (a.length : Int) - 1 - (x : Int) → 0 ≤ (a.length : Int) - 1 - (x : Int) ∧ (0 ≤ (a.length : Int) - 1 - (x : Int) ∧ (a.length : Int) - 1 - (x : Int) < (a.length : Int)) ∧ (0 ≤ (a.length : Int) - 1 - (x : Int) ∧ (a.length : Int) - 1 - (x : Int) < (c.length : Int)) ∧ (a.getD ((a.length : Int) - 1 - (x : Int)).toNat 0 < c.getD ((a.length : Int) - 1 - (x : Int)).toNat 0 → a.getD ((a.length : Int) - 1 - (x : Int)).toNat 0 < c.getD ((a.length : Int) - 1 - (x : Int)).toNat 0 ∧ (-1) = cmpN a c) ∧ (¬a.getD ((a.length : Int) - 1 - (x : Int)).toNat 0 < c.getD ((a.length : Int) - 1 - (x : Int)).toNat 0 → ¬a.getD ((a.length : Int) - 1 - (x : Int)).toNat 0 < c.getD ((a.length : Int) - 1 - (x : Int)).toNat 0 ∧ (0 ≤ (a.length : Int) - 1 - (x : Int) ∧ (a.length : Int) - 1 - (x : Int) < (a.length : Int)) ∧ (0 ≤ (a.length : Int) - 1 - (x : Int) ∧ (a.length : Int) - 1 - (x : Int) < (c.length : Int)) ∧ (c.getD ((a.length : Int) - 1 - (x : Int)).toNat 0 < a.getD ((a.length : Int) - 1 - (x : Int)).toNat 0 → c.getD ((a.length : Int) - 1 - (x : Int)).toNat 0 < a.getD ((a.length : Int) - 1 - (x : Int)).toNat 0 ∧ 1 = cmpN a c) ∧ (¬c.getD ((a.length : Int) - 1 - (x : Int)).toNat 0 < a.getD ((a.length : Int) - 1 - (x : Int)).toNat 0 → ¬c.getD ((a.length : Int) - 1 - (x : Int)).toNat 0 < a.getD ((a.length : Int) - 1 - (x : Int)).toNat 0 ∧ Fits .i64 ((a.length : Int) - 1 - (x : Int) - 1) ∧ ∃ (x' : Nat), (x' ≤ a.length ∧ cmpD a c (a.length - x') = cmpD a c a.length) ∧ a.length - x' < a.length - x ∧ True ∧ (a.length : Int) - 1 - (x : Int) - 1 = (a.length : Int) - 1 - (x' : Int) ∧ a = a ∧ c = c ∧ True))) ∧ (¬0 ≤ (a.length : Int) - 1 - (x : Int) → ¬0 ≤ (a.length : Int) - 1 - (x : Int) ∧ 0 = cmpN a c))) := by kernel_rfl
def Qh102_1 (a : List Int) (c : List Int) (x : Nat) : Prop := ((x : Int) < (a.length : Int) → (x : Int) < (a.length : Int) ∧ (0 ≤ (x : Int) ∧ (x : Int) < (a.length : Int)) ∧ Fits .i64 ((valF 10000 (take x a) + valF 10000 (take x c)) / 10000 ^ x + a.getD (x : Int).toNat 0) ∧ ((x : Int) < (c.length : Int) → (x : Int) < (c.length : Int) ∧ (0 ≤ (x : Int) ∧ (x : Int) < (c.length : Int)) ∧ Fits .i64 ((valF 10000 (take x a) + valF 10000 (take x c)) / 10000 ^ x + a.getD (x : Int).toNat 0 + c.getD (x : Int).toNat 0) ∧ (0 ≤ (valF 10000 (take x a) + valF 10000 (take x c)) / 10000 ^ x + a.getD (x : Int).toNat 0 + c.getD (x : Int).toNat 0 ∧ (0 : Int) < 10000) ∧ Small ((digs 10000 (valF 10000 (take x a) + valF 10000 (take x c)) x).length + ((0 : Nat) + 1)) ∧ (0 ≤ (valF 10000 (take x a) + valF 10000 (take x c)) / 10000 ^ x + a.getD (x : Int).toNat 0 + c.getD (x : Int).toNat 0 ∧ (0 : Int) < 10000) ∧ Fits .i64 (((valF 10000 (take x a) + valF 10000 (take x c)) / 10000 ^ x + a.getD (x : Int).toNat 0 + c.getD (x : Int).toNat 0) / 10000) ∧ Fits .i64 ((x : Int) + 1) ∧ ∃ (x' : Nat), x' ≤ plusL a c ∧ plusL a c - x' < plusL a c - x ∧ (digs 10000 (valF 10000 (take x a) + valF 10000 (take x c)) x ++ [((valF 10000 (take x a) + valF 10000 (take x c)) / 10000 ^ x + a.getD (x : Int).toNat 0 + c.getD (x : Int).toNat 0) % 10000] = digs 10000 (valF 10000 (take x' a) + valF 10000 (take x' c)) x' ∧ True) ∧ True ∧ ((valF 10000 (take x a) + valF 10000 (take x c)) / 10000 ^ x + a.getD (x : Int).toNat 0 + c.getD (x : Int).toNat 0) / 10000 = (valF 10000 (take x' a) + valF 10000 (take x' c)) / 10000 ^ x' ∧ (x : Int) + 1 = (x' : Int) ∧ a = a ∧ c = c ∧ True) ∧ (¬(x : Int) < (c.length : Int) → ¬(x : Int) < (c.length : Int) ∧ (0 ≤ (valF 10000 (take x a) + valF 10000 (take x c)) / 10000 ^ x + a.getD (x : Int).toNat 0 ∧ (0 : Int) < 10000) ∧ Small ((digs 10000 (valF 10000 (take x a) + valF 10000 (take x c)) x).length + ((0 : Nat) + 1)) ∧ (0 ≤ (valF 10000 (take x a) + valF 10000 (take x c)) / 10000 ^ x + a.getD (x : Int).toNat 0 ∧ (0 : Int) < 10000) ∧ Fits .i64 (((valF 10000 (take x a) + valF 10000 (take x c)) / 10000 ^ x + a.getD (x : Int).toNat 0) / 10000) ∧ Fits .i64 ((x : Int) + 1) ∧ ∃ (x' : Nat), x' ≤ plusL a c ∧ plusL a c - x' < plusL a c - x ∧ (digs 10000 (valF 10000 (take x a) + valF 10000 (take x c)) x ++ [((valF 10000 (take x a) + valF 10000 (take x c)) / 10000 ^ x + a.getD (x : Int).toNat 0) % 10000] = digs 10000 (valF 10000 (take x' a) + valF 10000 (take x' c)) x' ∧ True) ∧ True ∧ ((valF 10000 (take x a) + valF 10000 (take x c)) / 10000 ^ x + a.getD (x : Int).toNat 0) / 10000 = (valF 10000 (take x' a) + valF 10000 (take x' c)) / 10000 ^ x' ∧ (x : Int) + 1 = (x' : Int) ∧ a = a ∧ c = c ∧ True))
def Qh102_2 (a : List Int) (c : List Int) (x : Nat) : Prop := (¬(x : Int) < (a.length : Int) → ¬(x : Int) < (a.length : Int) ∧ ((x : Int) < (c.length : Int) → (x : Int) < (c.length : Int) ∧ (0 ≤ (x : Int) ∧ (x : Int) < (c.length : Int)) ∧ Fits .i64 ((valF 10000 (take x a) + valF 10000 (take x c)) / 10000 ^ x + c.getD (x : Int).toNat 0) ∧ (0 ≤ (valF 10000 (take x a) + valF 10000 (take x c)) / 10000 ^ x + c.getD (x : Int).toNat 0 ∧ (0 : Int) < 10000) ∧ Small ((digs 10000 (valF 10000 (take x a) + valF 10000 (take x c)) x).length + ((0 : Nat) + 1)) ∧ (0 ≤ (valF 10000 (take x a) + valF 10000 (take x c)) / 10000 ^ x + c.getD (x : Int).toNat 0 ∧ (0 : Int) < 10000) ∧ Fits .i64 (((valF 10000 (take x a) + valF 10000 (take x c)) / 10000 ^ x + c.getD (x : Int).toNat 0) / 10000) ∧ Fits .i64 ((x : Int) + 1) ∧ ∃ (x' : Nat), x' ≤ plusL a c ∧ plusL a c - x' < plusL a c - x ∧ (digs 10000 (valF 10000 (take x a) + valF 10000 (take x c)) x ++ [((valF 10000 (take x a) + valF 10000 (take x c)) / 10000 ^ x + c.getD (x : Int).toNat 0) % 10000] = digs 10000 (valF 10000 (take x' a) + valF 10000 (take x' c)) x' ∧ True) ∧ True ∧ ((valF 10000 (take x a) + valF 10000 (take x c)) / 10000 ^ x + c.getD (x : Int).toNat 0) / 10000 = (valF 10000 (take x' a) + valF 10000 (take x' c)) / 10000 ^ x' ∧ (x : Int) + 1 = (x' : Int) ∧ a = a ∧ c = c ∧ True) ∧ (¬(x : Int) < (c.length : Int) → ¬(x : Int) < (c.length : Int) ∧ (0 ≤ (valF 10000 (take x a) + valF 10000 (take x c)) / 10000 ^ x ∧ (0 : Int) < 10000) ∧ Small ((digs 10000 (valF 10000 (take x a) + valF 10000 (take x c)) x).length + ((0 : Nat) + 1)) ∧ (0 ≤ (valF 10000 (take x a) + valF 10000 (take x c)) / 10000 ^ x ∧ (0 : Int) < 10000) ∧ Fits .i64 ((valF 10000 (take x a) + valF 10000 (take x c)) / 10000 ^ x / 10000) ∧ Fits .i64 ((x : Int) + 1) ∧ ∃ (x' : Nat), x' ≤ plusL a c ∧ plusL a c - x' < plusL a c - x ∧ (digs 10000 (valF 10000 (take x a) + valF 10000 (take x c)) x ++ [(valF 10000 (take x a) + valF 10000 (take x c)) / 10000 ^ x % 10000] = digs 10000 (valF 10000 (take x' a) + valF 10000 (take x' c)) x' ∧ True) ∧ True ∧ (valF 10000 (take x a) + valF 10000 (take x c)) / 10000 ^ x / 10000 = (valF 10000 (take x' a) + valF 10000 (take x' c)) / 10000 ^ x' ∧ (x : Int) + 1 = (x' : Int) ∧ a = a ∧ c = c ∧ True))
theorem h102_eq (a : List Int) (c : List Int) : h102 a c = ((∃ (x0 : Nat), x0 ≤ plusL a c ∧ (nilT Int = digs 10000 (valF 10000 (take x0 a) + valF 10000 (take x0 c)) x0 ∧ True) ∧ True ∧ 0 = (valF 10000 (take x0 a) + valF 10000 (take x0 c)) / 10000 ^ x0 ∧ 0 = (x0 : Int) ∧ a = a ∧ c = c ∧ True) ∧ ∀ (x : Nat), x ≤ plusL a c → ((x : Int) < (a.length : Int) → (x : Int) < (a.length : Int) ∧ (x : Int) < (a.length : Int) ∧ (Qh102_1 a c x) ∧ (Qh102_2 a c x)) ∧ (¬(x : Int) < (a.length : Int) → ¬(x : Int) < (a.length : Int) ∧ ¬(x : Int) < (a.length : Int) ∧ ((x : Int) < (c.length : Int) → (x : Int) < (c.length : Int) ∧ (x : Int) < (c.length : Int) ∧ (x : Int) < (c.length : Int) ∧ (Qh102_1 a c x) ∧ (Qh102_2 a c x)) ∧ (¬(x : Int) < (c.length : Int) → ¬(x : Int) < (c.length : Int) ∧ ¬(x : Int) < (c.length : Int) ∧ ¬(x : Int) < (c.length : Int) ∧ (0 < (valF 10000 (take x a) + valF 10000 (take x c)) / 10000 ^ x → 0 < (valF 10000 (take x a) + valF 10000 (take x c)) / 10000 ^ x ∧ 0 < (valF 10000 (take x a) + valF 10000 (take x c)) / 10000 ^ x ∧ (Qh102_1 a c x) ∧ (Qh102_2 a c x)) ∧ (¬0 < (valF 10000 (take x a) + valF 10000 (take x c)) / 10000 ^ x → ¬0 < (valF 10000 (take x a) + valF 10000 (take x c)) / 10000 ^ x ∧ ¬0 < (valF 10000 (take x a) + valF 10000 (take x c)) / 10000 ^ x ∧ digs 10000 (valF 10000 (take x a) + valF 10000 (take x c)) x = digs 10000 (valF 10000 a + valF 10000 c) (plusL a c))))) := by kernel_rfl
theorem h101_eq (a : List Int) (c : List Int) : h101 a c = ((∃ (x0 : Nat), x0 ≤ a.length ∧ (nilT Int = digs 10000 (valF 10000 (take x0 a) - valF 10000 (take x0 c)) x0 ∧ True) ∧ True ∧ 0 = -((valF 10000 (take x0 a) - valF 10000 (take x0 c)) / 10000 ^ x0) ∧ 0 = (x0 : Int) ∧ a = a ∧ c = c ∧ True) ∧ ∀ (x : Nat), x ≤ a.length → ((x : Int) < (a.length : Int) → (x : Int) < (a.length : Int) ∧ (0 ≤ (x : Int) ∧ (x : Int) < (a.length : Int)) ∧ Fits .i64 (a.getD (x : Int).toNat 0 - -((valF 10000 (take x a) - valF 10000 (take x c)) / 10000 ^ x)) ∧ ((x : Int) < (c.length : Int) → (x : Int) < (c.length : Int) ∧ (0 ≤ (x : Int) ∧ (x : Int) < (c.length : Int)) ∧ Fits .i64 (a.getD (x : Int).toNat 0 - -((valF 10000 (take x a) - valF 10000 (take x c)) / 10000 ^ x) - c.getD (x : Int).toNat 0) ∧ (a.getD (x : Int).toNat 0 - -((valF 10000 (take x a) - valF 10000 (take x c)) / 10000 ^ x) - c.getD (x : Int).toNat (0 : Int) < 0 → a.getD (x : Int).toNat 0 - -((valF 10000 (take x a) - valF 10000 (take x c)) / 10000 ^ x) - c.getD (x : Int).toNat (0 : Int) < 0 ∧ Fits .i64 (a.getD (x : Int).toNat 0 - -((valF 10000 (take x a) - valF 10000 (take x c)) / 10000 ^ x) - c.getD (x : Int).toNat 0 + 10000) ∧ Small ((digs 10000 (valF 10000 (take x a) - valF 10000 (take x c)) x).length + ((0 : Nat) + 1)) ∧ Fits .i64 ((x : Int) + 1) ∧ ∃ (x' : Nat), x' ≤ a.length ∧ a.length - x' < a.length - x ∧ (digs 10000 (valF 10000 (take x a) - valF 10000 (take x c)) x ++ [a.getD (x : Int).toNat 0 - -((valF 10000 (take x a) - valF 10000 (take x c)) / 10000 ^ x) - c.getD (x : Int).toNat 0 + 10000] = digs 10000 (valF 10000 (take x' a) - valF 10000 (take x' c)) x' ∧ True) ∧ True ∧ 1 = -((valF 10000 (take x' a) - valF 10000 (take x' c)) / 10000 ^ x') ∧ (x : Int) + 1 = (x' : Int) ∧ a = a ∧ c = c ∧ True) ∧ (¬a.getD (x : Int).toNat 0 - -((valF 10000 (take x a) - valF 10000 (take x c)) / 10000 ^ x) - c.getD (x : Int).toNat (0 : Int) < 0 → ¬a.getD (x : Int).toNat 0 - -((valF 10000 (take x a) - valF 10000 (take x c)) / 10000 ^ x) - c.getD (x : Int).toNat (0 : Int) < 0 ∧ Small ((digs 10000 (valF 10000 (take x a) - valF 10000 (take x c)) x).length + ((0 : Nat) + 1)) ∧ Fits .i64 ((x : Int) + 1) ∧ ∃ (x' : Nat), x' ≤ a.length ∧ a.length - x' < a.length - x ∧ (digs 10000 (valF 10000 (take x a) - valF 10000 (take x c)) x ++ [a.getD (x : Int).toNat 0 - -((valF 10000 (take x a) - valF 10000 (take x c)) / 10000 ^ x) - c.getD (x : Int).toNat 0] = digs 10000 (valF 10000 (take x' a) - valF 10000 (take x' c)) x' ∧ True) ∧ True ∧ 0 = -((valF 10000 (take x' a) - valF 10000 (take x' c)) / 10000 ^ x') ∧ (x : Int) + 1 = (x' : Int) ∧ a = a ∧ c = c ∧ True)) ∧ (¬(x : Int) < (c.length : Int) → ¬(x : Int) < (c.length : Int) ∧ (a.getD (x : Int).toNat 0 - -((valF 10000 (take x a) - valF 10000 (take x c)) / 10000 ^ x) < 0 → a.getD (x : Int).toNat 0 - -((valF 10000 (take x a) - valF 10000 (take x c)) / 10000 ^ x) < 0 ∧ Fits .i64 (a.getD (x : Int).toNat 0 - -((valF 10000 (take x a) - valF 10000 (take x c)) / 10000 ^ x) + 10000) ∧ Small ((digs 10000 (valF 10000 (take x a) - valF 10000 (take x c)) x).length + ((0 : Nat) + 1)) ∧ Fits .i64 ((x : Int) + 1) ∧ ∃ (x' : Nat), x' ≤ a.length ∧ a.length - x' < a.length - x ∧ (digs 10000 (valF 10000 (take x a) - valF 10000 (take x c)) x ++ [a.getD (x : Int).toNat 0 - -((valF 10000 (take x a) - valF 10000 (take x c)) / 10000 ^ x) + 10000] = digs 10000 (valF 10000 (take x' a) - valF 10000 (take x' c)) x' ∧ True) ∧ True ∧ 1 = -((valF 10000 (take x' a) - valF 10000 (take x' c)) / 10000 ^ x') ∧ (x : Int) + 1 = (x' : Int) ∧ a = a ∧ c = c ∧ True) ∧ (¬a.getD (x : Int).toNat 0 - -((valF 10000 (take x a) - valF 10000 (take x c)) / 10000 ^ x) < 0 → ¬a.getD (x : Int).toNat 0 - -((valF 10000 (take x a) - valF 10000 (take x c)) / 10000 ^ x) < 0 ∧ Small ((digs 10000 (valF 10000 (take x a) - valF 10000 (take x c)) x).length + ((0 : Nat) + 1)) ∧ Fits .i64 ((x : Int) + 1) ∧ ∃ (x' : Nat), x' ≤ a.length ∧ a.length - x' < a.length - x ∧ (digs 10000 (valF 10000 (take x a) - valF 10000 (take x c)) x ++ [a.getD (x : Int).toNat 0 - -((valF 10000 (take x a) - valF 10000 (take x c)) / 10000 ^ x)] = digs 10000 (valF 10000 (take x' a) - valF 10000 (take x' c)) x' ∧ True) ∧ True ∧ 0 = -((valF 10000 (take x' a) - valF 10000 (take x' c)) / 10000 ^ x') ∧ (x : Int) + 1 = (x' : Int) ∧ a = a ∧ c = c ∧ True))) ∧ (¬(x : Int) < (a.length : Int) → ¬(x : Int) < (a.length : Int) ∧ digs 10000 (valF 10000 (take x a) - valF 10000 (take x c)) x = digs 10000 (valF 10000 a - valF 10000 c) a.length)) := by kernel_rfl
theorem h80_eq (n : Bool) (m : List Int) : h80 n m = (((!n) = true → (!n) = true ∧ (!n) = true ∧ (decide (0 < (m.length : Int)), m) = iZ (-vZ (n, m))) ∧ ((!n) = false → (!n) = false ∧ (!n) = false ∧ (false, m) = iZ (-vZ (n, m)))) := by kernel_rfl
theorem h69_eq (n : Bool) (m : List Int) : h69 n m = ((false, m) = iZ (absI (vZ (n, m)))) := by kernel_rfl
theorem h18_eq (n : Bool) (m : List Int) : h18 n m = (((m.length : Int) = 0 → (m.length : Int) = 0 ∧ 0 = sgnF (vZ (n, m))) ∧ (¬(m.length : Int) = 0 → ¬(m.length : Int) = 0 ∧ (n = true → n = true ∧ (-1) = sgnF (vZ (n, m))) ∧ (n = false → n = false ∧ 1 = sgnF (vZ (n, m))))) := by kernel_rfl
theorem h72_eq (n1 : Bool) (m1 : List Int) (n2 : Bool) (m2 : List Int) : h72 n1 m1 n2 m2 = ((n1 = n2 → n1 = n2 ∧ (((∀ (x : Int), x ∈ m1 → 0 ≤ x ∧ x < 10000) ∧ ∀ (x : Int), x ∈ m2 → 0 ≤ x ∧ x < 10000) ∧ m1.length ≤ 100000 ∧ m2.length ≤ 100000) ∧ (digs 10000 (valF 10000 m1 + valF 10000 m2) (plusL m1 m2)).length ≤ 1000000 ∧ (n1 && decide (0 < (↑(trimF (digs 10000 (valF 10000 m1 + valF 10000 m2) (plusL m1 m2))).length : Int)), trimF (digs 10000 (valF 10000 m1 + valF 10000 m2) (plusL m1 m2))) = iZ (vZ (n1, m1) + vZ (n2, m2))) ∧ (¬n1 = n2 → ¬n1 = n2 ∧ (m1.length ≤ 1000000 ∧ m2.length ≤ 1000000) ∧ (0 ≤ cmpN m1 m2 → 0 ≤ cmpN m1 m2 ∧ (((∀ (x : Int), x ∈ m1 → 0 ≤ x ∧ x < 10000) ∧ ∀ (x : Int), x ∈ m2 → 0 ≤ x ∧ x < 10000) ∧ (m1.length ≤ 100000 ∧ m2.length ≤ m1.length) ∧ valF 10000 m2 ≤ valF 10000 m1) ∧ (digs 10000 (valF 10000 m1 - valF 10000 m2) m1.length).length ≤ 1000000 ∧ (n1 && decide (0 < (↑(trimF (digs 10000 (valF 10000 m1 - valF 10000 m2) m1.length)).length : Int)), trimF (digs 10000 (valF 10000 m1 - valF 10000 m2) m1.length)) = iZ (vZ (n1, m1) + vZ (n2, m2))) ∧ (¬0 ≤ cmpN m1 m2 → ¬0 ≤ cmpN m1 m2 ∧ (((∀ (x : Int), x ∈ m2 → 0 ≤ x ∧ x < 10000) ∧ ∀ (x : Int), x ∈ m1 → 0 ≤ x ∧ x < 10000) ∧ (m2.length ≤ 100000 ∧ m1.length ≤ m2.length) ∧ valF 10000 m1 ≤ valF 10000 m2) ∧ (digs 10000 (valF 10000 m2 - valF 10000 m1) m2.length).length ≤ 1000000 ∧ (n2 && decide (0 < (↑(trimF (digs 10000 (valF 10000 m2 - valF 10000 m1) m2.length)).length : Int)), trimF (digs 10000 (valF 10000 m2 - valF 10000 m1) m2.length)) = iZ (vZ (n1, m1) + vZ (n2, m2))))) := by kernel_rfl
theorem h77_eq (n1 : Bool) (m1 : List Int) (n2 : Bool) (m2 : List Int) : h77 n1 m1 n2 m2 = ((∃ (z : Int), (n2, m2) = intB 10000 z ∧ absI z < 10000 ^ 500) ∧ ((∃ (z : Int), (n1, m1) = intB 10000 z ∧ absI z < 10000 ^ 500) ∧ ∃ (z : Int), ((iZ (-vZ (n2, m2))).fst, (iZ (-vZ (n2, m2))).snd) = intB 10000 z ∧ absI z < 10000 ^ 500) ∧ ((iZ (vZ (n1, m1) + vZ ((iZ (-vZ (n2, m2))).fst, (iZ (-vZ (n2, m2))).snd))).fst, (iZ (vZ (n1, m1) + vZ ((iZ (-vZ (n2, m2))).fst, (iZ (-vZ (n2, m2))).snd))).snd) = iZ (vZ (n1, m1) - vZ (n2, m2))) := by kernel_rfl
theorem h39_eq (n1 : Bool) (m1 : List Int) (n2 : Bool) (m2 : List Int) : h39 n1 m1 n2 m2 = (((∃ (z : Int), (n1, m1) = intB 10000 z ∧ absI z < 10000 ^ 500) ∧ ∃ (z : Int), (n2, m2) = intB 10000 z ∧ absI z < 10000 ^ 500) ∧ (∃ (z : Int), ((iZ (vZ (n1, m1) - vZ (n2, m2))).fst, (iZ (vZ (n1, m1) - vZ (n2, m2))).snd) = intB 10000 z ∧ absI z < 10000 ^ 500) ∧ sgnF (vZ ((iZ (vZ (n1, m1) - vZ (n2, m2))).fst, (iZ (vZ (n1, m1) - vZ (n2, m2))).snd)) = sgnF (vZ (n1, m1) - vZ (n2, m2))) := by kernel_rfl
end Go.SX.We.Nm

/- Chapter 08: the reference's integers, proved. -/
namespace Go.SX.We.Nm
open Go Go.Proofs
theorem dw0 : (0 : Int) < 10000 := by decide
theorem dw2 : (2 : Int) ≤ 10000 := by decide
theorem iZ_vZ (z : Int) : vZ (iZ z) = z := vB_int dw2 z
theorem ok99 : r99.OK Tryz.prog := r99.ok (fn := Tryz.f99) (fun p => cx [] [(0, fun _ => A84 p.1 p.2)]) (fun _ => cx0z) (by kernel_rfl) (by kernel_rfl) (by kernel_rfl) fun p hp => by
  obtain ⟨a, c⟩ := p
  obtain ⟨h1, h2⟩ := hp
  have h1 : a.length ≤ 1000000 := h1
  have h2 : c.length ≤ 1000000 := h2
  refine (h99_eq a c).mpr ?_
  simp only [pp1, eq_self, and_true, true_and]
  refine ⟨fun h => ⟨fun h3 => ?_, fun h3 => ?_⟩, fun h => ⟨fj (by omega) (by omega), ⟨0, ⟨by omega, rfl⟩, by omega⟩, fun x hx => ⟨fun h3 => ⟨by omega, by omega, fun h5 => ?_, fun h5 => ⟨by omega, by omega, fun h4 => ?_, fun h4 => ⟨fj (by omega) (by omega), x + 1, ⟨by omega, ?_⟩, by omega, by omega⟩⟩⟩, fun h3 => ?_⟩⟩⟩
  · rw [cmpN, if_neg (by omega), if_pos (by omega)]
  · rw [cmpN, if_neg (by omega), if_neg (by omega)]
  · have e1 : ((a.length : Int) - 1 - x).toNat = a.length - x - 1 := by omega
    rw [e1] at h5
    rw [cmpN, if_pos (by omega), ← hx.2, show a.length - x = (a.length - x - 1) + 1 by omega, cmpD, if_neg (Int.ne_of_lt h5), if_pos h5]
  · have e1 : ((a.length : Int) - 1 - x).toNat = a.length - x - 1 := by omega
    rw [e1] at h4 h5
    rw [cmpN, if_pos (by omega), ← hx.2, show a.length - x = (a.length - x - 1) + 1 by omega, cmpD, if_neg (Int.ne_of_gt h4), if_neg h5]
  · have e1 : ((a.length : Int) - 1 - x).toNat = a.length - x - 1 := by omega
    rw [e1] at h4 h5
    rw [← hx.2, show a.length - x = (a.length - (x + 1)) + 1 by omega, cmpD, if_pos (by rw [show a.length - (x + 1) = a.length - x - 1 by omega]; exact Int.le_antisymm (Int.not_lt.1 h4) (Int.not_lt.1 h5))]
  · rw [cmpN, if_pos (by omega), ← hx.2, show a.length - x = 0 by omega]; rfl
theorem vc78 {n : Bool} {M : List Int} (hl : M.length ≤ 1000000) : h78 n M := by
  refine (h78_eq n M).mpr ?_
  simp only [pp1, eq_self, and_true, true_and, and_self]
  have fin : ∀ x : Nat, x ≤ M.length → trimF M = M.take (M.length - x) → (0 ≤ (0 : Int) ∧ ((0 : Nat) : Int) ≤ (M.length : Int) - x ∧ (M.length : Int) - x ≤ M.length) ∧ Small (0 + (List.take ((M.length : Int) - x).toNat M).length) ∧
      (n = true → (decide (0 < (M.length : Int) - x), List.take ((M.length : Int) - x).toNat M) = (n && decide (0 < ((trimF M).length : Int)), trimF M)) ∧ (n = false → (false, List.take ((M.length : Int) - x).toNat M) = (n && decide (0 < ((trimF M).length : Int)), trimF M)) := by
    intro x hx ht
    have e : ((M.length : Int) - x).toNat = M.length - x := by omega
    rw [e, ht]
    have el : (List.take (M.length - x) M).length = M.length - x := by rw [List.length_take]; omega
    refine ⟨by omega, sm (by rw [el]; omega), fun h => ?_, fun h => ?_⟩
    · rw [h, Bool.true_and, el]
      congr 1
      exact decide_eq_decide.2 (by omega)
    · rw [h, Bool.false_and]
  refine ⟨⟨0, ⟨by omega, by simp⟩, by omega⟩, fun x hx => ⟨fun h1 => ⟨fj (by omega) (by omega), by omega, fun h2 => ⟨fj (by omega) (by omega), x + 1, ⟨by omega, ?_⟩, by omega, by omega⟩, fun h2 => fin x hx.1 ?_⟩, fun h1 => fin x hx.1 ?_⟩⟩
  · have e1 : ((M.length : Int) - x - 1).toNat = M.length - (x + 1) := by omega
    have e2 : M.length - x = (M.length - (x + 1)) + 1 := by omega
    have e3 : M.length - (x + 1) < M.length := by omega
    rw [e1, List.getD_eq_getElem?_getD, List.getElem?_eq_getElem e3] at h2
    rw [← hx.2, e2, List.take_add_one, List.getElem?_eq_getElem e3]
    simp only [Option.getD_some] at h2
    simp only [Option.toList_some, h2, trim_snoc0]
  · have e1 : ((M.length : Int) - x - 1).toNat = M.length - (x + 1) := by omega
    have e2 : M.length - x = (M.length - (x + 1)) + 1 := by omega
    have e3 : M.length - (x + 1) < M.length := by omega
    rw [e1, List.getD_eq_getElem?_getD, List.getElem?_eq_getElem e3] at h2
    rw [← hx.2, e2, List.take_add_one, List.getElem?_eq_getElem e3]
    simp only [Option.getD_some] at h2
    simp only [Option.toList_some]
    rw [trim_snoc _ h2]
  · rw [← hx.2, show M.length - x = 0 by omega]; rfl
theorem ok78 : r78.OK Tryz.prog := r78.ok (fn := Tryz.f78) (fun p => cx [] [(0, fun _ => A78 p.2)]) (fun _ => cx0z) (by kernel_rfl) (by kernel_rfl) (by kernel_rfl) fun p hp => by
  obtain ⟨n, M⟩ := p
  exact vc78 hp
theorem vc42 {v : Int} (h0 : 0 ≤ v) (h1 : v ≤ 1000000) : h42 v := by
  refine (h42_eq v).mpr ?_
  have hlen : (lim 10000 v).length ≤ 2 := lim_len dw2 h0 (by have : (10000 : Int) ^ 2 = 100000000 := by decide
                                                             rw [this]; omega)
  have hd : ∀ k : Nat, 0 ≤ v / 10000 ^ k ∧ v / 10000 ^ k ≤ 1000000 := fun k => ⟨Int.ediv_nonneg h0 (Int.le_of_lt (pow_pos' dw0 k)), Int.le_trans (Int.ediv_le_self _ h0) h1⟩
  simp only [pp1, eq_self, and_true, true_and, and_self]
  refine ⟨⟨0, by omega, by simp, by simp⟩, fun k hk => ⟨fun h => ?_, fun h => ?_⟩⟩
  · obtain ⟨d0, d1⟩ := hd k
    have hne : v / 10000 ^ k ≠ 0 := h
    have hkl : k < (lim 10000 v).length := by
      rcases Nat.lt_or_ge k (lim 10000 v).length with q | q
      · exact q
      · exfalso
        have h2 := lim_lt dw2 h0
        have h3 : (10000 : Int) ^ (lim 10000 v).length ≤ 10000 ^ k := pow_mono' dw0 q
        exact hne (Int.ediv_eq_zero_of_lt h0 (Int.lt_of_lt_of_le h2 h3))
    refine ⟨⟨d0, by decide⟩, fun h2 => absurd h2 (by omega), fun h2 => ⟨sm (by rw [List.length_take]; omega), ⟨d0, by decide⟩, fj (by omega) (by omega), k + 1, by omega, by omega, ?_, ?_⟩⟩
    · rw [lim_take dw2 h0 hk, lim_take dw2 h0 hkl, digs_snoc dw0]
    · rw [Int.pow_succ, ← div_div (pow_pos' dw0 k)]
  · have hz : v / 10000 ^ k = 0 := Decidable.not_not.1 h
    have hle : (lim 10000 v).length ≤ k := lim_len dw2 h0 (by
      have e := Int.emod_add_mul_ediv v (10000 ^ k)
      rw [hz, Int.mul_zero, Int.add_zero] at e
      rw [← e]; exact Int.emod_lt_of_pos _ (pow_pos' dw0 k))
    rw [List.take_of_length_le hle, iZ, intB, abs_pos h0]
theorem ok42 : r42.OK Tryz.prog := r42.ok (fn := Tryz.f42) (fun v => cx [] [(0, fun _ => A42z v)]) (fun _ => cx0z) (by kernel_rfl) (by kernel_rfl) (by kernel_rfl) fun _ hp => vc42 hp.1 hp.2
section
variable {a c : List Int}
theorem zp_round (ha : FigsF 10000 a) (hc : FigsF 10000 c) (x : Nat) : 0 ≤ (valF 10000 (a.take x) + valF 10000 (c.take x)) / 10000 ^ x ∧ (valF 10000 (a.take x) + valF 10000 (c.take x)) / 10000 ^ x ≤ 1 := by
  have r1 := val_take_range dw0 ha x
  have r2 := val_take_range dw0 hc x
  exact div_le_one dw0 (by omega) (by omega)
theorem zp_next (a c : List Int) (x : Nat) : valF 10000 (a.take (x + 1)) + valF 10000 (c.take (x + 1)) = (valF 10000 (a.take x) + valF 10000 (c.take x)) + (a.getD x 0 + c.getD x 0) * 10000 ^ x := by
  rw [val_take_succ', val_take_succ', Int.add_mul]; omega
theorem take_all {x : Nat} (h : a.length ≤ x) : valF 10000 (a.take x) = valF 10000 a := by rw [List.take_of_length_le h]
theorem zp_over (ha : FigsF 10000 a) (hc : FigsF 10000 c) : (valF 10000 a + valF 10000 c) / 10000 ^ (max a.length c.length + 1) = 0 := by
  have r1 := val_take_range dw0 ha (max a.length c.length)
  have r2 := val_take_range dw0 hc (max a.length c.length)
  rw [take_all (by omega)] at r1 r2
  refine Int.ediv_eq_zero_of_lt (by omega) ?_
  rw [Int.pow_succ]; omega
theorem zp_in (ha : FigsF 10000 a) (hc : FigsF 10000 c) {x : Nat} (hx : x ≤ plusL a c) (h : x < a.length ∨ x < c.length ∨ 0 < (valF 10000 (a.take x) + valF 10000 (c.take x)) / 10000 ^ x) : x < plusL a c := by
  have ho := zp_over ha hc
  unfold plusL at hx ⊢
  by_cases hz : (valF 10000 a + valF 10000 c) / 10000 ^ max a.length c.length = 0
  · rw [if_pos hz] at hx ⊢
    rcases Nat.lt_or_eq_of_le hx with q | q
    · exact q
    · exfalso
      rcases h with h | h | h
      · omega
      · omega
      · rw [take_all (by omega), take_all (by omega), q, hz] at h; omega
  · rw [if_neg hz] at hx ⊢
    rcases Nat.lt_or_eq_of_le hx with q | q
    · exact q
    · exfalso
      rcases h with h | h | h
      · omega
      · omega
      · rw [take_all (by omega), take_all (by omega), q, ho] at h; omega
theorem zp_out (ha : FigsF 10000 a) (hc : FigsF 10000 c) {x : Nat} (hx : x ≤ plusL a c) (h1 : ¬ x < a.length) (h2 : ¬ x < c.length) (h3 : ¬ 0 < (valF 10000 (a.take x) + valF 10000 (c.take x)) / 10000 ^ x) : x = plusL a c := by
  have r := zp_round ha hc x
  unfold plusL at hx ⊢
  by_cases hz : (valF 10000 a + valF 10000 c) / 10000 ^ max a.length c.length = 0
  · rw [if_pos hz] at hx ⊢; omega
  · rw [if_neg hz] at hx ⊢
    rcases Nat.lt_or_eq_of_le hx with q | q
    · exfalso
      have : x = max a.length c.length := by omega
      rw [take_all (by omega), take_all (by omega), this] at h3 r
      omega
    · exact q
theorem plusL_le (a c : List Int) : plusL a c ≤ max a.length c.length + 1 := by unfold plusL; split <;> omega
theorem zp_leaf (ha : FigsF 10000 a) (hc : FigsF 10000 c) (la : a.length ≤ 100000) (lc : c.length ≤ 100000) {x : Nat} (hx : x < plusL a c) {t : Int} (ht : t = (valF 10000 (a.take x) + valF 10000 (c.take x)) / 10000 ^ x + a.getD x 0 + c.getD x 0) :
    (0 ≤ t ∧ (0 : Int) < 10000) ∧ Small ((digs 10000 (valF 10000 (a.take x) + valF 10000 (c.take x)) x).length + (0 + 1)) ∧ (0 ≤ t ∧ (0 : Int) < 10000) ∧ Fits IntKind.i64 (t / 10000) ∧ Fits IntKind.i64 ((x : Int) + 1) ∧
    ∃ x' : Nat, x' ≤ plusL a c ∧ plusL a c - x' < plusL a c - x ∧ digs 10000 (valF 10000 (a.take x) + valF 10000 (c.take x)) x ++ [t % 10000] = digs 10000 (valF 10000 (a.take x') + valF 10000 (c.take x')) x' ∧
      t / 10000 = (valF 10000 (a.take x') + valF 10000 (c.take x')) / 10000 ^ x' ∧ (x : Int) + 1 = (x' : Int) := by
  have r := zp_round ha hc x
  have f1 := figs_getD dw0 ha x
  have f2 := figs_getD dw0 hc x
  have hl := plusL_le a c
  refine ⟨⟨by omega, by decide⟩, sm (by rw [digs_len]; omega), ⟨by omega, by decide⟩, fj (by omega) (by omega), fj (by omega) (by omega), x + 1, by omega, by omega, ?_, ?_, by omega⟩
  · rw [zp_next, digs_step dw0, ht, Int.add_assoc]
  · rw [zp_next, div_step dw0, ht, Int.add_assoc]
theorem zero_getD {x : Nat} (h : ¬ (x : Int) < a.length) : a.getD x 0 = 0 := by
  rw [List.getD_eq_getElem?_getD, List.getElem?_eq_none (by omega)]; rfl
theorem vc102 (ha : FigsF 10000 a) (hc : FigsF 10000 c) (la : a.length ≤ 100000) (lc : c.length ≤ 100000) : h102 a c := by
  refine (h102_eq a c).mpr ?_
  simp only [Qh102_1, Qh102_2, pp1, eq_self, and_true, true_and, and_self, Int.toNat_natCast]
  have hl := plusL_le a c
  refine ⟨⟨0, by omega, rfl, by simp [valF], rfl⟩, fun x hx => ?_⟩
  have r := zp_round ha hc x
  have f1 := figs_getD dw0 ha x
  have f2 := figs_getD dw0 hc x
  refine ⟨fun h1 => ⟨fun g1 => ⟨by omega, fj (by omega) (by omega), fun g2 => ⟨by omega, fj (by omega) (by omega), zp_leaf ha hc la lc (zp_in ha hc hx (.inl (by omega))) rfl⟩, fun g2 => zp_leaf ha hc la lc (zp_in ha hc hx (.inl (by omega))) (by rw [zero_getD g2]; omega)⟩, fun g1 => absurd h1 g1⟩,
    fun h1 => ⟨fun h2 => ⟨fun g1 => absurd g1 h1, fun g1 => ⟨fun g2 => ⟨by omega, fj (by omega) (by omega), zp_leaf ha hc la lc (zp_in ha hc hx (.inr (.inl (by omega)))) (by rw [zero_getD g1]; omega)⟩, fun g2 => absurd h2 g2⟩⟩,
    fun h2 => ⟨fun h3 => ⟨fun g1 => absurd g1 h1, fun g1 => ⟨fun g2 => absurd g2 h2, fun g2 => zp_leaf ha hc la lc (zp_in ha hc hx (.inr (.inr h3))) (by rw [zero_getD g1, zero_getD g2]; omega)⟩⟩, fun h3 => ?_⟩⟩⟩
  have e := zp_out ha hc hx (by omega) (by omega) h3
  rw [← e, take_all (by omega), take_all (by omega)]
theorem ok102 : r102.OK Tryz.prog := r102.ok (fn := Tryz.f102) (fun p => cx [] [(0, fun _ => A102z p.1 p.2)]) (fun _ => cx0z) (by kernel_rfl) (by kernel_rfl) (by kernel_rfl) fun _ hp => vc102 hp.1.1 hp.1.2 hp.2.1 hp.2.2
theorem zm_round (ha : FigsF 10000 a) (hc : FigsF 10000 c) (x : Nat) : 0 ≤ -((valF 10000 (a.take x) - valF 10000 (c.take x)) / 10000 ^ x) ∧ -((valF 10000 (a.take x) - valF 10000 (c.take x)) / 10000 ^ x) ≤ 1 := by
  have r1 := val_take_range dw0 ha x
  have r2 := val_take_range dw0 hc x
  have := div_neg_one dw0 (S := valF 10000 (a.take x) - valF 10000 (c.take x)) (k := x) (by omega) (by omega)
  omega
theorem zm_next (a c : List Int) (x : Nat) : valF 10000 (a.take (x + 1)) - valF 10000 (c.take (x + 1)) = (valF 10000 (a.take x) - valF 10000 (c.take x)) + (a.getD x 0 - c.getD x 0) * 10000 ^ x := by
  rw [val_take_succ', val_take_succ', Int.sub_mul]; omega
theorem zm_leaf (ha : FigsF 10000 a) (hc : FigsF 10000 c) (la : a.length ≤ 100000) {x : Nat} (hx : x < a.length) {t d e : Int} (ht : t = (valF 10000 (a.take x) - valF 10000 (c.take x)) / 10000 ^ x + (a.getD x 0 - c.getD x 0)) (hd : d = t % 10000) (he : e = -(t / 10000)) :
    Small ((digs 10000 (valF 10000 (a.take x) - valF 10000 (c.take x)) x).length + (0 + 1)) ∧ Fits IntKind.i64 ((x : Int) + 1) ∧
    ∃ x' : Nat, x' ≤ a.length ∧ a.length - x' < a.length - x ∧ digs 10000 (valF 10000 (a.take x) - valF 10000 (c.take x)) x ++ [d] = digs 10000 (valF 10000 (a.take x') - valF 10000 (c.take x')) x' ∧
      e = -((valF 10000 (a.take x') - valF 10000 (c.take x')) / 10000 ^ x') ∧ (x : Int) + 1 = (x' : Int) := by
  refine ⟨sm (by rw [digs_len]; omega), fj (by omega) (by omega), x + 1, by omega, by omega, ?_, ?_, by omega⟩
  · rw [zm_next, digs_step dw0, hd, ht]
  · rw [zm_next, div_step dw0, he, ht]
theorem vc101 (ha : FigsF 10000 a) (hc : FigsF 10000 c) (la : a.length ≤ 100000) (lc : c.length ≤ a.length) : h101 a c := by
  refine (h101_eq a c).mpr ?_
  simp only [pp1, eq_self, and_true, true_and, and_self, Int.toNat_natCast]
  refine ⟨⟨0, by omega, rfl, by simp [valF], rfl⟩, fun x hx => ?_⟩
  have r := zm_round ha hc x
  have f1 := figs_getD dw0 ha x
  have f2 := figs_getD dw0 hc x
  refine ⟨fun h1 => ⟨by omega, fj (by omega) (by omega), fun g2 => ⟨by omega, fj (by omega) (by omega), fun g3 => ⟨fj (by omega) (by omega), zm_leaf ha hc la (by omega) rfl (by omega) (by omega)⟩, fun g3 => zm_leaf ha hc la (by omega) rfl (by omega) (by omega)⟩, fun g2 => ⟨fun g3 => ⟨fj (by omega) (by omega), zm_leaf ha hc la (by omega) rfl ?_ ?_⟩, fun g3 => zm_leaf ha hc la (by omega) rfl ?_ ?_⟩⟩, fun h1 => ?_⟩
  · rw [zero_getD g2]; omega
  · rw [zero_getD g2]; omega
  · rw [zero_getD g2]; omega
  · rw [zero_getD g2]; omega
  · have e : x = a.length := by omega
    subst e
    rw [take_all (by omega), take_all lc]
theorem ok101 : r101.OK Tryz.prog := r101.ok (fn := Tryz.f101) (fun p => cx [] [(0, fun _ => A101z p.1 p.2)]) (fun _ => cx0z) (by kernel_rfl) (by kernel_rfl) (by kernel_rfl) fun _ hp => vc101 hp.1.1 hp.1.2 hp.2.1.1 hp.2.1.2
end
end Go.SX.We.Nm

/- Chapter 08: the reference's integers, proved: signs, sums, comparing. -/
namespace Go.SX.We.Nm
open Go Go.Proofs
theorem mk_intz {n : Bool} {m : List Int} {k : Nat} (h : OkZ k (n, m)) : ∃ z : Int, n = decide (z < 0) ∧ m = lim 10000 (absI z) ∧ absI z < 10000 ^ k ∧ vZ (n, m) = z := by
  obtain ⟨z, h1, h2⟩ := h
  have h3 := h1
  unfold intB at h3
  injection h3 with e1 e2
  exact ⟨z, e1, e2, h2, by rw [h1]; exact iZ_vZ z⟩
theorem len_okz {z : Int} {k : Nat} (h0 : 0 ≤ z) (h : z < 10000 ^ k) (hk : k ≤ 100000) : (lim 10000 z).length ≤ 100000 := Nat.le_trans (lim_len dw2 h0 h) hk
theorem ok80 : r80.OK Tryz.prog := r80.ok (fn := Tryz.f80) (fun _ => cx [] []) (fun _ => cx0z) (by kernel_rfl) (by kernel_rfl) (by kernel_rfl) fun p hp => by
  obtain ⟨n, m⟩ := p
  obtain ⟨z, e1, e2, h, e3⟩ := mk_intz hp
  refine (h80_eq n m).mpr ?_
  have q := int_made (n := !n) dw2 (absI_nonneg z)
  have key : (if (!n) = true then -(absI z) else absI z) = -z := by
    rw [e1]
    unfold absI
    by_cases hz : z < 0
    · simp [hz]
    · simp [hz]
  rw [key] at q
  simp only [pp1, eq_self, and_true, true_and, and_self]
  rw [e3, e2]
  refine ⟨fun h => ?_, fun h => ?_⟩
  · rw [iZ, ← q, h, Bool.true_and]
  · rw [iZ, ← q, h, Bool.false_and]
theorem ok69 : r69.OK Tryz.prog := r69.ok (fn := Tryz.f69) (fun _ => cx [] []) (fun _ => cx0z) (by kernel_rfl) (by kernel_rfl) (by kernel_rfl) fun p hp => by
  obtain ⟨n, m⟩ := p
  obtain ⟨z, e1, e2, h, e3⟩ := mk_intz hp
  refine (h69_eq n m).mpr ?_
  rw [e3, e2, iZ, intB, abs_pos (absI_nonneg z), decide_eq_false (by have := absI_nonneg z; omega)]
theorem ok18z : r18.OK Tryz.prog := r18.ok (fn := Tryz.f18) (fun _ => cx [] []) (fun _ => cx0z) (by kernel_rfl) (by kernel_rfl) (by kernel_rfl) fun p hp => by
  obtain ⟨n, m⟩ := p
  obtain ⟨z, e1, e2, h, e3⟩ := mk_intz hp
  refine (h18_eq n m).mpr ?_
  have hpz := lim_pos dw2 (absI_nonneg z)
  have ha : absI z = 0 ↔ z = 0 := by unfold absI; split <;> omega
  simp only [pp1, eq_self, and_true, true_and, and_self]
  rw [e3, e2, e1]
  refine ⟨fun h1 => ?_, fun h1 => ⟨fun h2 => ?_, fun h2 => ?_⟩⟩
  · have h1' : ((lim 10000 (absI z)).length : Int) = 0 := h1
    have : z = 0 := by have := absI_nonneg z; omega
    rw [this]; rfl
  · rw [sgnF, if_pos (of_decide_eq_true h2)]
  · have := of_decide_eq_false h2
    have : absI z ≠ 0 := fun e => by rw [e] at h1; exact h1 rfl
    rw [sgnF, if_neg (by omega), if_neg (by omega)]
theorem len_of_lez {a b : List Int} (ha : FigsF 10000 a) (hb : CanF 10000 b) (h : valF 10000 b ≤ valF 10000 a) : b.length ≤ a.length := by
  rcases Nat.lt_or_ge b.length 1 with q | hl
  · omega
  have hlow := can_low dw0 hb (n := b.length - 1) (by omega)
  have hr := val_range dw0 ha
  rcases Nat.lt_or_ge a.length b.length with h1 | h1
  · have : (10000 : Int) ^ a.length ≤ 10000 ^ (b.length - 1) := pow_mono' dw0 (by omega)
    omega
  · exact h1
theorem plus_lim {a c : List Int} (ha : FigsF 10000 a) (hc : FigsF 10000 c) : trimF (digs 10000 (valF 10000 a + valF 10000 c) (plusL a c)) = lim 10000 (valF 10000 a + valF 10000 c) := by
  have r1 := val_range dw0 ha
  have r2 := val_range dw0 hc
  refine (lim_digs dw2 (by omega) ?_).symm
  have key : ∀ m : Nat, (valF 10000 a + valF 10000 c) / 10000 ^ m = 0 → valF 10000 a + valF 10000 c < 10000 ^ m := fun m h => by
    have e := Int.emod_add_mul_ediv (valF 10000 a + valF 10000 c) (10000 ^ m)
    rw [h, Int.mul_zero, Int.add_zero] at e
    rw [← e]; exact Int.emod_lt_of_pos _ (pow_pos' dw0 m)
  unfold plusL
  by_cases hz : (valF 10000 a + valF 10000 c) / 10000 ^ max a.length c.length = 0
  · rw [if_pos hz]; exact key _ hz
  · rw [if_neg hz]; exact key _ (zp_over ha hc)
theorem less_lim {a c : List Int} (ha : FigsF 10000 a) (hc : FigsF 10000 c) (h : valF 10000 c ≤ valF 10000 a) : trimF (digs 10000 (valF 10000 a - valF 10000 c) a.length) = lim 10000 (valF 10000 a - valF 10000 c) := by
  have r1 := val_range dw0 ha
  have r2 := val_range dw0 hc
  exact (lim_digs dw2 (by omega) (by omega)).symm
theorem ok72 : r72.OK Tryz.prog := r72.ok (fn := Tryz.f72) (fun _ => cx [r78.ci, r102.ci, r99.ci, r101.ci] []) (fun _ => cx_ok (cs := [r78.ci, r102.ci, r99.ci, r101.ci]) ⟨PC.OK.ci ok78, PC.OK.ci ok102, PC.OK.ci ok99, PC.OK.ci ok101, trivial⟩ _) (by kernel_rfl) (by kernel_rfl) (by kernel_rfl) fun p hp => by
  obtain ⟨⟨n1, m1⟩, n2, m2⟩ := p
  obtain ⟨z1, e1, e2, h1, e3⟩ := mk_intz hp.1
  obtain ⟨z2, f1, f2, h2, f3⟩ := mk_intz hp.2
  refine (h72_eq n1 m1 n2 m2).mpr ?_
  simp only [pp1, eq_self, and_true, true_and, and_self, digs_len]
  have a1 := absI_nonneg z1
  have a2 := absI_nonneg z2
  have l1 := len_okz a1 h1 (by decide)
  have l2 := len_okz a2 h2 (by decide)
  have c1 := lim_can dw2 a1
  have c2 := lim_can dw2 a2
  have v1 := val_lim dw2 a1
  have v2 := val_lim dw2 a2
  have hcmp := cmpN_sgn dw0 c1 c2
  have hpl := plusL_le (lim 10000 (absI z1)) (lim 10000 (absI z2))
  have p1 := plus_lim c1.1 c2.1
  have p2 := fun h => less_lim c1.1 c2.1 h
  have p3 := fun h => less_lim c2.1 c1.1 h
  rw [e3, f3, e2, f2]
  rw [v1, v2] at *
  have key1 : n1 = true ↔ z1 < 0 := by rw [e1]; simp
  have key2 : n2 = true ↔ z2 < 0 := by rw [f1]; simp
  refine ⟨fun h => ⟨⟨⟨c1.1, c2.1⟩, l1, l2⟩, by omega, ?_⟩, fun h => ⟨⟨by omega, by omega⟩, fun h3 => ⟨⟨⟨c1.1, c2.1⟩, ⟨l1, ?_⟩, ?_⟩, by omega, ?_⟩, fun h3 => ⟨⟨⟨c2.1, c1.1⟩, ⟨l2, ?_⟩, ?_⟩, by omega, ?_⟩⟩⟩
  · rw [p1, int_made dw2 (by omega)]
    congr 1
    unfold absI
    by_cases q : n1 = true
    · rw [if_pos q, if_pos (key1.1 q), if_pos (key2.1 (h.symm.trans q))]; omega
    · rw [if_neg q, if_neg (fun w => q (key1.2 w)), if_neg (fun w => q (h.trans (key2.2 w)))]
  all_goals (rw [hcmp, sgn_nonneg] at h3)
  · exact len_of_lez c1.1 c2 (by rw [val_lim dw2 a1, val_lim dw2 a2]; omega)
  · omega
  · rw [p2 (by omega), int_made dw2 (by omega)]
    congr 1
    unfold absI
    by_cases q1 : n1 = true <;> by_cases q2 : n2 = true
    · exact absurd (q1.trans q2.symm) h
    · rw [if_pos q1, if_pos (key1.1 q1), if_neg (fun w => q2 (key2.2 w))]; omega
    · rw [if_neg q1, if_neg (fun w => q1 (key1.2 w)), if_pos (key2.1 q2)]; omega
    · exact absurd ((Bool.eq_false_iff.2 q1).trans (Bool.eq_false_iff.2 q2).symm) h
  · exact len_of_lez c2.1 c1 (by rw [val_lim dw2 a1, val_lim dw2 a2]; omega)
  · omega
  · rw [p3 (by omega), int_made dw2 (by omega)]
    congr 1
    unfold absI
    by_cases q1 : n1 = true <;> by_cases q2 : n2 = true
    · exact absurd (q1.trans q2.symm) h
    · rw [if_neg q2, if_pos (key1.1 q1), if_neg (fun w => q2 (key2.2 w))]; omega
    · rw [if_pos q2, if_neg (fun w => q1 (key1.2 w)), if_pos (key2.1 q2)]; omega
    · exact absurd ((Bool.eq_false_iff.2 q1).trans (Bool.eq_false_iff.2 q2).symm) h
theorem ok77 : r77.OK Tryz.prog := r77.ok (fn := Tryz.f77) (fun _ => cx [r72.ci, r80.ci] []) (fun _ => cx_ok (cs := [r72.ci, r80.ci]) ⟨PC.OK.ci ok72, PC.OK.ci ok80, trivial⟩ _) (by kernel_rfl) (by kernel_rfl) (by kernel_rfl) fun p hp => by
  obtain ⟨⟨n1, m1⟩, n2, m2⟩ := p
  obtain ⟨z2, f1, f2, h2, f3⟩ := mk_intz hp.2
  refine (h77_eq n1 m1 n2 m2).mpr ?_
  refine ⟨hp.2, ⟨hp.1, _, rfl, ?_⟩, ?_⟩
  · rw [f3, abs_neg]; exact h2
  · rw [iZ_vZ, ← Int.sub_eq_add_neg]
theorem ok_lez {k l : Nat} (h : k ≤ l) {p : Bool × List Int} (hp : OkZ k p) : OkZ l p := by
  obtain ⟨z, h1, h2⟩ := hp
  exact ⟨z, h1, pow_le_pow' dw2 h2 h⟩
theorem ok39 : r39.OK Tryz.prog := r39.ok (fn := Tryz.f39) (fun _ => cx [r18.ci, r77.ci] []) (fun _ => cx_ok (cs := [r18.ci, r77.ci]) ⟨PC.OK.ci ok18z, PC.OK.ci ok77, trivial⟩ _) (by kernel_rfl) (by kernel_rfl) (by kernel_rfl) fun p hp => by
  obtain ⟨⟨n1, m1⟩, n2, m2⟩ := p
  obtain ⟨z1, e1, e2, h1, e3⟩ := mk_intz hp.1
  obtain ⟨z2, f1, f2, h2, f3⟩ := mk_intz hp.2
  refine (h39_eq n1 m1 n2 m2).mpr ?_
  refine ⟨⟨ok_lez (by decide) hp.1, ok_lez (by decide) hp.2⟩, ⟨_, rfl, ?_⟩, ?_⟩
  · rw [e3, f3]
    have := abs_add z1 (-z2)
    rw [abs_neg] at this
    rw [Int.sub_eq_add_neg]
    exact pow_le_pow' dw2 (Int.lt_of_le_of_lt this (add_lt_pow dw2 h1 h2)) (by decide)
  · rw [iZ_vZ]
end Go.SX.We.Nm

/- Chapter 08: the reference's product, what is asked. -/
namespace Go.SX.We.Nm
open Go Go.Proofs
def zmulS (a c : List Int) (i j : Nat) : Int := valF 10000 (a.take i) * valF 10000 c + a.getD i 0 * valF 10000 (c.take j) * 10000 ^ i
def zmulP (a c : List Int) (i : Nat) : Int := valF 10000 (a.take i) * valF 10000 c
noncomputable section
@[reducible] def A40o (a c : List Int) : Ann where
  τ := Nat
  pre := []
  preC := []
  keep := [2, 3, 4, 5]
  slots k := [(6, .c (.int .i64 k))]
  ents k := [(3, .row 3 (.int .i64) 1 (digs 10000 (zmulP a c k) (a.length + c.length + 1)))]
  ok k := k ≤ a.length
  m k := a.length - k
@[reducible] def A40i (a c : List Int) (i : Nat) : Ann where
  τ := Nat
  pre := []
  preC := []
  keep := [2, 3, 4, 5, 6]
  slots j := [(7, .c (.int .i64 (zmulS a c i j / 10000 ^ (i + j) - zmulP a c i / 10000 ^ (i + j)))), (8, .c (.int .i64 j))]
  ents j := [(3, .row 3 (.int .i64) 1 (digs 10000 (zmulS a c i j) (i + j) ++ (digs 10000 (zmulP a c i) (a.length + c.length + 1)).drop (i + j)))]
  ok j := j ≤ c.length + 1
  m j := c.length + 1 - j
@[reducible] def r40 : PC := ⟨40, [aZ, aZ], [aZ], fun p => OkZ 500 p.1 ∧ OkZ 500 p.2, fun p => iZ (vZ p.1 * vZ p.2)⟩
def h40 (n1 : Bool) (m1 : List Int) (n2 : Bool) (m2 : List Int) : Prop := r40.VC (cx [r78.ci] [(0, fun _ => A40o m1 m2), (1, withI 6 fun i => A40i m1 m2 i.toNat)]) Tryz.f40 ((n1, m1), (n2, m2))
@[reducible] def r100 : PC := ⟨100, [aIs, aI], [aIs], fun p => (∃ z : Int, p.1 = lim 10000 z ∧ 0 ≤ z ∧ z < 10000 ^ 490) ∧ 0 ≤ p.2 ∧ p.2 ≤ 10000, fun p => lim 10000 (valF 10000 p.1 * p.2)⟩
def h100 (a : List Int) (d : Int) : Prop := r100.VC (cx [r78.ci, r40.ci, r42.ci] []) Tryz.f100 (a, d)
end
end Go.SX.We.Nm

/- Printed by VC.lean: what the executor asks. -/
namespace Go.SX.We.Nm
open Go Go.Proofs IntKind List
def Qh40_1 (n1 : Bool) (m1 : List Int) (n2 : Bool) (m2 : List Int) (x : Nat) (x_1 : Nat) : Prop := ((x_1 : Int) < (m2.length : Int) → (x_1 : Int) < (m2.length : Int) ∧ (0 ≤ (x : Int) ∧ (x : Int) < (m1.length : Int)) ∧ (0 ≤ (x_1 : Int) ∧ (x_1 : Int) < (m2.length : Int)) ∧ Fits .i64 (m1.getD (x : Int).toNat 0 * m2.getD (x_1 : Int).toNat 0) ∧ Fits .i64 ((digs 10000 (zmulS m1 m2 (x : Int).toNat x_1) ((x : Int).toNat + x_1) ++ drop ((x : Int).toNat + x_1) (digs 10000 (zmulP m1 m2 (x : Int).toNat) (m1.length + m2.length + 1))).getD ((x : Int) + (x_1 : Int)).toNat 0 + (zmulS m1 m2 (x : Int).toNat x_1 / 10000 ^ ((x : Int).toNat + x_1) - zmulP m1 m2 (x : Int).toNat / 10000 ^ ((x : Int).toNat + x_1)) + m1.getD (x : Int).toNat 0 * m2.getD (x_1 : Int).toNat 0) ∧ Fits .i64 ((x : Int) + (x_1 : Int)) ∧ (0 ≤ (digs 10000 (zmulS m1 m2 (x : Int).toNat x_1) ((x : Int).toNat + x_1) ++ drop ((x : Int).toNat + x_1) (digs 10000 (zmulP m1 m2 (x : Int).toNat) (m1.length + m2.length + 1))).getD ((x : Int) + (x_1 : Int)).toNat 0 + (zmulS m1 m2 (x : Int).toNat x_1 / 10000 ^ ((x : Int).toNat + x_1) - zmulP m1 m2 (x : Int).toNat / 10000 ^ ((x : Int).toNat + x_1)) + m1.getD (x : Int).toNat 0 * m2.getD (x_1 : Int).toNat 0 ∧ (0 : Int) < 10000) ∧ (0 ≤ (digs 10000 (zmulS m1 m2 (x : Int).toNat x_1) ((x : Int).toNat + x_1) ++ drop ((x : Int).toNat + x_1) (digs 10000 (zmulP m1 m2 (x : Int).toNat) (m1.length + m2.length + 1))).getD ((x : Int) + (x_1 : Int)).toNat 0 + (zmulS m1 m2 (x : Int).toNat x_1 / 10000 ^ ((x : Int).toNat + x_1) - zmulP m1 m2 (x : Int).toNat / 10000 ^ ((x : Int).toNat + x_1)) + m1.getD (x : Int).toNat 0 * m2.getD (x_1 : Int).toNat 0 ∧ (0 : Int) < 10000) ∧ Fits .i64 (((digs 10000 (zmulS m1 m2 (x : Int).toNat x_1) ((x : Int).toNat + x_1) ++ drop ((x : Int).toNat + x_1) (digs 10000 (zmulP m1 m2 (x : Int).toNat) (m1.length + m2.length + 1))).getD ((x : Int) + (x_1 : Int)).toNat 0 + (zmulS m1 m2 (x : Int).toNat x_1 / 10000 ^ ((x : Int).toNat + x_1) - zmulP m1 m2 (x : Int).toNat / 10000 ^ ((x : Int).toNat + x_1)) + m1.getD (x : Int).toNat 0 * m2.getD (x_1 : Int).toNat 0) / 10000) ∧ (0 ≤ (x : Int) + (x_1 : Int) ∧ (x : Int) + (x_1 : Int) < (↑(digs 10000 (zmulS m1 m2 (x : Int).toNat x_1) ((x : Int).toNat + x_1) ++ drop ((x : Int).toNat + x_1) (digs 10000 (zmulP m1 m2 (x : Int).toNat) (m1.length + m2.length + 1))).length : Int)) ∧ Fits .i64 ((x_1 : Int) + 1) ∧ ∃ (x' : Nat), x' ≤ m2.length + 1 ∧ m2.length + 1 - x' < m2.length + 1 - x_1 ∧ ((n1 = n1 ∧ m1 = m1 ∧ True) ∧ (n2 = n2 ∧ m2 = m2 ∧ True) ∧ (True ∧ Value.slice none (0 : Nat) (0 : Nat) = Value.slice none (0 : Nat) (0 : Nat) ∧ True) ∧ (digs 10000 (zmulS m1 m2 (x : Int).toNat x_1) ((x : Int).toNat + x_1) ++ drop ((x : Int).toNat + x_1) (digs 10000 (zmulP m1 m2 (x : Int).toNat) (m1.length + m2.length + 1))).set ((x : Int) + (x_1 : Int)).toNat (((digs 10000 (zmulS m1 m2 (x : Int).toNat x_1) ((x : Int).toNat + x_1) ++ drop ((x : Int).toNat + x_1) (digs 10000 (zmulP m1 m2 (x : Int).toNat) (m1.length + m2.length + 1))).getD ((x : Int) + (x_1 : Int)).toNat 0 + (zmulS m1 m2 (x : Int).toNat x_1 / 10000 ^ ((x : Int).toNat + x_1) - zmulP m1 m2 (x : Int).toNat / 10000 ^ ((x : Int).toNat + x_1)) + m1.getD (x : Int).toNat 0 * m2.getD (x_1 : Int).toNat 0) % 10000) = digs 10000 (zmulS m1 m2 (x : Int).toNat x') ((x : Int).toNat + x') ++ drop ((x : Int).toNat + x') (digs 10000 (zmulP m1 m2 (x : Int).toNat) (m1.length + m2.length + 1)) ∧ True) ∧ ((digs 10000 (zmulS m1 m2 (x : Int).toNat x_1) ((x : Int).toNat + x_1) ++ drop ((x : Int).toNat + x_1) (digs 10000 (zmulP m1 m2 (x : Int).toNat) (m1.length + m2.length + 1))).getD ((x : Int) + (x_1 : Int)).toNat 0 + (zmulS m1 m2 (x : Int).toNat x_1 / 10000 ^ ((x : Int).toNat + x_1) - zmulP m1 m2 (x : Int).toNat / 10000 ^ ((x : Int).toNat + x_1)) + m1.getD (x : Int).toNat 0 * m2.getD (x_1 : Int).toNat 0) / 10000 = zmulS m1 m2 (x : Int).toNat x' / 10000 ^ ((x : Int).toNat + x') - zmulP m1 m2 (x : Int).toNat / 10000 ^ ((x : Int).toNat + x') ∧ (x_1 : Int) + 1 = (x' : Int) ∧ (x : Int) = (x : Int) ∧ True ∧ True ∧ True ∧ True ∧ True)
def Qh40_2 (n1 : Bool) (m1 : List Int) (n2 : Bool) (m2 : List Int) (x : Nat) (x_1 : Nat) : Prop := (¬(x_1 : Int) < (m2.length : Int) → ¬(x_1 : Int) < (m2.length : Int) ∧ Fits .i64 ((x : Int) + (x_1 : Int)) ∧ (0 ≤ (digs 10000 (zmulS m1 m2 (x : Int).toNat x_1) ((x : Int).toNat + x_1) ++ drop ((x : Int).toNat + x_1) (digs 10000 (zmulP m1 m2 (x : Int).toNat) (m1.length + m2.length + 1))).getD ((x : Int) + (x_1 : Int)).toNat 0 + (zmulS m1 m2 (x : Int).toNat x_1 / 10000 ^ ((x : Int).toNat + x_1) - zmulP m1 m2 (x : Int).toNat / 10000 ^ ((x : Int).toNat + x_1)) ∧ (0 : Int) < 10000) ∧ (0 ≤ (digs 10000 (zmulS m1 m2 (x : Int).toNat x_1) ((x : Int).toNat + x_1) ++ drop ((x : Int).toNat + x_1) (digs 10000 (zmulP m1 m2 (x : Int).toNat) (m1.length + m2.length + 1))).getD ((x : Int) + (x_1 : Int)).toNat 0 + (zmulS m1 m2 (x : Int).toNat x_1 / 10000 ^ ((x : Int).toNat + x_1) - zmulP m1 m2 (x : Int).toNat / 10000 ^ ((x : Int).toNat + x_1)) ∧ (0 : Int) < 10000) ∧ Fits .i64 (((digs 10000 (zmulS m1 m2 (x : Int).toNat x_1) ((x : Int).toNat + x_1) ++ drop ((x : Int).toNat + x_1) (digs 10000 (zmulP m1 m2 (x : Int).toNat) (m1.length + m2.length + 1))).getD ((x : Int) + (x_1 : Int)).toNat 0 + (zmulS m1 m2 (x : Int).toNat x_1 / 10000 ^ ((x : Int).toNat + x_1) - zmulP m1 m2 (x : Int).toNat / 10000 ^ ((x : Int).toNat + x_1))) / 10000) ∧ (0 ≤ (x : Int) + (x_1 : Int) ∧ (x : Int) + (x_1 : Int) < (↑(digs 10000 (zmulS m1 m2 (x : Int).toNat x_1) ((x : Int).toNat + x_1) ++ drop ((x : Int).toNat + x_1) (digs 10000 (zmulP m1 m2 (x : Int).toNat) (m1.length + m2.length + 1))).length : Int)) ∧ Fits .i64 ((x_1 : Int) + 1) ∧ ∃ (x' : Nat), x' ≤ m2.length + 1 ∧ m2.length + 1 - x' < m2.length + 1 - x_1 ∧ ((n1 = n1 ∧ m1 = m1 ∧ True) ∧ (n2 = n2 ∧ m2 = m2 ∧ True) ∧ (True ∧ Value.slice none (0 : Nat) (0 : Nat) = Value.slice none (0 : Nat) (0 : Nat) ∧ True) ∧ (digs 10000 (zmulS m1 m2 (x : Int).toNat x_1) ((x : Int).toNat + x_1) ++ drop ((x : Int).toNat + x_1) (digs 10000 (zmulP m1 m2 (x : Int).toNat) (m1.length + m2.length + 1))).set ((x : Int) + (x_1 : Int)).toNat (((digs 10000 (zmulS m1 m2 (x : Int).toNat x_1) ((x : Int).toNat + x_1) ++ drop ((x : Int).toNat + x_1) (digs 10000 (zmulP m1 m2 (x : Int).toNat) (m1.length + m2.length + 1))).getD ((x : Int) + (x_1 : Int)).toNat 0 + (zmulS m1 m2 (x : Int).toNat x_1 / 10000 ^ ((x : Int).toNat + x_1) - zmulP m1 m2 (x : Int).toNat / 10000 ^ ((x : Int).toNat + x_1))) % 10000) = digs 10000 (zmulS m1 m2 (x : Int).toNat x') ((x : Int).toNat + x') ++ drop ((x : Int).toNat + x') (digs 10000 (zmulP m1 m2 (x : Int).toNat) (m1.length + m2.length + 1)) ∧ True) ∧ ((digs 10000 (zmulS m1 m2 (x : Int).toNat x_1) ((x : Int).toNat + x_1) ++ drop ((x : Int).toNat + x_1) (digs 10000 (zmulP m1 m2 (x : Int).toNat) (m1.length + m2.length + 1))).getD ((x : Int) + (x_1 : Int)).toNat 0 + (zmulS m1 m2 (x : Int).toNat x_1 / 10000 ^ ((x : Int).toNat + x_1) - zmulP m1 m2 (x : Int).toNat / 10000 ^ ((x : Int).toNat + x_1))) / 10000 = zmulS m1 m2 (x : Int).toNat x' / 10000 ^ ((x : Int).toNat + x') - zmulP m1 m2 (x : Int).toNat / 10000 ^ ((x : Int).toNat + x') ∧ (x_1 : Int) + 1 = (x' : Int) ∧ (x : Int) = (x : Int) ∧ True ∧ True ∧ True ∧ True ∧ True)
theorem h40_eq (n1 : Bool) (m1 : List Int) (n2 : Bool) (m2 : List Int) : h40 n1 m1 n2 m2 = (Fits .i64 ((m1.length : Int) + (m2.length : Int)) ∧ Fits .i64 ((m1.length : Int) + (m2.length : Int) + 1) ∧ (0 ≤ (m1.length : Int) + (m2.length : Int) + 1 ∧ (m1.length : Int) + (m2.length : Int) + 1 ≤ (m1.length : Int) + (m2.length : Int) + 1 ∧ Small ((m1.length : Int) + (m2.length : Int) + 1).toNat) ∧ (∃ (x0 : Nat), x0 ≤ m1.length ∧ ((n1 = n1 ∧ m1 = m1 ∧ True) ∧ (n2 = n2 ∧ m2 = m2 ∧ True) ∧ (True ∧ Value.slice none (0 : Nat) (0 : Nat) = Value.slice none (0 : Nat) (0 : Nat) ∧ True) ∧ replicate ((m1.length : Int) + (m2.length : Int) + 1).toNat 0 = digs 10000 (zmulP m1 m2 x0) (m1.length + m2.length + 1) ∧ True) ∧ 0 = (x0 : Int) ∧ True ∧ True ∧ True ∧ True ∧ True) ∧ ∀ (x : Nat), x ≤ m1.length → ((x : Int) < (m1.length : Int) → (x : Int) < (m1.length : Int) ∧ (∃ (x0 : Nat), x0 ≤ m2.length + 1 ∧ ((n1 = n1 ∧ m1 = m1 ∧ True) ∧ (n2 = n2 ∧ m2 = m2 ∧ True) ∧ (True ∧ Value.slice none (0 : Nat) (0 : Nat) = Value.slice none (0 : Nat) (0 : Nat) ∧ True) ∧ digs 10000 (zmulP m1 m2 x) (m1.length + m2.length + 1) = digs 10000 (zmulS m1 m2 (x : Int).toNat x0) ((x : Int).toNat + x0) ++ drop ((x : Int).toNat + x0) (digs 10000 (zmulP m1 m2 (x : Int).toNat) (m1.length + m2.length + 1)) ∧ True) ∧ 0 = zmulS m1 m2 (x : Int).toNat x0 / 10000 ^ ((x : Int).toNat + x0) - zmulP m1 m2 (x : Int).toNat / 10000 ^ ((x : Int).toNat + x0) ∧ 0 = (x0 : Int) ∧ (x : Int) = (x : Int) ∧ True ∧ True ∧ True ∧ True ∧ True) ∧ ∀ (x_1 : Nat), x_1 ≤ m2.length + 1 → ((x_1 : Int) < (m2.length : Int) → (x_1 : Int) < (m2.length : Int) ∧ (x_1 : Int) < (m2.length : Int) ∧ Fits .i64 ((x : Int) + (x_1 : Int)) ∧ (0 ≤ (x : Int) + (x_1 : Int) ∧ (x : Int) + (x_1 : Int) < (↑(digs 10000 (zmulS m1 m2 (x : Int).toNat x_1) ((x : Int).toNat + x_1) ++ drop ((x : Int).toNat + x_1) (digs 10000 (zmulP m1 m2 (x : Int).toNat) (m1.length + m2.length + 1))).length : Int)) ∧ Fits .i64 ((digs 10000 (zmulS m1 m2 (x : Int).toNat x_1) ((x : Int).toNat + x_1) ++ drop ((x : Int).toNat + x_1) (digs 10000 (zmulP m1 m2 (x : Int).toNat) (m1.length + m2.length + 1))).getD ((x : Int) + (x_1 : Int)).toNat 0 + (zmulS m1 m2 (x : Int).toNat x_1 / 10000 ^ ((x : Int).toNat + x_1) - zmulP m1 m2 (x : Int).toNat / 10000 ^ ((x : Int).toNat + x_1))) ∧ (Qh40_1 n1 m1 n2 m2 x x_1) ∧ (Qh40_2 n1 m1 n2 m2 x x_1)) ∧ (¬(x_1 : Int) < (m2.length : Int) → ¬(x_1 : Int) < (m2.length : Int) ∧ ¬(x_1 : Int) < (m2.length : Int) ∧ (0 < zmulS m1 m2 (x : Int).toNat x_1 / 10000 ^ ((x : Int).toNat + x_1) - zmulP m1 m2 (x : Int).toNat / 10000 ^ ((x : Int).toNat + x_1) → 0 < zmulS m1 m2 (x : Int).toNat x_1 / 10000 ^ ((x : Int).toNat + x_1) - zmulP m1 m2 (x : Int).toNat / 10000 ^ ((x : Int).toNat + x_1) ∧ 0 < zmulS m1 m2 (x : Int).toNat x_1 / 10000 ^ ((x : Int).toNat + x_1) - zmulP m1 m2 (x : Int).toNat / 10000 ^ ((x : Int).toNat + x_1) ∧ Fits .i64 ((x : Int) + (x_1 : Int)) ∧ (0 ≤ (x : Int) + (x_1 : Int) ∧ (x : Int) + (x_1 : Int) < (↑(digs 10000 (zmulS m1 m2 (x : Int).toNat x_1) ((x : Int).toNat + x_1) ++ drop ((x : Int).toNat + x_1) (digs 10000 (zmulP m1 m2 (x : Int).toNat) (m1.length + m2.length + 1))).length : Int)) ∧ Fits .i64 ((digs 10000 (zmulS m1 m2 (x : Int).toNat x_1) ((x : Int).toNat + x_1) ++ drop ((x : Int).toNat + x_1) (digs 10000 (zmulP m1 m2 (x : Int).toNat) (m1.length + m2.length + 1))).getD ((x : Int) + (x_1 : Int)).toNat 0 + (zmulS m1 m2 (x : Int).toNat x_1 / 10000 ^ ((x : Int).toNat + x_1) - zmulP m1 m2 (x : Int).toNat / 10000 ^ ((x : Int).toNat + x_1))) ∧ (Qh40_1 n1 m1 n2 m2 x x_1) ∧ (Qh40_2 n1 m1 n2 m2 x x_1)) ∧ (¬0 < zmulS m1 m2 (x : Int).toNat x_1 / 10000 ^ ((x : Int).toNat + x_1) - zmulP m1 m2 (x : Int).toNat / 10000 ^ ((x : Int).toNat + x_1) → ¬0 < zmulS m1 m2 (x : Int).toNat x_1 / 10000 ^ ((x : Int).toNat + x_1) - zmulP m1 m2 (x : Int).toNat / 10000 ^ ((x : Int).toNat + x_1) ∧ ¬0 < zmulS m1 m2 (x : Int).toNat x_1 / 10000 ^ ((x : Int).toNat + x_1) - zmulP m1 m2 (x : Int).toNat / 10000 ^ ((x : Int).toNat + x_1) ∧ Fits .i64 ((x : Int) + 1) ∧ ∃ (x' : Nat), x' ≤ m1.length ∧ m1.length - x' < m1.length - x ∧ ((n1 = n1 ∧ m1 = m1 ∧ True) ∧ (n2 = n2 ∧ m2 = m2 ∧ True) ∧ (True ∧ Value.slice none (0 : Nat) (0 : Nat) = Value.slice none (0 : Nat) (0 : Nat) ∧ True) ∧ digs 10000 (zmulS m1 m2 (x : Int).toNat x_1) ((x : Int).toNat + x_1) ++ drop ((x : Int).toNat + x_1) (digs 10000 (zmulP m1 m2 (x : Int).toNat) (m1.length + m2.length + 1)) = digs 10000 (zmulP m1 m2 x') (m1.length + m2.length + 1) ∧ True) ∧ (x : Int) + 1 = (x' : Int) ∧ True ∧ True ∧ True ∧ True ∧ True))) ∧ (¬(x : Int) < (m1.length : Int) → ¬(x : Int) < (m1.length : Int) ∧ (digs 10000 (zmulP m1 m2 x) (m1.length + m2.length + 1)).length ≤ 1000000 ∧ (decide ¬n1 = n2 && decide (0 < (↑(trimF (digs 10000 (zmulP m1 m2 x) (m1.length + m2.length + 1))).length : Int)), trimF (digs 10000 (zmulP m1 m2 x) (m1.length + m2.length + 1))) = iZ (vZ (n1, m1) * vZ (n2, m2)))) := by kernel_rfl
theorem h100_eq (a : List Int) (d : Int) : h100 a d = ((0 ≤ d ∧ d ≤ 1000000) ∧ ((∃ (z : Int), (false, a) = intB 10000 z ∧ absI z < 10000 ^ 500) ∧ ∃ (z : Int), ((iZ d).fst, (iZ d).snd) = intB 10000 z ∧ absI z < 10000 ^ 500) ∧ (iZ (vZ (false, a) * vZ ((iZ d).fst, (iZ d).snd))).snd.length ≤ 1000000 ∧ trimF (iZ (vZ (false, a) * vZ ((iZ d).fst, (iZ d).snd))).snd = lim 10000 (valF 10000 a * d)) := by kernel_rfl
end Go.SX.We.Nm

/- Chapter 08: the reference's product, proved. -/
namespace Go.SX.We.Nm
open Go Go.Proofs
theorem zmulS_eq (a c : List Int) (i j : Nat) : zmulS a c i j = zmulP a c i + a.getD i 0 * valF 10000 (c.take j) * 10000 ^ i := rfl
theorem zmulS_zero (a c : List Int) (i : Nat) : zmulS a c i 0 = zmulP a c i := by simp [zmulS_eq, valF]
theorem zmulS_succ (a c : List Int) (i j : Nat) : zmulS a c i (j + 1) = zmulS a c i j + a.getD i 0 * c.getD j 0 * 10000 ^ (i + j) := by
  rw [zmulS_eq, zmulS_eq, val_take_succ', Int.mul_add, Int.add_mul, Int.pow_add, ← Int.add_assoc]
  congr 1
  rw [Int.mul_assoc, Int.mul_assoc, Int.mul_assoc, Int.mul_comm (10000 ^ i)]
theorem zmulS_last (a c : List Int) {i j : Nat} (hj : j = c.length) : zmulS a c i j = zmulP a c (i + 1) := by
  subst hj
  rw [zmulS_eq, zmulP, zmulP, val_take_succ', Int.add_mul, List.take_length]
  congr 1
  rw [Int.mul_assoc, Int.mul_assoc, Int.mul_comm (valF 10000 c)]
theorem zmulP_range {a c : List Int} (ha : FigsF 10000 a) (hc : FigsF 10000 c) (i : Nat) : 0 ≤ zmulP a c i ∧ zmulP a c i < 10000 ^ (i + c.length) := by
  have r1 := val_take_range dw0 ha i
  have r2 := val_range dw0 hc
  have p1 := pow_pos' dw0 i
  have p2 := pow_pos' dw0 c.length
  refine ⟨Int.mul_nonneg r1.1 r2.1, ?_⟩
  rw [zmulP, Int.pow_add]
  have q1 : valF 10000 (a.take i) * valF 10000 c ≤ valF 10000 (a.take i) * 10000 ^ c.length := Int.mul_le_mul_of_nonneg_left (by omega) r1.1
  have q2 : valF 10000 (a.take i) * 10000 ^ c.length < 10000 ^ i * 10000 ^ c.length := Int.mul_lt_mul_of_pos_right r1.2 p2
  omega
theorem zmul_carry {a c : List Int} (ha : FigsF 10000 a) (hc : FigsF 10000 c) (i j : Nat) :
    0 ≤ zmulS a c i j / 10000 ^ (i + j) - zmulP a c i / 10000 ^ (i + j) ∧ zmulS a c i j / 10000 ^ (i + j) - zmulP a c i / 10000 ^ (i + j) < 10000 := by
  have r1 := figs_getD dw0 ha i
  have r2 := val_take_range dw0 hc j
  have p1 := pow_pos' dw0 i
  have p2 := pow_pos' dw0 j
  have p3 := pow_pos' dw0 (i + j)
  have r3 := zmulP_range ha hc i
  have q0 : 0 ≤ a.getD i 0 * valF 10000 (c.take j) * 10000 ^ i := Int.mul_nonneg (Int.mul_nonneg r1.1 r2.1) (by omega)
  have q1 : a.getD i 0 * valF 10000 (c.take j) ≤ 9999 * 10000 ^ j := Int.le_trans (Int.mul_le_mul_of_nonneg_left (Int.le_of_lt r2.2) r1.1) (Int.mul_le_mul_of_nonneg_right (by omega) (by omega))
  have q2 : a.getD i 0 * valF 10000 (c.take j) * 10000 ^ i ≤ 9999 * 10000 ^ (i + j) := by
    rw [Int.pow_add, Int.mul_comm (10000 ^ i), ← Int.mul_assoc]
    exact Int.mul_le_mul_of_nonneg_right q1 (by omega)
  have s1 : zmulP a c i / 10000 ^ (i + j) ≤ zmulS a c i j / 10000 ^ (i + j) := Int.ediv_le_ediv p3 (by rw [zmulS_eq]; omega)
  have s2 : zmulP a c i < (zmulP a c i / 10000 ^ (i + j) + 1) * 10000 ^ (i + j) := Int.lt_ediv_add_one_mul_self _ p3
  have s3 : zmulS a c i j / 10000 ^ (i + j) < zmulP a c i / 10000 ^ (i + j) + 10000 := by
    apply Int.ediv_lt_of_lt_mul p3
    rw [zmulS_eq]
    rw [Int.add_mul] at s2 ⊢
    omega
  omega
theorem zmul_row {a c : List Int} (L : Nat) {i j : Nat} (h : i + j < L) {v : Int} (hv : v = (zmulS a c i j / 10000 ^ (i + j) + a.getD i 0 * c.getD j 0) % 10000) :
    (digs 10000 (zmulS a c i j) (i + j) ++ List.drop (i + j) (digs 10000 (zmulP a c i) L)).set (i + j) v = digs 10000 (zmulS a c i (j + 1)) (i + (j + 1)) ++ List.drop (i + (j + 1)) (digs 10000 (zmulP a c i) L) := by
  rw [zmulS_succ, ← Nat.add_assoc, digs_step dw0, ← hv, List.set_append_right _ _ (by rw [digs_len]; omega), digs_len, Nat.sub_self, List.drop_eq_getElem_cons (by rw [digs_len]; exact h), List.set_cons_zero, List.append_assoc]
  rfl
theorem zmul_get {a c : List Int} {L i j : Nat} (h : i + j < L) : (digs 10000 (zmulS a c i j) (i + j) ++ List.drop (i + j) (digs 10000 (zmulP a c i) L)).getD (i + j) 0 = zmulP a c i / 10000 ^ (i + j) % 10000 := by
  rw [List.getD_eq_getElem?_getD, List.getElem?_append_right (by rw [digs_len]; omega), digs_len, Nat.sub_self, List.getElem?_drop, Nat.add_zero, ← List.getD_eq_getElem?_getD, digs_get dw0 _ h]
section
variable {a c : List Int}
theorem zlast {i j : Nat} (hj : c.length ≤ j) : zmulS a c i j = zmulP a c (i + 1) := by
  have : zmulS a c i j = zmulS a c i c.length := by rw [zmulS, zmulS, List.take_of_length_le hj, List.take_length]
  rw [this]; exact zmulS_last a c rfl
theorem zover (ha : FigsF 10000 a) (hc : FigsF 10000 c) (i : Nat) : zmulS a c i (c.length + 1) / 10000 ^ (i + (c.length + 1)) - zmulP a c i / 10000 ^ (i + (c.length + 1)) = 0 := by
  rw [zlast (by omega)]
  have r1 := zmulP_range ha hc (i + 1)
  have r2 := zmulP_range ha hc i
  have : (10000 : Int) ^ (i + c.length) ≤ 10000 ^ (i + (c.length + 1)) := pow_mono' dw0 (by omega)
  rw [Int.ediv_eq_zero_of_lt r1.1 (by rw [show i + (c.length + 1) = i + 1 + c.length by omega]; exact r1.2), Int.ediv_eq_zero_of_lt r2.1 (by omega)]; rfl
theorem zm_bounds (ha : FigsF 10000 a) (hc : FigsF 10000 c) {i j : Nat} : (0 ≤ zmulP a c i / 10000 ^ (i + j) % 10000 ∧ zmulP a c i / 10000 ^ (i + j) % 10000 < 10000) ∧ (0 ≤ a.getD i 0 * c.getD j 0 ∧ a.getD i 0 * c.getD j 0 ≤ 99980001) := by
  have r1 := figs_getD dw0 ha i
  have r2 := figs_getD dw0 hc j
  refine ⟨⟨Int.emod_nonneg _ (by decide), Int.emod_lt_of_pos _ (by decide)⟩, Int.mul_nonneg r1.1 r2.1, ?_⟩
  have : a.getD i 0 * c.getD j 0 ≤ 9999 * 9999 := Int.le_trans (Int.mul_le_mul_of_nonneg_left (show c.getD j 0 ≤ 9999 by omega) r1.1) (Int.mul_le_mul_of_nonneg_right (by omega) (by omega))
  omega
theorem zm_leaf2 (ha : FigsF 10000 a) (hc : FigsF 10000 c) (la : a.length ≤ 100000) (lc : c.length ≤ 100000) {x y : Nat} (hx : x < a.length) (hy : y ≤ c.length) {t : Int}
    (ht : t = zmulP a c x / 10000 ^ (x + y) % 10000 + (zmulS a c x y / 10000 ^ (x + y) - zmulP a c x / 10000 ^ (x + y)) + a.getD x 0 * c.getD y 0) :
    Fits IntKind.i64 ((x : Int) + y) ∧ (0 ≤ t ∧ (0 : Int) < 10000) ∧ (0 ≤ t ∧ (0 : Int) < 10000) ∧ Fits IntKind.i64 (t / 10000) ∧ (0 ≤ (x : Int) + y ∧ (x : Int) + y < ((x + y + (a.length + c.length + 1 - (x + y)) : Nat) : Int)) ∧ Fits IntKind.i64 ((y : Int) + 1) ∧
    ∃ x' : Nat, x' ≤ c.length + 1 ∧ c.length + 1 - x' < c.length + 1 - y ∧
      (digs 10000 (zmulS a c x y) (x + y) ++ List.drop (x + y) (digs 10000 (zmulP a c x) (a.length + c.length + 1))).set (x + y) (t % 10000) = digs 10000 (zmulS a c x x') (x + x') ++ List.drop (x + x') (digs 10000 (zmulP a c x) (a.length + c.length + 1)) ∧
      t / 10000 = zmulS a c x x' / 10000 ^ (x + x') - zmulP a c x / 10000 ^ (x + x') ∧ (y : Int) + 1 = (x' : Int) := by
  have r := zmul_carry ha hc x y
  obtain ⟨b1, b2⟩ := zm_bounds ha hc (i := x) (j := y)
  obtain ⟨p, hp⟩ : ∃ p, p = zmulP a c x / 10000 ^ (x + y) := ⟨_, rfl⟩
  obtain ⟨s, hs⟩ : ∃ s, s = zmulS a c x y / 10000 ^ (x + y) := ⟨_, rfl⟩
  rw [← hp] at r b1 ht
  rw [← hs] at r ht
  refine ⟨fj (by omega) (by omega), ⟨by omega, by decide⟩, ⟨by omega, by decide⟩, fj (by omega) (by omega), by omega, fj (by omega) (by omega), y + 1, by omega, by omega, zmul_row _ (by omega) ?_, ?_, by omega⟩
  · rw [← hs]; omega
  · rw [zmulS_succ, ← Nat.add_assoc, div_step dw0, Int.pow_succ 10000 (x + y), ← div_div (pow_pos' dw0 (x + y)) (zmulP a c x), ← hs, ← hp]; omega
theorem vc40m (ha : FigsF 10000 a) (hc : FigsF 10000 c) (la : a.length ≤ 100000) (lc : c.length ≤ 100000) {n1 n2 : Bool}
    (hfin : (decide (¬ n1 = n2) && decide (0 < ((lim 10000 (valF 10000 a * valF 10000 c)).length : Int)), lim 10000 (valF 10000 a * valF 10000 c)) = iZ (vZ (n1, a) * vZ (n2, c))) : h40 n1 a n2 c := by
  refine (h40_eq n1 a n2 c).mpr ?_
  have t1 : ((a.length : Int) + c.length + 1).toNat = a.length + c.length + 1 := by omega
  have t2 : ∀ x y : Nat, ((x : Int) + y).toNat = x + y := fun x y => by omega
  simp only [Qh40_1, Qh40_2, pp1, eq_self, and_true, true_and, and_self, Int.toNat_natCast, List.length_set, List.length_append, digs_len, List.length_replicate, List.length_drop, t1, t2]
  refine ⟨fj (by omega) (by omega), fj (by omega) (by omega), ⟨by omega, by omega, sm (by omega)⟩, ⟨0, by omega, by simp [zmulP, valF, digs_zero dw0], rfl⟩, fun x hx => ⟨fun h3 => ?_, fun h3 => ?_⟩⟩
  · have hx' : x < a.length := by omega
    refine ⟨⟨0, by omega, ?_, ?_, rfl⟩, fun y hy => ?_⟩
    · simp only [zmulS_zero, Nat.add_zero]
      rw [← digs_take dw0 (zmulP a c x) (show x ≤ a.length + c.length + 1 by omega), List.take_append_drop]
    · rw [zmulS_zero, Int.sub_self]
    have r := zmul_carry ha hc x y
    obtain ⟨b1, b2⟩ := zm_bounds ha hc (i := x) (j := y)
    have get : ∀ hy' : y ≤ c.length, (digs 10000 (zmulS a c x y) (x + y) ++ List.drop (x + y) (digs 10000 (zmulP a c x) (a.length + c.length + 1))).getD (x + y) 0 = zmulP a c x / 10000 ^ (x + y) % 10000 := fun hy' => zmul_get (by omega)
    have f1 := figs_getD dw0 ha x
    refine ⟨fun g1 => ?_, fun g1 => ⟨fun g2 => ?_, fun g2 => ⟨fj (by omega) (by omega), x + 1, by omega, by omega, ?_, by omega⟩⟩⟩
    · have hy' : y ≤ c.length := by omega
      rw [get hy']
      exact ⟨fj (by omega) (by omega), by omega, fj (by omega) (by omega), fun q => ⟨by omega, by omega, fj (by omega) (by omega), fj (by omega) (by omega), zm_leaf2 ha hc la lc hx' hy' rfl⟩, fun q => absurd g1 q⟩
    · have hy' : y ≤ c.length := by
        rcases Nat.lt_or_eq_of_le hy with q | q
        · omega
        · exfalso; rw [q, zover ha hc x] at g2; omega
      rw [get hy']
      have z : c.getD y 0 = 0 := zero_getD g1
      exact ⟨fj (by omega) (by omega), by omega, fj (by omega) (by omega), fun q => absurd q g1, fun q => zm_leaf2 ha hc la lc hx' hy' (by rw [z]; omega)⟩
    · have hS : zmulS a c x y = zmulP a c (x + 1) := zlast (by omega)
      have he : zmulS a c x y / 10000 ^ (x + y) = zmulP a c x / 10000 ^ (x + y) := by omega
      have hxy : x + y ≤ a.length + c.length + 1 := by omega
      rw [digs_drop dw0 _ hxy, ← he, hS, ← digs_app dw0]
      congr 1; omega
  · have e : x = a.length := by omega
    subst e
    have r := zmulP_range ha hc a.length
    have eP : zmulP a c a.length = valF 10000 a * valF 10000 c := by rw [zmulP, List.take_length]
    rw [eP] at r ⊢
    have : (10000 : Int) ^ (a.length + c.length) ≤ 10000 ^ (a.length + c.length + 1) := pow_mono' dw0 (by omega)
    rw [← lim_digs dw2 r.1 (show _ < 10000 ^ (a.length + c.length + 1) by omega)]
    exact ⟨by omega, hfin⟩
end
theorem ok40z : r40.OK Tryz.prog := r40.ok (fn := Tryz.f40) (fun p => cx [r78.ci] [(0, fun _ => A40o p.1.2 p.2.2), (1, withI 6 fun i => A40i p.1.2 p.2.2 i.toNat)]) (fun _ => cx_ok (cs := [r78.ci]) ⟨PC.OK.ci ok78, trivial⟩ _) (by kernel_rfl) (by kernel_rfl) (by kernel_rfl) fun p hp => by
  obtain ⟨⟨n1, m1⟩, n2, m2⟩ := p
  obtain ⟨z1, e1, e2, h1, e3⟩ := mk_intz hp.1
  obtain ⟨z2, f1, f2, h2, f3⟩ := mk_intz hp.2
  have a1 := absI_nonneg z1
  have a2 := absI_nonneg z2
  have l1 := len_okz a1 h1 (by decide)
  have l2 := len_okz a2 h2 (by decide)
  have v1 : valF 10000 m1 = absI z1 := by rw [e2, val_lim dw2 a1]
  have v2 : valF 10000 m2 = absI z2 := by rw [f2, val_lim dw2 a2]
  refine vc40m (by rw [e2]; exact (lim_can dw2 a1).1) (by rw [f2]; exact (lim_can dw2 a2).1) (by rw [e2]; exact l1) (by rw [f2]; exact l2) ?_
  rw [e3, f3, v1, v2]
  have key1 : n1 = true ↔ z1 < 0 := by rw [e1]; simp
  have key2 : n2 = true ↔ z2 < 0 := by rw [f1]; simp
  rw [int_made dw2 (Int.mul_nonneg a1 a2)]
  congr 1
  unfold absI
  by_cases q1 : n1 = true <;> by_cases q2 : n2 = true
  · rw [if_neg (by rw [decide_eq_false (fun h => h (q1.trans q2.symm))]; exact Bool.false_ne_true), if_pos (key1.1 q1), if_pos (key2.1 q2), Int.neg_mul_neg]
  · rw [if_pos (by rw [decide_eq_true_iff]; exact fun h => q2 (h.symm.trans q1)), if_pos (key1.1 q1), if_neg (fun w => q2 (key2.2 w)), Int.neg_mul, Int.neg_neg]
  · rw [if_pos (by rw [decide_eq_true_iff]; exact fun h => q1 (h.trans q2)), if_neg (fun w => q1 (key1.2 w)), if_pos (key2.1 q2), Int.mul_neg, Int.neg_neg]
  · rw [if_neg (by rw [decide_eq_false (fun h => h ((Bool.eq_false_iff.2 q1).trans (Bool.eq_false_iff.2 q2).symm))]; exact Bool.false_ne_true), if_neg (fun w => q1 (key1.2 w)), if_neg (fun w => q2 (key2.2 w))]
theorem iZ_pos {z : Int} (h : 0 ≤ z) : iZ z = (false, lim 10000 z) := by rw [iZ, intB, abs_pos h, decide_eq_false (by omega)]
theorem okz_pos {z : Int} {k : Nat} (h0 : 0 ≤ z) (h : z < 10000 ^ k) : OkZ k (iZ z) := ⟨z, rfl, by rw [abs_pos h0]; exact h⟩
theorem okz_pos' {z : Int} {k l : Nat} (h0 : 0 ≤ z) (h : z < 10000 ^ k) (hl : k ≤ l) : OkZ l (iZ z) := okz_pos h0 (pow_le_pow' dw2 h hl)
theorem vc100 {z d : Int} (h0 : 0 ≤ z) (h1 : z < 10000 ^ 490) (d0 : 0 ≤ d) (d1 : d ≤ 10000) : h100 (lim 10000 z) d := by
  refine (h100_eq (lim 10000 z) d).mpr ?_
  have e := iZ_pos h0
  have dp : d < 10000 ^ 2 := by
    have : (10000 : Int) ^ 2 = 100000000 := by decide
    rw [this]; omega
  have hp := mul_lt_pow dw2 h0 h1 d0 dp
  have m0 : 0 ≤ z * d := Int.mul_nonneg h0 d0
  have ev : vZ (false, lim 10000 z) * vZ (iZ d) = z * d := by rw [← e, iZ_vZ, iZ_vZ]
  simp only [pp1, eq_self, and_true, true_and, and_self, val_lim dw2 h0]
  rw [ev, ← e, iZ_pos m0]
  have hl := lim_len dw2 m0 hp
  refine ⟨⟨d0, by omega⟩, ⟨okz_pos' h0 h1 (by decide), okz_pos' d0 dp (by decide)⟩, Nat.le_trans hl (by decide), ?_⟩
  rw [trim_lim dw2 (lim_can dw2 m0).1, val_lim dw2 m0]
theorem ok100 : r100.OK Tryz.prog := r100.ok (fn := Tryz.f100) (fun _ => cx [r78.ci, r40.ci, r42.ci] []) (fun _ => cx_ok (cs := [r78.ci, r40.ci, r42.ci]) ⟨PC.OK.ci ok78, PC.OK.ci ok40z, PC.OK.ci ok42, trivial⟩ _) (by kernel_rfl) (by kernel_rfl) (by kernel_rfl) fun p hp => by
  obtain ⟨a, d⟩ := p
  obtain ⟨⟨z, h1, h2, h3⟩, h4, h5⟩ := hp
  have h1 : a = lim 10000 z := h1
  subst h1
  exact vc100 h2 h3 h4 h5
end Go.SX.We.Nm
