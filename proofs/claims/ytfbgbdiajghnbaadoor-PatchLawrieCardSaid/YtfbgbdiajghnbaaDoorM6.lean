/- Parts of the proof, one after the other: PaO Pa16 Pa16E Pa16Q. -/
import Derived.Test.YtfbgbdiajghnbaaDoorM3
import Derived.Test.YtfbgbdiajghnbaaDoorM5
/- Chapter 06 in plain words, part O: omega networks. -/
namespace Go.SX.Pa
def linI (K j s : Nat) (t : Int) : Int := ((s % 2 ^ (K - j) * 2 ^ j + t.toNat / 2 ^ (K - j) : Nat) : Int)
def linesI (K j : Nat) (perm : List Int) (k : Nat) : List Int := (List.range k).map fun s => linI K j s (perm.getD s 0)
def omegaB (K : Nat) (perm : List Int) : Bool := (List.range K).all fun j => decide (linesI K (j + 1) perm (2 ^ K)).Nodup
def omegaF (k : Int) (perm : List Int) : Bool × Int := if 1 ≤ k ∧ k ≤ 3 then (if PermP perm (2 ^ k.toNat) then (omegaB k.toNat perm, 0) else (false, 2)) else (false, 1)
def passTo (K : Nat) : Nat → Nat
  | 0 => 0
  | p + 1 => passTo K p + if omegaB K (permAt K p) = true then 1 else 0
def sameTo (i : Nat) : List Int := (List.range i).map fun i : Nat => (i : Int)
end Go.SX.Pa

/- Chapter 06, part 16: omega networks; the laws PatchOmegas and PatchLawrie. -/
namespace Go.SX.Pa
open Go Go.Proofs
noncomputable section
@[reducible] def p39 : PC := ⟨39, [aI, aIs], [aB, aI], fun p => p.2.length ≤ 1000, fun p => omegaF p.1 p.2⟩
def okJ (K : Nat) (perm : List Int) (j : Nat) : Prop := (1 ≤ j ∧ j ≤ K + 1) ∧ ∀ i, 1 ≤ i → i < j → (linesI K i perm (2 ^ K)).Nodup
@[reducible] def A39 (K : Nat) (perm : List Int) : Ann where
  τ := Nat
  pre := []
  preC := []
  keep := [0, 1]
  slots j := [(6, .c (.int .i64 j))]
  ents _ := []
  ok j := okJ K perm j
  m j := K + 1 - j
@[reducible] def A39b (K : Nat) (perm : List Int) (j : Nat) : Ann where
  τ := Nat
  pre := []
  preC := []
  keep := [0, 1, 6, 7, 29, 30]
  slots s := [(31, .c (.int .i64 s))]
  ents s := [(0, .row 4 .bool 1 (seenR (2 ^ K) (linesI K j perm s)))]
  ok s := s ≤ 2 ^ K ∧ (linesI K j perm s).Nodup
  m s := 2 ^ K - s
@[reducible] def C39 (p : Int × List Int) : Ctx := cx [p63.ci, p51.ci] [(0, fun _ => A39 p.1.toNat p.2), (1, withI 6 fun j => A39b p.1.toNat p.2 j.toNat)]
def g39 (k : Int) (perm : List Int) : Prop := p39.VC (C39 (k, perm)) Tryd.f39 (k, perm)
@[reducible] def p40 : PC := ⟨40, [aI, aIs], [aB], fun p => (1 ≤ p.1 ∧ p.1 ≤ 3) ∧ PermP p.2 (2 ^ p.1.toNat), fun p => omegaB p.1.toNat p.2⟩
@[reducible] def A40 (K : Nat) (perm : List Int) : Ann where
  τ := Nat
  pre := []
  preC := []
  keep := [0, 1]
  slots j := [(5, .c (.int .i64 j))]
  ents _ := []
  ok j := okJ K perm j
  m j := K + 1 - j
@[reducible] def A40b (K : Nat) (perm : List Int) (j : Nat) : Ann where
  τ := Nat
  pre := []
  preC := []
  keep := [0, 1, 5]
  slots s := [(7, .c (.int .i64 s)), (6, .c (.own 0 1))]
  ents s := [(0, .row 3 (.int .i64) 0 (linesI K j perm s))]
  ok s := s ≤ 2 ^ K ∧ (linesI K j perm s).Nodup
  m s := 2 ^ K - s
@[reducible] def C40 (p : Int × List Int) : Ctx := cx [p34.ci] [(0, fun _ => A40 p.1.toNat p.2), (1, withI 5 fun j => A40b p.1.toNat p.2 j.toNat)]
def g40 (k : Int) (perm : List Int) : Prop := p40.VC (C40 (k, perm)) Tryd.f40 (k, perm)
@[reducible] def p8 : PC := ⟨8, [aI, aIs], [aB], fun _ => True, fun _ => true⟩
def g8 (k : Int) (x : List Int) : Prop := p8.VC (cx [p17.ci, p39.ci, p21.ci, p25.ci, p22.ci, p40.ci] []) Tryd.f8 (k, x)
@[reducible] def p9 : PC := ⟨9, [aU], [aB], fun x => 0 ≤ x ∧ x ≤ 255, fun _ => true⟩
def kOf3 (x : Int) : Nat := (x % 3 + 1).toNat
@[reducible] def A9b (K : Nat) : Ann where
  τ := Nat
  pre := []
  preC := []
  keep := [3]
  slots p := [(7, .c (.int .i64 p)), (4, .c (.int .i64 (passTo K p))), (5, .c (.int .i64 (facN (2 ^ K))))]
  ents _ := []
  ok p := p ≤ facN (2 ^ K)
  m p := facN (2 ^ K) - p
@[reducible] def A9d (K : Nat) : Ann where
  τ := Nat
  pre := []
  preC := []
  keep := [3, 4]
  slots i := [(14, .c (.int .i64 i)), (13, .c (.own 0 1))]
  ents i := [(0, .row 3 (.int .i64) 0 (sameTo i))]
  ok i := i ≤ 2 ^ K
  m i := 2 ^ K - i
@[reducible] def C9 (x : Int) : Ctx := cx [p31.ci, p39.ci, p25.ci] [(0, fun _ => A5a (kOf3 x)), (1, fun _ => A9b (kOf3 x)), (2, withI 7 fun p => A5c (kOf3 x) p.toNat), (3, fun _ => A9d (kOf3 x))]
def g9 (x : Int) : Prop := p9.VC (C9 x) Tryd.f9 x
end
end Go.SX.Pa

/- Printed by VC.lean: what the executor asks. -/
namespace Go.SX.Pa
open Go Go.Proofs
theorem g39_eq (k : Int) (perm : List Int) : g39 k perm = (
 True ∧
 ((!decide ((1 : Int) ≤ k ∧ k ≤ (3 : Int))) = true →
 (!decide ((1 : Int) ≤ k ∧ k ≤ (3 : Int))) = true ∧ (!decide ((1 : Int) ≤ k ∧ k ≤ (3 : Int))) = true ∧ (false, (1 : Int)) = omegaF k perm) ∧
 ((!decide ((1 : Int) ≤ k ∧ k ≤ (3 : Int))) = false →
 (!decide ((1 : Int) ≤ k ∧ k ≤ (3 : Int))) = false ∧
 (!decide ((1 : Int) ≤ k ∧ k ≤ (3 : Int))) = false ∧
 ((0 : Int) ≤ k ∧ k < (64 : Int)) ∧
 Fits IntKind.i64 ((1 : Int) * (2 : Int) ^ k.toNat) ∧
 perm.length ≤ (1000 : Nat) ∧
 ((!decide (PermP perm ((1 : Int) * (2 : Int) ^ k.toNat))) = true →
 (!decide (PermP perm ((1 : Int) * (2 : Int) ^ k.toNat))) = true ∧
 (!decide (PermP perm ((1 : Int) * (2 : Int) ^ k.toNat))) = true ∧ (false, (2 : Int)) = omegaF k perm) ∧
 ((!decide (PermP perm ((1 : Int) * (2 : Int) ^ k.toNat))) = false →
 (!decide (PermP perm ((1 : Int) * (2 : Int) ^ k.toNat))) = false ∧
 (!decide (PermP perm ((1 : Int) * (2 : Int) ^ k.toNat))) = false ∧
 (∃ (x0 : Nat),
 (((1 : Nat) ≤ x0 ∧ x0 ≤ k.toNat + (1 : Nat)) ∧ ∀ (i : Nat), (1 : Nat) ≤ i → i < x0 → (linesI k.toNat i perm ((2 : Nat) ^ k.toNat)).Nodup) ∧
 True ∧ (1 : Int) = (↑x0 : Int) ∧ k = k ∧ perm = perm ∧ True) ∧
 ∀ (x : Nat),
 (((1 : Nat) ≤ x ∧ x ≤ k.toNat + (1 : Nat)) ∧ ∀ (i : Nat), (1 : Nat) ≤ i → i < x → (linesI k.toNat i perm ((2 : Nat) ^ k.toNat)).Nodup) →
 ((↑x : Int) ≤ k →
 (↑x : Int) ≤ k ∧
 ((0 : Int) ≤ k ∧ k < (64 : Int)) ∧
 Fits IntKind.i64 ((1 : Int) * (2 : Int) ^ k.toNat) ∧
 ((0 : Int) ≤ (1 : Int) * (2 : Int) ^ k.toNat ∧
 (1 : Int) * (2 : Int) ^ k.toNat ≤ (1 : Int) * (2 : Int) ^ k.toNat ∧ Small ((1 : Int) * (2 : Int) ^ k.toNat).toNat) ∧
 (∃ (x0 : Nat),
 (x0 ≤ (2 : Nat) ^ k.toNat ∧ (linesI k.toNat (↑x : Int).toNat perm x0).Nodup) ∧
 (List.replicate ((1 : Int) * (2 : Int) ^ k.toNat).toNat false =
 seenR ((2 : Int) ^ k.toNat) (linesI k.toNat (↑x : Int).toNat perm x0) ∧
 True) ∧
 (0 : Int) = (↑x0 : Int) ∧
 (↑perm.length : Int) = (↑perm.length : Int) ∧ perm = perm ∧ True ∧ (↑x : Int) = (↑x : Int) ∧ k = k ∧ perm = perm ∧ True) ∧
 ∀ (x_1 : Nat),
 x_1 ≤ (2 : Nat) ^ k.toNat ∧ (linesI k.toNat (↑x : Int).toNat perm x_1).Nodup →
 ((↑x_1 : Int) < (↑perm.length : Int) →
 (↑x_1 : Int) < (↑perm.length : Int) ∧
 ((0 : Int) ≤ (↑x_1 : Int) ∧ (↑x_1 : Int) < (↑perm.length : Int)) ∧
 Fits IntKind.i64 (k - (↑x : Int)) ∧
 ((0 : Int) ≤ k - (↑x : Int) ∧ k - (↑x : Int) < (64 : Int)) ∧
 Fits IntKind.i64 ((1 : Int) * (2 : Int) ^ (k - (↑x : Int)).toNat) ∧
 Fits IntKind.i64 ((1 : Int) * (2 : Int) ^ (k - (↑x : Int)).toNat - (1 : Int)) ∧
 ((0 : Int) ≤ (↑x : Int) ∧ (↑x : Int) < (64 : Int)) ∧
 Fits IntKind.i64
 (bitsF BinOp.and IntKind.i64 (↑x_1 : Int) ((1 : Int) * (2 : Int) ^ (k - (↑x : Int)).toNat - (1 : Int)) *
 (2 : Int) ^ (↑x : Int).toNat) ∧
 Fits IntKind.i64 (k - (↑x : Int)) ∧
 ((0 : Int) ≤ k - (↑x : Int) ∧ k - (↑x : Int) < (64 : Int)) ∧
 ((0 : Int) ≤
 bitsF BinOp.or IntKind.i64
 (bitsF BinOp.and IntKind.i64 (↑x_1 : Int)
 ((1 : Int) * (2 : Int) ^ (k - (↑x : Int)).toNat - (1 : Int)) *
 (2 : Int) ^ (↑x : Int).toNat)
 (perm.getD (↑x_1 : Int).toNat (0 : Int) / (2 : Int) ^ (k - (↑x : Int)).toNat) ∧
 bitsF BinOp.or IntKind.i64
 (bitsF BinOp.and IntKind.i64 (↑x_1 : Int)
 ((1 : Int) * (2 : Int) ^ (k - (↑x : Int)).toNat - (1 : Int)) *
 (2 : Int) ^ (↑x : Int).toNat)
 (perm.getD (↑x_1 : Int).toNat (0 : Int) / (2 : Int) ^ (k - (↑x : Int)).toNat) <
 (↑(seenR ((2 : Int) ^ k.toNat) (linesI k.toNat (↑x : Int).toNat perm x_1)).length : Int)) ∧
 ((seenR ((2 : Int) ^ k.toNat) (linesI k.toNat (↑x : Int).toNat perm x_1)).getD
 (bitsF BinOp.or IntKind.i64
 (bitsF BinOp.and IntKind.i64 (↑x_1 : Int)
 ((1 : Int) * (2 : Int) ^ (k - (↑x : Int)).toNat - (1 : Int)) *
 (2 : Int) ^ (↑x : Int).toNat)
 (perm.getD (↑x_1 : Int).toNat (0 : Int) / (2 : Int) ^ (k - (↑x : Int)).toNat)).toNat
 false =
 true →
 (seenR ((2 : Int) ^ k.toNat) (linesI k.toNat (↑x : Int).toNat perm x_1)).getD
 (bitsF BinOp.or IntKind.i64
 (bitsF BinOp.and IntKind.i64 (↑x_1 : Int)
 ((1 : Int) * (2 : Int) ^ (k - (↑x : Int)).toNat - (1 : Int)) *
 (2 : Int) ^ (↑x : Int).toNat)
 (perm.getD (↑x_1 : Int).toNat (0 : Int) / (2 : Int) ^ (k - (↑x : Int)).toNat)).toNat
 false =
 true ∧
 (false, (0 : Int)) = omegaF k perm) ∧
 ((seenR ((2 : Int) ^ k.toNat) (linesI k.toNat (↑x : Int).toNat perm x_1)).getD
 (bitsF BinOp.or IntKind.i64
 (bitsF BinOp.and IntKind.i64 (↑x_1 : Int)
 ((1 : Int) * (2 : Int) ^ (k - (↑x : Int)).toNat - (1 : Int)) *
 (2 : Int) ^ (↑x : Int).toNat)
 (perm.getD (↑x_1 : Int).toNat (0 : Int) / (2 : Int) ^ (k - (↑x : Int)).toNat)).toNat
 false =
 false →
 (seenR ((2 : Int) ^ k.toNat) (linesI k.toNat (↑x : Int).toNat perm x_1)).getD
 (bitsF BinOp.or IntKind.i64
 (bitsF BinOp.and IntKind.i64 (↑x_1 : Int)
 ((1 : Int) * (2 : Int) ^ (k - (↑x : Int)).toNat - (1 : Int)) *
 (2 : Int) ^ (↑x : Int).toNat)
 (perm.getD (↑x_1 : Int).toNat (0 : Int) / (2 : Int) ^ (k - (↑x : Int)).toNat)).toNat
 false =
 false ∧
 ((0 : Int) ≤
 bitsF BinOp.or IntKind.i64
 (bitsF BinOp.and IntKind.i64 (↑x_1 : Int)
 ((1 : Int) * (2 : Int) ^ (k - (↑x : Int)).toNat - (1 : Int)) *
 (2 : Int) ^ (↑x : Int).toNat)
 (perm.getD (↑x_1 : Int).toNat (0 : Int) / (2 : Int) ^ (k - (↑x : Int)).toNat) ∧
 bitsF BinOp.or IntKind.i64
 (bitsF BinOp.and IntKind.i64 (↑x_1 : Int)
 ((1 : Int) * (2 : Int) ^ (k - (↑x : Int)).toNat - (1 : Int)) *
 (2 : Int) ^ (↑x : Int).toNat)
 (perm.getD (↑x_1 : Int).toNat (0 : Int) / (2 : Int) ^ (k - (↑x : Int)).toNat) <
 (↑(seenR ((2 : Int) ^ k.toNat) (linesI k.toNat (↑x : Int).toNat perm x_1)).length : Int)) ∧
 Fits IntKind.i64 ((↑x_1 : Int) + (1 : Int)) ∧
 ∃ (x' : Nat),
 (x' ≤ (2 : Nat) ^ k.toNat ∧ (linesI k.toNat (↑x : Int).toNat perm x').Nodup) ∧
 (2 : Nat) ^ k.toNat - x' < (2 : Nat) ^ k.toNat - x_1 ∧
 ((seenR ((2 : Int) ^ k.toNat) (linesI k.toNat (↑x : Int).toNat perm x_1)).set
 (bitsF BinOp.or IntKind.i64
 (bitsF BinOp.and IntKind.i64 (↑x_1 : Int)
 ((1 : Int) * (2 : Int) ^ (k - (↑x : Int)).toNat - (1 : Int)) *
 (2 : Int) ^ (↑x : Int).toNat)
 (perm.getD (↑x_1 : Int).toNat (0 : Int) /
 (2 : Int) ^ (k - (↑x : Int)).toNat)).toNat
 true =
 seenR ((2 : Int) ^ k.toNat) (linesI k.toNat (↑x : Int).toNat perm x') ∧
 True) ∧
 (↑x_1 : Int) + (1 : Int) = (↑x' : Int) ∧
 (↑perm.length : Int) = (↑perm.length : Int) ∧
 perm = perm ∧ True ∧ (↑x : Int) = (↑x : Int) ∧ k = k ∧ perm = perm ∧ True)) ∧
 (¬(↑x_1 : Int) < (↑perm.length : Int) →
 ¬(↑x_1 : Int) < (↑perm.length : Int) ∧
 Fits IntKind.i64 ((↑x : Int) + (1 : Int)) ∧
 ∃ (x' : Nat),
 (((1 : Nat) ≤ x' ∧ x' ≤ k.toNat + (1 : Nat)) ∧
 ∀ (i : Nat), (1 : Nat) ≤ i → i < x' → (linesI k.toNat i perm ((2 : Nat) ^ k.toNat)).Nodup) ∧
 k.toNat + (1 : Nat) - x' < k.toNat + (1 : Nat) - x ∧
 True ∧ (↑x : Int) + (1 : Int) = (↑x' : Int) ∧ k = k ∧ perm = perm ∧ True)) ∧
 (¬(↑x : Int) ≤ k → ¬(↑x : Int) ≤ k ∧ (true, (0 : Int)) = omegaF k perm)))) := by
 kernel_rfl

theorem g40_eq (k : Int) (perm : List Int) : g40 k perm = (
 (∃ (x0 : Nat),
 (((1 : Nat) ≤ x0 ∧ x0 ≤ k.toNat + (1 : Nat)) ∧ ∀ (i : Nat), (1 : Nat) ≤ i → i < x0 → (linesI k.toNat i perm ((2 : Nat) ^ k.toNat)).Nodup) ∧
 True ∧ (1 : Int) = (↑x0 : Int) ∧ k = k ∧ perm = perm ∧ True) ∧
 ∀ (x : Nat),
 (((1 : Nat) ≤ x ∧ x ≤ k.toNat + (1 : Nat)) ∧ ∀ (i : Nat), (1 : Nat) ≤ i → i < x → (linesI k.toNat i perm ((2 : Nat) ^ k.toNat)).Nodup) →
 ((↑x : Int) ≤ k →
 (↑x : Int) ≤ k ∧
 (∃ (x0 : Nat),
 (x0 ≤ (2 : Nat) ^ k.toNat ∧ (linesI k.toNat (↑x : Int).toNat perm x0).Nodup) ∧
 ([] = linesI k.toNat (↑x : Int).toNat perm x0 ∧ True) ∧ (0 : Int) = (↑x0 : Int) ∧ True ∧ (↑x : Int) = (↑x : Int) ∧ k = k ∧ perm = perm ∧ True) ∧
 ∀ (x_1 : Nat),
 x_1 ≤ (2 : Nat) ^ k.toNat ∧ (linesI k.toNat (↑x : Int).toNat perm x_1).Nodup →
 ((0 : Int) ≤ k ∧ k < (64 : Int)) ∧
 Fits IntKind.i64 ((1 : Int) * (2 : Int) ^ k.toNat) ∧
 ((↑x_1 : Int) < (1 : Int) * (2 : Int) ^ k.toNat →
 (↑x_1 : Int) < (1 : Int) * (2 : Int) ^ k.toNat ∧
 Fits IntKind.i64 (k - (↑x : Int)) ∧
 ((0 : Int) ≤ k - (↑x : Int) ∧ k - (↑x : Int) < (64 : Int)) ∧
 Fits IntKind.i64 ((1 : Int) * (2 : Int) ^ (k - (↑x : Int)).toNat) ∧
 ((0 : Int) ≤ (↑x_1 : Int) ∧ (0 : Int) < (1 : Int) * (2 : Int) ^ (k - (↑x : Int)).toNat) ∧
 ((0 : Int) ≤ (↑x : Int) ∧ (↑x : Int) < (64 : Int)) ∧
 Fits IntKind.i64 ((↑x_1 : Int) % ((1 : Int) * (2 : Int) ^ (k - (↑x : Int)).toNat) * (2 : Int) ^ (↑x : Int).toNat) ∧
 ((0 : Int) ≤ (↑x_1 : Int) ∧ (↑x_1 : Int) < (↑perm.length : Int)) ∧
 Fits IntKind.i64 (k - (↑x : Int)) ∧
 ((0 : Int) ≤ k - (↑x : Int) ∧ k - (↑x : Int) < (64 : Int)) ∧
 Fits IntKind.i64
 ((↑x_1 : Int) % ((1 : Int) * (2 : Int) ^ (k - (↑x : Int)).toNat) * (2 : Int) ^ (↑x : Int).toNat +
 perm.getD (↑x_1 : Int).toNat (0 : Int) / (2 : Int) ^ (k - (↑x : Int)).toNat) ∧
 (linesI k.toNat (↑x : Int).toNat perm x_1).length ≤ (1000 : Nat) ∧
 (decide
 ((↑x_1 : Int) % ((1 : Int) * (2 : Int) ^ (k - (↑x : Int)).toNat) * (2 : Int) ^ (↑x : Int).toNat +
 perm.getD (↑x_1 : Int).toNat (0 : Int) / (2 : Int) ^ (k - (↑x : Int)).toNat ∈
 linesI k.toNat (↑x : Int).toNat perm x_1) =
 true →
 decide
 ((↑x_1 : Int) % ((1 : Int) * (2 : Int) ^ (k - (↑x : Int)).toNat) * (2 : Int) ^ (↑x : Int).toNat +
 perm.getD (↑x_1 : Int).toNat (0 : Int) / (2 : Int) ^ (k - (↑x : Int)).toNat ∈
 linesI k.toNat (↑x : Int).toNat perm x_1) =
 true ∧
 false = omegaB k.toNat perm) ∧
 (decide
 ((↑x_1 : Int) % ((1 : Int) * (2 : Int) ^ (k - (↑x : Int)).toNat) * (2 : Int) ^ (↑x : Int).toNat +
 perm.getD (↑x_1 : Int).toNat (0 : Int) / (2 : Int) ^ (k - (↑x : Int)).toNat ∈
 linesI k.toNat (↑x : Int).toNat perm x_1) =
 false →
 decide
 ((↑x_1 : Int) % ((1 : Int) * (2 : Int) ^ (k - (↑x : Int)).toNat) * (2 : Int) ^ (↑x : Int).toNat +
 perm.getD (↑x_1 : Int).toNat (0 : Int) / (2 : Int) ^ (k - (↑x : Int)).toNat ∈
 linesI k.toNat (↑x : Int).toNat perm x_1) =
 false ∧
 Small ((linesI k.toNat (↑x : Int).toNat perm x_1).length + ((0 : Nat) + (1 : Nat))) ∧
 Fits IntKind.i64 ((↑x_1 : Int) + (1 : Int)) ∧
 ∃ (x' : Nat),
 (x' ≤ (2 : Nat) ^ k.toNat ∧ (linesI k.toNat (↑x : Int).toNat perm x').Nodup) ∧
 (2 : Nat) ^ k.toNat - x' < (2 : Nat) ^ k.toNat - x_1 ∧
 (linesI k.toNat (↑x : Int).toNat perm x_1 ++
 [(↑x_1 : Int) % ((1 : Int) * (2 : Int) ^ (k - (↑x : Int)).toNat) * (2 : Int) ^ (↑x : Int).toNat +
 perm.getD (↑x_1 : Int).toNat (0 : Int) / (2 : Int) ^ (k - (↑x : Int)).toNat] =
 linesI k.toNat (↑x : Int).toNat perm x' ∧
 True) ∧
 (↑x_1 : Int) + (1 : Int) = (↑x' : Int) ∧ True ∧ (↑x : Int) = (↑x : Int) ∧ k = k ∧ perm = perm ∧ True)) ∧
 (¬(↑x_1 : Int) < (1 : Int) * (2 : Int) ^ k.toNat →
 ¬(↑x_1 : Int) < (1 : Int) * (2 : Int) ^ k.toNat ∧
 Fits IntKind.i64 ((↑x : Int) + (1 : Int)) ∧
 ∃ (x' : Nat),
 (((1 : Nat) ≤ x' ∧ x' ≤ k.toNat + (1 : Nat)) ∧ ∀ (i : Nat), (1 : Nat) ≤ i → i < x' → (linesI k.toNat i perm ((2 : Nat) ^ k.toNat)).Nodup) ∧
 k.toNat + (1 : Nat) - x' < k.toNat + (1 : Nat) - x ∧ True ∧ (↑x : Int) + (1 : Int) = (↑x' : Int) ∧ k = k ∧ perm = perm ∧ True)) ∧
 (¬(↑x : Int) ≤ k → ¬(↑x : Int) ≤ k ∧ true = omegaB k.toNat perm)) := by
 kernel_rfl

theorem g8_eq (k : Int) (x : List Int) : g8 k x = (
 True ∧
 (List.take (13 : Nat) x).length ≤ (1000 : Nat) ∧
 True ∧
 ((!decide ((1 : Int) ≤ k ∧ k ≤ (3 : Int))) = true →
 (!decide ((1 : Int) ≤ k ∧ k ≤ (3 : Int))) = true ∧
 ((!(omegaF k (List.take (13 : Nat) x)).fst) = true →
 (!(omegaF k (List.take (13 : Nat) x)).fst) = true ∧
 (!(omegaF k (List.take (13 : Nat) x)).fst) = true ∧
 ((omegaF k (List.take (13 : Nat) x)).snd = (1 : Int) →
 (omegaF k (List.take (13 : Nat) x)).snd = (1 : Int) ∧
 (omegaF k (List.take (13 : Nat) x)).snd = (1 : Int) ∧ (omegaF k (List.take (13 : Nat) x)).snd = (1 : Int) ∧ True ∧ true = true) ∧
 (¬(omegaF k (List.take (13 : Nat) x)).snd = (1 : Int) →
 ¬(omegaF k (List.take (13 : Nat) x)).snd = (1 : Int) ∧
 ¬(omegaF k (List.take (13 : Nat) x)).snd = (1 : Int) ∧ ¬(omegaF k (List.take (13 : Nat) x)).snd = (1 : Int) ∧ false = true)) ∧
 ((!(omegaF k (List.take (13 : Nat) x)).fst) = false →
 (!(omegaF k (List.take (13 : Nat) x)).fst) = false ∧ (!(omegaF k (List.take (13 : Nat) x)).fst) = false ∧ false = true)) ∧
 ((!decide ((1 : Int) ≤ k ∧ k ≤ (3 : Int))) = false →
 (!decide ((1 : Int) ≤ k ∧ k ≤ (3 : Int))) = false ∧
 ((0 : Int) ≤ k ∧ k < (64 : Int)) ∧
 Fits IntKind.i64 ((1 : Int) * (2 : Int) ^ k.toNat) ∧
 ((List.take (13 : Nat) x).length ≤ (1000 : Nat) ∧ (0 : Int) ≤ (1 : Int) * (2 : Int) ^ k.toNat ∧ (1 : Int) * (2 : Int) ^ k.toNat ≤ (1000000 : Int)) ∧
 ((!decide (PermP (List.take (13 : Nat) x) ((1 : Int) * (2 : Int) ^ k.toNat))) = true →
 (!decide (PermP (List.take (13 : Nat) x) ((1 : Int) * (2 : Int) ^ k.toNat))) = true ∧
 ((!(omegaF k (List.take (13 : Nat) x)).fst) = true →
 (!(omegaF k (List.take (13 : Nat) x)).fst) = true ∧
 (!(omegaF k (List.take (13 : Nat) x)).fst) = true ∧
 ((omegaF k (List.take (13 : Nat) x)).snd = (2 : Int) →
 (omegaF k (List.take (13 : Nat) x)).snd = (2 : Int) ∧
 (omegaF k (List.take (13 : Nat) x)).snd = (2 : Int) ∧ (omegaF k (List.take (13 : Nat) x)).snd = (2 : Int) ∧ True ∧ true = true) ∧
 (¬(omegaF k (List.take (13 : Nat) x)).snd = (2 : Int) →
 ¬(omegaF k (List.take (13 : Nat) x)).snd = (2 : Int) ∧
 ¬(omegaF k (List.take (13 : Nat) x)).snd = (2 : Int) ∧ ¬(omegaF k (List.take (13 : Nat) x)).snd = (2 : Int) ∧ false = true)) ∧
 ((!(omegaF k (List.take (13 : Nat) x)).fst) = false →
 (!(omegaF k (List.take (13 : Nat) x)).fst) = false ∧ (!(omegaF k (List.take (13 : Nat) x)).fst) = false ∧ false = true)) ∧
 ((!decide (PermP (List.take (13 : Nat) x) ((1 : Int) * (2 : Int) ^ k.toNat))) = false →
 (!decide (PermP (List.take (13 : Nat) x) ((1 : Int) * (2 : Int) ^ k.toNat))) = false ∧
 (((1 : Int) ≤ k ∧ k ≤ (3 : Int)) ∧
 (↑(List.take (13 : Nat) x).length : Int) = (2 : Int) ^ k.toNat ∧
 (∀ (x_1 : Int), x_1 ∈ List.take (13 : Nat) x → (0 : Int) ≤ x_1 ∧ x_1 < (2 : Int) ^ k.toNat) ∧ (List.take (13 : Nat) x).Nodup) ∧
 ((omegaF k (List.take (13 : Nat) x)).fst = omegaB k.toNat (List.take (13 : Nat) x) →
 (omegaF k (List.take (13 : Nat) x)).fst = omegaB k.toNat (List.take (13 : Nat) x) ∧
 (omegaF k (List.take (13 : Nat) x)).fst = omegaB k.toNat (List.take (13 : Nat) x) ∧
 ((omegaF k (List.take (13 : Nat) x)).snd = (0 : Int) →
 (omegaF k (List.take (13 : Nat) x)).snd = (0 : Int) ∧
 (omegaF k (List.take (13 : Nat) x)).snd = (0 : Int) ∧ (omegaF k (List.take (13 : Nat) x)).snd = (0 : Int) ∧ True ∧ true = true) ∧
 (¬(omegaF k (List.take (13 : Nat) x)).snd = (0 : Int) →
 ¬(omegaF k (List.take (13 : Nat) x)).snd = (0 : Int) ∧
 ¬(omegaF k (List.take (13 : Nat) x)).snd = (0 : Int) ∧ ¬(omegaF k (List.take (13 : Nat) x)).snd = (0 : Int) ∧ false = true)) ∧
 (¬(omegaF k (List.take (13 : Nat) x)).fst = omegaB k.toNat (List.take (13 : Nat) x) →
 ¬(omegaF k (List.take (13 : Nat) x)).fst = omegaB k.toNat (List.take (13 : Nat) x) ∧
 ¬(omegaF k (List.take (13 : Nat) x)).fst = omegaB k.toNat (List.take (13 : Nat) x) ∧ false = true)))) := by
 kernel_rfl

theorem g9_eq (x : Int) : g9 x = (
 Fits IntKind.i64 x ∧
 ((0 : Int) ≤ x ∧ (0 : Int) < (3 : Int)) ∧
 Fits IntKind.i64 (x % (3 : Int) + (1 : Int)) ∧
 (∃ (x0 : Nat),
 ((2 : Nat) ≤ x0 ∧ x0 ≤ (2 : Nat) ^ kOf3 x + (1 : Nat)) ∧
 True ∧ x % (3 : Int) + (1 : Int) = (↑(kOf3 x) : Int) ∧ (2 : Int) = (↑x0 : Int) ∧ (1 : Int) = (↑(facN (x0 - (1 : Nat))) : Int) ∧ (0 : Int) = (0 : Int) ∧ True) ∧
 ∀ (x_1 : Nat),
 (2 : Nat) ≤ x_1 ∧ x_1 ≤ (2 : Nat) ^ kOf3 x + (1 : Nat) →
 ((0 : Int) ≤ (↑(kOf3 x) : Int) ∧ (↑(kOf3 x) : Int) < (64 : Int)) ∧
 Fits IntKind.i64 ((1 : Int) * (2 : Int) ^ (↑(kOf3 x) : Int).toNat) ∧
 ((↑x_1 : Int) ≤ (1 : Int) * (2 : Int) ^ (↑(kOf3 x) : Int).toNat →
 (↑x_1 : Int) ≤ (1 : Int) * (2 : Int) ^ (↑(kOf3 x) : Int).toNat ∧
 Fits IntKind.i64 ((↑(facN (x_1 - (1 : Nat))) : Int) * (↑x_1 : Int)) ∧
 Fits IntKind.i64 ((↑x_1 : Int) + (1 : Int)) ∧
 ∃ (x' : Nat),
 ((2 : Nat) ≤ x' ∧ x' ≤ (2 : Nat) ^ kOf3 x + (1 : Nat)) ∧
 (2 : Nat) ^ kOf3 x + (1 : Nat) - x' < (2 : Nat) ^ kOf3 x + (1 : Nat) - x_1 ∧
 True ∧
 (↑(kOf3 x) : Int) = (↑(kOf3 x) : Int) ∧
 (↑x_1 : Int) + (1 : Int) = (↑x' : Int) ∧
 (↑(facN (x_1 - (1 : Nat))) : Int) * (↑x_1 : Int) = (↑(facN (x' - (1 : Nat))) : Int) ∧ (0 : Int) = (0 : Int) ∧ True) ∧
 (¬(↑x_1 : Int) ≤ (1 : Int) * (2 : Int) ^ (↑(kOf3 x) : Int).toNat →
 ¬(↑x_1 : Int) ≤ (1 : Int) * (2 : Int) ^ (↑(kOf3 x) : Int).toNat ∧
 (∃ (x0 : Nat),
 x0 ≤ facN ((2 : Nat) ^ kOf3 x) ∧
 True ∧
 (0 : Int) = (↑x0 : Int) ∧
 (0 : Int) = (↑(passTo (kOf3 x) x0) : Int) ∧
 (↑(facN (x_1 - (1 : Nat))) : Int) = (↑(facN ((2 : Nat) ^ kOf3 x)) : Int) ∧ (↑(kOf3 x) : Int) = (↑(kOf3 x) : Int) ∧ True) ∧
 ∀ (x_2 : Nat),
 x_2 ≤ facN ((2 : Nat) ^ kOf3 x) →
 ((↑x_2 : Int) < (↑(facN ((2 : Nat) ^ kOf3 x)) : Int) →
 (↑x_2 : Int) < (↑(facN ((2 : Nat) ^ kOf3 x)) : Int) ∧
 (∃ (x0 : Nat),
 x0 ≤ (2 : Nat) ^ kOf3 x ∧
 ([] = (codeTo (↑x_2 : Int).toNat x0).fst ∧ True) ∧
 (0 : Int) = (↑x0 : Int) ∧
 (↑x_2 : Int) = (↑(codeTo (↑x_2 : Int).toNat x0).snd : Int) ∧
 True ∧
 (↑x_2 : Int) = (↑x_2 : Int) ∧
 (↑(passTo (kOf3 x) x_2) : Int) = (↑(passTo (kOf3 x) x_2) : Int) ∧
 (↑(facN ((2 : Nat) ^ kOf3 x)) : Int) = (↑(facN ((2 : Nat) ^ kOf3 x)) : Int) ∧ (↑(kOf3 x) : Int) = (↑(kOf3 x) : Int) ∧ True) ∧
 ∀ (x_3 : Nat),
 x_3 ≤ (2 : Nat) ^ kOf3 x →
 ((0 : Int) ≤ (↑(kOf3 x) : Int) ∧ (↑(kOf3 x) : Int) < (64 : Int)) ∧
 Fits IntKind.i64 ((1 : Int) * (2 : Int) ^ (↑(kOf3 x) : Int).toNat) ∧
 ((↑x_3 : Int) < (1 : Int) * (2 : Int) ^ (↑(kOf3 x) : Int).toNat →
 (↑x_3 : Int) < (1 : Int) * (2 : Int) ^ (↑(kOf3 x) : Int).toNat ∧
 Fits IntKind.i64 ((↑x_3 : Int) + (1 : Int)) ∧
 ((0 : Int) ≤ (↑(codeTo (↑x_2 : Int).toNat x_3).snd : Int) ∧ (0 : Int) < (↑x_3 : Int) + (1 : Int)) ∧
 Small ((codeTo (↑x_2 : Int).toNat x_3).fst.length + ((0 : Nat) + (1 : Nat))) ∧
 Fits IntKind.i64 ((↑x_3 : Int) + (1 : Int)) ∧
 ((0 : Int) ≤ (↑(codeTo (↑x_2 : Int).toNat x_3).snd : Int) ∧ (0 : Int) < (↑x_3 : Int) + (1 : Int)) ∧
 Fits IntKind.i64 ((↑(codeTo (↑x_2 : Int).toNat x_3).snd : Int) / ((↑x_3 : Int) + (1 : Int))) ∧
 Fits IntKind.i64 ((↑x_3 : Int) + (1 : Int)) ∧
 ∃ (x' : Nat),
 x' ≤ (2 : Nat) ^ kOf3 x ∧
 (2 : Nat) ^ kOf3 x - x' < (2 : Nat) ^ kOf3 x - x_3 ∧
 ((codeTo (↑x_2 : Int).toNat x_3).fst ++
 [IntKind.u8.wrap ((↑(codeTo (↑x_2 : Int).toNat x_3).snd : Int) % ((↑x_3 : Int) + (1 : Int)))] =
 (codeTo (↑x_2 : Int).toNat x').fst ∧
 True) ∧
 (↑x_3 : Int) + (1 : Int) = (↑x' : Int) ∧
 (↑(codeTo (↑x_2 : Int).toNat x_3).snd : Int) / ((↑x_3 : Int) + (1 : Int)) =
 (↑(codeTo (↑x_2 : Int).toNat x').snd : Int) ∧
 True ∧
 (↑x_2 : Int) = (↑x_2 : Int) ∧
 (↑(passTo (kOf3 x) x_2) : Int) = (↑(passTo (kOf3 x) x_2) : Int) ∧
 (↑(facN ((2 : Nat) ^ kOf3 x)) : Int) = (↑(facN ((2 : Nat) ^ kOf3 x)) : Int) ∧
 (↑(kOf3 x) : Int) = (↑(kOf3 x) : Int) ∧ True) ∧
 (¬(↑x_3 : Int) < (1 : Int) * (2 : Int) ^ (↑(kOf3 x) : Int).toNat →
 ¬(↑x_3 : Int) < (1 : Int) * (2 : Int) ^ (↑(kOf3 x) : Int).toNat ∧
 ((0 : Int) ≤ (↑(kOf3 x) : Int) ∧ (↑(kOf3 x) : Int) < (64 : Int)) ∧
 Fits IntKind.i64 ((1 : Int) * (2 : Int) ^ (↑(kOf3 x) : Int).toNat) ∧
 (((0 : Int) ≤ (1 : Int) * (2 : Int) ^ (↑(kOf3 x) : Int).toNat ∧
 (1 : Int) * (2 : Int) ^ (↑(kOf3 x) : Int).toNat ≤ (100 : Int)) ∧
 (codeTo (↑x_2 : Int).toNat x_3).fst.length ≤ maxLen ∧
 ∀ (b : Int), b ∈ (codeTo (↑x_2 : Int).toNat x_3).fst → (0 : Int) ≤ b ∧ b ≤ (255 : Int)) ∧
 (nthTo (codeTo (↑x_2 : Int).toNat x_3).fst ((1 : Int) * (2 : Int) ^ (↑(kOf3 x) : Int).toNat).toNat).length ≤ (1000 : Nat) ∧
 (¬(omegaF (↑(kOf3 x) : Int)
 (nthTo (codeTo (↑x_2 : Int).toNat x_3).fst ((1 : Int) * (2 : Int) ^ (↑(kOf3 x) : Int).toNat).toNat)).snd =
 (0 : Int) →
 ¬(omegaF (↑(kOf3 x) : Int)
 (nthTo (codeTo (↑x_2 : Int).toNat x_3).fst ((1 : Int) * (2 : Int) ^ (↑(kOf3 x) : Int).toNat).toNat)).snd =
 (0 : Int) ∧
 false = true) ∧
 (¬¬(omegaF (↑(kOf3 x) : Int)
 (nthTo (codeTo (↑x_2 : Int).toNat x_3).fst ((1 : Int) * (2 : Int) ^ (↑(kOf3 x) : Int).toNat).toNat)).snd =
 (0 : Int) →
 ¬¬(omegaF (↑(kOf3 x) : Int)
 (nthTo (codeTo (↑x_2 : Int).toNat x_3).fst ((1 : Int) * (2 : Int) ^ (↑(kOf3 x) : Int).toNat).toNat)).snd =
 (0 : Int) ∧
 ((omegaF (↑(kOf3 x) : Int)
 (nthTo (codeTo (↑x_2 : Int).toNat x_3).fst ((1 : Int) * (2 : Int) ^ (↑(kOf3 x) : Int).toNat).toNat)).fst =
 true →
 (omegaF (↑(kOf3 x) : Int)
 (nthTo (codeTo (↑x_2 : Int).toNat x_3).fst
 ((1 : Int) * (2 : Int) ^ (↑(kOf3 x) : Int).toNat).toNat)).fst =
 true ∧
 (omegaF (↑(kOf3 x) : Int)
 (nthTo (codeTo (↑x_2 : Int).toNat x_3).fst
 ((1 : Int) * (2 : Int) ^ (↑(kOf3 x) : Int).toNat).toNat)).fst =
 true ∧
 (omegaF (↑(kOf3 x) : Int)
 (nthTo (codeTo (↑x_2 : Int).toNat x_3).fst
 ((1 : Int) * (2 : Int) ^ (↑(kOf3 x) : Int).toNat).toNat)).fst =
 true ∧
 Fits IntKind.i64 ((↑(passTo (kOf3 x) x_2) : Int) + (1 : Int)) ∧
 Fits IntKind.i64 ((↑x_2 : Int) + (1 : Int)) ∧
 ∃ (x' : Nat),
 x' ≤ facN ((2 : Nat) ^ kOf3 x) ∧
 facN ((2 : Nat) ^ kOf3 x) - x' < facN ((2 : Nat) ^ kOf3 x) - x_2 ∧
 True ∧
 (↑x_2 : Int) + (1 : Int) = (↑x' : Int) ∧
 (↑(passTo (kOf3 x) x_2) : Int) + (1 : Int) = (↑(passTo (kOf3 x) x') : Int) ∧
 (↑(facN ((2 : Nat) ^ kOf3 x)) : Int) = (↑(facN ((2 : Nat) ^ kOf3 x)) : Int) ∧
 (↑(kOf3 x) : Int) = (↑(kOf3 x) : Int) ∧ True) ∧
 ((omegaF (↑(kOf3 x) : Int)
 (nthTo (codeTo (↑x_2 : Int).toNat x_3).fst ((1 : Int) * (2 : Int) ^ (↑(kOf3 x) : Int).toNat).toNat)).fst =
 false →
 (omegaF (↑(kOf3 x) : Int)
 (nthTo (codeTo (↑x_2 : Int).toNat x_3).fst
 ((1 : Int) * (2 : Int) ^ (↑(kOf3 x) : Int).toNat).toNat)).fst =
 false ∧
 (omegaF (↑(kOf3 x) : Int)
 (nthTo (codeTo (↑x_2 : Int).toNat x_3).fst
 ((1 : Int) * (2 : Int) ^ (↑(kOf3 x) : Int).toNat).toNat)).fst =
 false ∧
 (omegaF (↑(kOf3 x) : Int)
 (nthTo (codeTo (↑x_2 : Int).toNat x_3).fst
 ((1 : Int) * (2 : Int) ^ (↑(kOf3 x) : Int).toNat).toNat)).fst =
 false ∧
 Fits IntKind.i64 ((↑x_2 : Int) + (1 : Int)) ∧
 ∃ (x' : Nat),
 x' ≤ facN ((2 : Nat) ^ kOf3 x) ∧
 facN ((2 : Nat) ^ kOf3 x) - x' < facN ((2 : Nat) ^ kOf3 x) - x_2 ∧
 True ∧
 (↑x_2 : Int) + (1 : Int) = (↑x' : Int) ∧
 (↑(passTo (kOf3 x) x_2) : Int) = (↑(passTo (kOf3 x) x') : Int) ∧
 (↑(facN ((2 : Nat) ^ kOf3 x)) : Int) = (↑(facN ((2 : Nat) ^ kOf3 x)) : Int) ∧
 (↑(kOf3 x) : Int) = (↑(kOf3 x) : Int) ∧ True)))) ∧
 (¬(↑x_2 : Int) < (↑(facN ((2 : Nat) ^ kOf3 x)) : Int) →
 ¬(↑x_2 : Int) < (↑(facN ((2 : Nat) ^ kOf3 x)) : Int) ∧
 (∃ (x0 : Nat),
 x0 ≤ (2 : Nat) ^ kOf3 x ∧
 ([] = sameTo x0 ∧ True) ∧
 (0 : Int) = (↑x0 : Int) ∧
 True ∧ (↑(passTo (kOf3 x) x_2) : Int) = (↑(passTo (kOf3 x) x_2) : Int) ∧ (↑(kOf3 x) : Int) = (↑(kOf3 x) : Int) ∧ True) ∧
 ∀ (x_3 : Nat),
 x_3 ≤ (2 : Nat) ^ kOf3 x →
 ((0 : Int) ≤ (↑(kOf3 x) : Int) ∧ (↑(kOf3 x) : Int) < (64 : Int)) ∧
 Fits IntKind.i64 ((1 : Int) * (2 : Int) ^ (↑(kOf3 x) : Int).toNat) ∧
 ((↑x_3 : Int) < (1 : Int) * (2 : Int) ^ (↑(kOf3 x) : Int).toNat →
 (↑x_3 : Int) < (1 : Int) * (2 : Int) ^ (↑(kOf3 x) : Int).toNat ∧
 Small ((sameTo x_3).length + ((0 : Nat) + (1 : Nat))) ∧
 Fits IntKind.i64 ((↑x_3 : Int) + (1 : Int)) ∧
 ∃ (x' : Nat),
 x' ≤ (2 : Nat) ^ kOf3 x ∧
 (2 : Nat) ^ kOf3 x - x' < (2 : Nat) ^ kOf3 x - x_3 ∧
 (sameTo x_3 ++ [(↑x_3 : Int)] = sameTo x' ∧ True) ∧
 (↑x_3 : Int) + (1 : Int) = (↑x' : Int) ∧
 True ∧
 (↑(passTo (kOf3 x) x_2) : Int) = (↑(passTo (kOf3 x) x_2) : Int) ∧ (↑(kOf3 x) : Int) = (↑(kOf3 x) : Int) ∧ True) ∧
 (¬(↑x_3 : Int) < (1 : Int) * (2 : Int) ^ (↑(kOf3 x) : Int).toNat →
 ¬(↑x_3 : Int) < (1 : Int) * (2 : Int) ^ (↑(kOf3 x) : Int).toNat ∧
 (sameTo x_3).length ≤ (1000 : Nat) ∧
 Fits IntKind.i64 ((↑(kOf3 x) : Int) - (1 : Int)) ∧
 ((0 : Int) ≤ (↑(kOf3 x) : Int) - (1 : Int) ∧ (↑(kOf3 x) : Int) - (1 : Int) < (64 : Int)) ∧
 Fits IntKind.i64 ((↑(kOf3 x) : Int) * (2 : Int) ^ ((↑(kOf3 x) : Int) - (1 : Int)).toNat) ∧
 ((0 : Int) ≤ (↑(kOf3 x) : Int) * (2 : Int) ^ ((↑(kOf3 x) : Int) - (1 : Int)).toNat ∧
 (↑(kOf3 x) : Int) * (2 : Int) ^ ((↑(kOf3 x) : Int) - (1 : Int)).toNat < (64 : Int)) ∧
 Fits IntKind.i64
 ((1 : Int) * (2 : Int) ^ ((↑(kOf3 x) : Int) * (2 : Int) ^ ((↑(kOf3 x) : Int) - (1 : Int)).toNat).toNat) ∧
 ((↑(passTo (kOf3 x) x_2) : Int) =
 (1 : Int) * (2 : Int) ^ ((↑(kOf3 x) : Int) * (2 : Int) ^ ((↑(kOf3 x) : Int) - (1 : Int)).toNat).toNat →
 (↑(passTo (kOf3 x) x_2) : Int) =
 (1 : Int) * (2 : Int) ^ ((↑(kOf3 x) : Int) * (2 : Int) ^ ((↑(kOf3 x) : Int) - (1 : Int)).toNat).toNat ∧
 (↑(passTo (kOf3 x) x_2) : Int) =
 (1 : Int) * (2 : Int) ^ ((↑(kOf3 x) : Int) * (2 : Int) ^ ((↑(kOf3 x) : Int) - (1 : Int)).toNat).toNat ∧
 ((omegaF (↑(kOf3 x) : Int) (sameTo x_3)).fst = true →
 (omegaF (↑(kOf3 x) : Int) (sameTo x_3)).fst = true ∧
 (omegaF (↑(kOf3 x) : Int) (sameTo x_3)).fst = true ∧
 (omegaF (↑(kOf3 x) : Int) (sameTo x_3)).fst = true ∧
 (omegaF (↑(kOf3 x) : Int) (sameTo x_3)).fst = true ∧
 (omegaF (↑(kOf3 x) : Int) (sameTo x_3)).fst = true ∧
 ((omegaF (↑(kOf3 x) : Int) (sameTo x_3)).snd = (0 : Int) →
 (omegaF (↑(kOf3 x) : Int) (sameTo x_3)).snd = (0 : Int) ∧
 (omegaF (↑(kOf3 x) : Int) (sameTo x_3)).snd = (0 : Int) ∧
 (omegaF (↑(kOf3 x) : Int) (sameTo x_3)).snd = (0 : Int) ∧ True ∧ true = true) ∧
 (¬(omegaF (↑(kOf3 x) : Int) (sameTo x_3)).snd = (0 : Int) →
 ¬(omegaF (↑(kOf3 x) : Int) (sameTo x_3)).snd = (0 : Int) ∧
 ¬(omegaF (↑(kOf3 x) : Int) (sameTo x_3)).snd = (0 : Int) ∧
 ¬(omegaF (↑(kOf3 x) : Int) (sameTo x_3)).snd = (0 : Int) ∧ false = true)) ∧
 ((omegaF (↑(kOf3 x) : Int) (sameTo x_3)).fst = false →
 (omegaF (↑(kOf3 x) : Int) (sameTo x_3)).fst = false ∧
 (omegaF (↑(kOf3 x) : Int) (sameTo x_3)).fst = false ∧
 (omegaF (↑(kOf3 x) : Int) (sameTo x_3)).fst = false ∧
 (omegaF (↑(kOf3 x) : Int) (sameTo x_3)).fst = false ∧
 (omegaF (↑(kOf3 x) : Int) (sameTo x_3)).fst = false ∧ false = true)) ∧
 (¬(↑(passTo (kOf3 x) x_2) : Int) =
 (1 : Int) * (2 : Int) ^ ((↑(kOf3 x) : Int) * (2 : Int) ^ ((↑(kOf3 x) : Int) - (1 : Int)).toNat).toNat →
 ¬(↑(passTo (kOf3 x) x_2) : Int) =
 (1 : Int) * (2 : Int) ^ ((↑(kOf3 x) : Int) * (2 : Int) ^ ((↑(kOf3 x) : Int) - (1 : Int)).toNat).toNat ∧
 ¬(↑(passTo (kOf3 x) x_2) : Int) =
 (1 : Int) * (2 : Int) ^ ((↑(kOf3 x) : Int) * (2 : Int) ^ ((↑(kOf3 x) : Int) - (1 : Int)).toNat).toNat ∧
 false = true))))) := by
 kernel_rfl

end Go.SX.Pa

/- Chapter 06, part 16: omega networks: the contracts; PatchOmegas. -/
namespace Go.SX.Pa
open Go Go.Proofs

theorem pow3 {K : Nat} (h : K ≤ 3) : (1 : Int) ≤ 2 ^ K ∧ (2 : Int) ^ K ≤ 8 := (show ∀ K : Fin 4, (1 : Int) ≤ 2 ^ K.val ∧ (2 : Int) ^ K.val ≤ 8 by decide) ⟨K, by omega⟩
/-- The bits of a line. -/
theorem line_bits : ∀ K j : Fin 4, 1 ≤ j.val → j.val ≤ K.val → ∀ s t : Fin 8, s.val < 2 ^ K.val → t.val < 2 ^ K.val →
    bitsF .or .i64 (bitsF .and .i64 (s.val : Int) (2 ^ (K.val - j.val) - 1) * 2 ^ j.val) ((t.val : Int) / 2 ^ (K.val - j.val)) = linI K.val j.val s.val (t.val : Int) ∧
    (0 ≤ bitsF .and .i64 (s.val : Int) (2 ^ (K.val - j.val) - 1) * 2 ^ j.val ∧ bitsF .and .i64 (s.val : Int) (2 ^ (K.val - j.val) - 1) * 2 ^ j.val ≤ 64) := by decide +kernel
theorem line_bound : ∀ K j : Fin 4, 1 ≤ j.val → j.val ≤ K.val → ∀ s t : Fin 8, s.val < 2 ^ K.val → t.val < 2 ^ K.val →
    (0 ≤ linI K.val j.val s.val (t.val : Int) ∧ linI K.val j.val s.val (t.val : Int) < 2 ^ K.val) ∧ linI K.val j.val s.val (t.val : Int) = (s.val : Int) % 2 ^ (K.val - j.val) * 2 ^ j.val + (t.val : Int) / 2 ^ (K.val - j.val) ∧
    (0 ≤ (s.val : Int) % 2 ^ (K.val - j.val) * 2 ^ j.val ∧ (s.val : Int) % 2 ^ (K.val - j.val) * 2 ^ j.val ≤ 64) := by decide +kernel
theorem line_all {K j s : Nat} {t : Int} (h1 : 1 ≤ j) (h2 : j ≤ K) (h3 : K ≤ 3) (hs : s < 2 ^ K) (ht : 0 ≤ t ∧ t < 2 ^ K) :
    (bitsF .or .i64 (bitsF .and .i64 (s : Int) (2 ^ (K - j) - 1) * 2 ^ j) (t / 2 ^ (K - j)) = linI K j s t ∧
    (0 ≤ bitsF .and .i64 (s : Int) (2 ^ (K - j) - 1) * 2 ^ j ∧ bitsF .and .i64 (s : Int) (2 ^ (K - j) - 1) * 2 ^ j ≤ 64)) ∧
    (0 ≤ linI K j s t ∧ linI K j s t < 2 ^ K) ∧ linI K j s t = (s : Int) % 2 ^ (K - j) * 2 ^ j + t / 2 ^ (K - j) ∧ (0 ≤ (s : Int) % 2 ^ (K - j) * 2 ^ j ∧ (s : Int) % 2 ^ (K - j) * 2 ^ j ≤ 64) := by
  obtain ⟨T, rfl⟩ : ∃ T : Nat, t = (T : Int) := ⟨t.toNat, by omega⟩
  have h8 : 2 ^ K ≤ 2 ^ 3 := Nat.pow_le_pow_right (by omega) h3
  have hc : (2 : Int) ^ K = ((2 ^ K : Nat) : Int) := by simp
  rw [hc] at ht
  exact ⟨line_bits ⟨K, by omega⟩ ⟨j, by omega⟩ h1 h2 ⟨s, by omega⟩ ⟨T, by omega⟩ hs (by simp only; omega), line_bound ⟨K, by omega⟩ ⟨j, by omega⟩ h1 h2 ⟨s, by omega⟩ ⟨T, by omega⟩ hs (by simp only; omega)⟩
theorem linesI_succ (K j : Nat) (perm : List Int) (s : Nat) : linesI K j perm (s + 1) = linesI K j perm s ++ [linI K j s (perm.getD s 0)] := by
  unfold linesI; rw [List.range_succ, List.map_append]; rfl
theorem linesI_length (K j : Nat) (perm : List Int) (s : Nat) : (linesI K j perm s).length = s := by simp [linesI]
theorem nodup_prefix {l m : List Int} (h : (l ++ m).Nodup) : l.Nodup := (List.nodup_append.1 h).1
theorem lines_pre {K j : Nat} {perm : List Int} {s : Nat} (h : (linesI K j perm s).Nodup) : ∀ i, i ≤ s → (linesI K j perm i).Nodup := by
  induction s with
  | zero => intro i hi; rw [Nat.le_zero.1 hi]; exact h
  | succ s ih =>
    intro i hi
    rw [linesI_succ] at h
    by_cases e : i = s + 1
    · subst e; rw [linesI_succ]; exact h
    · exact ih (nodup_prefix h) i (by omega)
theorem omega_no {K j : Nat} {perm : List Int} {s : Nat} (h1 : 1 ≤ j) (h2 : j ≤ K) (hs : s < 2 ^ K) (h : linI K j s (perm.getD s 0) ∈ linesI K j perm s) : omegaB K perm = false := by
  unfold omegaB
  rw [List.all_eq_false]
  refine ⟨j - 1, List.mem_range.2 (by omega), ?_⟩
  rw [show j - 1 + 1 = j by omega, decide_eq_true_eq]
  intro hn
  have := lines_pre hn (s + 1) hs
  rw [linesI_succ, List.nodup_append] at this
  exact this.2.2 _ h _ (by simp) rfl
theorem omega_yes {K : Nat} {perm : List Int} (h : ∀ i, 1 ≤ i → i < K + 1 → (linesI K i perm (2 ^ K)).Nodup) : omegaB K perm = true := by
  unfold omegaB
  rw [List.all_eq_true]
  intro j hj
  have := List.mem_range.1 hj
  exact decide_eq_true (h (j + 1) (by omega) (by omega))

theorem ok39 : p39.OK Tryd.prog := p39.ok C39 (fun _ => cx2 (PC.OK.ci ok63) (PC.OK.ci ok51)) (fn := Tryd.f39) rfl (by decide +kernel) rfl fun (p : Int × List Int) hp => by
  obtain ⟨k, perm⟩ := p
  refine (g39_eq k perm).mpr ?_
  have hp : perm.length ≤ 1000 := hp
  simp only [pp1, eq_self, and_true, true_and, and_self, Int.toNat_natCast, Int.one_mul]
  unfold omegaF
  by_cases h1 : 1 ≤ k ∧ k ≤ 3
  · obtain ⟨K, rfl⟩ : ∃ K : Nat, k = (K : Int) := ⟨k.toNat, by omega⟩
    have hN : 2 ^ K ≤ 2 ^ 3 := Nat.pow_le_pow_right (by omega) (by omega)
    have hc : (2 : Int) ^ K = ((2 ^ K : Nat) : Int) := by simp
    simp only [Int.toNat_natCast]
    rw [if_pos h1]
    have hd : decide (1 ≤ (K : Int) ∧ (K : Int) ≤ 3) = true := decide_eq_true h1
    rw [hd]
    have hpw := pow3 (K := K) (by omega)
    have hf : Fits .i64 ((2 : Int) ^ K) := fits_i64 (by omega) (by omega)
    refine ⟨fun h => (by cases h), fun _ => ⟨by omega, hf, hp, fun h2 => ?_, fun h2 => ?_⟩⟩
    · rw [Bool.not_eq_true', decide_eq_false_iff_not] at h2
      rw [if_neg h2]
    · rw [Bool.not_eq_false', decide_eq_true_eq] at h2
      rw [if_pos h2]
      obtain ⟨q1, q2, q3⟩ := h2
      refine ⟨⟨1, ⟨by omega, fun i h3 h4 => by omega⟩, rfl⟩, fun j hj => ⟨fun h3 => ⟨by omega, hf, ⟨by rw [hc]; omega, by omega, by unfold Small; rw [hc]; omega⟩, ⟨0, ⟨by omega, by simp [linesI]⟩, ?_, rfl⟩, fun s hs => ⟨fun h4 => ?_, fun h4 => ?_⟩⟩, fun h3 => ?_⟩⟩
      · unfold seenR
        apply List.ext_getElem
        · simp
        · intro i h5 h6
          simp [linesI]
      · have hsl : s < perm.length := by omega
        have hs2 : s < 2 ^ K := by omega
        have ht := q2 _ (getD_mem perm 0 hsl)
        have hsub : ((K : Int) - (j : Int)).toNat = K - j := by omega
        obtain ⟨⟨b1, b2⟩, ⟨b3, b4⟩, _, _⟩ := line_all (K := K) (j := j) (s := s) (t := perm.getD s 0) (by omega) (by omega) (by omega) hs2 ht
        rw [hsub, b1, seenR_length, seenR_get b3 b4, seenR_set b3 b4, ← linesI_succ]
        have hp2 : (2 : Int) ^ (K - j) = ((2 ^ (K - j) : Nat) : Int) := by simp
        have hp3 : 2 ^ (K - j) ≤ 2 ^ 3 := Nat.pow_le_pow_right (by omega) (by omega)
        have f1 : Fits .i64 ((K : Int) - (j : Int)) := fits_i64 (by omega) (by omega)
        have hpj := pow3 (K := K - j) (by omega)
        have f2 : Fits .i64 ((2 : Int) ^ (K - j)) := fits_i64 (by omega) (by omega)
        have f3 : Fits .i64 ((2 : Int) ^ (K - j) - 1) := fits_i64 (by omega) (by omega)
        rw [hc, Int.toNat_natCast]
        rw [hc] at b4
        refine ⟨by omega, f1, by omega, f2, f3, by omega, fits_i64 (by omega) (by omega), f1, by omega, ⟨b3, b4⟩, fun h5 => ?_, fun h5 => ⟨⟨b3, b4⟩, fits_nat (by omega), s + 1, ⟨by omega, ?_⟩, by omega, rfl, by omega⟩⟩
        · rw [omega_no (by omega) (by omega) hs2 (of_decide_eq_true h5)]
        · rw [linesI_succ]
          exact nodup_snoc hs.2 (of_decide_eq_false h5)
      · have : s = 2 ^ K := by omega
        subst this
        refine ⟨fits_nat (by omega), j + 1, ⟨by omega, fun i h5 h6 => ?_⟩, by omega, by omega⟩
        by_cases e : i = j
        · subst e; exact hs.2
        · exact hj.2 i h5 (by omega)
      · have : j = K + 1 := by omega
        subst this
        rw [omega_yes hj.2]
  · have hd : decide (1 ≤ k ∧ k ≤ 3) = false := decide_eq_false h1
    rw [hd, if_neg h1]
    exact ⟨fun _ => rfl, fun h => by cases h⟩

theorem ok40 : p40.OK Tryd.prog := p40.ok C40 (fun _ => cx1 (PC.OK.ci ok34)) (fn := Tryd.f40) rfl (by decide +kernel) rfl fun (p : Int × List Int) hp => by
  obtain ⟨k, perm⟩ := p
  refine (g40_eq k perm).mpr ?_
  have hp : (1 ≤ k ∧ k ≤ 3) ∧ PermP perm (2 ^ k.toNat) := hp
  obtain ⟨h1, h2⟩ := hp
  obtain ⟨K, rfl⟩ : ∃ K : Nat, k = (K : Int) := ⟨k.toNat, by omega⟩
  simp only [pp1, eq_self, and_true, true_and, and_self, Int.toNat_natCast, Int.one_mul]
  have hN : 2 ^ K ≤ 2 ^ 3 := Nat.pow_le_pow_right (by omega) (by omega)
  have hc : (2 : Int) ^ K = ((2 ^ K : Nat) : Int) := by simp
  have hpw := pow3 (K := K) (by omega)
  have hf : Fits .i64 ((2 : Int) ^ K) := fits_i64 (by omega) (by omega)
  rw [Int.toNat_natCast] at h2
  obtain ⟨q1, q2, q3⟩ := h2
  refine ⟨⟨1, ⟨by omega, fun i h3 h4 => by omega⟩, rfl⟩, fun j hj => ⟨fun h3 => ⟨⟨0, ⟨by omega, by simp [linesI]⟩, rfl, rfl⟩, fun s hs => ⟨by omega, hf, fun h4 => ?_, fun h4 => ?_⟩⟩, fun h3 => ?_⟩⟩
  · have hs2 : s < 2 ^ K := by omega
    have hsl : s < perm.length := by omega
    have ht := q2 _ (getD_mem perm 0 hsl)
    have hsub : ((K : Int) - (j : Int)).toNat = K - j := by omega
    obtain ⟨_, ⟨b3, b4⟩, b5, b6⟩ := line_all (K := K) (j := j) (s := s) (t := perm.getD s 0) (by omega) (by omega) (by omega) hs2 ht
    rw [hsub, ← b5, ← linesI_succ, linesI_length]
    have hp2 : (2 : Int) ^ (K - j) = ((2 ^ (K - j) : Nat) : Int) := by simp
    have hp3 : 2 ^ (K - j) ≤ 2 ^ 3 := Nat.pow_le_pow_right (by omega) (by omega)
    have hp4 : 0 < 2 ^ (K - j) := Nat.pow_pos (by omega)
    have f1 : Fits .i64 ((K : Int) - (j : Int)) := fits_i64 (by omega) (by omega)
    have hpj := pow3 (K := K - j) (by omega)
    have f2 : Fits .i64 ((2 : Int) ^ (K - j)) := fits_i64 (by omega) (by omega)
    rw [hc] at b4
    refine ⟨f1, by omega, f2, ⟨by omega, by rw [hp2]; omega⟩, by omega, fits_i64 (by omega) (by omega), by omega, f1, by omega, fits_i64 (by omega) (by omega), by omega, fun h5 => ?_, fun h5 => ⟨by unfold Small; omega, fits_nat (by omega), s + 1, ⟨by omega, ?_⟩, by omega, rfl, by omega⟩⟩
    · rw [omega_no (by omega) (by omega) hs2 (of_decide_eq_true h5)]
    · rw [linesI_succ]
      exact nodup_snoc hs.2 (of_decide_eq_false h5)
  · have : s = 2 ^ K := by omega
    subst this
    refine ⟨fits_nat (by omega), j + 1, ⟨by omega, fun i h5 h6 => ?_⟩, by omega, by omega⟩
    by_cases e : i = j
    · subst e; exact hs.2
    · exact hj.2 i h5 (by omega)
  · have : j = K + 1 := by omega
    subst this
    rw [omega_yes hj.2]

theorem ok8 : p8.OK Tryd.prog := p8.ok (fun _ => cx [p17.ci, p39.ci, p21.ci, p25.ci, p22.ci, p40.ci] []) (fun _ => cx_ok (cs := [p17.ci, p39.ci, p21.ci, p25.ci, p22.ci, p40.ci]) ⟨PC.OK.ci ok17, PC.OK.ci ok39, PC.OK.ci ok21, PC.OK.ci ok25, PC.OK.ci ok22, PC.OK.ci ok40, trivial⟩ _) (fn := Tryd.f8) rfl (by decide +kernel) rfl fun (p : Int × List Int) _ => by
  obtain ⟨k, x⟩ := p
  refine (g8_eq k x).mpr ?_
  simp only [pp1, eq_self, and_true, true_and, and_self, Int.one_mul]
  have hx : (x.take 13).length ≤ 13 := by simp; omega
  generalize x.take 13 = perm at hx ⊢
  refine ⟨by omega, ?_⟩
  by_cases h1 : 1 ≤ k ∧ k ≤ 3
  · have hN : 2 ^ k.toNat ≤ 2 ^ 3 := Nat.pow_le_pow_right (by omega) (by omega)
    have hc : (2 : Int) ^ k.toNat = ((2 ^ k.toNat : Nat) : Int) := by simp
    have hpw := pow3 (K := k.toNat) (by omega)
    have hf : Fits .i64 ((2 : Int) ^ k.toNat) := fits_i64 (by omega) (by omega)
    have hd : decide (1 ≤ k ∧ k ≤ 3) = true := decide_eq_true h1
    simp only [hd, Bool.not_true]
    refine ⟨fun h => (by cases h), fun _ => ⟨by omega, hf, ⟨by omega, by rw [hc]; omega, by rw [hc]; omega⟩, ?_⟩⟩
    by_cases h2 : PermP perm (2 ^ k.toNat)
    · have e : omegaF k perm = (omegaB k.toNat perm, 0) := by unfold omegaF; rw [if_pos h1, if_pos h2]
      rw [e]
      simp only [h2, decide_true, Bool.not_true]
      exact ⟨fun h => (by cases h), fun _ => ⟨⟨h1, h2⟩, fun _ => ⟨fun h => h, fun h => absurd trivial h⟩, fun h => absurd trivial h⟩⟩
    · have e : omegaF k perm = (false, 2) := by unfold omegaF; rw [if_pos h1, if_neg h2]
      rw [e]
      simp [h2]
  · have e : omegaF k perm = (false, 1) := by unfold omegaF; rw [if_neg h1]
    have hd : decide (1 ≤ k ∧ k ≤ 3) = false := decide_eq_false h1
    simp only [hd, e]
    simp
end Go.SX.Pa
