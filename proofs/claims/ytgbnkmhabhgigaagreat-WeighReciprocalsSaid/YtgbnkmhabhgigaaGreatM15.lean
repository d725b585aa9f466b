/- Parts of the proof, one after the other: WzL1 WzL1E WzL1Q. -/
import Derived.Test.YtgbnkmhabhgigaaGreatM13
import Derived.Test.YtgbnkmhabhgigaaGreatM14
/- Chapter 08: the law of Reciprocals, what is asked. -/
namespace Go.SX.We
open Go Go.Proofs
noncomputable section
@[reducible] def p3r : PC := ⟨3, [aIs], [aB], fun _ => True, fun _ => true⟩
def g3r (x : List Int) : Prop := p3r.VC (cx [p15.ci, Nm.p6r.ci, p18.ci, p19.ci, Nm.r9.ci, Nm.r10.ci] []) Tryz.f3 x
end
end Go.SX.We

/- Printed by VC.lean: what the executor asks. -/
namespace Go.SX.We
open Go Go.Proofs IntKind List
theorem g3r_eq (x : List Int) : g3r x = (
 True ∧
 (take (13 : Nat) x).length ≤ 1000 ∧
 (take (13 : Nat) x).length ≤ 1000 ∧
 (¬checkF (take (13 : Nat) x) (12 : Int) = 0 →
 ¬checkF (take (13 : Nat) x) (12 : Int) = 0 ∧
 ((Nm.recF (take (13 : Nat) x)).fst = ByteArray.mk (nilT UInt8).toArray →
 (Nm.recF (take (13 : Nat) x)).fst = ByteArray.mk (nilT UInt8).toArray ∧
 (Nm.recF (take (13 : Nat) x)).fst = ByteArray.mk (nilT UInt8).toArray ∧
 ((Nm.recF (take (13 : Nat) x)).snd = checkF (take (13 : Nat) x) 12 →
 (Nm.recF (take (13 : Nat) x)).snd = checkF (take (13 : Nat) x) 12 ∧
 (Nm.recF (take (13 : Nat) x)).snd = checkF (take (13 : Nat) x) 12 ∧
 (Nm.recF (take (13 : Nat) x)).snd = checkF (take (13 : Nat) x) 12 ∧ True ∧ true = true) ∧
 (¬(Nm.recF (take (13 : Nat) x)).snd = checkF (take (13 : Nat) x) 12 →
 ¬(Nm.recF (take (13 : Nat) x)).snd = checkF (take (13 : Nat) x) 12 ∧
 ¬(Nm.recF (take (13 : Nat) x)).snd = checkF (take (13 : Nat) x) 12 ∧
 ¬(Nm.recF (take (13 : Nat) x)).snd = checkF (take (13 : Nat) x) 12 ∧ false = true)) ∧
 (¬(Nm.recF (take (13 : Nat) x)).fst = ByteArray.mk (nilT UInt8).toArray →
 ¬(Nm.recF (take (13 : Nat) x)).fst = ByteArray.mk (nilT UInt8).toArray ∧
 ¬(Nm.recF (take (13 : Nat) x)).fst = ByteArray.mk (nilT UInt8).toArray ∧ false = true)) ∧
 (¬¬checkF (take (13 : Nat) x) (12 : Int) = 0 →
 ¬¬checkF (take (13 : Nat) x) (12 : Int) = 0 ∧
 ((∀ (v : Int), v ∈ take (13 : Nat) x → 1 ≤ v ∧ v ≤ 100000) ∧ (take (13 : Nat) x).length ≤ 12) ∧
 (∃ (n : Int),
 ∃ (d : Int),
 (((Nm.ratZ (Nm.recN (take (13 : Nat) x) (take (13 : Nat) x).length)).fst.fst,
 (Nm.ratZ (Nm.recN (take (13 : Nat) x) (take (13 : Nat) x).length)).fst.snd),
 (Nm.ratZ (Nm.recN (take (13 : Nat) x) (take (13 : Nat) x).length)).snd.fst,
 (Nm.ratZ (Nm.recN (take (13 : Nat) x) (take (13 : Nat) x).length)).snd.snd) =
 Nm.ratZ (n, d) ∧
 0 ≤ n ∧ 0 < d ∧ n < 10000 ^ 300 ∧ d < 10000 ^ 300) ∧
 (decide
 ((Nm.recF (take (13 : Nat) x)).fst =
 Nm.numF
 (Nm.lowI
 (Nm.vZ
 ((Nm.ratZ (Nm.recN (take (13 : Nat) x) (take (13 : Nat) x).length)).fst.fst,
 (Nm.ratZ (Nm.recN (take (13 : Nat) x) (take (13 : Nat) x).length)).fst.snd))
 (Nm.vZ
 ((Nm.ratZ (Nm.recN (take (13 : Nat) x) (take (13 : Nat) x).length)).snd.fst,
 (Nm.ratZ (Nm.recN (take (13 : Nat) x) (take (13 : Nat) x).length)).snd.snd)))) =
 true →
 decide
 ((Nm.recF (take (13 : Nat) x)).fst =
 Nm.numF
 (Nm.lowI
 (Nm.vZ
 ((Nm.ratZ (Nm.recN (take (13 : Nat) x) (take (13 : Nat) x).length)).fst.fst,
 (Nm.ratZ (Nm.recN (take (13 : Nat) x) (take (13 : Nat) x).length)).fst.snd))
 (Nm.vZ
 ((Nm.ratZ (Nm.recN (take (13 : Nat) x) (take (13 : Nat) x).length)).snd.fst,
 (Nm.ratZ (Nm.recN (take (13 : Nat) x) (take (13 : Nat) x).length)).snd.snd)))) =
 true ∧
 decide
 ((Nm.recF (take (13 : Nat) x)).fst =
 Nm.numF
 (Nm.lowI
 (Nm.vZ
 ((Nm.ratZ (Nm.recN (take (13 : Nat) x) (take (13 : Nat) x).length)).fst.fst,
 (Nm.ratZ (Nm.recN (take (13 : Nat) x) (take (13 : Nat) x).length)).fst.snd))
 (Nm.vZ
 ((Nm.ratZ (Nm.recN (take (13 : Nat) x) (take (13 : Nat) x).length)).snd.fst,
 (Nm.ratZ (Nm.recN (take (13 : Nat) x) (take (13 : Nat) x).length)).snd.snd)))) =
 true ∧
 ((Nm.recF (take (13 : Nat) x)).snd = 0 →
 (Nm.recF (take (13 : Nat) x)).snd = 0 ∧
 (Nm.recF (take (13 : Nat) x)).snd = 0 ∧ (Nm.recF (take (13 : Nat) x)).snd = 0 ∧ True ∧ true = true) ∧
 (¬(Nm.recF (take (13 : Nat) x)).snd = 0 →
 ¬(Nm.recF (take (13 : Nat) x)).snd = 0 ∧
 ¬(Nm.recF (take (13 : Nat) x)).snd = 0 ∧ ¬(Nm.recF (take (13 : Nat) x)).snd = 0 ∧ false = true)) ∧
 (decide
 ((Nm.recF (take (13 : Nat) x)).fst =
 Nm.numF
 (Nm.lowI
 (Nm.vZ
 ((Nm.ratZ (Nm.recN (take (13 : Nat) x) (take (13 : Nat) x).length)).fst.fst,
 (Nm.ratZ (Nm.recN (take (13 : Nat) x) (take (13 : Nat) x).length)).fst.snd))
 (Nm.vZ
 ((Nm.ratZ (Nm.recN (take (13 : Nat) x) (take (13 : Nat) x).length)).snd.fst,
 (Nm.ratZ (Nm.recN (take (13 : Nat) x) (take (13 : Nat) x).length)).snd.snd)))) =
 false →
 decide
 ((Nm.recF (take (13 : Nat) x)).fst =
 Nm.numF
 (Nm.lowI
 (Nm.vZ
 ((Nm.ratZ (Nm.recN (take (13 : Nat) x) (take (13 : Nat) x).length)).fst.fst,
 (Nm.ratZ (Nm.recN (take (13 : Nat) x) (take (13 : Nat) x).length)).fst.snd))
 (Nm.vZ
 ((Nm.ratZ (Nm.recN (take (13 : Nat) x) (take (13 : Nat) x).length)).snd.fst,
 (Nm.ratZ (Nm.recN (take (13 : Nat) x) (take (13 : Nat) x).length)).snd.snd)))) =
 false ∧
 decide
 ((Nm.recF (take (13 : Nat) x)).fst =
 Nm.numF
 (Nm.lowI
 (Nm.vZ
 ((Nm.ratZ (Nm.recN (take (13 : Nat) x) (take (13 : Nat) x).length)).fst.fst,
 (Nm.ratZ (Nm.recN (take (13 : Nat) x) (take (13 : Nat) x).length)).fst.snd))
 (Nm.vZ
 ((Nm.ratZ (Nm.recN (take (13 : Nat) x) (take (13 : Nat) x).length)).snd.fst,
 (Nm.ratZ (Nm.recN (take (13 : Nat) x) (take (13 : Nat) x).length)).snd.snd)))) =
 false ∧
 false = true))) := by
 kernel_rfl
end Go.SX.We

/- Chapter 08: the law of Reciprocals, proved. -/
namespace Go.SX.We
open Go Go.Proofs
theorem rec_low {w : List Int} (hw : ∀ v ∈ w, 1 ≤ v ∧ v ≤ 100000) {k : Nat} (hk : k ≤ w.length) : Nm.lowI (Nm.recN w k).1 (Nm.recN w k).2 = Nm.recN w k := by
  cases k with
  | zero =>
    show Nm.lowI 0 1 = (0, 1)
    decide +kernel
  | succ k =>
    obtain ⟨h1, h2, h3, h4⟩ := Nm.rec_bound hw k (by omega)
    have hv : 1 ≤ w.getD k 0 ∧ w.getD k 0 ≤ 100000 := by
      rw [List.getD_eq_getElem?_getD, List.getElem?_eq_getElem (by omega)]
      exact hw _ (List.getElem_mem _)
    obtain ⟨l1, l2, l3, l4⟩ := Nm.low_bound (n := 1) (d := w.getD k 0) (by decide) (by omega)
    exact Nm.low_low (Int.add_nonneg (Int.mul_nonneg h1 (Int.le_of_lt l3)) (Int.mul_nonneg l1 (Int.le_of_lt h2))) (Int.mul_pos h2 l3)
theorem rat_fst (q : Int × Int) : Nm.vZ (Nm.ratZ q).fst = q.1 := Nm.iZ_vZ _
theorem rat_snd (q : Int × Int) : Nm.vZ (Nm.ratZ q).snd = q.2 := Nm.iZ_vZ _
theorem ok3r : p3r.OK Tryz.prog := p3r.ok (fn := Tryz.f3) (fun _ => cx [p15.ci, Nm.p6r.ci, p18.ci, p19.ci, Nm.r9.ci, Nm.r10.ci] [])
    (fun _ => cx_ok (cs := [p15.ci, Nm.p6r.ci, p18.ci, p19.ci, Nm.r9.ci, Nm.r10.ci]) ⟨PC.OK.ci ok15, PC.OK.ci Nm.ok6r, PC.OK.ci ok18, PC.OK.ci ok19, PC.OK.ci Nm.ok9z, PC.OK.ci Nm.ok10z, trivial⟩ _) (by kernel_rfl) (by kernel_rfl) (by kernel_rfl) fun x _ => by
  refine (g3r_eq x).mpr ?_
  simp only [pp1, eq_self, and_true, true_and, and_self, peta, rat_fst, rat_snd]
  have hl : (List.take 13 x).length ≤ 1000 := by rw [List.length_take]; omega
  generalize List.take 13 x = w at hl ⊢
  refine ⟨hl, hl, fun h => ?_, fun h => ?_⟩
  · have e : Nm.recF w = (ByteArray.empty, checkF w 12) := by rw [Nm.recF, if_neg h]
    rw [e]
    exact ⟨fun _ => ⟨fun h => h, fun h => absurd rfl h⟩, fun h => absurd rfl h⟩
  · have hc : checkF w 12 = 0 := Decidable.not_not.1 h
    have hW := check_ok.1 hc
    have hw : ∀ v ∈ w, 1 ≤ v ∧ v ≤ 100000 := fun v hv => ⟨hW.lo v hv, hW.hi v hv⟩
    have e : Nm.recF w = (Nm.numF (Nm.recN w w.length), 0) := by rw [Nm.recF, if_pos hc]
    obtain ⟨r1, r2, r3, r4⟩ := Nm.rec_boundz hw w.length (Nat.le_refl _)
    have h12 := hW.len
    rw [e, rec_low hw (Nat.le_refl _)]
    refine ⟨⟨hw, h12⟩, ⟨_, _, rfl, r1, r2, Nm.pow_le_pow' Nm.dw2 r3 (by omega), Nm.pow_le_pow' Nm.dw2 r4 (by omega)⟩, fun _ => ⟨fun h => h, fun h => absurd rfl h⟩, fun hd => ?_⟩
    exact absurd rfl (of_decide_eq_false hd)
end Go.SX.We
