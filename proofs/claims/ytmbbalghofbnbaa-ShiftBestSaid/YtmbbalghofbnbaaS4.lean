/- Chapter 03: the rows' common ground: the arguments' types. -/
import Derived.Test.YtmbbalghofbnbaaSxP
import Derived.Test.YtmbbalghofbnbaaS1
namespace Go.SX.Sh
open Go Go.Proofs
theorem tyI : TyM Try.prog 3 (.int .i64) := .int Try.underlying3
theorem tySp : TyM Try.prog 35 tSp := .pair Try.underlying35 rfl rfl (by kernel_rfl) (by kernel_rfl) (.int Try.underlying3) (.int Try.underlying3) (by kernel_rfl)
theorem tySps : TyM Try.prog 22 (.slice tSp) := .slice Try.underlying22 (by kernel_rfl) tySp
theorem tyIs : TyM Try.prog 27 (.slice (.int .i64)) := .slice Try.underlying27 (by kernel_rfl) tyI

theorem slice_rep {W : World} {ok : Nat → Prop} {T : Ty} {y : (Ty.slice T).den} {t e : TypeId} {v : Value} {base : Nat} (ht : Try.prog.underlying t = some (.slice e)) (hv : Value.okWide Try.prog W .any base t v)
    (h : (Ty.slice T).Rep W ok y v.cells.toList) : (Ty.slice T).Rep W ok y [v] := by
  obtain ⟨a, len, cap, rfl⟩ := WideShapes.okWide_slice ht hv
  exact h
theorem int_rep {W : World} {ok : Nat → Prop} {k k' : IntKind} {y : Int} {t : TypeId} {v : Value} {base : Nat} (ht : Try.prog.underlying t = some (.int k')) (hv : Value.okWide Try.prog W .any base t v)
    (h : (Ty.int k).Rep W ok y v.cells.toList) : (Ty.int k).Rep W ok y [v] := by
  obtain ⟨n, rfl⟩ := WideShapes.okWide_int ht hv
  exact h
theorem tyu16 : TyM Try.prog 64 (.int .u16) := .int Try.underlying64
theorem tyU : TyM Try.prog 65 tU := .two Try.underlying65 (by kernel_rfl) tyu16 (by kernel_rfl)
theorem tyUs : TyM Try.prog 45 (.slice tU) := .slice Try.underlying45 (by kernel_rfl) tyU
theorem tyu : TyM Try.prog 5 (.int .u8) := .int Try.underlying5
theorem tyBs : TyM Try.prog 54 (.slice (.int .u8)) := .slice Try.underlying54 (by kernel_rfl) tyu
theorem wfU {x : (Ty.slice tU).den} (h : Ty.Wf (.slice tU) x) : ∀ q ∈ x, (0 ≤ q.1 ∧ q.1 ≤ 65535) ∧ 0 ≤ q.2 ∧ q.2 ≤ 65535 := fun q hq => by
  have e1 : IntKind.u16.min = 0 := by decide
  have e2 : IntKind.u16.max = 65535 := by decide
  have := h.2 q hq
  unfold Ty.Wf at this
  unfold Ty.Wf at this
  rw [e1, e2] at this
  exact this
theorem wfB {x : (Ty.slice (.int .u8)).den} (h : Ty.Wf (.slice (.int .u8)) x) : ∀ b ∈ x, 0 ≤ b ∧ b ≤ 255 := fun b hb => by
  have e1 : IntKind.u8.min = 0 := by decide
  have e2 : IntKind.u8.max = 255 := by decide
  have := h.2 b hb
  unfold Ty.Wf at this
  rw [e1, e2] at this
  exact this
theorem wfu {x : (Ty.int .u8).den} (h : Ty.Wf (.int .u8) x) : 0 ≤ x ∧ x ≤ 255 := by
  have e1 : IntKind.u8.min = 0 := by decide
  have e2 : IntKind.u8.max = 255 := by decide
  unfold Ty.Wf at h
  rw [e1, e2] at h
  exact h
theorem own : ownKnob Try.prog.godebug = none := by kernel_rfl
theorem laidOut : laidOutB Try.prog = true := by kernel_rfl
end Go.SX.Sh
