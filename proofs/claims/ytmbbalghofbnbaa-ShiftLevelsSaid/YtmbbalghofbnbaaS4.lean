/- Chapter 03: the rows' common ground: the arguments' types. -/
import Derived.Test.YtmbbalghofbnbaaSxP
import Derived.Test.YtmbbalghofbnbaaS1
namespace Go.SX.Sh
open Go Go.Proofs
theorem tyI : TyM Try.prog 3 (.int .i64) := .int Try.underlying3
theorem tySp : TyM Try.prog 35 tSp := .pair Try.underlying35 rfl rfl (by kernel_rfl) (by kernel_rfl) (.int Try.underlying3) (.int Try.underlying3) (by kernel_rfl)
theorem tySps : TyM Try.prog 22 (.slice tSp) := .slice Try.underlying22 (by kernel_rfl) tySp
theorem tyIs : TyM Try.prog 27 (.slice (.int .i64)) := .slice Try.underlying27 (by kernel_rfl) tyI

theorem slice_rep {W : World} {ok : Nat → Prop} {T : Ty} {y : (Ty.slice T).den} {t e : TypeId} {v : Value} {base : Nat} (ht : Try.prog.underlying t = some (.slice e)) (hv : Value.okWide Try.prog W .any base t v)
    (h : (Ty.slice T).Rep W ok y v.cells.toList) : (Ty.slice T).Rep W ok y [v] := by
  obtain ⟨a, len, cap, rfl⟩ := WideShapes.okWide_slice ht hv
  exact h
theorem own : ownKnob Try.prog.godebug = none := by kernel_rfl
theorem laidOut : laidOutB Try.prog = true := by kernel_rfl
end Go.SX.Sh
