/- Chapter 06: the rows' common ground: the arguments' types. -/
import Derived.Test.YtfbgbdiajghnbaaDoorSxP
import Derived.Test.YtfbgbdiajghnbaaDoorPa1
namespace Go.SX.Pa
open Go Go.Proofs
theorem tyI : TyM Tryd.prog 3 (.int .i64) := .int Tryd.underlying3
theorem tyIs : TyM Tryd.prog 22 (.slice (.int .i64)) := .slice Tryd.underlying22 (by kernel_rfl) tyI
theorem tyC : TyM Tryd.prog 23 tCl := .three Tryd.underlying23 (by kernel_rfl) tyI (by kernel_rfl)
theorem tyEd : TyM Tryd.prog 58 tEd := .pair Tryd.underlying58 rfl rfl (by kernel_rfl) (by kernel_rfl) tyI tyI (by kernel_rfl)
theorem tyEds : TyM Tryd.prog 36 (.slice tEd) := .slice Tryd.underlying36 (by kernel_rfl) tyEd
set_option maxRecDepth 100000 in
theorem slice_rep {W : World} {ok : Nat → Prop} {T : Ty} {y : (Ty.slice T).den} {t e : TypeId} {v : Value} {base : Nat} (ht : Tryd.prog.underlying t = some (.slice e)) (hv : Value.okWide Tryd.prog W .any base t v)
    (h : (Ty.slice T).Rep W ok y v.cells.toList) : (Ty.slice T).Rep W ok y [v] := by
  obtain ⟨a, len, cap, rfl⟩ := WideShapes.okWide_slice ht hv
  exact h
set_option maxRecDepth 100000 in
theorem int_rep {W : World} {ok : Nat → Prop} {k k' : IntKind} {y : Int} {t : TypeId} {v : Value} {base : Nat} (ht : Tryd.prog.underlying t = some (.int k')) (hv : Value.okWide Tryd.prog W .any base t v)
    (h : (Ty.int k).Rep W ok y v.cells.toList) : (Ty.int k).Rep W ok y [v] := by
  obtain ⟨n, rfl⟩ := WideShapes.okWide_int ht hv
  exact h
set_option maxRecDepth 100000 in
theorem arr_rep {W : World} {ok : Nat → Prop} {T : Ty} {y : T.den} {t e : TypeId} {n : Nat} {v : Value} {base : Nat} (ht : Tryd.prog.underlying t = some (.array n e)) (hv : Value.okWide Tryd.prog W .any base t v)
    (h : T.Rep W ok y v.cells.toList) : ∃ cs : List Value, v = .agg cs.toArray ∧ T.Rep W ok y cs := by
  obtain ⟨cs, rfl⟩ : ∃ cs, v = .agg cs := by
    unfold Value.okWide at hv
    simp only [ht] at hv
    obtain ⟨cs, e, _⟩ := hv
    exact ⟨cs, e⟩
  exact ⟨cs.toList, by simp, h⟩
theorem own : ownKnob Tryd.prog.godebug = none := by kernel_rfl
theorem laidOut : laidOutB Tryd.prog = true := by kernel_rfl
end Go.SX.Pa
