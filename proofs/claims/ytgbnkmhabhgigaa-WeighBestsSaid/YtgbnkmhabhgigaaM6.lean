/- Parts of the proof, one after the other: We3 We3E We3Q WeU We4 We4E We4Q WeG We5 We5E We5Q. -/
import Derived.Test.YtgbnkmhabhgigaaM5
/- Chapter 08: num's functions at the numbers of 1/1 + 1/2 + 1/4. -/
namespace Go.SX.We
open Go Go.Proofs
noncomputable section
def i40 : CI := inl 40 Try.f40 (cc [])
theorem i40_ok : i40.OK Try.prog := inl_ok (cc_ok (cs := []) trivial) (by kernel_rfl) (by kernel_rfl) (by kernel_rfl)
def i108 : CI := inl 108 Try.f108 (cc [])
theorem i108_ok : i108.OK Try.prog := inl_ok (cc_ok (cs := []) trivial) (by kernel_rfl) (by kernel_rfl) (by kernel_rfl)
def i114 : CI := inl 114 Try.f114 (cc [])
theorem i114_ok : i114.OK Try.prog := inl_ok (cc_ok (cs := []) trivial) (by kernel_rfl) (by kernel_rfl) (by kernel_rfl)
def i115 : CI := inl 115 Try.f115 (cc [])
theorem i115_ok : i115.OK Try.prog := inl_ok (cc_ok (cs := []) trivial) (by kernel_rfl) (by kernel_rfl) (by kernel_rfl)
@[reducible] def t98 : List (ADen [aU] × ADen [aU]) := [([0, 0], []), ([1, 0], [1]), ([1], [1]), ([0], []), ([2, 0], [2]), ([2], [2]), ([3, 0], [3]), ([4, 0], [4]), ([4], [4]), ([12, 0], [12]), ([14, 0], [14]), ([8, 0], [8]), ([6], [6]), ([3], [3]), ([7], [7])]
@[reducible] def p98 : PC := tabPC 98 [aU] [aU] [] t98
@[reducible] def c98 : Ctx := cc []
def g98 : Prop := allVC p98 c98 Try.f98 t98
@[reducible] def t97 : List (ADen [aB, aU] × ADen [aN]) := [((false, []), (false, [])), ((false, [1]), (false, [1])), ((true, [1]), (true, [1])), ((false, [2]), (false, [2])), ((false, [3]), (false, [3])), ((false, [4]), (false, [4])), ((false, [12]), (false, [12])), ((false, [14]), (false, [14])), ((false, [8]), (false, [8])), ((false, [7]), (false, [7]))]
@[reducible] def p97 : PC := tabPC 97 [aB, aU] [aN] (false, []) t97
@[reducible] def c97 : Ctx := cc []
def g97 : Prop := allVC p97 c97 Try.f97 t97
@[reducible] def t79 : List (ADen [aI] × ADen [aN]) := [(0, (false, [])), (1, (false, [1])), (2, (false, [2])), (4, (false, [4]))]
@[reducible] def p79 : PC := tabPC 79 [aI] [aN] (false, []) t79
@[reducible] def c79 : Ctx := cc [p97.ci, p98.ci]
def g79 : Prop := allVC p79 c79 Try.f79 t79
@[reducible] def t100 : List (ADen [aU, aU] × ADen [aI]) := [(([1], [1]), 0), (([1], [2]), (-1)), (([2], [1]), 1), (([3], [2]), 1), (([1], [4]), (-1)), (([4], [1]), 1), (([14], [8]), 1), (([8], [6]), 1), (([6], [2]), 1), (([14], [2]), 1), (([8], [2]), 1)]
@[reducible] def p100 : PC := tabPC 100 [aU, aU] [aI] 0 t100
@[reducible] def c100 : Ctx := cc []
def g100 : Prop := allVC p100 c100 Try.f100 t100
@[reducible] def t99 : List (ADen [aU, aU] × ADen [aU]) := [(([], [1]), [1]), (([2], [1]), [3]), (([12], [2]), [14])]
@[reducible] def p99 : PC := tabPC 99 [aU, aU] [aU] [] t99
@[reducible] def c99 : Ctx := cc [i114, p98.ci]
def g99 : Prop := allVC p99 c99 Try.f99 t99
@[reducible] def t101 : List (ADen [aU, aU] × ADen [aU]) := [(([1], [1]), []), (([2], [1]), [1])]
@[reducible] def p101 : PC := tabPC 101 [aU, aU] [aU] [] t101
@[reducible] def c101 : Ctx := cc [i115, p98.ci]
def g101 : Prop := allVC p101 c101 Try.f101 t101
@[reducible] def t106 : List (ADen [aU, aU] × ADen [aU]) := [(([1], [1]), [1]), (([1], [2]), [2]), (([1], [4]), [4]), (([3], [4]), [12]), (([2], [4]), [8])]
@[reducible] def p106 : PC := tabPC 106 [aU, aU] [aU] [] t106
@[reducible] def c106 : Ctx := cc [p98.ci]
def g106 : Prop := allVC p106 c106 Try.f106 t106
@[reducible] def t107 : List (ADen [aU, au] × ADen [aU, au]) := [(([1], 1), ([1], 0)), (([2], 1), ([2], 0)), (([3], 2), ([1], 1)), (([4], 1), ([4], 0)), (([14], 8), ([1], 6)), (([8], 6), ([1], 2)), (([6], 2), ([3], 0)), (([14], 2), ([7], 0)), (([8], 2), ([4], 0)), (([7], 1000000000), ([], 7)), (([4], 1000000000), ([], 4))]
@[reducible] def p107 : PC := tabPC 107 [aU, au] [aU, au] ([], 0) t107
@[reducible] def c107 : Ctx := cc [p98.ci]
def g107 : Prop := allVC p107 c107 Try.f107 t107
@[reducible] def t116 : List (ADen [aU, aU] × ADen [aU, aU]) := [(([1], [1]), ([1], [])), (([1], [2]), ([], [1])), (([2], [1]), ([2], [])), (([3], [2]), ([1], [1])), (([1], [4]), ([], [1])), (([4], [1]), ([4], [])), (([14], [8]), ([1], [6])), (([8], [6]), ([1], [2])), (([6], [2]), ([3], [])), (([14], [2]), ([7], [])), (([8], [2]), ([4], []))]
@[reducible] def p116 : PC := tabPC 116 [aU, aU] [aU, aU] ([], []) t116
@[reducible] def c116 : Ctx := cc [p100.ci, p107.ci, p98.ci]
def g116 : Prop := allVC p116 c116 Try.f116 t116
@[reducible] def t102 : List (ADen [aN] × ADen [aN]) := [((false, [1]), (true, [1]))]
@[reducible] def p102 : PC := tabPC 102 [aN] [aN] (false, []) t102
@[reducible] def c102 : Ctx := cc [p97.ci]
def g102 : Prop := allVC p102 c102 Try.f102 t102
@[reducible] def t82 : List (ADen [aN, aN] × ADen [aN]) := [(((false, [1]), (true, [1])), (false, [])), (((false, []), (false, [1])), (false, [1])), (((false, [2]), (false, [1])), (false, [3])), (((false, [12]), (false, [2])), (false, [14])), (((false, [2]), (true, [1])), (false, [1]))]
@[reducible] def p82 : PC := tabPC 82 [aN, aN] [aN] (false, []) t82
@[reducible] def c82 : Ctx := cc [p97.ci, p99.ci, p100.ci, p101.ci]
def g82 : Prop := allVC p82 c82 Try.f82 t82
@[reducible] def t117 : List (ADen [aN, aN] × ADen [aN]) := [(((false, [1]), (false, [1])), (false, [])), (((false, [2]), (false, [1])), (false, [1]))]
@[reducible] def p117 : PC := tabPC 117 [aN, aN] [aN] (false, []) t117
@[reducible] def c117 : Ctx := cc [p82.ci, p102.ci]
def g117 : Prop := allVC p117 c117 Try.f117 t117
@[reducible] def t118 : List (ADen [aN] × ADen [aI]) := [((false, []), 0), ((false, [1]), 1)]
@[reducible] def p118 : PC := tabPC 118 [aN] [aI] 0 t118
@[reducible] def c118 : Ctx := cc []
def g118 : Prop := allVC p118 c118 Try.f118 t118
@[reducible] def t84 : List (ADen [aN, aN] × ADen [aN]) := [(((false, [1]), (false, [1])), (false, [1])), (((false, [1]), (false, [2])), (false, [2])), (((false, [1]), (false, [4])), (false, [4])), (((false, [3]), (false, [4])), (false, [12])), (((false, [2]), (false, [4])), (false, [8]))]
@[reducible] def p84 : PC := tabPC 84 [aN, aN] [aN] (false, []) t84
@[reducible] def c84 : Ctx := cc [p97.ci, p106.ci]
def g84 : Prop := allVC p84 c84 Try.f84 t84
@[reducible] def t104 : List (ADen [aN, aN] × ADen [aI]) := [(((false, [1]), (false, [1])), 0), (((false, [2]), (false, [1])), 1)]
@[reducible] def p104 : PC := tabPC 104 [aN, aN] [aI] 0 t104
@[reducible] def c104 : Ctx := cc [p117.ci, p118.ci]
def g104 : Prop := allVC p104 c104 Try.f104 t104
@[reducible] def t105 : List (ADen [aN, aN] × ADen [aN, aN]) := [(((false, [14]), (false, [2])), ((false, [7]), (false, []))), (((false, [8]), (false, [2])), ((false, [4]), (false, [])))]
@[reducible] def p105 : PC := tabPC 105 [aN, aN] [aN, aN] ((false, []), (false, [])) t105
@[reducible] def c105 : Ctx := cc [p116.ci, p97.ci, p117.ci, p79.ci, p82.ci]
def g105 : Prop := allVC p105 c105 Try.f105 t105
@[reducible] def t103 : List (ADen [aN, aN] × ADen [aN]) := [(((false, [1]), (false, [1])), (false, [1])), (((false, [1]), (false, [2])), (false, [1])), (((false, [3]), (false, [2])), (false, [1])), (((false, [1]), (false, [4])), (false, [1])), (((false, [14]), (false, [8])), (false, [2]))]
@[reducible] def p103 : PC := tabPC 103 [aN, aN] [aN] (false, []) t103
@[reducible] def c103 : Ctx := cc [p116.ci, p97.ci]
def g103 : Prop := allVC p103 c103 Try.f103 t103
@[reducible] def t85 : List (ADen [aU] × ADen [aS]) := [([7], ⟨#[55]⟩), ([4], ⟨#[52]⟩)]
@[reducible] def p85 : PC := tabPC 85 [aU] [aS] ByteArray.empty t85
@[reducible] def c85 : Ctx := cc [p107.ci, i108]
def g85 : Prop := allVC p85 c85 Try.f85 t85
@[reducible] def t71 : List (ADen [aI] × ADen [aR]) := [(0, ((false, []), (false, [1]))), (1, ((false, [1]), (false, [1]))), (2, ((false, [2]), (false, [1]))), (4, ((false, [4]), (false, [1])))]
@[reducible] def p71 : PC := tabPC 71 [aI] [aR] ((false, []), (false, [])) t71
@[reducible] def c71 : Ctx := cc [p79.ci]
def g71 : Prop := allVC p71 c71 Try.f71 t71
@[reducible] def t80 : List (ADen [aR] × ADen [aB]) := [(((false, []), (false, [1])), true), (((false, [1]), (false, [1])), true), (((false, [1]), (false, [2])), false), (((false, [3]), (false, [2])), false), (((false, [7]), (false, [4])), false)]
@[reducible] def p80 : PC := tabPC 80 [aR] [aB] false t80
@[reducible] def c80 : Ctx := cc []
def g80 : Prop := allVC p80 c80 Try.f80 t80
@[reducible] def t81 : List (ADen [aN] × ADen [aR]) := [((false, [1]), ((false, [1]), (false, [1])))]
@[reducible] def p81 : PC := tabPC 81 [aN] [aR] ((false, []), (false, [])) t81
@[reducible] def c81 : Ctx := cc [p79.ci]
def g81 : Prop := allVC p81 c81 Try.f81 t81
@[reducible] def t83 : List (ADen [aN, aN] × ADen [aR]) := [(((false, [1]), (false, [1])), ((false, [1]), (false, [1]))), (((false, [1]), (false, [2])), ((false, [1]), (false, [2]))), (((false, [3]), (false, [2])), ((false, [3]), (false, [2]))), (((false, [1]), (false, [4])), ((false, [1]), (false, [4]))), (((false, [14]), (false, [8])), ((false, [7]), (false, [4])))]
@[reducible] def p83 : PC := tabPC 83 [aN, aN] [aR] ((false, []), (false, [])) t83
@[reducible] def c83 : Ctx := cc [p102.ci, p103.ci, p104.ci, p79.ci, p105.ci]
def g83 : Prop := allVC p83 c83 Try.f83 t83
@[reducible] def t72 : List (ADen [aR, aR] × ADen [aR]) := [((((false, []), (false, [1])), ((false, [1]), (false, [1]))), ((false, [1]), (false, [1]))), ((((false, [1]), (false, [1])), ((false, [1]), (false, [2]))), ((false, [3]), (false, [2]))), ((((false, [3]), (false, [2])), ((false, [1]), (false, [4]))), ((false, [7]), (false, [4])))]
@[reducible] def p72 : PC := tabPC 72 [aR, aR] [aR] ((false, []), (false, [])) t72
@[reducible] def c72 : Ctx := cc [p80.ci, p81.ci, p82.ci, p83.ci, p84.ci]
def g72 : Prop := allVC p72 c72 Try.f72 t72
@[reducible] def t73 : List (ADen [aR, aR] × ADen [aR]) := [((((false, [1]), (false, [1])), ((false, [1]), (false, [1]))), ((false, [1]), (false, [1]))), ((((false, [1]), (false, [1])), ((false, [2]), (false, [1]))), ((false, [1]), (false, [2]))), ((((false, [1]), (false, [1])), ((false, [4]), (false, [1]))), ((false, [1]), (false, [4])))]
@[reducible] def p73 : PC := tabPC 73 [aR, aR] [aR] ((false, []), (false, [])) t73
@[reducible] def c73 : Ctx := cc [p83.ci, p84.ci]
def g73 : Prop := allVC p73 c73 Try.f73 t73
@[reducible] def t74 : List (ADen [aR] × ADen [aS, aI]) := [(((false, [7]), (false, [4])), (⟨#[55, 47, 52]⟩, 0))]
@[reducible] def p74 : PC := tabPC 74 [aR] [aS, aI] (ByteArray.empty, 0) t74
@[reducible] def c74 : Ctx := cc [p85.ci, p80.ci]
def g74 : Prop := allVC p74 c74 Try.f74 t74
@[reducible] def t52 : List (ADen [aIs] × ADen [aS, aI]) := [([1, 2, 4], (⟨#[55, 47, 52]⟩, 0))]
@[reducible] def p52 : PC := tabPC 52 [aIs] [aS, aI] (ByteArray.empty, 0) t52
@[reducible] def c52 : Ctx := cc [i40, p71.ci, p72.ci, p73.ci, p74.ci]
def g52 : Prop := allVC p52 c52 Try.f52 t52
end
end Go.SX.We

/- Printed by VC.lean: what the executor asks. -/
namespace Go.SX.We
open Go Go.Proofs
theorem g98_eq  : g98  = (
 (Fits IntKind.i64 (1 : Int) ∧
 ((0 : Int) ≤ (1 : Int) ∧ (1 : Int) < (2 : Int)) ∧
 Fits IntKind.i64 (1 : Int) ∧
 ((0 : Int) ≤ (0 : Int) ∧ (0 : Int) ≤ (1 : Int) ∧ (1 : Int) ≤ (2 : Int)) ∧
 Fits IntKind.i64 (0 : Int) ∧
 ((0 : Int) ≤ (0 : Int) ∧ (0 : Int) < (1 : Int)) ∧
 Fits IntKind.i64 (0 : Int) ∧ ((0 : Int) ≤ (0 : Int) ∧ (0 : Int) ≤ (0 : Int) ∧ (0 : Int) ≤ (1 : Int)) ∧ nilT Int = nilT Int) ∧
 (Fits IntKind.i64 (1 : Int) ∧
 ((0 : Int) ≤ (1 : Int) ∧ (1 : Int) < (2 : Int)) ∧
 Fits IntKind.i64 (1 : Int) ∧
 ((0 : Int) ≤ (0 : Int) ∧ (0 : Int) ≤ (1 : Int) ∧ (1 : Int) ≤ (2 : Int)) ∧
 Fits IntKind.i64 (0 : Int) ∧ ((0 : Int) ≤ (0 : Int) ∧ (0 : Int) < (1 : Int)) ∧ [(1 : Int)] = [(1 : Int)]) ∧
 (Fits IntKind.i64 (0 : Int) ∧ ((0 : Int) ≤ (0 : Int) ∧ (0 : Int) < (1 : Int)) ∧ [(1 : Int)] = [(1 : Int)]) ∧
 (Fits IntKind.i64 (0 : Int) ∧
 ((0 : Int) ≤ (0 : Int) ∧ (0 : Int) < (1 : Int)) ∧
 Fits IntKind.i64 (0 : Int) ∧ ((0 : Int) ≤ (0 : Int) ∧ (0 : Int) ≤ (0 : Int) ∧ (0 : Int) ≤ (1 : Int)) ∧ nilT Int = nilT Int) ∧
 (Fits IntKind.i64 (1 : Int) ∧
 ((0 : Int) ≤ (1 : Int) ∧ (1 : Int) < (2 : Int)) ∧
 Fits IntKind.i64 (1 : Int) ∧
 ((0 : Int) ≤ (0 : Int) ∧ (0 : Int) ≤ (1 : Int) ∧ (1 : Int) ≤ (2 : Int)) ∧
 Fits IntKind.i64 (0 : Int) ∧ ((0 : Int) ≤ (0 : Int) ∧ (0 : Int) < (1 : Int)) ∧ [(2 : Int)] = [(2 : Int)]) ∧
 (Fits IntKind.i64 (0 : Int) ∧ ((0 : Int) ≤ (0 : Int) ∧ (0 : Int) < (1 : Int)) ∧ [(2 : Int)] = [(2 : Int)]) ∧
 (Fits IntKind.i64 (1 : Int) ∧
 ((0 : Int) ≤ (1 : Int) ∧ (1 : Int) < (2 : Int)) ∧
 Fits IntKind.i64 (1 : Int) ∧
 ((0 : Int) ≤ (0 : Int) ∧ (0 : Int) ≤ (1 : Int) ∧ (1 : Int) ≤ (2 : Int)) ∧
 Fits IntKind.i64 (0 : Int) ∧ ((0 : Int) ≤ (0 : Int) ∧ (0 : Int) < (1 : Int)) ∧ [(3 : Int)] = [(3 : Int)]) ∧
 (Fits IntKind.i64 (1 : Int) ∧
 ((0 : Int) ≤ (1 : Int) ∧ (1 : Int) < (2 : Int)) ∧
 Fits IntKind.i64 (1 : Int) ∧
 ((0 : Int) ≤ (0 : Int) ∧ (0 : Int) ≤ (1 : Int) ∧ (1 : Int) ≤ (2 : Int)) ∧
 Fits IntKind.i64 (0 : Int) ∧ ((0 : Int) ≤ (0 : Int) ∧ (0 : Int) < (1 : Int)) ∧ [(4 : Int)] = [(4 : Int)]) ∧
 (Fits IntKind.i64 (0 : Int) ∧ ((0 : Int) ≤ (0 : Int) ∧ (0 : Int) < (1 : Int)) ∧ [(4 : Int)] = [(4 : Int)]) ∧
 (Fits IntKind.i64 (1 : Int) ∧
 ((0 : Int) ≤ (1 : Int) ∧ (1 : Int) < (2 : Int)) ∧
 Fits IntKind.i64 (1 : Int) ∧
 ((0 : Int) ≤ (0 : Int) ∧ (0 : Int) ≤ (1 : Int) ∧ (1 : Int) ≤ (2 : Int)) ∧
 Fits IntKind.i64 (0 : Int) ∧ ((0 : Int) ≤ (0 : Int) ∧ (0 : Int) < (1 : Int)) ∧ [(12 : Int)] = [(12 : Int)]) ∧
 (Fits IntKind.i64 (1 : Int) ∧
 ((0 : Int) ≤ (1 : Int) ∧ (1 : Int) < (2 : Int)) ∧
 Fits IntKind.i64 (1 : Int) ∧
 ((0 : Int) ≤ (0 : Int) ∧ (0 : Int) ≤ (1 : Int) ∧ (1 : Int) ≤ (2 : Int)) ∧
 Fits IntKind.i64 (0 : Int) ∧ ((0 : Int) ≤ (0 : Int) ∧ (0 : Int) < (1 : Int)) ∧ [(14 : Int)] = [(14 : Int)]) ∧
 (Fits IntKind.i64 (1 : Int) ∧
 ((0 : Int) ≤ (1 : Int) ∧ (1 : Int) < (2 : Int)) ∧
 Fits IntKind.i64 (1 : Int) ∧
 ((0 : Int) ≤ (0 : Int) ∧ (0 : Int) ≤ (1 : Int) ∧ (1 : Int) ≤ (2 : Int)) ∧
 Fits IntKind.i64 (0 : Int) ∧ ((0 : Int) ≤ (0 : Int) ∧ (0 : Int) < (1 : Int)) ∧ [(8 : Int)] = [(8 : Int)]) ∧
 (Fits IntKind.i64 (0 : Int) ∧ ((0 : Int) ≤ (0 : Int) ∧ (0 : Int) < (1 : Int)) ∧ [(6 : Int)] = [(6 : Int)]) ∧
 (Fits IntKind.i64 (0 : Int) ∧ ((0 : Int) ≤ (0 : Int) ∧ (0 : Int) < (1 : Int)) ∧ [(3 : Int)] = [(3 : Int)]) ∧
 (Fits IntKind.i64 (0 : Int) ∧ ((0 : Int) ≤ (0 : Int) ∧ (0 : Int) < (1 : Int)) ∧ [(7 : Int)] = [(7 : Int)]) ∧ True) := by
 kernel_rfl

theorem g97_eq  : g97  = (
 (false, nilT Int) = (false, nilT Int) ∧
 (false, [(1 : Int)]) = (false, [(1 : Int)]) ∧
 (true, [(1 : Int)]) = (true, [(1 : Int)]) ∧
 (false, [(2 : Int)]) = (false, [(2 : Int)]) ∧
 (false, [(3 : Int)]) = (false, [(3 : Int)]) ∧
 (false, [(4 : Int)]) = (false, [(4 : Int)]) ∧
 (false, [(12 : Int)]) = (false, [(12 : Int)]) ∧
 (false, [(14 : Int)]) = (false, [(14 : Int)]) ∧ (false, [(8 : Int)]) = (false, [(8 : Int)]) ∧ (false, [(7 : Int)]) = (false, [(7 : Int)]) ∧ True) := by
 kernel_rfl

theorem g79_eq  : g79  = (
 (((0 : Int) ≤ (32 : Int) ∧ (32 : Int) < (64 : Int)) ∧ true = true ∧ true = true ∧ (false, nilT Int) = (false, nilT Int)) ∧
 (((0 : Int) ≤ (32 : Int) ∧ (32 : Int) < (64 : Int)) ∧ true = true ∧ true = true ∧ (false, [(1 : Int)]) = (false, [(1 : Int)])) ∧
 (((0 : Int) ≤ (32 : Int) ∧ (32 : Int) < (64 : Int)) ∧ true = true ∧ true = true ∧ (false, [(2 : Int)]) = (false, [(2 : Int)])) ∧
 (((0 : Int) ≤ (32 : Int) ∧ (32 : Int) < (64 : Int)) ∧ true = true ∧ true = true ∧ (false, [(4 : Int)]) = (false, [(4 : Int)])) ∧ True) := by
 kernel_rfl

theorem g100_eq  : g100  = (
 (Fits IntKind.i64 (0 : Int) ∧
 ((0 : Int) ≤ (0 : Int) ∧ (0 : Int) < (1 : Int)) ∧ ((0 : Int) ≤ (0 : Int) ∧ (0 : Int) < (1 : Int)) ∧ Fits IntKind.i64 (-1 : Int) ∧ (0 : Int) = (0 : Int)) ∧
 (Fits IntKind.i64 (0 : Int) ∧
 ((0 : Int) ≤ (0 : Int) ∧ (0 : Int) < (1 : Int)) ∧
 ((0 : Int) ≤ (0 : Int) ∧ (0 : Int) < (1 : Int)) ∧
 ((0 : Int) ≤ (0 : Int) ∧ (0 : Int) < (1 : Int)) ∧ ((0 : Int) ≤ (0 : Int) ∧ (0 : Int) < (1 : Int)) ∧ (-1 : Int) = (-1 : Int)) ∧
 (Fits IntKind.i64 (0 : Int) ∧
 ((0 : Int) ≤ (0 : Int) ∧ (0 : Int) < (1 : Int)) ∧
 ((0 : Int) ≤ (0 : Int) ∧ (0 : Int) < (1 : Int)) ∧
 ((0 : Int) ≤ (0 : Int) ∧ (0 : Int) < (1 : Int)) ∧ ((0 : Int) ≤ (0 : Int) ∧ (0 : Int) < (1 : Int)) ∧ (1 : Int) = (1 : Int)) ∧
 (Fits IntKind.i64 (0 : Int) ∧
 ((0 : Int) ≤ (0 : Int) ∧ (0 : Int) < (1 : Int)) ∧
 ((0 : Int) ≤ (0 : Int) ∧ (0 : Int) < (1 : Int)) ∧
 ((0 : Int) ≤ (0 : Int) ∧ (0 : Int) < (1 : Int)) ∧ ((0 : Int) ≤ (0 : Int) ∧ (0 : Int) < (1 : Int)) ∧ (1 : Int) = (1 : Int)) ∧
 (Fits IntKind.i64 (0 : Int) ∧
 ((0 : Int) ≤ (0 : Int) ∧ (0 : Int) < (1 : Int)) ∧
 ((0 : Int) ≤ (0 : Int) ∧ (0 : Int) < (1 : Int)) ∧
 ((0 : Int) ≤ (0 : Int) ∧ (0 : Int) < (1 : Int)) ∧ ((0 : Int) ≤ (0 : Int) ∧ (0 : Int) < (1 : Int)) ∧ (-1 : Int) = (-1 : Int)) ∧
 (Fits IntKind.i64 (0 : Int) ∧
 ((0 : Int) ≤ (0 : Int) ∧ (0 : Int) < (1 : Int)) ∧
 ((0 : Int) ≤ (0 : Int) ∧ (0 : Int) < (1 : Int)) ∧
 ((0 : Int) ≤ (0 : Int) ∧ (0 : Int) < (1 : Int)) ∧ ((0 : Int) ≤ (0 : Int) ∧ (0 : Int) < (1 : Int)) ∧ (1 : Int) = (1 : Int)) ∧
 (Fits IntKind.i64 (0 : Int) ∧
 ((0 : Int) ≤ (0 : Int) ∧ (0 : Int) < (1 : Int)) ∧
 ((0 : Int) ≤ (0 : Int) ∧ (0 : Int) < (1 : Int)) ∧
 ((0 : Int) ≤ (0 : Int) ∧ (0 : Int) < (1 : Int)) ∧ ((0 : Int) ≤ (0 : Int) ∧ (0 : Int) < (1 : Int)) ∧ (1 : Int) = (1 : Int)) ∧
 (Fits IntKind.i64 (0 : Int) ∧
 ((0 : Int) ≤ (0 : Int) ∧ (0 : Int) < (1 : Int)) ∧
 ((0 : Int) ≤ (0 : Int) ∧ (0 : Int) < (1 : Int)) ∧
 ((0 : Int) ≤ (0 : Int) ∧ (0 : Int) < (1 : Int)) ∧ ((0 : Int) ≤ (0 : Int) ∧ (0 : Int) < (1 : Int)) ∧ (1 : Int) = (1 : Int)) ∧
 (Fits IntKind.i64 (0 : Int) ∧
 ((0 : Int) ≤ (0 : Int) ∧ (0 : Int) < (1 : Int)) ∧
 ((0 : Int) ≤ (0 : Int) ∧ (0 : Int) < (1 : Int)) ∧
 ((0 : Int) ≤ (0 : Int) ∧ (0 : Int) < (1 : Int)) ∧ ((0 : Int) ≤ (0 : Int) ∧ (0 : Int) < (1 : Int)) ∧ (1 : Int) = (1 : Int)) ∧
 (Fits IntKind.i64 (0 : Int) ∧
 ((0 : Int) ≤ (0 : Int) ∧ (0 : Int) < (1 : Int)) ∧
 ((0 : Int) ≤ (0 : Int) ∧ (0 : Int) < (1 : Int)) ∧
 ((0 : Int) ≤ (0 : Int) ∧ (0 : Int) < (1 : Int)) ∧ ((0 : Int) ≤ (0 : Int) ∧ (0 : Int) < (1 : Int)) ∧ (1 : Int) = (1 : Int)) ∧
 (Fits IntKind.i64 (0 : Int) ∧
 ((0 : Int) ≤ (0 : Int) ∧ (0 : Int) < (1 : Int)) ∧
 ((0 : Int) ≤ (0 : Int) ∧ (0 : Int) < (1 : Int)) ∧
 ((0 : Int) ≤ (0 : Int) ∧ (0 : Int) < (1 : Int)) ∧ ((0 : Int) ≤ (0 : Int) ∧ (0 : Int) < (1 : Int)) ∧ (1 : Int) = (1 : Int)) ∧
 True) := by
 kernel_rfl

theorem g99_eq  : g99  = (
 (Fits IntKind.i64 (2 : Int) ∧
 ((0 : Int) ≤ (2 : Int) ∧ (2 : Int) ≤ (2 : Int) ∧ Small (2 : Nat)) ∧
 ((0 : Int) ≤ (0 : Int) ∧ (0 : Int) < (1 : Int)) ∧
 ((0 : Int) ≤ (32 : Int) ∧ (32 : Int) < (64 : Int)) ∧
 ((0 : Int) ≤ (0 : Int) ∧ (0 : Int) < (2 : Int)) ∧
 Fits IntKind.i64 (1 : Int) ∧ ((0 : Int) ≤ (1 : Int) ∧ (1 : Int) < (2 : Int)) ∧ true = true ∧ [(1 : Int)] = [(1 : Int)]) ∧
 (Fits IntKind.i64 (2 : Int) ∧
 ((0 : Int) ≤ (2 : Int) ∧ (2 : Int) ≤ (2 : Int) ∧ Small (2 : Nat)) ∧
 ((0 : Int) ≤ (0 : Int) ∧ (0 : Int) < (1 : Int)) ∧
 ((0 : Int) ≤ (0 : Int) ∧ (0 : Int) < (1 : Int)) ∧
 ((0 : Int) ≤ (32 : Int) ∧ (32 : Int) < (64 : Int)) ∧
 ((0 : Int) ≤ (0 : Int) ∧ (0 : Int) < (2 : Int)) ∧
 Fits IntKind.i64 (1 : Int) ∧ ((0 : Int) ≤ (1 : Int) ∧ (1 : Int) < (2 : Int)) ∧ true = true ∧ [(3 : Int)] = [(3 : Int)]) ∧
 (Fits IntKind.i64 (2 : Int) ∧
 ((0 : Int) ≤ (2 : Int) ∧ (2 : Int) ≤ (2 : Int) ∧ Small (2 : Nat)) ∧
 ((0 : Int) ≤ (0 : Int) ∧ (0 : Int) < (1 : Int)) ∧
 ((0 : Int) ≤ (0 : Int) ∧ (0 : Int) < (1 : Int)) ∧
 ((0 : Int) ≤ (32 : Int) ∧ (32 : Int) < (64 : Int)) ∧
 ((0 : Int) ≤ (0 : Int) ∧ (0 : Int) < (2 : Int)) ∧
 Fits IntKind.i64 (1 : Int) ∧ ((0 : Int) ≤ (1 : Int) ∧ (1 : Int) < (2 : Int)) ∧ true = true ∧ [(14 : Int)] = [(14 : Int)]) ∧
 True) := by
 kernel_rfl

theorem g101_eq  : g101  = (
 (((0 : Int) ≤ (1 : Int) ∧ (1 : Int) ≤ (1 : Int) ∧ Small (1 : Nat)) ∧
 ((0 : Int) ≤ (0 : Int) ∧ (0 : Int) < (1 : Int)) ∧
 ((0 : Int) ≤ (0 : Int) ∧ (0 : Int) < (1 : Int)) ∧
 ((0 : Int) ≤ (31 : Int) ∧ (31 : Int) < (32 : Int)) ∧ ((0 : Int) ≤ (0 : Int) ∧ (0 : Int) < (1 : Int)) ∧ Fits IntKind.i64 (1 : Int) ∧ true = true ∧ nilT Int = nilT Int) ∧
 (((0 : Int) ≤ (1 : Int) ∧ (1 : Int) ≤ (1 : Int) ∧ Small (1 : Nat)) ∧
 ((0 : Int) ≤ (0 : Int) ∧ (0 : Int) < (1 : Int)) ∧
 ((0 : Int) ≤ (0 : Int) ∧ (0 : Int) < (1 : Int)) ∧
 ((0 : Int) ≤ (31 : Int) ∧ (31 : Int) < (32 : Int)) ∧
 ((0 : Int) ≤ (0 : Int) ∧ (0 : Int) < (1 : Int)) ∧ Fits IntKind.i64 (1 : Int) ∧ true = true ∧ [(1 : Int)] = [(1 : Int)]) ∧
 True) := by
 kernel_rfl

theorem g106_eq  : g106  = (
 (Fits IntKind.i64 (2 : Int) ∧
 ((0 : Int) ≤ (2 : Int) ∧ (2 : Int) ≤ (2 : Int) ∧ Small (2 : Nat)) ∧
 ((0 : Int) ≤ (0 : Int) ∧ (0 : Int) < (1 : Int)) ∧
 ((0 : Int) ≤ (0 : Int) ∧ (0 : Int) < (1 : Int)) ∧
 Fits IntKind.i64 (0 : Int) ∧
 ((0 : Int) ≤ (0 : Int) ∧ (0 : Int) < (2 : Int)) ∧
 Fits IntKind.i64 (0 : Int) ∧
 ((0 : Int) ≤ (32 : Int) ∧ (32 : Int) < (64 : Int)) ∧
 ((0 : Int) ≤ (0 : Int) ∧ (0 : Int) < (2 : Int)) ∧
 Fits IntKind.i64 (1 : Int) ∧
 Fits IntKind.i64 (1 : Int) ∧ ((0 : Int) ≤ (1 : Int) ∧ (1 : Int) < (2 : Int)) ∧ Fits IntKind.i64 (1 : Int) ∧ true = true ∧ [(1 : Int)] = [(1 : Int)]) ∧
 (Fits IntKind.i64 (2 : Int) ∧
 ((0 : Int) ≤ (2 : Int) ∧ (2 : Int) ≤ (2 : Int) ∧ Small (2 : Nat)) ∧
 ((0 : Int) ≤ (0 : Int) ∧ (0 : Int) < (1 : Int)) ∧
 ((0 : Int) ≤ (0 : Int) ∧ (0 : Int) < (1 : Int)) ∧
 Fits IntKind.i64 (0 : Int) ∧
 ((0 : Int) ≤ (0 : Int) ∧ (0 : Int) < (2 : Int)) ∧
 Fits IntKind.i64 (0 : Int) ∧
 ((0 : Int) ≤ (32 : Int) ∧ (32 : Int) < (64 : Int)) ∧
 ((0 : Int) ≤ (0 : Int) ∧ (0 : Int) < (2 : Int)) ∧
 Fits IntKind.i64 (1 : Int) ∧
 Fits IntKind.i64 (1 : Int) ∧ ((0 : Int) ≤ (1 : Int) ∧ (1 : Int) < (2 : Int)) ∧ Fits IntKind.i64 (1 : Int) ∧ true = true ∧ [(2 : Int)] = [(2 : Int)]) ∧
 (Fits IntKind.i64 (2 : Int) ∧
 ((0 : Int) ≤ (2 : Int) ∧ (2 : Int) ≤ (2 : Int) ∧ Small (2 : Nat)) ∧
 ((0 : Int) ≤ (0 : Int) ∧ (0 : Int) < (1 : Int)) ∧
 ((0 : Int) ≤ (0 : Int) ∧ (0 : Int) < (1 : Int)) ∧
 Fits IntKind.i64 (0 : Int) ∧
 ((0 : Int) ≤ (0 : Int) ∧ (0 : Int) < (2 : Int)) ∧
 Fits IntKind.i64 (0 : Int) ∧
 ((0 : Int) ≤ (32 : Int) ∧ (32 : Int) < (64 : Int)) ∧
 ((0 : Int) ≤ (0 : Int) ∧ (0 : Int) < (2 : Int)) ∧
 Fits IntKind.i64 (1 : Int) ∧
 Fits IntKind.i64 (1 : Int) ∧ ((0 : Int) ≤ (1 : Int) ∧ (1 : Int) < (2 : Int)) ∧ Fits IntKind.i64 (1 : Int) ∧ true = true ∧ [(4 : Int)] = [(4 : Int)]) ∧
 (Fits IntKind.i64 (2 : Int) ∧
 ((0 : Int) ≤ (2 : Int) ∧ (2 : Int) ≤ (2 : Int) ∧ Small (2 : Nat)) ∧
 ((0 : Int) ≤ (0 : Int) ∧ (0 : Int) < (1 : Int)) ∧
 ((0 : Int) ≤ (0 : Int) ∧ (0 : Int) < (1 : Int)) ∧
 Fits IntKind.i64 (0 : Int) ∧
 ((0 : Int) ≤ (0 : Int) ∧ (0 : Int) < (2 : Int)) ∧
 Fits IntKind.i64 (0 : Int) ∧
 ((0 : Int) ≤ (32 : Int) ∧ (32 : Int) < (64 : Int)) ∧
 ((0 : Int) ≤ (0 : Int) ∧ (0 : Int) < (2 : Int)) ∧
 Fits IntKind.i64 (1 : Int) ∧
 Fits IntKind.i64 (1 : Int) ∧ ((0 : Int) ≤ (1 : Int) ∧ (1 : Int) < (2 : Int)) ∧ Fits IntKind.i64 (1 : Int) ∧ true = true ∧ [(12 : Int)] = [(12 : Int)]) ∧
 (Fits IntKind.i64 (2 : Int) ∧
 ((0 : Int) ≤ (2 : Int) ∧ (2 : Int) ≤ (2 : Int) ∧ Small (2 : Nat)) ∧
 ((0 : Int) ≤ (0 : Int) ∧ (0 : Int) < (1 : Int)) ∧
 ((0 : Int) ≤ (0 : Int) ∧ (0 : Int) < (1 : Int)) ∧
 Fits IntKind.i64 (0 : Int) ∧
 ((0 : Int) ≤ (0 : Int) ∧ (0 : Int) < (2 : Int)) ∧
 Fits IntKind.i64 (0 : Int) ∧
 ((0 : Int) ≤ (32 : Int) ∧ (32 : Int) < (64 : Int)) ∧
 ((0 : Int) ≤ (0 : Int) ∧ (0 : Int) < (2 : Int)) ∧
 Fits IntKind.i64 (1 : Int) ∧
 Fits IntKind.i64 (1 : Int) ∧ ((0 : Int) ≤ (1 : Int) ∧ (1 : Int) < (2 : Int)) ∧ Fits IntKind.i64 (1 : Int) ∧ true = true ∧ [(8 : Int)] = [(8 : Int)]) ∧
 True) := by
 kernel_rfl

theorem g107_eq  : g107  = (
 (((0 : Int) ≤ (1 : Int) ∧ (1 : Int) ≤ (1 : Int) ∧ Small (1 : Nat)) ∧
 Fits IntKind.i64 (0 : Int) ∧
 ((0 : Int) ≤ (32 : Int) ∧ (32 : Int) < (64 : Int)) ∧
 ((0 : Int) ≤ (0 : Int) ∧ (0 : Int) < (1 : Int)) ∧
 ((0 : Int) ≤ (1 : Int) ∧ (0 : Int) < (1 : Int)) ∧
 ((0 : Int) ≤ (0 : Int) ∧ (0 : Int) < (1 : Int)) ∧
 (((0 : Int) ≤ (1 : Int) ∧ (0 : Int) < (1 : Int)) ∧ Fits IntKind.i64 (-1 : Int) ∧ true = true ∧ ([(1 : Int)], (0 : Int)) = ([(1 : Int)], (0 : Int))) ∧
 ((0 : Int) ≤ (1 : Int) ∧ (0 : Int) < (1 : Int)) ∧ Fits IntKind.i64 (-1 : Int) ∧ true = true ∧ ([(1 : Int)], (0 : Int)) = ([(1 : Int)], (0 : Int))) ∧
 (((0 : Int) ≤ (1 : Int) ∧ (1 : Int) ≤ (1 : Int) ∧ Small (1 : Nat)) ∧
 Fits IntKind.i64 (0 : Int) ∧
 ((0 : Int) ≤ (32 : Int) ∧ (32 : Int) < (64 : Int)) ∧
 ((0 : Int) ≤ (0 : Int) ∧ (0 : Int) < (1 : Int)) ∧
 ((0 : Int) ≤ (2 : Int) ∧ (0 : Int) < (1 : Int)) ∧
 ((0 : Int) ≤ (0 : Int) ∧ (0 : Int) < (1 : Int)) ∧
 (((0 : Int) ≤ (2 : Int) ∧ (0 : Int) < (1 : Int)) ∧ Fits IntKind.i64 (-1 : Int) ∧ true = true ∧ ([(2 : Int)], (0 : Int)) = ([(2 : Int)], (0 : Int))) ∧
 ((0 : Int) ≤ (2 : Int) ∧ (0 : Int) < (1 : Int)) ∧ Fits IntKind.i64 (-1 : Int) ∧ true = true ∧ ([(2 : Int)], (0 : Int)) = ([(2 : Int)], (0 : Int))) ∧
 (((0 : Int) ≤ (1 : Int) ∧ (1 : Int) ≤ (1 : Int) ∧ Small (1 : Nat)) ∧
 Fits IntKind.i64 (0 : Int) ∧
 ((0 : Int) ≤ (32 : Int) ∧ (32 : Int) < (64 : Int)) ∧
 ((0 : Int) ≤ (0 : Int) ∧ (0 : Int) < (1 : Int)) ∧
 ((0 : Int) ≤ (3 : Int) ∧ (0 : Int) < (2 : Int)) ∧
 ((0 : Int) ≤ (0 : Int) ∧ (0 : Int) < (1 : Int)) ∧
 (((0 : Int) ≤ (3 : Int) ∧ (0 : Int) < (2 : Int)) ∧ Fits IntKind.i64 (-1 : Int) ∧ true = true ∧ ([(1 : Int)], (1 : Int)) = ([(1 : Int)], (1 : Int))) ∧
 ((0 : Int) ≤ (3 : Int) ∧ (0 : Int) < (2 : Int)) ∧ Fits IntKind.i64 (-1 : Int) ∧ true = true ∧ ([(1 : Int)], (1 : Int)) = ([(1 : Int)], (1 : Int))) ∧
 (((0 : Int) ≤ (1 : Int) ∧ (1 : Int) ≤ (1 : Int) ∧ Small (1 : Nat)) ∧
 Fits IntKind.i64 (0 : Int) ∧
 ((0 : Int) ≤ (32 : Int) ∧ (32 : Int) < (64 : Int)) ∧
 ((0 : Int) ≤ (0 : Int) ∧ (0 : Int) < (1 : Int)) ∧
 ((0 : Int) ≤ (4 : Int) ∧ (0 : Int) < (1 : Int)) ∧
 ((0 : Int) ≤ (0 : Int) ∧ (0 : Int) < (1 : Int)) ∧
 (((0 : Int) ≤ (4 : Int) ∧ (0 : Int) < (1 : Int)) ∧ Fits IntKind.i64 (-1 : Int) ∧ true = true ∧ ([(4 : Int)], (0 : Int)) = ([(4 : Int)], (0 : Int))) ∧
 ((0 : Int) ≤ (4 : Int) ∧ (0 : Int) < (1 : Int)) ∧ Fits IntKind.i64 (-1 : Int) ∧ true = true ∧ ([(4 : Int)], (0 : Int)) = ([(4 : Int)], (0 : Int))) ∧
 (((0 : Int) ≤ (1 : Int) ∧ (1 : Int) ≤ (1 : Int) ∧ Small (1 : Nat)) ∧
 Fits IntKind.i64 (0 : Int) ∧
 ((0 : Int) ≤ (32 : Int) ∧ (32 : Int) < (64 : Int)) ∧
 ((0 : Int) ≤ (0 : Int) ∧ (0 : Int) < (1 : Int)) ∧
 ((0 : Int) ≤ (14 : Int) ∧ (0 : Int) < (8 : Int)) ∧
 ((0 : Int) ≤ (0 : Int) ∧ (0 : Int) < (1 : Int)) ∧
 (((0 : Int) ≤ (14 : Int) ∧ (0 : Int) < (8 : Int)) ∧ Fits IntKind.i64 (-1 : Int) ∧ true = true ∧ ([(1 : Int)], (6 : Int)) = ([(1 : Int)], (6 : Int))) ∧
 ((0 : Int) ≤ (14 : Int) ∧ (0 : Int) < (8 : Int)) ∧ Fits IntKind.i64 (-1 : Int) ∧ true = true ∧ ([(1 : Int)], (6 : Int)) = ([(1 : Int)], (6 : Int))) ∧
 (((0 : Int) ≤ (1 : Int) ∧ (1 : Int) ≤ (1 : Int) ∧ Small (1 : Nat)) ∧
 Fits IntKind.i64 (0 : Int) ∧
 ((0 : Int) ≤ (32 : Int) ∧ (32 : Int) < (64 : Int)) ∧
 ((0 : Int) ≤ (0 : Int) ∧ (0 : Int) < (1 : Int)) ∧
 ((0 : Int) ≤ (8 : Int) ∧ (0 : Int) < (6 : Int)) ∧
 ((0 : Int) ≤ (0 : Int) ∧ (0 : Int) < (1 : Int)) ∧
 (((0 : Int) ≤ (8 : Int) ∧ (0 : Int) < (6 : Int)) ∧ Fits IntKind.i64 (-1 : Int) ∧ true = true ∧ ([(1 : Int)], (2 : Int)) = ([(1 : Int)], (2 : Int))) ∧
 ((0 : Int) ≤ (8 : Int) ∧ (0 : Int) < (6 : Int)) ∧ Fits IntKind.i64 (-1 : Int) ∧ true = true ∧ ([(1 : Int)], (2 : Int)) = ([(1 : Int)], (2 : Int))) ∧
 (((0 : Int) ≤ (1 : Int) ∧ (1 : Int) ≤ (1 : Int) ∧ Small (1 : Nat)) ∧
 Fits IntKind.i64 (0 : Int) ∧
 ((0 : Int) ≤ (32 : Int) ∧ (32 : Int) < (64 : Int)) ∧
 ((0 : Int) ≤ (0 : Int) ∧ (0 : Int) < (1 : Int)) ∧
 ((0 : Int) ≤ (6 : Int) ∧ (0 : Int) < (2 : Int)) ∧
 ((0 : Int) ≤ (0 : Int) ∧ (0 : Int) < (1 : Int)) ∧
 (((0 : Int) ≤ (6 : Int) ∧ (0 : Int) < (2 : Int)) ∧ Fits IntKind.i64 (-1 : Int) ∧ true = true ∧ ([(3 : Int)], (0 : Int)) = ([(3 : Int)], (0 : Int))) ∧
 ((0 : Int) ≤ (6 : Int) ∧ (0 : Int) < (2 : Int)) ∧ Fits IntKind.i64 (-1 : Int) ∧ true = true ∧ ([(3 : Int)], (0 : Int)) = ([(3 : Int)], (0 : Int))) ∧
 (((0 : Int) ≤ (1 : Int) ∧ (1 : Int) ≤ (1 : Int) ∧ Small (1 : Nat)) ∧
 Fits IntKind.i64 (0 : Int) ∧
 ((0 : Int) ≤ (32 : Int) ∧ (32 : Int) < (64 : Int)) ∧
 ((0 : Int) ≤ (0 : Int) ∧ (0 : Int) < (1 : Int)) ∧
 ((0 : Int) ≤ (14 : Int) ∧ (0 : Int) < (2 : Int)) ∧
 ((0 : Int) ≤ (0 : Int) ∧ (0 : Int) < (1 : Int)) ∧
 (((0 : Int) ≤ (14 : Int) ∧ (0 : Int) < (2 : Int)) ∧ Fits IntKind.i64 (-1 : Int) ∧ true = true ∧ ([(7 : Int)], (0 : Int)) = ([(7 : Int)], (0 : Int))) ∧
 ((0 : Int) ≤ (14 : Int) ∧ (0 : Int) < (2 : Int)) ∧ Fits IntKind.i64 (-1 : Int) ∧ true = true ∧ ([(7 : Int)], (0 : Int)) = ([(7 : Int)], (0 : Int))) ∧
 (((0 : Int) ≤ (1 : Int) ∧ (1 : Int) ≤ (1 : Int) ∧ Small (1 : Nat)) ∧
 Fits IntKind.i64 (0 : Int) ∧
 ((0 : Int) ≤ (32 : Int) ∧ (32 : Int) < (64 : Int)) ∧
 ((0 : Int) ≤ (0 : Int) ∧ (0 : Int) < (1 : Int)) ∧
 ((0 : Int) ≤ (8 : Int) ∧ (0 : Int) < (2 : Int)) ∧
 ((0 : Int) ≤ (0 : Int) ∧ (0 : Int) < (1 : Int)) ∧
 (((0 : Int) ≤ (8 : Int) ∧ (0 : Int) < (2 : Int)) ∧ Fits IntKind.i64 (-1 : Int) ∧ true = true ∧ ([(4 : Int)], (0 : Int)) = ([(4 : Int)], (0 : Int))) ∧
 ((0 : Int) ≤ (8 : Int) ∧ (0 : Int) < (2 : Int)) ∧ Fits IntKind.i64 (-1 : Int) ∧ true = true ∧ ([(4 : Int)], (0 : Int)) = ([(4 : Int)], (0 : Int))) ∧
 (((0 : Int) ≤ (1 : Int) ∧ (1 : Int) ≤ (1 : Int) ∧ Small (1 : Nat)) ∧
 Fits IntKind.i64 (0 : Int) ∧
 ((0 : Int) ≤ (32 : Int) ∧ (32 : Int) < (64 : Int)) ∧
 ((0 : Int) ≤ (0 : Int) ∧ (0 : Int) < (1 : Int)) ∧
 ((0 : Int) ≤ (7 : Int) ∧ (0 : Int) < (1000000000 : Int)) ∧
 ((0 : Int) ≤ (0 : Int) ∧ (0 : Int) < (1 : Int)) ∧
 (((0 : Int) ≤ (7 : Int) ∧ (0 : Int) < (1000000000 : Int)) ∧
 Fits IntKind.i64 (-1 : Int) ∧ true = true ∧ (nilT Int, (7 : Int)) = (nilT Int, (7 : Int))) ∧
 ((0 : Int) ≤ (7 : Int) ∧ (0 : Int) < (1000000000 : Int)) ∧
 Fits IntKind.i64 (-1 : Int) ∧ true = true ∧ (nilT Int, (7 : Int)) = (nilT Int, (7 : Int))) ∧
 (((0 : Int) ≤ (1 : Int) ∧ (1 : Int) ≤ (1 : Int) ∧ Small (1 : Nat)) ∧
 Fits IntKind.i64 (0 : Int) ∧
 ((0 : Int) ≤ (32 : Int) ∧ (32 : Int) < (64 : Int)) ∧
 ((0 : Int) ≤ (0 : Int) ∧ (0 : Int) < (1 : Int)) ∧
 ((0 : Int) ≤ (4 : Int) ∧ (0 : Int) < (1000000000 : Int)) ∧
 ((0 : Int) ≤ (0 : Int) ∧ (0 : Int) < (1 : Int)) ∧
 (((0 : Int) ≤ (4 : Int) ∧ (0 : Int) < (1000000000 : Int)) ∧
 Fits IntKind.i64 (-1 : Int) ∧ true = true ∧ (nilT Int, (4 : Int)) = (nilT Int, (4 : Int))) ∧
 ((0 : Int) ≤ (4 : Int) ∧ (0 : Int) < (1000000000 : Int)) ∧
 Fits IntKind.i64 (-1 : Int) ∧ true = true ∧ (nilT Int, (4 : Int)) = (nilT Int, (4 : Int))) ∧
 True) := by
 kernel_rfl

theorem g116_eq  : g116  = (
 (true = true ∧ ((0 : Int) ≤ (0 : Int) ∧ (0 : Int) < (1 : Int)) ∧ true = true ∧ true = true ∧ ([(1 : Int)], nilT Int) = ([(1 : Int)], nilT Int)) ∧
 (true = true ∧ Small (1 : Nat) ∧ (nilT Int, [(1 : Int)]) = (nilT Int, [(1 : Int)])) ∧
 (true = true ∧ ((0 : Int) ≤ (0 : Int) ∧ (0 : Int) < (1 : Int)) ∧ true = true ∧ true = true ∧ ([(2 : Int)], nilT Int) = ([(2 : Int)], nilT Int)) ∧
 (true = true ∧ ((0 : Int) ≤ (0 : Int) ∧ (0 : Int) < (1 : Int)) ∧ true = true ∧ true = true ∧ ([(1 : Int)], [(1 : Int)]) = ([(1 : Int)], [(1 : Int)])) ∧
 (true = true ∧ Small (1 : Nat) ∧ (nilT Int, [(1 : Int)]) = (nilT Int, [(1 : Int)])) ∧
 (true = true ∧ ((0 : Int) ≤ (0 : Int) ∧ (0 : Int) < (1 : Int)) ∧ true = true ∧ true = true ∧ ([(4 : Int)], nilT Int) = ([(4 : Int)], nilT Int)) ∧
 (true = true ∧ ((0 : Int) ≤ (0 : Int) ∧ (0 : Int) < (1 : Int)) ∧ true = true ∧ true = true ∧ ([(1 : Int)], [(6 : Int)]) = ([(1 : Int)], [(6 : Int)])) ∧
 (true = true ∧ ((0 : Int) ≤ (0 : Int) ∧ (0 : Int) < (1 : Int)) ∧ true = true ∧ true = true ∧ ([(1 : Int)], [(2 : Int)]) = ([(1 : Int)], [(2 : Int)])) ∧
 (true = true ∧ ((0 : Int) ≤ (0 : Int) ∧ (0 : Int) < (1 : Int)) ∧ true = true ∧ true = true ∧ ([(3 : Int)], nilT Int) = ([(3 : Int)], nilT Int)) ∧
 (true = true ∧ ((0 : Int) ≤ (0 : Int) ∧ (0 : Int) < (1 : Int)) ∧ true = true ∧ true = true ∧ ([(7 : Int)], nilT Int) = ([(7 : Int)], nilT Int)) ∧
 (true = true ∧ ((0 : Int) ≤ (0 : Int) ∧ (0 : Int) < (1 : Int)) ∧ true = true ∧ true = true ∧ ([(4 : Int)], nilT Int) = ([(4 : Int)], nilT Int)) ∧ True) := by
 kernel_rfl

theorem g102_eq  : g102  = (
 (true = true ∧ (true, [(1 : Int)]) = (true, [(1 : Int)])) ∧ True) := by
 kernel_rfl

theorem g82_eq  : g82  = (
 (true = true ∧ true = true ∧ true = true ∧ (false, nilT Int) = (false, nilT Int)) ∧
 (true = true ∧ true = true ∧ (false, [(1 : Int)]) = (false, [(1 : Int)])) ∧
 (true = true ∧ true = true ∧ (false, [(3 : Int)]) = (false, [(3 : Int)])) ∧
 (true = true ∧ true = true ∧ (false, [(14 : Int)]) = (false, [(14 : Int)])) ∧ (true = true ∧ true = true ∧ true = true ∧ (false, [(1 : Int)]) = (false, [(1 : Int)])) ∧ True) := by
 kernel_rfl

theorem g117_eq  : g117  = (
 (true = true ∧ true = true ∧ (false, nilT Int) = (false, nilT Int)) ∧ (true = true ∧ true = true ∧ (false, [(1 : Int)]) = (false, [(1 : Int)])) ∧ True) := by
 kernel_rfl

theorem g118_eq  : g118  = (
 (0 : Int) = (0 : Int) ∧ (1 : Int) = (1 : Int) ∧ True) := by
 kernel_rfl

theorem g84_eq  : g84  = (
 (true = true ∧ true = true ∧ (false, [(1 : Int)]) = (false, [(1 : Int)])) ∧
 (true = true ∧ true = true ∧ (false, [(2 : Int)]) = (false, [(2 : Int)])) ∧
 (true = true ∧ true = true ∧ (false, [(4 : Int)]) = (false, [(4 : Int)])) ∧
 (true = true ∧ true = true ∧ (false, [(12 : Int)]) = (false, [(12 : Int)])) ∧ (true = true ∧ true = true ∧ (false, [(8 : Int)]) = (false, [(8 : Int)])) ∧ True) := by
 kernel_rfl

theorem g104_eq  : g104  = (
 (true = true ∧ true = true ∧ (0 : Int) = (0 : Int)) ∧ (true = true ∧ true = true ∧ (1 : Int) = (1 : Int)) ∧ True) := by
 kernel_rfl

theorem g105_eq  : g105  = (
 (true = true ∧
 (true = true ∧
 (true = true ∧
 (((false, [(7 : Int)]), false, nilT Int) = ((false, [(7 : Int)]), false, nilT Int) ∧
 ((false, [(7 : Int)]), false, nilT Int) = ((false, [(7 : Int)]), false, nilT Int)) ∧
 ((false, [(7 : Int)]), false, nilT Int) = ((false, [(7 : Int)]), false, nilT Int) ∧
 ((false, [(7 : Int)]), false, nilT Int) = ((false, [(7 : Int)]), false, nilT Int)) ∧
 ((true = true ∧
 ((false, [(7 : Int)]), false, nilT Int) = ((false, [(7 : Int)]), false, nilT Int) ∧
 ((false, [(7 : Int)]), false, nilT Int) = ((false, [(7 : Int)]), false, nilT Int)) ∧
 true = true ∧
 ((false, [(7 : Int)]), false, nilT Int) = ((false, [(7 : Int)]), false, nilT Int) ∧
 ((false, [(7 : Int)]), false, nilT Int) = ((false, [(7 : Int)]), false, nilT Int)) ∧
 (true = true ∧
 ((false, [(7 : Int)]), false, nilT Int) = ((false, [(7 : Int)]), false, nilT Int) ∧
 ((false, [(7 : Int)]), false, nilT Int) = ((false, [(7 : Int)]), false, nilT Int)) ∧
 true = true ∧
 ((false, [(7 : Int)]), false, nilT Int) = ((false, [(7 : Int)]), false, nilT Int) ∧
 ((false, [(7 : Int)]), false, nilT Int) = ((false, [(7 : Int)]), false, nilT Int)) ∧
 ((true = true ∧
 (true = true ∧
 ((false, [(7 : Int)]), false, nilT Int) = ((false, [(7 : Int)]), false, nilT Int) ∧
 ((false, [(7 : Int)]), false, nilT Int) = ((false, [(7 : Int)]), false, nilT Int)) ∧
 true = true ∧
 ((false, [(7 : Int)]), false, nilT Int) = ((false, [(7 : Int)]), false, nilT Int) ∧
 ((false, [(7 : Int)]), false, nilT Int) = ((false, [(7 : Int)]), false, nilT Int)) ∧
 true = true ∧
 true = true ∧
 ((false, [(7 : Int)]), false, nilT Int) = ((false, [(7 : Int)]), false, nilT Int) ∧
 ((false, [(7 : Int)]), false, nilT Int) = ((false, [(7 : Int)]), false, nilT Int)) ∧
 (true = true ∧
 (true = true ∧
 ((false, [(7 : Int)]), false, nilT Int) = ((false, [(7 : Int)]), false, nilT Int) ∧
 ((false, [(7 : Int)]), false, nilT Int) = ((false, [(7 : Int)]), false, nilT Int)) ∧
 true = true ∧
 ((false, [(7 : Int)]), false, nilT Int) = ((false, [(7 : Int)]), false, nilT Int) ∧
 ((false, [(7 : Int)]), false, nilT Int) = ((false, [(7 : Int)]), false, nilT Int)) ∧
 true = true ∧
 true = true ∧
 ((false, [(7 : Int)]), false, nilT Int) = ((false, [(7 : Int)]), false, nilT Int) ∧
 ((false, [(7 : Int)]), false, nilT Int) = ((false, [(7 : Int)]), false, nilT Int)) ∧
 (true = true ∧
 (true = true ∧
 (true = true ∧
 (((false, [(4 : Int)]), false, nilT Int) = ((false, [(4 : Int)]), false, nilT Int) ∧
 ((false, [(4 : Int)]), false, nilT Int) = ((false, [(4 : Int)]), false, nilT Int)) ∧
 ((false, [(4 : Int)]), false, nilT Int) = ((false, [(4 : Int)]), false, nilT Int) ∧
 ((false, [(4 : Int)]), false, nilT Int) = ((false, [(4 : Int)]), false, nilT Int)) ∧
 ((true = true ∧
 ((false, [(4 : Int)]), false, nilT Int) = ((false, [(4 : Int)]), false, nilT Int) ∧
 ((false, [(4 : Int)]), false, nilT Int) = ((false, [(4 : Int)]), false, nilT Int)) ∧
 true = true ∧
 ((false, [(4 : Int)]), false, nilT Int) = ((false, [(4 : Int)]), false, nilT Int) ∧
 ((false, [(4 : Int)]), false, nilT Int) = ((false, [(4 : Int)]), false, nilT Int)) ∧
 (true = true ∧
 ((false, [(4 : Int)]), false, nilT Int) = ((false, [(4 : Int)]), false, nilT Int) ∧
 ((false, [(4 : Int)]), false, nilT Int) = ((false, [(4 : Int)]), false, nilT Int)) ∧
 true = true ∧
 ((false, [(4 : Int)]), false, nilT Int) = ((false, [(4 : Int)]), false, nilT Int) ∧
 ((false, [(4 : Int)]), false, nilT Int) = ((false, [(4 : Int)]), false, nilT Int)) ∧
 ((true = true ∧
 (true = true ∧
 ((false, [(4 : Int)]), false, nilT Int) = ((false, [(4 : Int)]), false, nilT Int) ∧
 ((false, [(4 : Int)]), false, nilT Int) = ((false, [(4 : Int)]), false, nilT Int)) ∧
 true = true ∧
 ((false, [(4 : Int)]), false, nilT Int) = ((false, [(4 : Int)]), false, nilT Int) ∧
 ((false, [(4 : Int)]), false, nilT Int) = ((false, [(4 : Int)]), false, nilT Int)) ∧
 true = true ∧
 true = true ∧
 ((false, [(4 : Int)]), false, nilT Int) = ((false, [(4 : Int)]), false, nilT Int) ∧
 ((false, [(4 : Int)]), false, nilT Int) = ((false, [(4 : Int)]), false, nilT Int)) ∧
 (true = true ∧
 (true = true ∧
 ((false, [(4 : Int)]), false, nilT Int) = ((false, [(4 : Int)]), false, nilT Int) ∧
 ((false, [(4 : Int)]), false, nilT Int) = ((false, [(4 : Int)]), false, nilT Int)) ∧
 true = true ∧
 ((false, [(4 : Int)]), false, nilT Int) = ((false, [(4 : Int)]), false, nilT Int) ∧
 ((false, [(4 : Int)]), false, nilT Int) = ((false, [(4 : Int)]), false, nilT Int)) ∧
 true = true ∧
 true = true ∧
 ((false, [(4 : Int)]), false, nilT Int) = ((false, [(4 : Int)]), false, nilT Int) ∧
 ((false, [(4 : Int)]), false, nilT Int) = ((false, [(4 : Int)]), false, nilT Int)) ∧
 True) := by
 kernel_rfl

theorem g103_eq  : g103  = (
 (true = true ∧ true = true ∧ (false, [(1 : Int)]) = (false, [(1 : Int)])) ∧
 (true = true ∧ true = true ∧ true = true ∧ (false, [(1 : Int)]) = (false, [(1 : Int)])) ∧
 (true = true ∧ true = true ∧ true = true ∧ (false, [(1 : Int)]) = (false, [(1 : Int)])) ∧
 (true = true ∧ true = true ∧ true = true ∧ (false, [(1 : Int)]) = (false, [(1 : Int)])) ∧
 (true = true ∧ true = true ∧ true = true ∧ true = true ∧ (false, [(2 : Int)]) = (false, [(2 : Int)])) ∧ True) := by
 kernel_rfl

theorem g85_eq  : g85  = (
 (true = true ∧
 ((0 : Int) ≤ (7 : Int) ∧ (0 : Int) < (10 : Int)) ∧
 Small (1 : Nat) ∧ ((0 : Int) ≤ (7 : Int) ∧ (0 : Int) < (10 : Int)) ∧ Fits IntKind.i64 (1 : Int) ∧ Fits IntKind.i64 (0 : Int) ∧ strOf [(55 : Int)] = p85.F [(7 : Int)]) ∧
 (true = true ∧
 ((0 : Int) ≤ (4 : Int) ∧ (0 : Int) < (10 : Int)) ∧
 Small (1 : Nat) ∧ ((0 : Int) ≤ (4 : Int) ∧ (0 : Int) < (10 : Int)) ∧ Fits IntKind.i64 (1 : Int) ∧ Fits IntKind.i64 (0 : Int) ∧ strOf [(52 : Int)] = p85.F [(4 : Int)]) ∧
 True) := by
 kernel_rfl

theorem g71_eq  : g71  = (
 (true = true ∧ true = true ∧ ((false, nilT Int), false, [(1 : Int)]) = ((false, nilT Int), false, [(1 : Int)])) ∧
 (true = true ∧ true = true ∧ ((false, [(1 : Int)]), false, [(1 : Int)]) = ((false, [(1 : Int)]), false, [(1 : Int)])) ∧
 (true = true ∧ true = true ∧ ((false, [(2 : Int)]), false, [(1 : Int)]) = ((false, [(2 : Int)]), false, [(1 : Int)])) ∧
 (true = true ∧ true = true ∧ ((false, [(4 : Int)]), false, [(1 : Int)]) = ((false, [(4 : Int)]), false, [(1 : Int)])) ∧ True) := by
 kernel_rfl

theorem g80_eq  : g80  = (
 (((0 : Int) ≤ (0 : Int) ∧ (0 : Int) < (1 : Int)) ∧ true = true) ∧
 (((0 : Int) ≤ (0 : Int) ∧ (0 : Int) < (1 : Int)) ∧ true = true) ∧
 (((0 : Int) ≤ (0 : Int) ∧ (0 : Int) < (1 : Int)) ∧ false = false) ∧
 (((0 : Int) ≤ (0 : Int) ∧ (0 : Int) < (1 : Int)) ∧ false = false) ∧ (((0 : Int) ≤ (0 : Int) ∧ (0 : Int) < (1 : Int)) ∧ false = false) ∧ True) := by
 kernel_rfl

theorem g81_eq  : g81  = (
 (true = true ∧ ((false, [(1 : Int)]), false, [(1 : Int)]) = ((false, [(1 : Int)]), false, [(1 : Int)])) ∧ True) := by
 kernel_rfl

theorem g83_eq  : g83  = (
 (true = true ∧ true = true ∧ true = true ∧ ((false, [(1 : Int)]), false, [(1 : Int)]) = ((false, [(1 : Int)]), false, [(1 : Int)])) ∧
 (true = true ∧ true = true ∧ true = true ∧ ((false, [(1 : Int)]), false, [(2 : Int)]) = ((false, [(1 : Int)]), false, [(2 : Int)])) ∧
 (true = true ∧ true = true ∧ true = true ∧ ((false, [(3 : Int)]), false, [(2 : Int)]) = ((false, [(3 : Int)]), false, [(2 : Int)])) ∧
 (true = true ∧ true = true ∧ true = true ∧ ((false, [(1 : Int)]), false, [(4 : Int)]) = ((false, [(1 : Int)]), false, [(4 : Int)])) ∧
 (true = true ∧ true = true ∧ true = true ∧ true = true ∧ true = true ∧ ((false, [(7 : Int)]), false, [(4 : Int)]) = ((false, [(7 : Int)]), false, [(4 : Int)])) ∧ True) := by
 kernel_rfl

theorem g72_eq  : g72  = (
 (true = true ∧ true = true ∧ true = true ∧ true = true ∧ ((false, [(1 : Int)]), false, [(1 : Int)]) = ((false, [(1 : Int)]), false, [(1 : Int)])) ∧
 (true = true ∧
 true = true ∧ true = true ∧ true = true ∧ true = true ∧ true = true ∧ true = true ∧ ((false, [(3 : Int)]), false, [(2 : Int)]) = ((false, [(3 : Int)]), false, [(2 : Int)])) ∧
 (true = true ∧ true = true ∧ true = true ∧ true = true ∧ true = true ∧ true = true ∧ ((false, [(7 : Int)]), false, [(4 : Int)]) = ((false, [(7 : Int)]), false, [(4 : Int)])) ∧
 True) := by
 kernel_rfl

theorem g73_eq  : g73  = (
 (true = true ∧ true = true ∧ true = true ∧ ((false, [(1 : Int)]), false, [(1 : Int)]) = ((false, [(1 : Int)]), false, [(1 : Int)])) ∧
 (true = true ∧ true = true ∧ true = true ∧ ((false, [(1 : Int)]), false, [(2 : Int)]) = ((false, [(1 : Int)]), false, [(2 : Int)])) ∧
 (true = true ∧ true = true ∧ true = true ∧ ((false, [(1 : Int)]), false, [(4 : Int)]) = ((false, [(1 : Int)]), false, [(4 : Int)])) ∧ True) := by
 kernel_rfl

theorem g74_eq  : g74  = (
 (true = true ∧
 true = true ∧
 true = true ∧
 Small (2 : Nat) ∧
 Small (3 : Nat) ∧ (p85.F [(7 : Int)] ++ ByteArray.mk #[(47 : UInt8)] ++ p85.F [(4 : Int)], (0 : Int)) = p74.F ((false, [(7 : Int)]), false, [(4 : Int)])) ∧
 True) := by
 kernel_rfl

theorem g52_eq  : g52  = (
 (((0 : Int) ≤ (0 : Int) ∧ (0 : Int) < (3 : Int)) ∧
 Fits IntKind.i64 (2 : Int) ∧
 ((0 : Int) ≤ (2 : Int) ∧ (2 : Int) < (3 : Int)) ∧
 ((0 : Int) ≤ (1 : Int) ∧ (1 : Int) < (3 : Int)) ∧
 Fits IntKind.i64 (0 : Int) ∧
 ((0 : Int) ≤ (0 : Int) ∧ (0 : Int) < (3 : Int)) ∧
 Fits IntKind.i64 (2 : Int) ∧
 ((0 : Int) ≤ (2 : Int) ∧ (2 : Int) < (3 : Int)) ∧
 Fits IntKind.i64 (1 : Int) ∧
 ((0 : Int) ≤ (1 : Int) ∧ (1 : Int) < (3 : Int)) ∧
 Fits IntKind.i64 (3 : Int) ∧
 true = true ∧
 ((0 : Int) ≤ (0 : Int) ∧ (0 : Int) < (3 : Int)) ∧
 true = true ∧
 true = true ∧
 true = true ∧
 true = true ∧
 Fits IntKind.i64 (1 : Int) ∧
 ((0 : Int) ≤ (1 : Int) ∧ (1 : Int) < (3 : Int)) ∧
 true = true ∧
 true = true ∧
 true = true ∧
 true = true ∧
 Fits IntKind.i64 (2 : Int) ∧
 ((0 : Int) ≤ (2 : Int) ∧ (2 : Int) < (3 : Int)) ∧
 true = true ∧
 true = true ∧
 true = true ∧
 true = true ∧
 Fits IntKind.i64 (3 : Int) ∧
 true = true ∧
 ((p74.F ((false, [(7 : Int)]), false, [(4 : Int)])).fst, (0 : Int)) = p52.F [(1 : Int), (2 : Int), (4 : Int)]) ∧
 True) := by
 kernel_rfl

end Go.SX.We

/- Chapter 08: num's functions at these numbers, proved. -/
namespace Go.SX.We
open Go Go.Proofs

theorem ok98 : p98.OK Try.prog := tab_ok (C := c98) (cc_ok (cs := []) trivial) (by kernel_rfl) (by kernel_rfl) (by kernel_rfl) (g98_eq.mpr (by (repeat' apply And.intro) <;> first | exact trivial | exact rfl | decide +kernel))
theorem ok97 : p97.OK Try.prog := tab_ok (C := c97) (cc_ok (cs := []) trivial) (by kernel_rfl) (by kernel_rfl) (by kernel_rfl) (g97_eq.mpr (by (repeat' apply And.intro) <;> first | exact trivial | exact rfl | decide +kernel))
theorem ok79 : p79.OK Try.prog := tab_ok (C := c79) (cc_ok (cs := [p97.ci, p98.ci]) ⟨PC.OK.ci ok97, PC.OK.ci ok98, trivial⟩) (by kernel_rfl) (by kernel_rfl) (by kernel_rfl) (g79_eq.mpr (by (repeat' apply And.intro) <;> first | exact trivial | exact rfl | decide +kernel))
theorem ok100 : p100.OK Try.prog := tab_ok (C := c100) (cc_ok (cs := []) trivial) (by kernel_rfl) (by kernel_rfl) (by kernel_rfl) (g100_eq.mpr (by (repeat' apply And.intro) <;> first | exact trivial | exact rfl | decide +kernel))
theorem ok99 : p99.OK Try.prog := tab_ok (C := c99) (cc_ok (cs := [i114, p98.ci]) ⟨i114_ok, PC.OK.ci ok98, trivial⟩) (by kernel_rfl) (by kernel_rfl) (by kernel_rfl) (g99_eq.mpr (by (repeat' apply And.intro) <;> first | exact trivial | exact rfl | decide +kernel))
theorem ok101 : p101.OK Try.prog := tab_ok (C := c101) (cc_ok (cs := [i115, p98.ci]) ⟨i115_ok, PC.OK.ci ok98, trivial⟩) (by kernel_rfl) (by kernel_rfl) (by kernel_rfl) (g101_eq.mpr (by (repeat' apply And.intro) <;> first | exact trivial | exact rfl | decide +kernel))
theorem ok106 : p106.OK Try.prog := tab_ok (C := c106) (cc_ok (cs := [p98.ci]) ⟨PC.OK.ci ok98, trivial⟩) (by kernel_rfl) (by kernel_rfl) (by kernel_rfl) (g106_eq.mpr (by (repeat' apply And.intro) <;> first | exact trivial | exact rfl | decide +kernel))
theorem ok107 : p107.OK Try.prog := tab_ok (C := c107) (cc_ok (cs := [p98.ci]) ⟨PC.OK.ci ok98, trivial⟩) (by kernel_rfl) (by kernel_rfl) (by kernel_rfl) (g107_eq.mpr (by (repeat' apply And.intro) <;> first | exact trivial | exact rfl | decide +kernel))
theorem ok116 : p116.OK Try.prog := tab_ok (C := c116) (cc_ok (cs := [p100.ci, p107.ci, p98.ci]) ⟨PC.OK.ci ok100, PC.OK.ci ok107, PC.OK.ci ok98, trivial⟩) (by kernel_rfl) (by kernel_rfl) (by kernel_rfl) (g116_eq.mpr (by (repeat' apply And.intro) <;> first | exact trivial | exact rfl | decide +kernel))
theorem ok102 : p102.OK Try.prog := tab_ok (C := c102) (cc_ok (cs := [p97.ci]) ⟨PC.OK.ci ok97, trivial⟩) (by kernel_rfl) (by kernel_rfl) (by kernel_rfl) (g102_eq.mpr (by (repeat' apply And.intro) <;> first | exact trivial | exact rfl | decide +kernel))
theorem ok82 : p82.OK Try.prog := tab_ok (C := c82) (cc_ok (cs := [p97.ci, p99.ci, p100.ci, p101.ci]) ⟨PC.OK.ci ok97, PC.OK.ci ok99, PC.OK.ci ok100, PC.OK.ci ok101, trivial⟩) (by kernel_rfl) (by kernel_rfl) (by kernel_rfl) (g82_eq.mpr (by (repeat' apply And.intro) <;> first | exact trivial | exact rfl | decide +kernel))
theorem ok117 : p117.OK Try.prog := tab_ok (C := c117) (cc_ok (cs := [p82.ci, p102.ci]) ⟨PC.OK.ci ok82, PC.OK.ci ok102, trivial⟩) (by kernel_rfl) (by kernel_rfl) (by kernel_rfl) (g117_eq.mpr (by (repeat' apply And.intro) <;> first | exact trivial | exact rfl | decide +kernel))
theorem ok118 : p118.OK Try.prog := tab_ok (C := c118) (cc_ok (cs := []) trivial) (by kernel_rfl) (by kernel_rfl) (by kernel_rfl) (g118_eq.mpr (by (repeat' apply And.intro) <;> first | exact trivial | exact rfl | decide +kernel))
theorem ok84 : p84.OK Try.prog := tab_ok (C := c84) (cc_ok (cs := [p97.ci, p106.ci]) ⟨PC.OK.ci ok97, PC.OK.ci ok106, trivial⟩) (by kernel_rfl) (by kernel_rfl) (by kernel_rfl) (g84_eq.mpr (by (repeat' apply And.intro) <;> first | exact trivial | exact rfl | decide +kernel))
theorem ok104 : p104.OK Try.prog := tab_ok (C := c104) (cc_ok (cs := [p117.ci, p118.ci]) ⟨PC.OK.ci ok117, PC.OK.ci ok118, trivial⟩) (by kernel_rfl) (by kernel_rfl) (by kernel_rfl) (g104_eq.mpr (by (repeat' apply And.intro) <;> first | exact trivial | exact rfl | decide +kernel))
theorem ok105 : p105.OK Try.prog := tab_ok (C := c105) (cc_ok (cs := [p116.ci, p97.ci, p117.ci, p79.ci, p82.ci]) ⟨PC.OK.ci ok116, PC.OK.ci ok97, PC.OK.ci ok117, PC.OK.ci ok79, PC.OK.ci ok82, trivial⟩) (by kernel_rfl) (by kernel_rfl) (by kernel_rfl) (g105_eq.mpr (by (repeat' apply And.intro) <;> first | exact trivial | exact rfl | decide +kernel))
theorem ok103 : p103.OK Try.prog := tab_ok (C := c103) (cc_ok (cs := [p116.ci, p97.ci]) ⟨PC.OK.ci ok116, PC.OK.ci ok97, trivial⟩) (by kernel_rfl) (by kernel_rfl) (by kernel_rfl) (g103_eq.mpr (by (repeat' apply And.intro) <;> first | exact trivial | exact rfl | decide +kernel))
theorem ok85 : p85.OK Try.prog := tab_ok (C := c85) (cc_ok (cs := [p107.ci, i108]) ⟨PC.OK.ci ok107, i108_ok, trivial⟩) (by kernel_rfl) (by kernel_rfl) (by kernel_rfl) (g85_eq.mpr (by (repeat' apply And.intro) <;> first | exact trivial | exact rfl | decide +kernel))
theorem ok71 : p71.OK Try.prog := tab_ok (C := c71) (cc_ok (cs := [p79.ci]) ⟨PC.OK.ci ok79, trivial⟩) (by kernel_rfl) (by kernel_rfl) (by kernel_rfl) (g71_eq.mpr (by (repeat' apply And.intro) <;> first | exact trivial | exact rfl | decide +kernel))
theorem ok80 : p80.OK Try.prog := tab_ok (C := c80) (cc_ok (cs := []) trivial) (by kernel_rfl) (by kernel_rfl) (by kernel_rfl) (g80_eq.mpr (by (repeat' apply And.intro) <;> first | exact trivial | exact rfl | decide +kernel))
theorem ok81 : p81.OK Try.prog := tab_ok (C := c81) (cc_ok (cs := [p79.ci]) ⟨PC.OK.ci ok79, trivial⟩) (by kernel_rfl) (by kernel_rfl) (by kernel_rfl) (g81_eq.mpr (by (repeat' apply And.intro) <;> first | exact trivial | exact rfl | decide +kernel))
theorem ok83 : p83.OK Try.prog := tab_ok (C := c83) (cc_ok (cs := [p102.ci, p103.ci, p104.ci, p79.ci, p105.ci]) ⟨PC.OK.ci ok102, PC.OK.ci ok103, PC.OK.ci ok104, PC.OK.ci ok79, PC.OK.ci ok105, trivial⟩) (by kernel_rfl) (by kernel_rfl) (by kernel_rfl) (g83_eq.mpr (by (repeat' apply And.intro) <;> first | exact trivial | exact rfl | decide +kernel))
theorem ok72 : p72.OK Try.prog := tab_ok (C := c72) (cc_ok (cs := [p80.ci, p81.ci, p82.ci, p83.ci, p84.ci]) ⟨PC.OK.ci ok80, PC.OK.ci ok81, PC.OK.ci ok82, PC.OK.ci ok83, PC.OK.ci ok84, trivial⟩) (by kernel_rfl) (by kernel_rfl) (by kernel_rfl) (g72_eq.mpr (by (repeat' apply And.intro) <;> first | exact trivial | exact rfl | decide +kernel))
theorem ok73 : p73.OK Try.prog := tab_ok (C := c73) (cc_ok (cs := [p83.ci, p84.ci]) ⟨PC.OK.ci ok83, PC.OK.ci ok84, trivial⟩) (by kernel_rfl) (by kernel_rfl) (by kernel_rfl) (g73_eq.mpr (by (repeat' apply And.intro) <;> first | exact trivial | exact rfl | decide +kernel))
theorem ok74 : p74.OK Try.prog := tab_ok (C := c74) (cc_ok (cs := [p85.ci, p80.ci]) ⟨PC.OK.ci ok85, PC.OK.ci ok80, trivial⟩) (by kernel_rfl) (by kernel_rfl) (by kernel_rfl) (g74_eq.mpr (by (repeat' apply And.intro) <;> first | exact trivial | exact rfl | decide +kernel))
theorem ok52 : p52.OK Try.prog := tab_ok (C := c52) (cc_ok (cs := [i40, p71.ci, p72.ci, p73.ci, p74.ci]) ⟨i40_ok, PC.OK.ci ok71, PC.OK.ci ok72, PC.OK.ci ok73, PC.OK.ci ok74, trivial⟩) (by kernel_rfl) (by kernel_rfl) (by kernel_rfl) (g52_eq.mpr (by (repeat' apply And.intro) <;> first | exact trivial | exact rfl | decide +kernel))
end Go.SX.We

/- Chapter 08: what well-formed weights are. -/
namespace Go.SX.We

theorem upF_cons {a : Int} : (r : List Int) → upF (a :: r) = true → (∀ x ∈ r, a < x) ∧ upF r = true
  | [], _ => ⟨fun x h => by simp at h, rfl⟩
  | b :: r, h => by
    simp only [upF, Bool.and_eq_true, decide_eq_true_eq] at h
    obtain ⟨h1, _⟩ := upF_cons r h.2
    refine ⟨fun x hx => ?_, h.2⟩
    rcases List.mem_cons.1 hx with rfl | hx
    · exact h.1
    · have := h1 x hx; omega
theorem upF_pairwise : {l : List Int} → upF l = true → l.Pairwise (· < ·)
  | [], _ => .nil
  | a :: r, h => .cons (upF_cons r h).1 (upF_pairwise (upF_cons r h).2)
theorem pairwise_upF : {l : List Int} → l.Pairwise (· < ·) → upF l = true
  | [], _ => rfl
  | [_], _ => rfl
  | a :: b :: r, h => by
    simp only [upF, Bool.and_eq_true, decide_eq_true_eq]
    cases h with
    | cons h1 h2 => exact ⟨h1 b (by simp), pairwise_upF h2⟩
theorem upF_iff (l : List Int) : upF l = true ↔ ∀ i, 0 < i → i < l.length → l.getD (i - 1) 0 < l.getD i 0 := by
  constructor
  · intro h i h0 hi
    have hp := List.pairwise_iff_getElem.1 (upF_pairwise h) (i - 1) i (by omega) hi (by omega)
    simpa [List.getD, List.getElem?_eq_getElem hi, List.getElem?_eq_getElem (show i - 1 < l.length by omega)] using hp
  · induction l with
    | nil => intro _; rfl
    | cons a r ih =>
      intro h
      cases r with
      | nil => rfl
      | cons b r =>
        simp only [upF, Bool.and_eq_true, decide_eq_true_eq]
        refine ⟨by have := h 1 (by omega) (by simp); simpa using this, ih fun i h0 hi => ?_⟩
        have := h (i + 1) (by omega) (by simp at hi ⊢; omega)
        obtain ⟨j, rfl⟩ : ∃ j, i = j + 1 := ⟨i - 1, by omega⟩
        simpa using this

/-- Well-formed weights. -/
structure Wts (w : List Int) : Prop where
  len : w.length ≤ 12
  pos : 0 < w.length
  lo : ∀ v ∈ w, 1 ≤ v
  hi : ∀ v ∈ w, v ≤ 100000
  up : w.Pairwise (· < ·)
theorem getD_mem {α : Type} (l : List α) (d : α) {k : Nat} (h : k < l.length) : l.getD k d ∈ l := by
  simp [List.getD, List.getElem?_eq_getElem h]
theorem mem_getD {α : Type} {l : List α} (d : α) {x : α} (h : x ∈ l) : ∃ k, k < l.length ∧ l.getD k d = x := by
  obtain ⟨k, h1, h2⟩ := List.mem_iff_getElem.1 h
  exact ⟨k, h1, by simp [List.getD, List.getElem?_eq_getElem h1, h2]⟩
theorem check_ok {w : List Int} : checkF w 12 = 0 ↔ Wts w := by
  constructor
  · intro h
    unfold checkF at h
    cases h1 : decide ((12 : Int) < (w.length : Int)) with
    | true => rw [h1] at h; exact absurd h (by simp)
    | false =>
    rw [h1] at h
    simp only [cond_false] at h
    cases h2 : (decide (w.length = 0) || decide (w.getD 0 0 < 1) || decide (100000 < w.getD (w.length - 1) 0)) with
    | true => rw [h2] at h; exact absurd h (by simp)
    | false =>
    rw [h2] at h
    simp only [cond_false] at h
    cases h3 : upF w with
    | false => rw [h3] at h; exact absurd h (by simp)
    | true =>
    simp only [Bool.or_eq_false_iff, decide_eq_false_iff_not] at h1 h2
    have hp := List.pairwise_iff_getElem.1 (upF_pairwise h3)
    have hpos : 0 < w.length := by omega
    have hD : ∀ k (hk : k < w.length), w.getD k 0 = w[k] := fun k hk => by simp [List.getD, List.getElem?_eq_getElem hk]
    refine ⟨by omega, hpos, fun v hv => ?_, fun v hv => ?_, upF_pairwise h3⟩
    · obtain ⟨k, k1, rfl⟩ := List.mem_iff_getElem.1 hv
      have := h2.1.2
      rw [hD 0 hpos] at this
      rcases Nat.eq_zero_or_pos k with rfl | hk
      · omega
      · have := hp 0 k hpos k1 hk; omega
    · obtain ⟨k, k1, rfl⟩ := List.mem_iff_getElem.1 hv
      have := h2.2
      rw [hD _ (by omega)] at this
      rcases Nat.lt_or_ge k (w.length - 1) with hk | hk
      · have := hp k (w.length - 1) k1 (by omega) hk; omega
      · have e : k = w.length - 1 := by omega
        subst e; omega
  · intro h
    unfold checkF
    have h1 : decide ((12 : Int) < (w.length : Int)) = false := by have := h.len; simp; omega
    have hl := h.lo _ (getD_mem w 0 h.pos)
    have hh := h.hi _ (getD_mem w 0 (show w.length - 1 < w.length by have := h.pos; omega))
    have h2 : (decide (w.length = 0) || decide (w.getD 0 0 < 1) || decide (100000 < w.getD (w.length - 1) 0)) = false := by
      simp only [Bool.or_eq_false_iff, decide_eq_false_iff_not]
      have := h.pos
      omega
    rw [h1, h2, pairwise_upF h.up]; rfl
theorem Wts.small {w : List Int} (h : Wts w) : ∀ v ∈ w, -1000000 ≤ v ∧ v ≤ 1000000 := fun v hv => by
  have := h.lo v hv
  have := h.hi v hv
  omega
theorem total_ok {w : List Int} {s : Int} : totalF w 12 s = 0 ↔ Wts w ∧ 0 ≤ s := by
  unfold totalF
  cases h : (decide ((w.length : Int) ≤ 12) && decide (s < 0)) with
  | true =>
    simp only [Bool.and_eq_true, decide_eq_true_eq] at h
    exact ⟨fun e => absurd e (by simp), fun ⟨_, e⟩ => by omega⟩
  | false =>
    simp only [cond_false]
    rw [check_ok]
    simp only [Bool.and_eq_false_iff, decide_eq_false_iff_not] at h
    exact ⟨fun hw => ⟨hw, by have := hw.len; omega⟩, fun hw => hw.1⟩
end Go.SX.We

/- Chapter 08: Distinct, Ways, Subset, what is asked of each. -/
namespace Go.SX.We
open Go Go.Proofs

noncomputable section
/-- A loop with one counter that starts at 0 and runs to a bound, with further slots. -/
@[reducible] def upToS (n : Nat) (slot : Nat) (keep : List Nat) (ok : Nat → Prop) (more : Nat → List (Nat × SV)) : Ann where
  τ := Nat
  pre := []
  preC := []
  keep := keep
  slots k := (slot, .c (.int .i64 k)) :: more k
  ents _ := []
  ok k := k ≤ n ∧ ok k
  m k := n - k
@[reducible] def upTo (n : Nat) (slot : Nat) (keep : List Nat) (ok : Nat → Prop) : Ann := upToS n slot keep ok fun _ => []

@[reducible] def p40 : PC := ⟨40, [aIs, aI], [aI], fun p => p.1.length ≤ 1000 ∧ p.2 ≤ 1000, fun p => checkF p.1 p.2⟩
@[reducible] def C40 (p : List Int × Int) : Ctx := cx [] [(0, fun _ => upTo p.1.length 5 [0] fun k => 1 ≤ k ∧ upF (p.1.drop (k - 1)) = upF p.1)]
def g40 (w : List Int) (m : Int) : Prop := p40.VC (C40 (w, m)) Try.f40 (w, m)
@[reducible] def p55 : PC := ⟨55, [aIs, aI, aI], [aI], fun p => p.1.length ≤ 1000 ∧ p.2.1 ≤ 1000, fun p => totalF p.1 p.2.1 p.2.2⟩
def g55 (w : List Int) (m s : Int) : Prop := p55.VC (cx [p40.ci] []) Try.f55 (w, m, s)
@[reducible] def p16 : PC := ⟨16, [aIs], [aB, aI], fun w => w.length ≤ 1000, distinctF⟩
def g16 (w : List Int) : Prop := p16.VC (cx [p40.ci, p41.ci] []) Try.f16 w

@[reducible] def R23 (w : List Int) (s : Int) : RAnn where
  a := true
  T := tSub
  go := goT
  gen := subsF w
  preC := []
  ents pre := [(1, .blk 3 [.int .i64 (countF s pre)])]
  fin _ := []
  ex := .ret
  place := 0
@[reducible] def p23 : PC := ⟨23, [aIs, aI], [aI, aI], fun p => p.1.length ≤ 1000, fun p => waysF p.1 p.2⟩
def g23 (M : MM) (w : List Int) (s : Int) : Prop := p23.VC (cr M [p55.ci, i42, (c66 M).ci pick66] [] [(0, fun _ => R23 w s)]) Try.f23 (w, s)

def i56 : CI := inl 56 Try.f56 (cx [] [])
@[reducible] def R48 (w : List Int) (s : Int) : RAnn where
  a := true
  T := tSub
  go := goN (hasSum s)
  gen := subsF w
  preC := []
  ents _ := []
  fin pre := [(3, .blk 68 [.ro (.int .i64) (lastS pre).1, .int .i64 (lastS pre).2]), (4, .blk 4 [.kb true])]
  ex := .ret
  place := 2
@[reducible] def p22 : PC := ⟨22, [aIs, aI], [aIs, aI], fun p => p.1.length ≤ 1000, fun p => subsetF p.1 p.2⟩
@[reducible] def C48 (M : MM) (w : List Int) (s : Int) : Ctx := cr M [i56, (c66 M).ci pick66] [] [(0, fun _ => R48 w s)]
def g22 (M : MM) (w : List Int) (s : Int) : Prop := p22.VC (cx [p55.ci, i42, inl 48 Try.f48 (C48 M w s)] []) Try.f22 (w, s)
end
end Go.SX.We

/- Printed by VC.lean: what the executor asks. -/
namespace Go.SX.We
open Go Go.Proofs
theorem g40_eq (w : List Int) (m : Int) : g40 w m = (
 (m < (↑w.length : Int) → m < (↑w.length : Int) ∧ m < (↑w.length : Int) ∧ (3 : Int) = checkF w m) ∧
 (¬m < (↑w.length : Int) →
 ¬m < (↑w.length : Int) ∧
 ¬m < (↑w.length : Int) ∧
 ((↑w.length : Int) = (0 : Int) → (↑w.length : Int) = (0 : Int) ∧ (↑w.length : Int) = (0 : Int) ∧ (2 : Int) = checkF w m) ∧
 (¬(↑w.length : Int) = (0 : Int) →
 ¬(↑w.length : Int) = (0 : Int) ∧
 ¬(↑w.length : Int) = (0 : Int) ∧
 ((0 : Int) ≤ (0 : Int) ∧ (0 : Int) < (↑w.length : Int)) ∧
 (w.getD (Int.toNat (0 : Int)) (0 : Int) < (1 : Int) →
 w.getD (Int.toNat (0 : Int)) (0 : Int) < (1 : Int) ∧
 w.getD (Int.toNat (0 : Int)) (0 : Int) < (1 : Int) ∧ w.getD (Int.toNat (0 : Int)) (0 : Int) < (1 : Int) ∧ (2 : Int) = checkF w m) ∧
 (¬w.getD (Int.toNat (0 : Int)) (0 : Int) < (1 : Int) →
 ¬w.getD (Int.toNat (0 : Int)) (0 : Int) < (1 : Int) ∧
 ¬w.getD (Int.toNat (0 : Int)) (0 : Int) < (1 : Int) ∧
 ¬w.getD (Int.toNat (0 : Int)) (0 : Int) < (1 : Int) ∧
 Fits IntKind.i64 ((↑w.length : Int) - (1 : Int)) ∧
 ((0 : Int) ≤ (↑w.length : Int) - (1 : Int) ∧ (↑w.length : Int) - (1 : Int) < (↑w.length : Int)) ∧
 ((100000 : Int) < w.getD ((↑w.length : Int) - (1 : Int)).toNat (0 : Int) →
 (100000 : Int) < w.getD ((↑w.length : Int) - (1 : Int)).toNat (0 : Int) ∧
 (100000 : Int) < w.getD ((↑w.length : Int) - (1 : Int)).toNat (0 : Int) ∧
 (100000 : Int) < w.getD ((↑w.length : Int) - (1 : Int)).toNat (0 : Int) ∧ (2 : Int) = checkF w m) ∧
 (¬(100000 : Int) < w.getD ((↑w.length : Int) - (1 : Int)).toNat (0 : Int) →
 ¬(100000 : Int) < w.getD ((↑w.length : Int) - (1 : Int)).toNat (0 : Int) ∧
 ¬(100000 : Int) < w.getD ((↑w.length : Int) - (1 : Int)).toNat (0 : Int) ∧
 ¬(100000 : Int) < w.getD ((↑w.length : Int) - (1 : Int)).toNat (0 : Int) ∧
 (∃ (x0 : Nat),
 (x0 ≤ w.length ∧ (1 : Nat) ≤ x0 ∧ upF (List.drop (x0 - (1 : Nat)) w) = upF w) ∧ True ∧ (1 : Int) = (↑x0 : Int) ∧ w = w ∧ True) ∧
 ∀ (x : Nat),
 x ≤ w.length ∧ (1 : Nat) ≤ x ∧ upF (List.drop (x - (1 : Nat)) w) = upF w →
 ((↑x : Int) < (↑w.length : Int) →
 (↑x : Int) < (↑w.length : Int) ∧
 ((0 : Int) ≤ (↑x : Int) ∧ (↑x : Int) < (↑w.length : Int)) ∧
 Fits IntKind.i64 ((↑x : Int) - (1 : Int)) ∧
 ((0 : Int) ≤ (↑x : Int) - (1 : Int) ∧ (↑x : Int) - (1 : Int) < (↑w.length : Int)) ∧
 (w.getD (↑x : Int).toNat (0 : Int) ≤ w.getD ((↑x : Int) - (1 : Int)).toNat (0 : Int) →
 w.getD (↑x : Int).toNat (0 : Int) ≤ w.getD ((↑x : Int) - (1 : Int)).toNat (0 : Int) ∧ (2 : Int) = checkF w m) ∧
 (¬w.getD (↑x : Int).toNat (0 : Int) ≤ w.getD ((↑x : Int) - (1 : Int)).toNat (0 : Int) →
 ¬w.getD (↑x : Int).toNat (0 : Int) ≤ w.getD ((↑x : Int) - (1 : Int)).toNat (0 : Int) ∧
 Fits IntKind.i64 ((↑x : Int) + (1 : Int)) ∧
 ∃ (x' : Nat),
 (x' ≤ w.length ∧ (1 : Nat) ≤ x' ∧ upF (List.drop (x' - (1 : Nat)) w) = upF w) ∧
 w.length - x' < w.length - x ∧ True ∧ (↑x : Int) + (1 : Int) = (↑x' : Int) ∧ w = w ∧ True)) ∧
 (¬(↑x : Int) < (↑w.length : Int) → ¬(↑x : Int) < (↑w.length : Int) ∧ (0 : Int) = checkF w m)))))) := by
 kernel_rfl

theorem g55_eq (w : List Int) (m : Int) (s : Int) : g55 w m s = (
 ((↑w.length : Int) ≤ m →
 (↑w.length : Int) ≤ m ∧
 (↑w.length : Int) ≤ m ∧
 (s < (0 : Int) → s < (0 : Int) ∧ s < (0 : Int) ∧ (1 : Int) = totalF w m s) ∧
 (¬s < (0 : Int) → ¬s < (0 : Int) ∧ ¬s < (0 : Int) ∧ (w.length ≤ (1000 : Nat) ∧ m ≤ (1000 : Int)) ∧ checkF w m = totalF w m s)) ∧
 (¬(↑w.length : Int) ≤ m → ¬(↑w.length : Int) ≤ m ∧ ¬(↑w.length : Int) ≤ m ∧ (w.length ≤ (1000 : Nat) ∧ m ≤ (1000 : Int)) ∧ checkF w m = totalF w m s)) := by
 kernel_rfl

theorem g16_eq (w : List Int) : g16 w = (
 (w.length ≤ (1000 : Nat) ∧ (12 : Int) ≤ (1000 : Int)) ∧
 (¬checkF w (12 : Int) = (0 : Int) → ¬checkF w (12 : Int) = (0 : Int) ∧ (false, checkF w (12 : Int)) = distinctF w) ∧
 (¬¬checkF w (12 : Int) = (0 : Int) →
 ¬¬checkF w (12 : Int) = (0 : Int) ∧ (w.length ≤ (13 : Nat) ∧ ∀ (v : Int), v ∈ w → (-1000000 : Int) ≤ v ∧ v ≤ (1000000 : Int)) ∧ (distF w, (0 : Int)) = distinctF w)) := by
 kernel_rfl

theorem g23_eq (M : MM) (w : List Int) (s : Int) : g23 M w s = (
 (w.length ≤ (1000 : Nat) ∧ (12 : Int) ≤ (1000 : Int)) ∧
 (¬totalF w (12 : Int) s = (0 : Int) → ¬totalF w (12 : Int) s = (0 : Int) ∧ true = true ∧ ((0 : Int), totalF w (12 : Int) s) = waysF w s) ∧
 (¬¬totalF w (12 : Int) s = (0 : Int) →
 ¬¬totalF w (12 : Int) s = (0 : Int) ∧
 True ∧
 (some (Ent.blk (22 : Nat) [SC.ro (Ty.int IntKind.i64) w]) = some (Ent.blk (22 : Nat) [SC.ro (Ty.int IntKind.i64) w]) ∧ True) ∧
 ((s = s ∧ True) ∧ ((0 : Int) = countF s (nilT (List Int × Int)) ∧ True) ∧ (w = w ∧ True) ∧ True) ∧
 (∀ (pre : List (List Int × Int)) (x : List Int × Int) (r : List (List Int × Int)),
 subsF w = pre ++ x :: r →
 true = true ∧
 (x.snd = s →
 x.snd = s ∧
 Fits IntKind.i64 (countF s pre + (1 : Int)) ∧
 (true = true ∧ true = true) ∧ (s = s ∧ True) ∧ (countF s pre + (1 : Int) = countF s (pre ++ [x]) ∧ True) ∧ True ∧ True) ∧
 (¬x.snd = s → ¬x.snd = s ∧ (true = true ∧ true = true) ∧ (s = s ∧ True) ∧ (countF s pre = countF s (pre ++ [x]) ∧ True) ∧ True ∧ True)) ∧
 (∀ (E : Ext true tSub),
 E.go = goT →
 (∀ (pre : List (List Int × Int)) (x : List Int × Int) (r : List (List Int × Int)), subsF w = pre ++ x :: r → E.may pre x) →
 M true tSub E →
 True ∧
 ((w = w ∧ True) ∧ Ent.ext true tSub E true (nilT (List Int × Int)) = Ent.ext true tSub E true (nilT (List Int × Int)) ∧ True) ∧
 (E.yv = E.yv ∧ True ∧ True) ∧
 P67 M (X66.mk E [] w).to ∧
 (3 : Nat) = (3 : Nat) ∧
 some (Ent.ext true tSub E (feed E.go (nilT (List Int × Int)) (subsF w)).fst (feed E.go (nilT (List Int × Int)) (subsF w)).snd) =
 some (Ent.ext true tSub E (feed goT (nilT (List Int × Int)) (subsF w)).fst (feed goT (nilT (List Int × Int)) (subsF w)).snd) ∧
 some (Ent.blk (22 : TypeId) [SC.ro (Ty.int IntKind.i64) w]) = some (Ent.blk (22 : Nat) [SC.ro (Ty.int IntKind.i64) w]) ∧ True) ∧
 ((feed goT (nilT (List Int × Int)) (subsF w)).fst = true → true = true ∧ (countF s (feed goT (nilT (List Int × Int)) (subsF w)).snd, (0 : Int)) = waysF w s) ∧
 ((feed goT (nilT (List Int × Int)) (subsF w)).fst = false → true = true ∧ ((0 : Int), (0 : Int)) = waysF w s))) := by
 kernel_rfl

theorem g22_eq (M : MM) (w : List Int) (s : Int) : g22 M w s = (
 (w.length ≤ (1000 : Nat) ∧ (12 : Int) ≤ (1000 : Int)) ∧
 (¬totalF w (12 : Int) s = (0 : Int) → ¬totalF w (12 : Int) s = (0 : Int) ∧ (nilT Int, totalF w (12 : Int) s) = subsetF w s) ∧
 (¬¬totalF w (12 : Int) s = (0 : Int) →
 ¬¬totalF w (12 : Int) s = (0 : Int) ∧
 True ∧
 (some (Ent.blk (22 : Nat) [SC.ro (Ty.int IntKind.i64) w]) = some (Ent.blk (22 : Nat) [SC.ro (Ty.int IntKind.i64) w]) ∧ True) ∧
 ((s = s ∧ True) ∧
 (w = w ∧ True) ∧
 (True ∧ True) ∧ (Value.slice none (0 : Nat) (0 : Nat) = Value.slice none (0 : Nat) (0 : Nat) ∧ (0 : Int) = (0 : Int) ∧ True) ∧ (True ∧ True) ∧ True) ∧
 (∀ (pre : List (List Int × Int)) (x : List Int × Int) (r : List (List Int × Int)),
 subsF w = pre ++ x :: r →
 true = true ∧
 (x.snd = s →
 x.snd = s ∧
 (Ex.ret = Ex.ret ∧ goN (hasSum s) pre x = false ∧ true = true) ∧
 (s = s ∧ True) ∧ True ∧ (True ∧ True) ∧ (x.fst = (lastS (pre ++ [x])).fst ∧ x.snd = (lastS (pre ++ [x])).snd ∧ True) ∧ (True ∧ True) ∧ True) ∧
 (¬x.snd = s →
 ¬x.snd = s ∧
 (goN (hasSum s) pre x = true ∧ true = true) ∧
 (s = s ∧ True) ∧
 True ∧
 (True ∧ True) ∧
 (Value.slice none (0 : Nat) (0 : Nat) = Value.slice none (0 : Nat) (0 : Nat) ∧ (0 : Int) = (0 : Int) ∧ True) ∧ (True ∧ True) ∧ True)) ∧
 (∀ (E : Ext true tSub),
 E.go = goN (hasSum s) →
 (∀ (pre : List (List Int × Int)) (x : List Int × Int) (r : List (List Int × Int)), subsF w = pre ++ x :: r → E.may pre x) →
 M true tSub E →
 True ∧
 ((w = w ∧ True) ∧ Ent.ext true tSub E true (nilT (List Int × Int)) = Ent.ext true tSub E true (nilT (List Int × Int)) ∧ True) ∧
 (E.yv = E.yv ∧ True ∧ True) ∧
 P67 M (X66.mk E [] w).to ∧
 (5 : Nat) = (5 : Nat) ∧
 some (Ent.ext true tSub E (feed E.go (nilT (List Int × Int)) (subsF w)).fst (feed E.go (nilT (List Int × Int)) (subsF w)).snd) =
 some
 (Ent.ext true tSub E (feed (goN (hasSum s)) (nilT (List Int × Int)) (subsF w)).fst
 (feed (goN (hasSum s)) (nilT (List Int × Int)) (subsF w)).snd) ∧
 some (Ent.blk (22 : TypeId) [SC.ro (Ty.int IntKind.i64) w]) = some (Ent.blk (22 : Nat) [SC.ro (Ty.int IntKind.i64) w]) ∧ True) ∧
 ((feed (goN (hasSum s)) (nilT (List Int × Int)) (subsF w)).fst = true → true = true ∧ (nilT Int, (5 : Int)) = subsetF w s) ∧
 ((feed (goN (hasSum s)) (nilT (List Int × Int)) (subsF w)).fst = false →
 true = true ∧ ((lastS (feed (goN (hasSum s)) (nilT (List Int × Int)) (subsF w)).snd).fst, (0 : Int)) = subsetF w s))) := by
 kernel_rfl

end Go.SX.We

/- Chapter 08: Distinct, Ways, Subset, proved. -/
namespace Go.SX.We
open Go Go.Proofs

theorem yes {p A B : Prop} (h : p) (a : A) : (p → A) ∧ (¬ p → B) := ⟨fun _ => a, fun n => absurd h n⟩
theorem no {p A B : Prop} (h : ¬ p) (a : B) : (p → A) ∧ (¬ p → B) := ⟨fun n => absurd n h, fun _ => a⟩
theorem fi {n : Int} (h1 : -1000000000000000 ≤ n) (h2 : n ≤ 1000000000000000) : Fits .i64 n := fits_i64 (by omega) (by omega)
theorem cx0' {an : List (Nat × (St → Ann))} : CtxOK Try.prog (cx [] an) := cx_ok (cs := []) trivial an

theorem ok40 : p40.OK Try.prog := p40.ok (fn := Try.f40) C40 (fun _ => cx0') (by kernel_rfl) (by kernel_rfl) (by kernel_rfl) fun p hp => by
  obtain ⟨w, m⟩ := p
  obtain ⟨hl, hm⟩ := hp
  have hl : w.length ≤ 1000 := hl
  refine (g40_eq w m).mpr ?_
  simp only [pp1, eq_self, and_true, true_and, and_self]
  have e0 : (0 : Int).toNat = 0 := rfl
  have e1 : ((w.length : Int) - 1).toNat = w.length - 1 := by omega
  rw [e0, e1]
  refine ⟨fun h => ?_, fun h => ⟨fun h2 => ?_, fun h2 => ⟨by omega, fun h3 => ?_, fun h3 => ⟨fi (by omega) (by omega), by omega, fun h4 => ?_, fun h4 => ⟨⟨1, ⟨by omega, by omega, by simp⟩, rfl⟩, fun x hx => ⟨fun h5 => ?_, fun h5 => ?_⟩⟩⟩⟩⟩⟩
  · simp [checkF, h]
  · have h2' : w.length = 0 := by omega
    unfold checkF
    rw [decide_eq_false h, decide_eq_true h2']; rfl
  · have h3' : (decide (w.getD 0 0 < 1)) = true := by simpa using h3
    unfold checkF
    rw [h3', decide_eq_false h]; simp
  · have h4' : (decide (100000 < w.getD (w.length - 1) 0)) = true := by simpa using h4
    unfold checkF
    rw [h4', decide_eq_false h]; simp
  · obtain ⟨hx1, hx2, hx3⟩ := hx
    have a1 : (x : Int).toNat = x := by omega
    have a2 : ((x : Int) - 1).toNat = x - 1 := by omega
    rw [a1, a2]
    have hd : w.drop (x - 1) = w.getD (x - 1) 0 :: w.getD x 0 :: w.drop (x + 1) := by
      have b1 : x - 1 < w.length := by omega
      have b2 : x < w.length := by omega
      rw [List.drop_eq_getElem_cons b1, show x - 1 + 1 = x by omega, List.drop_eq_getElem_cons b2]
      simp [List.getD, List.getElem?_eq_getElem b1, List.getElem?_eq_getElem b2]
    refine ⟨⟨by omega, by omega⟩, fi (by omega) (by omega), by omega, fun h6 => ?_, fun h6 => ⟨fi (by omega) (by omega), x + 1, ⟨by omega, by omega, ?_⟩, by omega, by omega⟩⟩
    · have : upF w = false := by
        rw [← hx3, hd]
        simp only [upF, Bool.and_eq_false_iff, decide_eq_false_iff_not]
        exact .inl (by omega)
      unfold checkF
      rw [this, decide_eq_false h]
      cases (decide (w.length = 0) || decide (w.getD 0 0 < 1) || decide (100000 < w.getD (w.length - 1) 0)) <;> rfl
    · have e3 : x + 1 - 1 = x := by omega
      rw [e3, ← hx3, hd]
      have b2 : x < w.length := by omega
      have e4 : w.drop x = w.getD x 0 :: w.drop (x + 1) := by
        rw [List.drop_eq_getElem_cons b2]; simp [List.getD, List.getElem?_eq_getElem b2]
      rw [e4]
      simp only [upF]
      rw [decide_eq_true (by omega), Bool.true_and]
  · obtain ⟨hx1, hx2, hx3⟩ := hx
    have ex : x = w.length := by omega
    subst ex
    have b1 : w.length - 1 < w.length := by omega
    have hu : upF w = true := by
      rw [← hx3, List.drop_eq_getElem_cons b1, show w.length - 1 + 1 = w.length by omega, List.drop_length]; rfl
    have h2' : decide (w.length = 0) = false := decide_eq_false (by omega)
    have h3' : (decide (w.getD 0 0 < 1)) = false := by simpa using h3
    have h4' : (decide (100000 < w.getD (w.length - 1) 0)) = false := by simpa using h4
    unfold checkF
    rw [h2', h3', h4', decide_eq_false h, hu]; rfl

theorem ok55 : p55.OK Try.prog := p55.ok (fn := Try.f55) (fun _ => cx [p40.ci] []) (fun _ => cx_ok (cs := [p40.ci]) ⟨PC.OK.ci ok40, trivial⟩ _) (by kernel_rfl) (by kernel_rfl) (by kernel_rfl) fun p hp => by
  obtain ⟨w, m, s⟩ := p
  have hl : w.length ≤ 1000 := hp.1
  have hm : m ≤ 1000 := hp.2
  refine (g55_eq w m s).mpr ?_
  simp only [pp1, eq_self, and_true, true_and, and_self]
  refine ⟨fun h => ⟨fun h2 => ?_, fun h2 => ⟨⟨hl, hm⟩, ?_⟩⟩, fun h => ⟨⟨hl, hm⟩, ?_⟩⟩
  · simp [totalF, h, h2]
  · simp [totalF, h2]
  · simp [totalF, h]

theorem ok16 : p16.OK Try.prog := p16.ok (fn := Try.f16) (fun _ => cx [p40.ci, p41.ci] []) (fun _ => cx_ok (cs := [p40.ci, p41.ci]) ⟨PC.OK.ci ok40, PC.OK.ci c41_ok, trivial⟩ _) (by kernel_rfl) (by kernel_rfl) (by kernel_rfl) fun w hw => by
  refine (g16_eq w).mpr ?_
  have hw : w.length ≤ 1000 := hw
  simp only [pp1, eq_self, and_true, true_and, and_self]
  refine ⟨⟨hw, by decide⟩, fun h => ?_, fun h => ?_⟩
  · simp [distinctF, h]
  · have h : checkF w 12 = 0 := Classical.not_not.1 h
    have k := check_ok.1 h
    exact ⟨⟨by have := k.len; omega, k.small⟩, by simp [distinctF, h]⟩

theorem countF_snoc (s : Int) (l : List (List Int × Int)) (x : List Int × Int) : countF s (l ++ [x]) = countF s l + (if x.2 = s then 1 else 0) := by
  unfold countF hasSum
  by_cases h : x.2 = s
  · simp [h]
  · simp [h]
theorem countF_le (s : Int) (l : List (List Int × Int)) : 0 ≤ countF s l ∧ countF s l ≤ l.length := by
  unfold countF
  have := List.length_filter_le (hasSum s) l
  omega
theorem ok23 : p23.OK Try.prog := p23.ok (fn := Try.f23) (fun p => cr (callM Try.prog) [p55.ci, i42, (c66 (callM Try.prog)).ci pick66] [] [(0, fun _ => R23 p.1 p.2)]) (fun _ => cr_ok (cs := [p55.ci, i42, (c66 (callM Try.prog)).ci pick66]) ⟨PC.OK.ci ok55, i42_ok, i66_ok, trivial⟩ _ _) (by kernel_rfl) (by kernel_rfl) (by kernel_rfl) fun p hp => by
  obtain ⟨w, s⟩ := p
  have hl : w.length ≤ 1000 := hp
  refine (g23_eq _ w s).mpr ?_
  simp only [pp1, eq_self, and_true, true_and, and_self, feed_goT, List.nil_append]
  refine ⟨⟨hl, by decide⟩, fun h => by simp [waysF, h], fun h => ?_⟩
  have h : totalF w 12 s = 0 := Classical.not_not.1 h
  have k := (total_ok.1 h).1
  have hs := subsF_short (w := w) (by have := k.len; omega)
  refine ⟨rfl, fun pre x r hr => ?_, fun E hg he hM => ⟨P66_mk hM he (by have := k.len; omega) k.small, by rw [hg, feed_goT]; rfl⟩, fun _ => by simp [waysF, h], fun h => by cases h⟩
  have h1 : pre.length < (subsF w).length := by rw [hr]; simp
  have h2 := countF_le s pre
  rw [countF_snoc]
  exact ⟨fun hx => ⟨fi (by omega) (by omega), by rw [if_pos hx]⟩, fun hx => by rw [if_neg hx]; simp⟩

theorem i56_ok : i56.OK Try.prog := inl_ok cx0' (by kernel_rfl) (by kernel_rfl) (by kernel_rfl)
theorem ok22 : p22.OK Try.prog := p22.ok (fn := Try.f22) (fun p => cx [p55.ci, i42, inl 48 Try.f48 (C48 (callM Try.prog) p.1 p.2)] []) (fun p => cx_ok (cs := [p55.ci, i42, inl 48 Try.f48 (C48 (callM Try.prog) p.1 p.2)]) ⟨PC.OK.ci ok55, i42_ok, inl_ok (cr_ok (cs := [i56, (c66 (callM Try.prog)).ci pick66]) ⟨i56_ok, i66_ok, trivial⟩ _ _) (by kernel_rfl) (by kernel_rfl) (by kernel_rfl), trivial⟩ _) (by kernel_rfl) (by kernel_rfl) (by kernel_rfl) fun p hp => by
  obtain ⟨w, s⟩ := p
  have hl : w.length ≤ 1000 := hp
  refine (g22_eq _ w s).mpr ?_
  simp only [pp1, eq_self, and_true, true_and, and_self]
  refine ⟨⟨hl, by decide⟩, fun h => by simp [subsetF, h], fun h => ?_⟩
  have h : totalF w 12 s = 0 := Classical.not_not.1 h
  have k := (total_ok.1 h).1
  refine ⟨fun pre x r hr => ⟨fun hx => ?_, fun hx => ?_⟩, fun E hg he hM => ⟨P66_mk hM he (by have := k.len; omega) k.small, by rw [hg]⟩, fun hf => ?_, fun hf => ?_⟩
  · simp [goN, hasSum, hx, lastS_snoc]
  · simp [goN, hasSum, hx]
  · cases hfi : (subsF w).find? (hasSum s) with
    | none => simp [subsetF, h, hfi]
    | some y =>
      obtain ⟨q, h1, _⟩ := feed_some _ hfi []
      rw [h1] at hf; cases hf
  · cases hfi : (subsF w).find? (hasSum s) with
    | none => rw [feed_none _ hfi] at hf; cases hf
    | some y =>
      obtain ⟨q, h1, _⟩ := feed_some _ hfi []
      rw [h1]
      simp only [lastS_snoc]
      simp [subsetF, h, hfi]
end Go.SX.We

/- Chapter 08: Conway and Guy's sequence in plain words. -/
namespace Go.SX.We

/-- The first number from r on that is not below half of the root of 8k, minus a half. -/
def rS : Nat → Nat → Nat → Nat
  | 0, r, _ => r
  | f + 1, r, k => bif decide ((2 * r + 1) * (2 * r + 1) < 8 * k) then rS f (r + 1) k else r
def rF (k : Nat) : Nat := rS 40 0 k
def uL : Nat → List Int
  | 0 => [0, 1]
  | m + 1 => uL m ++ [2 * (uL m).getD (m + 1) 0 - (uL m).getD (m + 1 - rF (m + 1)) 0]
def guyF (n : Nat) : Int := (uL (n - 1)).getD n 0
def setF (n : Nat) : List Int := (List.range n).map fun j => guyF n - guyF (n - 1 - j)
def GuyF (n : Int) : Int × Int := bif decide (n < 0) || decide (60 < n) then (0, 1) else (guyF n.toNat, 0)
def SetF (n : Int) : List Int × Int := bif decide (n < 1) || decide (12 < n) then ([], 1) else (setF n.toNat, 0)

theorem setF_length (n : Nat) : (setF n).length = n := by simp [setF]
theorem uL_length : ∀ m, (uL m).length = m + 2
  | 0 => rfl
  | m + 1 => by simp [uL, uL_length m]
theorem uL_more (m i : Nat) (hi : i < m + 2) : ∀ d, (uL (m + d)).getD i 0 = (uL m).getD i 0
  | 0 => rfl
  | d + 1 => by
    rw [← uL_more m i hi d, ← Nat.add_assoc, uL]
    have : i < (uL (m + d)).length := by rw [uL_length]; omega
    simp [List.getD, List.getElem?_append_left this]
theorem uL_get {m i : Nat} (hi : i < m + 2) : (uL m).getD i 0 = guyF i := by
  unfold guyF
  rcases Nat.le_total (i - 1) m with h | h
  · have := uL_more (i - 1) i (by omega) (m - (i - 1))
    rwa [show i - 1 + (m - (i - 1)) = m by omega] at this
  · have e : i - 1 = m ∨ i - 1 = m + 0 := by omega
    have : i - 1 = m := by omega
    rw [this]
theorem rF_is : ∀ k, k < 61 → rF k ≤ k ∧ rF k ≤ 12 ∧ (∀ r, r < rF k → (2 * r + 1) * (2 * r + 1) < 8 * k) ∧ ¬ (2 * rF k + 1) * (2 * rF k + 1) < 8 * k := by decide +kernel
theorem guy_step {m : Nat} : guyF (m + 2) = 2 * guyF (m + 1) - guyF (m + 1 - rF (m + 1)) := by
  have e : guyF (m + 2) = (uL (m + 1)).getD (m + 2) 0 := rfl
  rw [e, uL]
  have : (uL m).length = m + 2 := uL_length m
  rw [← uL_get (m := m) (i := m + 1) (by omega), ← uL_get (m := m) (i := m + 1 - rF (m + 1)) (by omega)]
  simp [List.getD, this]
/-- All terms at once. -/
def guys : List Int := uL 59
theorem guys_small : ∀ x ∈ uL 59, 0 ≤ x ∧ x ≤ 1152921504606846976 := by decide +kernel
theorem guy_small {n : Nat} (h : n ≤ 60) : 0 ≤ guyF n ∧ guyF n ≤ 1152921504606846976 := by
  rw [← uL_get (m := 59) (i := n) (by omega)]
  exact guys_small _ (getD_mem _ 0 (by rw [uL_length]; omega))
end Go.SX.We

/- Chapter 08: Guy, Set, and the reference's, what is asked of each. -/
namespace Go.SX.We
open Go Go.Proofs

noncomputable section
@[reducible] def p61 : PC := ⟨61, [aI], [aI], fun n => 0 ≤ n ∧ n ≤ 60, fun n => guyF n.toNat⟩
@[reducible] def A61 (n : Nat) : Ann where
  τ := Nat
  pre := []
  preC := []
  keep := [0]
  slots x := [(3, .c (.own 0 1))]
  ents x := [(0, .row 3 (.int .i64) 0 (uL x))]
  ok x := x ≤ n - 1
  m x := n - x
@[reducible] def A61b (k : Nat) : Ann := upTo (rF k) 5 [0, 3, 4] fun _ => True
@[reducible] def C61 (n : Int) : Ctx := cx [] [(0, fun _ => A61 n.toNat), (1, withI 4 fun k => A61b k.toNat)]
def g61 (n : Int) : Prop := p61.VC (C61 n) Try.f61 n
@[reducible] def p27 : PC := ⟨27, [aI], [aI, aI], fun _ => True, GuyF⟩
def g27 (n : Int) : Prop := p27.VC (cx [p61.ci] []) Try.f27 n
@[reducible] def p28 : PC := ⟨28, [aI], [aIs, aI], fun _ => True, SetF⟩
@[reducible] def A28 (n : Nat) : Ann where
  τ := Nat
  pre := [(4, 3, .int .i64)]
  preC := []
  keep := [0]
  slots x := [(4, .c (.own 0 1)), (5, .c (.int .i64 ((n : Int) - 1 - x)))]
  ents x := [(0, .row 3 (.int .i64) 0 ((List.range x).map fun j => guyF n - guyF (n - 1 - j)))]
  ok x := x ≤ n
  m x := n - x
@[reducible] def C28 (n : Int) : Ctx := cx [p61.ci] [(0, fun _ => A28 n.toNat)]
def g28 (n : Int) : Prop := p28.VC (C28 n) Try.f28 n
@[reducible] def p30 : PC := ⟨30, [aI], [aIs], fun n => n ≤ 60, fun n => uL (n.toNat - 1)⟩
@[reducible] def A30 (n : Nat) : Ann where
  τ := Nat
  pre := []
  preC := []
  keep := [0]
  slots x := [(3, .c (.own 0 1)), (4, .c (.int .i64 ((x : Int) + 1)))]
  ents x := [(0, .row 3 (.int .i64) 0 (uL x))]
  ok x := x ≤ n - 1
  m x := n - x
@[reducible] def C30 (n : Int) : Ctx := cx [] [(0, fun _ => A30 n.toNat), (1, withI 4 fun k => A61b k.toNat)]
def g30 (n : Int) : Prop := p30.VC (C30 n) Try.f30 n
@[reducible] def p31 : PC := ⟨31, [aI], [aIs], fun n => 1 ≤ n ∧ n ≤ 12, fun n => setF n.toNat⟩
@[reducible] def A31 (n : Nat) : Ann where
  τ := Nat
  pre := []
  preC := []
  keep := [0, 3]
  slots x := [(4, .c (.own 0 1)), (5, .c (.int .i64 ((n : Int) - 1 - x)))]
  ents x := [(0, .row 3 (.int .i64) 0 ((List.range x).map fun j => guyF n - guyF (n - 1 - j)))]
  ok x := x ≤ n
  m x := n - x
@[reducible] def C31 (n : Int) : Ctx := cx [p30.ci] [(0, fun _ => A31 n.toNat)]
def g31 (n : Int) : Prop := p31.VC (C31 n) Try.f31 n
end
end Go.SX.We

/- Printed by VC.lean: what the executor asks. -/
namespace Go.SX.We
open Go Go.Proofs
theorem g61_eq (n : Int) : g61 n = (
 (∃ (x0 : Nat), x0 ≤ n.toNat - (1 : Nat) ∧ ([(0 : Int), (1 : Int)] = uL x0 ∧ True) ∧ True ∧ n = n ∧ True) ∧
 ∀ (x : Nat),
 x ≤ n.toNat - (1 : Nat) →
 ((↑(uL x).length : Int) ≤ n →
 (↑(uL x).length : Int) ≤ n ∧
 Fits IntKind.i64 ((↑(uL x).length : Int) - (1 : Int)) ∧
 (∃ (x0 : Nat),
 (x0 ≤ rF ((↑(uL x).length : Int) - (1 : Int)).toNat ∧ True) ∧
 (uL x = uL x ∧ True) ∧ (0 : Int) = (↑x0 : Int) ∧ (↑(uL x).length : Int) - (1 : Int) = (↑(uL x).length : Int) - (1 : Int) ∧ True ∧ n = n ∧ True) ∧
 ∀ (x_1 : Nat),
 x_1 ≤ rF ((↑(uL x).length : Int) - (1 : Int)).toNat ∧ True →
 Fits IntKind.i64 ((2 : Int) * (↑x_1 : Int)) ∧
 Fits IntKind.i64 ((2 : Int) * (↑x_1 : Int) + (1 : Int)) ∧
 Fits IntKind.i64 ((2 : Int) * (↑x_1 : Int)) ∧
 Fits IntKind.i64 ((2 : Int) * (↑x_1 : Int) + (1 : Int)) ∧
 Fits IntKind.i64 (((2 : Int) * (↑x_1 : Int) + (1 : Int)) * ((2 : Int) * (↑x_1 : Int) + (1 : Int))) ∧
 Fits IntKind.i64 ((8 : Int) * ((↑(uL x).length : Int) - (1 : Int))) ∧
 (((2 : Int) * (↑x_1 : Int) + (1 : Int)) * ((2 : Int) * (↑x_1 : Int) + (1 : Int)) < (8 : Int) * ((↑(uL x).length : Int) - (1 : Int)) →
 ((2 : Int) * (↑x_1 : Int) + (1 : Int)) * ((2 : Int) * (↑x_1 : Int) + (1 : Int)) < (8 : Int) * ((↑(uL x).length : Int) - (1 : Int)) ∧
 Fits IntKind.i64 ((↑x_1 : Int) + (1 : Int)) ∧
 ∃ (x' : Nat),
 (x' ≤ rF ((↑(uL x).length : Int) - (1 : Int)).toNat ∧ True) ∧
 rF ((↑(uL x).length : Int) - (1 : Int)).toNat - x' < rF ((↑(uL x).length : Int) - (1 : Int)).toNat - x_1 ∧
 (uL x = uL x ∧ True) ∧
 (↑x_1 : Int) + (1 : Int) = (↑x' : Int) ∧
 (↑(uL x).length : Int) - (1 : Int) = (↑(uL x).length : Int) - (1 : Int) ∧ True ∧ n = n ∧ True) ∧
 (¬((2 : Int) * (↑x_1 : Int) + (1 : Int)) * ((2 : Int) * (↑x_1 : Int) + (1 : Int)) < (8 : Int) * ((↑(uL x).length : Int) - (1 : Int)) →
 ¬((2 : Int) * (↑x_1 : Int) + (1 : Int)) * ((2 : Int) * (↑x_1 : Int) + (1 : Int)) < (8 : Int) * ((↑(uL x).length : Int) - (1 : Int)) ∧
 ((0 : Int) ≤ (↑(uL x).length : Int) - (1 : Int) ∧ (↑(uL x).length : Int) - (1 : Int) < (↑(uL x).length : Int)) ∧
 Fits IntKind.i64 ((2 : Int) * (uL x).getD ((↑(uL x).length : Int) - (1 : Int)).toNat (0 : Int)) ∧
 Fits IntKind.i64 ((↑(uL x).length : Int) - (1 : Int) - (↑x_1 : Int)) ∧
 ((0 : Int) ≤ (↑(uL x).length : Int) - (1 : Int) - (↑x_1 : Int) ∧
 (↑(uL x).length : Int) - (1 : Int) - (↑x_1 : Int) < (↑(uL x).length : Int)) ∧
 Fits IntKind.i64
 ((2 : Int) * (uL x).getD ((↑(uL x).length : Int) - (1 : Int)).toNat (0 : Int) -
 (uL x).getD ((↑(uL x).length : Int) - (1 : Int) - (↑x_1 : Int)).toNat (0 : Int)) ∧
 Small ((uL x).length + ((0 : Nat) + (1 : Nat))) ∧
 ∃ (x' : Nat),
 x' ≤ n.toNat - (1 : Nat) ∧
 n.toNat - x' < n.toNat - x ∧
 (uL x ++
 [(2 : Int) * (uL x).getD ((↑(uL x).length : Int) - (1 : Int)).toNat (0 : Int) -
 (uL x).getD ((↑(uL x).length : Int) - (1 : Int) - (↑x_1 : Int)).toNat (0 : Int)] =
 uL x' ∧
 True) ∧
 True ∧ n = n ∧ True)) ∧
 (¬(↑(uL x).length : Int) ≤ n → ¬(↑(uL x).length : Int) ≤ n ∧ ((0 : Int) ≤ n ∧ n < (↑(uL x).length : Int)) ∧ (uL x).getD n.toNat (0 : Int) = guyF n.toNat)) := by
 kernel_rfl

theorem g27_eq (n : Int) : g27 n = (
 (n < (0 : Int) → n < (0 : Int) ∧ n < (0 : Int) ∧ ((0 : Int), (1 : Int)) = GuyF n) ∧
 (¬n < (0 : Int) →
 ¬n < (0 : Int) ∧
 ¬n < (0 : Int) ∧
 ((60 : Int) < n → (60 : Int) < n ∧ (60 : Int) < n ∧ ((0 : Int), (1 : Int)) = GuyF n) ∧
 (¬(60 : Int) < n → ¬(60 : Int) < n ∧ ¬(60 : Int) < n ∧ ((0 : Int) ≤ n ∧ n ≤ (60 : Int)) ∧ (guyF n.toNat, (0 : Int)) = GuyF n))) := by
 kernel_rfl

theorem g28_eq (n : Int) : g28 n = (
 (n < (1 : Int) → n < (1 : Int) ∧ n < (1 : Int) ∧ (nilT Int, (1 : Int)) = SetF n) ∧
 (¬n < (1 : Int) →
 ¬n < (1 : Int) ∧
 ¬n < (1 : Int) ∧
 ((12 : Int) < n → (12 : Int) < n ∧ (12 : Int) < n ∧ (nilT Int, (1 : Int)) = SetF n) ∧
 (¬(12 : Int) < n →
 ¬(12 : Int) < n ∧
 ¬(12 : Int) < n ∧
 Fits IntKind.i64 (n - (1 : Int)) ∧
 (∃ (x0 : Nat),
 x0 ≤ n.toNat ∧
 (nilT Int = List.map (fun (j : Nat) => guyF n.toNat - guyF (n.toNat - (1 : Nat) - j)) (List.range x0) ∧ True) ∧
 True ∧ n - (1 : Int) = (↑n.toNat : Int) - (1 : Int) - (↑x0 : Int) ∧ n = n ∧ True) ∧
 ∀ (x : Nat),
 x ≤ n.toNat →
 ((0 : Int) ≤ (↑n.toNat : Int) - (1 : Int) - (↑x : Int) →
 (0 : Int) ≤ (↑n.toNat : Int) - (1 : Int) - (↑x : Int) ∧
 ((0 : Int) ≤ n ∧ n ≤ (60 : Int)) ∧
 ((0 : Int) ≤ (↑n.toNat : Int) - (1 : Int) - (↑x : Int) ∧ (↑n.toNat : Int) - (1 : Int) - (↑x : Int) ≤ (60 : Int)) ∧
 Fits IntKind.i64 (guyF n.toNat - guyF ((↑n.toNat : Int) - (1 : Int) - (↑x : Int)).toNat) ∧
 Small ((List.map (fun (j : Nat) => guyF n.toNat - guyF (n.toNat - (1 : Nat) - j)) (List.range x)).length + ((0 : Nat) + (1 : Nat))) ∧
 Fits IntKind.i64 ((↑n.toNat : Int) - (1 : Int) - (↑x : Int) - (1 : Int)) ∧
 ∃ (x' : Nat),
 x' ≤ n.toNat ∧
 n.toNat - x' < n.toNat - x ∧
 (List.map (fun (j : Nat) => guyF n.toNat - guyF (n.toNat - (1 : Nat) - j)) (List.range x) ++
 [guyF n.toNat - guyF ((↑n.toNat : Int) - (1 : Int) - (↑x : Int)).toNat] =
 List.map (fun (j : Nat) => guyF n.toNat - guyF (n.toNat - (1 : Nat) - j)) (List.range x') ∧
 True) ∧
 True ∧ (↑n.toNat : Int) - (1 : Int) - (↑x : Int) - (1 : Int) = (↑n.toNat : Int) - (1 : Int) - (↑x' : Int) ∧ n = n ∧ True) ∧
 (¬(0 : Int) ≤ (↑n.toNat : Int) - (1 : Int) - (↑x : Int) →
 ¬(0 : Int) ≤ (↑n.toNat : Int) - (1 : Int) - (↑x : Int) ∧
 (List.map (fun (j : Nat) => guyF n.toNat - guyF (n.toNat - (1 : Nat) - j)) (List.range x), (0 : Int)) = SetF n)))) := by
 kernel_rfl

theorem g30_eq (n : Int) : g30 n = (
 (∃ (x0 : Nat), x0 ≤ n.toNat - (1 : Nat) ∧ ([(0 : Int), (1 : Int)] = uL x0 ∧ True) ∧ True ∧ (1 : Int) = (↑x0 : Int) + (1 : Int) ∧ n = n ∧ True) ∧
 ∀ (x : Nat),
 x ≤ n.toNat - (1 : Nat) →
 ((↑x : Int) + (1 : Int) < n →
 (↑x : Int) + (1 : Int) < n ∧
 (∃ (x0 : Nat),
 (x0 ≤ rF ((↑x : Int) + (1 : Int)).toNat ∧ True) ∧
 (uL x = uL x ∧ True) ∧ (0 : Int) = (↑x0 : Int) ∧ True ∧ (↑x : Int) + (1 : Int) = (↑x : Int) + (1 : Int) ∧ n = n ∧ True) ∧
 ∀ (x_1 : Nat),
 x_1 ≤ rF ((↑x : Int) + (1 : Int)).toNat ∧ True →
 Fits IntKind.i64 ((2 : Int) * (↑x_1 : Int)) ∧
 Fits IntKind.i64 ((2 : Int) * (↑x_1 : Int) + (1 : Int)) ∧
 Fits IntKind.i64 ((2 : Int) * (↑x_1 : Int)) ∧
 Fits IntKind.i64 ((2 : Int) * (↑x_1 : Int) + (1 : Int)) ∧
 Fits IntKind.i64 (((2 : Int) * (↑x_1 : Int) + (1 : Int)) * ((2 : Int) * (↑x_1 : Int) + (1 : Int))) ∧
 Fits IntKind.i64 ((8 : Int) * ((↑x : Int) + (1 : Int))) ∧
 (((2 : Int) * (↑x_1 : Int) + (1 : Int)) * ((2 : Int) * (↑x_1 : Int) + (1 : Int)) ≤ (8 : Int) * ((↑x : Int) + (1 : Int)) →
 ((2 : Int) * (↑x_1 : Int) + (1 : Int)) * ((2 : Int) * (↑x_1 : Int) + (1 : Int)) ≤ (8 : Int) * ((↑x : Int) + (1 : Int)) ∧
 Fits IntKind.i64 ((↑x_1 : Int) + (1 : Int)) ∧
 ∃ (x' : Nat),
 (x' ≤ rF ((↑x : Int) + (1 : Int)).toNat ∧ True) ∧
 rF ((↑x : Int) + (1 : Int)).toNat - x' < rF ((↑x : Int) + (1 : Int)).toNat - x_1 ∧
 (uL x = uL x ∧ True) ∧ (↑x_1 : Int) + (1 : Int) = (↑x' : Int) ∧ True ∧ (↑x : Int) + (1 : Int) = (↑x : Int) + (1 : Int) ∧ n = n ∧ True) ∧
 (¬((2 : Int) * (↑x_1 : Int) + (1 : Int)) * ((2 : Int) * (↑x_1 : Int) + (1 : Int)) ≤ (8 : Int) * ((↑x : Int) + (1 : Int)) →
 ¬((2 : Int) * (↑x_1 : Int) + (1 : Int)) * ((2 : Int) * (↑x_1 : Int) + (1 : Int)) ≤ (8 : Int) * ((↑x : Int) + (1 : Int)) ∧
 ((0 : Int) ≤ (↑x : Int) + (1 : Int) ∧ (↑x : Int) + (1 : Int) < (↑(uL x).length : Int)) ∧
 Fits IntKind.i64 ((2 : Int) * (uL x).getD ((↑x : Int) + (1 : Int)).toNat (0 : Int)) ∧
 Fits IntKind.i64 ((↑x : Int) + (1 : Int) - (↑x_1 : Int)) ∧
 ((0 : Int) ≤ (↑x : Int) + (1 : Int) - (↑x_1 : Int) ∧ (↑x : Int) + (1 : Int) - (↑x_1 : Int) < (↑(uL x).length : Int)) ∧
 Fits IntKind.i64
 ((2 : Int) * (uL x).getD ((↑x : Int) + (1 : Int)).toNat (0 : Int) -
 (uL x).getD ((↑x : Int) + (1 : Int) - (↑x_1 : Int)).toNat (0 : Int)) ∧
 Small ((uL x).length + ((0 : Nat) + (1 : Nat))) ∧
 Fits IntKind.i64 ((↑x : Int) + (1 : Int) + (1 : Int)) ∧
 ∃ (x' : Nat),
 x' ≤ n.toNat - (1 : Nat) ∧
 n.toNat - x' < n.toNat - x ∧
 (uL x ++
 [(2 : Int) * (uL x).getD ((↑x : Int) + (1 : Int)).toNat (0 : Int) -
 (uL x).getD ((↑x : Int) + (1 : Int) - (↑x_1 : Int)).toNat (0 : Int)] =
 uL x' ∧
 True) ∧
 True ∧ (↑x : Int) + (1 : Int) + (1 : Int) = (↑x' : Int) + (1 : Int) ∧ n = n ∧ True)) ∧
 (¬(↑x : Int) + (1 : Int) < n → ¬(↑x : Int) + (1 : Int) < n ∧ uL x = uL (n.toNat - (1 : Nat)))) := by
 kernel_rfl

theorem g31_eq (n : Int) : g31 n = (
 n ≤ (60 : Int) ∧
 Fits IntKind.i64 (n - (1 : Int)) ∧
 (∃ (x0 : Nat),
 x0 ≤ n.toNat ∧
 (nilT Int = List.map (fun (j : Nat) => guyF n.toNat - guyF (n.toNat - (1 : Nat) - j)) (List.range x0) ∧ True) ∧
 True ∧ n - (1 : Int) = (↑n.toNat : Int) - (1 : Int) - (↑x0 : Int) ∧ uL (n.toNat - (1 : Nat)) = uL (n.toNat - (1 : Nat)) ∧ n = n ∧ True) ∧
 ∀ (x : Nat),
 x ≤ n.toNat →
 ((0 : Int) ≤ (↑n.toNat : Int) - (1 : Int) - (↑x : Int) →
 (0 : Int) ≤ (↑n.toNat : Int) - (1 : Int) - (↑x : Int) ∧
 ((0 : Int) ≤ n ∧ n < (↑(uL (n.toNat - (1 : Nat))).length : Int)) ∧
 ((0 : Int) ≤ (↑n.toNat : Int) - (1 : Int) - (↑x : Int) ∧ (↑n.toNat : Int) - (1 : Int) - (↑x : Int) < (↑(uL (n.toNat - (1 : Nat))).length : Int)) ∧
 Fits IntKind.i64
 ((uL (n.toNat - (1 : Nat))).getD n.toNat (0 : Int) - (uL (n.toNat - (1 : Nat))).getD ((↑n.toNat : Int) - (1 : Int) - (↑x : Int)).toNat (0 : Int)) ∧
 Small ((List.map (fun (j : Nat) => guyF n.toNat - guyF (n.toNat - (1 : Nat) - j)) (List.range x)).length + ((0 : Nat) + (1 : Nat))) ∧
 Fits IntKind.i64 ((↑n.toNat : Int) - (1 : Int) - (↑x : Int) - (1 : Int)) ∧
 ∃ (x' : Nat),
 x' ≤ n.toNat ∧
 n.toNat - x' < n.toNat - x ∧
 (List.map (fun (j : Nat) => guyF n.toNat - guyF (n.toNat - (1 : Nat) - j)) (List.range x) ++
 [(uL (n.toNat - (1 : Nat))).getD n.toNat (0 : Int) -
 (uL (n.toNat - (1 : Nat))).getD ((↑n.toNat : Int) - (1 : Int) - (↑x : Int)).toNat (0 : Int)] =
 List.map (fun (j : Nat) => guyF n.toNat - guyF (n.toNat - (1 : Nat) - j)) (List.range x') ∧
 True) ∧
 True ∧
 (↑n.toNat : Int) - (1 : Int) - (↑x : Int) - (1 : Int) = (↑n.toNat : Int) - (1 : Int) - (↑x' : Int) ∧
 uL (n.toNat - (1 : Nat)) = uL (n.toNat - (1 : Nat)) ∧ n = n ∧ True) ∧
 (¬(0 : Int) ≤ (↑n.toNat : Int) - (1 : Int) - (↑x : Int) →
 ¬(0 : Int) ≤ (↑n.toNat : Int) - (1 : Int) - (↑x : Int) ∧ List.map (fun (j : Nat) => guyF n.toNat - guyF (n.toNat - (1 : Nat) - j)) (List.range x) = setF n.toNat)) := by
 kernel_rfl

end Go.SX.We

/- Chapter 08: Guy, Set, and the reference's, proved. -/
namespace Go.SX.We
open Go Go.Proofs

theorem sq_iff (r k : Nat) : ((2 * (r : Int) + 1) * (2 * (r : Int) + 1) < 8 * (k : Int)) ↔ (2 * r + 1) * (2 * r + 1) < 8 * k := by
  constructor <;> intro h <;> exact_mod_cast h
theorem sq_ne (r k : Nat) : (2 * r + 1) * (2 * r + 1) ≠ 8 * k := by
  intro h
  have e : (2 * r + 1) * (2 * r + 1) = 2 * (2 * r * r + 2 * r) + 1 := by
    simp only [Nat.add_mul, Nat.mul_add, Nat.mul_one, Nat.one_mul, Nat.mul_assoc, Nat.mul_left_comm, Nat.mul_comm]
    omega
  omega
theorem rF_lt {r k : Nat} (hk : k < 61) (hr : r ≤ rF k) : (2 * r + 1) * (2 * r + 1) < 8 * k ↔ r < rF k := by
  obtain ⟨_, _, h1, h2⟩ := rF_is k hk
  constructor
  · intro h
    rcases Nat.lt_or_ge r (rF k) with h3 | h3
    · exact h3
    · have : r = rF k := by omega
      rw [this] at h; exact absurd h h2
  · exact h1 r
theorem sq_fits {r : Nat} (h : r ≤ 12) : Fits .i64 ((2 * (r : Int) + 1) * (2 * (r : Int) + 1)) := by
  have h1 : (2 * (r : Int) + 1) * (2 * (r : Int) + 1) ≤ 25 * 25 := Int.mul_le_mul (by omega) (by omega) (by omega) (by omega)
  have h2 : 0 ≤ (2 * (r : Int) + 1) * (2 * (r : Int) + 1) := Int.mul_nonneg (by omega) (by omega)
  exact fi (by omega) (by omega)
theorem guy_fits {a b : Nat} (ha : a ≤ 60) (hb : b ≤ 60) : Fits .i64 (2 * guyF a) ∧ Fits .i64 (2 * guyF a - guyF b) ∧ Fits .i64 (guyF a - guyF b) := by
  have h1 := guy_small ha
  have h2 := guy_small hb
  unfold Fits
  have e1 : IntKind.i64.min = -9223372036854775808 := by decide
  have e2 : IntKind.i64.max = 9223372036854775807 := by decide
  rw [e1, e2]
  omega

theorem ok61 : p61.OK Try.prog := p61.ok (fn := Try.f61) C61 (fun _ => cx0') (by kernel_rfl) (by kernel_rfl) (by kernel_rfl) fun n hn => by
  have key : ∀ n : Int, 0 ≤ n → n ≤ 60 → g61 n := fun n h0 h1 => by
    obtain ⟨N, rfl⟩ : ∃ N : Nat, n = (N : Int) := ⟨n.toNat, by omega⟩
    refine (g61_eq N).mpr ?_
    simp only [pp1, eq_self, and_true, true_and, and_self, Int.toNat_natCast, uL_length]
    refine ⟨⟨0, by omega, rfl⟩, fun x hx => ⟨fun h => ?_, fun h => ⟨by omega, ?_⟩⟩⟩
    · have ek : ((((x + 2 : Nat) : Int) - 1).toNat) = x + 1 := by omega
      have ek2 : (((x + 2 : Nat) : Int) - 1) = ((x + 1 : Nat) : Int) := by omega
      rw [ek, ek2]
      obtain ⟨q1, q2, _, _⟩ := rF_is (x + 1) (by omega)
      refine ⟨fi (by omega) (by omega), ⟨0, Nat.zero_le _, rfl⟩, fun r hr => ⟨fi (by omega) (by omega), fi (by omega) (by omega), fi (by omega) (by omega), fi (by omega) (by omega), sq_fits (by omega), fi (by omega) (by omega), fun h2 => ?_, fun h2 => ?_⟩⟩
      · have h3 := (rF_lt (by omega) hr).1 ((sq_iff r (x + 1)).1 h2)
        exact ⟨fi (by omega) (by omega), r + 1, by omega, by omega, by omega⟩
      · have h3 : r = rF (x + 1) := by
          have := mt (sq_iff r (x + 1)).2 h2
          have := mt (rF_lt (by omega) hr).2 this
          omega
        have e3 : (((x + 1 : Nat) : Int) - (r : Int)).toNat = x + 1 - r := by omega
        rw [e3]
        have e4 : (((x + 1 : Nat) : Int)).toNat = x + 1 := by omega
        have g1 := uL_get (m := x) (i := x + 1) (by omega)
        have g2 := uL_get (m := x) (i := x + 1 - r) (by omega)
        obtain ⟨f1, f2, _⟩ := guy_fits (a := x + 1) (b := x + 1 - r) (by omega) (by omega)
        rw [g1, g2]
        refine ⟨by omega, f1, fi (by omega) (by omega), by omega, f2, by unfold Small; omega, x + 1, by omega, by omega, ?_⟩
        rw [uL, ← h3, g1, g2]
    · have e : x = N - 1 := by omega
      rw [e]; rfl
  exact key n hn.1 hn.2

theorem ok27 : p27.OK Try.prog := p27.ok (fn := Try.f27) (fun _ => cx [p61.ci] []) (fun _ => cx_ok (cs := [p61.ci]) ⟨PC.OK.ci ok61, trivial⟩ _) (by kernel_rfl) (by kernel_rfl) (by kernel_rfl) fun n _ => by
  have key : ∀ n : Int, g27 n := fun n => by
    refine (g27_eq n).mpr ?_
    simp only [pp1, eq_self, and_true, true_and, and_self]
    exact ⟨fun h => by simp [GuyF, h], fun h => ⟨fun h2 => by simp [GuyF, h2], fun h2 => ⟨by omega, by simp [GuyF, h, h2]⟩⟩⟩
  exact key n

theorem ok28 : p28.OK Try.prog := p28.ok (fn := Try.f28) C28 (fun _ => cx_ok (cs := [p61.ci]) ⟨PC.OK.ci ok61, trivial⟩ _) (by kernel_rfl) (by kernel_rfl) (by kernel_rfl) fun n _ => by
  have key : ∀ n : Int, g28 n := fun n => by
    refine (g28_eq n).mpr ?_
    simp only [pp1, eq_self, and_true, true_and, and_self]
    refine ⟨fun h => by simp [SetF, h], fun h => ⟨fun h2 => by simp [SetF, h2], fun h2 => ?_⟩⟩
    obtain ⟨N, rfl⟩ : ∃ N : Nat, n = (N : Int) := ⟨n.toNat, by omega⟩
    simp only [Int.toNat_natCast]
    refine ⟨fi (by omega) (by omega), ⟨0, by omega, rfl, by omega⟩, fun x hx => ⟨fun h3 => ?_, fun h3 => ?_⟩⟩
    · have e1 : ((N : Int) - 1 - (x : Int)).toNat = N - 1 - x := by omega
      rw [e1]
      refine ⟨by omega, by omega, (guy_fits (by omega) (by omega)).2.2, by unfold Small; simp; omega, fi (by omega) (by omega), x + 1, by omega, by omega, ?_, by push_cast; omega⟩
      rw [List.range_succ, List.map_append]; rfl
    · have e1 : x = N := by omega
      subst e1
      have a1 : decide ((x : Int) < 1) = false := decide_eq_false h
      have a2 : decide ((12 : Int) < (x : Int)) = false := decide_eq_false h2
      unfold SetF
      rw [a1, a2]; rfl
  exact key n

theorem ok30 : p30.OK Try.prog := p30.ok (fn := Try.f30) C30 (fun _ => cx0') (by kernel_rfl) (by kernel_rfl) (by kernel_rfl) fun n hn => by
  have key : ∀ n : Int, n ≤ 60 → g30 n := fun n h1 => by
    refine (g30_eq n).mpr ?_
    simp only [pp1, eq_self, and_true, true_and, and_self, uL_length]
    refine ⟨⟨0, by omega, rfl, by omega⟩, fun x hx => ⟨fun h => ?_, fun h => ?_⟩⟩
    · have ek : (((x : Int) + 1).toNat) = x + 1 := by omega
      have ek2 : ((x : Int) + 1) = ((x + 1 : Nat) : Int) := by omega
      rw [ek, ek2]
      obtain ⟨q1, q2, _, _⟩ := rF_is (x + 1) (by omega)
      refine ⟨⟨0, Nat.zero_le _, rfl⟩, fun r hr => ⟨fi (by omega) (by omega), fi (by omega) (by omega), fi (by omega) (by omega), fi (by omega) (by omega), sq_fits (by omega), fi (by omega) (by omega), fun h2 => ?_, fun h2 => ?_⟩⟩
      · have h3 : (2 * r + 1) * (2 * r + 1) ≤ 8 * (x + 1) := by exact_mod_cast h2
        have h4 := (rF_lt (by omega) hr).1 (Nat.lt_of_le_of_ne h3 (sq_ne r (x + 1)))
        exact ⟨fi (by omega) (by omega), r + 1, by omega, by omega, by omega⟩
      · have h3 : r = rF (x + 1) := by
          have h4 : ¬ (2 * r + 1) * (2 * r + 1) < 8 * (x + 1) := fun h5 => h2 (by have := Nat.le_of_lt h5; exact_mod_cast this)
          have := mt (rF_lt (by omega) hr).2 h4
          omega
        have e3 : (((x + 1 : Nat) : Int) - (r : Int)).toNat = x + 1 - r := by omega
        have e4 : (((x + 1 : Nat) : Int)).toNat = x + 1 := by omega
        rw [e3]
        have g1 := uL_get (m := x) (i := x + 1) (by omega)
        have g2 := uL_get (m := x) (i := x + 1 - r) (by omega)
        obtain ⟨f1, f2, _⟩ := guy_fits (a := x + 1) (b := x + 1 - r) (by omega) (by omega)
        rw [g1, g2]
        refine ⟨by omega, f1, fi (by omega) (by omega), by omega, f2, by unfold Small; omega, fi (by omega) (by omega), x + 1, by omega, by omega, ?_, by omega⟩
        rw [uL, ← h3, g1, g2]
    · have e : x = n.toNat - 1 := by omega
      rw [e]
  exact key n hn

theorem ok31 : p31.OK Try.prog := p31.ok (fn := Try.f31) C31 (fun _ => cx_ok (cs := [p30.ci]) ⟨PC.OK.ci ok30, trivial⟩ _) (by kernel_rfl) (by kernel_rfl) (by kernel_rfl) fun n hn => by
  have key : ∀ n : Int, 1 ≤ n → n ≤ 12 → g31 n := fun n h1 h2 => by
    refine (g31_eq n).mpr ?_
    obtain ⟨N, rfl⟩ : ∃ N : Nat, n = (N : Int) := ⟨n.toNat, by omega⟩
    simp only [pp1, eq_self, and_true, true_and, and_self, Int.toNat_natCast, uL_length]
    refine ⟨by omega, fi (by omega) (by omega), ⟨0, by omega, rfl, by omega⟩, fun x hx => ⟨fun h3 => ?_, fun h3 => ?_⟩⟩
    · have e1 : ((N : Int) - 1 - (x : Int)).toNat = N - 1 - x := by omega
      have g1 := uL_get (m := N - 1) (i := N) (by omega)
      have g2 := uL_get (m := N - 1) (i := N - 1 - x) (by omega)
      rw [e1, g1, g2]
      refine ⟨by omega, by omega, (guy_fits (by omega) (by omega)).2.2, by unfold Small; simp; omega, fi (by omega) (by omega), x + 1, by omega, by omega, ?_, by push_cast; omega⟩
      rw [List.range_succ, List.map_append]; rfl
    · have e1 : x = N := by omega
      subst e1; rfl
  exact key n hn.1 hn.2
end Go.SX.We
