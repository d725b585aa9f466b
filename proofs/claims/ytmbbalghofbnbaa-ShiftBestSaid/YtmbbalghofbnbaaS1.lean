/- Chapter 03: the program's functions, what is asked of each. -/
import Derived.Test.YtmbbalghofbnbaaShP
import Derived.Test.YtmbbalghofbnbaaProg
namespace Go.SX.Sh
open Go Go.Proofs

def ti3 : TI := ⟨1, 8, [.int .i64 0], .int .i64, some (.int .i64), false⟩
def ti4 : TI := ⟨1, 1, [.bool false], .bool, some .bool, false⟩
def ti5 : TI := ⟨1, 1, [.int .u8 0], .int .u8, some (.int .u8), false⟩
def ti35 : TI := ⟨2, 16, [.int .i64 0, .int .i64 0], .struct [(0, 3), (1, 3)], some (.pair (.int .i64) (.int .i64)), true⟩
def ti22 : TI := ⟨1, 24, [.slice none 0 0], .slice 35, some (.slice (.pair (.int .i64) (.int .i64))), false⟩
def ti27 : TI := ⟨1, 24, [.slice none 0 0], .slice 3, some (.slice (.int .i64)), false⟩
abbrev tU : Ty := .pair (.int .u16) (.int .u16)
def ti64 : TI := ⟨1, 2, [.int .u16 0], .int .u16, some (.int .u16), false⟩
def ti65 : TI := ⟨2, 4, [.int .u16 0, .int .u16 0], .array 2 64, some tU, false⟩
def ti45 : TI := ⟨1, 24, [.slice none 0 0], .slice 65, some (.slice tU), false⟩
def ti54 : TI := ⟨1, 24, [.slice none 0 0], .slice 5, some (.slice (.int .u8)), false⟩
def ti80 : TI := ⟨1, 8, [.int .u64 0], .int .u64, some (.int .u64), false⟩
def ti53 : TI := ⟨1, 24, [.slice none 0 0], .slice 27, some (.slice (.slice (.int .i64))), false⟩
def tif : TI := ⟨1, 8, [.nilFunc], .other, none, false⟩
def tbl : List (TypeId × TI) := [(3, ti3), (35, ti35), (22, ti22), (27, ti27), (4, ti4), (24, ti3), (5, ti5), (59, tif), (61, tif), (62, tif), (64, ti64), (65, ti65), (45, ti45), (54, ti54), (80, ti80), (53, ti53)]
theorem tbl_ok : chkAll Try.prog tbl = true := by kernel_rfl
theorem mixed : Try.prog.follows .mixedOrders = true := by kernel_rfl

abbrev aI : ATy := (false, .int .i64)
abbrev aB : ATy := (false, .bool)
abbrev tSp : Ty := .pair (.int .i64) (.int .i64)
abbrev aSp : ATy := (true, tSp)
abbrev aSps : ATy := (false, .slice tSp)
abbrev aUs : ATy := (false, .slice tU)
abbrev aBs : ATy := (false, .slice (.int .u8))
abbrev aU8 : ATy := (false, .int .u8)
abbrev aIs : ATy := (false, .slice (.int .i64))

/-- The context of a function: the contracts that it calls, and its loops. -/
@[reducible] noncomputable def cx (cs : List CI) (an : List (Nat × (St → Ann))) : Ctx := ctxOf tbl cs fun n => annOf n an
theorem cx_ok {cs : List CI} (h : CsOK Try.prog cs) (an : List (Nat × (St → Ann))) : CtxOK Try.prog (cx cs an) := ctx_ok mixed (chkAll_ok tbl_ok) h _

theorem cx0 {an : List (Nat × (St → Ann))}  : CtxOK Try.prog (cx [] an) := cx_ok (cs := []) trivial an
theorem cx1 {c1 : CI} {an : List (Nat × (St → Ann))} (h1 : c1.OK Try.prog) : CtxOK Try.prog (cx [c1] an) := cx_ok (cs := [c1]) ⟨h1, trivial⟩ an
theorem cx2 {c1 c2 : CI} {an : List (Nat × (St → Ann))} (h1 : c1.OK Try.prog) (h2 : c2.OK Try.prog) : CtxOK Try.prog (cx [c1, c2] an) := cx_ok (cs := [c1, c2]) ⟨h1, h2, trivial⟩ an
theorem cx3 {c1 c2 c3 : CI} {an : List (Nat × (St → Ann))} (h1 : c1.OK Try.prog) (h2 : c2.OK Try.prog) (h3 : c3.OK Try.prog) : CtxOK Try.prog (cx [c1, c2, c3] an) := cx_ok (cs := [c1, c2, c3]) ⟨h1, h2, h3, trivial⟩ an
theorem cx4 {c1 c2 c3 c4 : CI} {an : List (Nat × (St → Ann))} (h1 : c1.OK Try.prog) (h2 : c2.OK Try.prog) (h3 : c3.OK Try.prog) (h4 : c4.OK Try.prog) : CtxOK Try.prog (cx [c1, c2, c3, c4] an) := cx_ok (cs := [c1, c2, c3, c4]) ⟨h1, h2, h3, h4, trivial⟩ an
theorem cx5 {c1 c2 c3 c4 c5 : CI} {an : List (Nat × (St → Ann))} (h1 : c1.OK Try.prog) (h2 : c2.OK Try.prog) (h3 : c3.OK Try.prog) (h4 : c4.OK Try.prog) (h5 : c5.OK Try.prog) : CtxOK Try.prog (cx [c1, c2, c3, c4, c5] an) := cx_ok (cs := [c1, c2, c3, c4, c5]) ⟨h1, h2, h3, h4, h5, trivial⟩ an
theorem cx6 {c1 c2 c3 c4 c5 c6 : CI} {an : List (Nat × (St → Ann))} (h1 : c1.OK Try.prog) (h2 : c2.OK Try.prog) (h3 : c3.OK Try.prog) (h4 : c4.OK Try.prog) (h5 : c5.OK Try.prog) (h6 : c6.OK Try.prog) : CtxOK Try.prog (cx [c1, c2, c3, c4, c5, c6] an) := cx_ok (cs := [c1, c2, c3, c4, c5, c6]) ⟨h1, h2, h3, h4, h5, h6, trivial⟩ an
theorem cx7 {c1 c2 c3 c4 c5 c6 c7 : CI} {an : List (Nat × (St → Ann))} (h1 : c1.OK Try.prog) (h2 : c2.OK Try.prog) (h3 : c3.OK Try.prog) (h4 : c4.OK Try.prog) (h5 : c5.OK Try.prog) (h6 : c6.OK Try.prog) (h7 : c7.OK Try.prog) : CtxOK Try.prog (cx [c1, c2, c3, c4, c5, c6, c7] an) := cx_ok (cs := [c1, c2, c3, c4, c5, c6, c7]) ⟨h1, h2, h3, h4, h5, h6, h7, trivial⟩ an
theorem cx8 {c1 c2 c3 c4 c5 c6 c7 c8 : CI} {an : List (Nat × (St → Ann))} (h1 : c1.OK Try.prog) (h2 : c2.OK Try.prog) (h3 : c3.OK Try.prog) (h4 : c4.OK Try.prog) (h5 : c5.OK Try.prog) (h6 : c6.OK Try.prog) (h7 : c7.OK Try.prog) (h8 : c8.OK Try.prog) : CtxOK Try.prog (cx [c1, c2, c3, c4, c5, c6, c7, c8] an) := cx_ok (cs := [c1, c2, c3, c4, c5, c6, c7, c8]) ⟨h1, h2, h3, h4, h5, h6, h7, h8, trivial⟩ an

noncomputable section

@[reducible] def p59 : PC := ⟨59, [aSp, aSp], [aSp], fun _ => True, fun p => common p.1 p.2⟩
def g59 (a b : Sp) : Prop := p59.VC (cx [] []) Try.f59 (a, b)
@[reducible] def p56 : PC := ⟨56, [aSp], [aB], fun _ => True, bad⟩
def g56 (a : Sp) : Prop := p56.VC (cx [] []) Try.f56 a
@[reducible] def p57 : PC := ⟨57, [aSps, aI], [aIs], fun p => p.1.length ≤ 1000, fun p => atF p.1 p.2⟩
@[reducible] def A57 (xs : List Sp) (x : Int) : Ann where
  τ := Nat
  pre := [(5, 3, .int .i64)]
  preC := []
  keep := [1, 8, 9]
  slots k := [(10, .c (.int .i64 k)), (5, .c (.own 0 1))]
  ents k := [(0, .row 3 (.int .i64) 0 (atF (xs.take k) x))]
  ok k := k ≤ xs.length
  m k := xs.length - k
@[reducible] def C57 (p : List Sp × Int) : Ctx := cx [] [(0, fun _ => A57 p.1 p.2)]
def g57 (xs : List Sp) (x : Int) : Prop := p57.VC (C57 (xs, x)) Try.f57 (xs, x)
@[reducible] def p43 : PC := ⟨43, [aSp, aSp], [aB], fun _ => True, fun p => ovl p.1 p.2⟩
def g43 (a b : Sp) : Prop := p43.VC (cx [p59.ci] []) Try.f43 (a, b)
/-- A loop with one counter that starts at 0 and runs to a bound. -/
@[reducible] def upTo (n : Nat) (slot : Nat) (keep : List Nat) (ok : Nat → Prop) : Ann where
  τ := Nat
  pre := []
  preC := []
  keep := keep
  slots k := [(slot, .c (.int .i64 k))]
  ents _ := []
  ok k := k ≤ n ∧ ok k
  m k := n - k
/-- The same, with further slots. -/
@[reducible] def upToS (n : Nat) (slot : Nat) (keep : List Nat) (ok : Nat → Prop) (more : Nat → List (Nat × SV)) : Ann where
  τ := Nat
  pre := []
  preC := []
  keep := keep
  slots k := (slot, .c (.int .i64 k)) :: more k
  ents _ := []
  ok k := k ≤ n ∧ ok k
  m k := n - k
@[reducible] def p38 : PC := ⟨38, [aSps], [aI], fun p => p.length ≤ 1000, checkF⟩
@[reducible] def C64 (xs : List Sp) : Ctx := cx [p56.ci] [(0, fun _ => upTo xs.length 8 [0, 1, 6, 7] fun k => (xs.take k).any bad = false)]
@[reducible] def C55 (xs : List Sp) : Ctx := cx [inl 64 Try.f64 (C64 xs)] []
@[reducible] def C38 (xs : List Sp) : Ctx := cx [inl 55 Try.f55 (C55 xs)] []
def g38 (xs : List Sp) : Prop := p38.VC (C38 xs) Try.f38 xs
@[reducible] def p39 : PC := ⟨39, [aSps], [aI, aIs], fun p => p.length ≤ 1000, deepF⟩
@[reducible] def C39 (xs : List Sp) : Ctx := cx [p57.ci] [(0, fun _ => upToS xs.length 11 [0, 9, 10] (fun _ => True)
  fun k => [(4, .c (.int .i64 ((xs.take k).foldl (deepStep xs) (0, [])).1)), (5, .c (.ro (.int .i64) ((xs.take k).foldl (deepStep xs) (0, [])).2))])]
def g39 (xs : List Sp) : Prop := p39.VC (C39 xs) Try.f39 xs
@[reducible] def p16 : PC := ⟨16, [aSps], [aI, aI], fun p => p.length ≤ 1000, depthP⟩
def g16 (xs : List Sp) : Prop := p16.VC (cx [p38.ci, p39.ci] []) Try.f16 xs
@[reducible] def p17 : PC := ⟨17, [aSps], [aI, aIs, aI], fun p => p.length ≤ 1000, deepestP⟩
def g17 (xs : List Sp) : Prop := p17.VC (cx [p38.ci, p39.ci] []) Try.f17 xs
@[reducible] def p42 : PC := ⟨42, [aI], [aB], fun _ => True, fun x => decide (x < 0)⟩
def g42 (x : Int) : Prop := p42.VC (cx [] []) Try.f42 x
@[reducible] def p23 : PC := ⟨23, [aSps, aIs], [aB, aI], fun p => p.1.length ≤ 1000 ∧ p.2.length ≤ 1000, fun p => properP p.1 p.2⟩
@[reducible] def C58 (c : List Int) : Ctx := cx [p42.ci] [(0, fun _ => upTo c.length 8 [0, 1, 6, 7] fun k => (c.take k).any (fun x => decide (x < 0)) = false)]
@[reducible] def C41 (c : List Int) : Ctx := cx [inl 58 Try.f58 (C58 c)] []
@[reducible] def C23 (p : List Sp × List Int) : Ctx := cx [p38.ci, inl 41 Try.f41 (C41 p.2), p43.ci]
  [(0, fun _ => upTo p.1.length 27 [0, 1, 25, 26] fun i => ∀ a, a < i → ∀ b, b < a → clash p.1 p.2 a b = false),
   (1, withI 27 fun i => upTo i.toNat 36 [0, 1, 7, 8, 25, 26, 27, 34, 35] fun j => ∀ b, b < j → clash p.1 p.2 i.toNat b = false)]
def g23 (xs : List Sp) (c : List Int) : Prop := p23.VC (C23 (xs, c)) Try.f23 (xs, c)
@[reducible] def p30 : PC := ⟨30, [aSp, aSp], [aB], fun _ => True, fun p => decide (max p.1.1 p.2.1 < min p.1.2 p.2.2)⟩
def g30 (a b : Sp) : Prop := p30.VC (cx [] []) Try.f30 (a, b)
@[reducible] def p24 : PC := ⟨24, [aSps, aIs], [aB], fun p => p.1.length ≤ 1000 ∧ p.2.length = p.1.length, fun p => properR p.1 p.2⟩
@[reducible] def C24 (p : List Sp × List Int) : Ctx := cx [p30.ci]
  [(0, fun _ => upTo p.1.length 5 [0, 1] fun i => ∀ a, a < i → ∀ b, b < a → clash p.1 p.2 a b = false),
   (1, withI 5 fun i => upTo i.toNat 6 [0, 1, 5] fun j => ∀ b, b < j → clash p.1 p.2 i.toNat b = false)]
def g24 (xs : List Sp) (c : List Int) : Prop := p24.VC (C24 (xs, c)) Try.f24 (xs, c)
@[reducible] def p50 : PC := ⟨50, [aIs, aI], [aB], fun p => p.1.length ≤ 1000, fun p => decide (p.2 ∈ p.1)⟩
@[reducible] def C50 (p : List Int × Int) : Ctx := cx [] [(0, fun _ => upTo p.1.length 5 [0, 1] fun k => p.2 ∉ p.1.take k)]
def g50 (l : List Int) (x : Int) : Prop := p50.VC (C50 (l, x)) Try.f50 (l, x)
@[reducible] def p48 : PC := ⟨48, [aI, aIs], [aI], fun p => p.2.length ≤ 1000 ∧ 0 ≤ p.1 ∧ p.1 ≤ 1000000, fun p => leastF p.1 p.2⟩
@[reducible] def C48 (p : Int × List Int) : Ctx := cx [p50.ci] [(0, fun _ => {
  τ := Nat, pre := [], preC := [], keep := [1], slots := fun k => [(0, .c (.int .i64 (p.1 + k)))], ents := fun _ => [], ok := fun k => k ≤ p.2.length ∧ ∀ j : Nat, j < k → p.1 + j ∈ p.2, m := fun k => p.2.length - k })]
def g48 (x : Int) (l : List Int) : Prop := p48.VC (C48 (x, l)) Try.f48 (x, l)
@[reducible] def p18 : PC := ⟨18, [aSps], [aI], fun p => p.length ≤ 1000, checkF⟩
@[reducible] def C18 (xs : List Sp) : Ctx := cx [] [(0, fun _ => upTo xs.length 3 [0] fun k => (xs.take k).any bad = false)]
def g18 (xs : List Sp) : Prop := p18.VC (C18 xs) Try.f18 xs
@[reducible] def p40 : PC := ⟨40, [aIs, aIs], [aB], fun p => p.1.length ≤ 1000 ∧ p.2.length ≤ 1000, fun p => beforeF p.1 p.2⟩
@[reducible] def C40 (p : List Int × List Int) : Ctx := cx [] [(0, fun _ => upTo p.1.length 5 [0, 1] fun k => k ≤ p.2.length ∧ beforeF (p.1.drop k) (p.2.drop k) = beforeF p.1 p.2)]
def g40 (a b : List Int) : Prop := p40.VC (C40 (a, b)) Try.f40 (a, b)
@[reducible] def p22 : PC := ⟨22, [aIs, aIs], [aB], fun p => p.1.length ≤ 1000 ∧ p.2.length ≤ 1000, fun p => decide (p.1 = p.2)⟩
def g22 (a b : List Int) : Prop := p22.VC (cx [p40.ci] []) Try.f22 (a, b)
@[reducible] def p20 : PC := ⟨20, [aSps, aSp], [aI, aI], fun p => p.1.length ≤ 1000 ∧ 0 ≤ p.2.1 ∧ p.2.1 ≤ p.2.2 ∧ p.2.2 ≤ 1000000, fun p => depthR p.1 p.2⟩
@[reducible] def C20 (p : List Sp × Sp) : Ctx := cx []
  [(0, fun _ => { τ := Nat, pre := [], preC := [], keep := [0, 3], slots := fun k => [(8, .c (.int .i64 (p.2.1 + k))), (6, .c (.int .i64 (depthTo p.1 p.2.1 k).1)), (7, .c (.int .i64 (depthTo p.1 p.2.1 k).2))], ents := fun _ => [], ok := fun k => p.2.1 + k ≤ p.2.2, m := fun k => (p.2.2 - p.2.1).toNat - k }),
   (1, withI 8 fun v => upToS p.1.length 10 [0, 3, 6, 7, 8] (fun _ => True) fun j => [(9, .c (.int .i64 (cnt (p.1.take j) v)))])]
def g20 (xs : List Sp) (a : Sp) : Prop := p20.VC (C20 (xs, a)) Try.f20 (xs, a)
@[reducible] def p51 : PC := ⟨51, [aI, aI, aI], [aB], fun _ => True, fun p => decide (p.2.1 ≤ p.1) && decide (p.1 ≤ p.2.2)⟩
def g51 (a b c : Int) : Prop := p51.VC (cx [] []) Try.f51 (a, b, c)
@[reducible] def p34 : PC := ⟨34, [aI, aIs], [aB], fun p => p.2.length ≤ 1000 ∧ 0 ≤ p.1 ∧ p.1 ≤ 1000000, fun p => risingF p.1 p.2⟩
@[reducible] def C34 (p : Int × List Int) : Ctx := cx [p51.ci] [(0, fun _ => upTo p.2.length 5 [0, 1] fun k => ∀ j, j < k → riseOK p.1 p.2 j = true)]
def g34 (n : Int) (l : List Int) : Prop := p34.VC (C34 (n, l)) Try.f34 (n, l)
@[reducible] def p52 : PC := ⟨52, [aI], [aIs], fun n => 0 ≤ n ∧ n ≤ 1000, fun n => belowF n⟩
@[reducible] def C52 (n : Int) : Ctx := cx [] [(0, fun _ => {
  τ := Nat, pre := [], preC := [], keep := [0, 8], slots := fun k => [(9, .c (.int .i64 k)), (3, .c (.own 0 1)), (7, .c (.own 0 1))], ents := fun k => [(0, .row 3 (.int .i64) 0 (belowTo n k))], ok := fun k => k ≤ n.toNat, m := fun k => n.toNat - k })]
def g52 (n : Int) : Prop := p52.VC (C52 n) Try.f52 n
@[reducible] def p15 : PC := ⟨15, [aSps], [aSps], fun _ => True, fun p => p.take 41⟩
def g15 (xs : List Sp) : Prop := p15.VC (cx [] []) Try.f15 xs
end
end Go.SX.Sh
