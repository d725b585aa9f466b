/- Chapter 06: the program's functions, what is asked of each. -/
import Derived.Test.YtfbgbdiajghnbaaDoorPaP
import Derived.Test.YtfbgbdiajghnbaaDoorProg
namespace Go.SX.Pa
open Go Go.Proofs

def ti3 : TI := ⟨1, 8, [.int .i64 0], .int .i64, some (.int .i64), false, false⟩
def ti4 : TI := ⟨1, 1, [.bool false], .bool, some .bool, false, false⟩
def ti5 : TI := ⟨1, 1, [.int .u8 0], .int .u8, some (.int .u8), false, false⟩
def ti9 : TI := ⟨1, 16, [.string ⟨#[]⟩], .str, some .str, false, false⟩
def ti22 : TI := ⟨1, 24, [.slice none 0 0], .slice 3, some (.slice (.int .i64)), false, false⟩
def ti36 : TI := ⟨1, 24, [.slice none 0 0], .slice 58, some (.slice (.pair (.int .i64) (.int .i64))), false, false⟩
def ti44 : TI := ⟨1, 24, [.slice none 0 0], .slice 5, some (.slice (.int .u8)), false, false⟩
def ti58 : TI := ⟨2, 16, [.int .i64 0, .int .i64 0], .struct [(0, 3), (1, 3)], some (.pair (.int .i64) (.int .i64)), true, false⟩
def ti81 : TI := ⟨3, 24, [.int .i64 0, .int .i64 0, .int .i64 0], .struct [(0, 3), (1, 3), (2, 3)], some (.pair (.int .i64) (.pair (.int .i64) (.int .i64))), true, false⟩
def ti92 : TI := ⟨1, 24, [.slice none 0 0], .slice 4, some (.slice .bool), false, false⟩
def ti97 : TI := ⟨1, 24, [.slice none 0 0], .slice 22, some (.slice (.slice (.int .i64))), false, false⟩
def ti106 : TI := ⟨2, 48, [.slice none 0 0, .slice none 0 0], .array 2 22, some (.pair (.slice (.int .i64)) (.slice (.int .i64))), false, true⟩
def ti108 : TI := ⟨1, 8, [.map none], .map 3 3, none, false, false⟩
def ti23 : TI := ⟨3, 24, [.int .i64 0, .int .i64 0, .int .i64 0], .array 3 3, some (.pair (.int .i64) (.pair (.int .i64) (.int .i64))), false, false⟩
def tif : TI := ⟨1, 8, [.nilFunc], .other, none, false, false⟩
def tbl : List (TypeId × TI) := [(3, ti3), (25, ti3), (4, ti4), (5, ti5), (9, ti9), (22, ti22), (36, ti36), (44, ti44), (58, ti58), (81, ti81), (92, ti92), (97, ti97), (106, ti106), (108, ti108), (34, tif), (86, tif), (23, ti23)]
theorem tbl_ok : chkAll Tryd.prog tbl = true := by kernel_rfl
theorem mixed : Tryd.prog.follows .mixedOrders = true := by kernel_rfl

abbrev aI : ATy := (false, .int .i64)
abbrev aB : ATy := (false, .bool)
abbrev aS : ATy := (false, .str)
abbrev tEd : Ty := .pair (.int .i64) (.int .i64)
abbrev tCl : Ty := .pair (.int .i64) (.pair (.int .i64) (.int .i64))
abbrev aCl : ATy := (true, tCl)
abbrev aEd : ATy := (true, tEd)
abbrev aEds : ATy := (false, .slice tEd)
abbrev aIs : ATy := (false, .slice (.int .i64))
abbrev aBs : ATy := (false, .slice (.int .u8))

@[reducible] noncomputable def cx (cs : List CI) (an : List (Nat × (St → Ann))) : Ctx := ctxOf tbl cs fun n => annOf n an
theorem cx_ok {cs : List CI} (h : CsOK Tryd.prog cs) (an : List (Nat × (St → Ann))) : CtxOK Tryd.prog (cx cs an) := ctx_ok mixed (chkAll_ok tbl_ok) h _
theorem cx0 {an : List (Nat × (St → Ann))}  : CtxOK Tryd.prog (cx [] an) := cx_ok (cs := []) trivial an
theorem cx1 {c1 : CI} {an : List (Nat × (St → Ann))} (h1 : c1.OK Tryd.prog) : CtxOK Tryd.prog (cx [c1] an) := cx_ok (cs := [c1]) ⟨h1, trivial⟩ an
theorem cx2 {c1 c2 : CI} {an : List (Nat × (St → Ann))} (h1 : c1.OK Tryd.prog) (h2 : c2.OK Tryd.prog) : CtxOK Tryd.prog (cx [c1, c2] an) := cx_ok (cs := [c1, c2]) ⟨h1, h2, trivial⟩ an
theorem cx3 {c1 c2 c3 : CI} {an : List (Nat × (St → Ann))} (h1 : c1.OK Tryd.prog) (h2 : c2.OK Tryd.prog) (h3 : c3.OK Tryd.prog) : CtxOK Tryd.prog (cx [c1, c2, c3] an) := cx_ok (cs := [c1, c2, c3]) ⟨h1, h2, h3, trivial⟩ an

noncomputable section
/-- A loop with one counter that starts at 0 and runs to a bound, with further slots. -/
@[reducible] def upToS (n : Nat) (slot : Nat) (keep : List Nat) (ok : Nat → Prop) (more : Nat → List (Nat × SV)) : Ann where
  τ := Nat
  pre := []
  preC := []
  keep := keep
  slots k := (slot, .c (.int .i64 k)) :: more k
  ents _ := []
  ok k := k ≤ n ∧ ok k
  m k := n - k
@[reducible] def upTo (n : Nat) (slot : Nat) (keep : List Nat) (ok : Nat → Prop) : Ann := upToS n slot keep ok fun _ => []

@[reducible] def p54 : PC := ⟨54, [aI, aI, aI], [aCl, aB], fun _ => True, fun p => (p, decide (ClosP p.1 p.2.1 p.2.2))⟩
def g54 (n r m : Int) : Prop := p54.VC (cx [] []) Tryd.f54 (n, r, m)
@[reducible] def p20 : PC := ⟨20, [aI, aI, aI], [aB, aI], fun _ => True, fun p => strictF p.1 p.2.1 p.2.2⟩
def g20 (n r m : Int) : Prop := p20.VC (cx [p54.ci] []) Tryd.f20 (n, r, m)
@[reducible] def p19 : PC := ⟨19, [aI], [aI, aI], fun _ => True, waksF⟩
def g19 (k : Int) : Prop := p19.VC (cx [] []) Tryd.f19 k
@[reducible] def p63 : PC := ⟨63, [aI], [aB], fun _ => True, fun k => decide (1 ≤ k ∧ k ≤ 3)⟩
def g63 (k : Int) : Prop := p63.VC (cx [] []) Tryd.f63 k
@[reducible] def p52 : PC := ⟨52, [aI], [aI], fun k => 1 ≤ k ∧ k ≤ 3, switchesF⟩
def g52 (k : Int) : Prop := p52.VC (cx [] []) Tryd.f52 k
@[reducible] def p51 : PC := ⟨51, [aIs, aI], [aB], fun p => p.1.length ≤ 1000, fun p => decide (PermP p.1 p.2)⟩
@[reducible] def A51 (l : List Int) (n : Int) : Ann where
  τ := Nat
  pre := []
  preC := []
  keep := [0, 1, 5, 14, 15]
  slots k := [(16, .c (.int .i64 k))]
  ents k := [(0, .row 4 .bool 1 (seenR n (l.take k)))]
  ok k := k ≤ l.length ∧ (∀ x ∈ l.take k, 0 ≤ x ∧ x < n) ∧ (l.take k).Nodup
  m k := l.length - k
@[reducible] def C51 (p : List Int × Int) : Ctx := cx [] [(0, fun _ => A51 p.1 p.2)]
def g51 (l : List Int) (n : Int) : Prop := p51.VC (C51 (l, n)) Tryd.f51 (l, n)
@[reducible] def p61 : PC := ⟨61, [aI, aI, aI, aIs], [aCl, aI], fun p => p.2.2.2.length ≤ 1000, fun p => readF p.1 p.2.1 p.2.2.1 p.2.2.2⟩
def g61 (n r m : Int) (l : List Int) : Prop := p61.VC (cx [p54.ci, p51.ci] []) Tryd.f61 (n, r, m, l)
@[reducible] def p62 : PC := ⟨62, [aCl, aIs], [aEds], fun p => p.2.length ≤ 1000 ∧ 1 ≤ p.1.1 ∧ p.1.1 ≤ 12 ∧ ∀ x ∈ p.2, 0 ≤ x ∧ x ≤ 1000, fun p => edgesF p.1.1 p.2⟩
@[reducible] def A62 (n : Int) (l : List Int) : Ann where
  τ := Nat
  pre := [(5, 58, tEd)]
  preC := []
  keep := [1, 2, 8, 9]
  slots k := [(10, .c (.int .i64 k)), (5, .c (.own 1 1))]
  ents k := [(1, .row 58 tEd 0 (edgesTo n l k))]
  ok k := k ≤ l.length
  m k := l.length - k
@[reducible] def C62 (p : Cl × List Int) : Ctx := cx [] [(0, fun _ => A62 p.1.1 p.2)]
def g62 (c : Cl) (l : List Int) : Prop := p62.VC (C62 (c, l)) Tryd.f62 (c, l)
@[reducible] def p66 : PC := ⟨66, [aEds, aIs, aI], [aB], fun p => p.1.length ≤ 1000 ∧ p.2.1.length ≤ 1000 ∧ 0 ≤ p.2.2 ∧ p.2.2 < p.1.length ∧ p.2.2 < p.2.1.length, fun p => clashF p.1 p.2.1 p.2.2.toNat⟩
@[reducible] def C66 (p : List Ed × List Int × Int) : Ctx := cx [] [(0, fun _ => upTo p.2.2.toNat 13 [0, 1, 2, 11, 12] fun k => ∀ j, j < k → touch p.1 p.2.1 p.2.2.toNat j = false)]
def g66 (es : List Ed) (c : List Int) (i : Int) : Prop := p66.VC (C66 (es, c, i)) Tryd.f66 (es, c, i)
end
end Go.SX.Pa
