/- Parts of the proof, one after the other: Pe1 Pe2 Pe2E Pe2Q PeTr Pe2S Pe3 Pe3E Pe3Q Pe4D. -/
import Derived.Test.YtijabifakficeaaDoorM4
import Derived.Test.YtijabifakficeaaDoorProg
import Derived.Ground.NamesProg
import Derived.Ground.GgzProg
import Derived.Ground.SlmcProg
import Derived.Shelf.Sort.Plain
import Derived.Shelf.Slices.In.SortNone
import Derived.Shelf.SlIterI.Sorted
import Derived.Shelf.SlMaps.Clone
import Derived.Lib.SlKeysI
import Derived.Deep.Onto
/- Chapter 10: the types; the disk's functions, what is asked of each. -/
namespace Go.SX.Pe
open Go Go.Proofs
theorem pp1 {p q : Prop} : (p → p ∧ q) ↔ (p → q) := ⟨fun h hp => (h hp).2, fun h hp => ⟨hp, h hp⟩⟩
theorem fi {n : Int} (h1 : -1000000000000000 ≤ n) (h2 : n ≤ 1000000000000000) : Fits .i64 n := fits_i64 (by omega) (by omega)
theorem fitL {n : Int} (h1 : -9223372036854775808 ≤ n) (h2 : n ≤ 9223372036854775807) : Fits .i64 n := ⟨h1, h2⟩
abbrev tBk : Ty := .arr 127 (.int .u8)
abbrev tBs : Ty := .arr 31 tBk
abbrev tRt : Ty := .pair (.int .i64) (.pair (.int .i64) (.int .i64))
abbrev tCn : Ty := .pair (.int .i64) (.pair (.int .i64) (.slice .str))
abbrev tSt : Ty := .pair (.int .i64) (.pair (.slice .str) (.int .i64))
abbrev tEn : Ty := .pair (.int .i64) .str
abbrev tBl : Ty := .pair (.slice (.int .u8)) (.pair (.slice (.int .u8)) .bool)
abbrev tAc : Ty := .pair (.int .u8) (.pair (.int .i64) (.slice (.int .u8)))
abbrev tOp : Ty := .pair (.int .u8) (.pair (.int .i64) .str)
def ti3 : TI := { size := 1, bytes := 8, zero := [.int .i64 0], desc := .int .i64, ty := some (.int .i64) }
def ti4 : TI := { size := 1, bytes := 1, zero := [.bool false], desc := .bool, ty := some .bool }
def ti5 : TI := { size := 1, bytes := 1, zero := [.int .u8 0], desc := .int .u8, ty := some (.int .u8) }
def ti9 : TI := { size := 1, bytes := 16, zero := [.string ⟨#[]⟩], desc := .str, ty := some .str }
def ti22 : TI := { size := 1, bytes := 24, zero := [.slice none 0 0], desc := .slice 9, ty := some (.slice .str) }
def ti62 : TI := { size := 1, bytes := 24, zero := [.slice none 0 0], desc := .slice 3, ty := some (.slice (.int .i64)) }
def ti63 : TI := { size := 1, bytes := 24, zero := [.slice none 0 0], desc := .slice 5, ty := some (.slice (.int .u8)) }
def ti82 : TI := { size := 1, bytes := 2, zero := [.int .u16 0], desc := .int .u16, ty := some (.int .u16) }
def ti146 : TI := { size := 1, bytes := 8, zero := [.int .u64 0], desc := .int .u64, ty := some (.int .u64) }
def ti45 : TI := { size := 128, bytes := 128, zero := tBk.zeros, desc := .array 128 5, ty := some tBk }
def ti46 : TI := { size := 4096, bytes := 4096, zero := tBs.zeros, desc := .array 32 45, ty := some tBs }
def ti47 : TI := { size := 1, bytes := 8, zero := [.map none], desc := .map 3 45, ty := none }
def dskP : List Value := [.bool false, .bool false, .int .i64 0, .int .i64 0, .int .i64 0]
def ti49 : TI := { size := 4102, bytes := 4136, zero := dskP ++ tBs.zeros ++ [.map none], desc := .struct [(0, 4), (1, 4), (2, 3), (3, 3), (4, 3), (5, 46), (4101, 47)], ty := none, arr := some (dskP, tBs, [.map none]) }
def ptrTI (e : TypeId) : TI := { size := 1, bytes := 8, zero := [.pointer none], desc := .ptr e, ty := none }
def ti89 : TI := { size := 3, bytes := 24, zero := [.int .i64 0, .int .i64 0, .int .i64 0], desc := .struct [(0, 3), (1, 3), (2, 3)], ty := some tRt }
def ti91 : TI := { size := 3, bytes := 40, zero := [.int .i64 0, .int .i64 0, .slice none 0 0], desc := .struct [(0, 3), (1, 3), (2, 22)], ty := some tCn }
def ti93 : TI := { size := 12, bytes := 104, zero := [.bool false, .bool false, .pointer none, .int .i64 0, .int .i64 0, .int .i64 0, .int .i64 0, .int .i64 0, .bool false, .int .i64 0, .int .i64 0, .slice none 0 0], desc := .struct [(0, 4), (1, 4), (2, 29), (3, 3), (4, 3), (5, 89), (8, 4), (9, 91)], ty := none }
def ti53 : TI := { size := 3, bytes := 40, zero := [.int .i64 0, .slice none 0 0, .int .i64 0], desc := .struct [(0, 3), (1, 22), (2, 3)], ty := some tSt }
def ti97 : TI := { size := 1, bytes := 24, zero := [.slice none 0 0], desc := .slice 53, ty := some (.slice tSt) }
def ti99 : TI := { size := 6, bytes := 80, zero := [.slice none 0 0, .int .i64 0, .bool false, .int .i64 0, .slice none 0 0, .int .i64 0], desc := .struct [(0, 97), (1, 3), (2, 4), (3, 53)], ty := some (.pair (.slice tSt) (.pair (.int .i64) (.pair .bool tSt))) }
def ti33 : TI := { size := 4, bytes := 32, zero := [.pointer none, .pointer none, .pointer none, .bool false], desc := .struct [(0, 29), (1, 30), (2, 31), (3, 4)], ty := none }
def ti40 : TI := { size := 2, bytes := 24, zero := [.int .i64 0, .string ⟨#[]⟩], desc := .struct [(0, 3), (1, 9)], ty := some tEn, eqs := true }
def ti35 : TI := { size := 1, bytes := 24, zero := [.slice none 0 0], desc := .slice 40, ty := some (.slice tEn) }
def ti65 : TI := { size := 3, bytes := 40, zero := [.int .u8 0, .int .i64 0, .slice none 0 0], desc := .struct [(0, 5), (1, 3), (2, 63)], ty := some tAc }
def ti59 : TI := { size := 1, bytes := 24, zero := [.slice none 0 0], desc := .slice 65, ty := some (.slice tAc) }
def ti72 : TI := { size := 3, bytes := 32, zero := [.int .u8 0, .int .i64 0, .string ⟨#[]⟩], desc := .struct [(0, 5), (1, 3), (2, 9)], ty := some tOp }
def ti70 : TI := { size := 1, bytes := 24, zero := [.slice none 0 0], desc := .slice 72, ty := some (.slice tOp) }
def ti111 : TI := { size := 3, bytes := 56, zero := [.slice none 0 0, .slice none 0 0, .bool false], desc := .struct [(0, 63), (1, 63), (2, 4)], ty := some tBl }
def ti107 : TI := { size := 1, bytes := 24, zero := [.slice none 0 0], desc := .slice 111, ty := some (.slice tBl) }
def ti109 : TI := { size := 3, bytes := 40, zero := [.slice none 0 0, .bool false, .int .i64 0], desc := .struct [(0, 107), (1, 4), (2, 3)], ty := some (.pair (.slice tBl) (.pair .bool (.int .i64))) }
def ti139 : TI := { size := 1, bytes := 24, zero := [.slice none 0 0], desc := .struct [(0, 63)], ty := none }
def ti119 : TI := { size := 1, bytes := 24, zero := [.slice none 0 0], desc := .slice 89, ty := some (.slice tRt) }
def ti87 : TI := { size := 1, bytes := 24, zero := [.slice none 0 0], desc := .slice 29, ty := none }
def ti94 : TI := { size := 1, bytes := 24, zero := [.slice none 0 0], desc := .slice 30, ty := none }
def tbl : List (TypeId × TI) := [(3, ti3), (27, ti3), (4, ti4), (5, ti5), (9, ti9), (22, ti22), (62, ti62), (63, ti63), (82, ti82), (146, ti146), (45, ti45), (46, ti46), (47, ti47), (49, ti49), (29, ptrTI 49), (30, ptrTI 93), (31, ptrTI 99), (23, ptrTI 33), (60, ptrTI 109), (89, ti89), (91, ti91), (93, ti93), (53, ti53), (97, ti97), (99, ti99), (33, ti33), (40, ti40), (35, ti35), (65, ti65), (59, ti59), (72, ti72), (70, ti70), (111, ti111), (107, ti107), (109, ti109), (139, ti139), (119, ti119), (87, ti87), (94, ti94)]
theorem tbl_ok : chkAll Tryd.prog tbl = true := by kernel_rfl
theorem mixed : Tryd.prog.follows .mixedOrders = true := by kernel_rfl
abbrev aI : ATy := (false, .int .i64)
abbrev aB : ATy := (false, .bool)
abbrev aS : ATy := (false, .str)
abbrev aIs : ATy := (false, .slice (.int .i64))
abbrev aBs : ATy := (false, .slice (.int .u8))
abbrev aSs : ATy := (false, .slice .str)
@[reducible] noncomputable def cx (cs : List CI) (an : List (Nat × (St → Ann))) : Ctx := ctxOf tbl cs fun n => annOf n an
theorem cx_ok {cs : List CI} (h : CsOK Tryd.prog cs) (an : List (Nat × (St → Ann))) : CtxOK Tryd.prog (cx cs an) := ctx_ok mixed (chkAll_ok tbl_ok) h _
end Go.SX.Pe

/- Chapter 10: the disk's functions, what is asked of each. -/
namespace Go.SX.Pe
open Go Go.Proofs
noncomputable section
structure Dk where
  down : Bool
  left : Int
  turn : Int
  opened : Int
  bl : List (List Int)
  sy : List (Int × List Int)
@[reducible] def dE (d : Dk) (m : Nat) : Ent := .obj 49 [.kb true, .bool 0 d.down, .int .i64 d.left, .int .i64 d.turn, .int .i64 d.opened] tBs d.bl [.tab m]
@[reducible] def mE (d : Dk) : Ent := .tab true tBk d.sy
def zeroB : List Int := List.replicate 128 0
def newD : Dk := ⟨false, 0, 0, 0, List.replicate 32 zeroB, []⟩
def actF (d : Dk) : Int × Dk := bif decide (0 < d.left) then (bif decide (d.left - 1 = 0) then (8, ⟨true, 0, d.turn, d.opened, d.bl, d.sy⟩) else (0, ⟨d.down, d.left - 1, d.turn, d.opened, d.bl, d.sy⟩)) else (0, d)
def syF (d : Dk) (at_ : Int) : List (Int × List Int) := bif (lookF d.sy at_).isSome then d.sy else insF d.sy at_ (d.bl.getD at_.toNat [])
def wrF (d : Dk) (at_ : Int) (b : List Int) : Dk := ⟨d.down, d.left, d.turn, d.opened, d.bl.set at_.toNat (layF zeroB 0 b), syF d at_⟩
def writeF (d : Dk) (at_ : Int) (b : List Int) : Int × Dk := bif decide (at_ < 0) || decide (32 ≤ at_) || decide (128 < b.length) then (1, d) else bif d.down then (8, d) else actF (wrF d at_ b)
def clearD (d : Dk) : Dk := ⟨d.down, d.left, d.turn, d.opened, d.bl, []⟩
def syncF (d : Dk) : Int × Dk := bif d.down then (8, d) else bif decide ((actF d).1 = 0) then (0, clearD (actF d).2) else actF d
structure DkOK (d : Dk) : Prop where
  left0 : 0 ≤ d.left
  left1 : d.left ≤ 9223372036854775807
  bl : d.bl.length = 32
  each : ∀ b ∈ d.bl, b.length = 128
  nd : (d.sy.map Prod.fst).Nodup
  sy : ∀ p ∈ d.sy, (0 ≤ p.1 ∧ p.1 < 32) ∧ p.2.length = 128
@[reducible] def i51 : CI := inl 51 Tryd.f51 (cx [] [])
@[reducible] def i56 : CI := inl 56 Tryd.f56 (cx [i51] [])
@[reducible] def mAt : Src := .cell 0 4101
@[reducible] def H34 : HC where
  f := 34
  X := Dk × Int × List Int
  Hs x := [dE x.1 1, mE x.1]
  ags x := [.c (.ptr 0 0), .c (.int .i64 x.2.1), .c (.ro (.int .u8) x.2.2)]
  Pre x := DkOK x.1
  res x := .c (.int .i64 (writeF x.1 x.2.1 x.2.2).1)
  out x := [dE (writeF x.1 x.2.1 x.2.2).2 1, mE (writeF x.1 x.2.1 x.2.2).2]
  fr _ := false
@[reducible] def C34 : Ctx := cx [i51, i56] []
def g34 (down : Bool) (left turn opened : Int) (bl : List (List Int)) (sy : List (Int × List Int)) (a : Int) (b : List Int) : Prop := HVC C34 Tryd.f34 H34 (⟨down, left, turn, opened, bl, sy⟩, a, b)
@[reducible] def H29 : HC where
  f := 29
  X := Dk
  Hs x := [dE x 1, mE x]
  ags x := [.c (.ptr 0 0)]
  Pre x := DkOK x
  res x := .c (.int .i64 (syncF x).1)
  out x := [dE (syncF x).2 2, .dead, mE (syncF x).2]
  fr _ := false
  cn := [mAt]
def g29 (down : Bool) (left turn opened : Int) (bl : List (List Int)) (sy : List (Int × List Int)) : Prop := HVC C34 Tryd.f29 H29 ⟨down, left, turn, opened, bl, sy⟩
@[reducible] def H19 : HC where
  f := 19
  X := Unit
  Hs _ := []
  ags _ := []
  Pre _ := True
  res _ := .c (.ptr 0 0)
  out _ := [dE newD 1, mE newD]
  fr _ := false
  cn := [.slot 0, mAt]
def g19 : Prop := HVC (cx [] []) Tryd.f19 H19 ()
@[reducible] def i59 : CI := inl 59 Tryd.f59 (cx [] [])
@[reducible] def C37 : Ctx := cx [i51, i59] []
@[reducible] def H37o : HC where
  f := 37
  X := Dk × Int
  Hs x := [dE x.1 1, mE x.1]
  ags x := [.c (.ptr 0 0), .c (.int .i64 x.2)]
  Pre x := DkOK x.1 ∧ 0 ≤ x.2 ∧ x.2 < 32
  res x := .c (.own 2 1)
  out x := [dE x.1 1, mE x.1, .row 5 (.int .u8) 1 (x.1.bl.getD x.2.toNat [])]
  fr _ := false
  cn := [.slot 0]
def g37o (down : Bool) (left turn opened : Int) (bl : List (List Int)) (sy : List (Int × List Int)) (a : Int) : Prop := HVC C37 Tryd.f37 H37o (⟨down, left, turn, opened, bl, sy⟩, a)
@[reducible] def H37 : HC where
  f := 37
  X := Dk × Int
  Hs x := [dE x.1 1, mE x.1]
  ags x := [.c (.ptr 0 0), .c (.int .i64 x.2)]
  Pre x := DkOK x.1
  res x := .c (.ro (.int .u8) (bif decide (0 ≤ x.2) && decide (x.2 < 32) then x.1.bl.getD x.2.toNat [] else []))
  out x := [dE x.1 1, mE x.1]
  fr _ := false
def g37 (down : Bool) (left turn opened : Int) (bl : List (List Int)) (sy : List (Int × List Int)) (a : Int) : Prop := HVC C37 Tryd.f37 H37 (⟨down, left, turn, opened, bl, sy⟩, a)
@[reducible] def H37i : HC where
  f := 37
  X := Dk × Int
  Hs x := [dE x.1 1, mE x.1]
  ags x := [.c (.ptr 0 0), .c (.int .i64 x.2)]
  Pre x := DkOK x.1 ∧ 0 ≤ x.2 ∧ x.2 < 32
  res x := .c (.ro (.int .u8) (x.1.bl.getD x.2.toNat []))
  out x := [dE x.1 1, mE x.1]
  fr _ := false
def g37i (down : Bool) (left turn opened : Int) (bl : List (List Int)) (sy : List (Int × List Int)) (a : Int) : Prop := HVC C37 Tryd.f37 H37i (⟨down, left, turn, opened, bl, sy⟩, a)
def keysF (sy : List (Int × List Int)) : List Int := (sy.map Prod.fst).mergeSort fun x y => decide (x ≤ y)
@[reducible] def kRow (sy : List (Int × List Int)) : Ent := .row 3 (.int .i64) 0 (keysF sy)
@[reducible] def H54 : HC where
  f := 54
  X := List (Int × List Int)
  Hs x := [.blk 47 [.tab 1], .tab true tBk x]
  ags x := [.c (.fn 76 [0])]
  Pre x := x.length ≤ 1000 ∧ ∀ p ∈ x, 0 ≤ p.1 ∧ p.1 < 1000
  res x := .c (.own 2 0)
  out x := [.blk 47 [.tab 1], .tab true tBk x, kRow x]
  fr _ := false
@[reducible] def pick54 : Pick H54.X := fun args H K => match args with
  | [.c (.fn 76 [b])] => (match H[b]? with
    | some (.blk _ [.tab m]) => (match H[m]? with
      | some (.tab true (.arr 127 (.int .u8)) es) => K es [b, m]
      | _ => False)
    | _ => False)
  | _ => False
@[reducible] def i55 : CI := inl 55 Tryd.f55 (cx [] [])
def cutN (keep : Int) (k : Nat) : Int := ((max keep 0) % 129 + 37 * (k : Int)) % 129
def tearB (keep : Int) (k : Nat) (b old : List Int) : List Int := layF b (cutN keep k).toNat (old.drop (cutN keep k).toNat)
def tearN (keep : Int) (sy : List (Int × List Int)) (ks : List Int) (bl : List (List Int)) : Nat → List (List Int)
  | 0 => bl
  | k + 1 => (tearN keep sy ks bl k).set (ks.getD k 0).toNat (tearB keep k ((tearN keep sy ks bl k).getD (ks.getD k 0).toNat []) ((lookF sy (ks.getD k 0)).getD zeroB))
def restartF (d : Dk) (keep : Int) : Dk := ⟨false, 0, d.turn + 1, d.opened, tearN keep d.sy (keysF d.sy) d.bl (keysF d.sy).length, []⟩
@[reducible] def H27 : HC where
  f := 27
  X := Dk × Int
  Hs x := [dE x.1 1, mE x.1]
  ags x := [.c (.ptr 0 0), .c (.int .i64 x.2)]
  Pre x := DkOK x.1 ∧ 0 ≤ x.1.turn ∧ x.1.turn ≤ 1000000
  res x := .tup []
  out x := [dE (restartF x.1 x.2) 2, .dead, mE (restartF x.1 x.2)]
  fr _ := false
  cn := [mAt]
@[reducible] def A27 (d : Dk) (keep : Int) : Ann where
  τ := Nat
  pre := []
  preC := []
  keep := [0, 1, 16, 17]
  slots k := [(18, .c (.int .i64 k))]
  ents k := [(0, dE ⟨d.down, d.left, d.turn, d.opened, tearN keep d.sy (keysF d.sy) d.bl k, d.sy⟩ 1)]
  ok k := k ≤ (keysF d.sy).length
  m k := (keysF d.sy).length - k
@[reducible] def C27 (x : H27.X) : Ctx := cx [i51, i55, H54.ci pick54] [(0, fun _ => A27 x.1 x.2)]
def g27 (down : Bool) (left turn opened : Int) (bl : List (List Int)) (sy : List (Int × List Int)) (a : Int) : Prop := HVC (C27 (⟨down, left, turn, opened, bl, sy⟩, a)) Tryd.f27 H27 (⟨down, left, turn, opened, bl, sy⟩, a)
@[reducible] def H58 : HC where
  f := 58
  X := List (Int × List Int)
  Hs x := [.tab true tBk x]
  ags x := [.c (.tab 0)]
  Pre _ := True
  res _ := .c (.tab 1)
  out x := [.tab true tBk x, .tab true tBk x]
  fr _ := false
@[reducible] def pick58 : Pick H58.X := fun args H K => match args with
  | [.c (.tab m)] => (match H[m]? with
      | some (.tab true (.arr 127 (.int .u8)) es) => K es [m]
      | _ => False)
  | _ => False
@[reducible] def H33 : HC where
  f := 33
  X := Dk
  Hs x := [dE x 1, mE x]
  ags x := [.c (.ptr 0 0)]
  Pre x := DkOK x
  res _ := .c (.ptr 2 0)
  out x := [dE x 1, mE x, dE x 3, mE x]
  fr _ := false
  cn := [.slot 0, .cell 2 4101]
@[reducible] def C33 : Ctx := cx [i51, H58.ci pick58] []
def g33 (down : Bool) (left turn opened : Int) (bl : List (List Int)) (sy : List (Int × List Int)) : Prop := HVC C33 Tryd.f33 H33 ⟨down, left, turn, opened, bl, sy⟩
end
end Go.SX.Pe

/- Printed by VC.lean: what the executor asks. -/
namespace Go.SX.Pe
open Go Go.Proofs
theorem g34_eq (down : Bool) (left : Int) (turn : Int) (opened : Int) (bl : List (List Int)) (sy : List (Int × List Int)) (a : Int) (b : List Int) : g34 down left turn opened bl sy a b = (
 (a < (0 : Int) →
 a < (0 : Int) ∧
 a < (0 : Int) ∧
 (1 : Int) = (writeF (Dk.mk down left turn opened bl sy) a b).fst ∧
 ((True ∧
 down = (writeF (Dk.mk down left turn opened bl sy) a b).snd.down ∧
 left = (writeF (Dk.mk down left turn opened bl sy) a b).snd.left ∧
 turn = (writeF (Dk.mk down left turn opened bl sy) a b).snd.turn ∧ opened = (writeF (Dk.mk down left turn opened bl sy) a b).snd.opened ∧ True) ∧
 (True ∧ True) ∧ bl = (writeF (Dk.mk down left turn opened bl sy) a b).snd.bl) ∧
 sy = (writeF (Dk.mk down left turn opened bl sy) a b).snd.sy ∧ True) ∧
 (¬a < (0 : Int) →
 ¬a < (0 : Int) ∧
 ¬a < (0 : Int) ∧
 ((32 : Int) ≤ a →
 (32 : Int) ≤ a ∧
 (32 : Int) ≤ a ∧
 (32 : Int) ≤ a ∧
 (1 : Int) = (writeF (Dk.mk down left turn opened bl sy) a b).fst ∧
 ((True ∧
 down = (writeF (Dk.mk down left turn opened bl sy) a b).snd.down ∧
 left = (writeF (Dk.mk down left turn opened bl sy) a b).snd.left ∧
 turn = (writeF (Dk.mk down left turn opened bl sy) a b).snd.turn ∧ opened = (writeF (Dk.mk down left turn opened bl sy) a b).snd.opened ∧ True) ∧
 (True ∧ True) ∧ bl = (writeF (Dk.mk down left turn opened bl sy) a b).snd.bl) ∧
 sy = (writeF (Dk.mk down left turn opened bl sy) a b).snd.sy ∧ True) ∧
 (¬(32 : Int) ≤ a →
 ¬(32 : Int) ≤ a ∧
 ¬(32 : Int) ≤ a ∧
 ¬(32 : Int) ≤ a ∧
 ((128 : Int) < (↑b.length : Int) →
 (128 : Int) < (↑b.length : Int) ∧
 (128 : Int) < (↑b.length : Int) ∧
 (128 : Int) < (↑b.length : Int) ∧
 (1 : Int) = (writeF (Dk.mk down left turn opened bl sy) a b).fst ∧
 ((True ∧
 down = (writeF (Dk.mk down left turn opened bl sy) a b).snd.down ∧
 left = (writeF (Dk.mk down left turn opened bl sy) a b).snd.left ∧
 turn = (writeF (Dk.mk down left turn opened bl sy) a b).snd.turn ∧
 opened = (writeF (Dk.mk down left turn opened bl sy) a b).snd.opened ∧ True) ∧
 (True ∧ True) ∧ bl = (writeF (Dk.mk down left turn opened bl sy) a b).snd.bl) ∧
 sy = (writeF (Dk.mk down left turn opened bl sy) a b).snd.sy ∧ True) ∧
 (¬(128 : Int) < (↑b.length : Int) →
 ¬(128 : Int) < (↑b.length : Int) ∧
 ¬(128 : Int) < (↑b.length : Int) ∧
 ¬(128 : Int) < (↑b.length : Int) ∧
 (down = true →
 down = true ∧
 down = true ∧
 (8 : Int) = (writeF (Dk.mk down left turn opened bl sy) a b).fst ∧
 ((True ∧
 down = (writeF (Dk.mk down left turn opened bl sy) a b).snd.down ∧
 left = (writeF (Dk.mk down left turn opened bl sy) a b).snd.left ∧
 turn = (writeF (Dk.mk down left turn opened bl sy) a b).snd.turn ∧
 opened = (writeF (Dk.mk down left turn opened bl sy) a b).snd.opened ∧ True) ∧
 (True ∧ True) ∧ bl = (writeF (Dk.mk down left turn opened bl sy) a b).snd.bl) ∧
 sy = (writeF (Dk.mk down left turn opened bl sy) a b).snd.sy ∧ True) ∧
 (down = false →
 down = false ∧
 down = false ∧
 (¬(lookF sy a).isSome = true →
 ¬(lookF sy a).isSome = true ∧
 ((0 : Int) ≤ a ∧ a < (↑(32 : Nat) : Int)) ∧
 a.toNat < (31 : Nat) + (1 : Nat) ∧
 ((0 : Int) ≤ a ∧ a < (↑(32 : Nat) : Int)) ∧
 a.toNat < (31 : Nat) + (1 : Nat) ∧
 ((0 : Int) ≤ a ∧ a < (↑(32 : Nat) : Int)) ∧
 ((0 : Int) ≤ (0 : Int) ∧ (0 : Int) ≤ (128 : Int)) ∧
 (a.toNat < (31 : Nat) + (1 : Nat) ∧ (128 : Nat) = (128 : Nat)) ∧
 ((0 : Int) < left →
 (0 : Int) < left ∧
 Fits IntKind.i64 (left - (1 : Int)) ∧
 (left - (1 : Int) = (0 : Int) →
 left - (1 : Int) = (0 : Int) ∧
 (8 : Int) = (writeF (Dk.mk down left turn opened bl sy) a b).fst ∧
 ((True ∧
 true = (writeF (Dk.mk down left turn opened bl sy) a b).snd.down ∧
 left - (1 : Int) = (writeF (Dk.mk down left turn opened bl sy) a b).snd.left ∧
 turn = (writeF (Dk.mk down left turn opened bl sy) a b).snd.turn ∧
 opened = (writeF (Dk.mk down left turn opened bl sy) a b).snd.opened ∧ True) ∧
 (True ∧ True) ∧
 (bl.set a.toNat (Ty.arr (127 : Nat) (Ty.int IntKind.u8)).dflt).set a.toNat
 (layF ((bl.set a.toNat (Ty.arr (127 : Nat) (Ty.int IntKind.u8)).dflt).getD a.toNat (nilT Int))
 (↑(0 : Nat) : Int).toNat (List.take ((128 : Nat) - (↑(0 : Nat) : Int).toNat) b)) =
 (writeF (Dk.mk down left turn opened bl sy) a b).snd.bl) ∧
 insF sy a (bl.getD a.toNat tBk.dflt) = (writeF (Dk.mk down left turn opened bl sy) a b).snd.sy ∧ True) ∧
 (¬left - (1 : Int) = (0 : Int) →
 ¬left - (1 : Int) = (0 : Int) ∧
 (0 : Int) = (writeF (Dk.mk down left turn opened bl sy) a b).fst ∧
 ((True ∧
 down = (writeF (Dk.mk down left turn opened bl sy) a b).snd.down ∧
 left - (1 : Int) = (writeF (Dk.mk down left turn opened bl sy) a b).snd.left ∧
 turn = (writeF (Dk.mk down left turn opened bl sy) a b).snd.turn ∧
 opened = (writeF (Dk.mk down left turn opened bl sy) a b).snd.opened ∧ True) ∧
 (True ∧ True) ∧
 (bl.set a.toNat (Ty.arr (127 : Nat) (Ty.int IntKind.u8)).dflt).set a.toNat
 (layF ((bl.set a.toNat (Ty.arr (127 : Nat) (Ty.int IntKind.u8)).dflt).getD a.toNat (nilT Int))
 (↑(0 : Nat) : Int).toNat (List.take ((128 : Nat) - (↑(0 : Nat) : Int).toNat) b)) =
 (writeF (Dk.mk down left turn opened bl sy) a b).snd.bl) ∧
 insF sy a (bl.getD a.toNat tBk.dflt) = (writeF (Dk.mk down left turn opened bl sy) a b).snd.sy ∧ True)) ∧
 (¬(0 : Int) < left →
 ¬(0 : Int) < left ∧
 (0 : Int) = (writeF (Dk.mk down left turn opened bl sy) a b).fst ∧
 ((True ∧
 down = (writeF (Dk.mk down left turn opened bl sy) a b).snd.down ∧
 left = (writeF (Dk.mk down left turn opened bl sy) a b).snd.left ∧
 turn = (writeF (Dk.mk down left turn opened bl sy) a b).snd.turn ∧
 opened = (writeF (Dk.mk down left turn opened bl sy) a b).snd.opened ∧ True) ∧
 (True ∧ True) ∧
 (bl.set a.toNat (Ty.arr (127 : Nat) (Ty.int IntKind.u8)).dflt).set a.toNat
 (layF ((bl.set a.toNat (Ty.arr (127 : Nat) (Ty.int IntKind.u8)).dflt).getD a.toNat (nilT Int))
 (↑(0 : Nat) : Int).toNat (List.take ((128 : Nat) - (↑(0 : Nat) : Int).toNat) b)) =
 (writeF (Dk.mk down left turn opened bl sy) a b).snd.bl) ∧
 insF sy a (bl.getD a.toNat tBk.dflt) = (writeF (Dk.mk down left turn opened bl sy) a b).snd.sy ∧ True)) ∧
 (¬¬(lookF sy a).isSome = true →
 ¬¬(lookF sy a).isSome = true ∧
 ((0 : Int) ≤ a ∧ a < (↑(32 : Nat) : Int)) ∧
 a.toNat < (31 : Nat) + (1 : Nat) ∧
 ((0 : Int) ≤ a ∧ a < (↑(32 : Nat) : Int)) ∧
 ((0 : Int) ≤ (0 : Int) ∧ (0 : Int) ≤ (128 : Int)) ∧
 (a.toNat < (31 : Nat) + (1 : Nat) ∧ (128 : Nat) = (128 : Nat)) ∧
 ((0 : Int) < left →
 (0 : Int) < left ∧
 Fits IntKind.i64 (left - (1 : Int)) ∧
 (left - (1 : Int) = (0 : Int) →
 left - (1 : Int) = (0 : Int) ∧
 (8 : Int) = (writeF (Dk.mk down left turn opened bl sy) a b).fst ∧
 ((True ∧
 true = (writeF (Dk.mk down left turn opened bl sy) a b).snd.down ∧
 left - (1 : Int) = (writeF (Dk.mk down left turn opened bl sy) a b).snd.left ∧
 turn = (writeF (Dk.mk down left turn opened bl sy) a b).snd.turn ∧
 opened = (writeF (Dk.mk down left turn opened bl sy) a b).snd.opened ∧ True) ∧
 (True ∧ True) ∧
 (bl.set a.toNat (Ty.arr (127 : Nat) (Ty.int IntKind.u8)).dflt).set a.toNat
 (layF ((bl.set a.toNat (Ty.arr (127 : Nat) (Ty.int IntKind.u8)).dflt).getD a.toNat (nilT Int))
 (↑(0 : Nat) : Int).toNat (List.take ((128 : Nat) - (↑(0 : Nat) : Int).toNat) b)) =
 (writeF (Dk.mk down left turn opened bl sy) a b).snd.bl) ∧
 sy = (writeF (Dk.mk down left turn opened bl sy) a b).snd.sy ∧ True) ∧
 (¬left - (1 : Int) = (0 : Int) →
 ¬left - (1 : Int) = (0 : Int) ∧
 (0 : Int) = (writeF (Dk.mk down left turn opened bl sy) a b).fst ∧
 ((True ∧
 down = (writeF (Dk.mk down left turn opened bl sy) a b).snd.down ∧
 left - (1 : Int) = (writeF (Dk.mk down left turn opened bl sy) a b).snd.left ∧
 turn = (writeF (Dk.mk down left turn opened bl sy) a b).snd.turn ∧
 opened = (writeF (Dk.mk down left turn opened bl sy) a b).snd.opened ∧ True) ∧
 (True ∧ True) ∧
 (bl.set a.toNat (Ty.arr (127 : Nat) (Ty.int IntKind.u8)).dflt).set a.toNat
 (layF ((bl.set a.toNat (Ty.arr (127 : Nat) (Ty.int IntKind.u8)).dflt).getD a.toNat (nilT Int))
 (↑(0 : Nat) : Int).toNat (List.take ((128 : Nat) - (↑(0 : Nat) : Int).toNat) b)) =
 (writeF (Dk.mk down left turn opened bl sy) a b).snd.bl) ∧
 sy = (writeF (Dk.mk down left turn opened bl sy) a b).snd.sy ∧ True)) ∧
 (¬(0 : Int) < left →
 ¬(0 : Int) < left ∧
 (0 : Int) = (writeF (Dk.mk down left turn opened bl sy) a b).fst ∧
 ((True ∧
 down = (writeF (Dk.mk down left turn opened bl sy) a b).snd.down ∧
 left = (writeF (Dk.mk down left turn opened bl sy) a b).snd.left ∧
 turn = (writeF (Dk.mk down left turn opened bl sy) a b).snd.turn ∧
 opened = (writeF (Dk.mk down left turn opened bl sy) a b).snd.opened ∧ True) ∧
 (True ∧ True) ∧
 (bl.set a.toNat (Ty.arr (127 : Nat) (Ty.int IntKind.u8)).dflt).set a.toNat
 (layF ((bl.set a.toNat (Ty.arr (127 : Nat) (Ty.int IntKind.u8)).dflt).getD a.toNat (nilT Int))
 (↑(0 : Nat) : Int).toNat (List.take ((128 : Nat) - (↑(0 : Nat) : Int).toNat) b)) =
 (writeF (Dk.mk down left turn opened bl sy) a b).snd.bl) ∧
 sy = (writeF (Dk.mk down left turn opened bl sy) a b).snd.sy ∧ True))))))) := by
 kernel_rfl
theorem g29_eq (down : Bool) (left : Int) (turn : Int) (opened : Int) (bl : List (List Int)) (sy : List (Int × List Int)) : g29 down left turn opened bl sy = (
 (down = true →
 down = true ∧
 down = true ∧
 (8 : Int) = (syncF (Dk.mk down left turn opened bl sy)).fst ∧
 ((True ∧
 down = (syncF (Dk.mk down left turn opened bl sy)).snd.down ∧
 left = (syncF (Dk.mk down left turn opened bl sy)).snd.left ∧
 turn = (syncF (Dk.mk down left turn opened bl sy)).snd.turn ∧ opened = (syncF (Dk.mk down left turn opened bl sy)).snd.opened ∧ True) ∧
 (True ∧ True) ∧ bl = (syncF (Dk.mk down left turn opened bl sy)).snd.bl) ∧
 True ∧ sy = (syncF (Dk.mk down left turn opened bl sy)).snd.sy ∧ True) ∧
 (down = false →
 down = false ∧
 down = false ∧
 ((0 : Int) < left →
 (0 : Int) < left ∧
 Fits IntKind.i64 (left - (1 : Int)) ∧
 (left - (1 : Int) = (0 : Int) →
 left - (1 : Int) = (0 : Int) ∧
 ((8 : Int) = (0 : Int) →
 (8 : Int) = (0 : Int) ∧
 (8 : Int) = (syncF (Dk.mk down left turn opened bl sy)).fst ∧
 ((True ∧
 true = (syncF (Dk.mk down left turn opened bl sy)).snd.down ∧
 left - (1 : Int) = (syncF (Dk.mk down left turn opened bl sy)).snd.left ∧
 turn = (syncF (Dk.mk down left turn opened bl sy)).snd.turn ∧ opened = (syncF (Dk.mk down left turn opened bl sy)).snd.opened ∧ True) ∧
 (True ∧ True) ∧ bl = (syncF (Dk.mk down left turn opened bl sy)).snd.bl) ∧
 True ∧ nilT (Int × tBk.den) = (syncF (Dk.mk down left turn opened bl sy)).snd.sy ∧ True) ∧
 (¬(8 : Int) = (0 : Int) →
 ¬(8 : Int) = (0 : Int) ∧
 (8 : Int) = (syncF (Dk.mk down left turn opened bl sy)).fst ∧
 ((True ∧
 true = (syncF (Dk.mk down left turn opened bl sy)).snd.down ∧
 left - (1 : Int) = (syncF (Dk.mk down left turn opened bl sy)).snd.left ∧
 turn = (syncF (Dk.mk down left turn opened bl sy)).snd.turn ∧ opened = (syncF (Dk.mk down left turn opened bl sy)).snd.opened ∧ True) ∧
 (True ∧ True) ∧ bl = (syncF (Dk.mk down left turn opened bl sy)).snd.bl) ∧
 True ∧ sy = (syncF (Dk.mk down left turn opened bl sy)).snd.sy ∧ True)) ∧
 (¬left - (1 : Int) = (0 : Int) →
 ¬left - (1 : Int) = (0 : Int) ∧
 ((0 : Int) = (0 : Int) →
 (0 : Int) = (0 : Int) ∧
 (0 : Int) = (syncF (Dk.mk down left turn opened bl sy)).fst ∧
 ((True ∧
 down = (syncF (Dk.mk down left turn opened bl sy)).snd.down ∧
 left - (1 : Int) = (syncF (Dk.mk down left turn opened bl sy)).snd.left ∧
 turn = (syncF (Dk.mk down left turn opened bl sy)).snd.turn ∧ opened = (syncF (Dk.mk down left turn opened bl sy)).snd.opened ∧ True) ∧
 (True ∧ True) ∧ bl = (syncF (Dk.mk down left turn opened bl sy)).snd.bl) ∧
 True ∧ nilT (Int × tBk.den) = (syncF (Dk.mk down left turn opened bl sy)).snd.sy ∧ True) ∧
 (¬(0 : Int) = (0 : Int) →
 ¬(0 : Int) = (0 : Int) ∧
 (0 : Int) = (syncF (Dk.mk down left turn opened bl sy)).fst ∧
 ((True ∧
 down = (syncF (Dk.mk down left turn opened bl sy)).snd.down ∧
 left - (1 : Int) = (syncF (Dk.mk down left turn opened bl sy)).snd.left ∧
 turn = (syncF (Dk.mk down left turn opened bl sy)).snd.turn ∧ opened = (syncF (Dk.mk down left turn opened bl sy)).snd.opened ∧ True) ∧
 (True ∧ True) ∧ bl = (syncF (Dk.mk down left turn opened bl sy)).snd.bl) ∧
 True ∧ sy = (syncF (Dk.mk down left turn opened bl sy)).snd.sy ∧ True))) ∧
 (¬(0 : Int) < left →
 ¬(0 : Int) < left ∧
 ((0 : Int) = (0 : Int) →
 (0 : Int) = (0 : Int) ∧
 (0 : Int) = (syncF (Dk.mk down left turn opened bl sy)).fst ∧
 ((True ∧
 down = (syncF (Dk.mk down left turn opened bl sy)).snd.down ∧
 left = (syncF (Dk.mk down left turn opened bl sy)).snd.left ∧
 turn = (syncF (Dk.mk down left turn opened bl sy)).snd.turn ∧ opened = (syncF (Dk.mk down left turn opened bl sy)).snd.opened ∧ True) ∧
 (True ∧ True) ∧ bl = (syncF (Dk.mk down left turn opened bl sy)).snd.bl) ∧
 True ∧ nilT (Int × tBk.den) = (syncF (Dk.mk down left turn opened bl sy)).snd.sy ∧ True) ∧
 (¬(0 : Int) = (0 : Int) →
 ¬(0 : Int) = (0 : Int) ∧
 (0 : Int) = (syncF (Dk.mk down left turn opened bl sy)).fst ∧
 ((True ∧
 down = (syncF (Dk.mk down left turn opened bl sy)).snd.down ∧
 left = (syncF (Dk.mk down left turn opened bl sy)).snd.left ∧
 turn = (syncF (Dk.mk down left turn opened bl sy)).snd.turn ∧ opened = (syncF (Dk.mk down left turn opened bl sy)).snd.opened ∧ True) ∧
 (True ∧ True) ∧ bl = (syncF (Dk.mk down left turn opened bl sy)).snd.bl) ∧
 True ∧ sy = (syncF (Dk.mk down left turn opened bl sy)).snd.sy ∧ True)))) := by
 kernel_rfl
theorem g37i_eq (down : Bool) (left : Int) (turn : Int) (opened : Int) (bl : List (List Int)) (sy : List (Int × List Int)) (a : Int) : g37i down left turn opened bl sy a = (
 (a < (0 : Int) →
 a < (0 : Int) ∧
 a < (0 : Int) ∧
 a < (0 : Int) ∧
 bl.getD a.toNat (nilT Int) = nilT Int ∧ ((True ∧ down = down ∧ left = left ∧ turn = turn ∧ opened = opened ∧ True) ∧ (True ∧ True) ∧ bl = bl) ∧ sy = sy ∧ True) ∧
 (¬a < (0 : Int) →
 ¬a < (0 : Int) ∧
 ¬a < (0 : Int) ∧
 ¬a < (0 : Int) ∧
 ((32 : Int) ≤ a →
 (32 : Int) ≤ a ∧
 (32 : Int) ≤ a ∧
 bl.getD a.toNat (nilT Int) = nilT Int ∧ ((True ∧ down = down ∧ left = left ∧ turn = turn ∧ opened = opened ∧ True) ∧ (True ∧ True) ∧ bl = bl) ∧ sy = sy ∧ True) ∧
 (¬(32 : Int) ≤ a →
 ¬(32 : Int) ≤ a ∧
 ¬(32 : Int) ≤ a ∧
 ((0 : Int) ≤ a ∧ a < (↑(32 : Nat) : Int)) ∧
 ((0 : Int) ≤ (0 : Int) ∧ (0 : Int) ≤ (128 : Int)) ∧
 (0 : Nat) < (128 : Nat) ∧
 (a.toNat < (31 : Nat) + (1 : Nat) ∧ (128 : Nat) = (128 : Nat)) ∧
 Small ((0 : Nat) + (List.drop (↑(0 : Nat) : Int).toNat (bl.getD a.toNat [])).length) ∧
 List.drop (↑(0 : Nat) : Int).toNat (bl.getD a.toNat (nilT Int)) = bl.getD a.toNat (nilT Int) ∧
 ((True ∧ down = down ∧ left = left ∧ turn = turn ∧ opened = opened ∧ True) ∧ (True ∧ True) ∧ bl = bl) ∧ sy = sy ∧ True))) := by
 kernel_rfl
theorem g27_eq (down : Bool) (left : Int) (turn : Int) (opened : Int) (bl : List (List Int)) (sy : List (Int × List Int)) (a : Int) : g27 down left turn opened bl sy a = (
 True ∧
 ((True ∧ True) ∧ sy = sy ∧ True) ∧
 (True ∧ True) ∧
 (sy.length ≤ (1000 : Nat) ∧ ∀ (p : Int × List Int), p ∈ sy → (0 : Int) ≤ p.fst ∧ p.fst < (1000 : Int)) ∧
 True ∧
 (∃ (x0 : Nat),
 x0 ≤ (keysF sy).length ∧
 (((True ∧ down = down ∧ left = left ∧ turn = turn ∧ opened = opened ∧ True) ∧ (True ∧ True) ∧ bl = tearN a sy (keysF sy) bl x0) ∧
 sy = sy ∧ (True ∧ True) ∧ keysF sy = keysF sy ∧ True) ∧
 (0 : Int) = (↑x0 : Int) ∧ (↑(keysF sy).length : Int) = (↑(keysF sy).length : Int) ∧ True ∧ True ∧ a = a ∧ True) ∧
 ∀ (x : Nat),
 x ≤ (keysF sy).length →
 ((↑x : Int) < (↑(keysF sy).length : Int) →
 (↑x : Int) < (↑(keysF sy).length : Int) ∧
 ((0 : Int) ≤ (↑x : Int) ∧ (↑x : Int) < (↑(keysF sy).length : Int)) ∧
 ((0 : Int) ≤ max a (0 : Int) ∧ (0 : Int) < (129 : Int)) ∧
 Fits IntKind.i64 ((37 : Int) * (↑x : Int)) ∧
 Fits IntKind.i64 (max a (0 : Int) % (129 : Int) + (37 : Int) * (↑x : Int)) ∧
 ((0 : Int) ≤ max a (0 : Int) % (129 : Int) + (37 : Int) * (↑x : Int) ∧ (0 : Int) < (129 : Int)) ∧
 ((0 : Int) ≤ (keysF sy).getD (↑x : Int).toNat (0 : Int) ∧ (keysF sy).getD (↑x : Int).toNat (0 : Int) < (↑(32 : Nat) : Int)) ∧
 ((0 : Int) ≤ (max a (0 : Int) % (129 : Int) + (37 : Int) * (↑x : Int)) % (129 : Int) ∧
 (max a (0 : Int) % (129 : Int) + (37 : Int) * (↑x : Int)) % (129 : Int) ≤ (↑(128 : Nat) : Int)) ∧
 ((0 : Int) ≤ (max a (0 : Int) % (129 : Int) + (37 : Int) * (↑x : Int)) % (129 : Int) ∧
 (max a (0 : Int) % (129 : Int) + (37 : Int) * (↑x : Int)) % (129 : Int) ≤ (↑(128 : Nat) : Int)) ∧
 (((keysF sy).getD (↑x : Int).toNat (0 : Int)).toNat < (31 : Nat) + (1 : Nat) ∧
 ((max a (0 : Int) % (129 : Int) + (37 : Int) * (↑x : Int)) % (129 : Int)).toNat +
 ((128 : Nat) - ((max a (0 : Int) % (129 : Int) + (37 : Int) * (↑x : Int)) % (129 : Int)).toNat) =
 (127 : Nat) + (1 : Nat)) ∧
 ((0 : Nat) < (1 : Nat) ∧
 ((max a (0 : Int) % (129 : Int) + (37 : Int) * (↑x : Int)) % (129 : Int)).toNat +
 ((128 : Nat) - ((max a (0 : Int) % (129 : Int) + (37 : Int) * (↑x : Int)) % (129 : Int)).toNat) =
 (127 : Nat) + (1 : Nat)) ∧
 Fits IntKind.i64 ((↑x : Int) + (1 : Int)) ∧
 ∃ (x' : Nat),
 x' ≤ (keysF sy).length ∧
 (keysF sy).length - x' < (keysF sy).length - x ∧
 (((True ∧ down = down ∧ left = left ∧ turn = turn ∧ opened = opened ∧ True) ∧
 (True ∧ True) ∧
 (tearN a sy (keysF sy) bl x).set ((keysF sy).getD (↑x : Int).toNat (0 : Int)).toNat
 (layF ((tearN a sy (keysF sy) bl x).getD ((keysF sy).getD (↑x : Int).toNat (0 : Int)).toNat (nilT Int))
 ((max a (0 : Int) % (129 : Int) + (37 : Int) * (↑x : Int)) % (129 : Int)).toNat
 (List.take ((128 : Nat) - ((max a (0 : Int) % (129 : Int) + (37 : Int) * (↑x : Int)) % (129 : Int)).toNat)
 (List.drop ((max a (0 : Int) % (129 : Int) + (37 : Int) * (↑x : Int)) % (129 : Int)).toNat
 (([(Ty.arr (127 : Nat) (Ty.int IntKind.u8)).dflt].set (0 : Nat)
 ((lookF sy ((keysF sy).getD (↑x : Int).toNat (0 : Int))).getD tBk.dflt)).getD
 (0 : Nat) (nilT Int))))) =
 tearN a sy (keysF sy) bl x') ∧
 sy = sy ∧ (True ∧ True) ∧ keysF sy = keysF sy ∧ True) ∧
 (↑x : Int) + (1 : Int) = (↑x' : Int) ∧ (↑(keysF sy).length : Int) = (↑(keysF sy).length : Int) ∧ True ∧ True ∧ a = a ∧ True) ∧
 (¬(↑x : Int) < (↑(keysF sy).length : Int) →
 ¬(↑x : Int) < (↑(keysF sy).length : Int) ∧
 Fits IntKind.i64 (turn + (1 : Int)) ∧
 True ∧
 ((True ∧ false = false ∧ (0 : Int) = (0 : Int) ∧ turn + (1 : Int) = turn + (1 : Int) ∧ opened = opened ∧ True) ∧
 (True ∧ True) ∧ tearN a sy (keysF sy) bl x = tearN a sy (keysF sy) bl (keysF sy).length) ∧
 True ∧ nilT (Int × tBk.den) = nilT (Int × List Int) ∧ True)) := by
 kernel_rfl
end Go.SX.Pe

/- Chapter 10: the disk's functions, proved. -/
namespace Go.SX.Pe
open Go Go.Proofs
theorem cx0 : CtxOK Tryd.prog (cx [] []) := cx_ok (cs := []) trivial []
theorem i51_ok : i51.OK Tryd.prog := inl_ok cx0 (by kernel_rfl) (by kernel_rfl) (by kernel_rfl)
theorem i56_ok : i56.OK Tryd.prog := inl_ok (cx_ok (cs := [i51]) ⟨i51_ok, trivial⟩ []) (by kernel_rfl) (by kernel_rfl) (by kernel_rfl)
theorem C34_ok : CtxOK Tryd.prog C34 := cx_ok (cs := [i51, i56]) ⟨i51_ok, i56_ok, trivial⟩ []
theorem dflt_zeroB : (Ty.arr 127 (Ty.int IntKind.u8)).dflt = zeroB := rfl
theorem lay_eq {bl : List (List Int)} {b : List Int} {k n : Nat} (hk : k < bl.length) (hn : n = 0) (hb : b.length ≤ 128) :
    (bl.set k (Ty.arr 127 (Ty.int IntKind.u8)).dflt).set k (layF ((bl.set k (Ty.arr 127 (Ty.int IntKind.u8)).dflt).getD k (nilT Int)) n (List.take (128 - n) b)) = bl.set k (layF zeroB 0 b) := by
  subst hn
  rw [dflt_zeroB, List.set_set, Nat.sub_zero, List.take_of_length_le hb]
  congr 1
  simp [List.getD, hk]
theorem getD_irr {α : Type} {l : List α} {k : Nat} (h : k < l.length) (d d' : α) : l.getD k d = l.getD k d' := by simp [List.getD, h]
theorem g34_ok {d : Dk} (h : DkOK d) (a : Int) (b : List Int) : g34 d.down d.left d.turn d.opened d.bl d.sy a b := by
  obtain ⟨down, left, turn, opened, bl, sy⟩ := d
  have hb : bl.length = 32 := h.bl
  have hl0 : 0 ≤ left := h.left0
  have hl1 : left ≤ 9223372036854775807 := h.left1
  refine (g34_eq ..).mpr ?_
  simp only [pp1, eq_self, and_true, true_and, and_self, Int.toNat_natCast]
  have z0 : (↑(0 : Nat) : Int).toNat = 0 := rfl
  refine ⟨fun h1 => ?_, fun h1 => ⟨fun h2 => ?_, fun h2 => ⟨fun h3 => ?_, fun h3 => ⟨fun h4 => ?_, fun h4 => ?_⟩⟩⟩⟩
  · have e : writeF ⟨down, left, turn, opened, bl, sy⟩ a b = (1, ⟨down, left, turn, opened, bl, sy⟩) := by simp [writeF, h1]
    rw [e]; simp
  · have e : writeF ⟨down, left, turn, opened, bl, sy⟩ a b = (1, ⟨down, left, turn, opened, bl, sy⟩) := by simp [writeF, h1, h2]
    rw [e]; simp
  · have e : writeF ⟨down, left, turn, opened, bl, sy⟩ a b = (1, ⟨down, left, turn, opened, bl, sy⟩) := by
      have : 128 < b.length := by omega
      simp [writeF, h1, h2, this]
    rw [e]; simp
  · have h3' : ¬ 128 < b.length := by omega
    have e : writeF ⟨down, left, turn, opened, bl, sy⟩ a b = (8, ⟨down, left, turn, opened, bl, sy⟩) := by simp [writeF, h1, h2, h3', h4]
    rw [e]; simp [h4]
  · have h3' : ¬ 128 < b.length := by omega
    have ha : a.toNat < bl.length := by omega
    have hlay := lay_eq (b := b) ha z0 (by omega)
    have hget := getD_irr ha tBk.dflt []
    have e0 : writeF ⟨down, left, turn, opened, bl, sy⟩ a b = actF (wrF ⟨down, left, turn, opened, bl, sy⟩ a b) := by simp [writeF, h1, h2, h3', h4]
    have e1 : 0 < left → left - 1 = 0 → writeF ⟨down, left, turn, opened, bl, sy⟩ a b = (8, ⟨true, 0, turn, opened, bl.set a.toNat (layF zeroB 0 b), syF ⟨down, left, turn, opened, bl, sy⟩ a⟩) := fun k1 k2 => by rw [e0]; simp [actF, wrF, k1, k2]
    have e2 : 0 < left → ¬ left - 1 = 0 → writeF ⟨down, left, turn, opened, bl, sy⟩ a b = (0, ⟨down, left - 1, turn, opened, bl.set a.toNat (layF zeroB 0 b), syF ⟨down, left, turn, opened, bl, sy⟩ a⟩) := fun k1 k2 => by rw [e0]; simp [actF, wrF, k1, k2]
    have e3 : ¬ 0 < left → writeF ⟨down, left, turn, opened, bl, sy⟩ a b = (0, ⟨down, left, turn, opened, bl.set a.toNat (layF zeroB 0 b), syF ⟨down, left, turn, opened, bl, sy⟩ a⟩) := fun k1 => by rw [e0]; simp [actF, wrF, k1]
    have hf : 0 < left → Fits .i64 (left - 1) := fun k1 => fitL (by omega) (by omega)
    refine ⟨fun h5 => ?_, fun h5 => ?_⟩
    · have hs : syF ⟨down, left, turn, opened, bl, sy⟩ a = insF sy a (bl.getD a.toNat tBk.dflt) := by unfold syF; rw [hget]; simp [h5]
      refine ⟨⟨by omega, by omega⟩, by omega, ⟨by omega, by omega⟩, by omega, ⟨by omega, by omega⟩, ⟨by omega, by omega⟩, by omega, fun h6 => ⟨hf h6, fun h7 => ?_, fun h7 => ?_⟩, fun h6 => ?_⟩
      · rw [e1 h6 h7, hs]; exact ⟨rfl, ⟨⟨rfl, h7, rfl, rfl⟩, hlay⟩, rfl⟩
      · rw [e2 h6 h7, hs]; exact ⟨rfl, ⟨⟨rfl, rfl, rfl, rfl⟩, hlay⟩, rfl⟩
      · rw [e3 h6, hs]; exact ⟨rfl, ⟨⟨rfl, rfl, rfl, rfl⟩, hlay⟩, rfl⟩
    · have hs : syF ⟨down, left, turn, opened, bl, sy⟩ a = sy := by
        have : (lookF sy a).isSome = true := Decidable.not_not.1 h5
        unfold syF; simp [this]
      refine ⟨⟨by omega, by omega⟩, by omega, ⟨by omega, by omega⟩, ⟨by omega, by omega⟩, by omega, fun h6 => ⟨hf h6, fun h7 => ?_, fun h7 => ?_⟩, fun h6 => ?_⟩
      · rw [e1 h6 h7, hs]; exact ⟨rfl, ⟨⟨rfl, h7, rfl, rfl⟩, hlay⟩, rfl⟩
      · rw [e2 h6 h7, hs]; exact ⟨rfl, ⟨⟨rfl, rfl, rfl, rfl⟩, hlay⟩, rfl⟩
      · rw [e3 h6, hs]; exact ⟨rfl, ⟨⟨rfl, rfl, rfl, rfl⟩, hlay⟩, rfl⟩
theorem H34_ok : HeapOK Tryd.prog H34 :=
  heap_flat (c := H34) (fn := Tryd.f34) (by kernel_rfl) (by kernel_rfl) (by kernel_rfl) (fun _ => ⟨trivial, trivial, trivial⟩) (fun _ => C34) (fun _ => C34_ok) (fun x hx => g34_ok hx x.2.1 x.2.2)
theorem g29_ok {d : Dk} (h : DkOK d) : g29 d.down d.left d.turn d.opened d.bl d.sy := by
  obtain ⟨down, left, turn, opened, bl, sy⟩ := d
  have hl0 : 0 ≤ left := h.left0
  have hl1 : left ≤ 9223372036854775807 := h.left1
  refine (g29_eq ..).mpr ?_
  simp only [pp1, eq_self, and_true, true_and, and_self, Int.toNat_natCast]
  refine ⟨fun h1 => ?_, fun h1 => ⟨fun h2 => ⟨fitL (by omega) (by omega), fun h3 => ⟨fun h4 => absurd h4 (by decide), fun _ => ?_⟩, fun h3 => ⟨fun _ => ?_, fun h4 => (h4 trivial).elim⟩⟩, fun h2 => ⟨fun _ => ?_, fun h4 => (h4 trivial).elim⟩⟩⟩
  · have e : syncF ⟨down, left, turn, opened, bl, sy⟩ = (8, ⟨down, left, turn, opened, bl, sy⟩) := by simp [syncF, h1]
    rw [e]; simp
  · have e : syncF ⟨down, left, turn, opened, bl, sy⟩ = (8, ⟨true, 0, turn, opened, bl, sy⟩) := by simp [syncF, actF, h1, h2, h3]
    rw [e]; exact ⟨rfl, ⟨⟨rfl, h3, rfl, rfl⟩, rfl⟩, rfl⟩
  · have e : syncF ⟨down, left, turn, opened, bl, sy⟩ = (0, ⟨down, left - 1, turn, opened, bl, []⟩) := by simp [syncF, actF, clearD, h1, h2, h3]
    rw [e]; exact ⟨rfl, ⟨⟨rfl, rfl, rfl, rfl⟩, rfl⟩, rfl⟩
  · have e : syncF ⟨down, left, turn, opened, bl, sy⟩ = (0, ⟨down, left, turn, opened, bl, []⟩) := by simp [syncF, actF, clearD, h1, h2]
    rw [e]; exact ⟨rfl, ⟨⟨rfl, rfl, rfl, rfl⟩, rfl⟩, rfl⟩
theorem H29_ok : HeapOK Tryd.prog H29 :=
  heap_flat (c := H29) (fn := Tryd.f29) (by kernel_rfl) (by kernel_rfl) (by kernel_rfl) (fun _ => ⟨trivial, trivial, trivial⟩) (fun _ => C34) (fun _ => C34_ok) (fun x hx => g29_ok hx)
theorem g19_eq : g19 = (True ∧ ((True ∧ false = false ∧ (0 : Int) = 0 ∧ (0 : Int) = 0 ∧ (0 : Int) = 0 ∧ True) ∧ (True ∧ True) ∧ newD.bl = newD.bl) ∧ nilT (Int × List Int) = nilT (Int × List Int) ∧ True) := by kernel_rfl
theorem H19_ok : HeapOK Tryd.prog H19 :=
  heap_flat (c := H19) (fn := Tryd.f19) (by kernel_rfl) (by kernel_rfl) (by kernel_rfl) (fun _ => trivial) (fun _ => cx [] []) (fun _ => cx0) (fun _ _ => g19_eq.mpr (by simp))
theorem i59_ok : i59.OK Tryd.prog := inl_ok cx0 (by kernel_rfl) (by kernel_rfl) (by kernel_rfl)
theorem C37_ok : CtxOK Tryd.prog C37 := cx_ok (cs := [i51, i59]) ⟨i51_ok, i59_ok, trivial⟩ []
theorem DkOK.len {d : Dk} (h : DkOK d) {k : Nat} (hk : k < 32) (x : List Int) : (d.bl.getD k x).length = 128 := by
  have hb := h.bl
  have : d.bl.getD k x ∈ d.bl := by simp [List.getD, List.getElem?_eq_getElem (show k < d.bl.length by omega)]
  exact h.each _ this
theorem g37i_ok {d : Dk} (h : DkOK d) {a : Int} (h0 : 0 ≤ a) (h1 : a < 32) : g37i d.down d.left d.turn d.opened d.bl d.sy a := by
  refine (g37i_eq ..).mpr ?_
  simp only [pp1, eq_self, and_true, true_and, and_self, Int.toNat_natCast]
  have hl := h.len (k := a.toNat) (by omega) []
  refine ⟨fun _ => by omega, fun _ => ⟨fun _ => by omega, fun _ => ⟨⟨h0, h1⟩, ⟨by decide, by decide⟩, by omega, by omega, by unfold Small; simp only [List.length_drop, hl]; omega, ?_⟩⟩⟩
  exact List.drop_zero
theorem H37i_ok : HeapOK Tryd.prog H37i :=
  heap_flat (c := H37i) (fn := Tryd.f37) (by kernel_rfl) (by kernel_rfl) (by kernel_rfl) (fun _ => ⟨trivial, trivial, trivial⟩) (fun _ => C37) (fun _ => C37_ok) (fun _ hx => g37i_ok hx.1 hx.2.1 hx.2.2)
theorem keysF_perm (sy : List (Int × List Int)) : (keysF sy).Perm (sy.map Prod.fst) := List.mergeSort_perm _ _
theorem pigeon {α : Type} [DecidableEq α] : (a b : List α) → a.Nodup → (∀ x ∈ a, x ∈ b) → a.length ≤ b.length
  | [], _, _, _ => Nat.zero_le _
  | x :: r, b, hn, hs => by
    rw [List.nodup_cons] at hn
    have hx := hs x (by simp)
    have := pigeon r (b.erase x) hn.2 fun y hy => (List.mem_erase_of_ne (fun e => hn.1 (by rw [← e]; exact hy))).2 (hs y (List.mem_cons_of_mem _ hy))
    rw [List.length_erase_of_mem hx] at this
    have hp : 0 < b.length := List.length_pos_of_mem hx
    simp only [List.length_cons]
    omega
theorem ints_le {l : List Int} {lo : Int} {n : Nat} (hn : l.Nodup) (h : ∀ x ∈ l, lo ≤ x ∧ x < lo + n) : l.length ≤ n := by
  have := pigeon l ((List.range n).map fun i : Nat => lo + (i : Int)) hn fun x hx => by
    rw [List.mem_map]
    have := h x hx
    exact ⟨(x - lo).toNat, List.mem_range.2 (by omega), by omega⟩
  rw [List.length_map, List.length_range] at this
  exact this
theorem DkOK.syLen {d : Dk} (h : DkOK d) : d.sy.length ≤ 32 := by
  have := ints_le (lo := 0) (n := 32) h.nd (fun x hx => by
    obtain ⟨p, hp, rfl⟩ := List.mem_map.1 hx
    have := (h.sy p hp).1
    omega)
  simpa using this
theorem keysF_len (sy : List (Int × List Int)) : (keysF sy).length = sy.length := by rw [(keysF_perm sy).length_eq, List.length_map]
theorem DkOK.key {d : Dk} (h : DkOK d) {k : Nat} (hk : k < (keysF d.sy).length) : 0 ≤ (keysF d.sy).getD k 0 ∧ (keysF d.sy).getD k 0 < 32 := by
  have hm : (keysF d.sy).getD k 0 ∈ keysF d.sy := by simp [List.getD, hk]
  obtain ⟨p, hp, e⟩ := List.mem_map.1 ((keysF_perm d.sy).mem_iff.1 hm)
  rw [← e]
  exact (h.sy p hp).1
theorem cut_range (a : Int) (x : Nat) : 0 ≤ cutN a x ∧ cutN a x ≤ 128 := by
  unfold cutN
  omega
theorem lookF_mem {α : Type} : {l : List (Int × α)} → {k : Int} → {x : α} → lookF l k = some x → (k, x) ∈ l
  | [], _, _, h => by cases h
  | (j, y) :: r, k, x, h => by
    unfold lookF at h
    split at h
    · rename_i e; subst e; cases h; exact List.mem_cons_self
    · exact List.mem_cons_of_mem _ (lookF_mem h)
theorem DkOK.look {d : Dk} (h : DkOK d) (k : Int) : ((lookF d.sy k).getD zeroB).length = 128 := by
  cases hl : lookF d.sy k with
  | none => rfl
  | some x => exact (h.sy _ (lookF_mem hl)).2
theorem g27_ok {d : Dk} (h : DkOK d) (ht0 : 0 ≤ d.turn) (ht1 : d.turn ≤ 1000000) (a : Int) : g27 d.down d.left d.turn d.opened d.bl d.sy a := by
  refine (g27_eq ..).mpr ?_
  simp only [pp1, eq_self, and_true, true_and, and_self, Int.toNat_natCast]
  have hs := h.syLen
  have hk := keysF_len d.sy
  refine ⟨⟨by omega, fun p hp => by have := (h.sy p hp).1; omega⟩, ⟨0, by omega, rfl, rfl⟩, fun x hx => ⟨fun h1 => ?_, fun h1 => ?_⟩⟩
  · have hx' : x < (keysF d.sy).length := by omega
    have hc := cut_range a x
    have hc' : (max a 0 % 129 + 37 * (x : Int)) % 129 = cutN a x := rfl
    have hkey := h.key hx'
    have hm : 0 ≤ max a 0 % 129 ∧ max a 0 % 129 < 129 := by omega
    rw [hc']
    refine ⟨⟨by omega, h1⟩, ⟨by omega, by decide⟩, fi (by omega) (by omega), fi (by omega) (by omega), ⟨by omega, by decide⟩, hkey, hc, hc, ⟨by omega, by omega⟩, ⟨by decide, by omega⟩, fi (by omega) (by omega), x + 1, by omega, by omega, ?_, by omega⟩
    show _ = (tearN a d.sy (keysF d.sy) d.bl x).set ((keysF d.sy).getD x 0).toNat (tearB a x ((tearN a d.sy (keysF d.sy) d.bl x).getD ((keysF d.sy).getD x 0).toNat []) ((lookF d.sy ((keysF d.sy).getD x 0)).getD zeroB))
    unfold tearB
    congr 2
    rw [List.take_of_length_le]
    · rfl
    · have := h.look ((keysF d.sy).getD x 0)
      rw [List.length_drop]
      show ((lookF d.sy ((keysF d.sy).getD x 0)).getD zeroB).length - _ ≤ _
      omega
  · have : x = (keysF d.sy).length := by omega
    subst this
    exact ⟨fi (by omega) (by omega), rfl⟩
end Go.SX.Pe

/- Chapter 10: slices.Sort, slices.Sorted of maps.Keys, maps.Clone: the library's contracts, laid at this program. -/
namespace Go.Proofs
open Go.Shelf
def Tryd.lays189_ren : Go.Shelf.Ren := ⟨fun | 189 => 75 | 125 => 91 | 257 => 90 | 128 => 103 | 129 => 104 | 294 => 94 | 295 => 95 | 296 => 96 | 297 => 97 | 298 => 98 | 299 => 99 | 216 => 100 | 300 => 101 | 301 => 102 | 328 => 105 | 329 => 106 | 330 => 107 | 331 => 108 | 332 => 109 | 215 => 110 | 343 => 111 | n => n, fun | 28 => 62 | 3 => 3 | 46 => 147 | 0 => 0 | 51 => 163 | 53 => 146 | 4 => 4 | 183 => 156 | 182 => 155 | 131 => 160 | 5 => 5 | 9 => 9 | 218 => 165 | 222 => 169 | 228 => 171 | 229 => 172 | n => n, fun | n => n⟩
theorem Tryd.lays189 : Go.Proofs.Lays.n189 Tryd.prog Tryd.lays189_ren := {
  mixed := by kernel_rfl
  f125 := Tryd.func91.trans (congrArg some (by kernel_rfl))
  f128 := Tryd.func103.trans (congrArg some (by kernel_rfl))
  f129 := Tryd.func104.trans (congrArg some (by kernel_rfl))
  f189 := Tryd.func75.trans (congrArg some (by kernel_rfl))
  f215 := Tryd.func110.trans (congrArg some (by kernel_rfl))
  f216 := Tryd.func100.trans (congrArg some (by kernel_rfl))
  f257 := Tryd.func90.trans (congrArg some (by kernel_rfl))
  f294 := Tryd.func94.trans (congrArg some (by kernel_rfl))
  f295 := Tryd.func95.trans (congrArg some (by kernel_rfl))
  f296 := Tryd.func96.trans (congrArg some (by kernel_rfl))
  f297 := Tryd.func97.trans (congrArg some (by kernel_rfl))
  f298 := Tryd.func98.trans (congrArg some (by kernel_rfl))
  f299 := Tryd.func99.trans (congrArg some (by kernel_rfl))
  f300 := Tryd.func101.trans (congrArg some (by kernel_rfl))
  f301 := Tryd.func102.trans (congrArg some (by kernel_rfl))
  f328 := Tryd.func105.trans (congrArg some (by kernel_rfl))
  f329 := Tryd.func106.trans (congrArg some (by kernel_rfl))
  f330 := Tryd.func107.trans (congrArg some (by kernel_rfl))
  f331 := Tryd.func108.trans (congrArg some (by kernel_rfl))
  f332 := Tryd.func109.trans (congrArg some (by kernel_rfl))
  f343 := Tryd.func111.trans (congrArg some (by kernel_rfl))
  t0 := Tryd.underlying0
  a0 := Tryd.isAgg0
  z0 := Tryd.sizeOf0
  v0 := Tryd.zeroValue0
  t3 := Tryd.underlying3
  a3 := Tryd.isAgg3
  z3 := Tryd.sizeOf3
  v3 := Tryd.zeroValue3
  t4 := Tryd.underlying4
  a4 := Tryd.isAgg4
  z4 := Tryd.sizeOf4
  v4 := Tryd.zeroValue4
  t5 := Tryd.underlying5
  a5 := Tryd.isAgg5
  z5 := Tryd.sizeOf5
  v5 := Tryd.zeroValue5
  t9 := Tryd.underlying9
  a9 := Tryd.isAgg9
  z9 := Tryd.sizeOf9
  v9 := Tryd.zeroValue9
  t28 := Tryd.underlying62
  a28 := Tryd.isAgg62
  z28 := Tryd.sizeOf62
  v28 := Tryd.zeroValue62
  t46 := Tryd.underlying147
  a46 := Tryd.isAgg147
  z46 := Tryd.sizeOf147
  v46 := Tryd.zeroValue147
  t51 := Tryd.underlying163
  a51 := Tryd.isAgg163
  z51 := Tryd.sizeOf163
  v51 := Tryd.zeroValue163
  t53 := Tryd.underlying146
  a53 := Tryd.isAgg146
  z53 := Tryd.sizeOf146
  v53 := Tryd.zeroValue146
  t131 := Tryd.underlying160
  a131 := Tryd.isAgg160
  z131 := Tryd.sizeOf160
  v131 := Tryd.zeroValue160
  t182 := Tryd.underlying155
  a182 := Tryd.isAgg155
  z182 := Tryd.sizeOf155
  v182 := Tryd.zeroValue155
  t183 := Tryd.underlying156
  a183 := Tryd.isAgg156
  z183 := Tryd.sizeOf156
  v183 := Tryd.zeroValue156
  t218 := Tryd.underlying165
  a218 := Tryd.isAgg165
  z218 := Tryd.sizeOf165
  v218 := Tryd.zeroValue165
  t222 := Tryd.underlying169
  a222 := Tryd.isAgg169
  z222 := Tryd.sizeOf169
  v222 := Tryd.zeroValue169
  t228 := Tryd.underlying171
  a228 := Tryd.isAgg171
  z228 := Tryd.sizeOf171
  v228 := Tryd.zeroValue171
  t229 := Tryd.underlying172
  a229 := Tryd.isAgg172
  z229 := Tryd.sizeOf172
  v229 := Tryd.zeroValue172 }
def Tryd.keysA_ren : Go.Shelf.Ren := ⟨fun | 7 => 55 | 10 => 76 | n => n, fun | 23 => 47 | 26 => 3 | 3 => 45 | 28 => 105 | 0 => 0 | 27 => 104 | 33 => 134 | 4 => 4 | n => n, fun | n => n⟩
theorem Tryd.keysA : Go.Proofs.SlLaysZI.n7 Tryd.prog Tryd.keysA_ren := {
  mixed := by kernel_rfl
  f7 := ⟨Tryd.f55.name, by kernel_rfl, Tryd.func55.trans (congrArg some (by kernel_rfl))⟩
  f10 := ⟨Tryd.f76.name, by kernel_rfl, Tryd.func76.trans (congrArg some (by kernel_rfl))⟩
  t0 := Tryd.underlying0
  a0 := Tryd.isAgg0
  z0 := Tryd.sizeOf0
  v0 := Tryd.zeroValue0
  t4 := Tryd.underlying4
  a4 := Tryd.isAgg4
  z4 := Tryd.sizeOf4
  v4 := Tryd.zeroValue4
  t23 := Tryd.underlying47
  a23 := Tryd.isAgg47
  z23 := Tryd.sizeOf47
  v23 := Tryd.zeroValue47
  t26 := Tryd.underlying3
  a26 := Tryd.isAgg3
  z26 := Tryd.sizeOf3
  v26 := Tryd.zeroValue3
  t27 := Tryd.underlying104
  a27 := Tryd.isAgg104
  z27 := Tryd.sizeOf104
  v27 := Tryd.zeroValue104
  t28 := Tryd.underlying105
  a28 := Tryd.isAgg105
  z28 := Tryd.sizeOf105
  v28 := Tryd.zeroValue105
  t33 := Tryd.underlying134
  a33 := Tryd.isAgg134
  z33 := Tryd.sizeOf134
  v33 := Tryd.zeroValue134 }
def Tryd.sortedA_ren : Go.Shelf.Ren := ⟨fun | 6 => 54 | 8 => 74 | 9 => 75 | 11 => 89 | 13 => 91 | 12 => 90 | 23 => 103 | 24 => 104 | 14 => 94 | 15 => 95 | 16 => 96 | 17 => 97 | 18 => 98 | 19 => 99 | 20 => 100 | 21 => 101 | 22 => 102 | 25 => 105 | 26 => 106 | 27 => 107 | 28 => 108 | 29 => 109 | 30 => 110 | 31 => 111 | n => n, fun | 26 => 3 | 28 => 105 | 24 => 62 | 0 => 0 | 3 => 3 | 37 => 147 | 48 => 163 | 50 => 146 | 4 => 4 | 40 => 156 | 39 => 155 | 45 => 160 | 5 => 5 | 9 => 9 | 51 => 165 | 55 => 169 | 57 => 171 | 58 => 172 | 33 => 134 | n => n, fun | n => n⟩
theorem Tryd.sortedA : Go.Proofs.SlLaysZI.n6 Tryd.prog Tryd.sortedA_ren := {
  mixed := by kernel_rfl
  f6 := ⟨Tryd.f54.name, by kernel_rfl, Tryd.func54.trans (congrArg some (by kernel_rfl))⟩
  f8 := ⟨Tryd.f74.name, by kernel_rfl, Tryd.func74.trans (congrArg some (by kernel_rfl))⟩
  f11 := ⟨Tryd.f89.name, by kernel_rfl, Tryd.func89.trans (congrArg some (by kernel_rfl))⟩
  t0 := Tryd.underlying0
  a0 := Tryd.isAgg0
  z0 := Tryd.sizeOf0
  v0 := Tryd.zeroValue0
  t24 := Tryd.underlying62
  a24 := Tryd.isAgg62
  z24 := Tryd.sizeOf62
  v24 := Tryd.zeroValue62
  t26 := Tryd.underlying3
  a26 := Tryd.isAgg3
  z26 := Tryd.sizeOf3
  v26 := Tryd.zeroValue3
  t28 := Tryd.underlying105
  a28 := Tryd.isAgg105
  z28 := Tryd.sizeOf105
  v28 := Tryd.zeroValue105
  i26 := by kernel_rfl }
def Tryd.cloneA_ren : Go.Shelf.Ren := ⟨fun | 5 => 58 | 7 => 77 | n => n, fun | 23 => 47 | 25 => 3 | 3 => 45 | 4 => 4 | 20 => 20 | n => n, fun | n => n⟩
open Go.RowKit Go.Sort Go.Maps in
theorem Tryd.sortsA (m : Nat) : AnyZI.SortsIn Tryd.prog Tryd.sortedA_ren Fence.wide m :=
  ⟨fun blk off cap ss W hH hblk hsz => callsIn_wide.2 (Any.slices_Sort_int Tryd.lays189 blk off cap ss W hH hblk hsz),
   fun p cap W => callsIn_wide.2 (Any.slices_Sort_int_none Tryd.lays189 p cap W)⟩
open Go.RowKit Go.Sort Go.Maps in
theorem Tryd.sorted_keys {H : Type} (b Bm nn : Nat) (D0 : DataW H) (R : Value → Option (DataW H × List MemPlace)) (w : World) (hBm : Bm < w.heap.size) (hm : w.cell? ⟨Bm, 0, none⟩ = some (.map (some b))) (hown : w.ownsMap Tryd.prog 3 R b nn D0) (hmax : Maps.size D0 ≤ maxLen) (hbytes : Maps.size D0 * 8 ≤ 140737488355328) :
    Calls Tryd.prog 54 #[.func (.func 76) #[] #[.pointer (some ⟨Bm, 0, none⟩)]] w fun e w' => ∃ (v : Value) (ss : List Int), e = .returned v ∧ ss.Perm (intKeys D0) ∧
      w'.ownsRow w.heap.size 3 1 v ss.length ((ss.mergeSort (fun x y => decide (x ≤ y))).map encZ) ∧ (v = .slice none 0 0 ↔ ss = []) ∧ Below w.heap.size w w' := by
  have hseq : SeqGives Fence.wide 2 Tryd.prog 76 #[.pointer (some ⟨Bm, 0, none⟩)] encZ (fun ss => ss.Perm (intKeys D0)) (Maps.size D0) w :=
    AnyZI.keys_gives (ρ := Tryd.keysA_ren) { Tryd.keysA with } Fence.wide _ trivial rfl (by omega) Bm b nn D0 _ hBm hm hown
  have cS := AnyZI.sorted_in Tryd.sortedA Fence.wide 5 trivial trivial trivial trivial rfl (by omega) (Tryd.sortsA _) (enters_of Tryd.func75 (by kernel_rfl) rfl) 76 #[.pointer (some ⟨Bm, 0, none⟩)] trivial (enters_of Tryd.func76 (by kernel_rfl) rfl) _ _ hmax hbytes _ hseq
  change CallsIn _ _ Tryd.prog 54 _ _ _ at cS
  exact callsIn_wide.1 cS
end Go.Proofs

/- Chapter 10: slices.Sorted of maps.Keys and maps.Clone, as contracts. -/
namespace Go.SX.Pe
open Go Go.Proofs Go.RowKit
theorem below_grown {w w' : World} (h : Below w.heap.size w w') : w.grownBy w' none := ⟨h.os, h.tape, h.output, h.size, fun b hb _ => h.block b hb⟩
theorem ints_elems {w : World} {ok : Nat → Prop} (l : List Int) : ElemsAt ((Ty.int .i64).Rep w ok) 1 l fun k => (l.map encZ)[k]? := by
  intro i x hx
  refine ⟨[.int .i64 x], rfl, rfl, fun j u hu => ?_⟩
  cases j with
  | succ j => simp at hu
  | zero =>
    simp only [List.getElem?_cons_zero, Option.some.injEq] at hu
    subst hu
    show (l.map encZ)[i * 1 + 0]? = _
    rw [Nat.mul_one, Nat.add_zero, List.getElem?_map, hx]
    rfl
theorem map_owned {w : World} {b clock : Nat} {ents : Array MapEntry} {es : List (Int × List Int)} {ok : Nat → Prop} (hb : w.heap[b]? = some (.map ents clock)) (ht : TabRep w ok true tBk es ents.toList) (hst : Stamped ents clock) (hl : es.length ≤ 1000) (hk : ∀ p ∈ es, 0 ≤ p.1 ∧ p.1 < 1000) :
    ∃ D : DataW Unit, w.ownsMap Tryd.prog 3 (fun _ => some (.nil, [])) b ents.size D ∧ Maps.size D = es.length ∧ (intKeys D).Perm (es.map Prod.fst) := by
  obtain ⟨t1, t2, t3⟩ := ht
  have hu : Tryd.prog.underlying 3 = some (.int .i64) := Tryd.underlying3
  have hkey : ∀ m ∈ ents.toList, ∃ n : Int, m.key = .int .i64 n ∧ (Lit.int .i64 n).wf = true := by
    intro m hm
    obtain ⟨k, hk', e⟩ := List.getElem_of_mem hm
    have hk2 : k < es.length := by omega
    have h1 := (t3 k _ m (List.getElem?_eq_getElem hk2) (by rw [List.getElem?_eq_getElem hk', e])).1
    have h2 := hk _ (List.getElem_mem hk2)
    refine ⟨_, h1, ?_⟩
    unfold Lit.wf
    generalize es[k].1 = n at h2
    simp [IntKind.min, IntKind.max, IntKind.signed, IntKind.bits]
    omega
  have hkeys : ents.toList.map (·.key) = es.map fun p => Value.int .i64 p.1 := by
    apply List.ext_getElem?
    intro k
    rw [List.getElem?_map, List.getElem?_map]
    cases h1 : ents.toList[k]? with
    | none =>
      have : ents.toList.length ≤ k := List.getElem?_eq_none_iff.1 h1
      rw [List.getElem?_eq_none (by omega)]
      rfl
    | some m =>
      have hlt := (List.getElem?_eq_some_iff.1 h1).1
      have hk2 : k < es.length := by omega
      rw [List.getElem?_eq_getElem hk2]
      simp only [Option.map_some]
      rw [(t3 k _ m (List.getElem?_eq_getElem hk2) h1).1]
  have hrd : ∀ m ∈ ents.toList, ∃ n : Int, m.key = .int .i64 n ∧ Go.WideElems.rd Tryd.prog 3 (fun _ => some ((.nil : DataW Unit), [])) m = some (.int .i64 n, .nil) := by
    intro m hm
    obtain ⟨n, h1, h2⟩ := hkey m hm
    refine ⟨n, h1, ?_⟩
    simp [Go.WideElems.rd, keyOf, hu, mapKey, h1, h2]
  have hnd : (ents.toList.map (·.key)).Nodup := by
    rw [hkeys, show (fun p : Int × List Int => Value.int .i64 p.1) = (fun n : Int => Value.int .i64 n) ∘ Prod.fst from rfl, ← List.map_map]
    refine List.Pairwise.map _ (fun a b hab e => hab ?_) t2
    cases e
    rfl
  refine ⟨_, ⟨ents, clock, hb, ⟨?_, ⟨hst.2, hst.1, hnd⟩, fun m hm => ?_⟩, Nat.le_refl _, rfl⟩, ?_, ?_⟩
  · have : ents.size = es.length := by simpa using t1
    unfold maxLen; omega
  · obtain ⟨n, _, h⟩ := hrd m hm
    exact ⟨_, h⟩
  · rw [Maps.size_eq, Go.length_sorted, List.length_map]
    exact t1
  · show List.Perm (List.map _ (List.foldr DataW.insert [] _)) _
    refine ((Go.WideShapes.sorted_perm _).map _).trans ?_
    refine List.Perm.of_eq ?_
    rw [List.map_map]
    have e1 : (ents.toList.map fun m => (match m.key with | .int _ n => n | _ => 0 : Int)) = es.map Prod.fst := by
      have := congrArg (List.map fun v => (match v with | Value.int _ n => n | _ => 0 : Int)) hkeys
      rw [List.map_map, List.map_map] at this
      exact this
    rw [← e1]
    refine List.map_congr_left fun m hm => ?_
    obtain ⟨n, h1, h2⟩ := hrd m hm
    simp only [Function.comp_apply, Go.WideElems.rg, h2, h1, Option.getD_some]
    rfl
theorem H54_ok : HeapOK Tryd.prog H54 := by
  refine ⟨⟨Tryd.f54, by kernel_rfl, by kernel_rfl, by kernel_rfl⟩, fun x hx B X w0 g w vals hs ha => ?_⟩
  obtain ⟨vs, h1, h2, _, _⟩ := hs.ents 0 _ rfl
  obtain ⟨ents, clock, k1, ⟨k2, k3⟩, _⟩ := hs.ents 1 _ rfl
  have hvl : vs.length = 1 := h2.1
  obtain ⟨v0, rfl⟩ : ∃ v0, vs = [v0] := by
    match vs, hvl with
    | [v0], _ => exact ⟨v0, rfl⟩
  have hv0 : v0 = .map (some (g.b 1)) := (h2.2 0 _ v0 rfl rfl).2
  subst hv0
  have hal : vals.length = 1 := ha.1
  obtain ⟨a0, rfl⟩ : ∃ a0, vals = [a0] := by
    match vals, hal with
    | [a0], _ => exact ⟨a0, rfl⟩
  have ha0 : a0 = .func (.func 76) #[] #[.pointer (some ⟨g.b 0, 0, none⟩)] := (ha.2 0 _ a0 rfl rfl).1
  subst ha0
  obtain ⟨D, hD, hsz, hperm⟩ := map_owned k1 k2 k3 hx.1 hx.2
  have hlt : g.b 0 < w.heap.size := (Array.getElem?_eq_some_iff.1 h1).1
  have hcell : w.cell? ⟨g.b 0, 0, none⟩ = some (.map (some (g.b 1))) := by rw [cell_at h1]; rfl
  have hxl := hx.1
  refine (Tryd.sorted_keys (g.b 1) (g.b 0) ents.size D _ w hlt hcell hD (by rw [hsz]; unfold maxLen; omega) (by rw [hsz]; omega)).mono ?_
  rintro e w' ⟨v, ss, rfl, hp, ho, _, hb⟩
  have hks : ss.mergeSort (fun x y => decide (x ≤ y)) = keysF x := mergeSort_of_perm_i (hp.trans hperm)
  have hlen : ss.length = (keysF x).length := by rw [← hks, List.length_mergeSort]
  rw [hks, hlen] at ho
  obtain ⟨g', b1, b2, b3⟩ := new_row hs 3 (.int .i64) (xs := keysF x) (below_grown hb) (ho.mono (Nat.zero_le _)) (fun b hbb => by
    rcases ho.2 with ⟨rfl, _⟩ | ⟨gb, cap, cur, rfl, hbg, _⟩
    · simp [Value.ownBlock] at hbb
    · have : gb = b := by simpa [Value.ownBlock] using hbb
      omega) (ints_elems _) (fun u hu => by
    obtain ⟨n, _, rfl⟩ := List.mem_map.1 hu
    rfl)
  exact ⟨v, g', rfl, b1, b2, own_rep (w := w') (e := 3) (T := .int .i64) (xs := keysF x) rfl b3 (row_one (ho.mono (Nat.zero_le _)))⟩
theorem pick54_ok : ∀ args H K, pick54 args H K → ∃ x js, K x js := by
  intro args H K h
  unfold pick54 at h
  split at h
  · split at h
    · split at h
      · exact ⟨_, _, h⟩
      · exact h.elim
    · exact h.elim
  · exact h.elim
theorem i54_ok : (H54.ci pick54).OK Tryd.prog := H54_ok.ci (fun _ => ⟨trivial, trivial, trivial⟩) pick54_ok
theorem i55_ok : i55.OK Tryd.prog := inl_ok cx0 (by kernel_rfl) (by kernel_rfl) (by kernel_rfl)
theorem H27_ok : HeapOK Tryd.prog H27 :=
  heap_flat (c := H27) (fn := Tryd.f27) (by kernel_rfl) (by kernel_rfl) (by kernel_rfl) (fun _ => ⟨trivial, trivial, trivial⟩) C27 (fun x => cx_ok (cs := [i51, i55, H54.ci pick54]) ⟨i51_ok, i55_ok, i54_ok, trivial⟩ _) (fun _ hx => g27_ok hx.1 hx.2.1 hx.2.2 _)
end Go.SX.Pe

/- Chapter 10: contents and roots as bytes, what is asked. -/
namespace Go.SX.Pe
open Go Go.Proofs
noncomputable section
def nb (n : Int) : Nat → List Int
  | 0 => []
  | k + 1 => IntKind.u8.wrap n :: nb (n / 256) k
def sumStep (n c : Int) : Int := IntKind.u64.wrap (bitsF .xor .u64 n (IntKind.u64.wrap c) * 1099511628211)
def sumN (b : List Int) : Int := b.foldl sumStep 14695981039346656037
def sumF (b : List Int) : Int := sumN b / 65536
def textW (s : ByteArray) : List Int := IntKind.u8.wrap s.size :: strB s
def textsW (l : List ByteArray) : List Int := l.flatMap textW
abbrev Cn : Type := Int × Int × List ByteArray
def writtenF (c : Cn) : List Int := nb c.1 6 ++ (nb c.2.1 6 ++ (nb c.2.2.length 6 ++ textsW c.2.2))
abbrev Rt : Type := Int × Int × Int
def rootB (r : Rt) : List Int := [80, 69, 65, 76] ++ (nb r.1 6 ++ (nb r.2.1 6 ++ nb r.2.2 6))
def rootW (r : Rt) : List Int := rootB r ++ nb (sumF (rootB r)) 6
def Byts (l : List Int) : Prop := ∀ x ∈ l, 0 ≤ x ∧ x ≤ 255
def numR (l : List Int) : Nat → Int
  | 0 => 0
  | k + 1 => bitsF .or .i64 (numR l k) (l.getD k 0 * 2 ^ (8 * k))
@[reducible] noncomputable def cu (cs : List CI) : Ctx := ctxC tbl cs
theorem cu_ok {cs : List CI} (h : CsOK Tryd.prog cs) : CtxOK Tryd.prog (cu cs) := ctxC_ok mixed (chkAll_ok tbl_ok) h
@[reducible] def upTo (n : Nat) (d : Nat) (keep : List Nat) (ok : Nat → Prop) : Ann where
  τ := Nat
  pre := []
  preC := []
  keep := keep
  slots k := [(d, .c (.int .i64 k))]
  ents _ := []
  ok k := k ≤ n ∧ ok k
  m k := n - k
@[reducible] def H86 : HC where
  f := 86
  X := List Int × Int
  Hs x := [.row 5 (.int .u8) 0 x.1]
  ags x := [.c (.own 0 0), .c (.int .i64 x.2)]
  Pre x := x.1.length ≤ 100000
  res _ := .c (.own 0 6)
  out x := [.row 5 (.int .u8) 6 (x.1 ++ nb x.2 6)]
  fr _ := true
@[reducible] def H86n : HC where
  f := 86
  X := Int
  Hs _ := []
  ags x := [.c (.raw (.slice none 0 0)), .c (.int .i64 x)]
  Pre _ := True
  res _ := .c (.own 0 5)
  out x := [.row 5 (.int .u8) 5 (nb x 6)]
  fr _ := false
  cn := [.slot 0]
@[reducible] def H86r : HC where
  f := 86
  X := List Int × Int
  Hs _ := []
  ags x := [.c (.roc (.int .u8) x.1), .c (.int .i64 x.2)]
  Pre x := x.1.length ≤ 100000
  res _ := .c (.own 0 5)
  out x := [.row 5 (.int .u8) 5 (x.1 ++ nb x.2 6)]
  fr _ := false
  cn := [.slot 0]
def g86 (b : List Int) (n : Int) : Prop := HVC (cu []) Tryd.f86 H86 (b, n)
def g86n (n : Int) : Prop := HVC (cu []) Tryd.f86 H86n n
def g86r (b : List Int) (n : Int) : Prop := HVC (cu []) Tryd.f86 H86r (b, n)
@[reducible] def pick86 : Pick H86.X := fun args H K => match args with
  | [.c (.own i _), .c (.int .i64 n)] => (match H[i]? with
    | some (.row _ (.int .u8) _ b) => K (b, n) [i]
    | _ => False)
  | _ => False
@[reducible] def pick86n : Pick H86n.X := fun args _ K => match args with
  | [_, .c (.int .i64 n)] => K n []
  | _ => False
@[reducible] def pick86r : Pick H86r.X := fun args _ K => match args with
  | [.c (.roc (.int .u8) b), .c (.int .i64 n)] => K (b, n) []
  | _ => False
@[reducible] def i86 : CI := orCI nilArg (H86n.ci pick86n) (orCI rocArg (H86r.ci pick86r) (H86.ci pick86))
@[reducible] def i87 : CI := inl 87 Tryd.f87 (cx [] [])
@[reducible] def i68 : CI := inl 68 Tryd.f68 (cx [] [])
@[reducible] def p70 : PC := ⟨70, [aBs], [aI], fun b => b.length ≤ 100000, sumF⟩
@[reducible] def A70 (b : List Int) : Ann where
  τ := Nat
  pre := []
  preC := []
  keep := [6, 7]
  slots k := [(8, .c (.int .i64 k)), (3, .c (.int .u64 (sumN (b.take k))))]
  ents _ := []
  ok k := k ≤ b.length
  m k := b.length - k
@[reducible] def C70 (b : List Int) : Ctx := cx [] [(0, fun _ => A70 b)]
def g70 (b : List Int) : Prop := p70.VC (C70 b) Tryd.f70 b
abbrev aCn : ATy := (true, tCn)
abbrev aRt : ATy := (true, tRt)
def CnOK (c : Cn) : Prop := (0 ≤ c.1 ∧ c.1 < 281474976710656) ∧ (0 ≤ c.2.1 ∧ c.2.1 < 281474976710656) ∧ c.2.2.length ≤ 40 ∧ ∀ s ∈ c.2.2, s.size ≤ 24
@[reducible] def p71 : PC := ⟨71, [aCn], [aBs], CnOK, writtenF⟩
@[reducible] def A71 (c : Cn) (R v : Nat) : Ann where
  τ := Nat
  pre := []
  preC := []
  keep := [17, 18]
  slots k := [(19, .c (.int .i64 k)), (3, .c (.own R (v + 1)))]
  ents k := [(R, .row 5 (.int .u8) 0 (nb c.1 6 ++ (nb c.2.1 6 ++ (nb c.2.2.length 6 ++ textsW (c.2.2.take k)))))]
  ok k := k ≤ c.2.2.length
  m k := c.2.2.length - k
def with71 (c : Cn) (st : St) : Ann := match findT 3 st.t with
  | .c (.own r v) => A71 c r v
  | _ => noAnn
@[reducible] def C71 (c : Cn) : Ctx := cx [i86, i87] [(0, with71 c)]
def g71 (last mark : Int) (l : List ByteArray) : Prop := p71.VC (C71 (last, mark, l)) Tryd.f71 (last, mark, l)
@[reducible] def p73 : PC := ⟨73, [aRt], [aBs], fun _ => True, rootW⟩
def g73 (a b c : Int) : Prop := p73.VC (cx [i86, p70.ci] []) Tryd.f73 (a, b, c)
@[reducible] def rE (b : List Int) : Ent := .blk 139 [.ro (.int .u8) b]
@[reducible] def i92 : CI := inl 92 Tryd.f92 (cx [] [])
@[reducible] def H80 : HC where
  f := 80
  X := List Int
  Hs x := [rE x]
  ags _ := [.c (.ptr 0 0)]
  Pre x := 6 ≤ x.length ∧ Byts x
  res x := .c (.int .i64 (numR x 6))
  out x := [rE (x.drop 6)]
  fr _ := false
@[reducible] def A80 (b : List Int) : Ann where
  τ := Nat
  pre := []
  preC := []
  keep := [7, 8]
  slots k := [(9, .c (.int .i64 k)), (3, .c (.int .i64 (numR b k)))]
  ents _ := []
  ok k := k ≤ 6
  m k := 6 - k
@[reducible] def C80 (b : List Int) : Ctx := cx [i92] [(0, fun _ => A80 b)]
def g80 (b : List Int) : Prop := HVC (C80 b) Tryd.f80 H80 b
@[reducible] def pickR : Pick (List Int) := fun args H K => match args with
  | [.c (.ptr i 0)] => (match H[i]? with
    | some (.blk _ [.ro (.int .u8) b]) => K b [i]
    | _ => False)
  | _ => False
@[reducible] def H85 : HC where
  f := 85
  X := List Int
  Hs x := [rE x]
  ags _ := [.c (.ptr 0 0)]
  Pre x := x ≠ [] ∧ Byts x ∧ (x.getD 0 0).toNat + 1 ≤ x.length
  res x := .c (.str (strOf ((x.drop 1).take (x.getD 0 0).toNat)))
  out x := [rE (x.drop ((x.getD 0 0).toNat + 1))]
  fr _ := false
def g85 (b : List Int) : Prop := HVC (cx [i92] []) Tryd.f85 H85 b
@[reducible] def p81 : PC := ⟨81, [aBs, aBs], [aB], fun p => p.1.length ≤ 100000, fun p => decide (p.1 = p.2)⟩
@[reducible] def C81 (a b : List Int) : Ctx := cx [] [(0, fun _ => upTo a.length 13 [0, 1, 12] fun k => a.take k = b.take k ∧ a.length = b.length)]
def g81 (a b : List Int) : Prop := p81.VC (C81 a b) Tryd.f81 (a, b)
@[reducible] def i83 : CI := inl 83 Tryd.f83 (cx [] [])
@[reducible] def H93 : HC where
  f := 93
  X := List Int
  Hs _ := []
  ags x := [.c (.ro (.int .u8) x), .c (.fn 83 [])]
  Pre x := x.length ≤ 1000 ∧ ∀ c ∈ x, c = 0
  res _ := .c (.int .i64 (-1))
  out _ := []
  fr _ := false
@[reducible] def C93 (x : List Int) : Ctx := cx [i83] [(0, fun _ => upTo x.length 8 [0, 1, 6, 7] fun _ => True)]
def g93 (x : List Int) : Prop := HVC (C93 x) Tryd.f93 H93 x
@[reducible] def pick93 : Pick H93.X := fun args H K => match args with
  | [.c (.ro (.int .u8) b), _] => K b []
  | _ => False
@[reducible] def i82 : CI := inl 82 Tryd.f82 (cx [H93.ci pick93] [])
@[reducible] def p65 : PC := ⟨65, [aBs], [aB], fun b => b.length = 128 ∧ ∀ c ∈ b, c = 0, fun _ => true⟩
@[reducible] def C65 (x : List Int) : Ctx := cx [i82] [(0, fun _ => upTo 0 4 [0] fun _ => True)]
def g65 (x : List Int) : Prop := p65.VC (C65 x) Tryd.f65 x
end
end Go.SX.Pe

/- Printed by VC.lean: what the executor asks. -/
namespace Go.SX.Pe
open Go Go.Proofs
theorem g86_eq (b : List Int) (n : Int) : g86 b n = (
 Small (b.length + ((0 : Nat) + (1 : Nat))) ∧
 ((0 : Int) ≤ (8 : Int) ∧ (8 : Int) < (64 : Int)) ∧
 Fits IntKind.i64 (1 : Int) ∧
 Small ((b ++ [IntKind.u8.wrap n]).length + ((0 : Nat) + (1 : Nat))) ∧
 ((0 : Int) ≤ (8 : Int) ∧ (8 : Int) < (64 : Int)) ∧
 Fits IntKind.i64 (2 : Int) ∧
 Small ((b ++ [IntKind.u8.wrap n] ++ [IntKind.u8.wrap (n / (2 : Int) ^ Int.toNat (8 : Int))]).length + ((0 : Nat) + (1 : Nat))) ∧
 ((0 : Int) ≤ (8 : Int) ∧ (8 : Int) < (64 : Int)) ∧
 Fits IntKind.i64 (3 : Int) ∧
 Small
 ((b ++ [IntKind.u8.wrap n] ++ [IntKind.u8.wrap (n / (2 : Int) ^ Int.toNat (8 : Int))] ++
 [IntKind.u8.wrap (n / (2 : Int) ^ Int.toNat (8 : Int) / (2 : Int) ^ Int.toNat (8 : Int))]).length +
 ((0 : Nat) + (1 : Nat))) ∧
 ((0 : Int) ≤ (8 : Int) ∧ (8 : Int) < (64 : Int)) ∧
 Fits IntKind.i64 (4 : Int) ∧
 Small
 ((b ++ [IntKind.u8.wrap n] ++ [IntKind.u8.wrap (n / (2 : Int) ^ Int.toNat (8 : Int))] ++
 [IntKind.u8.wrap (n / (2 : Int) ^ Int.toNat (8 : Int) / (2 : Int) ^ Int.toNat (8 : Int))] ++
 [IntKind.u8.wrap (n / (2 : Int) ^ Int.toNat (8 : Int) / (2 : Int) ^ Int.toNat (8 : Int) / (2 : Int) ^ Int.toNat (8 : Int))]).length +
 ((0 : Nat) + (1 : Nat))) ∧
 ((0 : Int) ≤ (8 : Int) ∧ (8 : Int) < (64 : Int)) ∧
 Fits IntKind.i64 (5 : Int) ∧
 Small
 ((b ++ [IntKind.u8.wrap n] ++ [IntKind.u8.wrap (n / (2 : Int) ^ Int.toNat (8 : Int))] ++
 [IntKind.u8.wrap (n / (2 : Int) ^ Int.toNat (8 : Int) / (2 : Int) ^ Int.toNat (8 : Int))] ++
 [IntKind.u8.wrap (n / (2 : Int) ^ Int.toNat (8 : Int) / (2 : Int) ^ Int.toNat (8 : Int) / (2 : Int) ^ Int.toNat (8 : Int))] ++
 [IntKind.u8.wrap
 (n / (2 : Int) ^ Int.toNat (8 : Int) / (2 : Int) ^ Int.toNat (8 : Int) / (2 : Int) ^ Int.toNat (8 : Int) /
 (2 : Int) ^ Int.toNat (8 : Int))]).length +
 ((0 : Nat) + (1 : Nat))) ∧
 ((0 : Int) ≤ (8 : Int) ∧ (8 : Int) < (64 : Int)) ∧
 Fits IntKind.i64 (6 : Int) ∧
 True ∧
 b ++ [IntKind.u8.wrap n] ++ [IntKind.u8.wrap (n / (2 : Int) ^ Int.toNat (8 : Int))] ++
 [IntKind.u8.wrap (n / (2 : Int) ^ Int.toNat (8 : Int) / (2 : Int) ^ Int.toNat (8 : Int))] ++
 [IntKind.u8.wrap (n / (2 : Int) ^ Int.toNat (8 : Int) / (2 : Int) ^ Int.toNat (8 : Int) / (2 : Int) ^ Int.toNat (8 : Int))] ++
 [IntKind.u8.wrap
 (n / (2 : Int) ^ Int.toNat (8 : Int) / (2 : Int) ^ Int.toNat (8 : Int) / (2 : Int) ^ Int.toNat (8 : Int) /
 (2 : Int) ^ Int.toNat (8 : Int))] ++
 [IntKind.u8.wrap
 (n / (2 : Int) ^ Int.toNat (8 : Int) / (2 : Int) ^ Int.toNat (8 : Int) / (2 : Int) ^ Int.toNat (8 : Int) /
 (2 : Int) ^ Int.toNat (8 : Int) /
 (2 : Int) ^ Int.toNat (8 : Int))] =
 b ++ nb n (6 : Nat) ∧
 True) := by
 kernel_rfl
theorem g86n_eq (n : Int) : g86n n = (
 Small ((0 : Nat) + (1 : Nat)) ∧
 ((0 : Int) ≤ (8 : Int) ∧ (8 : Int) < (64 : Int)) ∧
 Fits IntKind.i64 (1 : Int) ∧
 Small ((0 : Nat) + (1 : Nat) + ((0 : Nat) + (1 : Nat))) ∧
 ((0 : Int) ≤ (8 : Int) ∧ (8 : Int) < (64 : Int)) ∧
 Fits IntKind.i64 (2 : Int) ∧
 Small (([IntKind.u8.wrap n] ++ [IntKind.u8.wrap (n / (2 : Int) ^ Int.toNat (8 : Int))]).length + ((0 : Nat) + (1 : Nat))) ∧
 ((0 : Int) ≤ (8 : Int) ∧ (8 : Int) < (64 : Int)) ∧
 Fits IntKind.i64 (3 : Int) ∧
 Small
 (([IntKind.u8.wrap n] ++ [IntKind.u8.wrap (n / (2 : Int) ^ Int.toNat (8 : Int))] ++
 [IntKind.u8.wrap (n / (2 : Int) ^ Int.toNat (8 : Int) / (2 : Int) ^ Int.toNat (8 : Int))]).length +
 ((0 : Nat) + (1 : Nat))) ∧
 ((0 : Int) ≤ (8 : Int) ∧ (8 : Int) < (64 : Int)) ∧
 Fits IntKind.i64 (4 : Int) ∧
 Small
 (([IntKind.u8.wrap n] ++ [IntKind.u8.wrap (n / (2 : Int) ^ Int.toNat (8 : Int))] ++
 [IntKind.u8.wrap (n / (2 : Int) ^ Int.toNat (8 : Int) / (2 : Int) ^ Int.toNat (8 : Int))] ++
 [IntKind.u8.wrap (n / (2 : Int) ^ Int.toNat (8 : Int) / (2 : Int) ^ Int.toNat (8 : Int) / (2 : Int) ^ Int.toNat (8 : Int))]).length +
 ((0 : Nat) + (1 : Nat))) ∧
 ((0 : Int) ≤ (8 : Int) ∧ (8 : Int) < (64 : Int)) ∧
 Fits IntKind.i64 (5 : Int) ∧
 Small
 (([IntKind.u8.wrap n] ++ [IntKind.u8.wrap (n / (2 : Int) ^ Int.toNat (8 : Int))] ++
 [IntKind.u8.wrap (n / (2 : Int) ^ Int.toNat (8 : Int) / (2 : Int) ^ Int.toNat (8 : Int))] ++
 [IntKind.u8.wrap (n / (2 : Int) ^ Int.toNat (8 : Int) / (2 : Int) ^ Int.toNat (8 : Int) / (2 : Int) ^ Int.toNat (8 : Int))] ++
 [IntKind.u8.wrap
 (n / (2 : Int) ^ Int.toNat (8 : Int) / (2 : Int) ^ Int.toNat (8 : Int) / (2 : Int) ^ Int.toNat (8 : Int) /
 (2 : Int) ^ Int.toNat (8 : Int))]).length +
 ((0 : Nat) + (1 : Nat))) ∧
 ((0 : Int) ≤ (8 : Int) ∧ (8 : Int) < (64 : Int)) ∧
 Fits IntKind.i64 (6 : Int) ∧
 True ∧
 [IntKind.u8.wrap n] ++ [IntKind.u8.wrap (n / (2 : Int) ^ Int.toNat (8 : Int))] ++
 [IntKind.u8.wrap (n / (2 : Int) ^ Int.toNat (8 : Int) / (2 : Int) ^ Int.toNat (8 : Int))] ++
 [IntKind.u8.wrap (n / (2 : Int) ^ Int.toNat (8 : Int) / (2 : Int) ^ Int.toNat (8 : Int) / (2 : Int) ^ Int.toNat (8 : Int))] ++
 [IntKind.u8.wrap
 (n / (2 : Int) ^ Int.toNat (8 : Int) / (2 : Int) ^ Int.toNat (8 : Int) / (2 : Int) ^ Int.toNat (8 : Int) /
 (2 : Int) ^ Int.toNat (8 : Int))] ++
 [IntKind.u8.wrap
 (n / (2 : Int) ^ Int.toNat (8 : Int) / (2 : Int) ^ Int.toNat (8 : Int) / (2 : Int) ^ Int.toNat (8 : Int) /
 (2 : Int) ^ Int.toNat (8 : Int) /
 (2 : Int) ^ Int.toNat (8 : Int))] =
 nb n (6 : Nat) ∧
 True) := by
 kernel_rfl
theorem g86r_eq (b : List Int) (n : Int) : g86r b n = (
 (Small (b.length + ((0 : Nat) + (1 : Nat))) ∧ [IntKind.u8.wrap n] ≠ []) ∧
 ((0 : Int) ≤ (8 : Int) ∧ (8 : Int) < (64 : Int)) ∧
 Fits IntKind.i64 (1 : Int) ∧
 Small ((b ++ [IntKind.u8.wrap n]).length + ((0 : Nat) + (1 : Nat))) ∧
 ((0 : Int) ≤ (8 : Int) ∧ (8 : Int) < (64 : Int)) ∧
 Fits IntKind.i64 (2 : Int) ∧
 Small ((b ++ [IntKind.u8.wrap n] ++ [IntKind.u8.wrap (n / (2 : Int) ^ Int.toNat (8 : Int))]).length + ((0 : Nat) + (1 : Nat))) ∧
 ((0 : Int) ≤ (8 : Int) ∧ (8 : Int) < (64 : Int)) ∧
 Fits IntKind.i64 (3 : Int) ∧
 Small
 ((b ++ [IntKind.u8.wrap n] ++ [IntKind.u8.wrap (n / (2 : Int) ^ Int.toNat (8 : Int))] ++
 [IntKind.u8.wrap (n / (2 : Int) ^ Int.toNat (8 : Int) / (2 : Int) ^ Int.toNat (8 : Int))]).length +
 ((0 : Nat) + (1 : Nat))) ∧
 ((0 : Int) ≤ (8 : Int) ∧ (8 : Int) < (64 : Int)) ∧
 Fits IntKind.i64 (4 : Int) ∧
 Small
 ((b ++ [IntKind.u8.wrap n] ++ [IntKind.u8.wrap (n / (2 : Int) ^ Int.toNat (8 : Int))] ++
 [IntKind.u8.wrap (n / (2 : Int) ^ Int.toNat (8 : Int) / (2 : Int) ^ Int.toNat (8 : Int))] ++
 [IntKind.u8.wrap (n / (2 : Int) ^ Int.toNat (8 : Int) / (2 : Int) ^ Int.toNat (8 : Int) / (2 : Int) ^ Int.toNat (8 : Int))]).length +
 ((0 : Nat) + (1 : Nat))) ∧
 ((0 : Int) ≤ (8 : Int) ∧ (8 : Int) < (64 : Int)) ∧
 Fits IntKind.i64 (5 : Int) ∧
 Small
 ((b ++ [IntKind.u8.wrap n] ++ [IntKind.u8.wrap (n / (2 : Int) ^ Int.toNat (8 : Int))] ++
 [IntKind.u8.wrap (n / (2 : Int) ^ Int.toNat (8 : Int) / (2 : Int) ^ Int.toNat (8 : Int))] ++
 [IntKind.u8.wrap (n / (2 : Int) ^ Int.toNat (8 : Int) / (2 : Int) ^ Int.toNat (8 : Int) / (2 : Int) ^ Int.toNat (8 : Int))] ++
 [IntKind.u8.wrap
 (n / (2 : Int) ^ Int.toNat (8 : Int) / (2 : Int) ^ Int.toNat (8 : Int) / (2 : Int) ^ Int.toNat (8 : Int) /
 (2 : Int) ^ Int.toNat (8 : Int))]).length +
 ((0 : Nat) + (1 : Nat))) ∧
 ((0 : Int) ≤ (8 : Int) ∧ (8 : Int) < (64 : Int)) ∧
 Fits IntKind.i64 (6 : Int) ∧
 True ∧
 b ++ [IntKind.u8.wrap n] ++ [IntKind.u8.wrap (n / (2 : Int) ^ Int.toNat (8 : Int))] ++
 [IntKind.u8.wrap (n / (2 : Int) ^ Int.toNat (8 : Int) / (2 : Int) ^ Int.toNat (8 : Int))] ++
 [IntKind.u8.wrap (n / (2 : Int) ^ Int.toNat (8 : Int) / (2 : Int) ^ Int.toNat (8 : Int) / (2 : Int) ^ Int.toNat (8 : Int))] ++
 [IntKind.u8.wrap
 (n / (2 : Int) ^ Int.toNat (8 : Int) / (2 : Int) ^ Int.toNat (8 : Int) / (2 : Int) ^ Int.toNat (8 : Int) /
 (2 : Int) ^ Int.toNat (8 : Int))] ++
 [IntKind.u8.wrap
 (n / (2 : Int) ^ Int.toNat (8 : Int) / (2 : Int) ^ Int.toNat (8 : Int) / (2 : Int) ^ Int.toNat (8 : Int) /
 (2 : Int) ^ Int.toNat (8 : Int) /
 (2 : Int) ^ Int.toNat (8 : Int))] =
 b ++ nb n (6 : Nat) ∧
 True) := by
 kernel_rfl
theorem g70_eq (b : List Int) : g70 b = (
 (∃ (x0 : Nat), x0 ≤ b.length ∧ True ∧ (0 : Int) = (↑x0 : Int) ∧ (14695981039346656037 : Int) = sumN (List.take x0 b) ∧ (↑b.length : Int) = (↑b.length : Int) ∧ b = b ∧ True) ∧
 ∀ (x : Nat),
 x ≤ b.length →
 ((↑x : Int) < (↑b.length : Int) →
 (↑x : Int) < (↑b.length : Int) ∧
 ((0 : Int) ≤ (↑x : Int) ∧ (↑x : Int) < (↑b.length : Int)) ∧
 Fits IntKind.i64 ((↑x : Int) + (1 : Int)) ∧
 ∃ (x' : Nat),
 x' ≤ b.length ∧
 b.length - x' < b.length - x ∧
 True ∧
 (↑x : Int) + (1 : Int) = (↑x' : Int) ∧
 IntKind.u64.wrap (bitsF BinOp.xor IntKind.u64 (sumN (List.take x b)) (IntKind.u64.wrap (b.getD (↑x : Int).toNat (0 : Int))) * (1099511628211 : Int)) =
 sumN (List.take x' b) ∧
 (↑b.length : Int) = (↑b.length : Int) ∧ b = b ∧ True) ∧
 (¬(↑x : Int) < (↑b.length : Int) →
 ¬(↑x : Int) < (↑b.length : Int) ∧
 ((0 : Int) ≤ (16 : Int) ∧ (16 : Int) < (64 : Int)) ∧
 Fits IntKind.i64 (sumN (List.take x b) / (2 : Int) ^ Int.toNat (16 : Int)) ∧ sumN (List.take x b) / (2 : Int) ^ Int.toNat (16 : Int) = sumF b)) := by
 kernel_rfl
def g71_q1 (last : Int) (mark : Int) (l : List ByteArray) : Prop :=
 True ∧
 (nb last (6 : Nat) = nb last (6 : Nat) ∧ True) ∧
 (True ∧ mark = mark ∧ True) ∧
 (nb last (6 : Nat)).length ≤ (100000 : Nat) ∧
 True ∧
 True ∧
 (nb last (6 : Nat) ++ nb mark (6 : Nat) = nb last (6 : Nat) ++ nb mark (6 : Nat) ∧ True) ∧
 (True ∧ (↑l.length : Int) = (↑l.length : Int) ∧ True) ∧
 (nb last (6 : Nat) ++ nb mark (6 : Nat)).length ≤ (100000 : Nat) ∧
 True ∧
 (∃ (x0 : Nat),
 x0 ≤ l.length ∧
 ((last = last ∧ mark = mark ∧ l = l ∧ True) ∧
 nb last (6 : Nat) ++ nb mark (6 : Nat) ++ nb (↑l.length : Int) (6 : Nat) =
 nb last (6 : Nat) ++ (nb mark (6 : Nat) ++ (nb (↑l.length : Int) (6 : Nat) ++ textsW (List.take x0 l))) ∧
 True) ∧
 (0 : Int) = (↑x0 : Int) ∧ True ∧ (↑l.length : Int) = (↑l.length : Int) ∧ l = l ∧ True) ∧
 ∀ (x : Nat),
 x ≤ l.length →
 ((↑x : Int) < (↑l.length : Int) →
 (↑x : Int) < (↑l.length : Int) ∧
 ((0 : Int) ≤ (↑x : Int) ∧ (↑x : Int) < (↑l.length : Int)) ∧
 Small
 ((nb last (6 : Nat) ++ (nb mark (6 : Nat) ++ (nb (↑l.length : Int) (6 : Nat) ++ textsW (List.take x l)))).length + ((0 : Nat) + (1 : Nat))) ∧
 Small
 ((nb last (6 : Nat) ++ (nb mark (6 : Nat) ++ (nb (↑l.length : Int) (6 : Nat) ++ textsW (List.take x l))) ++
 [IntKind.u8.wrap (↑(l.getD (↑x : Int).toNat ByteArray.empty).size : Int)]).length +
 (l.getD (↑x : Int).toNat ByteArray.empty).size) ∧
 Fits IntKind.i64 ((↑x : Int) + (1 : Int)) ∧
 ∃ (x' : Nat),
 x' ≤ l.length ∧
 l.length - x' < l.length - x ∧
 ((last = last ∧ mark = mark ∧ l = l ∧ True) ∧
 nb last (6 : Nat) ++ (nb mark (6 : Nat) ++ (nb (↑l.length : Int) (6 : Nat) ++ textsW (List.take x l))) ++
 [IntKind.u8.wrap (↑(l.getD (↑x : Int).toNat ByteArray.empty).size : Int)] ++
 strB (l.getD (↑x : Int).toNat ByteArray.empty) =
 nb last (6 : Nat) ++ (nb mark (6 : Nat) ++ (nb (↑l.length : Int) (6 : Nat) ++ textsW (List.take x' l))) ∧
 True) ∧
 (↑x : Int) + (1 : Int) = (↑x' : Int) ∧ True ∧ (↑l.length : Int) = (↑l.length : Int) ∧ l = l ∧ True) ∧
 (¬(↑x : Int) < (↑l.length : Int) →
 ¬(↑x : Int) < (↑l.length : Int) ∧
 nb last (6 : Nat) ++ (nb mark (6 : Nat) ++ (nb (↑l.length : Int) (6 : Nat) ++ textsW (List.take x l))) = writtenF (last, mark, l))
def g71_q2 (last : Int) (mark : Int) (l : List ByteArray) : Prop :=
 True ∧ True ∧ (Value.slice none (0 : Nat) (0 : Nat) = Value.slice none (0 : Nat) (0 : Nat) ∧ last = last ∧ True) ∧ True ∧ True ∧ g71_q1 last mark l ∧ g71_q1 last mark l
def g71_q3 (last : Int) (mark : Int) (l : List ByteArray) : Prop :=
 True ∧ True ∧ (Value.slice none (0 : Nat) (0 : Nat) = Value.slice none (0 : Nat) (0 : Nat) ∧ last = last ∧ True) ∧ True ∧ True ∧ g71_q1 last mark l
def g73_q1 (a : Int) (_b : Int) (_c : Int) : Prop :=
 [(80 : Int), (69 : Int), (65 : Int), (76 : Int)] = [(80 : Int), (69 : Int), (65 : Int), (76 : Int)] ∧ a = a ∧ True
def g73_q2 (_a : Int) (_b : Int) (_c : Int) : Prop :=
 (0 : Nat) + (1 : Nat) + (1 : Nat) + (1 : Nat) + (1 : Nat) ≤ (100000 : Nat)
def g73_q3 (a : Int) (b : Int) (c : Int) : Prop :=
 ([(80 : Int), (69 : Int), (65 : Int), (76 : Int)] ++ nb a (6 : Nat) ++ nb b (6 : Nat) ++ nb c (6 : Nat)).length ≤ (100000 : Nat)
def g73_q4 (a : Int) (b : Int) (c : Int) : Prop :=
 True ∧
 ([(80 : Int), (69 : Int), (65 : Int), (76 : Int)] ++ nb a (6 : Nat) = [(80 : Int), (69 : Int), (65 : Int), (76 : Int)] ++ nb a (6 : Nat) ∧ True) ∧
 (True ∧ b = b ∧ True) ∧
 ([(80 : Int), (69 : Int), (65 : Int), (76 : Int)] ++ nb a (6 : Nat)).length ≤ (100000 : Nat) ∧
 True ∧
 True ∧
 ([(80 : Int), (69 : Int), (65 : Int), (76 : Int)] ++ nb a (6 : Nat) ++ nb b (6 : Nat) =
 [(80 : Int), (69 : Int), (65 : Int), (76 : Int)] ++ nb a (6 : Nat) ++ nb b (6 : Nat) ∧
 True) ∧
 (True ∧ c = c ∧ True) ∧
 ([(80 : Int), (69 : Int), (65 : Int), (76 : Int)] ++ nb a (6 : Nat) ++ nb b (6 : Nat)).length ≤ (100000 : Nat) ∧
 True ∧
 g73_q3 a b c ∧
 True ∧
 ([(80 : Int), (69 : Int), (65 : Int), (76 : Int)] ++ nb a (6 : Nat) ++ nb b (6 : Nat) ++ nb c (6 : Nat) =
 [(80 : Int), (69 : Int), (65 : Int), (76 : Int)] ++ nb a (6 : Nat) ++ nb b (6 : Nat) ++ nb c (6 : Nat) ∧
 True) ∧
 (True ∧
 sumF ([(80 : Int), (69 : Int), (65 : Int), (76 : Int)] ++ nb a (6 : Nat) ++ nb b (6 : Nat) ++ nb c (6 : Nat)) =
 sumF ([(80 : Int), (69 : Int), (65 : Int), (76 : Int)] ++ nb a (6 : Nat) ++ nb b (6 : Nat) ++ nb c (6 : Nat)) ∧
 True) ∧
 g73_q3 a b c ∧
 True ∧
 [(80 : Int), (69 : Int), (65 : Int), (76 : Int)] ++ nb a (6 : Nat) ++ nb b (6 : Nat) ++ nb c (6 : Nat) ++
 nb (sumF ([(80 : Int), (69 : Int), (65 : Int), (76 : Int)] ++ nb a (6 : Nat) ++ nb b (6 : Nat) ++ nb c (6 : Nat))) (6 : Nat) =
 rootW (a, b, c)
def g73_q5 (a : Int) (b : Int) (c : Int) : Prop :=
 True ∧ True ∧ g73_q1 a b c ∧ g73_q2 a b c ∧ True ∧ g73_q4 a b c ∧ g73_q4 a b c
def g73_q6 (a : Int) (b : Int) (c : Int) : Prop :=
 True ∧ True ∧ g73_q1 a b c ∧ g73_q2 a b c ∧ True ∧ g73_q4 a b c
def g73_q7 (a : Int) (b : Int) (c : Int) : Prop :=
 g73_q5 a b c ∧ g73_q6 a b c
def g73_q8 (a : Int) (b : Int) (c : Int) : Prop :=
 g73_q6 a b c ∧ g73_q6 a b c
def g73_q9 (a : Int) (b : Int) (c : Int) : Prop :=
 g73_q5 a b c ∧ g73_q7 a b c ∧ g73_q8 a b c
def g73_q10 (a : Int) (b : Int) (c : Int) : Prop :=
 g73_q7 a b c ∧ g73_q6 a b c
def g73_q11 (a : Int) (b : Int) (c : Int) : Prop :=
 g73_q8 a b c ∧ g73_q6 a b c
def g73_q12 (a : Int) (b : Int) (c : Int) : Prop :=
 g73_q9 a b c ∧ g73_q10 a b c ∧ g73_q11 a b c
def g73_q13 (a : Int) (b : Int) (c : Int) : Prop :=
 g73_q7 a b c ∧ g73_q10 a b c ∧ g73_q8 a b c
def g73_q14 (a : Int) (b : Int) (c : Int) : Prop :=
 g73_q8 a b c ∧ g73_q11 a b c ∧ g73_q8 a b c
def g73_q15 (a : Int) (b : Int) (c : Int) : Prop :=
 g73_q10 a b c ∧ g73_q6 a b c
def g73_q16 (a : Int) (b : Int) (c : Int) : Prop :=
 g73_q11 a b c ∧ g73_q6 a b c
theorem g73_eq (a : Int) (b : Int) (c : Int) : g73 a b c = (
 (g73_q9 a b c ∧ g73_q12 a b c ∧ g73_q13 a b c ∧ g73_q14 a b c) ∧
 (g73_q12 a b c ∧ g73_q15 a b c ∧ g73_q16 a b c) ∧ (g73_q13 a b c ∧ g73_q15 a b c ∧ g73_q11 a b c) ∧ g73_q14 a b c ∧ g73_q16 a b c ∧ g73_q11 a b c) := by
 kernel_rfl
def g80_q1 (b : List Int) : Prop :=
 (↑(List.drop (↑(0 : Nat) : Int).toNat (List.take (Int.toNat (6 : Int)) b)).length : Int) =
 (↑(List.drop (↑(0 : Nat) : Int).toNat (List.take (Int.toNat (6 : Int)) b)).length : Int) ∧
 List.drop (↑(0 : Nat) : Int).toNat (List.take (Int.toNat (6 : Int)) b) = List.drop (↑(0 : Nat) : Int).toNat (List.take (Int.toNat (6 : Int)) b) ∧ True
theorem g80_eq (b : List Int) : g80 b = (
 ((↑b.length : Int) < (6 : Int) → (↑b.length : Int) < (6 : Int) ∧ False) ∧
 (¬(↑b.length : Int) < (6 : Int) →
 ¬(↑b.length : Int) < (6 : Int) ∧
 ((0 : Int) ≤ (0 : Int) ∧ (0 : Int) ≤ (6 : Int) ∧ (6 : Int) ≤ (↑b.length : Int)) ∧
 ((0 : Int) ≤ (6 : Int) ∧ (6 : Int) ≤ (↑b.length : Int) ∧ (↑b.length : Int) ≤ (↑b.length : Int)) ∧
 (∃ (x0 : Nat),
 x0 ≤ (6 : Nat) ∧
 ((List.drop (Int.toNat (6 : Int)) (List.take (↑b.length : Int).toNat b) = List.drop (Int.toNat (6 : Int)) (List.take (↑b.length : Int).toNat b) ∧ True) ∧ True) ∧
 (0 : Int) = (↑x0 : Int) ∧ (0 : Int) = numR b x0 ∧ g80_q1 b) ∧
 ∀ (x : Nat),
 x ≤ (6 : Nat) →
 ((↑x : Int) < (↑(List.drop (↑(0 : Nat) : Int).toNat (List.take (Int.toNat (6 : Int)) b)).length : Int) →
 (↑x : Int) < (↑(List.drop (↑(0 : Nat) : Int).toNat (List.take (Int.toNat (6 : Int)) b)).length : Int) ∧
 ((0 : Int) ≤ (↑x : Int) ∧ (↑x : Int) < (↑(List.drop (↑(0 : Nat) : Int).toNat (List.take (Int.toNat (6 : Int)) b)).length : Int)) ∧
 Fits IntKind.i64 ((List.drop (↑(0 : Nat) : Int).toNat (List.take (Int.toNat (6 : Int)) b)).getD (↑x : Int).toNat (0 : Int)) ∧
 Fits IntKind.i64 ((8 : Int) * (↑x : Int)) ∧
 ((0 : Int) ≤ (8 : Int) * (↑x : Int) ∧ (8 : Int) * (↑x : Int) < (64 : Int)) ∧
 Fits IntKind.i64
 ((List.drop (↑(0 : Nat) : Int).toNat (List.take (Int.toNat (6 : Int)) b)).getD (↑x : Int).toNat (0 : Int) *
 (2 : Int) ^ ((8 : Int) * (↑x : Int)).toNat) ∧
 Fits IntKind.i64 ((↑x : Int) + (1 : Int)) ∧
 ∃ (x' : Nat),
 x' ≤ (6 : Nat) ∧
 (6 : Nat) - x' < (6 : Nat) - x ∧
 ((List.drop (Int.toNat (6 : Int)) (List.take (↑b.length : Int).toNat b) =
 List.drop (Int.toNat (6 : Int)) (List.take (↑b.length : Int).toNat b) ∧
 True) ∧
 True) ∧
 (↑x : Int) + (1 : Int) = (↑x' : Int) ∧
 bitsF BinOp.or IntKind.i64 (numR b x)
 ((List.drop (↑(0 : Nat) : Int).toNat (List.take (Int.toNat (6 : Int)) b)).getD (↑x : Int).toNat (0 : Int) *
 (2 : Int) ^ ((8 : Int) * (↑x : Int)).toNat) =
 numR b x' ∧
 g80_q1 b) ∧
 (¬(↑x : Int) < (↑(List.drop (↑(0 : Nat) : Int).toNat (List.take (Int.toNat (6 : Int)) b)).length : Int) →
 ¬(↑x : Int) < (↑(List.drop (↑(0 : Nat) : Int).toNat (List.take (Int.toNat (6 : Int)) b)).length : Int) ∧
 numR b x = numR b (6 : Nat) ∧ (List.drop (Int.toNat (6 : Int)) (List.take (↑b.length : Int).toNat b) = List.drop (6 : Nat) b ∧ True) ∧ True))) := by
 kernel_rfl
theorem g85_eq (b : List Int) : g85 b = (
 ((↑b.length : Int) < (1 : Int) → (↑b.length : Int) < (1 : Int) ∧ False) ∧
 (¬(↑b.length : Int) < (1 : Int) →
 ¬(↑b.length : Int) < (1 : Int) ∧
 ((0 : Int) ≤ (0 : Int) ∧ (0 : Int) ≤ (1 : Int) ∧ (1 : Int) ≤ (↑b.length : Int)) ∧
 ((0 : Int) ≤ (1 : Int) ∧ (1 : Int) ≤ (↑b.length : Int) ∧ (↑b.length : Int) ≤ (↑b.length : Int)) ∧
 ((0 : Int) ≤ (0 : Int) ∧ (0 : Int) < (↑(List.drop (↑(0 : Nat) : Int).toNat (List.take (Int.toNat (1 : Int)) b)).length : Int)) ∧
 Fits IntKind.i64 ((List.drop (↑(0 : Nat) : Int).toNat (List.take (Int.toNat (1 : Int)) b)).getD (Int.toNat (0 : Int)) (0 : Int)) ∧
 ((↑(List.drop (Int.toNat (1 : Int)) (List.take (↑b.length : Int).toNat b)).length : Int) <
 (List.drop (↑(0 : Nat) : Int).toNat (List.take (Int.toNat (1 : Int)) b)).getD (Int.toNat (0 : Int)) (0 : Int) →
 (↑(List.drop (Int.toNat (1 : Int)) (List.take (↑b.length : Int).toNat b)).length : Int) <
 (List.drop (↑(0 : Nat) : Int).toNat (List.take (Int.toNat (1 : Int)) b)).getD (Int.toNat (0 : Int)) (0 : Int) ∧
 False) ∧
 (¬(↑(List.drop (Int.toNat (1 : Int)) (List.take (↑b.length : Int).toNat b)).length : Int) <
 (List.drop (↑(0 : Nat) : Int).toNat (List.take (Int.toNat (1 : Int)) b)).getD (Int.toNat (0 : Int)) (0 : Int) →
 ¬(↑(List.drop (Int.toNat (1 : Int)) (List.take (↑b.length : Int).toNat b)).length : Int) <
 (List.drop (↑(0 : Nat) : Int).toNat (List.take (Int.toNat (1 : Int)) b)).getD (Int.toNat (0 : Int)) (0 : Int) ∧
 ((0 : Int) ≤ (0 : Int) ∧
 (↑(0 : Nat) : Int) ≤ (List.drop (↑(0 : Nat) : Int).toNat (List.take (Int.toNat (1 : Int)) b)).getD (Int.toNat (0 : Int)) (0 : Int) ∧
 (List.drop (↑(0 : Nat) : Int).toNat (List.take (Int.toNat (1 : Int)) b)).getD (Int.toNat (0 : Int)) (0 : Int) ≤
 (↑(List.drop (Int.toNat (1 : Int)) (List.take (↑b.length : Int).toNat b)).length : Int)) ∧
 ((0 : Int) ≤ (List.drop (↑(0 : Nat) : Int).toNat (List.take (Int.toNat (1 : Int)) b)).getD (Int.toNat (0 : Int)) (0 : Int) ∧
 (List.drop (↑(0 : Nat) : Int).toNat (List.take (Int.toNat (1 : Int)) b)).getD (Int.toNat (0 : Int)) (0 : Int) ≤
 (↑(List.drop (Int.toNat (1 : Int)) (List.take (↑b.length : Int).toNat b)).length : Int) ∧
 (↑(List.drop (Int.toNat (1 : Int)) (List.take (↑b.length : Int).toNat b)).length : Int) ≤
 (↑(List.drop (Int.toNat (1 : Int)) (List.take (↑b.length : Int).toNat b)).length : Int)) ∧
 strOf
 (List.drop (↑(0 : Nat) : Int).toNat
 (List.take ((List.drop (↑(0 : Nat) : Int).toNat (List.take (Int.toNat (1 : Int)) b)).getD (Int.toNat (0 : Int)) (0 : Int)).toNat
 (List.drop (Int.toNat (1 : Int)) (List.take (↑b.length : Int).toNat b)))) =
 strOf (List.take (b.getD (0 : Nat) (0 : Int)).toNat (List.drop (1 : Nat) b)) ∧
 (List.drop ((List.drop (↑(0 : Nat) : Int).toNat (List.take (Int.toNat (1 : Int)) b)).getD (Int.toNat (0 : Int)) (0 : Int)).toNat
 (List.take (↑(List.drop (Int.toNat (1 : Int)) (List.take (↑b.length : Int).toNat b)).length : Int).toNat
 (List.drop (Int.toNat (1 : Int)) (List.take (↑b.length : Int).toNat b))) =
 List.drop ((b.getD (0 : Nat) (0 : Int)).toNat + (1 : Nat)) b ∧
 True) ∧
 True))) := by
 kernel_rfl
theorem g81_eq (a : List Int) (b : List Int) : g81 a b = (
 (¬(↑a.length : Int) = (↑b.length : Int) → ¬(↑a.length : Int) = (↑b.length : Int) ∧ false = decide (a = b)) ∧
 (¬¬(↑a.length : Int) = (↑b.length : Int) →
 ¬¬(↑a.length : Int) = (↑b.length : Int) ∧
 (∃ (x0 : Nat),
 (x0 ≤ a.length ∧ List.take x0 a = List.take x0 b ∧ a.length = b.length) ∧ True ∧ (0 : Int) = (↑x0 : Int) ∧ (↑a.length : Int) = (↑a.length : Int) ∧ a = a ∧ b = b ∧ True) ∧
 ∀ (x : Nat),
 x ≤ a.length ∧ List.take x a = List.take x b ∧ a.length = b.length →
 ((↑x : Int) < (↑a.length : Int) →
 (↑x : Int) < (↑a.length : Int) ∧
 ((0 : Int) ≤ (↑x : Int) ∧ (↑x : Int) < (↑a.length : Int)) ∧
 ((0 : Int) ≤ (↑x : Int) ∧ (↑x : Int) < (↑b.length : Int)) ∧
 (¬a.getD (↑x : Int).toNat (0 : Int) = b.getD (↑x : Int).toNat (0 : Int) →
 ¬a.getD (↑x : Int).toNat (0 : Int) = b.getD (↑x : Int).toNat (0 : Int) ∧ false = decide (a = b)) ∧
 (¬¬a.getD (↑x : Int).toNat (0 : Int) = b.getD (↑x : Int).toNat (0 : Int) →
 ¬¬a.getD (↑x : Int).toNat (0 : Int) = b.getD (↑x : Int).toNat (0 : Int) ∧
 Fits IntKind.i64 ((↑x : Int) + (1 : Int)) ∧
 ∃ (x' : Nat),
 (x' ≤ a.length ∧ List.take x' a = List.take x' b ∧ a.length = b.length) ∧
 a.length - x' < a.length - x ∧ True ∧ (↑x : Int) + (1 : Int) = (↑x' : Int) ∧ (↑a.length : Int) = (↑a.length : Int) ∧ a = a ∧ b = b ∧ True)) ∧
 (¬(↑x : Int) < (↑a.length : Int) → ¬(↑x : Int) < (↑a.length : Int) ∧ true = decide (a = b)))) := by
 kernel_rfl
theorem g93_eq (x : List Int) : g93 x = (
 (∃ (x0 : Nat), (x0 ≤ x.length ∧ True) ∧ True ∧ (0 : Int) = (↑x0 : Int) ∧ (↑x.length : Int) = (↑x.length : Int) ∧ x = x ∧ x = x ∧ True ∧ True) ∧
 ∀ (x_1 : Nat),
 x_1 ≤ x.length ∧ True →
 ((↑x_1 : Int) < (↑x.length : Int) →
 (↑x_1 : Int) < (↑x.length : Int) ∧
 ((0 : Int) ≤ (↑x_1 : Int) ∧ (↑x_1 : Int) < (↑x.length : Int)) ∧
 (¬x.getD (↑x_1 : Int).toNat (0 : Int) = (0 : Int) → ¬x.getD (↑x_1 : Int).toNat (0 : Int) = (0 : Int) ∧ (↑x_1 : Int) = (-1 : Int) ∧ True) ∧
 (¬¬x.getD (↑x_1 : Int).toNat (0 : Int) = (0 : Int) →
 ¬¬x.getD (↑x_1 : Int).toNat (0 : Int) = (0 : Int) ∧
 Fits IntKind.i64 ((↑x_1 : Int) + (1 : Int)) ∧
 ∃ (x' : Nat),
 (x' ≤ x.length ∧ True) ∧
 x.length - x' < x.length - x_1 ∧ True ∧ (↑x_1 : Int) + (1 : Int) = (↑x' : Int) ∧ (↑x.length : Int) = (↑x.length : Int) ∧ x = x ∧ x = x ∧ True ∧ True)) ∧
 (¬(↑x_1 : Int) < (↑x.length : Int) → ¬(↑x_1 : Int) < (↑x.length : Int) ∧ (-1 : Int) = (-1 : Int) ∧ True)) := by
 kernel_rfl
theorem g65_eq (x : List Int) : g65 x = (
 (∃ (x0 : Nat), (x0 ≤ (0 : Nat) ∧ True) ∧ True ∧ (0 : Int) = (↑x0 : Int) ∧ x = x ∧ True) ∧
 ∀ (x_1 : Nat),
 x_1 ≤ (0 : Nat) ∧ True →
 ((↑x_1 : Int) < (4 : Int) →
 (↑x_1 : Int) < (4 : Int) ∧
 ((0 : Int) ≤ (↑x_1 : Int) ∧ (↑x_1 : Int) < (↑x.length : Int)) ∧
 ((0 : Int) ≤ (↑x_1 : Int) ∧ (↑x_1 : Int) < (↑(ByteArray.mk #[(80 : UInt8), (69 : UInt8), (65 : UInt8), (76 : UInt8)]).size : Int)) ∧
 (¬x.getD (↑x_1 : Int).toNat (0 : Int) = bt (ByteArray.mk #[(80 : UInt8), (69 : UInt8), (65 : UInt8), (76 : UInt8)]) (↑x_1 : Int).toNat →
 ¬x.getD (↑x_1 : Int).toNat (0 : Int) = bt (ByteArray.mk #[(80 : UInt8), (69 : UInt8), (65 : UInt8), (76 : UInt8)]) (↑x_1 : Int).toNat ∧
 ((0 : Int) ≤ (↑x_1 : Int) ∧ (↑x_1 : Int) ≤ (↑x.length : Int) ∧ (↑x.length : Int) ≤ (↑x.length : Int)) ∧
 True ∧
 True ∧
 (List.drop (↑x_1 : Int).toNat (List.take (↑x.length : Int).toNat x) = List.drop (↑x_1 : Int).toNat (List.take (↑x.length : Int).toNat x) ∧
 True ∧ True) ∧
 ((List.drop (↑x_1 : Int).toNat (List.take (↑x.length : Int).toNat x)).length ≤ (1000 : Nat) ∧
 ∀ (c : Int), c ∈ List.drop (↑x_1 : Int).toNat (List.take (↑x.length : Int).toNat x) → c = (0 : Int)) ∧
 True ∧ (decide ¬(0 : Int) ≤ (-1 : Int)) = true) ∧
 (¬¬x.getD (↑x_1 : Int).toNat (0 : Int) = bt (ByteArray.mk #[(80 : UInt8), (69 : UInt8), (65 : UInt8), (76 : UInt8)]) (↑x_1 : Int).toNat →
 ¬¬x.getD (↑x_1 : Int).toNat (0 : Int) = bt (ByteArray.mk #[(80 : UInt8), (69 : UInt8), (65 : UInt8), (76 : UInt8)]) (↑x_1 : Int).toNat ∧
 Fits IntKind.i64 ((↑x_1 : Int) + (1 : Int)) ∧
 ∃ (x' : Nat), (x' ≤ (0 : Nat) ∧ True) ∧ (0 : Nat) - x' < (0 : Nat) - x_1 ∧ True ∧ (↑x_1 : Int) + (1 : Int) = (↑x' : Int) ∧ x = x ∧ True)) ∧
 (¬(↑x_1 : Int) < (4 : Int) → ¬(↑x_1 : Int) < (4 : Int) ∧ true = true)) := by
 kernel_rfl
end Go.SX.Pe

/- Chapter 10: contents and roots as bytes, proved. -/
namespace Go.SX.Pe
open Go Go.Proofs
theorem nb_length (n : Int) : (k : Nat) → (nb n k).length = k
  | 0 => rfl
  | k + 1 => by simp [nb, nb_length _ k]
theorem pow8 : (2 : Int) ^ Int.toNat 8 = 256 := by decide
theorem nb6 (n : Int) : nb n 6 = [IntKind.u8.wrap n] ++ [IntKind.u8.wrap (n / 256)] ++ [IntKind.u8.wrap (n / 256 / 256)] ++ [IntKind.u8.wrap (n / 256 / 256 / 256)] ++ [IntKind.u8.wrap (n / 256 / 256 / 256 / 256)] ++ [IntKind.u8.wrap (n / 256 / 256 / 256 / 256 / 256)] := rfl
theorem sm {n : Nat} (h : n ≤ 1000000000) : Small n := h
theorem g86_ok {b : List Int} (h : b.length ≤ 100000) (n : Int) : g86 b n := by
  refine (g86_eq ..).mpr ?_
  simp only [pp1, eq_self, and_true, true_and, and_self, pow8, List.length_append, List.length_cons, List.length_nil, List.append_assoc]
  rw [nb6]
  simp only [List.append_assoc]
  refine ⟨sm (by omega), by decide, fi (by decide) (by decide), sm (by omega), by decide, fi (by decide) (by decide), sm (by omega), by decide, fi (by decide) (by decide), sm (by omega), by decide, fi (by decide) (by decide), sm (by omega), by decide, fi (by decide) (by decide), sm (by omega), by decide, fi (by decide) (by decide), ?_⟩
  first | trivial | rfl
theorem g86r_ok {b : List Int} (h : b.length ≤ 100000) (n : Int) : g86r b n := by
  refine (g86r_eq ..).mpr ?_
  simp only [pp1, eq_self, and_true, true_and, and_self, pow8, List.length_append, List.length_cons, List.length_nil, List.append_assoc]
  rw [nb6]
  simp only [List.append_assoc]
  exact ⟨⟨sm (by omega), by simp⟩, by decide, fi (by decide) (by decide), sm (by omega), by decide, fi (by decide) (by decide), sm (by omega), by decide, fi (by decide) (by decide), sm (by omega), by decide, fi (by decide) (by decide), sm (by omega), by decide, fi (by decide) (by decide), sm (by omega), by decide, fi (by decide) (by decide), trivial⟩
theorem g86n_ok (n : Int) : g86n n := by
  refine (g86n_eq ..).mpr ?_
  simp only [pp1, eq_self, and_true, true_and, and_self, pow8, List.length_append, List.length_cons, List.length_nil, List.append_assoc]
  rw [nb6]
  simp only [List.append_assoc]
  exact ⟨sm (by omega), by decide, fi (by decide) (by decide), sm (by omega), by decide, fi (by decide) (by decide), sm (by omega), by decide, fi (by decide) (by decide), sm (by omega), by decide, fi (by decide) (by decide), sm (by omega), by decide, fi (by decide) (by decide), sm (by omega), by decide, fi (by decide) (by decide), trivial⟩
theorem cu0 : CtxOK Tryd.prog (cu []) := cu_ok (cs := []) trivial
theorem H86_ok : HeapOK Tryd.prog H86 := heap_flat (c := H86) (fn := Tryd.f86) (by kernel_rfl) (by kernel_rfl) (by kernel_rfl) (fun _ => ⟨trivial, trivial⟩) (fun _ => cu []) (fun _ => cu0) (fun _ hx => g86_ok hx _)
theorem H86n_ok : HeapOK Tryd.prog H86n := heap_flat (c := H86n) (fn := Tryd.f86) (by kernel_rfl) (by kernel_rfl) (by kernel_rfl) (fun _ => trivial) (fun _ => cu []) (fun _ => cu0) (fun _ _ => g86n_ok _)
theorem H86r_ok : HeapOK Tryd.prog H86r := heap_flat (c := H86r) (fn := Tryd.f86) (by kernel_rfl) (by kernel_rfl) (by kernel_rfl) (fun _ => trivial) (fun _ => cu []) (fun _ => cu0) (fun _ hx => g86r_ok hx _)
theorem pick86_ok : ∀ args H K, pick86 args H K → ∃ x js, K x js := by
  intro args H K h
  unfold pick86 at h
  split at h
  · split at h
    · exact ⟨_, _, h⟩
    · exact h.elim
  · exact h.elim
theorem pick86n_ok : ∀ args H K, pick86n args H K → ∃ x js, K x js := by
  intro args H K h
  unfold pick86n at h
  split at h
  · exact ⟨_, _, h⟩
  · exact h.elim
theorem pick86r_ok : ∀ args H K, pick86r args H K → ∃ x js, K x js := by
  intro args H K h
  unfold pick86r at h
  split at h
  · exact ⟨_, _, h⟩
  · exact h.elim
theorem i86_ok : i86.OK Tryd.prog :=
  orCI_ok (H86n_ok.ci (fun _ => trivial) pick86n_ok) (orCI_ok (H86r_ok.ci (fun _ => trivial) pick86r_ok) (H86_ok.ci (fun _ => ⟨trivial, trivial⟩) pick86_ok) rfl) rfl
theorem i87_ok : i87.OK Tryd.prog := inl_ok cx0 (by kernel_rfl) (by kernel_rfl) (by kernel_rfl)
theorem i68_ok : i68.OK Tryd.prog := inl_ok cx0 (by kernel_rfl) (by kernel_rfl) (by kernel_rfl)
theorem i92_ok : i92.OK Tryd.prog := inl_ok cx0 (by kernel_rfl) (by kernel_rfl) (by kernel_rfl)
theorem w64 (n : Int) : IntKind.u64.wrap n = n % 18446744073709551616 := by
  simp [IntKind.wrap, IntKind.bits, IntKind.signed]
theorem take_snoc {α : Type} {l : List α} {k : Nat} (h : k < l.length) (d : α) : l.take (k + 1) = l.take k ++ [l.getD k d] := by
  rw [List.take_add_one, List.getElem?_eq_getElem h]
  simp [List.getD, h]
theorem sumN_snoc (b : List Int) (c : Int) : sumN (b ++ [c]) = sumStep (sumN b) c := by unfold sumN; rw [List.foldl_append]; rfl
theorem sumN_range : (b : List Int) → 0 ≤ sumN b ∧ sumN b < 18446744073709551616 := by
  intro b
  rcases List.eq_nil_or_concat b with h | ⟨l, c, h⟩
  · subst h; decide
  · rw [h, List.concat_eq_append, sumN_snoc]
    unfold sumStep
    rw [w64]
    omega
theorem sumF_range (b : List Int) : 0 ≤ sumF b ∧ sumF b < 281474976710656 := by
  have := sumN_range b
  unfold sumF
  omega
theorem pow16 : (2 : Int) ^ Int.toNat 16 = 65536 := by decide
theorem g70_ok {b : List Int} (h : b.length ≤ 100000) : g70 b := by
  refine (g70_eq ..).mpr ?_
  simp only [pp1, eq_self, and_true, true_and, and_self, Int.toNat_natCast, pow16]
  refine ⟨⟨0, by omega, rfl, rfl⟩, fun x hx => ⟨fun h1 => ?_, fun h1 => ?_⟩⟩
  · refine ⟨⟨by omega, h1⟩, fi (by omega) (by omega), x + 1, by omega, by omega, by omega, ?_⟩
    rw [take_snoc (show x < b.length by omega) 0, sumN_snoc]
    rfl
  · have : x = b.length := by omega
    subst this
    rw [List.take_length]
    have := sumF_range b
    exact ⟨by decide, fi (by show _ ≤ sumF b; omega) (by show sumF b ≤ _; omega), rfl⟩
theorem p70_ok : p70.OK Tryd.prog := p70.ok C70 (fun b => cx_ok (cs := []) trivial _) (by kernel_rfl) (by kernel_rfl) (by kernel_rfl) (fun _ hb => g70_ok hb)
theorem textsW_snoc (l : List ByteArray) (s : ByteArray) : textsW (l ++ [s]) = textsW l ++ (IntKind.u8.wrap s.size :: strB s) := by simp [textsW, textW]
theorem textsW_le : (l : List ByteArray) → (∀ s ∈ l, s.size ≤ 24) → (textsW l).length ≤ 25 * l.length
  | [], _ => by simp [textsW]
  | s :: r, h => by
    have h1 := textsW_le r fun s hs => h s (List.mem_cons_of_mem _ hs)
    have h2 := h s List.mem_cons_self
    have e : textsW (s :: r) = textW s ++ textsW r := rfl
    have h3 : (textW s).length = s.size + 1 := by simp [textW, strB_length]
    rw [e, List.length_append, h3, List.length_cons]
    omega
theorem g73_ok (a b c : Int) : g73 a b c := by
  refine (g73_eq ..).mpr ?_
  simp only [g73_q1, g73_q2, g73_q3, g73_q4, g73_q5, g73_q6, g73_q7, g73_q8, g73_q9, g73_q10, g73_q11, g73_q12, g73_q13, g73_q14, g73_q15, g73_q16, pp1, eq_self, and_true, true_and, and_self, Int.toNat_natCast, List.length_append, nb_length, List.length_cons, List.length_nil]
  refine ⟨by omega, by omega, by omega, by omega, by omega, ?_⟩
  unfold rootW rootB
  simp only [List.append_assoc]
theorem p73_ok : p73.OK Tryd.prog := p73.ok (fun _ => cx [i86, p70.ci] []) (fun c => cx_ok (cs := [i86, p70.ci]) ⟨i86_ok, PC.OK.ci p70_ok, trivial⟩ _) (by kernel_rfl) (by kernel_rfl) (by kernel_rfl) (fun c _ => g73_ok c.1 c.2.1 c.2.2)
theorem Byts.get {b : List Int} (h : Byts b) (k : Nat) : 0 ≤ b.getD k 0 ∧ b.getD k 0 ≤ 255 := by
  by_cases hk : k < b.length
  · have : b.getD k 0 ∈ b := by simp [List.getD, hk]
    exact h _ this
  · simp [List.getD, List.getElem?_eq_none (show b.length ≤ k by omega)]
theorem getD_take {b : List Int} {n k : Nat} (h : k < n) : (b.take n).getD k 0 = b.getD k 0 := by simp [List.getD, List.getElem?_take, h]
theorem g80_ok {b : List Int} (h6 : 6 ≤ b.length) (hb : Byts b) : g80 b := by
  refine (g80_eq ..).mpr ?_
  simp only [g80_q1, pp1, eq_self, and_true, true_and, and_self, Int.toNat_natCast, List.drop_zero, show Int.toNat 6 = 6 from rfl, List.take_length]
  have hl : (b.take 6).length = 6 := by rw [List.length_take]; omega
  rw [hl]
  refine ⟨fun h => by omega, fun _ => ⟨by omega, by omega, ⟨0, by omega, rfl, rfl⟩, fun x hx => ⟨fun h1 => ?_, fun h1 => ?_⟩⟩⟩
  · have hx' : x < 6 := by omega
    rw [getD_take hx']
    have hg := hb.get x
    have hp : (2 : Int) ^ (8 * (x : Int)).toNat = 2 ^ (8 * x) := by rw [show (8 * (x : Int)).toNat = 8 * x by omega]
    rw [hp]
    have hp2 : (0 : Int) < 2 ^ (8 * x) ∧ (2 : Int) ^ (8 * x) ≤ 1099511627776 := by
      have : x = 0 ∨ x = 1 ∨ x = 2 ∨ x = 3 ∨ x = 4 ∨ x = 5 := by omega
      rcases this with rfl | rfl | rfl | rfl | rfl | rfl <;> decide
    have hm : 0 ≤ b.getD x 0 * 2 ^ (8 * x) ∧ b.getD x 0 * 2 ^ (8 * x) ≤ 280375465082880 := by
      generalize (2 : Int) ^ (8 * x) = q at hp2 ⊢
      refine ⟨Int.mul_nonneg hg.1 (by omega), ?_⟩
      have := Int.mul_le_mul hg.2 hp2.2 (by omega) (by omega)
      omega
    refine ⟨⟨by omega, by omega⟩, fi (by omega) (by omega), fi (by omega) (by omega), ⟨by omega, by omega⟩, fi (by omega) (by omega), fi (by omega) (by omega), x + 1, by omega, by omega, by omega, rfl⟩
  · have : x = 6 := by omega
    subst this
    rfl
theorem H80_ok : HeapOK Tryd.prog H80 := heap_flat (c := H80) (fn := Tryd.f80) (by kernel_rfl) (by kernel_rfl) (by kernel_rfl) (fun _ => ⟨trivial, trivial⟩) C80 (fun _ => cx_ok (cs := [i92]) ⟨i92_ok, trivial⟩ _) (fun _ hx => g80_ok hx.1 hx.2)
theorem pickR_ok : ∀ args H K, pickR args H K → ∃ x js, K x js := by
  intro args H K h
  unfold pickR at h
  split at h
  · split at h
    · exact ⟨_, _, h⟩
    · exact h.elim
  · exact h.elim
theorem i80_ok : (H80.ci pickR).OK Tryd.prog := H80_ok.ci (fun _ => ⟨trivial, trivial⟩) pickR_ok
theorem g85_ok {b : List Int} (h0 : b ≠ []) (hb : Byts b) (h1 : (b.getD 0 0).toNat + 1 ≤ b.length) : g85 b := by
  refine (g85_eq ..).mpr ?_
  have hg := hb.get 0
  simp only [pp1, eq_self, and_true, true_and, and_self, Int.toNat_natCast, List.drop_zero, show Int.toNat 1 = 1 from rfl, show Int.toNat 0 = 0 from rfl, List.take_length, getD_take (show 0 < 1 by omega), List.length_drop, List.length_take]
  have hp : 0 < b.length := List.length_pos_iff.2 h0
  refine ⟨fun h => by omega, fun _ => ⟨by omega, by omega, ⟨by omega, by omega⟩, fi (by omega) (by omega), fun h => by omega, fun _ => ⟨by omega, by omega, ?_⟩⟩⟩
  rw [← List.length_drop, List.take_length, List.drop_drop, Nat.add_comm]
theorem H85_ok : HeapOK Tryd.prog H85 := heap_flat (c := H85) (fn := Tryd.f85) (by kernel_rfl) (by kernel_rfl) (by kernel_rfl) (fun _ => ⟨trivial, trivial⟩) (fun _ => cx [i92] []) (fun _ => cx_ok (cs := [i92]) ⟨i92_ok, trivial⟩ _) (fun _ hx => g85_ok hx.1 hx.2.1 hx.2.2)
theorem i85_ok : (H85.ci pickR).OK Tryd.prog := H85_ok.ci (fun _ => ⟨trivial, trivial⟩) pickR_ok
theorem g81_ok {a b : List Int} (h : a.length ≤ 100000) : g81 a b := by
  refine (g81_eq ..).mpr ?_
  simp only [pp1, eq_self, and_true, true_and, and_self, Int.toNat_natCast]
  refine ⟨fun h1 => ?_, fun h1 => ⟨⟨0, ⟨by omega, rfl, by omega⟩, rfl⟩, fun x hx => ⟨fun h2 => ⟨⟨by omega, h2⟩, ⟨by omega, by omega⟩, fun h3 => ?_, fun h3 => ⟨fi (by omega) (by omega), x + 1, ⟨by omega, ?_, hx.2.2⟩, by omega, by omega⟩⟩, fun h2 => ?_⟩⟩⟩
  · symm; apply decide_eq_false; intro e; subst e; exact h1 rfl
  · symm; apply decide_eq_false; intro e; subst e; exact h3 rfl
  · have h3' : a.getD x 0 = b.getD x 0 := Decidable.not_not.1 h3
    rw [take_snoc (show x < a.length by omega) 0, take_snoc (show x < b.length by omega) 0, hx.2.1, h3']
  · have : x = a.length := by omega
    subst this
    symm; apply decide_eq_true
    have := hx.2.1
    rwa [List.take_length, hx.2.2, List.take_length] at this
theorem p81_ok : p81.OK Tryd.prog := p81.ok (fun p => C81 p.1 p.2) (fun p => cx_ok (cs := []) trivial _) (by kernel_rfl) (by kernel_rfl) (by kernel_rfl) (fun p hp => g81_ok hp)
theorem i83_ok : i83.OK Tryd.prog := inl_ok cx0 (by kernel_rfl) (by kernel_rfl) (by kernel_rfl)
theorem zero_get {b : List Int} (h : ∀ c ∈ b, c = 0) (k : Nat) : b.getD k 0 = 0 := by
  by_cases hk : k < b.length
  · have : b.getD k 0 ∈ b := by simp [List.getD, hk]
    exact h _ this
  · simp [List.getD, List.getElem?_eq_none (show b.length ≤ k by omega)]
theorem g93_ok {b : List Int} (h1 : b.length ≤ 1000) (h : ∀ c ∈ b, c = 0) : g93 b := by
  refine (g93_eq ..).mpr ?_
  simp only [pp1, eq_self, and_true, true_and, and_self, Int.toNat_natCast]
  refine ⟨⟨0, by omega, rfl⟩, fun x hx => ⟨fun h2 => ⟨⟨by omega, h2⟩, fun h3 => absurd (zero_get h x) h3, fun _ => ⟨fi (by omega) (by omega), x + 1, by omega, by omega, by omega⟩⟩, fun h => h⟩⟩
theorem H93_ok : HeapOK Tryd.prog H93 := heap_flat (c := H93) (fn := Tryd.f93) (by kernel_rfl) (by kernel_rfl) (by kernel_rfl) (fun _ => trivial) C93 (fun _ => cx_ok (cs := [i83]) ⟨i83_ok, trivial⟩ _) (fun _ hx => g93_ok hx.1 hx.2)
theorem pick93_ok : ∀ args H K, pick93 args H K → ∃ x js, K x js := by
  intro args H K h
  unfold pick93 at h
  split at h
  · exact ⟨_, _, h⟩
  · exact h.elim
theorem i82_ok : i82.OK Tryd.prog := inl_ok (cx_ok (cs := [H93.ci pick93]) ⟨H93_ok.ci (fun _ => trivial) pick93_ok, trivial⟩ []) (by kernel_rfl) (by kernel_rfl) (by kernel_rfl)
theorem g65_ok {b : List Int} (h1 : b.length = 128) (h : ∀ c ∈ b, c = 0) : g65 b := by
  refine (g65_eq ..).mpr ?_
  simp only [pp1, eq_self, and_true, true_and, and_self, Int.toNat_natCast, List.take_length]
  have hx0 : ∀ x : Nat, x = 0 → (x : Int) < ((ByteArray.mk #[80, 69, 65, 76]).size : Int) := fun x hx => by subst hx; decide
  refine ⟨⟨0, by omega, rfl⟩, fun x hx => ⟨fun h2 => ⟨⟨by omega, by omega⟩, ⟨by omega, hx0 x (by omega)⟩, fun _ => ⟨by omega, ⟨by rw [List.length_drop]; omega, fun c hc => h c (List.mem_of_mem_drop hc)⟩, by decide⟩, fun h3 => ?_⟩, fun h => h⟩⟩
  have : x = 0 := by omega
  subst this
  exact absurd (by rw [zero_get h]; decide) h3
theorem p65_ok : p65.OK Tryd.prog := p65.ok C65 (fun p => cx_ok (cs := [i82]) ⟨i82_ok, trivial⟩ _) (by kernel_rfl) (by kernel_rfl) (by kernel_rfl) (fun p hp => g65_ok hp.1 hp.2)
end Go.SX.Pe

/- Chapter 10: the deferred call of 'read': where nothing has gone wrong it does nothing. -/
namespace Go.SX.Pe
open Go Go.Proofs
def glOf : List Ent → Option Value
  | [] => none
  | .gl 0 _ v :: _ => some v
  | _ :: r => glOf r
def d84 : DSpec := fun args H K => match args, glOf H with
  | [_, _], some (.iface _ _) => K H
  | _, _ => False
theorem glOf_mem : {H : List Ent} → {v : Value} → glOf H = some v → ∃ (i : Nat) (ty : TypeId), H[i]? = some (.gl 0 ty v)
  | [], _, h => by cases h
  | e :: r, v, h => by
    unfold glOf at h
    split at h
    · cases h
    · rename_i ty v' r' heq
      cases h
      cases heq
      exact ⟨0, ty, rfl⟩
    · rename_i e' r' _ heq
      cases heq
      obtain ⟨i, ty, hi⟩ := glOf_mem h
      exact ⟨i + 1, ty, by simpa using hi⟩
theorem eql_nil_iface (t : TypeId) (u : Value) (w : World) : (binOp .eql 20 .nilIface (.iface t u)).run Tryd.prog w = .ok (.bool false) w := by
  have : (Op.equal 20 .nilIface (.iface t u)).run Tryd.prog w = .ok false w := by
    show (Op.equalIn 10000 20 .nilIface (.iface t u)).run Tryd.prog w = _
    unfold Op.equalIn
    simp [run_underlying (P := Tryd.prog) Tryd.underlying20]
  simp only [binOp, Sem.run_bind, this, Result.andThen_ok, Sem.run_pure]
theorem neq_nil_nil (w : World) : (binOp .neq 20 .nilIface .nilIface).run Tryd.prog w = .ok (.bool false) w := by
  have : (Op.equal 20 .nilIface .nilIface).run Tryd.prog w = .ok true w := by
    show (Op.equalIn 10000 20 .nilIface .nilIface).run Tryd.prog w = _
    unfold Op.equalIn
    simp [run_underlying (P := Tryd.prog) Tryd.underlying20]
  simp only [binOp, Sem.run_bind, this, Result.andThen_ok, Sem.run_pure]
  rfl
theorem idle84 {w : World} {ty t : TypeId} {u : Value} (hg : w.heap[0]? = some (.cells #[.iface t u] ty (0, 0))) (v0 v1 : Value) :
    CallsDIn Fence.wide 0 Tryd.prog 84 #[v0, v1] .returning w fun e u' w' => e = .returned (.tuple #[]) ∧ u' = .returning ∧ w' = w := by
  have hc : w.cell? ⟨0, 0, none⟩ = some (.iface t u) := by simp [World.cell?, hg]
  refine callsDIn_of_wpSIn Tryd.func84 rfl trivial fun c₀ cs hu => ?_
  apply wpSIn_seq
  apply wpSIn_region
  simp [wpOpsSIn, go_sem, recoverD, hu, Tryd.ntmps84, Exit.thenS]
  apply wpSIn_seq
  apply wpSIn_region
  simp [wpOpsSIn, go_sem, hc, Exit.thenS, Array.replicate, eql_nil_iface]
  refine wpSIn_cond (t := false) (by simp [Act.eval]) ?_
  simp only [Bool.false_eq_true, if_false]
  apply wpSIn_seq
  apply wpSIn_region
  simp [wpOpsSIn, go_sem, Exit.thenS, neq_nil_nil]
  refine wpSIn_cond (t := false) (by simp [Act.eval]) ?_
  simp only [Bool.false_eq_true, if_false]
  refine wpSIn_of_wpIn rfl (wpIn_skip ?_)
  cases c₀
  simp_all [bodyPostS, results, Tryd.results84]
theorem d84_ok : DSpecOK Tryd.prog 84 d84 := by
  refine ⟨⟨Tryd.f84, by kernel_rfl, by kernel_rfl, by kernel_rfl⟩, fun B X w0 H g w args vals K hsp hs ha => ?_⟩
  unfold d84 at hsp
  split at hsp
  · rename_i a0 a1 t u hgl
    obtain ⟨i, ty, hi⟩ := glOf_mem hgl
    obtain ⟨hg, _⟩ := hs.ents i _ hi
    match vals, ha.1 with
    | [v0, v1], _ =>
      refine (idle84 hg v0 v1).mono ?_
      rintro e u' w' ⟨rfl, rfl, rfl⟩
      exact ⟨_, rfl, rfl, H, g, hsp, hs, Evo.refl _ _ _⟩
  · exact hsp.elim
end Go.SX.Pe
