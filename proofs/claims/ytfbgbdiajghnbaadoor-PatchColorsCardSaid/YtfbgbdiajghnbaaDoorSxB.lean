/- SX, part B: the symbolic executor. -/
import Derived.Test.YtfbgbdiajghnbaaDoorSxA
namespace Go.SX
open Go Go.RowKit

/-! ### The table of types -/

inductive De where
  | other | int (k : IntKind) | bool | str | slice (e : TypeId) | struct (fs : List (Nat × TypeId)) | array (n : Nat) (e : TypeId) | ptr (e : TypeId) | map (k e : TypeId)

structure TI where
  size : Nat
  bytes : Nat
  zero : List Value
  desc : De
  ty : Option Ty
  /-- A struct whose '==' compares its fields, all of them. -/
  eqs : Bool := false
  /-- An array whose elements are reached by numbers that are not constants. -/
  sym : Bool := false

def De.isAgg : De → Bool
  | .struct _ | .array _ _ => true
  | _ => false

def tyFind (t : TypeId) : List (TypeId × TI) → Option TI
  | [] => none
  | (k, i) :: r => bif Nat.beq k t then some i else tyFind t r

/-! ### Symbolic values -/

def isNil : Value → Bool
  | .slice none 0 0 => true
  | _ => false

theorem isNil_eq {v : Value} (h : isNil v = true) : v = .slice none 0 0 := by
  unfold isNil at h
  split at h
  · rfl
  · cases h

def constSC : Value → SC
  | .int k n => .int k n
  | .bool b => .kb b
  | .string s => .str s
  | v => .raw v

def constSV : Value → SV
  | .agg cs => bif cs.toList.all (·.oneCell') then .agg (cs.toList.map constSC) else .c .any
  | v => .c (constSC v)

/-- May it stand in a cell? -/
def SC.one : SC → Bool
  | .any => false
  | .raw v => v.oneCell'
  | .own .. => true
  | _ => true

def SV.cells : SV → Option (List SC)
  | .c x => bif x.one then some [x] else none
  | .agg l => some l
  | .tup _ => none

/-- The cells of a variable, as a value. -/
def mkV (agg : Bool) (l : List SC) : SV :=
  bif agg then .agg l else match l with
    | [x] => .c x
    | _ => .c .any

def Ty.scs : (t : Ty) → t.den → List SC
  | .int k, x => [.int k x]
  | .bool, b => [.bool 0 b]
  | .str, s => [.str s]
  | .pair a b, p => a.scs p.1 ++ b.scs p.2
  | .slice t, xs => [.ro t xs]

deriving instance DecidableEq for Ty

/-- Cells read as a datum; 'lend': a row of the call's own may be lent (else it is given away: its entry dies). -/
def Ty.dat (lend : Bool) : (t : Ty) → List SC → List Ent → (t.den → List SC → List Ent → Prop) → Prop
  | .int k, l, H, K => match l with
    | .int k' n :: r => bif decide (k' = k) then K n r H else False
    | _ => False
  | .bool, l, H, K => match l with
    | .bool _ b :: r => K b r H
    | .prop _ p d :: r => K (@decide p d) r H
    | .kb b :: r => K b r H
    | _ => False
  | .str, l, H, K => match l with
    | .str s :: r => K s r H
    | _ => False
  | .pair a b, l, H, K => a.dat lend l H fun x r H => b.dat lend r H fun y r H => K (x, y) r H
  | .slice t, l, H, K => match l with
    | .ro t' xs :: r => if h : t' = t then K (h ▸ xs) r H else False
    | .raw u :: r => bif isNil u then K [] r H else False
    | .own i ver :: r => match H[i]? with
      | some (.row _ t' ver' xs) => bif Nat.beq ver ver' then (if h : t' = t then K (h ▸ xs) r (bif lend then H else H.set i .dead) else False) else False
      | _ => False
    | _ => False

/-- Both ways of a test. -/
def SV.cond (v : SV) (A B : Prop) : Prop :=
  match v with
  | .c (.prop _ p _) => (p → A) ∧ (¬ p → B)
  | .c (.bool _ b) => (b = true → A) ∧ (b = false → B)
  | .c (.kb b) => bif b then A else B
  | _ => False

def Fits (k : IntKind) (n : Int) : Prop := k.min ≤ n ∧ n ≤ k.max
/-- A length for which memory is asked. -/
def Small (n : Nat) : Prop := n ≤ 1000000000

def arith (k : IntKind) (n : Int) (K : SV → Prop) : Prop :=
  match k with
  | .i64 => Fits .i64 n ∧ K (.c (.int .i64 n))
  | k => K (.c (.int k (k.wrap n)))

def bt (s : ByteArray) (i : Nat) : Int := ((s.data[i]?).getD 0).toNat

/-- '&', '|' and '^'. -/
def bitsF (op : BinOp) (k : IntKind) (a b : Int) : Int :=
  match op with
  | .and => k.wrap (BitVec.ofInt k.bits a &&& BitVec.ofInt k.bits b).toNat
  | .or => k.wrap (BitVec.ofInt k.bits a ||| BitVec.ofInt k.bits b).toNat
  | _ => k.wrap (BitVec.ofInt k.bits a ^^^ BitVec.ofInt k.bits b).toNat

def intBin (op : BinOp) (k : IntKind) (a b : Int) (K : SV → Prop) : Prop :=
  match op with
  | .add => arith k (a + b) K
  | .sub => arith k (a - b) K
  | .mul => arith k (a * b) K
  | .quo => (0 ≤ a ∧ 0 < b) ∧ arith k (a / b) K
  | .rem => (0 ≤ a ∧ 0 < b) ∧ K (.c (.int k (a % b)))
  | .lss => K (.c (.prop 0 (a < b) inferInstance))
  | .leq => K (.c (.prop 0 (a ≤ b) inferInstance))
  | .gtr => K (.c (.prop 0 (b < a) inferInstance))
  | .geq => K (.c (.prop 0 (b ≤ a) inferInstance))
  | .eql => K (.c (.prop 0 (a = b) inferInstance))
  | .neq => K (.c (.prop 0 (¬ a = b) inferInstance))
  | .and => K (.c (.int k (bitsF .and k a b)))
  | .or => K (.c (.int k (bitsF .or k a b)))
  | .xor => K (.c (.int k (bitsF .xor k a b)))
  | _ => False

def binS (op : BinOp) (x y : SV) (K : SV → Prop) : Prop :=
  match x, y with
  | .c (.int k a), .c (.int k' b) => match op with
    | .shl => bif Nat.beq k.bits 64 then (0 ≤ b ∧ b < 64) ∧ arith k (a * 2 ^ b.toNat) K else False
    | .shr => bif Nat.beq k.bits 64 then (0 ≤ b ∧ b < 64) ∧ K (.c (.int k (a / 2 ^ b.toNat))) else False
    | op => bif decide (k' = k) then intBin op k a b K else False
  | .c (.str a), .c (.str b) => match op with
    | .eql => K (.c (.prop 0 (a = b) inferInstance))
    | .neq => K (.c (.prop 0 (¬ a = b) inferInstance))
    | .add => Small (a.size + b.size) ∧ K (.c (.str (a ++ b)))
    | _ => False
  | _, _ => False

def unS (op : UnOp) (x : SV) (K : SV → Prop) : Prop :=
  match op, x with
  | .not, .c (.prop _ p d) => K (.c (.prop 0 (¬ p) (@instDecidableNot p d)))
  | .not, .c (.bool _ b) => K (.c (.bool 0 (!b)))
  | .not, .c (.kb b) => K (.c (.kb (!b)))
  | .neg, .c (.int k n) => arith k (0 - n) K
  | _, _ => False

/-! ### Operations -/

abbrev Spec := List SV → List Ent → (SV → List Ent → Prop) → Prop

def specFind (f : FuncId) : List (FuncId × Spec) → Option Spec
  | [] => none
  | (k, s) :: r => bif Nat.beq k f then some s else specFind f r

def spliceL : List SC → Nat → List SC → List SC
  | cs, _, [] => cs
  | cs, o, x :: r => spliceL (cs.set o x) (o + 1) r

/-- The cells behind an address. -/
def loadS (size : Nat) (agg : Bool) (a : SV) (H : List Ent) (K : SV → Prop) : Prop :=
  match a with
  | .c (.ptr i off) => match H[i]? with
    | some (.blk _ cs) => bif Nat.ble (off + size) cs.length then K (mkV agg ((cs.drop off).take size)) else False
    | _ => False
  | .c (.roa t xs k off) => bif Nat.ble (off + size) t.size then K (mkV agg (((t.scs (xs.getD k t.dflt)).drop off).take size)) else False
  | .c (.owna i ver k off) => match H[i]? with
    | some (.row _ t ver' xs) => bif Nat.beq ver ver' && Nat.ble (off + size) t.size then K (mkV agg (((t.scs (xs.getD k t.dflt)).drop off).take size)) else False
    | _ => False
  | _ => False

def storeS (size : Nat) (a x : SV) (H : List Ent) (K : List Ent → Prop) : Prop :=
  match x.cells with
  | none => False
  | some l => bif Nat.beq l.length size then (match a with
    | .c (.ptr i off) => match H[i]? with
      | some (.blk e cs) => bif Nat.ble (off + size) cs.length then K (H.set i (.blk e (spliceL cs off l))) else False
      | _ => False
    | .c (.owna i ver k off) => match H[i]? with
      | some (.row e t ver' xs) => bif Nat.beq ver ver' && Nat.ble (off + size) t.size then
          t.dat false (spliceL (t.scs (xs.getD k t.dflt)) off l) H fun x _ H1 => match H1[i]? with
            | some (.row ..) => K (H1.set i (.row e t ver (xs.set k x)))
            | _ => False
        else False
      | _ => False
    | _ => False) else False

def indexS (size : Nat) (x i : SV) (H : List Ent) (K : SV → Prop) : Prop :=
  match i with
  | .c (.int _ n) => match x with
    | .c (.ro t xs) => bif Nat.beq t.size size then (0 ≤ n ∧ n < xs.length) ∧ K (.c (.roa t xs n.toNat 0)) else False
    | .c (.own j ver) => match H[j]? with
      | some (.row _ t ver' xs) => bif Nat.beq ver ver' && Nat.beq t.size size then (0 ≤ n ∧ n < xs.length) ∧ K (.c (.owna j ver n.toNat 0)) else False
      | _ => False
    | .c (.pre j ver m) => match H[j]? with
      | some (.row _ t ver' _) => bif Nat.beq ver ver' && Nat.beq t.size size then (0 ≤ n ∧ n < m) ∧ K (.c (.owna j ver n.toNat 0)) else False
      | _ => False
    | _ => False
  | _ => False

def fieldS (off : Nat) (x : SV) (H : List Ent) (K : SV → Prop) : Prop :=
  match x with
  | .c (.ptr i o) => K (.c (.ptr i (o + off)))
  | .c (.roa t xs k o) => K (.c (.roa t xs k (o + off)))
  | .c (.owna i ver k o) => match H[i]? with
    | some (.row _ _ ver' _) => bif Nat.beq ver ver' then K (.c (.owna i ver k (o + off))) else False
    | _ => False
  | _ => False

/-- Bytes as a string. -/
def strOf (l : List Int) : ByteArray := ⟨(l.map fun b => UInt8.ofNat b.toNat).toArray⟩
def bytesOfS (x : SV) (H : List Ent) (K : List Int → Prop) : Prop :=
  match x with
    | .c (.raw u) => bif isNil u then K [] else False
    | .c (.ro t' xs) => if h' : t' = .int .u8 then K (h' ▸ xs : List (Ty.int .u8).den) else False
    | .c (.own i ver) => match H[i]? with
      | some (.row _ t' ver' xs) => bif Nat.beq ver ver' then (if h' : t' = .int .u8 then K (h' ▸ xs : List (Ty.int .u8).den) else False) else False
      | _ => False
    | _ => False

def lenS (x : SV) (H : List Ent) (K : SV → Prop) : Prop :=
  match x with
  | .c (.ro _ xs) => K (.c (.int .i64 xs.length))
  | .c (.raw u) => bif isNil u then K (.c (.int .i64 0)) else False
  | .c (.own i ver) => match H[i]? with
    | some (.row _ _ ver' xs) => bif Nat.beq ver ver' then K (.c (.int .i64 xs.length)) else False
    | _ => False
  | .c (.pre i ver n) => match H[i]? with
    | some (.row _ _ ver' _) => bif Nat.beq ver ver' then K (.c (.int .i64 n)) else False
    | _ => False
  | _ => False

def lenStr (x : SV) (K : SV → Prop) : Prop :=
  match x with
  | .c (.str s) => K (.c (.int .i64 s.size))
  | _ => False

def boundS (d : Nat) : Option SV → (Int → Prop) → Prop
  | none, K => K d
  | some (.c (.int _ n)), K => K n
  | some _, _ => False

/-- x[lo:hi:mx] of a slice that is not written any more. 'mx' must be 'hi'. -/
def sliceS (size : Nat) (x : SV) (lo hi mx : Option SV) (H : List Ent) (K : SV → Prop) : Prop :=
  match x with
  | .c (.own i ver) => match H[i]? with
    | some (.row _ t ver' xs) => bif Nat.beq ver ver' && Nat.beq t.size size then (match lo, hi, mx with
      | none, some (.c (.int _ n)), none => (0 ≤ n ∧ n ≤ xs.length) ∧ K (.c (.pre i ver n.toNat))
      | _, _, _ => False) else False
    | _ => False
  | .c (.ro t xs) => bif Nat.beq t.size size then boundS 0 lo fun l => boundS xs.length hi fun h => (0 ≤ l ∧ l ≤ h ∧ h ≤ xs.length) ∧
      (match mx with | none => True | some (.c (.int _ m)) => m = h ∧ hi.isSome = true | _ => False) ∧ K (.c (.ro t ((xs.take h.toNat).drop l.toNat))) else False
  | _ => False

def cutStr (x : SV) (lo hi mx : Option SV) (K : SV → Prop) : Prop :=
  match x with
  | .c (.str s) => boundS 0 lo fun l => boundS s.size hi fun h => (0 ≤ l ∧ l ≤ h ∧ h ≤ s.size) ∧ mx.isNone = true ∧ K (.c (.str (s.extract l.toNat h.toNat)))
  | _ => False

/-- What is appended. -/
def srcS (t : Ty) (x : SV) (H : List Ent) (K : List t.den → Prop) : Prop :=
  match x with
  | .c (.raw u) => bif isNil u then K [] else False
  | .c (.ro t' ys) => if h : t' = t then K (h ▸ ys) else False
  | .c (.own j ver) => match H[j]? with
    | some (.row _ t' ver' ys) => bif Nat.beq ver ver' then (if h : t' = t then K (h ▸ ys) else False) else False
    | _ => False
  | _ => False

def notSelf (i : Nat) : SV → Bool
  | .c (.own j _) => !(Nat.beq i j)
  | _ => true

/-- append(s, x..): e, t, bytes: of the element. -/
def appendS (e : TypeId) (t : Ty) (bytes : Nat) (s x : SV) (H : List Ent) (K : SV → List Ent → Prop) : Prop :=
  bif Nat.ble bytes 100000 then
    match s with
    | .c (.raw u) => bif isNil u then srcS t x H fun ys => Small ys.length ∧ K (.c (.own H.length 0)) (H ++ [.row e t 0 ys]) else False
    | .c (.own i ver) => match H[i]? with
      | some (.row e' t' ver' xs) => bif Nat.beq ver ver' && Nat.beq e e' then
          (if h : t' = t then srcS t x H fun ys => Small (xs.length + ys.length) ∧
            (bif notSelf i x then K (.c (.own i (ver + 1))) (H.set i (.row e t (ver + 1) ((h ▸ xs) ++ ys))) else False) else False) else False
      | _ => False
    | .c (.pre i ver n) => match H[i]? with
      | some (.row e' t' ver' xs) => bif Nat.beq ver ver' && Nat.beq e e' then
          (if h : t' = t then srcS t x H fun ys => Small (n + ys.length) ∧
            (bif notSelf i x then K (.c (.own i (ver + 1))) (H.set i (.row e t (ver + 1) ((h ▸ xs : List t.den).take n ++ ys))) else False) else False) else False
      | _ => False
    | _ => False
  else False

structure Ann where
  τ : Type
  pre : List (Nat × TypeId × Ty)
  preC : List (Nat × Nat × TypeId × Ty)
  keep : List Nat
  slots : τ → List (Nat × SV)
  ents : τ → List (Nat × Ent)
  ok : τ → Prop
  m : τ → Nat

structure St where
  n : Nat
  t : List (Nat × SV)
  h : List Ent

structure Ctx where
  tys : List (TypeId × TI)
  fns : List (FuncId × Spec)
  ann : Nat → Option (St → Ann)
  /-- Of these, the functions that change nothing that was there. -/
  keep : FuncId → Bool := fun _ => false
  /-- Of these, the functions whose results may share memory with their arguments. -/
  frz : FuncId → Bool := fun _ => false

def capsOf : List SV → Option (List Nat)
  | [] => some []
  | .c (.ptr i 0) :: r => (capsOf r).map (i :: ·)
  | _ :: _ => none

def cellsAll : List SV → Option (List SC)
  | [] => some []
  | v :: r => match v.cells, cellsAll r with
    | some a, some b => some (a ++ b)
    | _, _ => none

/-- Parts laid into the zero of a struct or array. -/
def fillS (place : Nat → Option (Nat × Nat)) : List (Nat × SV) → List SC → Option (List SC)
  | [], cs => some cs
  | (i, v) :: r, cs => match place i, v.cells with
    | some (off, size), some l => bif Nat.beq l.length size && Nat.ble (off + size) cs.length then fillS place r (spliceL cs off l) else none
    | _, _ => none

def rep0 : Nat → List SC → List SC
  | 0, _ => []
  | n + 1, l => l ++ rep0 n l

/-- The elements of a slice literal. -/
def elemsS (t : Ty) : Nat → List SC → List Ent → (List t.den → List Ent → Prop) → Prop
  | 0, _, H, K => K [] H
  | n + 1, l, H, K => t.dat false l H fun x r H => elemsS t n r H fun xs H => K (x :: xs) H

def sizeOfS (C : Ctx) (t : TypeId) : Nat := match tyFind t C.tys with | some i => i.size | none => 0

def placesS (C : Ctx) : List (Nat × TypeId) → Option (List (Nat × Nat))
  | [] => some []
  | (off, ft) :: r => match tyFind ft C.tys, placesS C r with
    | some fi, some l => some ((off, fi.size) :: l)
    | _, _ => none

def buildS (C : Ctx) (t : TypeId) (parts : List (Nat × SV)) : Option (List SC) :=
  match tyFind t C.tys with
  | some i => match i.desc with
    | .struct fs => match placesS C fs with
      | some l => fillS (fun j => l[j]?) parts (i.zero.map constSC)
      | none => none
    | .array _ e => (match tyFind e C.tys with | some ei => fillS (fun j => some (j * ei.size, ei.size)) parts (i.zero.map constSC) | none => none)
    | _ => none
  | none => none

/-! ### Maps -/

def lookF {α : Type} : List (Int × α) → Int → Option α
  | [], _ => none
  | (j, x) :: r, k => if j = k then some x else lookF r k
def insF {α : Type} : List (Int × α) → Int → α → List (Int × α)
  | [], k, x => [(k, x)]
  | (j, y) :: r, k, x => if j = k then (j, x) :: r else (j, y) :: insF r k x

/-- The kinds of a map's keys and elements: keys are ints. -/
def mapTy (C : Ctx) (t : TypeId) (K : Bool → Ty → Prop) : Prop :=
  match tyFind t C.tys with
  | some ti => match ti.desc with
    | .map k e => match tyFind k C.tys, tyFind e C.tys with
      | some ki, some ei => (match ki.desc, ei.ty with
        | .int kk, some et => bif decide (kk = .i64) then K ei.desc.isAgg et else False
        | _, _ => False)
      | _, _ => False
    | _ => False
  | none => False

/-- An element as a result. -/
def elemV (a : Bool) (t : Ty) (x : t.den) : SV := mkV a (t.scs x)
def isSomeP {α : Type} (o : Option α) : Prop := o.isSome = true
instance {α : Type} (o : Option α) : Decidable (isSomeP o) := inferInstanceAs (Decidable (o.isSome = true))

/-- A value that is laid into a map. -/
def elemDat (a : Bool) (t : Ty) (v : SV) (H : List Ent) (K : t.den → List Ent → Prop) : Prop :=
  match v with
  | .c x => bif a then False else bif x.one then t.dat false [x] H (fun y r H => match r with | [] => K y H | _ => False) else False
  | .agg l => bif a then t.dat false l H (fun y r H => match r with | [] => K y H | _ => False) else False
  | _ => False

def lookS (ok : Bool) (a : Bool) (t : Ty) (m k : SV) (H : List Ent) (K : SV → Prop) : Prop :=
  match m, k with
  | .c (.tab i), .c (.int .i64 n) => match H[i]? with
    | some (.tab a' t' es) => bif a == a' then (if h : t' = t then
        (bif ok then K (.tup [(a, t.scs ((lookF (h ▸ es : List (Int × t.den)) n).getD t.dflt)), (false, [.prop 0 (isSomeP (lookF (h ▸ es : List (Int × t.den)) n)) inferInstance])])
        else K (elemV a t ((lookF (h ▸ es : List (Int × t.den)) n).getD t.dflt))) else False) else False
    | _ => False
  | _, _ => False

def maxAll (isMax : Bool) : Int → List SV → (Int → Prop) → Prop
  | a, [], K => K a
  | a, .c (.int _ b) :: r, K => maxAll isMax (bif isMax then max a b else min a b) r K
  | _, _, _ => False

def builtinS (C : Ctx) (b : Builtin) (args : List SV) (tys : List TypeId) (H : List Ent) (K : SV → List Ent → Prop) : Prop :=
  match b with
  | .len => match args with
    | [x] => match tys with
      | [t] => match tyFind t C.tys with
        | some ti => match ti.desc with
          | .slice _ => lenS x H fun v => K v H
          | .str => lenStr x fun v => K v H
          | .array n _ => K (.c (.int .i64 n)) H
          | _ => False
        | none => False
      | _ => False
    | _ => False
  | .append => match args with
    | [s, x] => match tys with
      | [t, t'] => bif Nat.beq t t' then (match tyFind t C.tys with
        | some ti => match ti.desc with
          | .slice e => match tyFind e C.tys with
            | some ei => match ei.ty with
              | some et => appendS e et ei.bytes s x H K
              | none => False
            | none => False
          | _ => False
        | none => False) else False
      | _ => False
    | _ => False
  | .max => match args with
    | .c (.int k a) :: r => maxAll true a r fun n => K (.c (.int k n)) H
    | _ => False
  | .min => match args with
    | .c (.int k a) :: r => maxAll false a r fun n => K (.c (.int k n)) H
    | _ => False
  | _ => False

def eqFs (C : Ctx) : List (Nat × TypeId) → Nat → List SC → List SC → ((p : Prop) → Decidable p → Prop) → Prop
  | (off, ft) :: fs, i, .int k a :: l, .int k' b :: m, K => match tyFind ft C.tys with
    | some ti => match ti.desc with
      | .int _ => bif Nat.beq off i && decide (k' = k) then (match fs with
        | [] => K (a = b) inferInstance
        | _ => eqFs C fs (i + 1) l m fun p d => K (a = b ∧ p) (@instDecidableAnd _ _ inferInstance d)) else False
      | _ => False
    | none => False
  | _, _, _, _, _ => False

def aggEq (C : Ctx) (op : BinOp) (t : TypeId) (l m : List SC) (K : SV → Prop) : Prop :=
  match tyFind t C.tys with
  | some ti => bif ti.eqs then (match ti.desc with
    | .struct fs => (match op with
      | .eql => eqFs C fs 0 l m fun p d => K (.c (.prop 0 p d))
      | .neq => eqFs C fs 0 l m fun p d => K (.c (.prop 0 (¬ p) (@instDecidableNot p d)))
      | _ => False)
    | _ => False) else False
  | none => False

def SC.asB : SC → Option Bool
  | .prop _ p d => some (@decide p d)
  | .bool _ b => some b
  | .kb b => some b
  | _ => none

def boolEq (op : BinOp) (a b : Bool) (K : SV → Prop) : Prop :=
  match op with
  | .eql => K (.c (.prop 0 (a = b) inferInstance))
  | .neq => K (.c (.prop 0 (¬ a = b) inferInstance))
  | _ => False

def isNilC : SC → Bool
  | .raw u => isNil u
  | _ => false

/-- Is a slice nil? -/
def nilS (x : SC) (H : List Ent) (K : Bool → Prop) : Prop :=
  match x with
  | .raw u => bif isNil u then K true else False
  | .ro _ xs => xs ≠ [] ∧ K false
  | .own i ver => match H[i]? with
    | some (.row _ _ ver' xs) => bif Nat.beq ver ver' then xs ≠ [] ∧ K false else False
    | _ => False
  | _ => False

def sliceEq (op : BinOp) (x y : SC) (H : List Ent) (K : SV → Prop) : Prop :=
  bif isNilC y then (match op with
    | .eql => nilS x H fun b => K (.c (.kb b))
    | .neq => nilS x H fun b => K (.c (.kb (!b)))
    | _ => False) else False

def binAll (C : Ctx) (op : BinOp) (t : TypeId) (x y : SV) (H : List Ent) (K : SV → Prop) : Prop :=
  match x, y with
  | .agg l, .agg m => aggEq C op t l m K
  | .c x, .c y => match x.asB, y.asB with
    | some a, some b => (match tyFind t C.tys with
      | some ti => (match ti.desc with
        | .bool => boolEq op a b K
        | _ => False)
      | none => False)
    | _, _ => match tyFind t C.tys with
      | some ti => (match ti.desc with
        | .slice _ => sliceEq op x y H K
        | _ => binS op (.c x) (.c y) K)
      | none => binS op (.c x) (.c y) K
  | _, _ => False

/-- Each number below one. -/
def casesN : Nat → Int → (Nat → Prop) → Prop
  | 0, _, _ => True
  | m + 1, n, p => casesN m n p ∧ (n = (m : Int) → p m)

def opStep (C : Ctx) (o : Op) (ev : Operand → SV) (H : List Ent) (K : SV → List Ent → Prop) : Prop :=
  match o with
  | .move x => K (ev x) H
  | .assign x => K (ev x) H
  | .pick c a b => (ev c).cond (K (ev a) H) (K (ev b) H)
  | .alloc e => match tyFind e C.tys with
    | some ti => K (.c (.ptr H.length 0)) (H ++ [.blk e (ti.zero.map constSC)])
    | none => False
  | .box e x => match (ev x).cells with
    | some l => K (.c (.ptr H.length 0)) (H ++ [.blk e l])
    | none => False
  | .build t parts => match buildS C t (parts.toList.map fun p => (p.1, ev p.2)) with
    | some cs => K (.agg cs) H
    | none => False
  | .buildSlice t n parts => match tyFind t C.tys with
    | some ti => match ti.desc with
      | .slice e => match tyFind e C.tys with
        | some ei => match ei.ty with
          | some et => bif Nat.ble (n * ei.size) 10000 then
              match fillS (fun j => some (j * ei.size, ei.size)) (parts.toList.map fun p => (p.1, ev p.2)) (rep0 n (ei.zero.map constSC)) with
              | some cs => elemsS et n cs H fun xs H => K (.c (.own H.length 0)) (H ++ [.row e et 0 xs])
              | none => False
            else False
          | none => False
        | none => False
      | _ => False
    | none => False
  | .load t a => match tyFind t C.tys with
    | some ti => loadS ti.size ti.desc.isAgg (ev a) H fun v => K v H
    | none => False
  | .store t a x => match tyFind t C.tys with
    | some ti => (match ev x with
      | .c (.pre i ver n) => (match H[i]? with
        | some (.row e t ver' xs) => bif Nat.beq ver ver' then storeS ti.size (ev a) (.c (.own i (ver + 1))) (H.set i (.row e t (ver + 1) (xs.take n))) fun H => K (.c .any) H else False
        | _ => False)
      | x => storeS ti.size (ev a) x H fun H => K (.c .any) H)
    | none => False
  | .nilCheck x => match ev x with
    | .c (.ptr i o) => K (.c (.ptr i o)) H
    | .c (.roa t xs k o) => K (.c (.roa t xs k o)) H
    | .c (.fn f caps) => K (.c (.fn f caps)) H
    | _ => False
  | .binOp op t x y _ => binAll C op t (ev x) (ev y) H fun v => K v H
  | .unOp op _ x => unS op (ev x) fun v => K v H
  | .convert src dst x => match tyFind src C.tys, tyFind dst C.tys with
    | some si, some di => match di.desc, si.desc, ev x with
      | .int k, .int _, .c (.int _ n) => arith k n fun v => K v H
      | .str, .str, .c (.str s) => K (.c (.str s)) H
      | .str, .slice e, v => (match tyFind e C.tys with
        | some ei => (match ei.desc with
          | .int k => bif decide (k = .u8) then bytesOfS v H fun l => K (.c (.str (strOf l))) H else False
          | _ => False)
        | none => False)
      | _, _, _ => False
    | _, _ => False
  | .makeFunc (.func f) first captured => bif Nat.beq first.size 0 then
      (match capsOf (captured.toList.map ev) with
      | some caps => K (.c (.fn f caps)) H
      | none => False) else False
  | .makeSlice t l c => match tyFind t C.tys with
    | some ti => match ti.desc with
      | .slice e => match tyFind e C.tys with
        | some ei => match ei.ty, ev l, ev c with
          | some et, .c (.int _ n), .c (.int _ m) => bif Nat.ble ei.bytes 100000 then (0 ≤ n ∧ n ≤ m ∧ Small m.toNat) ∧ K (.c (.own H.length 0)) (H ++ [.row e et 0 (List.replicate n.toNat et.dflt)]) else False
          | _, _, _ => False
        | none => False
      | _ => False
    | none => False
  | .slice t x lo hi mx => match tyFind t C.tys with
    | some ti => match ti.desc with
      | .slice e => (match tyFind e C.tys with | some ei => sliceS ei.size (ev x) (lo.map ev) (hi.map ev) (mx.map ev) H fun v => K v H | none => False)
      | .str => cutStr (ev x) (lo.map ev) (hi.map ev) (mx.map ev) fun v => K v H
      | _ => False
    | none => False
  | .fieldAddr t x f => match tyFind t C.tys with
    | some ti => match ti.desc with
      | .struct fs => match fs[f]? with
        | some (off, ft) => (match tyFind ft C.tys with | some fi => bif Nat.beq fi.size 0 then False else fieldS off (ev x) H fun v => K v H | none => False)
        | none => False
      | _ => False
    | none => False
  | .field t x f => match tyFind t C.tys with
    | some ti => match ti.desc with
      | .struct fs => match fs[f]?, ev x with
        | some (off, ft), .agg cs => (match tyFind ft C.tys with | some fi => bif Nat.ble (off + fi.size) cs.length then K (mkV fi.desc.isAgg ((cs.drop off).take fi.size)) H else False | none => False)
        | _, _ => False
      | _ => False
    | none => False
  | .indexAddr t x i => match tyFind t C.tys with
    | some ti => match ti.desc with
      | .slice e => (match tyFind e C.tys with | some ei => indexS ei.size (ev x) (ev i) H fun v => K v H | none => False)
      | .array len e => bif ti.sym then (match ev i with
        | .c (.int _ n) => (match tyFind e C.tys with | some ei => (0 ≤ n ∧ n < len) ∧ casesN len n (fun j => fieldS (j * ei.size) (ev x) H fun v => K v H) | none => False)
        | _ => False) else (match ev i with
        | .c (.int _ (.ofNat n)) => (match tyFind e C.tys with | some ei => bif Nat.blt n len then fieldS (n * ei.size) (ev x) H fun v => K v H else False | none => False)
        | _ => False)
      | _ => False
    | none => False
  | .index t x i => match tyFind t C.tys with
    | some ti => match ti.desc, ev x, ev i with
      | .str, .c (.str s), .c (.int _ n) => (0 ≤ n ∧ n < s.size) ∧ K (.c (.int .u8 (bt s n.toNat))) H
      | .array len e, .agg cs, .c (.int _ (.ofNat n)) => (match tyFind e C.tys with
        | some ei => bif Nat.blt n len && Nat.ble (n * ei.size + ei.size) cs.length then K (mkV ei.desc.isAgg ((cs.drop (n * ei.size)).take ei.size)) H else False
        | none => False)
      | _, _, _ => False
    | none => False
  | .makeMap t none => mapTy C t fun a et => K (.c (.tab H.length)) (H ++ [.tab a et []])
  | .lookup t m k ok => mapTy C t fun a et => lookS ok a et (ev m) (ev k) H fun v => K v H
  | .mapUpdate t m k x => mapTy C t fun a et => match ev m, ev k with
    | .c (.tab i), .c (.int .i64 n) => (match H[i]? with
      | some (.tab a' t' es) => bif a == a' then (if h : t' = et then
          elemDat a et (ev x) H fun y H1 => (match H1[i]? with
            | some (.tab ..) => K (.c .any) (H1.set i (.tab a et (insF (h ▸ es : List (Int × et.den)) n y)))
            | _ => False) else False) else False
      | _ => False)
    | _, _ => False
  | .extract x i => match ev x with
    | .tup l => match l[i]? with
      | some p => K (mkV p.1 p.2) H
      | none => False
    | _ => False
  | .call c => match c.callee with
    | .value f => match ev f with
      | .c (.fn f caps) => match specFind f C.fns with
        | some s => s (c.args.toList.map ev ++ caps.map fun i => .c (.ptr i 0)) H K
        | none => False
      | _ => False
    | .builtin b => builtinS C b (c.args.toList.map ev) c.argTypes.toList H K
    | _ => False
  | _ => False

/-- Operations that yield a value and change nothing. -/
def lightOp : Op → Bool
  | .move _ | .assign _ | .pick .. | .load .. | .build .. | .nilCheck _ | .binOp .. | .unOp .. | .convert .. | .makeFunc .. | .slice .. | .fieldAddr .. | .field .. | .indexAddr .. | .index .. | .extract .. | .lookup .. => true
  | .call c => match c.callee with
    | .builtin .len | .builtin .max | .builtin .min => true
    | _ => false
  | _ => false

/-- Light ones that read no memory. -/
def pureOp (o : Op) : Bool := match o with
  | .load .. | .convert .. | .lookup .. => false
  | o => lightOp o

/-! ### States and code -/


def findT (d : Nat) : List (Nat × SV) → SV
  | [] => .c .any
  | (k, v) :: r => bif Nat.beq k d then v else findT d r

def St.ev (st : St) : Operand → SV
  | .tmp d => findT d st.t
  | .const v => constSV v
  | .func f => .c (.fn f [])
  | .global g => .c (.raw (.pointer (some ⟨g, 0, none⟩)))

def SV.tag (d : Nat) : SV → SV
  | .c (.prop 0 p i) => .c (.prop (d + 1) p i)
  | .c (.bool 0 b) => .c (.bool (d + 1) b)
  | v => v

/-- What is known of a test stands in each slot that holds it. -/
def assumeT (id : Nat) (b : Bool) : List (Nat × SV) → (List (Nat × SV) → Prop) → Prop
  | [], K => K []
  | (d, v) :: r, K => match v with
    | .c (.prop i p _) => bif Nat.beq i id then (bif b then p else ¬ p) ∧ assumeT id b r (fun r => K ((d, .c (.kb b)) :: r)) else assumeT id b r (fun r => K ((d, v) :: r))
    | .c (.bool i x) => bif Nat.beq i id then (x = b) ∧ assumeT id b r (fun r => K ((d, .c (.kb b)) :: r)) else assumeT id b r (fun r => K ((d, v) :: r))
    | v => assumeT id b r (fun r => K ((d, v) :: r))

def assumeS (id : Nat) (b : Bool) (st : St) (K : St → Prop) : Prop :=
  match id with
  | 0 => K st
  | id => assumeT id b st.t fun t => K ⟨st.n, t, st.h⟩

/-- Both ways of a test, and what is known then. -/
def SV.condS (v : SV) (st : St) (A B : St → Prop) : Prop :=
  match v with
  | .c (.prop id p _) => (p → assumeS id true st A) ∧ (¬ p → assumeS id false st B)
  | .c (.bool id b) => (b = true → assumeS id true st A) ∧ (b = false → assumeS id false st B)
  | .c (.kb b) => bif b then A st else B st
  | _ => False

def St.put (st : St) (d : Option Tmp) (v : SV) (H : List Ent) : St :=
  match d with
  | none => ⟨st.n, st.t, H⟩
  | some d => bif Nat.blt d st.n then ⟨st.n, (d, v.tag d) :: st.t, H⟩ else ⟨st.n, st.t, H⟩

inductive Ex where
  | normal | exit (id : Nat) | ret

/-- A test that was not made. -/
def SV.skipped : SV → Bool
  | .c (.raw (.bool _)) => false
  | .c (.raw _) => true
  | _ => false

def frzV (i ver : Nat) (T : Ty) (xs : List T.den) : SV → SV
  | .c (.own j w) => bif Nat.beq j i && Nat.beq w ver then .c (.ro T xs) else .c (.own j w)
  | v => v

def frzT (i ver : Nat) (T : Ty) (xs : List T.den) : List (Nat × SV) → List (Nat × SV)
  | [] => []
  | (d, v) :: r => (d, frzV i ver T xs v) :: frzT i ver T xs r

/-- A row of its own that is handed to such a function is not written any more. -/
def frzA : List Operand → St → St
  | [], st => st
  | x :: r, st => match st.ev x with
    | .c (.own i ver) => match st.h[i]? with
      | some (.row _ T ver' xs) => bif Nat.beq ver ver' then frzA r ⟨st.n, frzT i ver T xs st.t, st.h.set i .dead⟩ else frzA r st
      | _ => frzA r st
    | _ => frzA r st

def frzOp (C : Ctx) (o : Op) (st : St) : St :=
  match o with
  | .call c => match c.callee with
    | .value (.func f) => bif C.frz f then frzA c.args.toList st else st
    | _ => st
  | _ => st

def runOp (C : Ctx) (o : Oper) (st : St) (K : St → Prop) : Prop :=
  opStep C o.op (frzOp C o.op st).ev (frzOp C o.op st).h fun v H => K ((frzOp C o.op st).put o.dst v H)

def execOps (C : Ctx) (all : Array Oper) : List Oper → St → (St → Prop) → Prop
  | [], st, Q => Q st
  | o :: r, st, Q => match o.guard with
    | none => runOp C o st fun st => execOps C all r st Q
    | some (j, want) => match (all[j]?).bind (·.dst) with
      | some d => bif Nat.blt d st.n then
          bif (findT d st.t).skipped then execOps C all r (st.put o.dst (.c (.raw undef)) st.h) Q else
          (bif want then (findT d st.t).condS st (fun st => runOp C o st fun st => execOps C all r st Q) (fun st => execOps C all r (st.put o.dst (.c (.raw undef)) st.h) Q)
          else (findT d st.t).condS st (fun st => execOps C all r (st.put o.dst (.c (.raw undef)) st.h) Q) (fun st => runOp C o st fun st => execOps C all r st Q)) else False
      | none => False

/-! ### Regions whose order is drawn -/

def keepOp (C : Ctx) : Op → Bool
  | .alloc _ | .box .. | .buildSlice .. | .makeSlice .. => true
  | .call c => match c.callee with
    | .value (.func f) => C.keep f
    | _ => false
  | _ => false

def tb (m i : Nat) : Bool := Nat.beq (Nat.land 1 (Nat.shiftRight m i)) 1

def depE : List Edge → Nat
  | [] => 0
  | e :: r => bif Region.binds .any e then Nat.lor (Nat.shiftLeft 1 e.on) (depE r) else depE r

def depsOf : List Oper → List Nat
  | [] => []
  | o :: r => depE o.after.toList :: depsOf r

def orAll (dep : Nat) : List Nat → Nat → Nat
  | [], _ => 0
  | t :: r, k => bif tb dep k then Nat.lor t (orAll dep r (k + 1)) else orAll dep r (k + 1)

def tcGo : List Nat → List Nat → List Nat
  | [], acc => acc
  | d :: r, acc => tcGo r (acc ++ [Nat.lor d (orAll d acc 0)])

def subM (d m : Nat) : Bool := Nat.beq (Nat.land d m) d

def readyL (m : Nat) : List Nat → Nat → List Nat
  | [], _ => []
  | d :: r, i => bif !(tb m i) && subM d m then i :: readyL m r (i + 1) else readyL m r (i + 1)

def lastL (C : Ctx) (m i : Nat) : List Oper → List Nat → Nat → Bool
  | o :: l, t :: r, d => (lightOp o.op || keepOp C o.op || tb m d || tb t i) && lastL C m i l r (d + 1)
  | [], _, _ => true
  | _, [], _ => false

def freeL (ops : Array Oper) (x : Oper) (m i : Nat) : List Oper → List Nat → Nat → Bool
  | y :: l, d :: r, j => (tb m j || Nat.beq j i || tb d i || x.apart ops y) && freeL ops x m i l r (j + 1)
  | [], _, _ => true
  | _, [], _ => false

def pickOK (C : Ctx) (ops : Array Oper) (deps tcs : List Nat) (m i : Nat) : Bool :=
  match ops[i]? with
  | some o => lightOp o.op && (pureOp o.op || lastL C m i ops.toList tcs 0) && freeL ops o m i ops.toList deps 0
  | none => false

def pickL (C : Ctx) (ops : Array Oper) (deps tcs : List Nat) (m : Nat) : List Nat → Option Nat
  | [] => none
  | i :: r => bif pickOK C ops deps tcs m i then some i else pickL C ops deps tcs m r

def allL : List Nat → (Nat → Prop) → Prop
  | [], _ => True
  | [i], p => p i
  | i :: r, p => p i ∧ allL r p

def execAny (C : Ctx) (ops : Array Oper) (deps tcs : List Nat) : Nat → Nat → St → (St → Prop) → Prop
  | 0, m, st, Q => match readyL m deps 0 with
    | [] => Q st
    | _ => False
  | f + 1, m, st, Q => match readyL m deps 0 with
    | [] => Q st
    | i :: r => match pickL C ops deps tcs m (i :: r) with
      | some i => (match ops[i]? with
        | some o => execOps C ops [o] st fun st => execAny C ops deps tcs f (Nat.lor m (Nat.shiftLeft 1 i)) st Q
        | none => False)
      | none => allL (i :: r) fun i => match ops[i]? with
        | some o => execOps C ops [o] st fun st => execAny C ops deps tcs f (Nat.lor m (Nat.shiftLeft 1 i)) st Q
        | none => False

def execDraw (C : Ctx) (ops : Array Oper) (st : St) (Q : St → Prop) : Prop :=
  bif Region.noSelect ops then execAny C ops (depsOf ops.toList) (tcGo (depsOf ops.toList) []) ops.size 0 st Q else False

def Code.nloops : Code → Nat
  | .seq a b => Code.nloops a + Code.nloops b
  | .cond _ a b => Code.nloops a + Code.nloops b
  | .block _ c => Code.nloops c
  | .loop c => Code.nloops c + 1
  | .scope c => Code.nloops c
  | _ => 0

def natsEq : List Nat → List Nat → Bool
  | [], [] => true
  | a :: r, b :: s => Nat.beq a b && natsEq r s
  | _, _ => false

theorem natsEq_eq : {a b : List Nat} → natsEq a b = true → a = b
  | [], [], _ => rfl
  | a :: r, b :: s, h => by
    simp only [natsEq, Bool.and_eq_true] at h
    rw [Nat.eq_of_beq_eq_true h.1, natsEq_eq h.2]
  | [], _ :: _, h => by cases h
  | _ :: _, [], h => by cases h

def SC.le (H H' : List Ent) (x : SC) : SC → Prop
  | .any => True
  | .int k' n' => (match x with
    | .int k n => bif decide (k = k') then n = n' else False
    | _ => False)
  | .prop _ q _ => (match x with
    | .prop _ p _ => (p ↔ q)
    | .bool _ b => (b = true ↔ q)
    | .kb b => (b = true ↔ q)
    | _ => False)
  | .bool _ b' => (match x with
    | .prop _ p d => @decide p d = b'
    | .bool _ b => b = b'
    | .kb b => b = b'
    | _ => False)
  | .kb b' => (match x with
    | .kb b => bif b == b' then True else False
    | .prop _ p _ => bif b' then p else ¬ p
    | .bool _ b => b = b'
    | _ => False)
  | .str s' => (match x with
    | .str s => s = s'
    | _ => False)
  | .ptr j o' => (match x with
    | .ptr i o => bif Nat.beq i j && Nat.beq o o' && Nat.blt j H'.length then True else False
    | _ => False)
  | .tab j => (match x with
    | .tab i => bif Nat.beq i j && Nat.blt j H'.length then True else False
    | _ => False)
  | .ro t' xs' => (match x with
    | .ro t xs => if h : t = t' then (h ▸ xs) = xs' else False
    | .raw u => bif isNil u then xs' = [] else False
    | _ => False)
  | .raw v => (match x with
    | .raw u => u = v
    | _ => False)
  | .own j ver' => (match x with
    | .own i ver => bif Nat.beq i j then
      (match H[i]?, H'[j]? with
      | some (.row _ _ v1 _), some (.row _ _ v2 _) => bif Nat.beq ver v1 && Nat.beq ver' v2 then True else False
      | _, _ => False) else False
    | _ => False)
  | .fn f' cs' => (match x with
    | .fn f cs => bif Nat.beq f f' && natsEq cs cs' && cs.all (fun i => Nat.blt i H'.length) then True else False
    | _ => False)
  | _ => False

def leL (H H' : List Ent) : List SC → List SC → Prop
  | [], [] => True
  | x :: r, y :: s => SC.le H H' x y ∧ leL H H' r s
  | _, _ => False

def SV.le (H H' : List Ent) : SV → SV → Prop
  | _, .c .any => True
  | .c x, .c y => SC.le H H' x y
  | .agg l, .agg m => leL H H' l m
  | _, _ => False

def compsLe (H H' : List Ent) : List (Bool × List SC) → List (Bool × List SC) → Prop
  | [], [] => True
  | p :: r, q :: s => (bif p.1 == q.1 then leL H H' p.2 q.2 else False) ∧ compsLe H H' r s
  | _, _ => False
/-- A result. -/
def SV.leR (H H' : List Ent) : SV → SV → Prop
  | .tup l, .tup m => compsLe H H' l m
  | x, y => SV.le H H' x y

def Ent.le (H H' : List Ent) (fresh : Bool) : Ent → Ent → Prop
  | _, .dead => True
  | .blk e cs, .blk e' cs' => bif Nat.beq e e' then leL H H' cs cs' else False
  | .row e t ver xs, .row e' t' ver' xs' => bif Nat.beq e e' && (fresh || Nat.beq ver ver') then (if h : t = t' then (h ▸ xs) = xs' else False) else False
  | .tab a t es, .tab a' t' es' => bif a == a' then (if h : t = t' then (h ▸ es) = es' else False) else False
  | _, _ => False

def entsLe (fresh : Nat → Bool) (H H' : List Ent) : Nat → List Ent → List Ent → Prop
  | _, _, [] => True
  | _, [], _ :: _ => False
  | i, a :: r, b :: s => Ent.le H H' (fresh i) a b ∧ entsLe fresh H H' (i + 1) r s

def slotsLe (t : List (Nat × SV)) (H H' : List Ent) : List (Nat × SV) → Prop
  | [] => True
  | (d, v) :: r => SV.le H H' (findT d t) v ∧ slotsLe t H H' r

def St.le (fresh : Nat → Bool) (st inv : St) : Prop :=
  entsLe fresh st.h inv.h 0 st.h inv.h ∧ slotsLe st.t st.h inv.h inv.t

/-- A nil slice in a slot becomes a row of its own (empty). -/
def matSlots : List (Nat × TypeId × Ty) → St → St
  | [], st => st
  | (d, e, t) :: r, st => match findT d st.t with
    | .c (.raw u) => bif isNil u && Nat.blt d st.n then matSlots r ⟨st.n, (d, .c (.own st.h.length 0)) :: st.t, st.h ++ [.row e t 0 []]⟩ else matSlots r st
    | _ => matSlots r st

def matCells : List (Nat × Nat × TypeId × Ty) → St → St
  | [], st => st
  | (i, o, e, t) :: r, st => match st.h[i]? with
    | some (.blk ty cs) => (match cs[o]? with
      | some (.raw u) => bif isNil u then matCells r ⟨st.n, st.t, (st.h ++ [Ent.row e t 0 []]).set i (.blk ty (cs.set o (.own st.h.length 0)))⟩ else matCells r st
      | _ => matCells r st)
    | _ => matCells r st

def keepT (keep : List Nat) : List (Nat × SV) → List (Nat × SV)
  | [] => []
  | (d, v) :: r => bif keep.any (Nat.beq d) then (d, v) :: keepT keep r else keepT keep r

/-- A row that a loop changes has a version of its own; not where the annotation's entry has a version other than 0 (its length stays, and where it lies). -/
def bumpE (old new : Ent) : Ent :=
  match old, new with
  | .row _ _ ver _, .row e t k xs => .row e t (bif Nat.beq k 0 then ver + 1 else ver) xs
  | _, .row .. => .dead
  | _, new => new

def setEnts (H0 : List Ent) : List (Nat × Ent) → List Ent → List Ent
  | [], H => H
  | (i, e) :: r, H => match H0[i]? with
    | some old => setEnts H0 r (H.set i (bumpE old e))
    | none => setEnts H0 r H

def Ann.head (an : Ann) (st : St) (x : an.τ) : St := ⟨st.n, an.slots x ++ keepT an.keep st.t, setEnts st.h (an.ents x) st.h⟩

def keepE : Ent → Bool
  | .row _ _ k _ => !(Nat.beq k 0)
  | _ => false
def Ann.fresh (an : Ann) (x : an.τ) (i : Nat) : Bool := ((an.ents x).any fun p => Nat.beq p.1 i) && !((an.ents x).any fun p => Nat.beq p.1 i && keepE p.2)

def exec (C : Ctx) : Code → Nat → St → (Ex → St → Prop) → Prop
  | .skip, _, st, Q => Q .normal st
  | .region _ ops draw, _, st, Q => bif draw then execDraw C ops st fun st => Q .normal st else execOps C ops ops.toList st fun st => Q .normal st
  | .seq a b, n, st, Q => exec C a n st fun
    | .normal, st => exec C b (n + Code.nloops a) st Q
    | e, st => Q e st
  | .cond c a b, n, st, Q => (st.ev c).condS st (fun st => exec C a n st Q) (fun st => exec C b (n + Code.nloops a) st Q)
  | .block id c, n, st, Q => exec C c n st fun
    | .exit j, st => bif Nat.beq j id then Q .normal st else Q (.exit j) st
    | e, st => Q e st
  | .loop c, n, st, Q => match C.ann n with
    | none => False
    | some f => (∃ x0, (f st).ok x0 ∧ St.le ((f st).fresh x0) (matCells (f st).preC (matSlots (f st).pre st)) ((f st).head (matCells (f st).preC (matSlots (f st).pre st)) x0)) ∧
        ∀ x, (f st).ok x → exec C c (n + 1) ((f st).head (matCells (f st).preC (matSlots (f st).pre st)) x) fun
          | .normal, st' => ∃ x', (f st).ok x' ∧ (f st).m x' < (f st).m x ∧ St.le ((f st).fresh x') st' ((f st).head (matCells (f st).preC (matSlots (f st).pre st)) x')
          | e, st' => Q e st'
  | .exit id, _, st, Q => Q (.exit id) st
  | .ret, _, st, Q => Q .ret st
  | .label _, _, st, Q => Q .normal st
  | _, _, _, _ => False

/-! ### What an annotation may read off the state -/

def noAnn : Ann := ⟨Empty, [], [], [], nofun, nofun, nofun, nofun⟩

/-- The number in a slot. -/
def withI (d : Nat) (K : Int → Ann) (st : St) : Ann :=
  match findT d st.t with
  | .c (.int _ n) => K n
  | _ => noAnn

/-- The cell that a slot points at. -/
def withC (d : Nat) (K : SC → Ann) (st : St) : Ann :=
  match findT d st.t with
  | .c (.ptr i o) => match st.h[i]? with
    | some (.blk _ cs) => match cs[o]? with
      | some c => K c
      | none => noAnn
    | _ => noAnn
  | _ => noAnn

/-- The number in the cell that a slot points at. -/
def withCI (d : Nat) (K : Int → Ann) (st : St) : Ann :=
  withC d (fun | .int _ n => K n | _ => noAnn) st

/-- The pointers that a function in a slot has caught. -/
def withCaps (d : Nat) (K : List Nat → Ann) (st : St) : Ann :=
  match findT d st.t with
  | .c (.fn _ caps) => K caps
  | _ => noAnn

/-- The number in a block. -/
def withBI (i : Nat) (K : Int → Ann) (st : St) : Ann :=
  match st.h[i]? with
  | some (.blk _ (.int _ n :: _)) => K n
  | _ => noAnn

end Go.SX
