/- SX, part A: plain data, symbolic values, the symbolic heap, and what keeps their reading. -/
import Derived.WalkKit
import Derived.Below
import Derived.Laws.AppendOwn
import Derived.Laws.MakeOwn
import Derived.Laws.OwnMore
import Derived.Deep.AppendLies
import Derived.Maps.AppendAt
import Derived.Deep.LoopGhost
import Derived.OrdersHeld
namespace Go.SX
open Go Go.RowKit

/-- The kinds of plain data. -/
inductive Ty where
  | int (k : IntKind) | bool | str | pair (a b : Ty) | slice (t : Ty)

@[reducible] def Ty.den : Ty → Type
  | .int _ => Int
  | .bool => Bool
  | .str => ByteArray
  | .pair a b => a.den × b.den
  | .slice t => List t.den

def Ty.size : Ty → Nat
  | .pair a b => a.size + b.size
  | _ => 1

def Ty.dflt : (t : Ty) → t.den
  | .int _ => (0 : Int)
  | .bool => false
  | .str => ByteArray.empty
  | .pair a b => (a.dflt, b.dflt)
  | .slice _ => []

def Ty.zeros : Ty → List Value
  | .int k => [.int k 0]
  | .bool => [.bool false]
  | .str => [.string ByteArray.empty]
  | .pair a b => a.zeros ++ b.zeros
  | .slice _ => [.slice none 0 0]

theorem Ty.size_pos : (t : Ty) → 0 < t.size
  | .int _ | .bool | .str | .slice _ => by simp [Ty.size]
  | .pair a b => by have := a.size_pos; simp [Ty.size]; omega

/-- 'get' reads, from 0 on, elements of some cells each. -/
def ElemsAt {α : Type} (R : α → List Value → Prop) (size : Nat) (xs : List α) (get : Nat → Option Value) : Prop :=
  ∀ i x, xs[i]? = some x → ∃ c, R x c ∧ c.length = size ∧ ∀ j u, c[j]? = some u → get (i * size + j) = some u

/-- A slice value reads as a list; its cells lie in a block that 'ok' says is not written any more. -/
def RoAt {α : Type} (w : World) (ok : Nat → Prop) (R : α → List Value → Prop) (size : Nat) (A : Option Addr) (cap : Nat) (xs : List α) : Prop :=
  xs.length ≤ cap ∧ (xs ≠ [] → ∃ ad, A = some ad ∧ ad.block < w.heap.size ∧ ok ad.block ∧ ElemsAt R size xs fun k => w.cell? (ad.add k))

def Ty.Rep (w : World) (ok : Nat → Prop) : (t : Ty) → t.den → List Value → Prop
  | .int k, x, cs => cs = [.int k x]
  | .bool, b, cs => cs = [.bool b]
  | .str, s, cs => cs = [.string s]
  | .pair a b, p, cs => ∃ c1 c2, cs = c1 ++ c2 ∧ Ty.Rep w ok a p.1 c1 ∧ Ty.Rep w ok b p.2 c2
  | .slice t, xs, cs => ∃ A cap, cs = [.slice A xs.length cap] ∧ RoAt w ok (Ty.Rep w ok t) t.size A cap xs

theorem Ty.Rep.len {w : World} {ok : Nat → Prop} : (t : Ty) → {x : t.den} → {cs : List Value} → t.Rep w ok x cs → cs.length = t.size
  | .int _, _, _, h | .bool, _, _, h | .str, _, _, h => by cases h; rfl
  | .pair a b, _, _, ⟨c1, c2, e, h1, h2⟩ => by subst e; simp [Ty.size, Ty.Rep.len a h1, Ty.Rep.len b h2]
  | .slice _, _, _, ⟨_, _, e, _⟩ => by subst e; rfl

theorem Ty.Rep.one {w : World} {ok : Nat → Prop} : (t : Ty) → {x : t.den} → {cs : List Value} → t.Rep w ok x cs → ∀ u ∈ cs, u.oneCell' = true
  | .int _, _, _, h | .bool, _, _, h | .str, _, _, h => by cases h; simp [Value.oneCell']
  | .pair a b, _, _, ⟨c1, c2, e, h1, h2⟩ => by
    subst e; intro u hu; rcases List.mem_append.1 hu with h | h
    · exact Ty.Rep.one a h1 u h
    · exact Ty.Rep.one b h2 u h
  | .slice _, _, _, ⟨_, _, e, _⟩ => by subst e; simp [Value.oneCell']

/-- What was not to be written has not been: in the new world the same blocks are there, and still 'ok'. -/
structure Keeps (w : World) (ok : Nat → Prop) (w' : World) (ok' : Nat → Prop) : Prop where
  size : w.heap.size ≤ w'.heap.size
  block : ∀ b, b < w.heap.size → ok b → ok' b ∧ w'.heap[b]? = w.heap[b]?

theorem ElemsAt.mono {α : Type} {R R' : α → List Value → Prop} {size : Nat} {xs : List α} {get get' : Nat → Option Value}
    (h : ElemsAt R size xs get) (hR : ∀ x c, R x c → R' x c) (hg : ∀ k u, get k = some u → get' k = some u) : ElemsAt R' size xs get' := by
  intro i x hx
  obtain ⟨c, h1, h2, h3⟩ := h i x hx
  exact ⟨c, hR _ _ h1, h2, fun j u hu => hg _ _ (h3 j u hu)⟩

theorem block_add (a : Addr) (n : Nat) : (a.add n).block = a.block := by unfold Addr.add; split <;> rfl
theorem add_add (a : Addr) (i j : Nat) : (a.add i).add j = a.add (i + j) := by
  unfold Addr.add
  by_cases hi : i = 0 <;> by_cases hj : j = 0 <;> simp [hi, hj, Nat.add_assoc]

theorem RoAt.mono {α : Type} {w w' : World} {ok ok' : Nat → Prop} {R R' : α → List Value → Prop} {size : Nat} {A : Option Addr} {cap : Nat} {xs : List α}
    (h : RoAt w ok R size A cap xs) (hk : Keeps w ok w' ok') (hR : ∀ x c, R x c → R' x c) : RoAt w' ok' R' size A cap xs := by
  refine ⟨h.1, fun hx => ?_⟩
  obtain ⟨ad, h1, h2, h3, h4⟩ := h.2 hx
  obtain ⟨k1, k2⟩ := hk.block _ h2 h3
  refine ⟨ad, h1, Nat.lt_of_lt_of_le h2 hk.size, k1, h4.mono hR fun k u hu => ?_⟩
  rw [← hu]
  exact World.cell?_of_block (by rw [block_add]; exact k2)

theorem Ty.Rep.mono {w w' : World} {ok ok' : Nat → Prop} (hk : Keeps w ok w' ok') : (t : Ty) → {x : t.den} → {cs : List Value} → t.Rep w ok x cs → t.Rep w' ok' x cs
  | .int _, _, _, h | .bool, _, _, h | .str, _, _, h => h
  | .pair a b, _, _, ⟨c1, c2, e, h1, h2⟩ => ⟨c1, c2, e, Ty.Rep.mono hk a h1, Ty.Rep.mono hk b h2⟩
  | .slice t, _, _, ⟨A, cap, e, h⟩ => ⟨A, cap, e, h.mono hk fun _ _ h => Ty.Rep.mono hk t h⟩

theorem Ty.rep_zeros {w : World} {ok : Nat → Prop} : (t : Ty) → t.Rep w ok t.dflt t.zeros
  | .int _ | .bool | .str => rfl
  | .pair a b => ⟨_, _, rfl, Ty.rep_zeros a, Ty.rep_zeros b⟩
  | .slice _ => ⟨none, 0, rfl, Nat.le_refl _, fun h => absurd rfl h⟩

/-- A symbolic value of one cell. -/
inductive SC where
  | any
  | int (k : IntKind) (n : Int)
  | prop (id : Nat) (p : Prop) (d : Decidable p)
  | bool (id : Nat) (b : Bool)
  | kb (b : Bool)
  | str (s : ByteArray)
  | ptr (i off : Nat)
  | ro (t : Ty) (xs : List t.den)
  | roa (t : Ty) (xs : List t.den) (k off : Nat)
  | own (i ver : Nat)
  | owna (i ver k off : Nat)
  | pre (i ver n : Nat)
  | tab (i : Nat)
  | fn (f : FuncId) (caps : List Nat)
  | raw (v : Value)

/-- A symbolic value: one cell; an aggregate's cells; several results (each an aggregate or one cell). -/
inductive SV where
  | c (x : SC)
  | agg (l : List SC)
  | tup (l : List (Bool × List SC))

/-- A symbolic block. -/
inductive Ent where
  | dead
  | blk (ty : TypeId) (cs : List SC)
  | row (e : TypeId) (t : Ty) (ver : Nat) (xs : List t.den)
  | tab (a : Bool) (t : Ty) (es : List (Int × t.den))

/-- What stands behind the entries' numbers. -/
structure Gh where
  b : Nat → Nat
  v : Nat → Value
  ok : Nat → Prop

def Ent.blocks (g : Gh) (i : Nat) : Ent → Nat → Prop
  | .dead, _ => False
  | .blk .., b => b = g.b i
  | .row .., b => (g.v i).ownBlock = some b
  | .tab .., b => b = g.b i

def Owned (H : List Ent) (g : Gh) (b : Nat) : Prop := ∃ (i : Nat) (e : Ent), H[i]? = some e ∧ e.blocks g i b

/-- A block that is not written any more (and that what is handed on may lie in). -/
def Stable (H : List Ent) (g : Gh) (b : Nat) : Prop := g.ok b ∧ ¬ Owned H g b

def OwnRep (H : List Ent) (g : Gh) (i ver : Nat) (v : Value) : Prop :=
  match H[i]? with
  | some (.row _ _ ver' _) => ver ≤ ver' ∧ (ver = ver' → v = g.v i)
  | some _ => True
  | none => False

def OwnaRep (H : List Ent) (g : Gh) (i ver k off : Nat) (v : Value) : Prop :=
  match H[i]? with
  | some (.row _ t ver' xs) => ver ≤ ver' ∧ (ver = ver' → k < xs.length ∧ ∃ b, (g.v i).ownBlock = some b ∧ v = .pointer (some ⟨b, k * t.size + off, none⟩))
  | some _ => True
  | none => False

/-- The beginning of a row, as a slice. -/
def PreRep (H : List Ent) (g : Gh) (i ver n : Nat) (v : Value) : Prop :=
  match H[i]? with
  | some (.row _ _ ver' xs) => ver ≤ ver' ∧ (ver = ver' → n ≤ xs.length ∧ ∃ A len cap, g.v i = .slice A len cap ∧ v = .slice A n cap)
  | some _ => True
  | none => False

def SC.Rep (w : World) (H : List Ent) (g : Gh) : SC → Value → Prop
  | .any, _ => True
  | .int k n, v => v = .int k n
  | .prop _ p d, v => v = .bool (@decide p d)
  | .bool _ b, v => v = .bool b
  | .kb b, v => v = .bool b
  | .str s, v => v = .string s
  | .ptr i o, v => i < H.length ∧ v = .pointer (some ⟨g.b i, o, none⟩)
  | .ro t xs, v => Ty.Rep w (Stable H g) (.slice t) xs [v]
  | .roa t xs k off, v => k < xs.length ∧ ∃ ad : Addr, v = .pointer (some (ad.add (k * t.size + off))) ∧ ad.block < w.heap.size ∧ Stable H g ad.block ∧
      ElemsAt (t.Rep w (Stable H g)) t.size xs fun j => w.cell? (ad.add j)
  | .own i ver, v => v.oneCell' = true ∧ OwnRep H g i ver v
  | .owna i ver k off, v => v.oneCell' = true ∧ OwnaRep H g i ver k off v
  | .pre i ver n, v => v.oneCell' = true ∧ PreRep H g i ver n v
  | .tab i, v => i < H.length ∧ v = .map (some (g.b i))
  | .fn f caps, v => v = .func (.func f) #[] (caps.map fun i => Value.pointer (some ⟨g.b i, 0, none⟩)).toArray ∧ ∀ i ∈ caps, i < H.length
  | .raw u, v => v = u

/-- What becomes of the symbolic heap: nothing that a symbolic value says is lost. -/
structure Evo (w : World) (H : List Ent) (g : Gh) (w' : World) (H' : List Ent) (g' : Gh) : Prop where
  ok : g'.ok = g.ok
  keeps : Keeps w (Stable H g) w' (Stable H' g')
  len : H.length ≤ H'.length
  ptr : ∀ i, i < H.length → g'.b i = g.b i
  row : ∀ i e t ver xs, i < H.length → H'[i]? = some (.row e t ver xs) → ∃ ver0 xs0, H[i]? = some (.row e t ver0 xs0) ∧
    (ver0 < ver ∨ (ver0 = ver ∧ xs0.length = xs.length ∧ g'.v i = g.v i))

theorem Keeps.refl (w : World) (ok : Nat → Prop) : Keeps w ok w ok := ⟨Nat.le_refl _, fun _ _ h => ⟨h, rfl⟩⟩
theorem Keeps.trans {w w1 w2 : World} {o o1 o2 : Nat → Prop} (h : Keeps w o w1 o1) (k : Keeps w1 o1 w2 o2) : Keeps w o w2 o2 :=
  ⟨Nat.le_trans h.size k.size, fun b hb ho => by
    obtain ⟨h1, h2⟩ := h.block b hb ho
    obtain ⟨k1, k2⟩ := k.block b (Nat.lt_of_lt_of_le hb h.size) h1
    exact ⟨k1, k2.trans h2⟩⟩

theorem Evo.refl (w : World) (H : List Ent) (g : Gh) : Evo w H g w H g :=
  ⟨rfl, Keeps.refl _ _, Nat.le_refl _, fun _ _ => rfl, fun _ _ _ ver xs _ h => ⟨ver, xs, h, .inr ⟨rfl, rfl, rfl⟩⟩⟩

theorem Evo.trans {w w1 w2 : World} {H H1 H2 : List Ent} {g g1 g2 : Gh} (h : Evo w H g w1 H1 g1) (k : Evo w1 H1 g1 w2 H2 g2) : Evo w H g w2 H2 g2 where
  ok := k.ok.trans h.ok
  keeps := h.keeps.trans k.keeps
  len := Nat.le_trans h.len k.len
  ptr i hi := (k.ptr i (Nat.lt_of_lt_of_le hi h.len)).trans (h.ptr i hi)
  row i e t ver xs hi hr := by
    obtain ⟨v1, x1, r1, d1⟩ := k.row i e t ver xs (Nat.lt_of_lt_of_le hi h.len) hr
    obtain ⟨v0, x0, r0, d0⟩ := h.row i e t v1 x1 hi r1
    refine ⟨v0, x0, r0, ?_⟩
    rcases d0 with d0 | ⟨e0, l0, g0⟩ <;> rcases d1 with d1 | ⟨e1, l1, g1⟩
    · exact .inl (by omega)
    · exact .inl (by omega)
    · exact .inl (by omega)
    · exact .inr ⟨e0.trans e1, l0.trans l1, g1.trans g0⟩

theorem OwnRep.evo {w w' : World} {H H' : List Ent} {g g' : Gh} (he : Evo w H g w' H' g') {i ver : Nat} {v : Value} (h : OwnRep H g i ver v) : OwnRep H' g' i ver v := by
  unfold OwnRep at h ⊢
  cases hi : H[i]? with
  | none => rw [hi] at h; exact h.elim
  | some e0 =>
    have hl : i < H.length := (List.getElem?_eq_some_iff.1 hi).1
    have hl' := Nat.lt_of_lt_of_le hl he.len
    rw [List.getElem?_eq_getElem hl']
    cases hr : H'[i] with
    | dead => trivial
    | blk => trivial
    | tab => trivial
    | row e t ver' xs =>
      obtain ⟨v0, x0, r0, d0⟩ := he.row i e t ver' xs hl (by rw [List.getElem?_eq_getElem hl', hr])
      rw [r0] at h
      obtain ⟨h1, h2⟩ := h
      rcases d0 with d0 | ⟨e0, l0, g0⟩
      · exact ⟨by omega, fun e => by omega⟩
      · subst e0; exact ⟨h1, fun e => by rw [g0]; exact h2 e⟩

theorem OwnaRep.evo {w w' : World} {H H' : List Ent} {g g' : Gh} (he : Evo w H g w' H' g') {i ver k off : Nat} {v : Value} (h : OwnaRep H g i ver k off v) : OwnaRep H' g' i ver k off v := by
  unfold OwnaRep at h ⊢
  cases hi : H[i]? with
  | none => rw [hi] at h; exact h.elim
  | some e0 =>
    have hl : i < H.length := (List.getElem?_eq_some_iff.1 hi).1
    have hl' := Nat.lt_of_lt_of_le hl he.len
    rw [List.getElem?_eq_getElem hl']
    cases hr : H'[i] with
    | dead => trivial
    | blk => trivial
    | tab => trivial
    | row e t ver' xs =>
      obtain ⟨v0, x0, r0, d0⟩ := he.row i e t ver' xs hl (by rw [List.getElem?_eq_getElem hl', hr])
      rw [r0] at h
      obtain ⟨h1, h2⟩ := h
      rcases d0 with d0 | ⟨e0, l0, g0⟩
      · exact ⟨by omega, fun e => by omega⟩
      · subst e0; exact ⟨h1, fun e => by rw [g0, ← l0]; exact h2 e⟩

theorem PreRep.evo {w w' : World} {H H' : List Ent} {g g' : Gh} (he : Evo w H g w' H' g') {i ver n : Nat} {v : Value} (h : PreRep H g i ver n v) : PreRep H' g' i ver n v := by
  unfold PreRep at h ⊢
  cases hi : H[i]? with
  | none => rw [hi] at h; exact h.elim
  | some e0 =>
    have hl : i < H.length := (List.getElem?_eq_some_iff.1 hi).1
    have hl' := Nat.lt_of_lt_of_le hl he.len
    rw [List.getElem?_eq_getElem hl']
    cases hr : H'[i] with
    | dead => trivial
    | blk => trivial
    | tab => trivial
    | row e t ver' xs =>
      obtain ⟨v0, x0, r0, d0⟩ := he.row i e t ver' xs hl (by rw [List.getElem?_eq_getElem hl', hr])
      rw [r0] at h
      obtain ⟨h1, h2⟩ := h
      rcases d0 with d0 | ⟨e0, l0, g0⟩
      · exact ⟨by omega, fun e => by omega⟩
      · subst e0; exact ⟨h1, fun e => by rw [g0, ← l0]; exact h2 e⟩

theorem SC.Rep.evo {w w' : World} {H H' : List Ent} {g g' : Gh} (he : Evo w H g w' H' g') : {x : SC} → {v : Value} → x.Rep w H g v → x.Rep w' H' g' v
  | .any, _, _ => trivial
  | .int .., _, h | .prop .., _, h | .bool .., _, h | .kb _, _, h | .str _, _, h | .raw _, _, h => h
  | .ptr i o, _, ⟨h1, h2⟩ => ⟨Nat.lt_of_lt_of_le h1 he.len, by rw [he.ptr i h1]; exact h2⟩
  | .ro t xs, _, h => Ty.Rep.mono he.keeps (.slice t) h
  | .roa t xs k off, _, ⟨h0, ad, h1, h2, h3, h4⟩ => by
    obtain ⟨k1, k2⟩ := he.keeps.block _ h2 h3
    refine ⟨h0, ad, h1, Nat.lt_of_lt_of_le h2 he.keeps.size, k1, h4.mono (fun _ _ h => Ty.Rep.mono he.keeps t h) fun j u hu => ?_⟩
    rw [← hu]
    exact World.cell?_of_block (by rw [block_add]; exact k2)
  | .own i ver, v, h => ⟨h.1, OwnRep.evo he h.2⟩
  | .owna i ver k off, v, h => ⟨h.1, OwnaRep.evo he h.2⟩
  | .pre i ver n, v, h => ⟨h.1, PreRep.evo he h.2⟩
  | .tab i, _, ⟨h1, h2⟩ => ⟨Nat.lt_of_lt_of_le h1 he.len, by rw [he.ptr i h1]; exact h2⟩
  | .fn f caps, v, ⟨h1, h2⟩ => by
    refine ⟨?_, fun i hi => Nat.lt_of_lt_of_le (h2 i hi) he.len⟩
    rw [h1]
    congr 2
    exact List.map_congr_left fun i hi => by rw [he.ptr i (h2 i hi)]

/-- Cells that read as symbolic values. -/
def Reps (w : World) (H : List Ent) (g : Gh) (l : List SC) (vs : List Value) : Prop :=
  vs.length = l.length ∧ ∀ (j : Nat) (c : SC) (v : Value), l[j]? = some c → vs[j]? = some v → c.Rep w H g v

theorem Reps.evo {w w' : World} {H H' : List Ent} {g g' : Gh} (he : Evo w H g w' H' g') {l : List SC} {vs : List Value} (h : Reps w H g l vs) : Reps w' H' g' l vs :=
  ⟨h.1, fun j c v h1 h2 => (h.2 j c v h1 h2).evo he⟩

def CompRep (w : World) (H : List Ent) (g : Gh) (p : Bool × List SC) (v : Value) : Prop :=
  ∃ vs : List Value, Reps w H g p.2 vs ∧ (∀ u ∈ vs, u.oneCell' = true) ∧ if p.1 = true then v = .agg vs.toArray else vs = [v]

theorem CompRep.evo {w w' : World} {H H' : List Ent} {g g' : Gh} (he : Evo w H g w' H' g') {p : Bool × List SC} {v : Value} (h : CompRep w H g p v) : CompRep w' H' g' p v := by
  obtain ⟨vs, h1, h2, h3⟩ := h
  exact ⟨vs, h1.evo he, h2, h3⟩

def SV.Rep (w : World) (H : List Ent) (g : Gh) : SV → Value → Prop
  | .c x, v => x.Rep w H g v
  | .agg l, v => ∃ vs : List Value, v = .agg vs.toArray ∧ Reps w H g l vs ∧ ∀ u ∈ vs, u.oneCell' = true
  | .tup l, v => ∃ vs : List Value, v = .tuple vs.toArray ∧ vs.length = l.length ∧ ∀ (j : Nat) (p : Bool × List SC) (u : Value), l[j]? = some p → vs[j]? = some u → CompRep w H g p u

theorem SV.Rep.evo {w w' : World} {H H' : List Ent} {g g' : Gh} (he : Evo w H g w' H' g') : {x : SV} → {v : Value} → x.Rep w H g v → x.Rep w' H' g' v
  | .c _, _, h => SC.Rep.evo he h
  | .agg _, _, ⟨vs, h1, h2, h3⟩ => ⟨vs, h1, h2.evo he, h3⟩
  | .tup _, _, ⟨vs, h1, h2, h3⟩ => ⟨vs, h1, h2, fun j p u hp hu => (h3 j p u hp hu).evo he⟩

/-- A map's entries read as a list of keys and values. -/
def TabRep (w : World) (ok : Nat → Prop) (a : Bool) (t : Ty) (es : List (Int × t.den)) (ents : List MapEntry) : Prop :=
  ents.length = es.length ∧ (es.map Prod.fst).Nodup ∧ ∀ (k : Nat) (p : Int × t.den) (m : MapEntry), es[k]? = some p → ents[k]? = some m →
    m.key = .int .i64 p.1 ∧ (if a = true then ∃ cs : List Value, m.val = .agg cs.toArray ∧ t.Rep w ok p.2 cs else t.Rep w ok p.2 [m.val])

theorem TabRep.mono {w w' : World} {ok ok' : Nat → Prop} (hk : Keeps w ok w' ok') {a : Bool} {t : Ty} {es : List (Int × t.den)} {ents : List MapEntry} (h : TabRep w ok a t es ents) : TabRep w' ok' a t es ents := by
  obtain ⟨h1, h2, h4⟩ := h
  refine ⟨h1, h2, fun k p m hp hm => ?_⟩
  obtain ⟨q1, q2⟩ := h4 k p m hp hm
  refine ⟨q1, ?_⟩
  split
  · rename_i ha; rw [if_pos ha] at q2; obtain ⟨cs, e, q2⟩ := q2; exact ⟨cs, e, Ty.Rep.mono hk t q2⟩
  · rename_i ha; rw [if_neg ha] at q2; exact Ty.Rep.mono hk t q2

/-- An entry stands as it says. B: from this block on all is the call's own; X: the blocks below that it may write. -/
def Ent.OK (B : Nat) (X : Nat → Prop) (w : World) (H : List Ent) (g : Gh) (i : Nat) : Ent → Prop
  | .dead => True
  | .blk ty cs => ∃ vs : List Value, w.heap[g.b i]? = some (.cells vs.toArray ty (0, 0)) ∧ Reps w H g cs vs ∧ (∀ u ∈ vs, u.oneCell' = true) ∧ (B ≤ g.b i ∨ X (g.b i))
  | .row e t _ xs => ∃ cells : List Value, w.ownsRow 0 e t.size (g.v i) xs.length cells ∧ ElemsAt (t.Rep w (Stable H g)) t.size xs (fun k => cells[k]?) ∧
      (∀ u ∈ cells, u.oneCell' = true) ∧ ∀ b, (g.v i).ownBlock = some b → B ≤ b ∨ X b
  | .tab a t es => ∃ (ents : Array MapEntry) (clock : Nat), w.heap[g.b i]? = some (.map ents clock) ∧ TabRep w (Stable H g) a t es ents.toList ∧ (B ≤ g.b i ∨ X (g.b i))

/-- The symbolic heap reads in the world. -/
structure Sat (B : Nat) (X : Nat → Prop) (w0 : World) (H : List Ent) (g : Gh) (w : World) : Prop where
  os : w.os = w0.os
  tape : w.tape = w0.tape
  output : w.output = w0.output
  size0 : w0.heap.size ≤ w.heap.size
  hB : B ≤ w.heap.size
  okB : ∀ b, B ≤ b ∨ X b → g.ok b
  old : ∀ b, b < B → ¬ X b → w.heap[b]? = w0.heap[b]?
  ents : ∀ (i : Nat) (e : Ent), H[i]? = some e → e.OK B X w H g i
  apart : ∀ (i j : Nat) (e f : Ent) (b : Nat), H[i]? = some e → H[j]? = some f → e.blocks g i b → f.blocks g j b → i = j

theorem Ent.OK.lt {B : Nat} {X : Nat → Prop} {w : World} {H : List Ent} {g : Gh} {i : Nat} : {e : Ent} → e.OK B X w H g i → ∀ b, e.blocks g i b → b < w.heap.size
  | .dead, _, _, h => h.elim
  | .blk ty cs, ⟨vs, h, _⟩, b, hb => by cases hb; exact (Array.getElem?_eq_some_iff.1 h).1
  | .row e t ver xs, ⟨cells, h, _⟩, b, hb => (h.lt b hb).2
  | .tab a t es, ⟨ents, c, h, _⟩, b, hb => by cases hb; exact (Array.getElem?_eq_some_iff.1 h).1

theorem Ent.OK.mine {B : Nat} {X : Nat → Prop} {w : World} {H : List Ent} {g : Gh} {i : Nat} : {e : Ent} → e.OK B X w H g i → ∀ b, e.blocks g i b → B ≤ b ∨ X b
  | .dead, _, _, h => h.elim
  | .blk ty cs, ⟨vs, _, _, _, h⟩, b, hb => by cases hb; exact h
  | .row e t ver xs, ⟨cells, _, _, _, h⟩, b, hb => h b hb
  | .tab a t es, ⟨ents, c, _, _, h⟩, b, hb => by cases hb; exact h

/-- An entry of which no block has been written stands as it did. -/
theorem Ent.OK.evo {B : Nat} {X : Nat → Prop} {w w' : World} {H H' : List Ent} {g g' : Gh} {i : Nat} (he : Evo w H g w' H' g') (hb : g'.b i = g.b i) (hv : g'.v i = g.v i) :
    {e : Ent} → e.OK B X w H g i → (∀ b, e.blocks g i b → w'.heap[b]? = w.heap[b]?) → e.OK B X w' H' g' i
  | .dead, _, _ => trivial
  | .blk ty cs, ⟨vs, h1, h2, h3, h4⟩, hs => ⟨vs, by rw [hb, hs _ rfl]; exact h1, h2.evo he, h3, by rw [hb]; exact h4⟩
  | .row e t ver xs, ⟨cells, ⟨ho, h1⟩, h2, h3, h4⟩, hs => by
    refine ⟨cells, ⟨ho, ?_⟩, h2.mono (fun _ _ h => Ty.Rep.mono he.keeps t h) (fun _ _ h => h), h3, by rw [hv]; exact h4⟩
    rw [hv]
    rcases h1 with h1 | ⟨gb, cap, cur, e1, e2, e3, r⟩
    · exact .inl h1
    · refine .inr ⟨gb, cap, cur, e1, e2, ?_, r⟩
      rw [hs gb (by show (g.v i).ownBlock = some gb; rw [e1]; rfl)]; exact e3
  | .tab a t es, ⟨ents, c, h1, h2, h3⟩, hs => ⟨ents, c, by rw [hb, hs _ rfl]; exact h1, h2.mono he.keeps, by rw [hb]; exact h3⟩

theorem Ent.blocks_congr {g g1 : Gh} {i : Nat} (hb : g1.b i = g.b i) (hv : g1.v i = g.v i) : {e : Ent} → {b : Nat} → (e.blocks g1 i b ↔ e.blocks g i b)
  | .dead, _ => Iff.rfl
  | .blk .., _ => by unfold Ent.blocks; rw [hb]
  | .row .., _ => by unfold Ent.blocks; rw [hv]
  | .tab .., _ => by unfold Ent.blocks; rw [hb]

/-- One entry changes: its blocks, and new ones, alone are written. -/
theorem Sat.upd {B : Nat} {X : Nat → Prop} {w0 w w1 : World} {H : List Ent} {g g1 : Gh} (h : Sat B X w0 H g w) (k : Nat) (e0 e1 : Ent) (hk : H[k]? = some e0)
    (hgo : g1.ok = g.ok) (hgb : ∀ i, g1.b i = g.b i) (hgv : ∀ i, i ≠ k → g1.v i = g.v i)
    (hos : w1.os = w.os) (ht : w1.tape = w.tape) (ho : w1.output = w.output) (hsz : w.heap.size ≤ w1.heap.size)
    (hheap : ∀ b, b < w.heap.size → ¬ e0.blocks g k b → w1.heap[b]? = w.heap[b]?)
    (hnew : ∀ b, e1.blocks g1 k b → e0.blocks g k b ∨ w.heap.size ≤ b)
    (hrow : ∀ e t ver xs, e1 = .row e t ver xs → ∃ ver0 xs0, e0 = .row e t ver0 xs0 ∧ (ver0 < ver ∨ (ver0 = ver ∧ xs0.length = xs.length ∧ g1.v k = g.v k)))
    (hok : Evo w H g w1 (H.set k e1) g1 → e1.OK B X w1 (H.set k e1) g1 k) : Sat B X w0 (H.set k e1) g1 w1 ∧ Evo w H g w1 (H.set k e1) g1 := by
  have hkl : k < H.length := (List.getElem?_eq_some_iff.1 hk).1
  have hself : (H.set k e1)[k]? = some e1 := List.getElem?_set_self hkl
  have hoth : ∀ i, i ≠ k → (H.set k e1)[i]? = H[i]? := fun i hi => List.getElem?_set_ne (Ne.symm hi)
  have hev : Evo w H g w1 (H.set k e1) g1 := by
    refine ⟨hgo, ⟨hsz, fun b hb hno => ⟨⟨by rw [hgo]; exact hno.1, ?_⟩, hheap b hb fun he => hno.2 ⟨k, e0, hk, he⟩⟩⟩, by simp, fun i _ => hgb i, fun i e t ver xs hi hr => ?_⟩
    · replace hno := hno.2
      rintro ⟨i, e, hi, hbl⟩
      by_cases hik : i = k
      · subst hik
        rw [hself] at hi
        cases hi
        rcases hnew b hbl with h1 | h1
        · exact hno ⟨i, e0, hk, h1⟩
        · omega
      · rw [hoth i hik] at hi
        exact hno ⟨i, e, hi, (Ent.blocks_congr (hgb i) (hgv i hik)).1 hbl⟩
    · by_cases hik : i = k
      · subst hik
        rw [hself] at hr
        cases hr
        obtain ⟨v0, x0, r0, d⟩ := hrow e t ver xs rfl
        exact ⟨v0, x0, by rw [hk, r0], d⟩
      · rw [hoth i hik] at hr
        exact ⟨ver, xs, hr, .inr ⟨rfl, rfl, hgv i hik⟩⟩
  refine ⟨⟨hos.trans h.os, ht.trans h.tape, ho.trans h.output, Nat.le_trans h.size0 hsz, Nat.le_trans h.hB hsz, fun b hb => by rw [hgo]; exact h.okB b hb, fun b hb hx => ?_, fun i e hi => ?_, fun i j e f b hi hj hbi hbj => ?_⟩, hev⟩
  · rw [hheap b (Nat.lt_of_lt_of_le hb h.hB) fun he => ?_]
    · exact h.old b hb hx
    · rcases (h.ents k e0 hk).mine b he with h1 | h1
      · omega
      · exact hx h1
  · by_cases hik : i = k
    · subst hik
      rw [hself] at hi
      cases hi
      exact hok hev
    · rw [hoth i hik] at hi
      refine (h.ents i e hi).evo hev (hgb i) (hgv i hik) fun b hb => hheap b ((h.ents i e hi).lt b hb) fun he => hik (h.apart i k e e0 b hi hk hb he)
  · have key : ∀ (j : Nat) (f : Ent), j ≠ k → H[j]? = some f → f.blocks g1 j b → ¬ e1.blocks g1 k b := by
      intro j f hjk hj hbj hbk
      have hbj' := (Ent.blocks_congr (hgb j) (hgv j hjk)).1 hbj
      rcases hnew b hbk with h1 | h1
      · exact hjk (h.apart j k f e0 b hj hk hbj' h1)
      · have := (h.ents j f hj).lt b hbj'; omega
    by_cases hik : i = k
    · subst hik
      by_cases hjk : j = i
      · exact hjk.symm
      · rw [hself] at hi
        cases hi
        rw [hoth j hjk] at hj
        exact absurd hbi (key j f hjk hj hbj)
    · rw [hoth i hik] at hi
      by_cases hjk : j = k
      · subst hjk
        rw [hself] at hj
        cases hj
        exact absurd hbj (key i e hik hi hbi)
      · rw [hoth j hjk] at hj
        exact h.apart i j e f b hi hj ((Ent.blocks_congr (hgb i) (hgv i hik)).1 hbi) ((Ent.blocks_congr (hgb j) (hgv j hjk)).1 hbj)

/-- A new entry: new blocks alone are written. -/
theorem Sat.add {B : Nat} {X : Nat → Prop} {w0 w w1 : World} {H : List Ent} {g g1 : Gh} (h : Sat B X w0 H g w) (e1 : Ent)
    (hgo : g1.ok = g.ok) (hgb : ∀ i, i ≠ H.length → g1.b i = g.b i) (hgv : ∀ i, i ≠ H.length → g1.v i = g.v i)
    (hos : w1.os = w.os) (ht : w1.tape = w.tape) (ho : w1.output = w.output) (hsz : w.heap.size ≤ w1.heap.size)
    (hheap : ∀ b, b < w.heap.size → w1.heap[b]? = w.heap[b]?)
    (hnew : ∀ b, e1.blocks g1 H.length b → w.heap.size ≤ b)
    (hok : Evo w H g w1 (H ++ [e1]) g1 → e1.OK B X w1 (H ++ [e1]) g1 H.length) : Sat B X w0 (H ++ [e1]) g1 w1 ∧ Evo w H g w1 (H ++ [e1]) g1 := by
  have hself : (H ++ [e1])[H.length]? = some e1 := by simp
  have hoth : ∀ i, i < H.length → (H ++ [e1])[i]? = H[i]? := fun i hi => List.getElem?_append_left hi
  have hlt : ∀ i e, (H ++ [e1])[i]? = some e → i < H.length ∨ (i = H.length ∧ e = e1) := by
    intro i e hi
    rcases Nat.lt_trichotomy i H.length with h1 | h1 | h1
    · exact .inl h1
    · subst h1; rw [hself] at hi; cases hi; exact .inr ⟨rfl, rfl⟩
    · rw [List.getElem?_eq_none (by simp; omega)] at hi; cases hi
  have hev : Evo w H g w1 (H ++ [e1]) g1 := by
    refine ⟨hgo, ⟨hsz, fun b hb hno => ⟨⟨by rw [hgo]; exact hno.1, ?_⟩, hheap b hb⟩⟩, by simp, fun i hi => hgb i (by omega), fun i e t ver xs hi hr => ?_⟩
    · replace hno := hno.2
      rintro ⟨i, e, hi, hbl⟩
      rcases hlt i e hi with h1 | ⟨h1, h2⟩
      · rw [hoth i h1] at hi
        exact hno ⟨i, e, hi, (Ent.blocks_congr (hgb i (by omega)) (hgv i (by omega))).1 hbl⟩
      · subst h1; subst h2; have := hnew b hbl; omega
    · rw [hoth i hi] at hr
      exact ⟨ver, xs, hr, .inr ⟨rfl, rfl, hgv i (by omega)⟩⟩
  refine ⟨⟨hos.trans h.os, ht.trans h.tape, ho.trans h.output, Nat.le_trans h.size0 hsz, Nat.le_trans h.hB hsz, fun b hb => by rw [hgo]; exact h.okB b hb, fun b hb hx => ?_, fun i e hi => ?_, fun i j e f b hi hj hbi hbj => ?_⟩, hev⟩
  · rw [hheap b (Nat.lt_of_lt_of_le hb h.hB)]; exact h.old b hb hx
  · rcases hlt i e hi with h1 | ⟨h1, h2⟩
    · rw [hoth i h1] at hi
      exact (h.ents i e hi).evo hev (hgb i (by omega)) (hgv i (by omega)) fun b hb => hheap b ((h.ents i e hi).lt b hb)
    · subst h1; subst h2; exact hok hev
  · have low : ∀ (i : Nat) (e : Ent), i < H.length → (H ++ [e1])[i]? = some e → e.blocks g1 i b → H[i]? = some e ∧ e.blocks g i b ∧ b < w.heap.size := by
      intro i e h1 hi hbi
      rw [hoth i h1] at hi
      have hb' := (Ent.blocks_congr (hgb i (by omega)) (hgv i (by omega))).1 hbi
      exact ⟨hi, hb', (h.ents i e hi).lt b hb'⟩
    rcases hlt i e hi with h1 | ⟨h1, h2⟩ <;> rcases hlt j f hj with h3 | ⟨h3, h4⟩
    · obtain ⟨a1, a2, a3⟩ := low i e h1 hi hbi
      obtain ⟨b1, b2, b3⟩ := low j f h3 hj hbj
      exact h.apart i j e f b a1 b1 a2 b2
    · obtain ⟨a1, a2, a3⟩ := low i e h1 hi hbi
      subst h3; subst h4; have := hnew b hbj; omega
    · obtain ⟨b1, b2, b3⟩ := low j f h3 hj hbj
      subst h1; subst h2; have := hnew b hbi; omega
    · omega

/-- Nothing of the symbolic heap changes; blocks that no entry owns may have been added. -/
theorem Sat.same {B : Nat} {X : Nat → Prop} {w0 w w1 : World} {H : List Ent} {g : Gh} (h : Sat B X w0 H g w)
    (hos : w1.os = w.os) (ht : w1.tape = w.tape) (ho : w1.output = w.output) (hsz : w.heap.size ≤ w1.heap.size)
    (hheap : ∀ b, b < w.heap.size → w1.heap[b]? = w.heap[b]?) : Sat B X w0 H g w1 ∧ Evo w H g w1 H g := by
  have hev : Evo w H g w1 H g := ⟨rfl, ⟨hsz, fun b hb hno => ⟨hno, hheap b hb⟩⟩, Nat.le_refl _, fun _ _ => rfl, fun i e t ver xs hi hr => ⟨ver, xs, hr, .inr ⟨rfl, rfl, rfl⟩⟩⟩
  exact ⟨⟨hos.trans h.os, ht.trans h.tape, ho.trans h.output, Nat.le_trans h.size0 hsz, Nat.le_trans h.hB hsz, h.okB,
    fun b hb hx => by rw [hheap b (Nat.lt_of_lt_of_le hb h.hB)]; exact h.old b hb hx,
    fun i e hi => (h.ents i e hi).evo hev rfl rfl fun b hb => hheap b ((h.ents i e hi).lt b hb), h.apart⟩, hev⟩

end Go.SX
