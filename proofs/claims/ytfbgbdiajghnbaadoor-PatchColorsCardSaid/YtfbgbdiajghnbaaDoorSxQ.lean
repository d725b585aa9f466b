/- SX, part Q: contracts of functions that write what they are handed. -/
import Derived.Test.YtfbgbdiajghnbaaDoorSxP
namespace Go.SX
open Go Go.RowKit

/-! ### Renaming: a small heap within a larger one -/

def renSC (ρ V : Nat → Nat) : SC → SC
  | .ptr i o => .ptr (ρ i) o
  | .own i v => .own (ρ i) (V i + v)
  | .owna i v k o => .owna (ρ i) (V i + v) k o
  | .pre i v n => .pre (ρ i) (V i + v) n
  | .tab i => .tab (ρ i)
  | .fn f caps => .fn f (caps.map ρ)
  | c => c
def renEnt (ρ V : Nat → Nat) (k : Nat) : Ent → Ent
  | .dead => .dead
  | .blk e cs => .blk e (cs.map (renSC ρ V))
  | .row e t v xs => .row e t (V k + v) xs
  | .tab a t es => .tab a t es
def renSV (ρ V : Nat → Nat) : SV → SV
  | .c x => .c (renSC ρ V x)
  | .agg l => .agg (l.map (renSC ρ V))
  | .tup l => .tup (l.map fun p => (p.1, p.2.map (renSC ρ V)))

/-- A small value stands for one of the larger heap. -/
def SC.same (ρ : Nat → Nat) (n : Nat) (H : List Ent) : SC → SC → Prop
  | .any, _ => True
  | .int k x, .int k' y => bif decide (k = k') then y = x else False
  | .bool _ b, c => match c.asB with
    | some b' => b' = b
    | none => False
  | .kb b, .kb b' => bif b == b' then True else False
  | .str s, .str s' => s' = s
  | .ptr i o, .ptr j o' => bif Nat.beq (ρ i) j && Nat.beq o o' && Nat.blt i n then True else False
  | .ro t xs, .ro t' ys => if h : t' = t then (h ▸ ys) = xs else False
  | .ro _ xs, .raw u => bif isNil u then xs = [] else False
  | .own i v, .own j v' => match H[j]? with
    | some (.row _ _ w _) => bif Nat.beq (ρ i) j && Nat.beq v 0 && Nat.beq v' w && Nat.blt i n then True else False
    | _ => False
  | .fn f caps, .fn f' caps' => bif Nat.beq f f' && natsEq (caps.map ρ) caps' && caps.all (fun i => Nat.blt i n) then True else False
  | .raw u, .raw v => v = u
  | _, _ => False
def sameL (ρ : Nat → Nat) (n : Nat) (H : List Ent) : List SC → List SC → Prop
  | [], [] => True
  | x :: r, y :: s => SC.same ρ n H x y ∧ sameL ρ n H r s
  | _, _ => False
def SV.same (ρ : Nat → Nat) (n : Nat) (H : List Ent) : SV → SV → Prop
  | .c x, .c y => SC.same ρ n H x y
  | .agg l, .agg m => sameL ρ n H l m
  | _, _ => False
def sameVs (ρ : Nat → Nat) (n : Nat) (H : List Ent) : List SV → List SV → Prop
  | [], [] => True
  | x :: r, y :: s => SV.same ρ n H x y ∧ sameVs ρ n H r s
  | _, _ => False
def Ent.same (ρ : Nat → Nat) (n : Nat) (H : List Ent) : Ent → Ent → Prop
  | .blk e cs, .blk e' cs' => bif Nat.beq e e' then sameL ρ n H cs cs' else False
  | .row e t v xs, .row e' t' _ xs' => bif Nat.beq e e' && Nat.beq v 0 then (if h : t' = t then (h ▸ xs') = xs else False) else False
  | _, _ => False
def sameEnts (ρ : Nat → Nat) (n : Nat) (H : List Ent) : Nat → List Ent → Prop
  | _, [] => True
  | k, e :: r => (match H[ρ k]? with
    | some e' => Ent.same ρ n H e e'
    | none => False) ∧ sameEnts ρ n H (k + 1) r

def ndL : List Nat → Bool
  | [] => true
  | j :: r => !(r.any (Nat.beq j)) && ndL r

def verAt (H : List Ent) (j : Nat) : Nat := match H[j]? with
  | some (.row _ _ v _) => v
  | _ => 0
def atL (js : List Nat) (k : Nat) : Nat := match js, k with
  | [], _ => 0
  | j :: _, 0 => j
  | _ :: r, k + 1 => atL r k
def updH : List Nat → List Ent → List Ent → List Ent
  | j :: js, e :: es, H => updH js es (H.set j e)
  | _, _, H => H
def renEnts (ρ V : Nat → Nat) : Nat → List Ent → List Ent
  | _, [] => []
  | k, e :: r => renEnt ρ V k e :: renEnts ρ V (k + 1) r

section
variable {P : Program} {B : Nat} {X : Nat → Prop} {w0 w w' : World} {H H0 Ho Hn : List Ent} {g g' : Gh} {ρ V : Nat → Nat} {n : Nat}

theorem Ty.Rep.stable {t : Ty} {x : t.den} {cs : List Value} {ok ok' : Nat → Prop} (h : t.Rep w ok x cs) (hk : ∀ b, b < w.heap.size → ok b → ok' b) : t.Rep w ok' x cs :=
  Ty.Rep.mono ⟨Nat.le_refl _, fun b hb ho => ⟨hk b hb ho, rfl⟩⟩ t h

/-- The small heap's reading of what the larger one reads. -/
theorem SC.same_rep {g0 : Gh} (hb : ∀ k, k < n → g0.b k = g.b (ρ k)) (hv : ∀ k, k < n → g0.v k = g.v (ρ k)) (hn : H0.length = n)
    (hrow : ∀ k e t v xs, k < n → H[ρ k]? = some (.row e t v xs) → ∃ e' t' xs', H0[k]? = some (.row e' t' 0 xs'))
    (hst : ∀ b, b < w.heap.size → Stable H g b → Stable H0 g0 b) {x y : SC} {v : Value} (h : SC.same ρ n H x y) (hr : y.Rep w H g v) : x.Rep w H0 g0 v := by
  unfold SC.same at h
  split at h
  · trivial
  · rename_i k a k' b
    cases hd : decide (k = k') with
    | false => rw [hd] at h; exact h.elim
    | true =>
      rw [hd] at h
      have e := of_decide_eq_true hd
      subst e
      simp only [cond_true] at h
      subst h
      exact hr
  · rename_i b
    cases y <;> simp only [SC.asB] at h <;> try exact h.elim
    all_goals (subst h; exact hr)
  · rename_i b b'
    cases hd : (b == b') with
    | false => rw [hd] at h; exact h.elim
    | true =>
      have e : b = b' := by simpa using hd
      subst e
      exact hr
  · subst h; exact hr
  · rename_i i o j o'
    cases hd : (Nat.beq (ρ i) j && Nat.beq o o' && Nat.blt i n) with
    | false => rw [hd] at h; exact h.elim
    | true =>
      simp only [Bool.and_eq_true] at hd
      have e1 := Nat.eq_of_beq_eq_true hd.1.1
      have e2 := Nat.eq_of_beq_eq_true hd.1.2
      have e3 : i < n := Nat.le_of_ble_eq_true hd.2
      subst e1; subst e2
      exact ⟨by omega, by rw [hb i e3]; exact hr.2⟩
  · rename_i t xs t' ys
    split at h
    · rename_i ht
      subst ht
      subst h
      exact Ty.Rep.stable (t := .slice _) hr hst
    · exact h.elim
  · rename_i t xs u
    cases hu : isNil u with
    | false => rw [hu] at h; exact h.elim
    | true =>
      rw [hu] at h
      simp only [cond_true] at h
      subst h
      have e : v = u := hr
      rw [isNil_eq hu] at e
      exact ⟨none, 0, by rw [e]; rfl, Nat.le_refl _, fun h => absurd rfl h⟩
  · rename_i i a j a'
    cases hj : H[j]? with
    | none => rw [hj] at h; exact h.elim
    | some en =>
      rw [hj] at h
      cases en with
      | dead => exact h.elim
      | blk => exact h.elim
      | tab => exact h.elim
      | row e t wv xs =>
        simp only at h
        cases hd : (Nat.beq (ρ i) j && Nat.beq a 0 && Nat.beq a' wv && Nat.blt i n) with
        | false => rw [hd] at h; exact h.elim
        | true =>
          simp only [Bool.and_eq_true] at hd
          have e1 := Nat.eq_of_beq_eq_true hd.1.1.1
          have e2 := Nat.eq_of_beq_eq_true hd.1.1.2
          have e3 := Nat.eq_of_beq_eq_true hd.1.2
          have e4 : i < n := Nat.le_of_ble_eq_true hd.2
          subst e1; subst e2; subst e3
          obtain ⟨h1, h2⟩ := hr
          refine ⟨h1, ?_⟩
          obtain ⟨e', t', xs', q⟩ := hrow i e t _ xs e4 hj
          unfold OwnRep at h2 ⊢
          rw [hj] at h2
          rw [q]
          exact ⟨Nat.le_refl _, fun _ => by rw [hv i e4]; exact h2.2 rfl⟩
  · rename_i f caps f' caps'
    cases hd : (Nat.beq f f' && natsEq (caps.map ρ) caps' && caps.all (fun i => Nat.blt i n)) with
    | false => rw [hd] at h; exact h.elim
    | true =>
      simp only [Bool.and_eq_true] at hd
      have e1 := Nat.eq_of_beq_eq_true hd.1.1
      have e2 := natsEq_eq hd.1.2
      subst e1; subst e2
      have hlt : ∀ i ∈ caps, i < n := fun i hi => Nat.le_of_ble_eq_true (List.all_eq_true.1 hd.2 i hi)
      obtain ⟨h1, h2⟩ := hr
      refine ⟨?_, fun i hi => by have := hlt i hi; omega⟩
      rw [h1, List.map_map]
      congr 2
      exact List.map_congr_left fun i hi => by simp only [Function.comp]; rw [hb i (hlt i hi)]
  · subst h; exact hr
  · exact h.elim

theorem sameL_rep {g0 : Gh} (hsc : ∀ x y v, SC.same ρ n H x y → y.Rep w H g v → x.Rep w H0 g0 v) : {l m : List SC} → {vs : List Value} → sameL ρ n H l m → Reps w H g m vs → Reps w H0 g0 l vs
  | [], [], vs, _, hr => ⟨hr.1, fun j c v h => by simp at h⟩
  | x :: r, y :: s, [], _, hr => absurd hr.1 (by simp)
  | x :: r, y :: s, v :: vs, h, hr => by
    have ih := sameL_rep hsc h.2 (⟨by simpa using hr.1, fun j c u h1 h2 => hr.2 (j + 1) c u (by simpa using h1) (by simpa using h2)⟩ : Reps w H g s vs)
    refine ⟨by simp [ih.1], fun j c u h1 h2 => ?_⟩
    cases j with
    | zero => simp at h1 h2; subst h1; subst h2; exact hsc _ _ _ h.1 (hr.2 0 y v rfl rfl)
    | succ j => exact ih.2 j c u (by simpa using h1) (by simpa using h2)
  | [], _ :: _, _, h, _ => h.elim
  | _ :: _, [], _, h, _ => h.elim

theorem sameVs_rep {g0 : Gh} (hsc : ∀ x y v, SC.same ρ n H x y → y.Rep w H g v → x.Rep w H0 g0 v) : {l m : List SV} → {vs : List Value} → sameVs ρ n H l m → ArgsRep w H g m vs → ArgsRep w H0 g0 l vs
  | [], [], vs, _, hr => ⟨hr.1, fun j c v h => by simp at h⟩
  | x :: r, y :: s, [], _, hr => absurd hr.1 (by simp)
  | x :: r, y :: s, v :: vs, h, hr => by
    have ih := sameVs_rep hsc h.2 (⟨by simpa using hr.1, fun j c u h1 h2 => hr.2 (j + 1) c u (by simpa using h1) (by simpa using h2)⟩ : ArgsRep w H g s vs)
    refine ⟨by simp [ih.1], fun j c u h1 h2 => ?_⟩
    cases j with
    | zero =>
      simp at h1 h2; subst h1; subst h2
      have hy := hr.2 0 y v rfl rfl
      match x, y, h.1, hy with
      | .c _, .c _, h, hy => exact hsc _ _ _ h hy
      | .agg _, .agg _, h, ⟨us, e, q1, q2⟩ => exact ⟨us, e, sameL_rep hsc h q1, q2⟩
    | succ j => exact ih.2 j c u (by simpa using h1) (by simpa using h2)
  | [], _ :: _, _, h, _ => h.elim
  | _ :: _, [], _, h, _ => h.elim

theorem sameEnts_get : (l : List Ent) → (k : Nat) → sameEnts ρ n H k l → ∀ i e, l[i]? = some e → ∃ e', H[ρ (k + i)]? = some e' ∧ Ent.same ρ n H e e'
  | [], _, _, i, e, h => by simp at h
  | a :: r, k, hs, i, e, h => by
    cases i with
    | zero =>
      simp at h; subst h
      obtain ⟨h1, _⟩ := hs
      cases hq : H[ρ k]? with
      | none => rw [hq] at h1; exact h1.elim
      | some e' => rw [hq] at h1; exact ⟨e', rfl, h1⟩
    | succ i =>
      obtain ⟨e', h1, h2⟩ := sameEnts_get r (k + 1) hs.2 i e (by simpa using h)
      exact ⟨e', by rw [show k + (i + 1) = k + 1 + i by omega]; exact h1, h2⟩

theorem Ent.same_blocks {g0 : Gh} {k b : Nat} (hb : g0.b k = g.b (ρ k)) (hv : g0.v k = g.v (ρ k)) : {e e' : Ent} → Ent.same ρ n H e e' → (e.blocks g0 k b ↔ e'.blocks g (ρ k) b)
  | .blk .., .blk .., _ => by unfold Ent.blocks; rw [hb]
  | .row .., .row .., _ => by unfold Ent.blocks; rw [hv]
  | .dead, _, h => h.elim
  | .blk .., .dead, h => h.elim
  | .blk .., .row .., h => h.elim
  | .row .., .dead, h => h.elim
  | .row .., .blk .., h => h.elim
  | .tab .., _, h => h.elim
  | .blk .., .tab .., h => h.elim
  | .row .., .tab .., h => h.elim

/-- What the small heap reads after the call, the larger one reads. -/
theorem ren_rep {gn : Gh} (hb : ∀ k, k < n → gn.b (ρ k) = g'.b k) (hv : ∀ k, k < n → gn.v (ρ k) = g'.v k) (hn : Ho.length = n) (hl : ∀ k, k < n → ρ k < Hn.length)
    (hget : ∀ k, k < n → Hn[ρ k]? = (Ho[k]?).map (renEnt ρ V k)) (hst : ∀ b, b < w'.heap.size → Stable Ho g' b → Stable Hn gn b) {x : SC} {v : Value} (hr : x.Rep w' Ho g' v) : (renSC ρ V x).Rep w' Hn gn v := by
  cases x with
  | any => trivial
  | int => exact hr
  | prop => exact hr
  | bool => exact hr
  | kb => exact hr
  | str => exact hr
  | raw => exact hr
  | ptr i o =>
    obtain ⟨h1, h2⟩ := hr
    exact ⟨hl i (by omega), by rw [hb i (by omega)]; exact h2⟩
  | tab i =>
    obtain ⟨h1, h2⟩ := hr
    exact ⟨hl i (by omega), by rw [hb i (by omega)]; exact h2⟩
  | ro t xs => exact Ty.Rep.stable (t := .slice _) hr hst
  | roa t xs k off =>
    obtain ⟨h0, ad, h1, h2, h3, h4⟩ := hr
    exact ⟨h0, ad, h1, h2, hst _ h2 h3, h4.mono (fun _ _ h => Ty.Rep.stable h hst) fun _ _ h => h⟩
  | own i a =>
    obtain ⟨h1, h2⟩ := hr
    refine ⟨h1, ?_⟩
    unfold OwnRep at h2 ⊢
    cases hi : Ho[i]? with
    | none => rw [hi] at h2; exact h2.elim
    | some en =>
      have hin : i < n := by rw [← hn]; exact (List.getElem?_eq_some_iff.1 hi).1
      rw [hi] at h2
      rw [hget i hin, hi]
      cases en with
      | dead => trivial
      | blk => trivial
      | tab => trivial
      | row e t a' xs => exact ⟨by have := h2.1; omega, fun e => by rw [hv i hin]; exact h2.2 (by omega)⟩
  | owna i a k off =>
    obtain ⟨h1, h2⟩ := hr
    refine ⟨h1, ?_⟩
    unfold OwnaRep at h2 ⊢
    cases hi : Ho[i]? with
    | none => rw [hi] at h2; exact h2.elim
    | some en =>
      have hin : i < n := by rw [← hn]; exact (List.getElem?_eq_some_iff.1 hi).1
      rw [hi] at h2
      rw [hget i hin, hi]
      cases en with
      | dead => trivial
      | blk => trivial
      | tab => trivial
      | row e t a' xs => exact ⟨by have := h2.1; omega, fun e => by rw [hv i hin]; exact h2.2 (by omega)⟩
  | pre i a m =>
    obtain ⟨h1, h2⟩ := hr
    refine ⟨h1, ?_⟩
    unfold PreRep at h2 ⊢
    cases hi : Ho[i]? with
    | none => rw [hi] at h2; exact h2.elim
    | some en =>
      have hin : i < n := by rw [← hn]; exact (List.getElem?_eq_some_iff.1 hi).1
      rw [hi] at h2
      rw [hget i hin, hi]
      cases en with
      | dead => trivial
      | blk => trivial
      | tab => trivial
      | row e t a' xs => exact ⟨by have := h2.1; omega, fun e => by rw [hv i hin]; exact h2.2 (by omega)⟩
  | fn f caps =>
    obtain ⟨h1, h2⟩ := hr
    refine ⟨?_, fun i hi => ?_⟩
    · rw [h1, List.map_map]
      congr 2
      exact List.map_congr_left fun i hi => by simp only [Function.comp]; rw [hb i (by have := h2 i hi; omega)]
    · obtain ⟨j, hj, e⟩ := List.mem_map.1 hi
      rw [← e]
      exact hl j (by have := h2 j hj; omega)

theorem reps_map (hsc : ∀ (x : SC) (v : Value), x.Rep w' Ho g' v → (renSC ρ V x).Rep w' Hn g v) {l : List SC} {vs : List Value} (hr : Reps w' Ho g' l vs) : Reps w' Hn g (l.map (renSC ρ V)) vs := by
  refine ⟨by rw [hr.1, List.length_map], fun j c v h1 h2 => ?_⟩
  rw [List.getElem?_map] at h1
  cases hj : l[j]? with
  | none => rw [hj] at h1; simp at h1
  | some x =>
    rw [hj] at h1
    simp at h1
    subst h1
    exact hsc _ _ (hr.2 j x v hj h2)

theorem renSV_rep (hsc : ∀ (x : SC) (v : Value), x.Rep w' Ho g' v → (renSC ρ V x).Rep w' Hn g v) {x : SV} {v : Value} (hr : x.Rep w' Ho g' v) : (renSV ρ V x).Rep w' Hn g v := by
  cases x with
  | c x => exact hsc _ _ hr
  | agg l =>
    obtain ⟨vs, e, h1, h2⟩ := hr
    exact ⟨vs, e, reps_map hsc h1, h2⟩
  | tup l =>
    obtain ⟨vs, e, h1, h2⟩ := hr
    refine ⟨vs, e, by rw [h1, List.length_map], fun j p u q1 q2 => ?_⟩
    rw [List.getElem?_map] at q1
    cases hj : l[j]? with
    | none => rw [hj] at q1; simp at q1
    | some x =>
      rw [hj] at q1
      simp at q1
      subst q1
      obtain ⟨us, r1, r2, r3⟩ := h2 j x u hj q2
      exact ⟨us, reps_map hsc r1, r2, r3⟩

/-- A call with a small heap of its own, within a larger one. -/
theorem frame_sound (hs : Sat B X w0 H g w) (hn0 : H0.length = n) (hnn : Ho.length = n) (hinj : ∀ k k', k < n → k' < n → ρ k = ρ k' → k = k') (hents : sameEnts ρ n H 0 H0)
    (hV : ∀ k, k < n → V k = verAt H (ρ k)) (hlen : Hn.length = H.length) (hget : ∀ k, k < n → Hn[ρ k]? = (Ho[k]?).map (renEnt ρ V k)) (hoth : ∀ i, (∀ k, k < n → ρ k ≠ i) → Hn[i]? = H[i]?)
    {args args0 : List SV} {vals : List Value} (hargs : sameVs ρ n H args0 args) (ha : ArgsRep w H g args vals) {res : SV} {C : World → Value → Prop} :
    ∃ B0 X0 g0, Sat B0 X0 w H0 g0 w ∧ ArgsRep w H0 g0 args0 vals ∧
      ∀ w' g' v, Sat B0 X0 w Ho g' w' → Evo w H0 g0 w' Ho g' → res.Rep w' Ho g' v → ∃ gn, Sat B X w0 Hn gn w' ∧ Evo w H g w' Hn gn ∧ (renSV ρ V res).Rep w' Hn gn v := by
  have hg := sameEnts_get H0 0 hents
  have hent : ∀ k, k < n → ∃ e e', H0[k]? = some e ∧ H[ρ k]? = some e' ∧ Ent.same ρ n H e e' := fun k hk => by
    have h1 : H0[k]? = some H0[k] := List.getElem?_eq_getElem (by omega)
    obtain ⟨e', h2, h3⟩ := hg k _ h1
    exact ⟨_, e', h1, by rw [Nat.zero_add] at h2; exact h2, h3⟩
  have hρ : ∀ k, k < n → ρ k < H.length := fun k hk => by
    obtain ⟨_, _, _, h, _⟩ := hent k hk
    exact (List.getElem?_eq_some_iff.1 h).1
  let X0 : Nat → Prop := fun b => ∃ k e, k < n ∧ H[ρ k]? = some e ∧ e.blocks g (ρ k) b
  let ok0 : Nat → Prop := fun b => g.ok b ∧ ∀ i e, (∀ k, k < n → ρ k ≠ i) → H[i]? = some e → ¬ e.blocks g i b
  let g0 : Gh := ⟨fun k => g.b (ρ k), fun k => g.v (ρ k), ok0⟩
  have hbl : ∀ k e e' b, H0[k]? = some e → H[ρ k]? = some e' → Ent.same ρ n H e e' → (e.blocks g0 k b ↔ e'.blocks g (ρ k) b) := fun k e e' b _ _ h => Ent.same_blocks rfl rfl h
  have hown0 : ∀ b, Owned H0 g0 b → X0 b := by
    rintro b ⟨k, e, h1, h2⟩
    have hk : k < n := by rw [← hn0]; exact (List.getElem?_eq_some_iff.1 h1).1
    obtain ⟨e1, e', q1, q2, q3⟩ := hent k hk
    rw [h1] at q1; cases q1
    exact ⟨k, e', hk, q2, (hbl k e e' b h1 q2 q3).1 h2⟩
  have hX0own : ∀ b, X0 b → Owned H g b := by
    rintro b ⟨k, e, _, h1, h2⟩
    exact ⟨ρ k, e, h1, h2⟩
  have hst : ∀ b, b < w.heap.size → Stable H g b → Stable H0 g0 b := fun b _ hb =>
    ⟨⟨hb.1, fun i e _ h1 h2 => hb.2 ⟨i, e, h1, h2⟩⟩, fun h => hb.2 (hX0own b (hown0 b h))⟩
  have hrow : ∀ k e t v xs, k < n → H[ρ k]? = some (.row e t v xs) → ∃ e' t' xs', H0[k]? = some (.row e' t' 0 xs') := fun k e t v xs hk hh => by
    obtain ⟨e1, e2, q1, q2, q3⟩ := hent k hk
    rw [hh] at q2; cases q2
    cases e1 with
    | dead => exact q3.elim
    | blk => exact q3.elim
    | tab => exact q3.elim
    | row e' t' v' xs' =>
      simp only [Ent.same] at q3
      cases hb : (Nat.beq e' e && Nat.beq v' 0) with
      | false => rw [hb] at q3; exact q3.elim
      | true =>
        rw [Bool.and_eq_true] at hb
        have := Nat.eq_of_beq_eq_true hb.2
        subst this
        exact ⟨e', t', xs', q1⟩
  have hsc : ∀ (x y : SC) (v : Value), SC.same ρ n H x y → y.Rep w H g v → x.Rep w H0 g0 v := fun x y v h hr => SC.same_rep (ρ := ρ) (g := g) (g0 := g0) (fun _ _ => rfl) (fun _ _ => rfl) hn0 hrow hst h hr
  have hX0lt : ∀ b, X0 b → b < w.heap.size := by
    rintro b ⟨k, e, _, h1, h2⟩
    exact (hs.ents _ _ h1).lt b h2
  have hX0mine : ∀ b, X0 b → B ≤ b ∨ X b := by
    rintro b ⟨k, e, _, h1, h2⟩
    exact (hs.ents _ _ h1).mine b h2
  have hX0oth : ∀ b, X0 b → ∀ i e, (∀ k, k < n → ρ k ≠ i) → H[i]? = some e → ¬ e.blocks g i b := by
    rintro b ⟨k, e, hk, h1, h2⟩ i f hi hf hfb
    exact hi k hk (hs.apart _ _ _ _ b h1 hf h2 hfb)
  refine ⟨w.heap.size, X0, g0, ?_, sameVs_rep hsc hargs ha, ?_⟩
  · refine ⟨rfl, rfl, rfl, Nat.le_refl _, Nat.le_refl _, ?_, fun _ _ _ => rfl, fun k e hk => ?_, fun i j e f b hi hj hbi hbj => ?_⟩
    · rintro b (hb | hb)
      · refine ⟨hs.okB b (.inl (Nat.le_trans hs.hB hb)), fun i e _ h1 h2 => ?_⟩
        have := (hs.ents _ _ h1).lt b h2
        omega
      · exact ⟨hs.okB b (hX0mine b hb), hX0oth b hb⟩
    · have hkn : k < n := by rw [← hn0]; exact (List.getElem?_eq_some_iff.1 hk).1
      obtain ⟨e1, e', q1, q2, q3⟩ := hent k hkn
      rw [hk] at q1; cases q1
      have hX : ∀ b, e'.blocks g (ρ k) b → w.heap.size ≤ b ∨ X0 b := fun b hb => .inr ⟨k, e', hkn, q2, hb⟩
      have hO := hs.ents _ _ q2
      match e, e', q3, hO, hX with
      | .blk ty cs, .blk ty' cs', q3, ⟨vs, h1, h2, h3, h4⟩, hX =>
        simp only [Ent.same] at q3
        cases hb : Nat.beq ty ty' with
        | false => rw [hb] at q3; exact q3.elim
        | true =>
          rw [hb] at q3
          have := Nat.eq_of_beq_eq_true hb
          subst this
          exact ⟨vs, h1, sameL_rep hsc q3 h2, h3, hX _ rfl⟩
      | .row ty t v xs, .row ty' t' v' xs', q3, ⟨cells, h1, h2, h3, h4⟩, hX =>
        simp only [Ent.same] at q3
        cases hb : (Nat.beq ty ty' && Nat.beq v 0) with
        | false => rw [hb] at q3; exact q3.elim
        | true =>
          rw [hb] at q3
          rw [Bool.and_eq_true] at hb
          have := Nat.eq_of_beq_eq_true hb.1
          subst this
          simp only [cond_true] at q3
          split at q3
          · rename_i ht
            subst ht
            subst q3
            exact ⟨cells, h1, h2.mono (fun _ _ h => Ty.Rep.stable h hst) (fun _ _ h => h), h3, fun b hb => hX b hb⟩
          · exact q3.elim
    · have hin : i < n := by rw [← hn0]; exact (List.getElem?_eq_some_iff.1 hi).1
      have hjn : j < n := by rw [← hn0]; exact (List.getElem?_eq_some_iff.1 hj).1
      obtain ⟨_, e', q1, q2, q3⟩ := hent i hin
      rw [hi] at q1; cases q1
      obtain ⟨_, f', p1, p2, p3⟩ := hent j hjn
      rw [hj] at p1; cases p1
      exact hinj i j hin hjn (hs.apart _ _ _ _ b q2 p2 ((hbl i _ _ b hi q2 q3).1 hbi) ((hbl j _ _ b hj p2 p3).1 hbj))
  · intro w' g' v hs' hev hr
    -- the larger heap's blocks
    have hdec : ∀ i : Nat, (∃ k, k < n ∧ ρ k = i) ∨ ∀ k, k < n → ρ k ≠ i := fun i => by
      by_cases h : ∃ k, k < n ∧ ρ k = i
      · exact .inl h
      · exact .inr fun k hk e => h ⟨k, hk, e⟩
    let ix : Nat → Nat := fun i => if h : ∃ k, k < n ∧ ρ k = i then h.choose else n
    have hix : ∀ k, k < n → ix (ρ k) = k := fun k hk => by
      have h : ∃ k', k' < n ∧ ρ k' = ρ k := ⟨k, hk, rfl⟩
      show (if h : ∃ k', k' < n ∧ ρ k' = ρ k then h.choose else n) = k
      rw [dif_pos h]
      exact hinj _ _ h.choose_spec.1 hk h.choose_spec.2
    have hix2 : ∀ i, (∀ k, k < n → ρ k ≠ i) → ix i = n := fun i hi => dif_neg (by rintro ⟨k, hk, e⟩; exact hi k hk e)
    let gn : Gh := ⟨fun i => if ix i < n then g'.b (ix i) else g.b i, fun i => if ix i < n then g'.v (ix i) else g.v i, g.ok⟩
    have gb : ∀ k, k < n → gn.b (ρ k) = g'.b k := fun k hk => by show (if ix (ρ k) < n then _ else _) = _; rw [hix k hk, if_pos hk]
    have gv : ∀ k, k < n → gn.v (ρ k) = g'.v k := fun k hk => by show (if ix (ρ k) < n then _ else _) = _; rw [hix k hk, if_pos hk]
    have gb2 : ∀ i, (∀ k, k < n → ρ k ≠ i) → gn.b i = g.b i := fun i hi => by show (if ix i < n then _ else _) = _; rw [hix2 i hi, if_neg (Nat.lt_irrefl _)]
    have gv2 : ∀ i, (∀ k, k < n → ρ k ≠ i) → gn.v i = g.v i := fun i hi => by show (if ix i < n then _ else _) = _; rw [hix2 i hi, if_neg (Nat.lt_irrefl _)]
    have hbn : ∀ k e b, k < n → ((renEnt ρ V k e).blocks gn (ρ k) b ↔ e.blocks g' k b) := fun k e b hk => by
      cases e with
      | dead => exact Iff.rfl
      | blk => unfold renEnt Ent.blocks; rw [gb k hk]
      | tab => unfold renEnt Ent.blocks; rw [gb k hk]
      | row => unfold renEnt Ent.blocks; rw [gv k hk]
    have hHn : ∀ i e, Hn[i]? = some e → (∃ k e1, k < n ∧ ρ k = i ∧ Ho[k]? = some e1 ∧ e = renEnt ρ V k e1) ∨ ((∀ k, k < n → ρ k ≠ i) ∧ H[i]? = some e) := fun i e hi => by
      rcases hdec i with ⟨k, hk, ek⟩ | h
      · subst ek
        rw [hget k hk] at hi
        cases hq : Ho[k]? with
        | none => rw [hq] at hi; simp at hi
        | some e1 => rw [hq] at hi; simp at hi; exact .inl ⟨k, e1, hk, rfl, hq, hi.symm⟩
      · exact .inr ⟨h, by rw [← hoth i h]; exact hi⟩
    have hmine' : ∀ b, Owned Ho g' b → w.heap.size ≤ b ∨ X0 b := by
      rintro b ⟨k, e, h1, h2⟩
      exact (hs'.ents _ _ h1).mine b h2
    have hold : ∀ b, b < w.heap.size → ¬ X0 b → w'.heap[b]? = w.heap[b]? := hs'.old
    have hownn : ∀ b, Owned Hn gn b → Owned Ho g' b ∨ ∃ i e, (∀ k, k < n → ρ k ≠ i) ∧ H[i]? = some e ∧ e.blocks g i b := by
      rintro b ⟨i, e, h1, h2⟩
      rcases hHn i e h1 with ⟨k, e1, hk, ek, hq, ee⟩ | ⟨hi, hq⟩
      · subst ek; subst ee
        exact .inl ⟨k, e1, hq, (hbn k e1 b hk).1 h2⟩
      · exact .inr ⟨i, e, hi, hq, (Ent.blocks_congr (gb2 i hi) (gv2 i hi)).1 h2⟩
    have hev' : Evo w H g w' Hn gn := by
      refine ⟨rfl, ⟨hs'.size0, fun b hb hb2 => ⟨⟨hb2.1, fun h => ?_⟩, hold b hb fun h => hb2.2 (hX0own b h)⟩⟩, by omega, fun i hi => ?_, fun i e t ver xs hi hrr => ?_⟩
      · rcases hownn b h with h1 | ⟨i, e, _, h1, h2⟩
        · rcases hmine' b h1 with h2 | h2
          · omega
          · exact hb2.2 (hX0own b h2)
        · exact hb2.2 ⟨i, e, h1, h2⟩
      · rcases hdec i with ⟨k, hk, ek⟩ | h
        · subst ek
          rw [gb k hk]
          exact hev.ptr k (by omega)
        · exact gb2 i h
      · rcases hHn i _ hrr with ⟨k, e1, hk, ek, hq, ee⟩ | ⟨hi2, hq⟩
        · subst ek
          cases e1 with
          | dead => cases ee
          | blk => cases ee
          | tab => cases ee
          | row e' t' ver' xs' =>
            simp only [renEnt, Ent.row.injEq] at ee
            obtain ⟨rfl, rfl, rfl, hxs⟩ := ee
            cases hxs
            obtain ⟨ver0, xs0, r1, r2⟩ := hev.row k _ _ _ _ (by omega) hq
            obtain ⟨e1, e2, q1, q2, q3⟩ := hent k hk
            rw [r1] at q1; cases q1
            cases e2 with
            | dead => exact q3.elim
            | blk => exact q3.elim
            | tab => exact q3.elim
            | row e2 t2 v2 xs2 =>
              simp only [Ent.same] at q3
              cases hb : (Nat.beq e e2 && Nat.beq ver0 0) with
              | false => rw [hb] at q3; exact q3.elim
              | true =>
                rw [hb] at q3
                rw [Bool.and_eq_true] at hb
                have h1 := Nat.eq_of_beq_eq_true hb.1
                have h2 := Nat.eq_of_beq_eq_true hb.2
                subst h1; subst h2
                simp only [cond_true] at q3
                split at q3
                · rename_i ht
                  subst ht
                  have hVk : V k = v2 := by rw [hV k hk]; unfold verAt; rw [q2]
                  refine ⟨v2, xs2, q2, ?_⟩
                  rcases r2 with r2 | ⟨r2, r3, r4⟩
                  · exact .inl (by omega)
                  · exact .inr ⟨by omega, by rw [← r3, ← q3], by rw [gv k hk, r4]⟩
                · exact q3.elim
        · exact ⟨ver, xs, hq, .inr ⟨rfl, rfl, gv2 i hi2⟩⟩
    have hstn : ∀ b, b < w'.heap.size → Stable Ho g' b → Stable Hn gn b := fun b _ hb => by
      have hok : ok0 b := by have := hb.1; rw [hev.ok] at this; exact this
      refine ⟨hok.1, fun h => ?_⟩
      rcases hownn b h with h1 | ⟨i, e, hi, h1, h2⟩
      · exact hb.2 h1
      · exact hok.2 i e hi h1 h2
    have hscn : ∀ (x : SC) (v : Value), x.Rep w' Ho g' v → (renSC ρ V x).Rep w' Hn gn v := fun x v hr => ren_rep gb gv hnn (fun k hk => by rw [hlen]; exact hρ k hk) hget hstn hr
    refine ⟨gn, ⟨hs'.os.trans hs.os, hs'.tape.trans hs.tape, hs'.output.trans hs.output, Nat.le_trans hs.size0 hs'.size0, Nat.le_trans hs.hB hs'.size0, hs.okB, fun b hb hx => ?_, fun i e hi => ?_, fun i j e f b hi hj hbi hbj => ?_⟩, hev', renSV_rep hscn hr⟩
    · rw [hold b (Nat.lt_of_lt_of_le hb hs.hB) fun h => ?_]
      · exact hs.old b hb hx
      · rcases hX0mine b h with h1 | h1
        · omega
        · exact hx h1
    · rcases hHn i e hi with ⟨k, e1, hk, ek, hq, ee⟩ | ⟨hi2, hq⟩
      · subst ek; subst ee
        have hO := hs'.ents k e1 hq
        have hm : ∀ b, w.heap.size ≤ b ∨ X0 b → B ≤ b ∨ X b := fun b hb => by
          rcases hb with hb | hb
          · exact .inl (Nat.le_trans hs.hB hb)
          · exact hX0mine b hb
        match e1, hO with
        | .dead, _ => trivial
        | .blk ty cs, ⟨vs, h1, h2, h3, h4⟩ =>
          refine ⟨vs, by rw [gb k hk]; exact h1, reps_map hscn h2, h3, ?_⟩
          rw [gb k hk]
          exact hm _ h4
        | .row ty t v xs, ⟨cells, h1, h2, h3, h4⟩ =>
          refine ⟨cells, by rw [gv k hk]; exact h1, h2.mono (fun _ _ h => Ty.Rep.stable h hstn) (fun _ _ h => h), h3, ?_⟩
          rw [gv k hk]
          exact fun b hb => hm b (h4 b hb)
        | .tab a t es, ⟨ents, clock, h1, ⟨q1, q2, q3⟩, h4⟩ =>
          refine ⟨ents, clock, by rw [gb k hk]; exact h1, ⟨q1, q2, fun k p m u1 u2 => ?_⟩, ?_⟩
          · obtain ⟨r1, r2⟩ := q3 k p m u1 u2
            refine ⟨r1, ?_⟩
            split
            · rename_i hc; rw [if_pos hc] at r2; obtain ⟨cs, e, r2⟩ := r2; exact ⟨cs, e, Ty.Rep.stable r2 hstn⟩
            · rename_i hc; rw [if_neg hc] at r2; exact Ty.Rep.stable r2 hstn
          · rw [gb k hk]
            exact hm _ h4
      · exact (hs.ents i e hq).evo hev' (gb2 i hi2) (gv2 i hi2) fun b hb => hold b ((hs.ents i e hq).lt b hb) fun hx => hX0oth b hx i e hi2 hq hb
    · rcases hHn i e hi with ⟨k, e1, hk, ek, hq, ee⟩ | ⟨hi2, hq⟩ <;> rcases hHn j f hj with ⟨m, f1, hm, em, hp, ff⟩ | ⟨hj2, hp⟩
      · subst ek; subst ee; subst em; subst ff
        rw [hs'.apart k m e1 f1 b hq hp ((hbn k e1 b hk).1 hbi) ((hbn m f1 b hm).1 hbj)]
      · subst ek; subst ee
        have h1 := (hbn k e1 b hk).1 hbi
        have h2 := (Ent.blocks_congr (gb2 j hj2) (gv2 j hj2)).1 hbj
        rcases hmine' b ⟨k, e1, hq, h1⟩ with h3 | h3
        · have := (hs.ents j f hp).lt b h2; omega
        · exact absurd h2 (hX0oth b h3 j f hj2 hp)
      · subst em; subst ff
        have h1 := (hbn m f1 b hm).1 hbj
        have h2 := (Ent.blocks_congr (gb2 i hi2) (gv2 i hi2)).1 hbi
        rcases hmine' b ⟨m, f1, hp, h1⟩ with h3 | h3
        · have := (hs.ents i e hq).lt b h2; omega
        · exact absurd h2 (hX0oth b h3 i e hi2 hq)
      · exact hs.apart i j e f b hq hp ((Ent.blocks_congr (gb2 i hi2) (gv2 i hi2)).1 hbi) ((Ent.blocks_congr (gb2 j hj2) (gv2 j hj2)).1 hbj)
end
end Go.SX
