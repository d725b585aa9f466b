/- SX, part D: each operation of the executor is sound. -/
import Derived.Test.YtfbgbdiajghnbaaDoorSxC
namespace Go.SX
open Go Go.RowKit

section
variable {P : Program} {B : Nat} {X : Nat → Prop} {w0 w : World} {H : List Ent} {g : Gh} {t : TypeId} {ti : TI}

theorem TIok.isAgg (h : TIok P t ti) : (isAgg t).run P w = .ok ti.desc.isAgg w := by
  have hd := h.desc
  unfold De.Fits at hd
  cases hx : ti.desc <;> rw [hx] at hd <;> simp only [De.isAgg]
  · obtain ⟨d, h1, h2, h3⟩ := hd
    simp only [Go.isAgg, Sem.run_bind, run_underlying h1, Result.andThen_ok]
    cases d <;> first | exact absurd rfl (h2 _) | exact absurd rfl (h3 _ _) | rfl
  · simp only [Go.isAgg, Sem.run_bind, run_underlying hd, Result.andThen_ok]; rfl
  · simp only [Go.isAgg, Sem.run_bind, run_underlying hd, Result.andThen_ok]; rfl
  · simp only [Go.isAgg, Sem.run_bind, run_underlying hd, Result.andThen_ok]; rfl
  · simp only [Go.isAgg, Sem.run_bind, run_underlying hd, Result.andThen_ok]; rfl
  · obtain ⟨fs, h1, _⟩ := hd
    simp only [Go.isAgg, Sem.run_bind, run_underlying h1, Result.andThen_ok]; rfl
  · simp only [Go.isAgg, Sem.run_bind, run_underlying hd, Result.andThen_ok]; rfl
  · simp only [Go.isAgg, Sem.run_bind, run_underlying hd, Result.andThen_ok]; rfl
  · simp only [Go.isAgg, Sem.run_bind, run_underlying hd, Result.andThen_ok]; rfl

theorem TIok.sizeOf (h : TIok P t ti) : (sizeOf t).run P w = .ok ti.size w := by
  obtain ⟨i, h1, h2, _⟩ := h.info
  simp [Go.sizeOf, typeInfo, h1, h2]

theorem TIok.zero (h : TIok P t ti) : ∃ z, (zeroValue t).run P w = .ok z w ∧ z.cells.toList = ti.zero ∧ (ti.desc.isAgg = true → z = .agg ti.zero.toArray) := by
  obtain ⟨i, h1, _, _, z, hz, h2, h3⟩ := h.info
  exact ⟨z, by simp [zeroValue, typeInfo, h1, hz], h2, h3⟩

theorem run_loadVar (h : TIok P t ti) (a : Addr) (cs : List Value) (hl : cs.length = ti.size) (hc : ∀ (j : Nat) (v : Value), cs[j]? = some v → w.cell? (a.add j) = some v)
    (v : Value) (hv : if ti.desc.isAgg = true then v = .agg cs.toArray else cs = [v]) : (loadVar t a).run P w = .ok v w := by
  unfold loadVar
  simp only [Sem.run_bind, h.isAgg, Result.andThen_ok]
  cases hx : ti.desc.isAgg with
  | true =>
    rw [hx] at hv
    simp only [if_true] at hv ⊢
    have := run_loadCells_list (P := P) w a cs hc
    simp only [Sem.run_bind, h.sizeOf, Result.andThen_ok, ← hl, this]
    rw [hv]; rfl
  | false =>
    rw [hx] at hv
    simp only [Bool.false_eq_true, if_false] at hv ⊢
    have h0 := hc 0 v (by rw [hv]; rfl)
    have ha : a.add 0 = a := by simp [Addr.add]
    rw [ha] at h0
    simp [run_load, h0]

theorem Post.here {K : SV → List Ent → Prop} {sv : SV} {v : Value} (hs : Sat B X w0 H g w) (hr : sv.Rep w H g v) (hk : K sv H) : Post B X w0 K w H g v w :=
  ⟨sv, H, g, hk, hs, Evo.refl _ _ _, hr⟩

/-- The cells of an owned row. -/
theorem row_cells {e : TypeId} {size n : Nat} {v : Value} {cells : List Value} (h : w.ownsRow 0 e size v n cells) {b : Nat} (hb : v.ownBlock = some b) :
    ∃ cap cur, v = .slice (some ⟨b, 0, none⟩) n cap ∧ w.heap[b]? = some (.cells cur e (0, 0)) ∧ n ≤ cap ∧ cap ≤ maxLen ∧ cur.size = cap * size ∧ cur.toList.take (n * size) = cells := by
  rcases h.2 with ⟨rfl, _⟩ | ⟨gb, cap, cur, rfl, _, h2, h3, h4, h5, h6⟩
  · simp [Value.ownBlock] at hb
  · simp [Value.ownBlock] at hb
    subst hb
    exact ⟨cap, cur, rfl, h2, h3, h4, h5, h6⟩

theorem row_at {α : Type} {R : α → List Value → Prop} {size : Nat} {xs : List α} {cells : List Value} (h : ElemsAt R size xs fun k => cells[k]?) {k : Nat} {x : α} (hx : xs[k]? = some x) :
    ∃ c, R x c ∧ c.length = size ∧ ∀ (j : Nat) (u : Value), c[j]? = some u → cells[k * size + j]? = some u := h k x hx

theorem as_value {agg : Bool} {size : Nat} (hsz : agg = false → size = 1) {cs : List Value} (hl : cs.length = size) : ∃ v, if agg = true then v = Value.agg cs.toArray else cs = [v] := by
  cases agg with
  | true => exact ⟨.agg cs.toArray, by simp⟩
  | false =>
    rw [hsz rfl] at hl
    match cs, hl with
    | [v], _ => exact ⟨v, by simp⟩

theorem cell_at {b : Nat} {vs : Array Value} {ty : TypeId} {fr : Nat × Nat} (h : w.heap[b]? = some (.cells vs ty fr)) (o : Nat) : w.cell? ⟨b, o, none⟩ = vs[o]? := cell_of_row w b o vs ty fr h

theorem add_plain (b o n : Nat) : (⟨b, o, none⟩ : Addr).add n = ⟨b, o + n, none⟩ := by
  unfold Addr.add
  split
  · rename_i h; subst h; rfl
  · rfl

/-- Where an address points to: the cells behind it. -/
theorem load_sound (hs : Sat B X w0 H g w) (hti : TIok P t ti) {sv : SV} {addr : Value} (hrep : sv.Rep w H g addr) {K : SV → Prop}
    (h : loadS ti.size ti.desc.isAgg sv H K) : ∃ v sv', (∀ w', Later w w' → (Instr.loadAt t addr).run P w' = .ok v w') ∧ sv'.Rep w H g v ∧ K sv' := by
  have key : ∀ (l : List SC) (cs : List Value) (a : Addr), addr = .pointer (some a) → Reps w H g l cs → (∀ u ∈ cs, u.oneCell' = true) → cs.length = ti.size →
      (∀ (j : Nat) (v : Value), cs[j]? = some v → w.cell? (a.add j) = some v) → K (mkV ti.desc.isAgg l) → ∃ v sv', (∀ w', Later w w' → (Instr.loadAt t addr).run P w' = .ok v w') ∧ sv'.Rep w H g v ∧ K sv' := by
    intro l cs a ha hr h1 hl hc hk
    obtain ⟨v, hv⟩ := as_value hti.single hl
    refine ⟨v, _, ?_, mkV_rep hr h1 hv, hk⟩
    subst ha
    intro w' hw'
    simp [Instr.loadAt, Instr.sureAddr, run_loadVar hti a cs hl (fun j v hj => hw'.cell (hc j v hj)) v hv]
  match sv, hrep, h with
  | .c (.ptr i off), ⟨_, ha⟩, h =>
    simp only [loadS] at h
    cases he : H[i]? with
    | none => rw [he] at h; exact h.elim
    | some e =>
      rw [he] at h
      cases e with
      | dead => exact h.elim
      | row => exact h.elim
      | tab => exact h.elim
      | blk ty cs =>
        obtain ⟨vs, h1, h2, h3, _⟩ := hs.ents i _ he
        simp only at h
        cases hb : Nat.ble (off + ti.size) cs.length with
        | false => rw [hb] at h; exact h.elim
        | true =>
          rw [hb] at h
          have hle := Nat.le_of_ble_eq_true hb
          refine key _ ((vs.drop off).take ti.size) _ ha ((h2.drop off).take ti.size) (fun u hu => h3 u (List.mem_of_mem_drop (List.mem_of_mem_take hu))) (by simp [h2.1]; omega) (fun j v hj => ?_) h
          rw [add_plain, cell_at h1]
          rw [List.getElem?_take] at hj
          split at hj
          · rw [List.getElem?_drop] at hj; simpa using hj
          · cases hj
  | .c (.roa T xs k off), ⟨hk, ad, ha, hb, hst, hE⟩, h =>
    simp only [loadS] at h
    cases hb2 : Nat.ble (off + ti.size) T.size with
    | false => rw [hb2] at h; exact h.elim
    | true =>
      rw [hb2] at h
      have hle := Nat.le_of_ble_eq_true hb2
      have hx : xs[k]? = some (xs.getD k T.dflt) := by simp [List.getD, List.getElem?_eq_getElem hk]
      obtain ⟨c, c1, c2, c3⟩ := hE k _ hx
      refine key _ ((c.drop off).take ti.size) _ ha (((Ty.scs_rep T c1).drop off).take ti.size) (fun u hu => Ty.Rep.one T c1 u (List.mem_of_mem_drop (List.mem_of_mem_take hu))) (by simp [c2]; omega) (fun j v hj => ?_) h
      rw [List.getElem?_take] at hj
      split at hj
      · rw [List.getElem?_drop] at hj
        rw [add_add, Nat.add_assoc]; exact c3 _ _ hj
      · cases hj
  | .c (.owna i ver k off), ⟨_, hrep⟩, h =>
    simp only [loadS] at h
    unfold OwnaRep at hrep
    cases he : H[i]? with
    | none => rw [he] at h; exact h.elim
    | some e =>
      rw [he] at h hrep
      cases e with
      | dead => exact h.elim
      | blk => exact h.elim
      | tab => exact h.elim
      | row e T ver' xs =>
        simp only at h hrep
        cases hb2 : (Nat.beq ver ver' && Nat.ble (off + ti.size) T.size) with
        | false => rw [hb2] at h; exact h.elim
        | true =>
          rw [hb2] at h
          rw [Bool.and_eq_true] at hb2
          have hle := Nat.le_of_ble_eq_true hb2.2
          obtain ⟨hk, b, hbk, ha⟩ := hrep.2 (Nat.eq_of_beq_eq_true hb2.1)
          obtain ⟨cells, ho, hE, h1, _⟩ := hs.ents i _ he
          have hx : xs[k]? = some (xs.getD k T.dflt) := by simp [List.getD, List.getElem?_eq_getElem hk]
          obtain ⟨c, c1, c2, c3⟩ := hE k _ hx
          obtain ⟨cap, cur, e1, e2, _, _, e3, e4⟩ := row_cells ho hbk
          refine key _ ((c.drop off).take ti.size) _ ha (((Ty.scs_rep T c1).drop off).take ti.size) (fun u hu => Ty.Rep.one T c1 u (List.mem_of_mem_drop (List.mem_of_mem_take hu))) (by simp [c2]; omega) (fun j v hj => ?_) h
          rw [List.getElem?_take] at hj
          split at hj
          · rw [List.getElem?_drop] at hj
            have := c3 _ _ hj
            rw [add_plain, cell_at e2, Nat.add_assoc, ← Array.getElem?_toList]
            simp only at this
            rw [← e4, List.getElem?_take] at this
            split at this
            · exact this
            · cases this
          · cases hj

/-! ### Cells read as a datum -/

theorem dat_int_sound {lend : Bool} {k : IntKind} {l : List SC} {vs : List Value} (hr : Reps w H g l vs) {K : Int → List SC → List Ent → Prop} (h : Ty.dat lend (.int k) l H K) :
    ∃ x cs r vr, vs = cs ++ vr ∧ cs = [Value.int k x] ∧ Reps w H g r vr ∧ K x r H := by
  simp only [Ty.dat] at h
  match l, vs, hr, h with
  | .int k' n :: r, v :: vr, hr, h0 =>
    have hk : k' = k := by
      by_cases e : k' = k
      · exact e
      · simp only [decide_eq_false e, cond_false] at h0
    subst hk
    have h1 : K n r H := by simpa using h0
    have := hr.2 0 _ v rfl rfl
    exact ⟨n, [v], r, vr, rfl, by rw [this], ⟨by simpa using hr.1, fun j c u h1 h2 => hr.2 (j + 1) c u (by simpa using h1) (by simpa using h2)⟩, h1⟩
  | .int _ _ :: r, [], hr, _ => exact absurd hr.1 (by simp)

/-- What 'dat' gives, the entries being lent or given away. 'ok': where what is lent may lie. -/
theorem dat_sound (lend : Bool) (ok : Nat → Prop) : (T : Ty) → {l : List SC} → {H : List Ent} → {g : Gh} → {vs : List Value} → Sat B X w0 H g w → Reps w H g l vs → {K : T.den → List SC → List Ent → Prop} →
    T.dat lend l H K → (lend = true → ∀ b, ok b) → ∃ (x : T.den) (cs : List Value) (r : List SC) (vr : List Value) (H' : List Ent), vs = cs ++ vr ∧ Sat B X w0 H' g w ∧ Evo w H g w H' g ∧ (∀ i : Nat, H'[i]? = H[i]? ∨ H'[i]? = some .dead) ∧ (lend = true → H' = H) ∧
      (lend = true → T.Rep w ok x cs) ∧ (lend = false → T.Rep w (Stable H' g) x cs) ∧ Reps w H' g r vr ∧ K x r H'
  | .int k, l, H, g, vs, hs, hr, K, h, _ => by
    obtain ⟨x, cs, r, vr, h1, h2, h3, h4⟩ := dat_int_sound hr h
    exact ⟨x, cs, r, vr, H, h1, hs, Evo.refl _ _ _, fun _ => .inl rfl, fun _ => rfl, fun _ => h2, fun _ => h2, h3, h4⟩
  | .bool, l, H, g, vs, hs, hr, K, h, _ => by
    simp only [Ty.dat] at h
    match l, vs, hr, h with
    | .bool _ b :: r, v :: vr, hr, h =>
      have e : v = .bool b := hr.2 0 _ v rfl rfl
      have e' : [v] = [Value.bool b] := by rw [e]
      exact ⟨b, [v], r, vr, H, rfl, hs, Evo.refl _ _ _, fun _ => .inl rfl, fun _ => rfl, fun _ => e', fun _ => e', ⟨by simpa using hr.1, fun j c u h1 h2 => hr.2 (j + 1) c u (by simpa using h1) (by simpa using h2)⟩, h⟩
    | .kb b :: r, v :: vr, hr, h =>
      have e : v = .bool b := hr.2 0 _ v rfl rfl
      have e' : [v] = [Value.bool b] := by rw [e]
      exact ⟨b, [v], r, vr, H, rfl, hs, Evo.refl _ _ _, fun _ => .inl rfl, fun _ => rfl, fun _ => e', fun _ => e', ⟨by simpa using hr.1, fun j c u h1 h2 => hr.2 (j + 1) c u (by simpa using h1) (by simpa using h2)⟩, h⟩
    | .prop _ p d :: r, v :: vr, hr, h =>
      have e : v = .bool (@decide p d) := hr.2 0 _ v rfl rfl
      have e' : [v] = [Value.bool (@decide p d)] := by rw [e]
      exact ⟨(@decide p d), [v], r, vr, H, rfl, hs, Evo.refl _ _ _, fun _ => .inl rfl, fun _ => rfl, fun _ => e', fun _ => e', ⟨by simpa using hr.1, fun j c u h1 h2 => hr.2 (j + 1) c u (by simpa using h1) (by simpa using h2)⟩, h⟩
    | .bool _ _ :: r, [], hr, _ => exact absurd hr.1 (by simp)
    | .kb _ :: r, [], hr, _ => exact absurd hr.1 (by simp)
    | .prop _ _ _ :: r, [], hr, _ => exact absurd hr.1 (by simp)
  | .str, l, H, g, vs, hs, hr, K, h, _ => by
    simp only [Ty.dat] at h
    match l, vs, hr, h with
    | .str b :: r, v :: vr, hr, h =>
      have e := hr.2 0 _ v rfl rfl
      have e' : [v] = [Value.string b] := by rw [e]
      exact ⟨b, [v], r, vr, H, rfl, hs, Evo.refl _ _ _, fun _ => .inl rfl, fun _ => rfl, fun _ => e', fun _ => e', ⟨by simpa using hr.1, fun j c u h1 h2 => hr.2 (j + 1) c u (by simpa using h1) (by simpa using h2)⟩, h⟩
    | .str _ :: r, [], hr, _ => exact absurd hr.1 (by simp)
  | .pair a b, l, H, g, vs, hs, hr, K, h, hok => by
    simp only [Ty.dat] at h
    obtain ⟨x, c1, r1, v1, H1, a1, a2, a3, a3', a4, a5, a6, a7, a8⟩ := dat_sound lend ok a hs hr h hok
    obtain ⟨y, c2, r2, v2, H2, b1, b2, b3, b3', b4, b5, b6, b7, b8⟩ := dat_sound lend ok b a2 a7 a8 hok
    refine ⟨(x, y), c1 ++ c2, r2, v2, H2, by rw [a1, b1, List.append_assoc], b2, a3.trans b3, fun i => (b3' i).elim (fun e => e ▸ a3' i) .inr, fun e => (b4 e).trans (a4 e), fun e => ⟨c1, c2, rfl, a5 e, b5 e⟩, fun e => ⟨c1, c2, rfl, Ty.Rep.mono b3.keeps a (a6 e), b6 e⟩, b7, b8⟩
  | .slice T, l, H, g, vs, hs, hr, K, h, hok => by
    simp only [Ty.dat] at h
    match l, vs, hr, h with
    | .ro T' xs :: r, v :: vr, hr, h =>
      simp only at h
      split at h
      · rename_i hT
        subst hT
        have e : Ty.Rep w (Stable H g) (.slice T') xs [v] := hr.2 0 _ v rfl rfl
        exact ⟨xs, [v], r, vr, H, rfl, hs, Evo.refl _ _ _, fun _ => .inl rfl, fun _ => rfl, fun hl => Ty.Rep.mono ⟨Nat.le_refl _, fun b _ _ => ⟨hok hl b, rfl⟩⟩ (.slice T') e, fun _ => e,
          ⟨by simpa using hr.1, fun j c u h1 h2 => hr.2 (j + 1) c u (by simpa using h1) (by simpa using h2)⟩, h⟩
      · exact h.elim
    | .raw u :: r, v :: vr, hr, h =>
      have e : v = u := hr.2 0 _ v rfl rfl
      simp only at h
      cases hu : isNil u with
      | false => rw [hu] at h; exact h.elim
      | true =>
      rw [hu] at h
      rw [isNil_eq hu] at e
      have e' : ∀ o, Ty.Rep w o (.slice T) [] [v] := fun o => ⟨none, 0, by rw [e]; rfl, Nat.le_refl _, fun h => absurd rfl h⟩
      exact ⟨[], [v], r, vr, H, rfl, hs, Evo.refl _ _ _, fun _ => .inl rfl, fun _ => rfl, fun _ => e' _, fun _ => e' _, ⟨by simpa using hr.1, fun j c u h1 h2 => hr.2 (j + 1) c u (by simpa using h1) (by simpa using h2)⟩, h⟩
    | .own i ver :: r, v :: vr, hr, h =>
      simp only at h
      obtain ⟨_, e⟩ := hr.2 0 _ v rfl rfl
      unfold OwnRep at e
      have hrest : Reps w H g r vr := ⟨by simpa using hr.1, fun j c u h1 h2 => hr.2 (j + 1) c u (by simpa using h1) (by simpa using h2)⟩
      cases he : H[i]? with
      | none => rw [he] at h; exact h.elim
      | some en =>
        rw [he] at h e
        cases en with
        | dead => exact h.elim
        | blk => exact h.elim
        | tab => exact h.elim
        | row et T' ver' xs =>
          simp only at h e
          cases hb : Nat.beq ver ver' with
          | false => rw [hb] at h; exact h.elim
          | true =>
            rw [hb] at h
            simp only [cond_true] at h
            split at h
            · rename_i hT
              subst hT
              have hv := e.2 (Nat.eq_of_beq_eq_true hb)
              obtain ⟨cells, ho, hE, h1, hmine⟩ := hs.ents i _ he
              have hslice : ∃ A cap, v = .slice A xs.length cap ∧ xs.length ≤ cap ∧ (xs ≠ [] → ∃ b, A = some ⟨b, 0, none⟩ ∧ (g.v i).ownBlock = some b ∧ b < w.heap.size ∧ ∀ j, j < cells.length → w.cell? ⟨b, j, none⟩ = cells[j]?) := by
                rcases ho.2 with ⟨e1, e2⟩ | ⟨gb, cap, cur, e1, _, e2, e3, e4, e5, e6⟩
                · refine ⟨none, 0, by rw [hv, e1, e2], by omega, fun hne => ?_⟩
                  have : xs = [] := List.eq_nil_of_length_eq_zero e2
                  exact absurd this hne
                · refine ⟨some ⟨gb, 0, none⟩, cap, by rw [hv, e1], e3, fun _ => ⟨gb, rfl, by rw [e1]; rfl, (Array.getElem?_eq_some_iff.1 e2).1, fun j hj => ?_⟩⟩
                  rw [cell_at e2, ← e6, List.getElem?_take, if_pos (by rw [← ho.1]; exact hj), Array.getElem?_toList]
              obtain ⟨A, cap, q1, q2, q3⟩ := hslice
              -- the reading of the elements in memory
              have hread : ∀ (R R' : T'.den → List Value → Prop), (∀ x c, R x c → R' x c) → ElemsAt R T'.size xs (fun k => cells[k]?) → ∀ b : Nat, (∀ j, j < cells.length → w.cell? ⟨b, j, none⟩ = cells[j]?) →
                  ElemsAt R' T'.size xs fun k => w.cell? ((⟨b, 0, none⟩ : Addr).add k) := by
                intro R R' hRR hE b hc
                refine hE.mono hRR fun k u hu => ?_
                rw [add_plain, Nat.zero_add, hc k (List.getElem?_eq_some_iff.1 hu).1]
                exact hu
              cases lend with
              | true =>
                refine ⟨xs, [v], r, vr, H, rfl, hs, Evo.refl _ _ _, fun _ => .inl rfl, fun _ => rfl, fun hl => ?_, fun hl => (by cases hl), hrest, h⟩
                refine ⟨A, cap, by rw [q1], q2, fun hne => ?_⟩
                obtain ⟨b, r1, r2, r3, r4⟩ := q3 hne
                exact ⟨⟨b, 0, none⟩, r1, r3, hok hl b, hread _ _ (fun x c hc => Ty.Rep.mono ⟨Nat.le_refl _, fun b _ _ => ⟨hok hl b, rfl⟩⟩ T' hc) hE b r4⟩
              | false =>
                obtain ⟨hs', hev⟩ := Sat.upd (g1 := g) (w1 := w) hs i _ .dead he rfl (fun _ => rfl) (fun _ _ => rfl) rfl rfl rfl (Nat.le_refl _) (fun _ _ _ => rfl) (fun _ h => h.elim) (fun _ _ _ _ h => by cases h) (fun _ => trivial)
                refine ⟨xs, [v], r, vr, H.set i .dead, rfl, hs', hev, fun j => (by
                  have hil : i < H.length := (List.getElem?_eq_some_iff.1 he).1
                  by_cases hji : j = i
                  · subst hji; exact .inr (List.getElem?_set_self hil)
                  · exact .inl (List.getElem?_set_ne (Ne.symm hji))), fun hl => (by cases hl), fun hl => (by cases hl), fun _ => ?_, hrest.evo hev, h⟩
                refine ⟨A, cap, by rw [q1], q2, fun hne => ?_⟩
                obtain ⟨b, r1, r2, r3, r4⟩ := q3 hne
                refine ⟨⟨b, 0, none⟩, r1, r3, ?_, hread _ _ (fun x c hc => Ty.Rep.mono hev.keeps T' hc) hE b r4⟩
                refine ⟨?_, ?_⟩
                · exact hs.okB _ (hmine b r2)
                · rintro ⟨j, f, hj, hbj⟩
                  have hil : i < H.length := (List.getElem?_eq_some_iff.1 he).1
                  by_cases hji : j = i
                  · subst hji
                    rw [List.getElem?_set_self hil] at hj
                    cases hj
                    exact hbj
                  · rw [List.getElem?_set_ne (Ne.symm hji)] at hj
                    exact hji (hs.apart j i f _ b hj he hbj r2)
            · exact h.elim
    | .ro _ _ :: r, [], hr, _ => exact absurd hr.1 (by simp)
    | .raw _ :: r, [], hr, _ => exact absurd hr.1 (by simp)
    | .own _ _ :: r, [], hr, _ => exact absurd hr.1 (by simp)
end
end Go.SX
