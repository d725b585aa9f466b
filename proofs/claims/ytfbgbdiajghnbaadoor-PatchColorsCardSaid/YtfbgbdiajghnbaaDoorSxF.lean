/- SX, part F: literals, appends, slices. -/
import Derived.Test.YtfbgbdiajghnbaaDoorSxE
namespace Go.SX
open Go Go.RowKit

section
variable {P : Program} {B : Nat} {X : Nat → Prop} {w0 w : World} {H : List Ent} {g : Gh} {t : TypeId} {ti : TI} {C : Ctx}

/-! ### Literals -/

theorem fold_splice : (us : List Value) → (o j : Nat) → (cells : Array Value) →
    ((us.zipIdx j).foldl (fun (cs : Array Value) (p : Value × Nat) => cs.setIfInBounds (o + p.2) p.1) cells).toList = spliceV cells.toList (o + j) us
  | [], _, _, _ => rfl
  | u :: r, o, j, cells => by
    rw [List.zipIdx_cons, List.foldl_cons, fold_splice r o (j + 1)]
    simp [spliceV, Nat.add_assoc]

theorem fill_sound {place : Nat → Option (Nat × Nat)} : {ps : List (Nat × SV)} → {vs : List (Nat × Value)} → {cs : List SC} → {cells : Array Value} → {out : List SC} →
    ps.map Prod.fst = vs.map Prod.fst → (∀ (j : Nat) (p : Nat × SV) (q : Nat × Value), ps[j]? = some p → vs[j]? = some q → p.2.Rep w H g q.2) →
    Reps w H g cs cells.toList → (∀ u ∈ cells.toList, u.oneCell' = true) → fillS place ps cs = some out →
    ∃ res : Array Value, Instr.fill place cells vs = some res ∧ Reps w H g out res.toList ∧ (∀ u ∈ res.toList, u.oneCell' = true) ∧ res.size = cells.size
  | [], [], cs, cells, out, _, _, hr, h1, h => by
    simp only [fillS, Option.some.injEq] at h
    subst h
    exact ⟨cells, rfl, hr, h1, rfl⟩
  | (i, sv) :: r, (i', v) :: vr, cs, cells, out, hf, hp, hr, h1, h => by
    simp only [List.map_cons, List.cons.injEq] at hf
    obtain ⟨rfl, hf⟩ := hf
    simp only [fillS] at h
    cases hpl : place i with
    | none => simp [hpl] at h
    | some os =>
      obtain ⟨off, size⟩ := os
      cases hc : sv.cells with
      | none => simp [hpl, hc] at h
      | some l =>
        simp only [hpl, hc] at h
        cases hb : (Nat.beq l.length size && Nat.ble (off + size) cs.length) with
        | false => simp [hb] at h
        | true =>
          simp only [hb, cond_true] at h
          rw [Bool.and_eq_true] at hb
          have hl := Nat.eq_of_beq_eq_true hb.1
          have hle := Nat.le_of_ble_eq_true hb.2
          obtain ⟨k1, k2⟩ := SV.cells_rep hc (hp 0 _ _ rfl rfl)
          have hsz : v.cells.size = size := by rw [← hl, ← k1.1, Array.length_toList]
          have hcl : cells.size = cs.length := by rw [← hr.1, Array.length_toList]
          have hfold : (v.cells.zipIdx.foldl (fun cs (p : Value × Nat) => cs.setIfInBounds (off + p.2) p.1) cells).toList = spliceV cells.toList off v.cells.toList := by
            have := fold_splice v.cells.toList off 0 cells
            rw [Nat.add_zero] at this
            rw [← this, ← Array.foldl_toList, Array.toList_zipIdx]
          obtain ⟨res, q1, q2, q3, q4⟩ := fill_sound (place := place) (ps := r) (vs := vr) (cs := spliceL cs off l) (cells := v.cells.zipIdx.foldl (fun cs (p : Value × Nat) => cs.setIfInBounds (off + p.2) p.1) cells) (out := out) hf
            (fun j p q hj hq => hp (j + 1) p q (by simpa using hj) (by simpa using hq)) (by rw [hfold]; exact Reps.splice off hr k1) (by rw [hfold]; exact spliceV_one _ _ _ k2 h1) h
          refine ⟨res, ?_, q2, q3, ?_⟩
          · simp only [Instr.fill, hpl]
            rw [if_neg (by simp [hsz]; omega)]
            exact q1
          · rw [q4, ← Array.length_toList, hfold, spliceV_length, Array.length_toList]
  | [], _ :: _, _, _, _, hf, _, _, _, _ => by simp at hf
  | _ :: _, [], _, _, _, hf, _, _, _, _ => by simp at hf

theorem places_sound (hC : ∀ t ti, tyFind t C.tys = some ti → TIok P t ti) : (fs : List Field) → {l : List (Nat × Nat)} → placesS C (fs.map fun f => (f.offset, f.type)) = some l →
    fs.mapM (fun f => (P.info? f.type).map fun i => (f.offset, i.size)) = some l
  | [], l, h => by simp [placesS] at h; subst h; rfl
  | f :: fs, l, h => by
    simp only [List.map_cons, placesS] at h
    cases hf : tyFind f.type C.tys with
    | none => simp [hf] at h
    | some fi =>
      cases hr : placesS C (fs.map fun f => (f.offset, f.type)) with
      | none => simp [hf, hr] at h
      | some m =>
        simp [hf, hr] at h
        subst h
        obtain ⟨i, h1, h2, _⟩ := (hC _ _ hf).info
        simp [List.mapM_cons, h1, h2, places_sound hC fs hr]

theorem build_sound (hC : ∀ t ti, tyFind t C.tys = some ti → TIok P t ti) {ps : List (Nat × SV)} {vs : List (Nat × Value)} (hf : ps.map Prod.fst = vs.map Prod.fst)
    (hp : ∀ (j : Nat) (p : Nat × SV) (q : Nat × Value), ps[j]? = some p → vs[j]? = some q → p.2.Rep w H g q.2) {cs : List SC} (h : buildS C t ps = some cs) :
    ∃ res : Array Value, (∀ w' : World, (Instr.build t vs.toArray).run P w' = .ok (.agg res) w') ∧ Reps w H g cs res.toList ∧ ∀ u ∈ res.toList, u.oneCell' = true := by
  simp only [buildS] at h
  cases ht : tyFind t C.tys with
  | none => simp [ht] at h
  | some ti =>
    have hti := hC _ _ ht
    obtain ⟨i, i1, i2, _, z, z1, z2, _⟩ := hti.info
    have hz : Reps w H g (ti.zero.map constSC) z.cells.toList := by rw [z2]; exact reps_zero _
    have hz1 : ∀ u ∈ z.cells.toList, u.oneCell' = true := by rw [z2]; exact hti.one
    have hd := hti.desc
    simp only [ht] at h
    cases hx : ti.desc with
    | struct fs =>
      rw [hx] at hd h
      obtain ⟨fields, f1, f2⟩ := hd
      simp only at h
      cases hpl : placesS C fs with
      | none => simp [hpl] at h
      | some l =>
        simp only [hpl] at h
        obtain ⟨res, q1, q2, q3, _⟩ := fill_sound hf hp hz hz1 h
        refine ⟨res, fun w' => run_build w' t vs.toArray res ?_, q2, q3⟩
        rw [← f2] at hpl
        unfold Program.built
        simp only [i1, f1, z1, places_sound hC _ hpl]
        simpa using q1
    | array n e =>
      rw [hx] at hd h
      simp only at h
      cases he : tyFind e C.tys with
      | none => simp [he] at h
      | some ei =>
        simp only [he] at h
        obtain ⟨res, q1, q2, q3, _⟩ := fill_sound hf hp hz hz1 h
        obtain ⟨j, j1, j2, _⟩ := (hC _ _ he).info
        have hd' : P.underlying t = some (.array n e) := hd
        refine ⟨res, fun w' => run_build w' t vs.toArray res ?_, q2, q3⟩
        unfold Program.built
        simp only [i1, hd', z1, j1, j2]
        simpa using q1
    | _ => rw [hx] at h; simp at h

theorem elems_sound (T : Ty) : (n : Nat) → {l : List SC} → {H : List Ent} → {vs : List Value} → Sat B X w0 H g w → Reps w H g l vs → {K : List T.den → List Ent → Prop} → elemsS T n l H K → vs.length = n * T.size →
    ∃ (xs : List T.den) (H' : List Ent), Sat B X w0 H' g w ∧ Evo w H g w H' g ∧ xs.length = n ∧ ElemsAt (T.Rep w (Stable H' g)) T.size xs (fun k => vs[k]?) ∧ K xs H'
  | 0, l, H, vs, hs, hr, K, h, _ => ⟨[], H, hs, Evo.refl _ _ _, rfl, fun i x hx => by simp at hx, h⟩
  | n + 1, l, H, vs, hs, hr, K, h, hl => by
    simp only [elemsS] at h
    obtain ⟨x, c, r, vr, H1, a1, a2, a3, _, _, _, a6, a7, a8⟩ := dat_sound (g := g) (ok := fun _ => True) false T hs hr h (fun h => by cases h)
    have hc := (a6 rfl).len
    have hvr : vr.length = n * T.size := by
      rw [a1, List.length_append, hc, Nat.add_mul] at hl; omega
    obtain ⟨xs, H2, b1, b2, b3, b4, b5⟩ := elems_sound T n a2 a7 a8 hvr
    refine ⟨x :: xs, H2, b1, a3.trans b2, by simp [b3], ?_, b5⟩
    intro i y hy
    cases i with
    | zero =>
      simp at hy
      subst hy
      refine ⟨c, Ty.Rep.mono b2.keeps T (a6 rfl), hc, fun j u hu => ?_⟩
      show vs[0 * T.size + j]? = some u
      rw [a1, Nat.zero_mul, Nat.zero_add, List.getElem?_append_left (List.getElem?_eq_some_iff.1 hu).1]
      exact hu
    | succ i =>
      simp at hy
      obtain ⟨c', d1, d2, d3⟩ := b4 i y hy
      refine ⟨c', d1, d2, fun j u hu => ?_⟩
      show vs[(i + 1) * T.size + j]? = some u
      rw [a1, List.getElem?_append_right (by rw [hc, Nat.add_mul]; omega), hc]
      rw [show (i + 1) * T.size + j - T.size = i * T.size + j by rw [Nat.add_mul]; omega]
      exact d3 j u hu

def rep0V : Nat → List Value → List Value
  | 0, _ => []
  | n + 1, l => l ++ rep0V n l

theorem rep0_map (n : Nat) (z : List Value) : rep0 n (z.map constSC) = (rep0V n z).map constSC := by
  induction n with
  | zero => rfl
  | succ n ih => simp [rep0, rep0V, ih]

theorem rep0V_length (n : Nat) (z : List Value) : (rep0V n z).length = n * z.length := by
  induction n with
  | zero => simp [rep0V]
  | succ n ih => simp [rep0V, ih, Nat.add_mul]; omega

theorem rep0V_get (z : List Value) : (n : Nat) → (j : Nat) → j < n * z.length → (rep0V n z)[j]? = z[j % z.length]?
  | 0, j, h => by simp at h
  | n + 1, j, h => by
    have hz : 0 < z.length := by
      rcases Nat.eq_zero_or_pos z.length with h0 | h0
      · rw [h0] at h; simp at h
      · exact h0
    rw [rep0V]
    by_cases hj : j < z.length
    · rw [List.getElem?_append_left hj, Nat.mod_eq_of_lt hj]
    · rw [List.getElem?_append_right (by omega), rep0V_get z n (j - z.length) (by rw [Nat.add_mul] at h; omega), ← Nat.mod_eq_sub_mod (by omega)]

theorem rep0V_mem {z : List Value} : {n : Nat} → {u : Value} → u ∈ rep0V n z → u ∈ z
  | 0, _, h => by simp [rep0V] at h
  | n + 1, u, h => by
    rw [rep0V, List.mem_append] at h
    rcases h with h | h
    · exact h
    · exact rep0V_mem h

/-- The zero cells of a row. -/
theorem made_eq (z : Array Value) (n : Nat) : ((Array.range (n * z.size)).map (z[· % z.size]!)).toList = rep0V n z.toList := by
  apply List.ext_getElem?
  intro j
  have hl : (rep0V n z.toList).length = n * z.size := by rw [rep0V_length]; simp
  by_cases hj : j < n * z.size
  · rw [rep0V_get _ _ _ (by simpa using hj)]
    have hz : 0 < z.size := by
      rcases Nat.eq_zero_or_pos z.size with h0 | h0
      · rw [h0] at hj; simp at hj
      · exact h0
    have hm : j % z.size < z.size := Nat.mod_lt _ hz
    simp [hj, hm]
  · rw [List.getElem?_eq_none (by simp; omega), List.getElem?_eq_none (by omega)]

theorem buildSlice_sound (hC : ∀ t ti, tyFind t C.tys = some ti → TIok P t ti) (hs : Sat B X w0 H g w) (hti : TIok P t ti) {e : TypeId} (hd : ti.desc = .slice e) {ei : TI} (he : tyFind e C.tys = some ei)
    {et : Ty} (het : ei.ty = some et) {n : Nat} (hn : n * ei.size ≤ 10000) {ps : List (Nat × SV)} {vs : List (Nat × Value)} (hf : ps.map Prod.fst = vs.map Prod.fst)
    (hp : ∀ (j : Nat) (p : Nat × SV) (q : Nat × Value), ps[j]? = some p → vs[j]? = some q → p.2.Rep w H g q.2) {cs : List SC}
    (h : fillS (fun j => some (j * ei.size, ei.size)) ps (rep0 n (ei.zero.map constSC)) = some cs) {K : SV → List Ent → Prop}
    (hk : elemsS et n cs H fun xs H => K (.c (.own H.length 0)) (H ++ [.row e et 0 xs])) :
    ∃ v w1, (Instr.buildSlice t n vs.toArray).run P w = .ok v w1 ∧ Post B X w0 K w H g v w1 ∧ Later w w1 := by
  have hei := hC _ _ he
  obtain ⟨i, i1, i2, i3, z, z1, z2, _⟩ := hei.info
  obtain ⟨et1, et2⟩ := hei.ty _ het
  have hu : P.underlying t = some (.slice e) := by have := hti.desc; rw [hd] at this; exact this
  rw [rep0_map] at h
  have hzs : z.cells.size = ei.size := by rw [← Array.length_toList, z2, hei.len]
  have hin : ((Array.range (n * ei.size)).map (z.cells[· % z.cells.size]!)).toList = rep0V n ei.zero := by rw [← z2, ← made_eq, hzs]
  obtain ⟨res, q1, q2, q3, q4⟩ := fill_sound (w := w) (H := H) (g := g) (cells := (Array.range (n * ei.size)).map (z.cells[· % z.cells.size]!)) hf hp (by rw [hin]; exact reps_zero _)
    (by rw [hin]; exact fun u hu => hei.one u (rep0V_mem hu)) h
  have hrl : res.toList.length = n * et.size := by rw [Array.length_toList, q4, Array.size_map, Array.size_range, et1]
  obtain ⟨xs, H1, a1, a2, a3, a4, a5⟩ := elems_sound (g := g) et n hs q2 hk hrl
  have hsmall : n * et.size ≤ 10000 := by rw [et1]; exact hn
  have hnmax : n ≤ maxLen := by
    have := et.size_pos
    have h1 : n * 1 ≤ n * et.size := Nat.mul_le_mul_left _ this
    unfold maxLen; omega
  have hown := World.ownsRow_lit (base := 0) (e := e) (size := et.size) w res n (Nat.zero_le _) hnmax (by rw [q4, Array.size_map, Array.size_range, et1])
  obtain ⟨g', b1, b2, b3⟩ := new_row a1 e et (xs := xs) (w1 := w.alloc (.cells res e)) (World.grownBy_alloc w _ none) (v := .slice (some ⟨w.heap.size, 0, none⟩) n n) (cells := res.toList)
    (by rw [a3]; exact hown) (fun b hb => by simp [Value.ownBlock] at hb; omega) a4 q3
  refine ⟨_, _, ?_, ⟨.c (.own H1.length 0), H1 ++ [.row e et 0 xs], g', a5, b1, a2.trans b2, own_rep (w := w.alloc (.cells res e)) (e := e) (T := et) (xs := xs) (by simp) b3 rfl⟩, Later.alloc w _⟩
  have hfill : Instr.fill (fun i => some (i * ei.size, ei.size)) ((Array.range (n * ei.size)).map (z.cells[· % z.cells.size]!)) vs = some res := q1
  have h24 : ¬ n * ei.size > 2 ^ 24 := by omega
  by_cases h0 : n * ei.size = 0
  · have hz0 : ((Array.range (n * ei.size)).map (z.cells[· % z.cells.size]!)) = #[] := by simp [h0]
    rw [hz0] at hfill
    simp [Instr.buildSlice, run_underlying hu, hei.sizeOf, h0, Array.range_zero', hfill, newRow, newObj]
    rfl
  · simp [Instr.buildSlice, run_underlying hu, hei.sizeOf, h24, h0, zeroValue, typeInfo, i1, z1, hfill, newRow]

end
end Go.SX
