/- SX, part G: append, make, cutting. -/
import Derived.Test.YtfbgbdiajghnbaaDoorSxF
namespace Go.SX
open Go Go.RowKit

section
variable {P : Program} {B : Nat} {X : Nat → Prop} {w0 w : World} {H : List Ent} {g : Gh} {t : TypeId} {ti : TI} {C : Ctx}

theorem ElemsAt.append {α : Type} {R : α → List Value → Prop} {size : Nat} {xs ys : List α} {a b : List Value} (hx : ElemsAt R size xs fun k => a[k]?) (hy : ElemsAt R size ys fun k => b[k]?)
    (ha : a.length = xs.length * size) : ElemsAt R size (xs ++ ys) fun k => (a ++ b)[k]? := by
  intro i x hi
  rcases Nat.lt_or_ge i xs.length with h | h
  · rw [List.getElem?_append_left h] at hi
    obtain ⟨c, c1, c2, c3⟩ := hx i x hi
    refine ⟨c, c1, c2, fun j u hu => ?_⟩
    have := c3 j u hu
    show (a ++ b)[i * size + j]? = some u
    rw [List.getElem?_append_left (List.getElem?_eq_some_iff.1 this).1]
    exact this
  · rw [List.getElem?_append_right h] at hi
    obtain ⟨c, c1, c2, c3⟩ := hy _ x hi
    refine ⟨c, c1, c2, fun j u hu => ?_⟩
    have h2 : xs.length * size ≤ i * size := Nat.mul_le_mul_right _ h
    show (a ++ b)[i * size + j]? = some u
    rw [List.getElem?_append_right (by omega), ha, show i * size + j - xs.length * size = (i - xs.length) * size + j by rw [Nat.sub_mul]; omega]
    exact c3 j u hu

/-- The cells that a reading meets, as a list. -/
theorem ElemsAt.list {α : Type} {R : α → List Value → Prop} {size : Nat} (h1 : ∀ (x : α) (c : List Value), R x c → ∀ u ∈ c, u.oneCell' = true) : (xs : List α) → {get : Nat → Option Value} → ElemsAt R size xs get →
    ∃ news : List Value, news.length = xs.length * size ∧ ElemsAt R size xs (fun k => news[k]?) ∧ (∀ (j : Nat) (u : Value), news[j]? = some u → get j = some u) ∧ ∀ u ∈ news, u.oneCell' = true
  | [], _, _ => ⟨[], by simp, fun i x hx => by simp at hx, fun j u hu => by simp at hu, fun u hu => by simp at hu⟩
  | x :: xs, get, h => by
    obtain ⟨c, c1, c2, c3⟩ := h 0 x rfl
    obtain ⟨news, n1, n2, n3, n4⟩ := ElemsAt.list h1 xs (get := fun k => get (size + k)) (fun i y hy => by
      obtain ⟨c, d1, d2, d3⟩ := h (i + 1) y (by simpa using hy)
      exact ⟨c, d1, d2, fun j u hu => by
        have := d3 j u hu
        rw [Nat.add_mul, Nat.one_mul, Nat.add_comm (i * size), Nat.add_assoc] at this
        exact this⟩)
    refine ⟨c ++ news, by rw [List.length_append, c2, n1, List.length_cons, Nat.add_mul]; omega, ?_, fun j u hu => ?_, fun u hu => ?_⟩
    · refine ElemsAt.append (xs := [x]) (fun i y hy => ?_) n2 (by simp [c2])
      cases i with
      | zero =>
        simp at hy; subst hy
        exact ⟨c, c1, c2, fun j u hu => by simpa using hu⟩
      | succ i => simp at hy
    · rcases Nat.lt_or_ge j c.length with hj | hj
      · rw [List.getElem?_append_left hj] at hu
        have := c3 j u hu
        simpa using this
      · rw [List.getElem?_append_right hj] at hu
        have := n3 _ u hu
        rw [show size + (j - c.length) = j by omega] at this
        exact this
    · rcases List.mem_append.1 hu with hu | hu
      · exact h1 _ _ c1 u hu
      · exact n4 u hu

/-- What is appended lies in memory. -/
def SrcAt (w : World) (H : List Ent) (g : Gh) (T : Ty) (ys : List T.den) (A : Option Addr) : Prop :=
  (A = none ∧ ys = []) ∨ ∃ (ad : Addr) (news : List Value), A = some ad ∧ news.length = ys.length * T.size ∧ ElemsAt (T.Rep w (Stable H g)) T.size ys (fun k => news[k]?) ∧
    (∀ (j : Nat) (u : Value), news[j]? = some u → w.cell? (ad.add j) = some u) ∧ ∀ u ∈ news, u.oneCell' = true

theorem src_sound (hs : Sat B X w0 H g w) {T : Ty} {x : SV} {v : Value} (hr : x.Rep w H g v) {K : List T.den → Prop} (h : srcS T x H K) :
    ∃ (ys : List T.den) (A : Option Addr) (cap : Nat), v = .slice A ys.length cap ∧ K ys ∧
      SrcAt w H g T ys A := by
  have empty : ∀ (A : Option Addr) (cap : Nat), v = .slice A 0 cap → K [] → ∃ (ys : List T.den) (A : Option Addr) (cap : Nat), v = .slice A ys.length cap ∧ K ys ∧
      SrcAt w H g T ys A := by
    intro A cap hv hk
    refine ⟨[], A, cap, hv, hk, ?_⟩
    cases A with
    | none => exact .inl ⟨rfl, rfl⟩
    | some ad => exact .inr ⟨ad, [], rfl, by simp, fun i x hx => by simp at hx, fun j u hu => by simp at hu, fun u hu => by simp at hu⟩
  match x, hr, h with
  | .c (.raw u), hr, h =>
    simp only [srcS] at h
    cases hu : isNil u with
    | false => rw [hu] at h; exact h.elim
    | true =>
      rw [hu] at h
      have : v = u := hr
      exact empty none 0 (by rw [this, isNil_eq hu]) h
  | .c (.ro T' ys), hr, h =>
    simp only [srcS] at h
    split at h
    · rename_i hT
      subst hT
      obtain ⟨A, cap, e, hle, hro⟩ := hr
      simp only [List.cons.injEq, and_true] at e
      by_cases hy : ys = []
      · subst hy; exact empty A cap e h
      · obtain ⟨ad, r1, r2, r3, r4⟩ := hro hy
        obtain ⟨news, n1, n2, n3, n4⟩ := ElemsAt.list (fun x c hc => Ty.Rep.one T' hc) ys r4
        exact ⟨ys, A, cap, e, h, .inr ⟨ad, news, r1, n1, n2, n3, n4⟩⟩
    · exact h.elim
  | .c (.own j ver), hr, h =>
    simp only [srcS] at h
    obtain ⟨_, hr⟩ := hr
    unfold OwnRep at hr
    cases he : H[j]? with
    | none => rw [he] at h; exact h.elim
    | some en =>
      rw [he] at h hr
      cases en with
      | dead => exact h.elim
      | blk => exact h.elim
      | tab => exact h.elim
      | row et T' ver' xs =>
        simp only at h hr
        cases hb : Nat.beq ver ver' with
        | false => rw [hb] at h; exact h.elim
        | true =>
          rw [hb] at h
          simp only [cond_true] at h
          split at h
          · rename_i hT
            subst hT
            have hv := hr.2 (Nat.eq_of_beq_eq_true hb)
            obtain ⟨cells, ho, hE, h1, hmine⟩ := hs.ents j _ he
            rcases ho.2 with ⟨e1, e2⟩ | ⟨gb, cap, cur, e1, _, e2, e3, e4, e5, e6⟩
            · have : xs = [] := List.eq_nil_of_length_eq_zero e2
              subst this
              exact empty none 0 (by rw [hv, e1]) h
            · refine ⟨xs, _, _, by rw [hv, e1], h, .inr ⟨⟨gb, 0, none⟩, cells, rfl, ho.1, hE, fun j u hu => ?_, h1⟩⟩
              rw [add_plain, Nat.zero_add, cell_at e2, ← Array.getElem?_toList]
              rw [← e6, List.getElem?_take] at hu
              split at hu
              · exact hu
              · cases hu
          · exact h.elim

theorem run_append_of_nil (base : Nat) (ty e : TypeId) (i : TypeInfo) (size : Nat) (ht : P.underlying t = some (.slice e)) (hi : P.info? e = some i)
    (v : Value) (n : Nat) (xs : List Value) (hown : w.ownsRow base e size v n xs) (c : Nat) : (Builtin.append_ #[t, t] ty #[v, .slice none 0 c]).run P w = .ok v w := by
  rcases hown.2 with ⟨rfl, rfl⟩ | ⟨g, cap, cur, rfl, _, _, hnc, _⟩
  · simp [Builtin.append_, run_underlying ht, sizeOf, typeInfo, hi, Builtin.lenOf, Builtin.firstCells]
  · simp [Builtin.append_, run_underlying ht, sizeOf, typeInfo, hi, Builtin.lenOf, Builtin.firstCells, hnc, storeCells]

/-- The beginning of a row is a row. -/
theorem row_prefix {e : TypeId} {T : Ty} {xs : List T.den} {v0 v : Value} {cells : List Value} {R : T.den → List Value → Prop} {n : Nat} {A : Option Addr} {len cap : Nat} (ho : w.ownsRow 0 e T.size v0 xs.length cells)
    (hE : ElemsAt R T.size xs fun k => cells[k]?) (h1 : ∀ u ∈ cells, u.oneCell' = true) (hn : n ≤ xs.length) (hg : v0 = .slice A len cap) (hv : v = .slice A n cap) :
    ∃ cells', w.ownsRow 0 e T.size v n cells' ∧ ElemsAt R T.size (xs.take n) (fun k => cells'[k]?) ∧ (∀ u ∈ cells', u.oneCell' = true) ∧ v.ownBlock = v0.ownBlock := by
  have hle : n * T.size ≤ xs.length * T.size := Nat.mul_le_mul_right _ hn
  refine ⟨cells.take (n * T.size), ?_, ?_, fun u hu => h1 u (List.mem_of_mem_take hu), ?_⟩
  · refine ⟨by rw [List.length_take, ho.1]; omega, ?_⟩
    rcases ho.2 with ⟨e1, e2⟩ | ⟨gb, cap', cur, e1, e0, e2, e3, e4, e5, e6⟩
    · rw [hg] at e1
      cases e1
      left
      have : n = 0 := by omega
      subst this
      exact ⟨hv, rfl⟩
    · rw [hg] at e1
      cases e1
      refine .inr ⟨gb, _, cur, hv, e0, e2, by omega, e4, e5, ?_⟩
      rw [← e6, List.take_take, Nat.min_eq_left hle]
  · intro i x hx
    rw [List.getElem?_take] at hx
    split at hx
    · rename_i hin
      obtain ⟨c, c1, c2, c3⟩ := hE i x hx
      refine ⟨c, c1, c2, fun j u hu => ?_⟩
      have hj : j < T.size := by rw [← c2]; exact (List.getElem?_eq_some_iff.1 hu).1
      have := Nat.mul_le_mul_right T.size (show i + 1 ≤ n from hin)
      rw [Nat.add_mul, Nat.one_mul] at this
      show (cells.take (n * T.size))[i * T.size + j]? = some u
      rw [List.getElem?_take, if_pos (by omega)]
      exact c3 j u hu
    · cases hx
  · rw [hg, hv]
    cases A <;> rfl

theorem append_sound (hC : ∀ t ti, tyFind t C.tys = some ti → TIok P t ti) (hs : Sat B X w0 H g w) (hti : TIok P t ti) {e : TypeId} (hd : ti.desc = .slice e) {ei : TI} (he : tyFind e C.tys = some ei)
    {et : Ty} (het : ei.ty = some et) {s x : SV} {vs vx : Value} (hrs : s.Rep w H g vs) (hrx : x.Rep w H g vx) {K : SV → List Ent → Prop} (h : appendS e et ei.bytes s x H K) (ty : TypeId) :
    ∃ v w1, (Builtin.append_ #[t, t] ty #[vs, vx]).run P w = .ok v w1 ∧ Post B X w0 K w H g v w1 := by
  have hei := hC _ _ he
  obtain ⟨i, i1, i2, i3, z, z1, z2, _⟩ := hei.info
  obtain ⟨et1, et2⟩ := hei.ty _ het
  have hu : P.underlying t = some (.slice e) := by have := hti.desc; rw [hd] at this; exact this
  have hzs : z.cells.size = et.size := by rw [← Array.length_toList, z2, hei.len, et1]
  unfold appendS at h
  cases hby : Nat.ble ei.bytes 100000 with
  | false => rw [hby] at h; exact h.elim
  | true =>
  rw [hby] at h
  simp only [cond_true] at h
  have hbytes := Nat.le_of_ble_eq_true hby
  have hroom : ∀ n m, Small (n + m) → n + m ≤ maxLen ∧ (n + m) * ei.bytes ≤ 140737488355328 := by
    intro n m hsm
    unfold Small at hsm
    refine ⟨by unfold maxLen; omega, ?_⟩
    have := Nat.mul_le_mul hsm hbytes
    omega
  -- the run over a row of the call's own, whatever it is
  have core : ∀ (v0 : Value) (n : Nat) (cells : List Value) (ys : List et.den) (A : Option Addr) (cap : Nat), w.ownsRow 0 e et.size v0 n cells → vx = .slice A ys.length cap → Small (n + ys.length) →
      SrcAt w H g et ys A →
      ∃ v' w' news, (Builtin.append_ #[t, t] ty #[v0, vx]).run P w = .ok v' w' ∧ w'.ownsRow 0 e et.size v' (n + ys.length) (cells ++ news) ∧ w.grownBy w' v0.ownBlock ∧
        (v'.ownBlock = v0.ownBlock ∨ v'.ownBlock = some w.heap.size) ∧ ElemsAt (et.Rep w (Stable H g)) et.size ys (fun k => news[k]?) ∧ ∀ u ∈ news, u.oneCell' = true := by
    intro v0 n cells ys A cap ho hvx hsm hsrc
    rcases hsrc with ⟨hA, hy⟩ | ⟨ad, news, hA, n1, n2, n3, n4⟩
    · subst hA; subst hy
      refine ⟨v0, w, [], ?_, by simpa using ho, World.grownBy.refl w _, .inl rfl, fun i x hx => by simp at hx, fun u hu => by simp at hu⟩
      rw [hvx]
      exact run_append_of_nil 0 ty e i et.size hu i1 v0 n cells ho cap
    · subst hA
      obtain ⟨k1, k2⟩ := hroom _ _ hsm
      obtain ⟨v', w', r1, r2, r3, _, r5⟩ := run_append_own_at (P := P) w 0 t ty e i z et.size ei.bytes hu i1 z1 (by rw [i2, et1]) i3 hzs et.size_pos v0 n cells ho ad ys.length cap news n1 n3 n4 k1 k2 (Nat.zero_le _)
      exact ⟨v', w', news, by rw [hvx]; exact r1, r2, r3, r5, n2, n4⟩
  match s, hrs, h with
  | .c (.raw u), hrs, h =>
    simp only at h
    cases hn : isNil u with
    | false => rw [hn] at h; exact h.elim
    | true =>
      rw [hn] at h
      simp only [cond_true] at h
      have hvs : vs = .slice none 0 0 := by have : vs = u := hrs; rw [this, isNil_eq hn]
      subst hvs
      obtain ⟨ys, A, cap, q1, ⟨q2, q3⟩, q4⟩ := src_sound hs hrx h
      obtain ⟨v', w', news, c1, c2, c3, c4, c5, c6⟩ := core _ 0 [] ys A cap (World.ownsRow_nil w 0 e et.size) q1 (by simpa using q2) q4
      simp only [Nat.zero_add, List.nil_append] at c2
      obtain ⟨g', b1, b2, b3⟩ := new_row hs e et (xs := ys) (w1 := w') (by simpa [Value.ownBlock] using c3) c2 (fun b hb => by
        rcases c4 with h4 | h4
        · rw [h4] at hb; simp [Value.ownBlock] at hb
        · rw [h4] at hb; cases hb; exact Nat.le_refl _) c5 c6
      exact ⟨v', w', c1, .c (.own H.length 0), _, g', q3, b1, b2, own_rep (w := w') (e := e) (T := et) (xs := ys) (by simp) b3 (row_one c2)⟩
  | .c (.own j ver), hrs, h =>
    simp only at h
    obtain ⟨_, hrs⟩ := hrs
    unfold OwnRep at hrs
    cases hej : H[j]? with
    | none => rw [hej] at h; exact h.elim
    | some en =>
      rw [hej] at h hrs
      cases en with
      | dead => exact h.elim
      | blk => exact h.elim
      | tab => exact h.elim
      | row e' T' ver' xs =>
        simp only at h hrs
        cases hb : (Nat.beq ver ver' && Nat.beq e e') with
        | false => rw [hb] at h; exact h.elim
        | true =>
          rw [hb] at h
          simp only [cond_true] at h
          split at h
          · rename_i hT
            subst hT
            rw [Bool.and_eq_true] at hb
            have hver := Nat.eq_of_beq_eq_true hb.1
            have hee := Nat.eq_of_beq_eq_true hb.2
            subst hver; subst hee
            have hv := hrs.2 rfl
            obtain ⟨cells, ho, hE, h1, hmine⟩ := hs.ents j _ hej
            obtain ⟨ys, A, cap, q1, ⟨q2, q3⟩, q4⟩ := src_sound hs hrx h
            cases hns : notSelf j x with
            | false => rw [hns] at q3; exact q3.elim
            | true =>
            rw [hns] at q3
            subst hv
            obtain ⟨v', w', news, c1, c2, c3, c4, c5, c6⟩ := core _ xs.length cells ys A cap ho q1 q2 q4
            have hjl : j < H.length := (List.getElem?_eq_some_iff.1 hej).1
            obtain ⟨b1, b2⟩ := Sat.upd (g1 := ⟨g.b, fun i => if i = j then v' else g.v i, g.ok⟩) (w1 := w') hs j _ (.row e T' (ver + 1) (xs ++ ys)) hej rfl (fun _ => rfl) (fun i hi => if_neg hi) c3.os c3.tape c3.output c3.size
              (fun b hb hno => c3.block b hb fun h => hno h.symm) (fun b hb => by
                simp only [Ent.blocks, if_true] at hb
                rcases c4 with h4 | h4
                · left; show (g.v j).ownBlock = some b; rw [← h4]; exact hb
                · right; rw [h4] at hb; cases hb; exact Nat.le_refl _)
              (fun e t v x he => by cases he; exact ⟨ver, xs, rfl, .inl (by omega)⟩)
              (fun hev => ⟨cells ++ news, by simp only [if_true, List.length_append]; exact c2, (ElemsAt.append hE c5 ho.1).mono (fun _ _ h => Ty.Rep.mono hev.keeps T' h) (fun _ _ h => h),
                fun u hu => (List.mem_append.1 hu).elim (h1 u) (c6 u), fun b hb => by
                  simp only [if_true] at hb
                  rcases c4 with h4 | h4
                  · rw [h4] at hb; exact hmine b hb
                  · rw [h4] at hb; cases hb; exact .inl hs.hB⟩)
            exact ⟨v', w', c1, .c (.own j (ver + 1)), _, _, q3, b1, b2, own_rep (w := w') (e := e) (T := T') (xs := xs ++ ys) (List.getElem?_set_self hjl) (if_pos rfl) (row_one c2)⟩
          · exact h.elim

  | .c (.pre j ver n), hrs, h =>
    simp only at h
    obtain ⟨_, hrs⟩ := hrs
    unfold PreRep at hrs
    cases hej : H[j]? with
    | none => rw [hej] at h; exact h.elim
    | some en =>
      rw [hej] at h hrs
      cases en with
      | dead => exact h.elim
      | blk => exact h.elim
      | tab => exact h.elim
      | row e' T' ver' xs =>
        simp only at h hrs
        cases hb : (Nat.beq ver ver' && Nat.beq e e') with
        | false => rw [hb] at h; exact h.elim
        | true =>
          rw [hb] at h
          simp only [cond_true] at h
          split at h
          · rename_i hT
            subst hT
            rw [Bool.and_eq_true] at hb
            have hver := Nat.eq_of_beq_eq_true hb.1
            have hee := Nat.eq_of_beq_eq_true hb.2
            subst hver; subst hee
            obtain ⟨hnx, A0, len0, cap0, hg0, hv⟩ := hrs.2 rfl
            obtain ⟨cells0, ho0, hE0, h10, hmine⟩ := hs.ents j _ hej
            obtain ⟨cells, ho, hE, h1, hob⟩ := row_prefix ho0 hE0 h10 hnx hg0 hv
            obtain ⟨ys, A, cap, q1, ⟨q2, q3⟩, q4⟩ := src_sound hs hrx h
            cases hns : notSelf j x with
            | false => rw [hns] at q3; exact q3.elim
            | true =>
            rw [hns] at q3
            obtain ⟨v', w', news, c1, c2, c3, c4, c5, c6⟩ := core _ n cells ys A cap ho q1 q2 q4
            rw [hob] at c3 c4
            have hlt : (xs.take n).length = n := by simp; omega
            have hjl : j < H.length := (List.getElem?_eq_some_iff.1 hej).1
            obtain ⟨b1, b2⟩ := Sat.upd (g1 := ⟨g.b, fun i => if i = j then v' else g.v i, g.ok⟩) (w1 := w') hs j _ (.row e T' (ver + 1) (xs.take n ++ ys)) hej rfl (fun _ => rfl) (fun i hi => if_neg hi) c3.os c3.tape c3.output c3.size
              (fun b hb hno => c3.block b hb fun h => hno h.symm) (fun b hb => by
                simp only [Ent.blocks, if_true] at hb
                rcases c4 with h4 | h4
                · left; show (g.v j).ownBlock = some b; rw [← h4]; exact hb
                · right; rw [h4] at hb; cases hb; exact Nat.le_refl _)
              (fun e t v x he => by cases he; exact ⟨ver, xs, rfl, .inl (by omega)⟩)
              (fun hev => ⟨cells ++ news, by simp only [if_true, List.length_append, hlt]; exact c2, (ElemsAt.append hE c5 (by rw [hlt]; exact ho.1)).mono (fun _ _ h => Ty.Rep.mono hev.keeps T' h) (fun _ _ h => h),
                fun u hu => (List.mem_append.1 hu).elim (h1 u) (c6 u), fun b hb => by
                  simp only [if_true] at hb
                  rcases c4 with h4 | h4
                  · rw [h4] at hb; exact hmine b hb
                  · rw [h4] at hb; cases hb; exact .inl hs.hB⟩)
            exact ⟨v', w', c1, .c (.own j (ver + 1)), _, _, q3, b1, b2, own_rep (w := w') (e := e) (T := T') (xs := xs.take n ++ ys) (List.getElem?_set_self hjl) (if_pos rfl) (row_one c2)⟩
          · exact h.elim

theorem rep0V_take (z : List Value) (n m : Nat) (h : n ≤ m) : (rep0V m z).take (n * z.length) = rep0V n z := by
  apply List.ext_getElem?
  intro j
  rw [List.getElem?_take]
  split
  · rename_i hj
    rw [rep0V_get _ _ _ (Nat.lt_of_lt_of_le hj (Nat.mul_le_mul_right _ h)), rep0V_get _ _ _ hj]
  · rw [List.getElem?_eq_none (by rw [rep0V_length]; omega)]

theorem make_sound {e : TypeId} (hs : Sat B X w0 H g w) (hu : P.underlying t = some (.slice e)) {ei : TI} (hei : TIok P e ei) {et : Ty} (het : ei.ty = some et) (hby : ei.bytes ≤ 100000) {kl kc : IntKind} {n m : Int}
    (hn : 0 ≤ n ∧ n ≤ m ∧ Small m.toNat) {K : SV → List Ent → Prop} (h : K (.c (.own H.length 0)) (H ++ [.row e et 0 (List.replicate n.toNat et.dflt)])) :
    ∃ v w1, (Instr.makeSlice t (.int kl n) (.int kc m)).run P w = .ok v w1 ∧ Post B X w0 K w H g v w1 ∧ Later w w1 := by
  obtain ⟨i, i1, i2, i3, z, z1, z2, _⟩ := hei.info
  obtain ⟨et1, et2⟩ := hei.ty _ het
  obtain ⟨h1, h2, h3⟩ := hn
  unfold Small at h3
  have hb : (i.bytes : Int) * m ≤ 281474976710656 := by
    have hm : (m.toNat : Int) = m := by omega
    have h4 : i.bytes * m.toNat ≤ 100000 * 1000000000 := Nat.mul_le_mul (by omega) h3
    rw [← hm]
    have : ((i.bytes * m.toNat : Nat) : Int) ≤ 281474976710656 := by omega
    rwa [Int.natCast_mul] at this
  have hr := run_make (P := P) w t e i z hu i1 z1 kl kc n m h1 h2 hb (by omega)
  have hzl : z.cells.size = et.size := by rw [← Array.length_toList, z2, hei.len, et1]
  have hmade : (madeCells z.cells (m.toNat * i.size)).toList = rep0V m.toNat ei.zero := by rw [← z2, ← made_eq]; unfold madeCells; rw [hzl, i2, et1]
  have hmsz : (madeCells z.cells (m.toNat * i.size)).size = m.toNat * et.size := by rw [size_madeCells, i2, et1]
  have hzero : ei.zero.length = et.size := by rw [hei.len, et1]
  have hcells : (madeCells z.cells (m.toNat * i.size)).toList.take (n.toNat * et.size) = rep0V n.toNat ei.zero := by rw [hmade, ← hzero, rep0V_take _ _ _ (by omega)]
  obtain ⟨g', b1, b2, b3⟩ := new_row hs e et (xs := List.replicate n.toNat et.dflt) (w1 := w.alloc (.cells (madeCells z.cells (m.toNat * i.size)) e)) (World.grownBy_alloc w _ none)
    (v := .slice (some ⟨w.heap.size, 0, none⟩) n.toNat m.toNat) (cells := rep0V n.toNat ei.zero)
    ⟨by rw [rep0V_length, hzero]; simp, .inr ⟨w.heap.size, m.toNat, _, by simp, Nat.zero_le _, heap_alloc_new w _, by simp; omega, by unfold maxLen; omega, hmsz, by simpa using hcells⟩⟩
    (fun b hb => by simp [Value.ownBlock] at hb; omega) (fun j x hx => by
      have hjn : j < n.toNat := by have := (List.getElem?_eq_some_iff.1 hx).1; simpa using this
      have hx' : x = et.dflt := by rw [List.getElem?_replicate, if_pos hjn] at hx; exact (Option.some.inj hx).symm
      subst hx'
      refine ⟨et.zeros, Ty.rep_zeros et, by rw [et2, hzero], fun k u hku => ?_⟩
      have hk : k < et.size := by have := (List.getElem?_eq_some_iff.1 hku).1; rw [et2, hzero] at this; exact this
      show (rep0V n.toNat ei.zero)[j * et.size + k]? = some u
      have hjm := Nat.mul_le_mul_right et.size (show j + 1 ≤ n.toNat from hjn)
      rw [Nat.add_mul, Nat.one_mul] at hjm
      rw [rep0V_get _ _ _ (by rw [hzero]; omega), hzero, ← et2, Nat.mul_comm, Nat.mul_add_mod, Nat.mod_eq_of_lt hk]
      exact hku) (fun u hu => hei.one u (rep0V_mem hu))
  exact ⟨_, _, hr, ⟨.c (.own H.length 0), _, g', h, b1, b2, own_rep (w := w.alloc (.cells (madeCells z.cells (m.toNat * i.size)) e)) (e := e) (T := et) (xs := List.replicate n.toNat et.dflt) (by simp) b3 rfl⟩, Later.alloc w _⟩

end
end Go.SX
