/- SX, part IM: maps with ints as keys. -/
import Derived.Test.YtfbgbdiajghnbaaDoorSxI
import Derived.MapKept
namespace Go.SX
open Go Go.RowKit

section
variable {P : Program} {B : Nat} {X : Nat → Prop} {w0 w : World} {H : List Ent} {g : Gh} {t kt e : TypeId} {ei : TI} {C : Ctx} {a : Bool} {et : Ty}

def ERep (w : World) (ok : Nat → Prop) (a : Bool) (t : Ty) (x : t.den) (v : Value) : Prop := if a = true then ∃ cs : List Value, v = .agg cs.toArray ∧ t.Rep w ok x cs else t.Rep w ok x [v]

theorem mapTy_sound (hC : ∀ t ti, tyFind t C.tys = some ti → TIok P t ti) {K : Bool → Ty → Prop} (h : mapTy C t K) :
    ∃ (a : Bool) (et : Ty) (kt e : TypeId), P.underlying t = some (.map kt e) ∧ P.underlying kt = some (.int .i64) ∧ ∃ ei, TIok P e ei ∧ a = ei.desc.isAgg ∧ ei.ty = some et ∧ K a et := by
  unfold mapTy at h
  cases ht : tyFind t C.tys with
  | none => rw [ht] at h; exact h.elim
  | some ti =>
    rw [ht] at h
    simp only at h
    have hd := (hC _ _ ht).desc
    cases hx : ti.desc <;> rw [hx] at h hd <;> simp only at h <;> try exact h.elim
    rename_i k e
    cases hk : tyFind k C.tys with
    | none => rw [hk] at h; exact h.elim
    | some ki =>
      cases he : tyFind e C.tys with
      | none => rw [hk, he] at h; exact h.elim
      | some ei =>
        rw [hk, he] at h
        simp only at h
        have hkd := (hC _ _ hk).desc
        split at h
        · rename_i kk et h1 h2
          rw [h1] at hkd
          by_cases hkk : kk = .i64
          · subst hkk
            simp only [decide_true, cond_true] at h
            exact ⟨_, et, k, e, hd, hkd, ei, hC _ _ he, rfl, h2, h⟩
          · simp only [decide_eq_false hkk, cond_false] at h
        · exact h.elim

theorem elem_sound (hs : Sat B X w0 H g w) {v : SV} {u : Value} (hr : v.Rep w H g u) {K : et.den → List Ent → Prop} (h : elemDat a et v H K) :
    ∃ x H', Sat B X w0 H' g w ∧ Evo w H g w H' g ∧ (∀ j : Nat, H'[j]? = H[j]? ∨ H'[j]? = some Ent.dead) ∧ ERep w (Stable H' g) a et x u ∧ K x H' := by
  unfold elemDat at h
  split at h
  · rename_i x
    cases a with
    | true => exact h.elim
    | false =>
      simp only [cond_false] at h
      cases ho : x.one with
      | false => rw [ho] at h; exact h.elim
      | true =>
        rw [ho] at h
        simp only [cond_true] at h
        have hx : Reps w H g [x] [u] := ⟨rfl, fun j c v h1 h2 => by
          cases j with
          | zero => simp at h1 h2; subst h1; subst h2; exact hr
          | succ j => simp at h1⟩
        obtain ⟨y, cs, r, vr, H', a1, a2, a3, a3', _, _, a6, a7, a8⟩ := dat_sound (ok := fun _ => True) false et hs hx h (fun h => by cases h)
        match r, a7, a8 with
        | [], a7, a8 =>
          have hvr : vr = [] := List.eq_nil_of_length_eq_zero a7.1
          subst hvr
          rw [List.append_nil] at a1
          subst a1
          exact ⟨y, H', a2, a3, a3', by unfold ERep; rw [if_neg Bool.false_ne_true]; exact a6 rfl, a8⟩
  · rename_i l
    cases a with
    | false => exact h.elim
    | true =>
      simp only [cond_true] at h
      obtain ⟨vs, e, h1, h2⟩ := hr
      obtain ⟨y, cs, r, vr, H', a1, a2, a3, a3', _, _, a6, a7, a8⟩ := dat_sound (ok := fun _ => True) false et hs h1 h (fun h => by cases h)
      match r, a7, a8 with
      | [], a7, a8 =>
        have hvr : vr = [] := List.eq_nil_of_length_eq_zero a7.1
        subst hvr
        rw [List.append_nil] at a1
        subst a1
        exact ⟨y, H', a2, a3, a3', by unfold ERep; rw [if_pos rfl]; exact ⟨vs, e, a6 rfl⟩, a8⟩
  · exact h.elim

theorem elem_rep {x : et.den} {v : Value} (h : ERep w (Stable H g) a et x v) : (elemV a et x).Rep w H g v ∧ ∃ vs : List Value, Reps w H g (et.scs x) vs ∧ (∀ u ∈ vs, u.oneCell' = true) ∧ if a = true then v = .agg vs.toArray else vs = [v] := by
  unfold ERep at h
  cases a with
  | true =>
    rw [if_pos rfl] at h
    obtain ⟨cs, e, h⟩ := h
    have h1 := Ty.scs_rep et h
    have h2 := Ty.Rep.one et h
    exact ⟨mkV_rep h1 h2 (by simpa using e), cs, h1, h2, by simpa using e⟩
  | false =>
    rw [if_neg Bool.false_ne_true] at h
    have h1 := Ty.scs_rep et h
    have h2 := Ty.Rep.one et h
    exact ⟨mkV_rep h1 h2 (by simp), [v], h1, h2, by simp⟩

theorem new_tab (hs : Sat B X w0 H g w) (a : Bool) (et : Ty) :
    ∃ g', Sat B X w0 (H ++ [.tab a et []]) g' (w.alloc (.map #[] 0)) ∧ Evo w H g (w.alloc (.map #[] 0)) (H ++ [.tab a et []]) g' ∧ g'.b H.length = w.heap.size := by
  refine ⟨⟨fun i => if i = H.length then w.heap.size else g.b i, g.v, g.ok⟩, ?_⟩
  rw [← and_assoc]
  refine ⟨Sat.add hs _ rfl (fun i hi => if_neg hi) (fun _ _ => rfl) rfl rfl rfl (by simp) (fun b hb => by show (w.heap.push _)[b]? = _; rw [Array.getElem?_push, if_neg (by omega)]) (fun b hb => ?_) (fun hev => ?_), if_pos rfl⟩
  · simp only [Ent.blocks, if_true] at hb; omega
  · exact ⟨#[], 0, by simp only [if_true]; exact heap_alloc_new w _, ⟨rfl, List.nodup_nil, fun k p m h => by simp at h⟩, by simp only [if_true]; exact .inl hs.hB⟩

/-- The search for a key. -/
theorem find_key {α : Type} (n : Int) : (es : List (Int × α)) → (ents : List MapEntry) → (i0 : Nat) → ents.length = es.length → (∀ (k : Nat) (p : Int × α) (m : MapEntry), es[k]? = some p → ents[k]? = some m → m.key = .int .i64 p.1) →
    (Instr.findNow (.int .i64) (.int .i64 n) ents i0 = some none ∧ lookF es n = none ∧ n ∉ es.map Prod.fst ∧ ∀ x, insF es n x = es ++ [(n, x)]) ∨
    ∃ (j : Nat) (p : Int × α) (m : MapEntry), Instr.findNow (.int .i64) (.int .i64 n) ents i0 = some (some (i0 + j, m.val)) ∧ es[j]? = some p ∧ ents[j]? = some m ∧ p.1 = n ∧ lookF es n = some p.2 ∧ ∀ x, insF es n x = es.set j (n, x)
  | [], [], i0, _, _ => .inl ⟨rfl, rfl, by simp, fun _ => rfl⟩
  | [], _ :: _, _, h, _ => by simp at h
  | _ :: _, [], _, h, _ => by simp at h
  | p :: es, m :: ents, i0, hl, hk => by
    have hk0 := hk 0 p m rfl rfl
    have hnow : Instr.sameNow (.int .i64) (.int .i64 n) m.key = some (n == p.1) := by rw [hk0]; simp [Instr.sameNow]
    by_cases he : p.1 = n
    · refine .inr ⟨0, p, m, ?_, rfl, rfl, he, ?_, fun x => ?_⟩
      · unfold Instr.findNow; rw [hnow, he]; simp
      · unfold lookF; rw [if_pos he]
      · unfold insF; rw [if_pos he, he]; rfl
    · have hne : (n == p.1) = false := by simpa using fun h => he h.symm
      have step : Instr.findNow (.int .i64) (.int .i64 n) (m :: ents) i0 = Instr.findNow (.int .i64) (.int .i64 n) ents (i0 + 1) := by
        rw [Instr.findNow, hnow, hne]
      rcases find_key n es ents (i0 + 1) (by simpa using hl) (fun k p m h1 h2 => hk (k + 1) p m (by simpa using h1) (by simpa using h2)) with ⟨h1, h2, h3, h4⟩ | ⟨j, q, m', h1, h2, h3, h4, h5, h6⟩
      · refine .inl ⟨by rw [step]; exact h1, ?_, ?_, fun x => ?_⟩
        · unfold lookF; rw [if_neg he]; exact h2
        · rw [List.map_cons, List.mem_cons]
          rintro (h | h)
          · exact he h.symm
          · exact h3 h
        · unfold insF; rw [if_neg he, h4]; rfl
      · refine .inr ⟨j + 1, q, m', by rw [step, h1, show i0 + 1 + j = i0 + (j + 1) by omega], by simpa using h2, by simpa using h3, h4, ?_, fun x => ?_⟩
        · unfold lookF; rw [if_neg he]; exact h5
        · unfold insF; rw [if_neg he, h6]; rfl

theorem look_sound (hs : Sat B X w0 H g w) (hu : P.underlying t = some (.map kt e)) (hk : P.underlying kt = some (.int .i64)) (hei : TIok P e ei) (ha : a = ei.desc.isAgg) (het : ei.ty = some et) (ok : Bool) {m k : SV} {vm vk : Value}
    (hm : m.Rep w H g vm) (hkr : k.Rep w H g vk) {K : SV → Prop} (h : lookS ok a et m k H K) :
    ∃ v sv, (∀ w', Later w w' → (Instr.lookup t vm vk ok).run P w' = .ok v w') ∧ sv.Rep w H g v ∧ K sv := by
  unfold lookS at h
  split at h
  · rename_i i n
    obtain ⟨hil, e1⟩ := hm
    have e2 : vk = .int .i64 n := hkr
    subst e1; subst e2
    cases hi : H[i]? with
    | none => rw [hi] at h; exact h.elim
    | some en =>
      rw [hi] at h
      cases en with
      | dead => exact h.elim
      | blk => exact h.elim
      | row => exact h.elim
      | tab a2 t2 es =>
        simp only at h
        cases hb : (a == a2) with
        | false => rw [hb] at h; exact h.elim
        | true =>
          rw [hb] at h
          simp only [cond_true] at h
          have haa : a = a2 := by simpa using hb
          subst haa
          split at h
          · rename_i htt
            subst htt
            obtain ⟨ents, clock, hh, ⟨q1, q2, q3⟩, _⟩ := hs.ents i _ hi
            have hlt : g.b i < w.heap.size := (Array.getElem?_eq_some_iff.1 hh).1
            have hget : ∀ w', Later w w' → (getObj (g.b i)).run P w' = .ok (.map ents clock) w' := fun w' hl => MapKept.run_getObj_map (by rw [hl.2 _ hlt]; exact hh)
            have hck : ∀ w', (Instr.checkKey ents.isEmpty 10000 kt (.int .i64 n)).run P w' = .ok () w' := fun w' => MapKept.run_checkKey (w := w') hk (by simp [MapKept.IsKey]) _ 9999
            rcases find_key n es ents.toList 0 q1 (fun k p m h1 h2 => (q3 k p m h1 h2).1) with ⟨f1, f2, _, _⟩ | ⟨j, p, mm, f1, f2, f3, f4, f5, _⟩
            · have hfk : ∀ w', (Instr.findKey kt (.int .i64 n) ents.toList).run P w' = .ok none w' := fun w' => MapKept.run_findKey hk f1
              have hz : ∀ w' : World, ∃ z, (zeroValue e).run P w' = .ok z w' ∧ z.cells.toList = ei.zero ∧ (ei.desc.isAgg = true → z = .agg ei.zero.toArray) := fun w' => hei.zero
              obtain ⟨i', i1, _, _, z, z1, z2, z3⟩ := hei.info
              have hzr : ∀ w' : World, (zeroValue e).run P w' = .ok z w' := fun w' => by simp [zeroValue, typeInfo, i1, z1]
              obtain ⟨y1, y2⟩ := hei.ty _ het
              have hE : ERep w (Stable H g) a t2 t2.dflt z := by
                unfold ERep
                have hrz : t2.Rep w (Stable H g) t2.dflt ei.zero := by rw [← y2]; exact Ty.rep_zeros t2
                cases a with
                | true => rw [if_pos rfl]; exact ⟨ei.zero, z3 ha.symm, hrz⟩
                | false =>
                  rw [if_neg Bool.false_ne_true]
                  have hzl : ei.zero = [z] := hei.sg ha.symm i' z i1 z1
                  rw [← hzl]; exact hrz
              obtain ⟨k1, vs, k2, k3, k4⟩ := elem_rep hE
              rw [f2] at h
              cases ok with
              | false =>
                refine ⟨z, _, fun w' hl => ?_, k1, h⟩
                simp [Instr.lookup, run_underlying hu, hget w' hl, hck w', hfk w', hzr w']
              | true =>
                refine ⟨.tuple #[z, .bool false], _, fun w' hl => ?_, ?_, h⟩
                · simp [Instr.lookup, run_underlying hu, hget w' hl, hck w', hfk w', hzr w']
                · exact tup2 k2 k3 k4 (by simp [isSomeP])
            · have hfk : ∀ w', (Instr.findKey kt (.int .i64 n) ents.toList).run P w' = .ok (some (0 + j, mm.val)) w' := fun w' => MapKept.run_findKey hk f1
              have hE : ERep w (Stable H g) a t2 p.2 mm.val := (q3 j p mm f2 f3).2
              obtain ⟨k1, vs, k2, k3, k4⟩ := elem_rep hE
              rw [f5] at h
              cases ok with
              | false =>
                refine ⟨mm.val, _, fun w' hl => ?_, k1, h⟩
                simp [Instr.lookup, run_underlying hu, hget w' hl, hck w', hfk w']
              | true =>
                refine ⟨.tuple #[mm.val, .bool true], _, fun w' hl => ?_, ?_, h⟩
                · simp [Instr.lookup, run_underlying hu, hget w' hl, hck w', hfk w']
                · exact tup2 k2 k3 k4 (by simp [isSomeP])
          · exact h.elim
  · exact h.elim
where
  tup2 {w : World} {H : List Ent} {g : Gh} {a : Bool} {l : List SC} {vs : List Value} {v : Value} {b : Bool} {p : Prop} {d : Decidable p} (k2 : Reps w H g l vs) (k3 : ∀ u ∈ vs, u.oneCell' = true) (k4 : if a = true then v = .agg vs.toArray else vs = [v]) (hb : b = @decide p d) :
      (SV.tup [(a, l), (false, [.prop 0 p d])]).Rep w H g (.tuple #[v, .bool b]) := by
    refine ⟨[v, .bool b], rfl, rfl, fun j q u h1 h2 => ?_⟩
    match j, h1, h2 with
    | 0, h1, h2 =>
      simp at h1 h2; subst h1; subst h2
      exact ⟨vs, k2, k3, k4⟩
    | 1, h1, h2 =>
      simp at h1 h2; subst h1; subst h2
      refine ⟨[.bool b], ⟨rfl, fun j c v h1 h2 => ?_⟩, by simp [Value.oneCell'], by simp⟩
      cases j with
      | zero => simp at h1 h2; subst h1; subst h2; show Value.bool _ = _; rw [hb]
      | succ j => simp at h1
    | j + 2, h1, _ => simp at h1

theorem upd_sound (hs : Sat B X w0 H g w) (hu : P.underlying t = some (.map kt e)) (hk : P.underlying kt = some (.int .i64)) {i : Nat} {es : List (Int × et.den)} (hi : H[i]? = some (.tab a et es)) {n : Int} {x : et.den} {v : Value} (hx : ERep w (Stable H g) a et x v) :
    ∃ w1, (Instr.mapUpdate t (.map (some (g.b i))) (.int .i64 n) v).run P w = .ok () w1 ∧ Sat B X w0 (H.set i (.tab a et (insF es n x))) g w1 ∧ Evo w H g w1 (H.set i (.tab a et (insF es n x))) g := by
  obtain ⟨ents, clock, hh, ⟨q1, q2, q3⟩, hm⟩ := hs.ents i _ hi
  have hget : (getObj (g.b i)).run P w = .ok (.map ents clock) w := MapKept.run_getObj_map hh
  have hck : (Instr.checkKey false 10000 kt (.int .i64 n)).run P w = .ok () w := MapKept.run_checkKey hk (by simp [MapKept.IsKey]) _ 9999
  have hmono : ∀ {w' : World} {H' : List Ent}, Evo w H g w' H' g → ∀ {y : et.den} {u : Value}, ERep w (Stable H g) a et y u → ERep w' (Stable H' g) a et y u := by
    intro w' H' hev y u h
    unfold ERep at h ⊢
    split
    · rename_i hc; rw [if_pos hc] at h; obtain ⟨cs, e, h⟩ := h; exact ⟨cs, e, Ty.Rep.mono hev.keeps et h⟩
    · rename_i hc; rw [if_neg hc] at h; exact Ty.Rep.mono hev.keeps et h
  have fin : ∀ (o : Array MapEntry) (c : Nat) (fs : List (Int × et.den)), (∀ (w' : World) (H' : List Ent), Evo w H g w' H' g → TabRep w' (Stable H' g) a et fs o.toList) →
      Sat B X w0 (H.set i (.tab a et fs)) g { w with heap := w.heap.setIfInBounds (g.b i) (.map o c) } ∧ Evo w H g { w with heap := w.heap.setIfInBounds (g.b i) (.map o c) } (H.set i (.tab a et fs)) g := by
    intro o c fs hT
    refine Sat.upd hs i _ (.tab a et fs) hi rfl (fun _ => rfl) (fun _ _ => rfl) rfl rfl rfl (by simp) (fun b _ hb => ?_) (fun b hb => .inl hb) (fun _ _ _ _ h => by cases h) (fun hev => ⟨o, c, (MapKept.heap_set hh).1, hT _ _ hev, hm⟩)
    exact (MapKept.heap_set hh).2 b (fun h => hb h)
  rcases find_key n es ents.toList 0 q1 (fun k p m h1 h2 => (q3 k p m h1 h2).1) with ⟨f1, f2, f3, f4⟩ | ⟨j, p, mm, f1, f2, f3, f4, f5, f6⟩
  · have hfk : (Instr.findKey kt (.int .i64 n) ents.toList).run P w = .ok none w := MapKept.run_findKey hk f1
    have hset := MapKept.run_setObj_map (P := P) (.map (ents.push ⟨.int .i64 n, v, clock⟩) (clock + 1)) hh
    refine ⟨{ w with heap := w.heap.setIfInBounds (g.b i) (.map (ents.push ⟨.int .i64 n, v, clock⟩) (clock + 1)) }, by simp [Instr.mapUpdate, run_underlying hu, hget, hck, hfk, hset], ?_⟩
    rw [f4 x]
    refine fin _ _ _ fun w' H' hev => ⟨by simp [q1], ?_, fun k p m h1 h2 => ?_⟩
    · rw [List.map_append, List.nodup_append]
      refine ⟨q2, by simp, fun y hy z hz => ?_⟩
      simp at hz
      subst hz
      intro e; subst e; exact f3 hy
    · rw [Array.toList_push] at h2
      rcases Nat.lt_or_ge k es.length with hlt | hge
      · rw [List.getElem?_append_left hlt] at h1
        rw [List.getElem?_append_left (by omega)] at h2
        obtain ⟨r1, r2⟩ := q3 k p m h1 h2
        exact ⟨r1, hmono hev r2⟩
      · rw [List.getElem?_append_right hge] at h1
        rw [List.getElem?_append_right (by omega), q1] at h2
        have hk0 : k - es.length = 0 := by
          have := (List.getElem?_eq_some_iff.1 h1).1
          simpa using this
        rw [hk0] at h1 h2
        simp at h1 h2
        subst h1; subst h2
        exact ⟨rfl, hmono hev hx⟩
  · have hfk : (Instr.findKey kt (.int .i64 n) ents.toList).run P w = .ok (some (0 + j, mm.val)) w := MapKept.run_findKey hk f1
    have hkey := (q3 j p mm f2 f3).1
    rw [f4] at hkey
    have hstay : (Instr.keyThatStays (.int .i64 n) (.int .i64 n)).run P w = .ok (.int .i64 n) w := MapKept.run_keyThatStays (d := .int .i64) (by simp [MapKept.IsKey])
    have f3' : ents[j]? = some mm := by simpa using f3
    have hset := MapKept.run_setObj_map (P := P) (.map (ents.modify j fun e => { e with key := .int .i64 n, val := v }) clock) hh
    refine ⟨{ w with heap := w.heap.setIfInBounds (g.b i) (.map (ents.modify j fun e => { e with key := .int .i64 n, val := v }) clock) }, by simp [Instr.mapUpdate, run_underlying hu, hget, hck, hfk, f3', hkey, hstay, hset], ?_⟩
    rw [f6 x]
    refine fin _ _ _ fun w' H' hev => ⟨by simp [q1], ?_, fun k q m h1 h2 => ?_⟩
    · have : (es.set j (n, x)).map Prod.fst = es.map Prod.fst := by
        apply List.ext_getElem?
        intro k
        rw [List.getElem?_map, List.getElem?_map, List.getElem?_set]
        by_cases hjk : j = k
        · subst hjk
          rw [if_pos rfl, f2]
          have hjl := (List.getElem?_eq_some_iff.1 f2).1
          rw [if_pos hjl]
          simp [f4]
        · rw [if_neg hjk]
      rw [this]; exact q2
    · rw [Array.getElem?_toList, Array.getElem?_modify] at h2
      rw [List.getElem?_set] at h1
      by_cases hjk : j = k
      · subst hjk
        rw [if_pos rfl] at h1
        rw [if_pos rfl, f3'] at h2
        split at h1
        · simp at h1 h2
          subst h1; subst h2
          exact ⟨rfl, hmono hev hx⟩
        · cases h1
      · rw [if_neg hjk] at h1 h2
        obtain ⟨r1, r2⟩ := q3 k q m h1 (by simpa using h2)
        exact ⟨r1, hmono hev r2⟩
end
end Go.SX
