/- SX, part E: new entries, stores, literals, appends. -/
import Derived.Test.YtfbgbdiajghnbaaDoorSxD
namespace Go.SX
open Go Go.RowKit

section
variable {P : Program} {B : Nat} {X : Nat → Prop} {w0 w : World} {H : List Ent} {g : Gh} {t : TypeId} {ti : TI}

theorem new_blk (hs : Sat B X w0 H g w) (e : TypeId) {l : List SC} {vs : List Value} (hr : Reps w H g l vs) (h1 : ∀ u ∈ vs, u.oneCell' = true) :
    ∃ g', Sat B X w0 (H ++ [.blk e l]) g' (w.alloc (.cells vs.toArray e)) ∧ Evo w H g (w.alloc (.cells vs.toArray e)) (H ++ [.blk e l]) g' ∧ g'.b H.length = w.heap.size := by
  refine ⟨⟨fun i => if i = H.length then w.heap.size else g.b i, g.v, g.ok⟩, ?_⟩
  rw [← and_assoc]
  refine ⟨Sat.add hs _ rfl (fun i hi => if_neg hi) (fun _ _ => rfl) rfl rfl rfl (by simp) (fun b hb => by show (w.heap.push _)[b]? = _; rw [Array.getElem?_push, if_neg (by omega)]) (fun b hb => ?_) (fun hev => ?_), if_pos rfl⟩
  · simp only [Ent.blocks, if_true] at hb; omega
  · exact ⟨vs, by simp only [if_true]; exact heap_alloc_new w _, hr.evo hev, h1, by simp only [if_true]; exact .inl hs.hB⟩

theorem new_row (hs : Sat B X w0 H g w) (e : TypeId) (T : Ty) {xs : List T.den} {w1 : World} (hg : w.grownBy w1 none) {v : Value} {cells : List Value}
    (ho : w1.ownsRow 0 e T.size v xs.length cells) (hnew : ∀ b, v.ownBlock = some b → w.heap.size ≤ b) (hE : ElemsAt (T.Rep w (Stable H g)) T.size xs fun k => cells[k]?)
    (h1 : ∀ u ∈ cells, u.oneCell' = true) : ∃ g', Sat B X w0 (H ++ [.row e T 0 xs]) g' w1 ∧ Evo w H g w1 (H ++ [.row e T 0 xs]) g' ∧ g'.v H.length = v := by
  refine ⟨⟨g.b, fun i => if i = H.length then v else g.v i, g.ok⟩, ?_⟩
  rw [← and_assoc]
  refine ⟨Sat.add hs _ rfl (fun _ _ => rfl) (fun i hi => if_neg hi) hg.os hg.tape hg.output hg.size (fun b hb => hg.block b hb (by simp)) (fun b hb => ?_) (fun hev => ?_), if_pos rfl⟩
  · simp only [Ent.blocks, if_true] at hb; exact hnew b hb
  · refine ⟨cells, by simp only [if_true]; exact ho, hE.mono (fun _ _ h => Ty.Rep.mono hev.keeps T h) (fun _ _ h => h), h1, fun b hb => ?_⟩
    simp only [if_true] at hb
    exact .inl (Nat.le_trans hs.hB (hnew b hb))

theorem own_rep {e : TypeId} {T : Ty} {ver : Nat} {xs : List T.den} {i : Nat} {v : Value} (he : H[i]? = some (.row e T ver xs)) (hv : g.v i = v) (h1 : v.oneCell' = true) : SC.Rep w H g (.own i ver) v := by
  refine ⟨h1, ?_⟩
  unfold OwnRep
  rw [he]
  exact ⟨Nat.le_refl _, fun _ => hv.symm⟩

theorem row_one {e : TypeId} {size n : Nat} {v : Value} {cells : List Value} (h : w.ownsRow 0 e size v n cells) : v.oneCell' = true := by
  rcases h.2 with ⟨rfl, _⟩ | ⟨gb, cap, cur, rfl, _⟩ <;> rfl

/-! ### Stores -/

theorem run_storeVar (h : TIok P t ti) (b o : Nat) (cur : Array Value) (e : TypeId) (hb : w.heap[b]? = some (.cells cur e (0, 0))) (v : Value) (hsz : v.cells.toList.length = ti.size)
    (hfit : o + ti.size ≤ cur.size) (h1 : ∀ u ∈ v.cells.toList, u.oneCell' = true) :
    (storeVar t ⟨b, o, none⟩ v).run P w = .ok () (w.setRow b (spliceV cur.toList o v.cells.toList).toArray) := by
  have hst := run_storeCells_at P b o e v.cells.toList 0 cur w hb (by omega) h1
  simp only [Nat.add_zero] at hst
  rw [spliceV_eq _ _ _ (by rw [hsz, Array.length_toList]; exact hfit)]
  unfold storeVar
  have hs : ¬ v.cells.size ≠ ti.size := by simpa using hsz
  simp only [Sem.run_bind, h.sizeOf, Result.andThen_ok, hs, if_false, hst]

theorem spliceL_length : (r cs : List SC) → (o : Nat) → (spliceL cs o r).length = cs.length
  | [], _, _ => rfl
  | x :: r, cs, o => by rw [spliceL, spliceL_length r]; simp

theorem setRow_others (b : Nat) (cs : Array Value) {k : Nat} (hk : k ≠ b) : (w.setRow b cs).heap[k]? = w.heap[k]? := setRow_other w b k cs hk

/-- Storing into a variable of the call's own. -/
theorem store_blk (hs : Sat B X w0 H g w) (hti : TIok P t ti) {i off : Nat} {e : TypeId} {cs l : List SC} (he : H[i]? = some (.blk e cs)) (hle : off + ti.size ≤ cs.length) {v : Value}
    (hr : Reps w H g l v.cells.toList) (h1 : ∀ u ∈ v.cells.toList, u.oneCell' = true) (hl : l.length = ti.size) :
    ∃ w1, (storeVar t ⟨g.b i, off, none⟩ v).run P w = .ok () w1 ∧ Sat B X w0 (H.set i (.blk e (spliceL cs off l))) g w1 ∧ Evo w H g w1 (H.set i (.blk e (spliceL cs off l))) g := by
  obtain ⟨vs, e1, e2, e3, e4⟩ := hs.ents i _ he
  have hsz : v.cells.toList.length = ti.size := by rw [hr.1, hl]
  refine ⟨_, run_storeVar hti (g.b i) off vs.toArray e e1 v hsz (by simp [e2.1]; omega) h1, ?_⟩
  refine Sat.upd hs i _ _ he rfl (fun _ => rfl) (fun _ _ => rfl) rfl rfl rfl (by simp) (fun b _ hb => setRow_others _ _ fun h => hb h) (fun b hb => .inl hb) (fun _ _ _ _ h => by cases h) (fun hev => ?_)
  refine ⟨spliceV vs off v.cells.toList, ?_, (Reps.splice off e2 hr).evo hev, spliceV_one _ _ _ h1 e3, e4⟩
  simpa using setRow_heap w (g.b i) vs.toArray _ e (0, 0) e1

theorem spliceV_get (us cs : List Value) (o : Nat) (h : o + us.length ≤ cs.length) (m : Nat) : (spliceV cs o us)[m]? = if o ≤ m ∧ m < o + us.length then us[m - o]? else cs[m]? := by
  have h1 : (cs.take o).length = o := by rw [List.length_take]; omega
  have h2 : (cs.take o ++ us).length = o + us.length := by rw [List.length_append, h1]
  rw [spliceV_eq _ _ _ h]
  by_cases hm1 : m < o
  · rw [if_neg (by omega), List.getElem?_append_left (by omega), List.getElem?_append_left (by omega), List.getElem?_take, if_pos hm1]
  · by_cases hm2 : m < o + us.length
    · rw [if_pos (by omega), List.getElem?_append_left (by omega), List.getElem?_append_right (by omega), h1]
    · rw [if_neg (by omega), List.getElem?_append_right (by omega), List.getElem?_drop, h2]
      congr 1
      omega

theorem toList_take_spliceV {cur : List Value} {m o : Nat} {us : List Value} (h : o + us.length ≤ m) (hm : m ≤ cur.length) : (spliceV cur o us).take m = spliceV (cur.take m) o us := by
  apply List.ext_getElem?
  intro j
  rw [List.getElem?_take, spliceV_get _ _ _ (by omega), spliceV_get _ _ _ (by rw [List.length_take]; omega), List.getElem?_take]
  by_cases hj : j < m
  · simp only [hj, if_true]
  · rw [if_neg hj, if_neg hj, if_neg (by omega)]

/-- Storing into an element of a row of the call's own. -/
theorem store_row (hs : Sat B X w0 H g w) (hti : TIok P t ti) {i ver k off : Nat} {e : TypeId} {T : Ty} {xs : List T.den} (he : H[i]? = some (.row e T ver xs)) (hk : k < xs.length) (hle : off + ti.size ≤ T.size)
    {b : Nat} (hb : (g.v i).ownBlock = some b) {v : Value} (hsz : v.cells.toList.length = ti.size) (h1 : ∀ u ∈ v.cells.toList, u.oneCell' = true) {x : T.den} {c : List Value}
    (hc : ∀ (cells : List Value), w.ownsRow 0 e T.size (g.v i) xs.length cells → c = spliceV ((cells.drop (k * T.size)).take T.size) off v.cells.toList) (hx : T.Rep w (Stable H g) x c) :
    ∃ w1, (storeVar t ⟨b, k * T.size + off, none⟩ v).run P w = .ok () w1 ∧ Sat B X w0 (H.set i (.row e T ver (xs.set k x))) g w1 ∧ Evo w H g w1 (H.set i (.row e T ver (xs.set k x))) g := by
  obtain ⟨cells, ho, hE, hone, hmine⟩ := hs.ents i _ he
  obtain ⟨cap, cur, e1, e2, e3, e3', e4, e5⟩ := row_cells ho hb
  have hcl : cells.length = xs.length * T.size := ho.1
  have hks : k * T.size + T.size ≤ xs.length * T.size := by
    have := Nat.mul_le_mul_right T.size (show k + 1 ≤ xs.length from hk)
    rw [Nat.add_mul, Nat.one_mul] at this; exact this
  have hcap : xs.length * T.size ≤ cur.size := by rw [e4]; exact Nat.mul_le_mul_right _ e3
  refine ⟨_, run_storeVar hti b (k * T.size + off) cur e e2 v hsz (by omega) h1, ?_⟩
  have hnew : (spliceV cur.toList (k * T.size + off) v.cells.toList).take (xs.length * T.size) = spliceV cells (k * T.size + off) v.cells.toList := by
    rw [toList_take_spliceV (by omega) (by simpa using hcap), e5]
  refine Sat.upd hs i _ _ he rfl (fun _ => rfl) (fun _ _ => rfl) rfl rfl rfl (by simp) (fun b' _ hb' => setRow_others _ _ fun h => hb' (by subst h; exact hb)) (fun b hb => .inl hb)
    (fun e' t' v' x' h => by cases h; exact ⟨ver, xs, rfl, .inr ⟨rfl, by simp, rfl⟩⟩) (fun hev => ?_)
  refine ⟨spliceV cells (k * T.size + off) v.cells.toList, ⟨by rw [spliceV_length, hcl]; simp, .inr ⟨b, cap, _, by rw [List.length_set]; exact e1, Nat.zero_le _, setRow_heap w b cur _ e (0, 0) e2, by simpa using e3, e3', by simp [spliceV_length, e4], by simpa using hnew⟩⟩, ?_, spliceV_one _ _ _ h1 hone, hmine⟩
  intro j y hy
  rw [List.getElem?_set] at hy
  have hval : ∀ m, (spliceV cells (k * T.size + off) v.cells.toList)[m]? = if k * T.size + off ≤ m ∧ m < k * T.size + off + ti.size then v.cells.toList[m - (k * T.size + off)]? else cells[m]? := by
    intro m
    rw [spliceV_get _ _ _ (by omega), hsz]
  split at hy
  · rename_i hkj
    subst hkj
    · cases hy
      have hcc := hc cells ho
      refine ⟨c, Ty.Rep.mono hev.keeps T hx, hx.len, fun m u hu => ?_⟩
      rw [hcc] at hu
      have hlen : ((cells.drop (k * T.size)).take T.size).length = T.size := by rw [List.length_take, List.length_drop]; omega
      rw [spliceV_get _ _ _ (by omega), hsz] at hu
      show (spliceV cells (k * T.size + off) v.cells.toList)[k * T.size + m]? = some u
      rw [hval]
      by_cases hm : off ≤ m ∧ m < off + ti.size
      · rw [if_pos hm] at hu
        rw [if_pos (by omega), ← hu]
        congr 1
        omega
      · rw [if_neg hm, List.getElem?_take] at hu
        rw [if_neg (by omega)]
        split at hu
        · rw [List.getElem?_drop] at hu; exact hu
        · cases hu
  · rename_i hkj
    obtain ⟨c', d1, d2, d3⟩ := hE j y hy
    refine ⟨c', Ty.Rep.mono hev.keeps T d1, d2, fun m u hu => ?_⟩
    have := d3 m u hu
    have hm : m < T.size := by rw [← d2]; exact (List.getElem?_eq_some_iff.1 hu).1
    show (spliceV cells (k * T.size + off) v.cells.toList)[j * T.size + m]? = some u
    rw [hval, if_neg]
    · exact this
    · have h3 : j * T.size + T.size ≤ k * T.size ∨ k * T.size + T.size ≤ j * T.size := by
        rcases Nat.lt_or_gt_of_ne hkj with h4 | h4
        · right
          have := Nat.mul_le_mul_right T.size (show k + 1 ≤ j from h4)
          rw [Nat.add_mul, Nat.one_mul] at this; exact this
        · left
          have := Nat.mul_le_mul_right T.size (show j + 1 ≤ k from h4)
          rw [Nat.add_mul, Nat.one_mul] at this; exact this
      omega

end
end Go.SX
