/- SX, part H: numbers, tests, cutting, calls: every operation is sound. -/
import Derived.Test.YtfbgbdiajghnbaaDoorSxG
namespace Go.SX
open Go Go.RowKit

section
variable {P : Program} {B : Nat} {X : Nat → Prop} {w0 w : World} {H : List Ent} {g : Gh} {t : TypeId} {ti : TI} {C : Ctx}

/-! ### Numbers and tests -/

theorem fits_wrap {n : Int} (h : Fits .i64 n) : IntKind.i64.wrap n = n := by
  unfold Fits at h
  have h1 : IntKind.i64.min = -9223372036854775808 := by decide
  have h2 : IntKind.i64.max = 9223372036854775807 := by decide
  rw [h1, h2] at h
  rw [IntKind.wrap_i64]
  omega

theorem arith_sound {k : IntKind} {n : Int} {K : SV → Prop} (h : arith k n K) : ∃ sv, sv.Rep w H g (.int k (k.wrap n)) ∧ K sv := by
  cases k with
  | i64 => exact ⟨_, by show Value.int _ _ = _; rw [fits_wrap h.1], h.2⟩
  | _ => exact ⟨.c (.int _ _), rfl, h⟩

theorem run_eqGuard_int (op : BinOp) (x y : Operand) (k : IntKind) (n : Int) (v : Value) : (eqGuard op t x y (.int k n) v).run P w = .ok () w := by
  rw [eqGuard_at_int]; rfl
theorem run_eqGuard_string (op : BinOp) (x y : Operand) (s : ByteArray) (v : Value) : (eqGuard op t x y (.string s) v).run P w = .ok () w := by
  rw [eqGuard_at_string]; rfl

theorem intBin_sound {op : BinOp} {k : IntKind} {a b : Int} {K : SV → Prop} (h : intBin op k a b K) : ∃ v sv, (∀ w' : World, (binOp op t (.int k a) (.int k b)).run P w' = .ok v w') ∧ sv.Rep w H g v ∧ K sv := by
  cases op <;> simp only [intBin] at h <;> try exact h.elim
  case add => obtain ⟨sv, h1, h2⟩ := arith_sound (w := w) (H := H) (g := g) h; exact ⟨_, sv, fun _ => by simp [binOp, Op.intArith], h1, h2⟩
  case sub => obtain ⟨sv, h1, h2⟩ := arith_sound (w := w) (H := H) (g := g) h; exact ⟨_, sv, fun _ => by simp [binOp, Op.intArith], h1, h2⟩
  case mul => obtain ⟨sv, h1, h2⟩ := arith_sound (w := w) (H := H) (g := g) h; exact ⟨_, sv, fun _ => by simp [binOp, Op.intArith], h1, h2⟩
  case quo =>
    obtain ⟨⟨h0, hb⟩, h⟩ := h
    obtain ⟨sv, h1, h2⟩ := arith_sound (w := w) (H := H) (g := g) h
    have hne : ¬ b = 0 := by omega
    exact ⟨_, sv, fun _ => by simp [binOp, Op.intDiv, hne, Int.tdiv_eq_ediv_of_nonneg h0], h1, h2⟩
  case rem =>
    obtain ⟨⟨h0, hb⟩, h⟩ := h
    have hne : ¬ b = 0 := by omega
    exact ⟨.int k (a % b), .c (.int k (a % b)), fun _ => by simp [binOp, Op.intDiv, hne, Int.tmod_eq_emod_of_nonneg h0], rfl, h⟩
  case lss => exact ⟨.bool (decide (a < b)), .c (.prop 0 (a < b) inferInstance), fun _ => by simp [binOp, Op.intCmp], rfl, h⟩
  case leq => exact ⟨.bool (decide (a ≤ b)), .c (.prop 0 (a ≤ b) inferInstance), fun _ => by simp [binOp, Op.intCmp], rfl, h⟩
  case gtr => exact ⟨.bool (decide (b < a)), .c (.prop 0 (b < a) inferInstance), fun _ => by simp [binOp, Op.intCmp], rfl, h⟩
  case geq => exact ⟨.bool (decide (b ≤ a)), .c (.prop 0 (b ≤ a) inferInstance), fun _ => by simp [binOp, Op.intCmp], rfl, h⟩
  case and => exact ⟨.int k (bitsF .and k a b), .c (.int k (bitsF .and k a b)), fun _ => by simp [binOp, Op.intBits, bitsF], rfl, h⟩
  case or => exact ⟨.int k (bitsF .or k a b), .c (.int k (bitsF .or k a b)), fun _ => by simp [binOp, Op.intBits, bitsF], rfl, h⟩
  case xor => exact ⟨.int k (bitsF .xor k a b), .c (.int k (bitsF .xor k a b)), fun _ => by simp [binOp, Op.intBits, bitsF], rfl, h⟩
  case eql => exact ⟨.bool (decide (a = b)), .c (.prop 0 (a = b) inferInstance), fun _ => by simp [binOp, Op.intCmp]; rfl, rfl, h⟩
  case neq => exact ⟨.bool (decide (¬ a = b)), .c (.prop 0 (¬ a = b) inferInstance), fun _ => by simp [binOp, Op.intCmp, bne]; rfl, rfl, h⟩

theorem beq_toList (a b : ByteArray) : (a.toList == b.toList) = decide (a = b) := by
  rw [ByteArray.toList_eq, ByteArray.toList_eq]
  by_cases h : a = b
  · subst h; simp
  · rw [decide_eq_false h, beq_eq_false_iff_ne]
    intro e
    apply h
    cases a; cases b
    congr 1
    exact Array.toList_inj.1 e

theorem bin_sound {op : BinOp} {x y : SV} {vx vy : Value} (ox oy : Operand) (hx : x.Rep w H g vx) (hy : y.Rep w H g vy) {K : SV → Prop} (h : binS op x y K) :
    ∃ v sv, (∀ w' : World, ((do eqGuard op t ox oy vx vy; binOp op t vx vy : Sem Value)).run P w' = .ok v w') ∧ sv.Rep w H g v ∧ K sv := by
  match x, y, hx, hy, h with
  | .c (.int k a), .c (.int k' b), hx, hy, h =>
    have ex : vx = .int k a := hx
    have ey : vy = .int k' b := hy
    subst ex; subst ey
    simp only [Sem.run_bind, run_eqGuard_int, Result.andThen_ok]
    simp only [binS] at h
    split at h
    · cases hkb : Nat.beq k.bits 64 with
      | false => rw [hkb] at h; exact h.elim
      | true =>
      rw [hkb] at h
      have hk := Nat.eq_of_beq_eq_true hkb
      obtain ⟨⟨h1, h2⟩, h⟩ := h
      obtain ⟨sv, r1, r2⟩ := arith_sound (w := w) (H := H) (g := g) h
      refine ⟨_, sv, ?_, r1, r2⟩
      intro w'
      have hn : ¬ b < 0 := by omega
      have hm : min b.toNat 64 = b.toNat := by omega
      simp [binOp, Op.shift, hn, hk, hm]
    · cases hkb : Nat.beq k.bits 64 with
      | false => rw [hkb] at h; exact h.elim
      | true =>
      rw [hkb] at h
      have hk := Nat.eq_of_beq_eq_true hkb
      obtain ⟨⟨h1, h2⟩, h⟩ := h
      refine ⟨.int k (a / 2 ^ b.toNat), .c (.int k (a / 2 ^ b.toNat)), ?_, rfl, h⟩
      intro w'
      have hn : ¬ b < 0 := by omega
      have hm : min b.toNat 64 = b.toNat := by omega
      have hp : (0 : Int) ≤ 2 ^ b.toNat := Int.pow_nonneg (by omega)
      simp [binOp, Op.shift, hn, hk, hm, Int.fdiv_eq_ediv_of_nonneg _ hp]
    · by_cases e : k' = k
      · subst e
        exact intBin_sound (by simpa using h)
      · simp only [decide_eq_false e, cond_false] at h
  | .c (.str a), .c (.str b), hx, hy, h =>
    have ex : vx = .string a := hx
    have ey : vy = .string b := hy
    subst ex; subst ey
    simp only [Sem.run_bind, run_eqGuard_string, Result.andThen_ok]
    simp only [binS] at h
    split at h
    · exact ⟨.bool (decide (a = b)), .c (.prop 0 (a = b) inferInstance), fun _ => by simp [binOp, Op.stringOp, beq_toList], rfl, h⟩
    · exact ⟨.bool (decide (¬ a = b)), .c (.prop 0 (¬ a = b) inferInstance), fun _ => by simp [binOp, Op.stringOp, beq_toList], rfl, h⟩
    · obtain ⟨h1, h⟩ := h
      unfold Small at h1
      refine ⟨.string (a ++ b), .c (.str (a ++ b)), ?_, rfl, h⟩
      intro w'
      have hm : ¬ ((a.size : Int) + (b.size : Int) > 9223372036854775807) := by omega
      simp [binOp, Op.stringOp, hm]
    · exact h.elim

theorem un_sound {op : UnOp} {x : SV} {vx : Value} (hx : x.Rep w H g vx) {K : SV → Prop} (h : unS op x K) : ∃ v sv, (∀ w' : World, (Op.unary op vx).run P w' = .ok v w') ∧ sv.Rep w H g v ∧ K sv := by
  unfold unS at h
  split at h
  · rename_i id p d
    have e : vx = .bool (@decide p d) := hx
    subst e
    refine ⟨.bool (!(@decide p d)), .c (.prop 0 (¬ p) (@instDecidableNot p d)), fun _ => rfl, ?_, h⟩
    show Value.bool _ = Value.bool _
    congr 1
    by_cases hp : p <;> simp [hp]
  · rename_i id b
    have e : vx = .bool b := hx
    subst e
    exact ⟨.bool (!b), .c (.bool 0 (!b)), fun _ => rfl, rfl, h⟩
  · rename_i b
    have e : vx = .bool b := hx
    subst e
    exact ⟨.bool (!b), .c (.kb (!b)), fun _ => rfl, rfl, h⟩
  · rename_i k n
    have e : vx = .int k n := hx
    subst e
    obtain ⟨sv, h1, h2⟩ := arith_sound (w := w) (H := H) (g := g) h
    exact ⟨_, sv, fun _ => by simp [Op.unary, Op.intArith], h1, h2⟩
  · exact h.elim

theorem max2_run (isMax : Bool) (k k' : IntKind) (a b : Int) : ((if isMax = true then Builtin.max2 else Builtin.min2) (.int k a) (.int k' b)).run P w = .ok (.int k (bif isMax then max a b else min a b)) w := by
  cases isMax
  · simp only [Bool.false_eq_true, if_false, cond_false, Builtin.min2, Sem.run_pure]
    congr 2
    split <;> omega
  · simp only [if_true, cond_true, Builtin.max2, Sem.run_pure]
    congr 2
    split <;> omega

theorem maxAll_sound (isMax : Bool) (k : IntKind) : (r : List SV) → (a : Int) → {vs : List Value} → ArgsRep w H g r vs → {K : Int → Prop} → maxAll isMax a r K →
    ∃ n, (∀ w' : World, (vs.foldlM (if isMax = true then Builtin.max2 else Builtin.min2) (Value.int k a)).run P w' = .ok (.int k n) w') ∧ K n
  | [], a, vs, hr, K, h => by
    have : vs = [] := List.eq_nil_of_length_eq_zero hr.1
    subst this
    exact ⟨a, fun _ => rfl, h⟩
  | x :: r, a, vs, hr, K, h => by
    match vs, hr with
    | [], hr => exact absurd hr.1 (by simp)
    | v :: vs, hr =>
      match x, h with
      | .c (.int k' b), h =>
        have e : v = .int k' b := hr.2 0 _ _ rfl rfl
        subst e
        obtain ⟨n, h1, h2⟩ := maxAll_sound isMax k r _ (vs := vs) ⟨by simpa using hr.1, fun j y u h1 h2 => hr.2 (j + 1) y u (by simpa using h1) (by simpa using h2)⟩ h
        exact ⟨n, fun w' => by rw [List.foldlM_cons]; simp only [Sem.run_bind, max2_run, Result.andThen_ok]; exact h1 w', h2⟩

/-! ### Addresses -/

theorem index_sound {e : TypeId} (hs : Sat B X w0 H g w) (hu : P.underlying t = some (.slice e)) {ei : TI} (hei : TIok P e ei) {x i : SV} {vx vi : Value} (hx : x.Rep w H g vx) (hi : i.Rep w H g vi) {K : SV → Prop}
    (h : indexS ei.size x i H K) : ∃ v sv, (∀ w' : World, (Instr.indexAt t vx vi).run P w' = .ok v w') ∧ sv.Rep w H g v ∧ K sv := by
  unfold indexS at h
  split at h
  · rename_i k n
    have e1 : vi = .int k n := hi
    subst e1
    split at h
    · rename_i T xs
      cases hb : Nat.beq T.size ei.size with
      | false => rw [hb] at h; exact h.elim
      | true =>
      rw [hb] at h
      have hT := Nat.eq_of_beq_eq_true hb
      simp only [cond_true] at h
      obtain ⟨⟨h0, h1⟩, h⟩ := h
      obtain ⟨A, cap, e2, hle, hro⟩ := hx
      simp only [List.cons.injEq, and_true] at e2
      subst e2
      have hne : xs ≠ [] := by intro e; subst e; simp at h1; omega
      obtain ⟨ad, r1, r2, r3, r4⟩ := hro hne
      subst r1
      refine ⟨.pointer (some (ad.add (n.toNat * ei.size))), .c (.roa T xs n.toNat 0), ?_, ?_, h⟩
      · simp [Instr.indexAt, run_underlying hu, asIntOf, h0, h1, hei.sizeOf]
      · exact ⟨by omega, ad, by rw [hT]; rfl, r2, r3, r4⟩
    · rename_i j ver
      obtain ⟨_, hr⟩ := hx
      unfold OwnRep at hr
      cases he : H[j]? with
      | none => rw [he] at h; exact h.elim
      | some en =>
        rw [he] at h hr
        cases en with
        | dead => exact h.elim
        | blk => exact h.elim
        | tab => exact h.elim
        | row e' T ver' xs =>
          simp only at h hr
          cases hb : (Nat.beq ver ver' && Nat.beq T.size ei.size) with
          | false => rw [hb] at h; exact h.elim
          | true =>
            rw [hb] at h
            rw [Bool.and_eq_true] at hb
            have hT := Nat.eq_of_beq_eq_true hb.2
            simp only [cond_true] at h
            obtain ⟨⟨h0, h1⟩, h⟩ := h
            have hv := hr.2 (Nat.eq_of_beq_eq_true hb.1)
            obtain ⟨cells, ho, hE, hone, hmine⟩ := hs.ents j _ he
            rcases ho.2 with ⟨e1, e2⟩ | ⟨gb, cap, cur, e1, _, e2, e3, e4, e5, e6⟩
            · omega
            · refine ⟨.pointer (some ⟨gb, n.toNat * ei.size, none⟩), .c (.owna j ver n.toNat 0), ?_, ?_, h⟩
              · rw [hv, e1]
                have ha : (⟨gb, 0, none⟩ : Addr).add (n.toNat * ei.size) = ⟨gb, n.toNat * ei.size, none⟩ := by rw [add_plain, Nat.zero_add]
                simp [Instr.indexAt, run_underlying hu, asIntOf, h0, h1, hei.sizeOf, ha]
              · refine ⟨rfl, ?_⟩
                unfold OwnaRep
                rw [he]
                exact ⟨hr.1, fun _ => ⟨by omega, gb, by rw [e1]; rfl, by rw [hT]; rfl⟩⟩
    · rename_i j ver m
      obtain ⟨_, hr⟩ := hx
      unfold PreRep at hr
      cases he : H[j]? with
      | none => rw [he] at h; exact h.elim
      | some en =>
        rw [he] at h hr
        cases en with
        | dead => exact h.elim
        | blk => exact h.elim
        | tab => exact h.elim
        | row e' T ver' xs =>
          simp only at h hr
          cases hb : (Nat.beq ver ver' && Nat.beq T.size ei.size) with
          | false => rw [hb] at h; exact h.elim
          | true =>
            rw [hb] at h
            rw [Bool.and_eq_true] at hb
            have hT := Nat.eq_of_beq_eq_true hb.2
            simp only [cond_true] at h
            obtain ⟨⟨h0, h1⟩, h⟩ := h
            obtain ⟨hm, A, len, cap0, hg0, hv⟩ := hr.2 (Nat.eq_of_beq_eq_true hb.1)
            obtain ⟨cells, ho, hE, hone, hmine⟩ := hs.ents j _ he
            rcases ho.2 with ⟨e1, e2⟩ | ⟨gb, cap, cur, e1, _, e2, e3, e4, e5, e6⟩
            · omega
            · rw [hg0] at e1
              cases e1
              refine ⟨.pointer (some ⟨gb, n.toNat * ei.size, none⟩), .c (.owna j ver n.toNat 0), ?_, ?_, h⟩
              · rw [hv]
                have ha : (⟨gb, 0, none⟩ : Addr).add (n.toNat * ei.size) = ⟨gb, n.toNat * ei.size, none⟩ := by rw [add_plain, Nat.zero_add]
                simp [Instr.indexAt, run_underlying hu, asIntOf, h0, h1, hei.sizeOf, ha]
              · refine ⟨rfl, ?_⟩
                unfold OwnaRep
                rw [he]
                exact ⟨hr.1, fun _ => ⟨by omega, gb, by rw [hg0]; rfl, by rw [hT]; rfl⟩⟩
    · exact h.elim
  · exact h.elim

end
end Go.SX
