/- Parts of the proof, one after the other: WzY1 WzY1E WzY1Q WzY2 WzY2E WzY2Q WzY3Q WzY4Q. -/
import Derived.Test.YtgbnkmhabhgigaaGreatM11
import Derived.Test.YtgbnkmhabhgigaaGreatM13
import Derived.Test.YtgbnkmhabhgigaaGreatM17
/- Chapter 08: the reference reads digits, what is asked. -/
namespace Go.SX.We.Nm
open Go Go.Proofs
structure DigN (l : List Int) : Prop where
  dig : DigL l
  len : 1 ≤ l.length ∧ l.length ≤ 4000
  top : l.length = 1 ∨ l.getD 0 0 ≠ 48
noncomputable section
@[reducible] def A79a (l : List Int) : Ann where
  τ := Nat
  pre := []
  preC := [(1, 1, 3, .int .i64)]
  keep := [0, 2, 4]
  slots k := [(5, .c (.int .i64 ((l.length : Int) - 4 * k)))]
  ents k := [(1, .blk 32 [.kb false, .own 2 1]), (2, .row 3 (.int .i64) 0 (digs 10000 (valS l) k))]
  ok k := 4 * k ≤ l.length + 3
  m k := l.length + 4 - 4 * k
@[reducible] def A79b (l : List Int) (a b : Int) : Ann where
  τ := Nat
  pre := []
  preC := []
  keep := [0, 2, 4, 5]
  slots i := [(6, .c (.int .i64 (valS ((l.take (a.toNat + i)).drop a.toNat)))), (7, .c (.int .i64 (a + i)))]
  ents _ := []
  ok i := a + i ≤ b
  m i := (b - a).toNat - i
def with79 (l : List Int) (st : St) : Ann :=
  match findT 5 st.t, findT 7 st.t with
  | .c (.int _ b), .c (.int _ a) => A79b l a b
  | _, _ => noAnn
@[reducible] def r79 : PC := ⟨79, [aS], [aZ, aB], fun s => DigN (bytesL s), fun s => (iZ (valS (bytesL s)), true)⟩
def h79 (s : ByteArray) : Prop := r79.VC (cx [r78.ci] [(0, fun _ => A79a (bytesL s)), (1, with79 (bytesL s))]) Tryz.f79 s
end
end Go.SX.We.Nm

/- Printed by VC.lean: what the executor asks. -/
namespace Go.SX.We.Nm
open Go Go.Proofs IntKind List
def Qh79_1 (s : ByteArray) (x : Nat) : Prop := (0 < (↑(bytesL s).length : Int) - 4 * (x : Int) → 0 < (↑(bytesL s).length : Int) - 4 * (x : Int) ∧ Fits .i64 ((↑(bytesL s).length : Int) - 4 * (x : Int) - 4) ∧ (∃ (x0 : Nat), max 0 ((↑(bytesL s).length : Int) - 4 * (x : Int) - 4) + (x0 : Int) ≤ (↑(bytesL s).length : Int) - 4 * (x : Int) ∧ ((True ∧ Value.slice none (0 : Nat) (0 : Nat) = Value.slice none (0 : Nat) (0 : Nat) ∧ True) ∧ (True ∧ True ∧ True) ∧ digs 10000 (valS (bytesL s)) x = digs 10000 (valS (bytesL s)) x ∧ True) ∧ 0 = valS (drop (max 0 ((↑(bytesL s).length : Int) - 4 * (x : Int) - 4)).toNat (take ((max 0 ((↑(bytesL s).length : Int) - 4 * (x : Int) - 4)).toNat + x0) (bytesL s))) ∧ max 0 ((↑(bytesL s).length : Int) - 4 * (x : Int) - 4) = max 0 ((↑(bytesL s).length : Int) - 4 * (x : Int) - 4) + (x0 : Int) ∧ (↑(bytesL s).length : Int) - 4 * (x : Int) = (↑(bytesL s).length : Int) - 4 * (x : Int) ∧ True ∧ True ∧ s = s ∧ True) ∧ ∀ (x_1 : Nat), max 0 ((↑(bytesL s).length : Int) - 4 * (x : Int) - 4) + (x_1 : Int) ≤ (↑(bytesL s).length : Int) - 4 * (x : Int) → (max 0 ((↑(bytesL s).length : Int) - 4 * (x : Int) - 4) + (x_1 : Int) < (↑(bytesL s).length : Int) - 4 * (x : Int) → max 0 ((↑(bytesL s).length : Int) - 4 * (x : Int) - 4) + (x_1 : Int) < (↑(bytesL s).length : Int) - 4 * (x : Int) ∧ (0 ≤ max 0 ((↑(bytesL s).length : Int) - 4 * (x : Int) - 4) + (x_1 : Int) ∧ max 0 ((↑(bytesL s).length : Int) - 4 * (x : Int) - 4) + (x_1 : Int) < (s.size : Int)) ∧ (bt s (max 0 ((↑(bytesL s).length : Int) - 4 * (x : Int) - 4) + (x_1 : Int)).toNat < 48 → bt s (max 0 ((↑(bytesL s).length : Int) - 4 * (x : Int) - 4) + (x_1 : Int)).toNat < 48 ∧ bt s (max 0 ((↑(bytesL s).length : Int) - 4 * (x : Int) - 4) + (x_1 : Int)).toNat < 48 ∧ ((false, nilT Int), false) = (iZ (valS (bytesL s)), true)) ∧ (¬bt s (max 0 ((↑(bytesL s).length : Int) - 4 * (x : Int) - 4) + (x_1 : Int)).toNat < 48 → ¬bt s (max 0 ((↑(bytesL s).length : Int) - 4 * (x : Int) - 4) + (x_1 : Int)).toNat < 48 ∧ ¬bt s (max 0 ((↑(bytesL s).length : Int) - 4 * (x : Int) - 4) + (x_1 : Int)).toNat < 48 ∧ (0 ≤ max 0 ((↑(bytesL s).length : Int) - 4 * (x : Int) - 4) + (x_1 : Int) ∧ max 0 ((↑(bytesL s).length : Int) - 4 * (x : Int) - 4) + (x_1 : Int) < (s.size : Int)) ∧ (57 < bt s (max 0 ((↑(bytesL s).length : Int) - 4 * (x : Int) - 4) + (x_1 : Int)).toNat → 57 < bt s (max 0 ((↑(bytesL s).length : Int) - 4 * (x : Int) - 4) + (x_1 : Int)).toNat ∧ 57 < bt s (max 0 ((↑(bytesL s).length : Int) - 4 * (x : Int) - 4) + (x_1 : Int)).toNat ∧ ((false, nilT Int), false) = (iZ (valS (bytesL s)), true)) ∧ (¬57 < bt s (max 0 ((↑(bytesL s).length : Int) - 4 * (x : Int) - 4) + (x_1 : Int)).toNat → ¬57 < bt s (max 0 ((↑(bytesL s).length : Int) - 4 * (x : Int) - 4) + (x_1 : Int)).toNat ∧ ¬57 < bt s (max 0 ((↑(bytesL s).length : Int) - 4 * (x : Int) - 4) + (x_1 : Int)).toNat ∧ Fits .i64 (10 * valS (drop (max 0 ((↑(bytesL s).length : Int) - 4 * (x : Int) - 4)).toNat (take ((max 0 ((↑(bytesL s).length : Int) - 4 * (x : Int) - 4)).toNat + x_1) (bytesL s)))) ∧ (0 ≤ max 0 ((↑(bytesL s).length : Int) - 4 * (x : Int) - 4) + (x_1 : Int) ∧ max 0 ((↑(bytesL s).length : Int) - 4 * (x : Int) - 4) + (x_1 : Int) < (s.size : Int)) ∧ Fits .i64 (u8.wrap (bt s (max 0 ((↑(bytesL s).length : Int) - 4 * (x : Int) - 4) + (x_1 : Int)).toNat - 48)) ∧ Fits .i64 (10 * valS (drop (max 0 ((↑(bytesL s).length : Int) - 4 * (x : Int) - 4)).toNat (take ((max 0 ((↑(bytesL s).length : Int) - 4 * (x : Int) - 4)).toNat + x_1) (bytesL s))) + u8.wrap (bt s (max 0 ((↑(bytesL s).length : Int) - 4 * (x : Int) - 4) + (x_1 : Int)).toNat - 48)) ∧ Fits .i64 (max 0 ((↑(bytesL s).length : Int) - 4 * (x : Int) - 4) + (x_1 : Int) + 1) ∧ ∃ (x' : Nat), max 0 ((↑(bytesL s).length : Int) - 4 * (x : Int) - 4) + (x' : Int) ≤ (↑(bytesL s).length : Int) - 4 * (x : Int) ∧ ((↑(bytesL s).length : Int) - 4 * (x : Int) - max 0 ((↑(bytesL s).length : Int) - 4 * (x : Int) - 4)).toNat - x' < ((↑(bytesL s).length : Int) - 4 * (x : Int) - max 0 ((↑(bytesL s).length : Int) - 4 * (x : Int) - 4)).toNat - x_1 ∧ ((True ∧ Value.slice none (0 : Nat) (0 : Nat) = Value.slice none (0 : Nat) (0 : Nat) ∧ True) ∧ (True ∧ True ∧ True) ∧ digs 10000 (valS (bytesL s)) x = digs 10000 (valS (bytesL s)) x ∧ True) ∧ 10 * valS (drop (max 0 ((↑(bytesL s).length : Int) - 4 * (x : Int) - 4)).toNat (take ((max 0 ((↑(bytesL s).length : Int) - 4 * (x : Int) - 4)).toNat + x_1) (bytesL s))) + u8.wrap (bt s (max 0 ((↑(bytesL s).length : Int) - 4 * (x : Int) - 4) + (x_1 : Int)).toNat - 48) = valS (drop (max 0 ((↑(bytesL s).length : Int) - 4 * (x : Int) - 4)).toNat (take ((max 0 ((↑(bytesL s).length : Int) - 4 * (x : Int) - 4)).toNat + x') (bytesL s))) ∧ max 0 ((↑(bytesL s).length : Int) - 4 * (x : Int) - 4) + (x_1 : Int) + 1 = max 0 ((↑(bytesL s).length : Int) - 4 * (x : Int) - 4) + (x' : Int) ∧ (↑(bytesL s).length : Int) - 4 * (x : Int) = (↑(bytesL s).length : Int) - 4 * (x : Int) ∧ True ∧ True ∧ s = s ∧ True))) ∧ (¬max 0 ((↑(bytesL s).length : Int) - 4 * (x : Int) - 4) + (x_1 : Int) < (↑(bytesL s).length : Int) - 4 * (x : Int) → ¬max 0 ((↑(bytesL s).length : Int) - 4 * (x : Int) - 4) + (x_1 : Int) < (↑(bytesL s).length : Int) - 4 * (x : Int) ∧ Small ((digs 10000 (valS (bytesL s)) x).length + ((0 : Nat) + 1)) ∧ Fits .i64 ((↑(bytesL s).length : Int) - 4 * (x : Int) - 4) ∧ ∃ (x' : Nat), (4 : Nat) * x' ≤ (bytesL s).length + 3 ∧ (bytesL s).length + 4 - 4 * x' < (bytesL s).length + 4 - 4 * x ∧ ((True ∧ Value.slice none (0 : Nat) (0 : Nat) = Value.slice none (0 : Nat) (0 : Nat) ∧ True) ∧ (True ∧ True ∧ True) ∧ digs 10000 (valS (bytesL s)) x ++ [valS (drop (max 0 ((↑(bytesL s).length : Int) - 4 * (x : Int) - 4)).toNat (take ((max 0 ((↑(bytesL s).length : Int) - 4 * (x : Int) - 4)).toNat + x_1) (bytesL s)))] = digs 10000 (valS (bytesL s)) x' ∧ True) ∧ (↑(bytesL s).length : Int) - 4 * (x : Int) - 4 = (↑(bytesL s).length : Int) - 4 * (x' : Int) ∧ True ∧ True ∧ s = s ∧ True))
theorem h79_eq (s : ByteArray) : h79 s = (((s.size : Int) < 1 → (s.size : Int) < 1 ∧ (s.size : Int) < 1 ∧ ((false, nilT Int), false) = (iZ (valS (bytesL s)), true)) ∧ (¬(s.size : Int) < 1 → ¬(s.size : Int) < 1 ∧ ¬(s.size : Int) < 1 ∧ (4000 < (s.size : Int) → 4000 < (s.size : Int) ∧ 4000 < (s.size : Int) ∧ 4000 < (s.size : Int) ∧ ((false, nilT Int), false) = (iZ (valS (bytesL s)), true)) ∧ (¬4000 < (s.size : Int) → ¬4000 < (s.size : Int) ∧ ¬4000 < (s.size : Int) ∧ ¬4000 < (s.size : Int) ∧ ((0 : Int) ≤ 0 ∧ 0 < (s.size : Int)) ∧ (bt s (Int.toNat 0) = 48 → bt s (Int.toNat 0) = 48 ∧ bt s (Int.toNat 0) = 48 ∧ (1 < (s.size : Int) → 1 < (s.size : Int) ∧ 1 < (s.size : Int) ∧ 1 < (s.size : Int) ∧ ((false, nilT Int), false) = (iZ (valS (bytesL s)), true)) ∧ (¬1 < (s.size : Int) → ¬1 < (s.size : Int) ∧ ¬1 < (s.size : Int) ∧ ¬1 < (s.size : Int) ∧ (∃ (x0 : Nat), (4 : Nat) * x0 ≤ (bytesL s).length + 3 ∧ ((True ∧ Value.slice none (0 : Nat) (0 : Nat) = Value.slice none (0 : Nat) (0 : Nat) ∧ True) ∧ (True ∧ True ∧ True) ∧ nilT Int = digs 10000 (valS (bytesL s)) x0 ∧ True) ∧ (s.size : Int) = (↑(bytesL s).length : Int) - 4 * (x0 : Int) ∧ True ∧ True ∧ s = s ∧ True) ∧ ∀ (x : Nat), (4 : Nat) * x ≤ (bytesL s).length + 3 → (Qh79_1 s x) ∧ (¬0 < (↑(bytesL s).length : Int) - 4 * (x : Int) → ¬0 < (↑(bytesL s).length : Int) - 4 * (x : Int) ∧ (digs 10000 (valS (bytesL s)) x).length ≤ 1000000 ∧ ((false && decide (0 < (↑(trimF (digs 10000 (valS (bytesL s)) x)).length : Int)), trimF (digs 10000 (valS (bytesL s)) x)), true) = (iZ (valS (bytesL s)), true)))) ∧ (¬bt s (Int.toNat 0) = 48 → ¬bt s (Int.toNat 0) = 48 ∧ ¬bt s (Int.toNat 0) = 48 ∧ (∃ (x0 : Nat), (4 : Nat) * x0 ≤ (bytesL s).length + 3 ∧ ((True ∧ Value.slice none (0 : Nat) (0 : Nat) = Value.slice none (0 : Nat) (0 : Nat) ∧ True) ∧ (True ∧ True ∧ True) ∧ nilT Int = digs 10000 (valS (bytesL s)) x0 ∧ True) ∧ (s.size : Int) = (↑(bytesL s).length : Int) - 4 * (x0 : Int) ∧ True ∧ True ∧ s = s ∧ True) ∧ ∀ (x : Nat), (4 : Nat) * x ≤ (bytesL s).length + 3 → (Qh79_1 s x) ∧ (¬0 < (↑(bytesL s).length : Int) - 4 * (x : Int) → ¬0 < (↑(bytesL s).length : Int) - 4 * (x : Int) ∧ (digs 10000 (valS (bytesL s)) x).length ≤ 1000000 ∧ ((false && decide (0 < (↑(trimF (digs 10000 (valS (bytesL s)) x)).length : Int)), trimF (digs 10000 (valS (bytesL s)) x)), true) = (iZ (valS (bytesL s)), true)))))) := by kernel_rfl
end Go.SX.We.Nm

/- Chapter 08: the reference reads digits, proved. -/
namespace Go.SX.We.Nm
open Go Go.Proofs
theorem w8y {x : Int} (h0 : 0 ≤ x) (h1 : x < 256) : IntKind.u8.wrap x = x := (tb_tab h0 h1).1
theorem digl_getD {l : List Int} (h : DigL l) {i : Nat} (hi : i < l.length) : 48 ≤ l.getD i 0 ∧ l.getD i 0 ≤ 57 := by
  rw [List.getD_eq_getElem?_getD, List.getElem?_eq_getElem hi]
  exact h _ (List.getElem_mem _)
theorem vc79 {s : ByteArray} (h : DigN (bytesL s)) : h79 s := by
  refine (h79_eq s).mpr ?_
  obtain ⟨hd, hl, h48⟩ := h
  have hz := bytes_len s
  have hb := bt_bytes s
  rw [← hz] at hb
  simp only [pp1, Qh79_1, eq_self, and_true, true_and, and_self, Int.toNat_natCast, peta, ← hz]
  generalize bytesL s = l at *
  have t0 : Int.toNat 0 = 0 := rfl
  rw [t0]
  refine ⟨fun g => absurd g (by omega), fun _ => ⟨fun g => absurd g (by omega), fun _ => ⟨by omega, ?_⟩⟩⟩
  suffices key : _ by
    refine ⟨fun e => ⟨fun g => ?_, fun _ => key⟩, fun _ => key⟩
    rw [hb 0 (by omega)] at e
    omega
  have hr := valS_range hd
  refine ⟨⟨0, by omega, rfl, by omega⟩, fun k hk => ⟨fun hk1 => ?_, fun hk1 => ?_⟩⟩
  · obtain ⟨A, hA, hA2⟩ : ∃ A : Nat, max 0 ((l.length : Int) - 4 * k - 4) = A ∧ A = l.length - 4 * k - 4 := ⟨_, by omega, rfl⟩
    rw [hA]
    simp only [Int.toNat_natCast]
    refine ⟨fj (by omega) (by omega), ⟨0, by omega, ?_, by omega⟩, fun i hi => ⟨fun hi1 => ?_, fun hi1 => ?_⟩⟩
    · rw [Nat.add_zero, List.drop_eq_nil_of_le (by rw [List.length_take]; omega)]; rfl
    · have ei : ((A : Int) + i).toNat = A + i := by omega
      have hil : A + i < l.length := by omega
      rw [ei, hb _ hil]
      have hx := digl_getD hd hil
      have hv := valS_range (digl_drop (digl_take hd (A + i)) A)
      have hp : (10 : Int) ^ (List.drop A (List.take (A + i) l)).length ≤ 10 ^ 3 := pow_mono' (by decide) (by rw [List.length_drop, List.length_take]; omega)
      have ep : (10 : Int) ^ 3 = 1000 := by decide
      have hs := valS_snoc (List.drop A (List.take (A + i) l)) (l.getD (A + i) 0)
      rw [← take_drop_snoc (by omega) hil] at hs
      rw [ep] at hp
      rw [w8y (x := l.getD (A + i) 0 - 48) (by omega) (by omega)]
      generalize l.getD (A + i) 0 = x at *
      generalize valS (List.drop A (List.take (A + i) l)) = v at *
      refine ⟨by omega, fun g => absurd g (by omega), fun _ => ⟨by omega, fun g => absurd g (by omega), fun _ => ⟨fj (by omega) (by omega), by omega, fj (by omega) (by omega), fj (by omega) (by omega), fj (by omega) (by omega), i + 1, by omega, by omega, ?_, by omega⟩⟩⟩
      rw [← Nat.add_assoc, hs]
    · have e : A + i = l.length - 4 * k := by omega
      rw [e, hA2, valS_four hd (by omega), ← digs_snoc dw0]
      rw [digs_len]
      exact ⟨sm (by omega), fj (by omega) (by omega), k + 1, by omega, by omega, rfl, by omega⟩
  · have hp : valS l < 10000 ^ k := by
      rw [← pow4]
      exact pow_le_pow' (by decide) hr.2 (by omega)
    rw [digs_len, ← lim_digs dw2 hr.1 hp, iZ_pos hr.1]
    exact ⟨by omega, rfl⟩
theorem ok79 : r79.OK Tryz.prog := r79.ok (fn := Tryz.f79) (fun s => cx [r78.ci] [(0, fun _ => A79a (bytesL s)), (1, with79 (bytesL s))]) (fun _ => cx_ok (cs := [r78.ci]) ⟨PC.OK.ci ok78, trivial⟩ _) (by kernel_rfl) (by kernel_rfl) (by kernel_rfl) fun _ hp => vc79 hp
end Go.SX.We.Nm

/- Chapter 08: the reference reads numbers, what is asked. -/
namespace Go.SX.We.Nm
open Go Go.Proofs
def parF (l : List Int) : Int × Int := (valS (l.take (slashF l)), if slashF l < l.length then valS (l.drop (slashF l + 1)) else 1)
structure ParP (l : List Int) : Prop where
  len : l.length ≤ 1602
  sign : l.getD 0 0 ≠ 45
  num : DigN (l.take (slashF l))
  most : slashF l ≤ 800
  den : slashF l < l.length → DigN (l.drop (slashF l + 1)) ∧ l.length ≤ slashF l + 801 ∧ 2 ≤ valS (l.drop (slashF l + 1)) ∧ gcdI (valS (l.take (slashF l))) (valS (l.drop (slashF l + 1))) = 1
abbrev aSs : ATy := (false, .slice .str)
noncomputable section
@[reducible] def A41 (l : List Int) : Ann where
  τ := Nat
  pre := []
  preC := []
  keep := [0, 2, 4, 5]
  slots k := [(6, .c (.int .i64 (slashK l k))), (7, .c (.int .i64 ((l.length : Int) - 1 - k)))]
  ents _ := []
  ok k := k ≤ l.length
  m k := l.length - k
@[reducible] def A41n : Ann where
  τ := Nat
  pre := [(5, 22, .int .i64)]
  preC := []
  keep := []
  slots _ := []
  ents _ := []
  ok _ := True
  m _ := 0
def with41 (l : List Int) (st : St) : Ann :=
  match findT 5 st.t with
  | .c (.kb true) => A41n
  | _ => A41 l
@[reducible] def r41 : PC := ⟨41, [aS], [aQ, aB], fun s => ParP (bytesL s), fun s => (ratZ (parF (bytesL s)), true)⟩
def h41 (s : ByteArray) : Prop := r41.VC (cx [r79.ci, r42.ci, r39.ci, r70.ci, r80.ci] [(0, with41 (bytesL s))]) Tryz.f41 s
@[reducible] def r38 : PC := ⟨38, [aS], [aB], fun s => ParP (bytesL s), fun _ => true⟩
def h38 (s : ByteArray) : Prop := r38.VC (cx [r41.ci] []) Tryz.f38 s
@[reducible] def A14 (l : List ByteArray) : Ann where
  τ := Nat
  pre := []
  preC := []
  keep := [0, 2]
  slots k := [(3, .c (.int .i64 k))]
  ents _ := []
  ok k := k ≤ l.length
  m k := l.length - k
@[reducible] def r14 : PC := ⟨14, [aSs], [aI], fun l => l.length ≤ 1000 ∧ ∀ s ∈ l, ParP (bytesL s), fun _ => 0⟩
def h14 (l : List ByteArray) : Prop := r14.VC (cx [r38.ci] [(0, fun _ => A14 l)]) Tryz.f14 l
@[reducible] def r16 : PC := ⟨16, [aS], [aQ], fun s => ParP (bytesL s), fun s => ratZ (parF (bytesL s))⟩
def h16 (s : ByteArray) : Prop := r16.VC (cx [r41.ci] []) Tryz.f16 s
@[reducible] def r15 : PC := ⟨15, [aQ, aQ], [aI], fun p => FrZ 200 p.1 ∧ FrZ 200 p.2, fun p => sgnF (vZ p.1.1 * vZ p.2.2 - vZ p.2.1 * vZ p.1.2)⟩
def h15 (p1 q1 p2 q2 : DN) : Prop := r15.VC (cx [r39.ci, r40.ci] []) Tryz.f15 ((p1, q1), (p2, q2))
end
end Go.SX.We.Nm

/- Printed by VC.lean: what the executor asks. -/
namespace Go.SX.We.Nm
open Go Go.Proofs IntKind List
def Qh41_1 (s : ByteArray) (x : Nat) : Prop := (¬0 ≤ (↑(bytesL s).length : Int) - 1 - (x : Int) → ¬0 ≤ (↑(bytesL s).length : Int) - 1 - (x : Int) ∧ ((0 : Int) ≤ 0 ∧ (↑(0 : Nat) : Int) ≤ (↑(slashK (bytesL s) x) : Int) ∧ (↑(slashK (bytesL s) x) : Int) ≤ (s.size : Int)) ∧ true = true ∧ DigN (bytesL (s.extract (↑(0 : Nat) : Int).toNat (↑(slashK (bytesL s) x) : Int).toNat)) ∧ ((0 : Int) ≤ 1 ∧ (1 : Int) ≤ 1000000) ∧ ((↑(slashK (bytesL s) x) : Int) < (s.size : Int) → (↑(slashK (bytesL s) x) : Int) < (s.size : Int) ∧ Fits .i64 ((↑(slashK (bytesL s) x) : Int) + 1) ∧ (0 ≤ (↑(slashK (bytesL s) x) : Int) + 1 ∧ (↑(slashK (bytesL s) x) : Int) + 1 ≤ (s.size : Int) ∧ (s.size : Int) ≤ (s.size : Int)) ∧ true = true ∧ DigN (bytesL (s.extract ((↑(slashK (bytesL s) x) : Int) + 1).toNat (s.size : Int).toNat)) ∧ (false = true → false = true ∧ false = true ∧ (((false, nilT Int), false, nilT Int), false) = (ratZ (parF (bytesL s)), true)) ∧ (false = false → false = false ∧ false = false ∧ ((0 : Int) ≤ 2 ∧ (2 : Int) ≤ 1000000) ∧ ((∃ (z : Int), ((iZ (valS (bytesL (s.extract ((↑(slashK (bytesL s) x) : Int) + 1).toNat (s.size : Int).toNat)))).fst, (iZ (valS (bytesL (s.extract ((↑(slashK (bytesL s) x) : Int) + 1).toNat (s.size : Int).toNat)))).snd) = intB 10000 z ∧ absI z < 10000 ^ 400) ∧ ∃ (z : Int), ((iZ 2).fst, (iZ 2).snd) = intB 10000 z ∧ absI z < 10000 ^ 400) ∧ (sgnF (vZ ((iZ (valS (bytesL (s.extract ((↑(slashK (bytesL s) x) : Int) + 1).toNat (s.size : Int).toNat)))).fst, (iZ (valS (bytesL (s.extract ((↑(slashK (bytesL s) x) : Int) + 1).toNat (s.size : Int).toNat)))).snd) - vZ ((iZ 2).fst, (iZ 2).snd)) < 0 → sgnF (vZ ((iZ (valS (bytesL (s.extract ((↑(slashK (bytesL s) x) : Int) + 1).toNat (s.size : Int).toNat)))).fst, (iZ (valS (bytesL (s.extract ((↑(slashK (bytesL s) x) : Int) + 1).toNat (s.size : Int).toNat)))).snd) - vZ ((iZ 2).fst, (iZ 2).snd)) < 0 ∧ sgnF (vZ ((iZ (valS (bytesL (s.extract ((↑(slashK (bytesL s) x) : Int) + 1).toNat (s.size : Int).toNat)))).fst, (iZ (valS (bytesL (s.extract ((↑(slashK (bytesL s) x) : Int) + 1).toNat (s.size : Int).toNat)))).snd) - vZ ((iZ 2).fst, (iZ 2).snd)) < 0 ∧ sgnF (vZ ((iZ (valS (bytesL (s.extract ((↑(slashK (bytesL s) x) : Int) + 1).toNat (s.size : Int).toNat)))).fst, (iZ (valS (bytesL (s.extract ((↑(slashK (bytesL s) x) : Int) + 1).toNat (s.size : Int).toNat)))).snd) - vZ ((iZ 2).fst, (iZ 2).snd)) < 0 ∧ (((false, nilT Int), false, nilT Int), false) = (ratZ (parF (bytesL s)), true)) ∧ (¬sgnF (vZ ((iZ (valS (bytesL (s.extract ((↑(slashK (bytesL s) x) : Int) + 1).toNat (s.size : Int).toNat)))).fst, (iZ (valS (bytesL (s.extract ((↑(slashK (bytesL s) x) : Int) + 1).toNat (s.size : Int).toNat)))).snd) - vZ ((iZ 2).fst, (iZ 2).snd)) < 0 → ¬sgnF (vZ ((iZ (valS (bytesL (s.extract ((↑(slashK (bytesL s) x) : Int) + 1).toNat (s.size : Int).toNat)))).fst, (iZ (valS (bytesL (s.extract ((↑(slashK (bytesL s) x) : Int) + 1).toNat (s.size : Int).toNat)))).snd) - vZ ((iZ 2).fst, (iZ 2).snd)) < 0 ∧ ¬sgnF (vZ ((iZ (valS (bytesL (s.extract ((↑(slashK (bytesL s) x) : Int) + 1).toNat (s.size : Int).toNat)))).fst, (iZ (valS (bytesL (s.extract ((↑(slashK (bytesL s) x) : Int) + 1).toNat (s.size : Int).toNat)))).snd) - vZ ((iZ 2).fst, (iZ 2).snd)) < 0 ∧ ¬sgnF (vZ ((iZ (valS (bytesL (s.extract ((↑(slashK (bytesL s) x) : Int) + 1).toNat (s.size : Int).toNat)))).fst, (iZ (valS (bytesL (s.extract ((↑(slashK (bytesL s) x) : Int) + 1).toNat (s.size : Int).toNat)))).snd) - vZ ((iZ 2).fst, (iZ 2).snd)) < 0 ∧ (((∃ (z : Int), ((iZ (valS (bytesL (s.extract (↑(0 : Nat) : Int).toNat (↑(slashK (bytesL s) x) : Int).toNat)))).fst, (iZ (valS (bytesL (s.extract (↑(0 : Nat) : Int).toNat (↑(slashK (bytesL s) x) : Int).toNat)))).snd) = intB 10000 z ∧ absI z < 10000 ^ 480) ∧ ∃ (z : Int), ((iZ (valS (bytesL (s.extract ((↑(slashK (bytesL s) x) : Int) + 1).toNat (s.size : Int).toNat)))).fst, (iZ (valS (bytesL (s.extract ((↑(slashK (bytesL s) x) : Int) + 1).toNat (s.size : Int).toNat)))).snd) = intB 10000 z ∧ absI z < 10000 ^ 480) ∧ 0 ≤ vZ ((iZ (valS (bytesL (s.extract (↑(0 : Nat) : Int).toNat (↑(slashK (bytesL s) x) : Int).toNat)))).fst, (iZ (valS (bytesL (s.extract (↑(0 : Nat) : Int).toNat (↑(slashK (bytesL s) x) : Int).toNat)))).snd) ∧ 0 ≤ vZ ((iZ (valS (bytesL (s.extract ((↑(slashK (bytesL s) x) : Int) + 1).toNat (s.size : Int).toNat)))).fst, (iZ (valS (bytesL (s.extract ((↑(slashK (bytesL s) x) : Int) + 1).toNat (s.size : Int).toNat)))).snd)) ∧ ((0 : Int) ≤ 1 ∧ (1 : Int) ≤ 1000000) ∧ ((∃ (z : Int), ((iZ (gcdI (vZ ((iZ (valS (bytesL (s.extract (↑(0 : Nat) : Int).toNat (↑(slashK (bytesL s) x) : Int).toNat)))).fst, (iZ (valS (bytesL (s.extract (↑(0 : Nat) : Int).toNat (↑(slashK (bytesL s) x) : Int).toNat)))).snd)) (vZ ((iZ (valS (bytesL (s.extract ((↑(slashK (bytesL s) x) : Int) + 1).toNat (s.size : Int).toNat)))).fst, (iZ (valS (bytesL (s.extract ((↑(slashK (bytesL s) x) : Int) + 1).toNat (s.size : Int).toNat)))).snd)))).fst, (iZ (gcdI (vZ ((iZ (valS (bytesL (s.extract (↑(0 : Nat) : Int).toNat (↑(slashK (bytesL s) x) : Int).toNat)))).fst, (iZ (valS (bytesL (s.extract (↑(0 : Nat) : Int).toNat (↑(slashK (bytesL s) x) : Int).toNat)))).snd)) (vZ ((iZ (valS (bytesL (s.extract ((↑(slashK (bytesL s) x) : Int) + 1).toNat (s.size : Int).toNat)))).fst, (iZ (valS (bytesL (s.extract ((↑(slashK (bytesL s) x) : Int) + 1).toNat (s.size : Int).toNat)))).snd)))).snd) = intB 10000 z ∧ absI z < 10000 ^ 400) ∧ ∃ (z : Int), ((iZ 1).fst, (iZ 1).snd) = intB 10000 z ∧ absI z < 10000 ^ 400) ∧ (¬sgnF (vZ ((iZ (gcdI (vZ ((iZ (valS (bytesL (s.extract (↑(0 : Nat) : Int).toNat (↑(slashK (bytesL s) x) : Int).toNat)))).fst, (iZ (valS (bytesL (s.extract (↑(0 : Nat) : Int).toNat (↑(slashK (bytesL s) x) : Int).toNat)))).snd)) (vZ ((iZ (valS (bytesL (s.extract ((↑(slashK (bytesL s) x) : Int) + 1).toNat (s.size : Int).toNat)))).fst, (iZ (valS (bytesL (s.extract ((↑(slashK (bytesL s) x) : Int) + 1).toNat (s.size : Int).toNat)))).snd)))).fst, (iZ (gcdI (vZ ((iZ (valS (bytesL (s.extract (↑(0 : Nat) : Int).toNat (↑(slashK (bytesL s) x) : Int).toNat)))).fst, (iZ (valS (bytesL (s.extract (↑(0 : Nat) : Int).toNat (↑(slashK (bytesL s) x) : Int).toNat)))).snd)) (vZ ((iZ (valS (bytesL (s.extract ((↑(slashK (bytesL s) x) : Int) + 1).toNat (s.size : Int).toNat)))).fst, (iZ (valS (bytesL (s.extract ((↑(slashK (bytesL s) x) : Int) + 1).toNat (s.size : Int).toNat)))).snd)))).snd) - vZ ((iZ 1).fst, (iZ 1).snd)) = 0 → ¬sgnF (vZ ((iZ (gcdI (vZ ((iZ (valS (bytesL (s.extract (↑(0 : Nat) : Int).toNat (↑(slashK (bytesL s) x) : Int).toNat)))).fst, (iZ (valS (bytesL (s.extract (↑(0 : Nat) : Int).toNat (↑(slashK (bytesL s) x) : Int).toNat)))).snd)) (vZ ((iZ (valS (bytesL (s.extract ((↑(slashK (bytesL s) x) : Int) + 1).toNat (s.size : Int).toNat)))).fst, (iZ (valS (bytesL (s.extract ((↑(slashK (bytesL s) x) : Int) + 1).toNat (s.size : Int).toNat)))).snd)))).fst, (iZ (gcdI (vZ ((iZ (valS (bytesL (s.extract (↑(0 : Nat) : Int).toNat (↑(slashK (bytesL s) x) : Int).toNat)))).fst, (iZ (valS (bytesL (s.extract (↑(0 : Nat) : Int).toNat (↑(slashK (bytesL s) x) : Int).toNat)))).snd)) (vZ ((iZ (valS (bytesL (s.extract ((↑(slashK (bytesL s) x) : Int) + 1).toNat (s.size : Int).toNat)))).fst, (iZ (valS (bytesL (s.extract ((↑(slashK (bytesL s) x) : Int) + 1).toNat (s.size : Int).toNat)))).snd)))).snd) - vZ ((iZ 1).fst, (iZ 1).snd)) = 0 ∧ ¬sgnF (vZ ((iZ (gcdI (vZ ((iZ (valS (bytesL (s.extract (↑(0 : Nat) : Int).toNat (↑(slashK (bytesL s) x) : Int).toNat)))).fst, (iZ (valS (bytesL (s.extract (↑(0 : Nat) : Int).toNat (↑(slashK (bytesL s) x) : Int).toNat)))).snd)) (vZ ((iZ (valS (bytesL (s.extract ((↑(slashK (bytesL s) x) : Int) + 1).toNat (s.size : Int).toNat)))).fst, (iZ (valS (bytesL (s.extract ((↑(slashK (bytesL s) x) : Int) + 1).toNat (s.size : Int).toNat)))).snd)))).fst, (iZ (gcdI (vZ ((iZ (valS (bytesL (s.extract (↑(0 : Nat) : Int).toNat (↑(slashK (bytesL s) x) : Int).toNat)))).fst, (iZ (valS (bytesL (s.extract (↑(0 : Nat) : Int).toNat (↑(slashK (bytesL s) x) : Int).toNat)))).snd)) (vZ ((iZ (valS (bytesL (s.extract ((↑(slashK (bytesL s) x) : Int) + 1).toNat (s.size : Int).toNat)))).fst, (iZ (valS (bytesL (s.extract ((↑(slashK (bytesL s) x) : Int) + 1).toNat (s.size : Int).toNat)))).snd)))).snd) - vZ ((iZ 1).fst, (iZ 1).snd)) = 0 ∧ (((false, nilT Int), false, nilT Int), false) = (ratZ (parF (bytesL s)), true)) ∧ (¬¬sgnF (vZ ((iZ (gcdI (vZ ((iZ (valS (bytesL (s.extract (↑(0 : Nat) : Int).toNat (↑(slashK (bytesL s) x) : Int).toNat)))).fst, (iZ (valS (bytesL (s.extract (↑(0 : Nat) : Int).toNat (↑(slashK (bytesL s) x) : Int).toNat)))).snd)) (vZ ((iZ (valS (bytesL (s.extract ((↑(slashK (bytesL s) x) : Int) + 1).toNat (s.size : Int).toNat)))).fst, (iZ (valS (bytesL (s.extract ((↑(slashK (bytesL s) x) : Int) + 1).toNat (s.size : Int).toNat)))).snd)))).fst, (iZ (gcdI (vZ ((iZ (valS (bytesL (s.extract (↑(0 : Nat) : Int).toNat (↑(slashK (bytesL s) x) : Int).toNat)))).fst, (iZ (valS (bytesL (s.extract (↑(0 : Nat) : Int).toNat (↑(slashK (bytesL s) x) : Int).toNat)))).snd)) (vZ ((iZ (valS (bytesL (s.extract ((↑(slashK (bytesL s) x) : Int) + 1).toNat (s.size : Int).toNat)))).fst, (iZ (valS (bytesL (s.extract ((↑(slashK (bytesL s) x) : Int) + 1).toNat (s.size : Int).toNat)))).snd)))).snd) - vZ ((iZ 1).fst, (iZ 1).snd)) = 0 → ¬¬sgnF (vZ ((iZ (gcdI (vZ ((iZ (valS (bytesL (s.extract (↑(0 : Nat) : Int).toNat (↑(slashK (bytesL s) x) : Int).toNat)))).fst, (iZ (valS (bytesL (s.extract (↑(0 : Nat) : Int).toNat (↑(slashK (bytesL s) x) : Int).toNat)))).snd)) (vZ ((iZ (valS (bytesL (s.extract ((↑(slashK (bytesL s) x) : Int) + 1).toNat (s.size : Int).toNat)))).fst, (iZ (valS (bytesL (s.extract ((↑(slashK (bytesL s) x) : Int) + 1).toNat (s.size : Int).toNat)))).snd)))).fst, (iZ (gcdI (vZ ((iZ (valS (bytesL (s.extract (↑(0 : Nat) : Int).toNat (↑(slashK (bytesL s) x) : Int).toNat)))).fst, (iZ (valS (bytesL (s.extract (↑(0 : Nat) : Int).toNat (↑(slashK (bytesL s) x) : Int).toNat)))).snd)) (vZ ((iZ (valS (bytesL (s.extract ((↑(slashK (bytesL s) x) : Int) + 1).toNat (s.size : Int).toNat)))).fst, (iZ (valS (bytesL (s.extract ((↑(slashK (bytesL s) x) : Int) + 1).toNat (s.size : Int).toNat)))).snd)))).snd) - vZ ((iZ 1).fst, (iZ 1).snd)) = 0 ∧ ¬¬sgnF (vZ ((iZ (gcdI (vZ ((iZ (valS (bytesL (s.extract (↑(0 : Nat) : Int).toNat (↑(slashK (bytesL s) x) : Int).toNat)))).fst, (iZ (valS (bytesL (s.extract (↑(0 : Nat) : Int).toNat (↑(slashK (bytesL s) x) : Int).toNat)))).snd)) (vZ ((iZ (valS (bytesL (s.extract ((↑(slashK (bytesL s) x) : Int) + 1).toNat (s.size : Int).toNat)))).fst, (iZ (valS (bytesL (s.extract ((↑(slashK (bytesL s) x) : Int) + 1).toNat (s.size : Int).toNat)))).snd)))).fst, (iZ (gcdI (vZ ((iZ (valS (bytesL (s.extract (↑(0 : Nat) : Int).toNat (↑(slashK (bytesL s) x) : Int).toNat)))).fst, (iZ (valS (bytesL (s.extract (↑(0 : Nat) : Int).toNat (↑(slashK (bytesL s) x) : Int).toNat)))).snd)) (vZ ((iZ (valS (bytesL (s.extract ((↑(slashK (bytesL s) x) : Int) + 1).toNat (s.size : Int).toNat)))).fst, (iZ (valS (bytesL (s.extract ((↑(slashK (bytesL s) x) : Int) + 1).toNat (s.size : Int).toNat)))).snd)))).snd) - vZ ((iZ 1).fst, (iZ 1).snd)) = 0 ∧ (false = true → false = true ∧ false = true ∧ (((false, nilT Int), false, nilT Int), false) = (ratZ (parF (bytesL s)), true)) ∧ (false = false → false = false ∧ false = false ∧ ((((iZ (valS (bytesL (s.extract (↑(0 : Nat) : Int).toNat (↑(slashK (bytesL s) x) : Int).toNat)))).fst, (iZ (valS (bytesL (s.extract (↑(0 : Nat) : Int).toNat (↑(slashK (bytesL s) x) : Int).toNat)))).snd), (iZ (valS (bytesL (s.extract ((↑(slashK (bytesL s) x) : Int) + 1).toNat (s.size : Int).toNat)))).fst, (iZ (valS (bytesL (s.extract ((↑(slashK (bytesL s) x) : Int) + 1).toNat (s.size : Int).toNat)))).snd), true) = (ratZ (parF (bytesL s)), true)))))) ∧ (¬(↑(slashK (bytesL s) x) : Int) < (s.size : Int) → ¬(↑(slashK (bytesL s) x) : Int) < (s.size : Int) ∧ (false = true → false = true ∧ false = true ∧ (((false, nilT Int), false, nilT Int), false) = (ratZ (parF (bytesL s)), true)) ∧ (false = false → false = false ∧ false = false ∧ ((((iZ (valS (bytesL (s.extract (↑(0 : Nat) : Int).toNat (↑(slashK (bytesL s) x) : Int).toNat)))).fst, (iZ (valS (bytesL (s.extract (↑(0 : Nat) : Int).toNat (↑(slashK (bytesL s) x) : Int).toNat)))).snd), (iZ 1).fst, (iZ 1).snd), true) = (ratZ (parF (bytesL s)), true))))
def Qh41_2 (s : ByteArray) (x : Nat) : Prop := (0 ≤ (↑(bytesL s).length : Int) - 1 - (x : Int) → 0 ≤ (↑(bytesL s).length : Int) - 1 - (x : Int) ∧ (0 ≤ (↑(bytesL s).length : Int) - 1 - (x : Int) ∧ (↑(bytesL s).length : Int) - 1 - (x : Int) < (s.size : Int)) ∧ (bt s ((↑(bytesL s).length : Int) - 1 - (x : Int)).toNat = 47 → bt s ((↑(bytesL s).length : Int) - 1 - (x : Int)).toNat = 47 ∧ Fits .i64 ((↑(bytesL s).length : Int) - 1 - (x : Int) - 1) ∧ ∃ (x' : Nat), x' ≤ (bytesL s).length ∧ (bytesL s).length - x' < (bytesL s).length - x ∧ ((True ∧ Value.slice none (0 : Nat) (0 : Nat) = Value.slice none (0 : Nat) (0 : Nat) ∧ True ∧ Value.slice none (0 : Nat) (0 : Nat) = Value.slice none (0 : Nat) (0 : Nat) ∧ True) ∧ True) ∧ (↑(bytesL s).length : Int) - 1 - (x : Int) = (↑(slashK (bytesL s) x') : Int) ∧ (↑(bytesL s).length : Int) - 1 - (x : Int) - 1 = (↑(bytesL s).length : Int) - 1 - (x' : Int) ∧ True ∧ s = s ∧ True ∧ s = s ∧ True) ∧ (¬bt s ((↑(bytesL s).length : Int) - 1 - (x : Int)).toNat = 47 → ¬bt s ((↑(bytesL s).length : Int) - 1 - (x : Int)).toNat = 47 ∧ Fits .i64 ((↑(bytesL s).length : Int) - 1 - (x : Int) - 1) ∧ ∃ (x' : Nat), x' ≤ (bytesL s).length ∧ (bytesL s).length - x' < (bytesL s).length - x ∧ ((True ∧ Value.slice none (0 : Nat) (0 : Nat) = Value.slice none (0 : Nat) (0 : Nat) ∧ True ∧ Value.slice none (0 : Nat) (0 : Nat) = Value.slice none (0 : Nat) (0 : Nat) ∧ True) ∧ True) ∧ (↑(slashK (bytesL s) x) : Int) = (↑(slashK (bytesL s) x') : Int) ∧ (↑(bytesL s).length : Int) - 1 - (x : Int) - 1 = (↑(bytesL s).length : Int) - 1 - (x' : Int) ∧ True ∧ s = s ∧ True ∧ s = s ∧ True))
theorem h41_eq (s : ByteArray) : h41 s = ((8002 < (s.size : Int) → 8002 < (s.size : Int) ∧ (((false, nilT Int), false, nilT Int), false) = (ratZ (parF (bytesL s)), true)) ∧ (¬8002 < (s.size : Int) → ¬8002 < (s.size : Int) ∧ (0 < (s.size : Int) → 0 < (s.size : Int) ∧ 0 < (s.size : Int) ∧ ((0 : Int) ≤ 0 ∧ 0 < (s.size : Int)) ∧ (bt s (Int.toNat 0) = 45 → bt s (Int.toNat 0) = 45 ∧ bt s (Int.toNat 0) = 45 ∧ ((0 : Int) ≤ 1 ∧ 1 ≤ (s.size : Int) ∧ (s.size : Int) ≤ (s.size : Int)) ∧ true = true ∧ Fits .i64 ((↑(s.extract (Int.toNat 1) (s.size : Int).toNat).size : Int) - 1) ∧ (∃ (x0 : Nat), True ∧ ((True ∧ Value.slice none (0 : Nat) (0 : Nat) = Value.slice none (0 : Nat) (0 : Nat) ∧ True ∧ Value.slice none (0 : Nat) (0 : Nat) = Value.slice none (0 : Nat) (0 : Nat) ∧ True) ∧ True) ∧ True) ∧ ∀ (x : Nat), True → False) ∧ (¬bt s (Int.toNat 0) = 45 → ¬bt s (Int.toNat 0) = 45 ∧ ¬bt s (Int.toNat 0) = 45 ∧ Fits .i64 ((s.size : Int) - 1) ∧ (∃ (x0 : Nat), x0 ≤ (bytesL s).length ∧ ((True ∧ Value.slice none (0 : Nat) (0 : Nat) = Value.slice none (0 : Nat) (0 : Nat) ∧ True ∧ Value.slice none (0 : Nat) (0 : Nat) = Value.slice none (0 : Nat) (0 : Nat) ∧ True) ∧ True) ∧ (s.size : Int) = (↑(slashK (bytesL s) x0) : Int) ∧ (s.size : Int) - 1 = (↑(bytesL s).length : Int) - 1 - (x0 : Int) ∧ True ∧ s = s ∧ True ∧ s = s ∧ True) ∧ ∀ (x : Nat), x ≤ (bytesL s).length → (Qh41_2 s x) ∧ (Qh41_1 s x))) ∧ (¬0 < (s.size : Int) → ¬0 < (s.size : Int) ∧ ¬0 < (s.size : Int) ∧ Fits .i64 ((s.size : Int) - 1) ∧ (∃ (x0 : Nat), x0 ≤ (bytesL s).length ∧ ((True ∧ Value.slice none (0 : Nat) (0 : Nat) = Value.slice none (0 : Nat) (0 : Nat) ∧ True ∧ Value.slice none (0 : Nat) (0 : Nat) = Value.slice none (0 : Nat) (0 : Nat) ∧ True) ∧ True) ∧ (s.size : Int) = (↑(slashK (bytesL s) x0) : Int) ∧ (s.size : Int) - 1 = (↑(bytesL s).length : Int) - 1 - (x0 : Int) ∧ True ∧ s = s ∧ True ∧ s = s ∧ True) ∧ ∀ (x : Nat), x ≤ (bytesL s).length → (Qh41_2 s x) ∧ (Qh41_1 s x)))) := by kernel_rfl
theorem h38_eq (s : ByteArray) : h38 s = (ParP (bytesL s) ∧ true = true) := by kernel_rfl
theorem h14_eq (l : List ByteArray) : h14 l = ((∃ (x0 : Nat), x0 ≤ l.length ∧ True ∧ 0 = (x0 : Int) ∧ (0 : Int) = 0 ∧ l = l ∧ True) ∧ ∀ (x : Nat), x ≤ l.length → ((x : Int) < (l.length : Int) → (x : Int) < (l.length : Int) ∧ (0 ≤ (x : Int) ∧ (x : Int) < (l.length : Int)) ∧ ParP (bytesL (l.getD (x : Int).toNat ByteArray.empty)) ∧ (false = true → false = true ∧ (2 : Int) = 0) ∧ (false = false → false = false ∧ Fits .i64 ((x : Int) + 1) ∧ ∃ (x' : Nat), x' ≤ l.length ∧ l.length - x' < l.length - x ∧ True ∧ (x : Int) + 1 = (x' : Int) ∧ (0 : Int) = 0 ∧ l = l ∧ True)) ∧ (¬(x : Int) < (l.length : Int) → ¬(x : Int) < (l.length : Int) ∧ (0 : Int) = 0)) := by kernel_rfl
theorem h16_eq (s : ByteArray) : h16 s = (ParP (bytesL s) ∧ (((ratZ (parF (bytesL s))).fst.fst, (ratZ (parF (bytesL s))).fst.snd), (ratZ (parF (bytesL s))).snd.fst, (ratZ (parF (bytesL s))).snd.snd) = ratZ (parF (bytesL s))) := by kernel_rfl
theorem h15_eq (p1 : DN) (q1 : DN) (p2 : DN) (q2 : DN) : h15 p1 q1 p2 q2 = (((∃ (z : Int), (p1.fst, p1.snd) = intB 10000 z ∧ absI z < 10000 ^ 500) ∧ ∃ (z : Int), (q2.fst, q2.snd) = intB 10000 z ∧ absI z < 10000 ^ 500) ∧ ((∃ (z : Int), (p2.fst, p2.snd) = intB 10000 z ∧ absI z < 10000 ^ 500) ∧ ∃ (z : Int), (q1.fst, q1.snd) = intB 10000 z ∧ absI z < 10000 ^ 500) ∧ ((∃ (z : Int), ((iZ (vZ (p1.fst, p1.snd) * vZ (q2.fst, q2.snd))).fst, (iZ (vZ (p1.fst, p1.snd) * vZ (q2.fst, q2.snd))).snd) = intB 10000 z ∧ absI z < 10000 ^ 400) ∧ ∃ (z : Int), ((iZ (vZ (p2.fst, p2.snd) * vZ (q1.fst, q1.snd))).fst, (iZ (vZ (p2.fst, p2.snd) * vZ (q1.fst, q1.snd))).snd) = intB 10000 z ∧ absI z < 10000 ^ 400) ∧ sgnF (vZ ((iZ (vZ (p1.fst, p1.snd) * vZ (q2.fst, q2.snd))).fst, (iZ (vZ (p1.fst, p1.snd) * vZ (q2.fst, q2.snd))).snd) - vZ ((iZ (vZ (p2.fst, p2.snd) * vZ (q1.fst, q1.snd))).fst, (iZ (vZ (p2.fst, p2.snd) * vZ (q1.fst, q1.snd))).snd)) = sgnF (vZ p1 * vZ q2 - vZ p2 * vZ q1)) := by kernel_rfl
end Go.SX.We.Nm

/- Chapter 08: the reference reads numbers, proved. -/
namespace Go.SX.We.Nm
open Go Go.Proofs
theorem pow_800 {l : List Int} (h : DigL l) (h1 : l.length ≤ 800) (k : Nat) (hk : 200 ≤ k) : valS l < 10000 ^ k := by
  have hr := (valS_range h).2
  have h2 := pow_le_pow' (by decide : (2 : Int) ≤ 10) hr h1
  have e := pow4 200
  have h3 : (10 : Int) ^ 800 = 10000 ^ 200 := e
  rw [h3] at h2
  exact pow_le_pow' dw2 h2 hk
theorem vc41 {s : ByteArray} (h : ParP (bytesL s)) : h41 s := by
  refine (h41_eq s).mpr ?_
  obtain ⟨h1, h45, ⟨hd, hl, h48⟩, h8, hq⟩ := h
  have hz := bytes_len s
  have hb := bt_bytes s
  have hc := bytes_cut s
  rw [← hz] at hb
  simp only [pp1, Qh41_1, Qh41_2, eq_self, and_true, true_and, and_self, peta, ← hz, hc, Int.toNat_natCast, List.drop_zero, iZ_vZ]
  generalize bytesL s = l at *
  have t0 : Int.toNat 0 = 0 := rfl
  have hle := slash_le l l.length
  rw [slash_all] at hle
  rw [List.length_take] at hl
  have hn0 := (valS_range hd).1
  have hn1 := pow_800 hd (by rw [List.length_take]; omega)
  rw [t0, hb 0 (by omega)]
  refine ⟨fun g => absurd g (by omega), fun _ => ⟨fun _ => ⟨by omega, fun g => absurd g h45, fun _ => ⟨fj (by omega) (by omega), ⟨0, by omega, by rw [slash_zero], by omega⟩, fun k hk => ⟨fun g => ?_, fun g => ?_⟩⟩⟩, fun g => absurd g (by omega)⟩⟩
  · have hkl : k < l.length := by omega
    obtain ⟨i, hi⟩ : ∃ i, l.length - (k + 1) = i := ⟨_, rfl⟩
    have ei : ((l.length : Int) - 1 - k).toNat = i := by omega
    have hs := slash_step hi hkl
    rw [ei, hb i (by omega)]
    refine ⟨by omega, fun e => ⟨fj (by omega) (by omega), k + 1, by omega, by omega, ?_, by omega⟩, fun e => ⟨fj (by omega) (by omega), k + 1, by omega, by omega, ?_, by omega⟩⟩
    · rw [hs, if_pos e]; omega
    · rw [hs, if_neg e]
  · have hkl : k = l.length := by omega
    subst hkl
    rw [slash_all]
    refine ⟨by omega, ⟨hd, by rw [List.length_take]; omega, h48⟩, by omega, fun q => ?_, fun q => ⟨fun f => (by cases f), fun _ => ?_⟩⟩
    · have hq := hq (by omega)
      obtain ⟨⟨hd2, hl2, h482⟩, hm2, hv2, hg2⟩ := hq
      have e1 : ((slashF l : Int) + 1).toNat = slashF l + 1 := by omega
      have d1 := pow_800 hd2 (by rw [List.length_drop]; omega)
      rw [e1, List.take_length]
      have hs2 : ¬ sgnF (valS (List.drop (slashF l + 1) l) - 2) < 0 := by
        unfold sgnF; split <;> (try split) <;> omega
      have o2 := bigz 400 (by decide) 2 (by decide)
      have o1 := bigz 400 (by decide) 1 (by decide)
      have hs1 : sgnF (1 - 1) = 0 := by decide
      rw [hg2, hs1]
      refine ⟨fj (by omega) (by omega), by omega, ⟨hd2, hl2, h482⟩, fun f => (by cases f), fun _ => ⟨by omega, ⟨okz_pos (by omega) (d1 _ (by decide)), okz_pos (by decide) o2⟩, fun f => absurd f hs2, fun _ => ⟨⟨⟨okz_pos hn0 (hn1 _ (by decide)), okz_pos (by omega) (d1 _ (by decide))⟩, hn0, by omega⟩, by omega, ⟨okz_pos (by decide) o1, okz_pos (by decide) o1⟩, fun f => absurd rfl f, fun _ => ⟨fun f => (by cases f), fun _ => ?_⟩⟩⟩⟩
      unfold parF
      rw [if_pos (by omega)]; rfl
    · unfold parF
      rw [if_neg (by omega)]; rfl
theorem ok41 : r41.OK Tryz.prog := r41.ok (fn := Tryz.f41) (fun s => cx [r79.ci, r42.ci, r39.ci, r70.ci, r80.ci] [(0, with41 (bytesL s))]) (fun _ => cx_ok (cs := [r79.ci, r42.ci, r39.ci, r70.ci, r80.ci]) ⟨PC.OK.ci ok79, PC.OK.ci ok42, PC.OK.ci ok39, PC.OK.ci ok70, PC.OK.ci ok80, trivial⟩ _) (by kernel_rfl) (by kernel_rfl) (by kernel_rfl) fun _ hp => vc41 hp
theorem ok38 : r38.OK Tryz.prog := r38.ok (fn := Tryz.f38) (fun _ => cx [r41.ci] []) (fun _ => cx_ok (cs := [r41.ci]) ⟨PC.OK.ci ok41, trivial⟩ _) (by kernel_rfl) (by kernel_rfl) (by kernel_rfl) fun s hp => by
  refine (h38_eq s).mpr ?_
  simp only [pp1, eq_self, and_true, true_and, and_self, peta]
  exact hp
theorem ok16n : r16.OK Tryz.prog := r16.ok (fn := Tryz.f16) (fun _ => cx [r41.ci] []) (fun _ => cx_ok (cs := [r41.ci]) ⟨PC.OK.ci ok41, trivial⟩ _) (by kernel_rfl) (by kernel_rfl) (by kernel_rfl) fun s hp => by
  refine (h16_eq s).mpr ?_
  simp only [pp1, eq_self, and_true, true_and, and_self, peta]
  exact hp
theorem ok14 : r14.OK Tryz.prog := r14.ok (fn := Tryz.f14) (fun l => cx [r38.ci] [(0, fun _ => A14 l)]) (fun _ => cx_ok (cs := [r38.ci]) ⟨PC.OK.ci ok38, trivial⟩ _) (by kernel_rfl) (by kernel_rfl) (by kernel_rfl) fun l hp => by
  refine (h14_eq l).mpr ?_
  simp only [pp1, eq_self, and_true, true_and, and_self, peta, Int.toNat_natCast]
  have hl : l.length ≤ 1000 := hp.1
  refine ⟨⟨0, by omega, rfl⟩, fun k hk => ⟨fun g => ⟨by omega, ?_, fun f => (by cases f), fun _ => ⟨fj (by omega) (by omega), k + 1, by omega, by omega, by omega⟩⟩, fun g => g⟩⟩
  rw [List.getD_eq_getElem?_getD, List.getElem?_eq_getElem (by omega)]
  exact hp.2 _ (List.getElem_mem _)
theorem ok15n : r15.OK Tryz.prog := r15.ok (fn := Tryz.f15) (fun _ => cx [r39.ci, r40.ci] []) (fun _ => cx_ok (cs := [r39.ci, r40.ci]) ⟨PC.OK.ci ok39, PC.OK.ci ok40z, trivial⟩ _) (by kernel_rfl) (by kernel_rfl) (by kernel_rfl) fun p hp => by
  obtain ⟨⟨p1, q1⟩, p2, q2⟩ := p
  refine (h15_eq p1 q1 p2 q2).mpr ?_
  obtain ⟨n, d, e1, e2, h1, h2, h3, h4⟩ := frz_parts hp.1
  obtain ⟨k, m, f1, f2, i1, i2, i3, i4⟩ := frz_parts hp.2
  simp only [pp1, eq_self, and_true, true_and, and_self, peta]
  rw [e1, e2, f1, f2]
  simp only [iZ_vZ]
  have c1 := mul_lt_pow dw2 h1 h3 (Int.le_of_lt i2) i4
  have d1 := mul_lt_pow dw2 i1 i3 (Int.le_of_lt h2) h4
  exact ⟨⟨okz_pos' h1 h3 (by decide), okz_pos' (Int.le_of_lt i2) i4 (by decide)⟩, ⟨okz_pos' i1 i3 (by decide), okz_pos' (Int.le_of_lt h2) h4 (by decide)⟩, ⟨okz_pos' (Int.mul_nonneg h1 (Int.le_of_lt i2)) c1 (by decide), okz_pos' (Int.mul_nonneg i1 (Int.le_of_lt h2)) d1 (by decide)⟩, trivial⟩
end Go.SX.We.Nm

/- Chapter 08: Ryavec's bound, and what the text of a fraction says. -/
namespace Go.SX.We.Nm
open Go Go.Proofs
theorem low_unit {v : Int} (hv : 1 ≤ v) : lowI 1 v = (1, v) := by
  have e : gcdI 1 v = 1 := by
    unfold gcdI
    have : (1 : Int).toNat = 1 := rfl
    rw [this, Nat.gcd_one_left]; rfl
  rw [lowI, e, Int.ediv_one, Int.ediv_one]
theorem low_parts {n d : Int} (hn : 0 ≤ n) (hd : 0 < d) : n = gcdI n d * (lowI n d).1 ∧ d = gcdI n d * (lowI n d).2 := by
  obtain ⟨h1, h2⟩ := gcdI_dvd hn (Int.le_of_lt hd)
  exact ⟨(Int.mul_ediv_cancel' h1).symm, (Int.mul_ediv_cancel' h2).symm⟩
theorem rya_all {w : List Int} (hw : Wts w) (hd : distF w = true) : ∀ k, k + 1 ≤ w.length →
    (recN w (k + 1)).1 * w.getD k 0 * 2 ^ (k + 1) ≤ (recN w (k + 1)).2 * (2 * ((2 ^ (k + 1) - 1) * w.getD k 0 + (2 ^ (k + 1) - 1 - We.sm (w.take (k + 1)))))
  | 0, h => by
    have hv := hw.lo _ (getD_mem w 0 (k := 0) (by omega))
    have e : recN w (0 + 1) = (1, w.getD 0 0) := by
      rw [recN, recN, low_unit hv]
      simp only [Int.zero_mul, Int.mul_one, Int.zero_add, Int.one_mul]
      exact low_unit hv
    have es : We.sm (w.take (0 + 1)) = w.getD 0 0 := by
      rw [List.take_add_one, List.getElem?_eq_getElem (by omega), List.getD_eq_getElem?_getD, List.getElem?_eq_getElem (by omega)]
      simp [We.sm]
    rw [e, es]
    have e2 : (2 : Int) ^ (0 + 1) = 2 := rfl
    rw [e2]
    grind
  | k + 1, h => by
    have ih := rya_all hw hd k (by omega)
    have hb := rec_bound (w := w) (fun v hv => ⟨hw.lo v hv, hw.hi v hv⟩) (k + 1) (by omega)
    have hv := hw.lo _ (getD_mem w 0 (k := k + 1) (by omega))
    have hV := hw.lo _ (getD_mem w 0 (k := k) (by omega))
    have hup : w.getD k 0 ≤ w.getD (k + 1) 0 := by
      have := List.pairwise_iff_getElem.1 hw.up k (k + 1) (by omega) (by omega) (by omega)
      rw [List.getD_eq_getElem?_getD, List.getElem?_eq_getElem (by omega), List.getD_eq_getElem?_getD, List.getElem?_eq_getElem (by omega)]
      exact Int.le_of_lt this
    have hs : We.sm (w.take (k + 1 + 1)) = We.sm (w.take (k + 1)) + w.getD (k + 1) 0 := by
      rw [List.take_add_one (i := k + 1), List.getElem?_eq_getElem (by omega), We.sm_append, List.getD_eq_getElem?_getD, List.getElem?_eq_getElem (by omega)]
      simp [We.sm]
    have hS := dist_sum (w := w.take (k + 1)) (dist_part (List.take_sublist _ _) hd) (fun v hm => by have := hw.lo v (List.mem_of_mem_take hm); omega)
    rw [List.length_take, Nat.min_eq_left (by omega)] at hS
    have er : recN w (k + 1 + 1) = lowI ((recN w (k + 1)).1 * w.getD (k + 1) 0 + (recN w (k + 1)).2) ((recN w (k + 1)).2 * w.getD (k + 1) 0) := by
      rw [recN, low_unit hv]
      simp only [Int.one_mul]
    rw [er, hs, Int.pow_succ 2 (k + 1)]
    obtain ⟨b1, b2, _, _⟩ := hb
    generalize (recN w (k + 1)).1 = n at *
    generalize (recN w (k + 1)).2 = d at *
    generalize w.getD (k + 1) 0 = v at *
    generalize w.getD k 0 = V at *
    generalize We.sm (w.take (k + 1)) = S at *
    generalize (2 : Int) ^ (k + 1) = T at *
    have st := rya_step (Int.le_of_lt b2) (show 0 < V by omega) hup (show T - 1 - S ≤ 0 by omega) ih
    have n0 : 0 ≤ n * v + d := Int.add_nonneg (Int.mul_nonneg b1 (by omega)) (Int.le_of_lt b2)
    have d0 : 0 < d * v := Int.mul_pos b2 (by omega)
    obtain ⟨p1, p2⟩ := low_parts n0 d0
    have gp := gcdI_pos (x := n * v + d) d0
    generalize gcdI (n * v + d) (d * v) = g at *
    generalize (lowI (n * v + d) (d * v)).1 = a at *
    generalize (lowI (n * v + d) (d * v)).2 = c at *
    rw [p1, p2] at st
    refine Int.le_of_mul_le_mul_left (a := g) ?_ gp
    have e1 : g * (a * v * (T * 2)) = g * a * v * (T * 2) := by grind
    have e2 : g * (c * (2 * ((T * 2 - 1) * v + (T * 2 - 1 - (S + v))))) = g * c * (2 * ((T * 2 - 1) * v + (T * 2 - 1 - (S + v)))) := by grind
    rw [e1, e2]
    exact st
theorem pow2_pos (k : Nat) : (0 : Int) < 2 ^ k := Int.pow_pos (by decide)
theorem ryavec {w : List Int} (hw : Wts w) (hd : distF w = true) : (recN w w.length).1 < 2 * (recN w w.length).2 := by
  have hp := hw.pos
  obtain ⟨k, hk⟩ : ∃ k, w.length = k + 1 := ⟨w.length - 1, by omega⟩
  have hI := rya_all hw hd k (by omega)
  have hb := rec_bound (w := w) (fun v hv => ⟨hw.lo v hv, hw.hi v hv⟩) (k + 1) (by omega)
  have hV := hw.lo _ (getD_mem w 0 (k := k) (by omega))
  have hS := dist_sum (w := w.take (k + 1)) (dist_part (List.take_sublist _ _) hd) (fun v hm => by have := hw.lo v (List.mem_of_mem_take hm); omega)
  rw [List.length_take, Nat.min_eq_left (by omega)] at hS
  rw [hk]
  exact rya_end hb.2.1 (by omega) (pow2_pos (k + 1)) (by omega) hI
theorem rec_pos {w : List Int} (hw : Wts w) : 0 < (recN w w.length).1 := by
  have hp := hw.pos
  obtain ⟨k, hk⟩ : ∃ k, w.length = k + 1 := ⟨w.length - 1, by omega⟩
  have hb := rec_bound (w := w) (fun v hv => ⟨hw.lo v hv, hw.hi v hv⟩) k (by omega)
  have hv := hw.lo _ (getD_mem w 0 (k := k) (by omega))
  rw [hk, recN, low_unit hv]
  simp only [Int.one_mul]
  obtain ⟨b1, b2, _, _⟩ := hb
  generalize (recN w k).1 = n at *
  generalize (recN w k).2 = d at *
  generalize w.getD k 0 = v at *
  have n0 : 0 < n * v + d := Int.add_pos_of_nonneg_of_pos (Int.mul_nonneg b1 (by omega)) b2
  have d0 : 0 < d * v := Int.mul_pos b2 (by omega)
  obtain ⟨p1, p2⟩ := low_parts (Int.le_of_lt n0) d0
  obtain ⟨l1, _⟩ := low_bound (Int.le_of_lt n0) d0
  rcases Int.lt_or_eq_of_le l1 with h | h
  · exact h
  · rw [← h, Int.mul_zero] at p1
    omega
theorem rec_gcd {w : List Int} (hw : Wts w) : gcdI (recN w w.length).1 (recN w w.length).2 = 1 := by
  have hp := hw.pos
  obtain ⟨k, hk⟩ : ∃ k, w.length = k + 1 := ⟨w.length - 1, by omega⟩
  have hb := rec_bound (w := w) (fun v hv => ⟨hw.lo v hv, hw.hi v hv⟩) k (by omega)
  have hv := hw.lo _ (getD_mem w 0 (k := k) (by omega))
  rw [hk, recN, low_unit hv]
  simp only [Int.one_mul]
  obtain ⟨b1, b2, _, _⟩ := hb
  exact low_gcd (Int.add_nonneg (Int.mul_nonneg b1 (by omega)) (Int.le_of_lt b2)) (Int.mul_pos b2 (by omega))
theorem textL_byte {N : Int} (h : 0 ≤ N) : bytesL (textF N) = textL N := by
  have e : textF N = strOf (textL N) := by unfold textF textL; split <;> rfl
  rw [e]
  exact bytes_str fun x hx => by have := textL_digs h x hx; omega
theorem bytes_app (a b : ByteArray) : bytesL (a ++ b) = bytesL a ++ bytesL b := by
  simp [bytesL, ByteArray.data_append]
theorem num_bytes {N D : Int} (h : 0 ≤ N) (hd : 0 ≤ D) : bytesL (numF (N, D)) = if D = 1 then textL N else textL N ++ 47 :: textL D := by
  unfold numF
  split
  · exact textL_byte h
  · have e47 : bytesL ⟨#[47]⟩ = [47] := rfl
    rw [bytes_app, bytes_app, textL_byte h, textL_byte hd, e47, List.append_assoc]; rfl
end Go.SX.We.Nm

/- Chapter 08: the text of a fraction is read back. -/
namespace Go.SX.We.Nm
open Go Go.Proofs
theorem text_digN {N : Int} (h : 0 ≤ N) (hl : N < 4294967296 ^ 79) : DigN (textL N) ∧ (textL N).length ≤ 800 := by
  obtain ⟨l1, l2⟩ := textL_len h hl
  exact ⟨⟨textL_digs h, by omega, textL_first h⟩, by omega⟩
theorem text_not45 {N : Int} (h : 0 ≤ N) (r : List Int) : (textL N ++ r).getD 0 0 ≠ 45 := by
  have h1 := textL_digs h
  have h2 : 0 < (textL N).length := by
    unfold textL
    split
    · decide
    · have := (lim_pos (by decide : (2 : Int) ≤ 10) h).2 (by omega)
      simpa using this
  have h3 := digl_getD h1 h2
  rw [List.getD_eq_getElem?_getD, List.getElem?_append_left h2, ← List.getD_eq_getElem?_getD]
  omega
theorem num_par {N D : Int} (h : 0 ≤ N) (hd : 0 < D) (hN : N < 4294967296 ^ 79) (hD : D < 4294967296 ^ 79) (hg : gcdI N D = 1) : ParP (bytesL (numF (N, D))) ∧ parF (bytesL (numF (N, D))) = (N, D) := by
  rw [num_bytes h (Int.le_of_lt hd)]
  obtain ⟨a1, a2⟩ := text_digN h hN
  obtain ⟨b1, b2⟩ := text_digN (Int.le_of_lt hd) hD
  have ha := a1.len
  have hb := b1.len
  split
  · rename_i e
    subst e
    have hs := slash_none a1.dig
    have n45 := text_not45 h []
    rw [List.append_nil] at n45
    refine ⟨⟨by omega, n45, ?_, by omega, fun q => absurd q (by omega)⟩, ?_⟩
    · rw [hs, List.take_length]; exact a1
    · rw [parF, hs, List.take_length, if_neg (by omega), textL_val h]
  · rename_i e
    have hs := slash_at (d := textL D) a1.dig
    have hl : (textL N ++ 47 :: textL D).length = (textL N).length + ((textL D).length + 1) := by simp
    have e1 : (textL N ++ 47 :: textL D).take (textL N).length = textL N := List.take_left' rfl
    have e2 : (textL N ++ 47 :: textL D).drop ((textL N).length + 1) = textL D := by
      rw [List.drop_append, List.drop_eq_nil_of_le (by omega)]
      simp
    refine ⟨⟨by omega, text_not45 h _, ?_, by omega, fun q => ?_⟩, ?_⟩
    · rw [hs, e1]; exact a1
    · rw [hs, e1, e2, textL_val h, textL_val (Int.le_of_lt hd)]
      exact ⟨b1, by omega, by omega, hg⟩
    · rw [parF, hs, e1, if_pos (by omega), e2, textL_val h, textL_val (Int.le_of_lt hd)]
end Go.SX.We.Nm
