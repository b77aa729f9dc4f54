/-
  code.Reader.number. By an AI agent.
-/
import Derived.Test.YtbbikkncobgabaaDoorRd
import Derived.OwnWalk
namespace Go.Proofs.YtbbikkncobgabaaDoor
open Go.RowKit

/-- a number, from its k-th byte on, x so far: its value, and how many bytes it has -/
def num : Nat → Nat → List UInt8 → Option (Nat × Nat)
  | _, _, [] => none
  | k, x, c :: t => if k < 9 ∨ (k = 9 ∧ c = 1) then (if c.toNat < 128 then (if k = 0 ∨ 0 < c.toNat then some (x + c.toNat % 128 * 2 ^ (7 * k), k + 1) else none) else num (k + 1) (x + c.toNat % 128 * 2 ^ (7 * k)) t) else none

/-- how a reading of a number ends -/
def NumEnd (R : Nat) (l : List UInt8) (p : Nat) (bad : Bool) (w : World) (e : Ending) (w' : World) : Prop :=
  w.grownBy w' (some R) ∧ w'.heap.size = w.heap.size ∧
  ((∃ x n, num 0 0 (l.drop p) = some (x, n) ∧ e = .returned (.int .u64 (x : Int)) ∧ Rd w' R l (p + n) bad) ∨
   (num 0 0 (l.drop p) = none ∧ e = .panicked gives ∧ ∃ p', Rd w' R l p' bad))

theorem add_none (a : Addr) : a.add 0 = a := by
  rcases a with ⟨b, o, x⟩
  cases x <;> simp [Addr.add]

theorem num_step (k x : Nat) (c : UInt8) (hx : x < 2 ^ (7 * k)) (h : k < 9 ∨ (k = 9 ∧ c.toNat = 1)) :
    x + c.toNat % 128 * 2 ^ (7 * k) < 2 ^ 64 ∧ x + c.toNat % 128 * 2 ^ (7 * k) < 2 ^ (7 * (k + 1)) ∧ IntKind.u64.wrap ((x : Int) + IntKind.u64.wrap ((c.toNat : Int) % 128 * 2 ^ (7 * k))) = ((x + c.toNat % 128 * 2 ^ (7 * k) : Nat) : Int) := by
  have hq : c.toNat % 128 ≤ 127 := by omega
  have e1 : (c.toNat : Int) % 128 * 2 ^ (7 * k) = ((c.toNat % 128 * 2 ^ (7 * k) : Nat) : Int) := by push_cast; rfl
  have hb : x + c.toNat % 128 * 2 ^ (7 * k) < 2 ^ (7 * (k + 1)) := by
    have : 2 ^ (7 * (k + 1)) = 128 * 2 ^ (7 * k) := by rw [show 7 * (k + 1) = 7 * k + 7 by omega, Nat.pow_add, Nat.mul_comm]
    have h2 : c.toNat % 128 * 2 ^ (7 * k) ≤ 127 * 2 ^ (7 * k) := Nat.mul_le_mul_right _ hq
    omega
  have hl : x + c.toNat % 128 * 2 ^ (7 * k) < 2 ^ 64 := by
    rcases h with h | ⟨rfl, h⟩
    · have : 2 ^ (7 * (k + 1)) ≤ 2 ^ 63 := Nat.pow_le_pow_right (by decide) (by omega)
      omega
    · rw [h] at *
      have : (1 : Nat) % 128 * 2 ^ (7 * 9) = 2 ^ 63 := by decide
      rw [this] at *
      have : (2 : Nat) ^ (7 * 9) = 2 ^ 63 := by decide
      omega
  refine ⟨hl, hb, ?_⟩
  rw [e1]
  generalize c.toNat % 128 * 2 ^ (7 * k) = q at *
  rw [IntKind.wrap_u64, IntKind.wrap_u64]
  omega

theorem mod128_u8 (c : UInt8) : (c.toNat : Int) % 128 = ((c.toNat % 128 : Nat) : Int) := by simp

set_option maxHeartbeats 4000000 in
set_option maxRecDepth 100000 in
theorem number_any (R : Nat) (l : List UInt8) (p : Nat) (bad : Bool) (w : World) (h : Rd w R l p bad) (hm : l.length ≤ 140737488355328) :
    Calls Tryd.prog 64 #[.pointer (some ⟨R, 0, none⟩)] w (NumEnd R l p bad w) := by
  have hp : p ≤ l.length := by obtain ⟨A, cap, _, _, _, hp, _⟩ := h; exact hp
  go_enter Tryd.func64, Tryd.ntmps64
  go_wp2_with fail
  go_loopw [2, 3] (fun v i wr => ∃ k x : Nat, k ≤ 9 ∧ v = .int .u64 x ∧ i = .int .i64 k ∧ x < 2 ^ (7 * k) ∧ p + k ≤ l.length ∧ num 0 0 (l.drop p) = num k x (l.drop (p + k)) ∧ Rd wr R l (p + k) bad ∧ w.grownBy wr (some R) ∧ wr.heap.size = w.heap.size) (fun _ i _ => 10 - (intOf i).toNat)
  case atStart => exact ⟨0, 0, by omega, rfl, rfl, by simp, by omega, rfl, h, World.grownBy.refl _ _, rfl⟩
  case round =>
    obtain ⟨k, x, hk, rfl, rfl, hx, hpk, hnum, hrd, hgr, hsz⟩ := hrel
    have Hnum := Lib.hid hnum
    clear hnum
    rcases Nat.lt_or_ge (p + k) l.length with hlt | hge
    · go_wp2_with fail
      refine (next_ok R l (p + k) 1 bad _ hrd (by omega) hm).mono ?_
      rintro e w1 ⟨⟨A', rfl, hr1⟩, hrd1, hgr1, hsz1⟩
      obtain ⟨ad, rfl, hadb, hcell⟩ := hr1.get (k := 0) (by omega)
      have hone : ((l.drop (p + k)).take 1) = [l[p + k]] := by rw [List.drop_eq_getElem_cons hlt]; rfl
      have hcl : w1.cell? ad = some (.int .u8 (l[p + k].toNat : Int)) := by
        rw [add_none] at hcell
        rw [hcell]
        congr 1
        rw [byteCells_get _ 0 (by rw [hone]; simp)]
        simp [hone]
      have hdr : l.drop (p + k) = l[p + k] :: l.drop (p + (k + 1)) := List.drop_eq_getElem_cons hlt
      have Hdr := Lib.hid hdr
      have hgr2 := hgr.trans hgr1
      have hsz2 := hsz1.trans hsz
      have Hsz2 := Lib.hid hsz2
      clear hdr hone hcell hr1 hgr hgr1 hsz hsz1 hrd hsz2
      have hc8 := l[p + k].toNat_lt
      generalize hcc : l[p + k] = c at *
      clear hcc
      rcases (by omega : (k = 0 ∧ c.toNat < 128) ∨ (k = 0 ∧ 128 ≤ c.toNat) ∨ (0 < k ∧ k < 9 ∧ 128 ≤ c.toNat) ∨ (0 < k ∧ k < 9 ∧ c.toNat = 0) ∨ (0 < k ∧ k < 9 ∧ c.toNat < 128 ∧ 0 < c.toNat) ∨ (k = 9 ∧ c.toNat = 1) ∨ (k = 9 ∧ ¬ c.toNat = 1)) with ⟨rfl, h1⟩ | ⟨rfl, h1⟩ | ⟨h0, h9, h1⟩ | ⟨h0, h9, h1⟩ | ⟨h0, h9, h1, h2⟩ | ⟨rfl, h1⟩ | ⟨rfl, hc1⟩
      · obtain rfl : x = 0 := by simpa using hx
        have hd : decide ((c.toNat : Int) < 128) = true := by rw [decide_eq_true_eq]; omega
        go_wp2_with fail
        refine (must_ok _).mono ?_
        rintro e w2 ⟨rfl, rfl⟩
        go_wp2_with fail
        refine (must_ok _).mono ?_
        rintro e w2 ⟨rfl, rfl⟩
        go_wp2_with fail
        go_ret
        exact ⟨hgr2, Hsz2.out, .inl ⟨c.toNat % 128, 1, by rw [Hnum.out, Hdr.out, num, if_pos (.inl (by omega)), if_pos h1, if_pos (.inl rfl)]; simp, by go_num, hrd1⟩⟩
      · obtain rfl : x = 0 := by simpa using hx
        have hd : decide ((c.toNat : Int) < 128) = false := by rw [decide_eq_false_iff_not]; omega
        go_wp2_with fail
        refine (must_ok _).mono ?_
        rintro e w2 ⟨rfl, rfl⟩
        go_wp2_with fail
        go_roundw
        case rel => exact ⟨1, c.toNat % 128, by omega, by go_num, by go_num, by omega, by omega, by rw [Hnum.out, Hdr.out, num, if_pos (.inl (by omega)), if_neg (by omega)]; simp, hrd1, hgr2, Hsz2.out⟩
        case measure => simp [intOf]
      · have hd : decide ((c.toNat : Int) < 128) = false := by rw [decide_eq_false_iff_not]; omega
        obtain ⟨-, hX2, hX3⟩ := num_step k x c hx (by omega)
        obtain ⟨X, hX⟩ : ∃ X, X = x + c.toNat % 128 * 2 ^ (7 * k) := ⟨_, rfl⟩
        rw [← hX] at hX2 hX3
        have HX := Lib.hid hX
        have HX2 := Lib.hid hX2
        clear hX hX2
        have hk0 : ((k : Int) == 0) = false := by rw [beq_eq_false_iff_ne]; omega
        go_wp2_with fail
        refine (must_ok _).mono ?_
        rintro e w2 ⟨rfl, rfl⟩
        go_wp2_with fail
        go_roundw
        case rel => exact ⟨k + 1, X, by omega, by go_num, by go_num, HX2.out, by omega, by rw [Hnum.out, Hdr.out, num, if_pos (.inl (by omega)), if_neg (by omega), HX.out], hrd1, hgr2, Hsz2.out⟩
        case measure => simp [intOf]; omega
      · have hd : decide ((c.toNat : Int) < 128) = true := by rw [decide_eq_true_eq]; omega
        have hd2 : decide (0 < c.toNat) = false := by rw [decide_eq_false_iff_not]; omega
        obtain ⟨-, hX2, hX3⟩ := num_step k x c hx (by omega)
        obtain ⟨X, hX⟩ : ∃ X, X = x + c.toNat % 128 * 2 ^ (7 * k) := ⟨_, rfl⟩
        rw [← hX] at hX2 hX3
        have HX := Lib.hid hX
        have HX2 := Lib.hid hX2
        clear hX hX2
        have hk0 : ((k : Int) == 0) = false := by rw [beq_eq_false_iff_ne]; omega
        go_wp2_with fail
        refine (must_ok _).mono ?_
        rintro e w2 ⟨rfl, rfl⟩
        go_wp2_with fail
        refine (must_no _).mono ?_
        rintro e w2 ⟨rfl, rfl⟩
        go_wp2_with fail
        exact ⟨rfl, hgr2, Hsz2.out, .inr ⟨by rw [Hnum.out, Hdr.out, num, if_pos (.inl (by omega)), if_pos (by omega), if_neg (by omega)], rfl, _, hrd1⟩⟩
      · have hd : decide ((c.toNat : Int) < 128) = true := by rw [decide_eq_true_eq]; omega
        have hd2 : decide (0 < c.toNat) = true := by rw [decide_eq_true_eq]; omega
        obtain ⟨-, hX2, hX3⟩ := num_step k x c hx (by omega)
        obtain ⟨X, hX⟩ : ∃ X, X = x + c.toNat % 128 * 2 ^ (7 * k) := ⟨_, rfl⟩
        rw [← hX] at hX2 hX3
        have HX := Lib.hid hX
        have HX2 := Lib.hid hX2
        clear hX hX2
        have hk0 : ((k : Int) == 0) = false := by rw [beq_eq_false_iff_ne]; omega
        go_wp2_with fail
        refine (must_ok _).mono ?_
        rintro e w2 ⟨rfl, rfl⟩
        go_wp2_with fail
        refine (must_ok _).mono ?_
        rintro e w2 ⟨rfl, rfl⟩
        go_wp2_with fail
        go_ret
        exact ⟨hgr2, Hsz2.out, .inl ⟨X, k + 1, by rw [Hnum.out, Hdr.out, num, if_pos (.inl (by omega)), if_pos (by omega), if_pos (by omega), HX.out], by go_num, hrd1⟩⟩
      · have hd : decide ((c.toNat : Int) < 128) = true := by rw [decide_eq_true_eq]; omega
        have hd2 : decide (0 < c.toNat) = true := by rw [decide_eq_true_eq]; omega
        have hn1 : ((c.toNat : Int) == 1) = true := by rw [beq_iff_eq]; omega
        obtain ⟨-, hX2, hX3⟩ := num_step 9 x c hx (by omega)
        obtain ⟨X, hX⟩ : ∃ X, X = x + c.toNat % 128 * 2 ^ (7 * 9) := ⟨_, rfl⟩
        rw [← hX] at hX2 hX3
        have HX := Lib.hid hX
        have HX2 := Lib.hid hX2
        clear hX hX2
        have hk0 : (((9 : Nat) : Int) == 0) = false := by rw [beq_eq_false_iff_ne]; omega
        go_wp2_with fail
        refine (must_ok _).mono ?_
        rintro e w2 ⟨rfl, rfl⟩
        go_wp2_with fail
        refine (must_ok _).mono ?_
        rintro e w2 ⟨rfl, rfl⟩
        go_wp2_with fail
        go_ret
        have h3 : X = x + 9223372036854775808 := by have h2 := HX.out; rw [h1] at h2; exact h2
        exact ⟨hgr2, Hsz2.out, .inl ⟨X, 10, by rw [Hnum.out, Hdr.out, num, if_pos (.inr ⟨rfl, UInt8.toNat_inj.1 h1⟩), if_pos (show c.toNat < 128 by rw [h1]; decide), if_pos (.inr (show 0 < c.toNat by rw [h1]; decide)), HX.out], by rw [h3]; go_num, hrd1⟩⟩
      · have hn1 : ((c.toNat : Int) == 1) = false := by rw [beq_eq_false_iff_ne]; omega
        go_wp2_with fail
        refine (must_no _).mono ?_
        rintro e w2 ⟨rfl, rfl⟩
        go_wp2_with fail
        exact ⟨rfl, hgr2, Hsz2.out, .inr ⟨by rw [Hnum.out, Hdr.out, num, if_neg (by intro h; rcases h with h | ⟨_, rfl⟩; omega; exact hc1 rfl)], rfl, _, hrd1⟩⟩
    · go_wp2_with fail
      refine (next_no R l (p + k) 1 bad _ hrd (by omega) hm).mono ?_
      rintro e w1 ⟨rfl, q, rfl⟩
      go_wp2_with fail
      exact ⟨rfl, only_drewN hgr q, hsz, .inr ⟨by rw [Hnum.out, List.drop_eq_nil_of_le hge, num], rfl, _, hrd⟩⟩
end Go.Proofs.YtbbikkncobgabaaDoor
