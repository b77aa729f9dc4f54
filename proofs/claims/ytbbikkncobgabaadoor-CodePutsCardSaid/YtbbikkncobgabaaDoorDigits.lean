/-
  code.digits. By an AI agent.
-/
import Derived.Test.YtbbikkncobgabaaDoorWrite
namespace Go.Proofs.YtbbikkncobgabaaDoor
open Go.RowKit

theorem cells_one (b : UInt8) (x : Int) (h : x = (b.toNat : Int)) : Lib.byteCells [b] = [.int .u8 x] := by rw [h]; rfl

/-- a number's digits to the base 128, the least one first -/
def dig : Nat → Nat → List UInt8
  | 0, _ => []
  | k + 1, x => if x < 128 then [UInt8.ofNat x] else UInt8.ofNat (x % 128 + 128) :: dig k (x / 128)

theorem dig_length : ∀ k x, (dig k x).length ≤ k
  | 0, _ => Nat.le_refl _
  | k + 1, x => by
    rw [dig]
    split
    · simp
    · simpa using dig_length k (x / 128)

set_option maxRecDepth 100000 in
set_option maxHeartbeats 1000000 in
theorem digits_any : ∀ (k x : Nat) (w : World), x < 128 ^ (k + 1) → k < 10 → x < 18446744073709551616 → Calls Tryd.prog 100 #[.int .u64 x] w (Gives w.heap.size (dig (k + 1) x) w) := by
  intro k
  induction k with
  | zero =>
    intro x w hx _ hx2
    have hx1 : x < 128 := by simpa using hx
    have hd : decide ((x : Int) < 128) = true := by rw [decide_eq_true_eq]; omega
    have hw : IntKind.u8.wrap (x : Int) = (x : Int) := by rw [IntKind.wrap_u8]; omega
    have hown := Owns.lit w w.heap.size [UInt8.ofNat x] (Nat.le_refl _) (by simp [maxLen])
    rw [cells_one _ (x : Int) (by rw [UInt8.toNat_ofNat']; omega)] at hown
    have Hown := Lib.hid hown
    clear hown hx
    go_enter Tryd.func100, Tryd.ntmps100
    go_wp2_with fail
    go_ret
    refine ⟨_, rfl, ?_, (Below.refl _ _).alloc (Nat.le_refl _) _⟩
    rw [dig, if_pos hx1]
    exact Hown.out
  | succ k ih =>
    intro x w hx hk hx2
    rcases Nat.lt_or_ge x 128 with hx1 | hx1
    · have hd : decide ((x : Int) < 128) = true := by rw [decide_eq_true_eq]; omega
      have hw : IntKind.u8.wrap (x : Int) = (x : Int) := by rw [IntKind.wrap_u8]; omega
      have hown := Owns.lit w w.heap.size [UInt8.ofNat x] (Nat.le_refl _) (by simp [maxLen])
      rw [cells_one _ (x : Int) (by rw [UInt8.toNat_ofNat']; omega)] at hown
      have Hown := Lib.hid hown
      clear hown hx
      go_enter Tryd.func100, Tryd.ntmps100
      go_wp2_with fail
      go_ret
      refine ⟨_, rfl, ?_, (Below.refl _ _).alloc (Nat.le_refl _) _⟩
      rw [dig, if_pos hx1]
      exact Hown.out
    · have hd : decide ((x : Int) < 128) = false := by rw [decide_eq_false_iff_not]; omega
      have hq : x / 128 < 128 ^ (k + 1) := Nat.div_lt_of_lt_mul (by rw [Nat.pow_succ] at hx; omega)
      obtain ⟨d, hde⟩ : ∃ d, d = UInt8.ofNat (x % 128 + 128) := ⟨_, rfl⟩
      have hown := Owns.lit w w.heap.size [d] (Nat.le_refl _) (by simp [maxLen])
      rw [cells_one d ((x : Int) % 128 + 128) (by rw [hde, UInt8.toNat_ofNat']; omega)] at hown
      have Hde := Lib.hid hde
      clear hde
      have Hown := Lib.hid hown
      have hdl := dig_length (k + 1) (x / 128)
      clear hown hx
      go_enter Tryd.func100, Tryd.ntmps100
      go_wp2_with fail
      have hih := fun w1 => ih (x / 128) w1 hq (by omega) (by omega)
      rw [show (((x / 128 : Nat)) : Int) = (x : Int) / 128 by simp] at hih
      refine (hih _).mono ?_
      clear hih
      rintro e w1 ⟨v, rfl, hown1, hb⟩
      have hb0 : Below w.heap.size w w1 := ((Below.refl _ w).alloc (Nat.le_refl _) _).trans (hb.mono (by simp))
      have hlit := Hown.out.below hb
      have hs1 := hb0.size
      clear hb
      obtain ⟨A, c, rfl, hc, _, hr⟩ := hown1.form
      generalize hdd : dig (k + 1) (x / 128) = t at *
      have Hdd := Lib.hid hdd
      clear hdd hown1
      go_wp2_with (at_builtin; refine wpList_app rfl _ _ rfl w.heap.size _ [d] rfl hlit w1.heap.size _ _ _ t rfl rfl hr ?_ ?_ ?_)
      · simp; omega
      · exact hs1
      intro v3 w3 hown3 hg3 _
      have hb3 : Below w.heap.size w w3 := hb0.grown hg3 hs1 (fun k h => (hlit.lt k h).1)
      clear hg3 hlit
      go_wp2_with fail
      go_ret
      refine ⟨_, rfl, ?_, hb3⟩
      rw [dig, if_neg (by omega), Hdd.out, ← Hde.out]
      exact hown3
end Go.Proofs.YtbbikkncobgabaaDoor
