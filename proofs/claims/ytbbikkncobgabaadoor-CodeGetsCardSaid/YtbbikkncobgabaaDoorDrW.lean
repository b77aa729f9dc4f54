/-
  scrivenerref02.Reader.Wide. By an AI agent.
-/
import Derived.Test.YtbbikkncobgabaaDoorDr2
import Derived.Outline
namespace Go.Proofs.YtbbikkncobgabaaDoor
open Go.RowKit

/-- how a good reading of a number ends -/
def NumD (lo D : Nat) (l : List UInt8) (x n : Nat) (w : World) (e : Ending) (w' : World) : Prop := e = .returned (.int .u64 (x : Int)) ∧ Dr w' lo D (l.drop n) false ∧ w.grownBy w' (some D)

theorem or256 (X c : Nat) (hX : X < 72057594037927936) (hc : c < 256) : bits .or .u64 ((X : Int) * 256) (c : Int) = ((X * 256 + c : Nat) : Int) := by
  have e : X * 256 ||| c = X * 256 + c := by
    rw [show X * 256 = 2 ^ 8 * X by omega, Nat.two_pow_add_eq_or_of_lt (by omega : c < 2 ^ 8)]
  rw [show ((X : Int) * 256) = ((X * 256 : Nat) : Int) by simp, u64_or_nat _ _ (by omega) (by omega), e]

theorem leN_drop (b : List UInt8) (k : Nat) (hk : k < b.length) : leN (b.drop k) = leN (b.drop (k + 1)) * 256 + b[k].toNat := by
  rw [List.drop_eq_getElem_cons hk, leN]; omega

set_option maxRecDepth 100000 in
set_option maxHeartbeats 4000000 in
theorem wideD_ok (lo D : Nat) (l : List UInt8) (size : Nat) (w : World) (h : Dr w lo D l false) (hn : size ≤ l.length) (h4 : size ≤ 4) (hs : l.length ≤ 1000000) :
    Calls Tryd.prog 29 #[.pointer (some ⟨D, 0, none⟩), .int .i64 size] w (NumD lo D l (leN (l.take size)) size w) := by
  go_enter Tryd.func29, Tryd.ntmps29
  go_wp2_with fail
  refine (rawD_ok lo D l size w h hn hs).mono ?_
  rintro e w1 ⟨v, rfl, hown, hdr, hgr⟩
  obtain ⟨b, hb⟩ : ∃ b, b = l.take size := ⟨_, rfl⟩
  have hbl : b.length = size := by rw [hb, List.length_take]; omega
  rw [← hb] at hown ⊢
  obtain ⟨A, c, rfl, hc, -, hr⟩ := hown.form
  rw [hbl] at hown hr hc ⊢
  have HB := Lib.hid hb
  have HBl := Lib.hid hbl
  clear hb hbl
  go_wp2_with fail
  go_loop [6, 7] (fun xv iv => ∃ k X : Nat, k ≤ size ∧ iv = .int .i64 (k : Int) ∧ xv = .int .u64 (X : Int) ∧ X = leN (b.drop k) ∧ X < 2 ^ (8 * (size - k))) (fun _ iv => (intOf iv).toNat)
  case atStart => exact ⟨size, 0, Nat.le_refl _, rfl, rfl, by rw [← HBl.out, List.drop_length]; rfl, by simp⟩
  case round =>
    obtain ⟨k, X, hk, rfl, rfl, hX, hXl⟩ := hrel
    have HX := Lib.hid hX
    clear hX
    rcases Nat.eq_zero_or_pos k with rfl | hk0
    · have hX0 := HX.out
      subst hX0
      go_wp2_with fail
      go_ret
      have hz : leN (b.drop 0) = leN (l.take size) := by rw [List.drop_zero, HB.out]
      exact ⟨by show Ending.returned (Value.int .u64 ((leN (b.drop 0) : Nat) : Int)) = _; rw [hz], hdr, hgr⟩
    · obtain ⟨j, rfl⟩ : ∃ j, k = j + 1 := ⟨k - 1, by omega⟩
      have hjl : j < b.length := by rw [HBl.out]; omega
      obtain ⟨ad, rfl, hab, hcell⟩ := hr.get (k := j) (by omega)
      rw [byteCells_get b j hjl] at hcell
      have hld := leN_drop b j hjl
      have Hld := Lib.hid hld
      have hXs : X < 72057594037927936 := Nat.lt_of_lt_of_le hXl (Nat.le_trans (Nat.pow_le_pow_right (by decide) (by omega : 8 * (size - (j + 1)) ≤ 24)) (by decide))
      have hnext : X * 256 + b[j].toNat < 2 ^ (8 * (size - j)) := by
        have := b[j].toNat_lt
        rw [show 8 * (size - j) = 8 * (size - (j + 1)) + 8 by omega, Nat.pow_add]
        omega
      have Hnext := Lib.hid hnext
      have hor := or256 X b[j].toNat hXs b[j].toNat_lt
      have b0 := byte_lo8 b[j]
      have b1 := byte_hi8 b[j]
      generalize b[j] = cc at *
      have hj1 : ((j + 1 : Nat) : Int) - 1 = (j : Int) := by omega
      clear hld hXl hnext
      go_wp2_with fail
      go_round
      case rel => exact ⟨j, X * 256 + cc.toNat, by omega, rfl, by go_num, by rw [Hld.out, HX.out], Hnext.out⟩
      case measure => simp [intOf]

theorem wideD_no (lo D : Nat) (l : List UInt8) (size : Nat) (bad : Bool) (w : World) (h : Dr w lo D l bad) (hn : l.length < size ∨ bad = true) (hs : l.length ≤ 1000000) :
    Calls Tryd.prog 29 #[.pointer (some ⟨D, 0, none⟩), .int .i64 size] w (BadD lo D l (.int .u64 0) w) := by
  go_enter Tryd.func29, Tryd.ntmps29
  go_wp2_with fail
  refine (rawD_no lo D l size bad w h (by rcases hn with hn | hn; exact .inr (.inl (by omega)); exact .inr (.inr hn)) hs).mono ?_
  rintro e w1 ⟨rfl, hdr, hgr⟩
  go_wp2_with fail
  go_loop [6, 7] (fun xv iv => iv = .int .i64 0 ∧ xv = .int .u64 0) (fun _ _ => 0)
  case atStart => exact ⟨rfl, rfl⟩
  case round =>
    obtain ⟨rfl, rfl⟩ := hrel
    go_wp2_with fail
    go_ret
    exact ⟨rfl, hdr, hgr⟩
end Go.Proofs.YtbbikkncobgabaaDoor
