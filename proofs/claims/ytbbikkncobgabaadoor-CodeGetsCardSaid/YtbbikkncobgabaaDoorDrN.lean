/-
  scrivenerref02.Reader: digits, number. By an AI agent.
-/
import Derived.Test.YtbbikkncobgabaaDoorDrW
import Derived.Deep.DrawnRows
namespace Go.Proofs.YtbbikkncobgabaaDoor
open Go.RowKit
attribute [local go_sem ↓] Go.wp_at_zero Go.wp_at_succ

/-- how many bytes stand at the front up to the first one below 128, among so many -/
def digN : Nat → List UInt8 → Nat
  | 0, _ => 0
  | _, [] => 0
  | f + 1, c :: t => if c.toNat < 128 then 1 else (if digN f t = 0 then 0 else digN f t + 1)

/-- bytes as a number to the base 128, as a word holds it -/
def hor : List UInt8 → Nat
  | [] => 0
  | c :: t => (c.toNat % 128 + 128 * hor t) % 18446744073709551616

theorem hor_lt (l : List UInt8) : hor l < 18446744073709551616 := by
  cases l with
  | nil => simp [hor]
  | cons c t => rw [hor]; exact Nat.mod_lt _ (by decide)

theorem digN_le : ∀ (f : Nat) (l : List UInt8), digN f l ≤ l.length ∧ digN f l ≤ f
  | 0, _ => ⟨Nat.zero_le _, Nat.le_refl _⟩
  | f + 1, [] => ⟨Nat.zero_le _, Nat.zero_le _⟩
  | f + 1, c :: t => by
    have ih := digN_le f t
    rw [digN]
    split
    · simp
    · split
      · simp
      · simp; omega

/-- of a number's digits: how many there are, what they come to -/
theorem digN_dig : ∀ (m y : Nat) (r : List UInt8), 0 < m → y < 128 ^ m → digN m (dig m y ++ r) = (dig m y).length
  | 0, _, _, h, _ => absurd h (by decide)
  | m + 1, y, r, _, hy => by
    rw [dig]
    by_cases h : y < 128
    · rw [if_pos h, List.singleton_append, digN, ofNat_toNat y (by omega), if_pos h]
      rfl
    · have hm : 0 < m := by
        rcases Nat.eq_zero_or_pos m with rfl | hm
        · simp at hy; omega
        · exact hm
      have hq : y / 128 < 128 ^ m := Nat.div_lt_of_lt_mul (by rw [Nat.pow_succ] at hy; omega)
      have ih := digN_dig m (y / 128) r hm hq
      have hp : 0 < (dig m (y / 128)).length := by
        obtain ⟨m, rfl⟩ : ∃ k, m = k + 1 := ⟨m - 1, by omega⟩
        rw [dig]; split <;> simp
      rw [if_neg h, List.cons_append, digN, ofNat_toNat _ (by omega), if_neg (by omega), ih, if_neg (by omega)]
      rfl
theorem hor_dig : ∀ (m y : Nat), 0 < m → y < 128 ^ m → y < 18446744073709551616 → hor (dig m y) = y
  | 0, _, h, _, _ => absurd h (by decide)
  | m + 1, y, _, hy, h64 => by
    rw [dig]
    by_cases h : y < 128
    · rw [if_pos h, hor, hor, ofNat_toNat y (by omega)]
      omega
    · have hm : 0 < m := by
        rcases Nat.eq_zero_or_pos m with rfl | hm
        · simp at hy; omega
        · exact hm
      have hq : y / 128 < 128 ^ m := Nat.div_lt_of_lt_mul (by rw [Nat.pow_succ] at hy; omega)
      rw [if_neg h, hor, ofNat_toNat _ (by omega), hor_dig m (y / 128) hm hq (by omega)]
      omega

/-- the document's number: none, or what num says -/
def docNum (l : List UInt8) : Nat × Nat := if digN 10 l = 0 ∨ dig 10 (hor (l.take (digN 10 l))) ≠ l.take (digN 10 l) then (0, 0) else (hor (l.take (digN 10 l)), digN 10 l)

theorem docNum_some (l : List UInt8) (v k : Nat) (h : num 0 0 l = some (v, k)) : docNum l = (v, k) ∧ 0 < k := by
  obtain ⟨h1, h2, h3, h4⟩ := dig_num0 l v k h
  have hv : v < 128 ^ 10 := Nat.lt_of_lt_of_le h1 (by decide)
  have e1 : digN 10 l = k := by
    have e : l = dig 10 v ++ l.drop k := by rw [← h2, List.take_append_drop]
    rw [e, digN_dig 10 v _ (by decide) hv, ← h3]
  have hk : 0 < k := by rw [h3]; rw [dig]; split <;> simp
  have e2 : hor (l.take k) = v := by rw [h2]; exact hor_dig 10 v (by decide) hv h1
  unfold docNum
  rw [e1, e2, h2, if_neg (by intro h; rcases h with h | h; omega; exact h rfl)]
  exact ⟨rfl, hk⟩
theorem docNum_none (l : List UInt8) (h : num 0 0 l = none) : docNum l = (0, 0) := by
  unfold docNum
  by_cases h0 : digN 10 l = 0
  · rw [if_pos (.inl h0)]
  · by_cases h1 : dig 10 (hor (l.take (digN 10 l))) = l.take (digN 10 l)
    · exfalso
      have e : l = dig 10 (hor (l.take (digN 10 l))) ++ l.drop (digN 10 l) := by rw [h1, List.take_append_drop]
      have := num_dig0 (hor (l.take (digN 10 l))) (l.drop (digN 10 l)) (hor_lt _)
      rw [← e, h] at this
      cases this
    · rw [if_pos (.inr h1)]


def shiftN (i r : Nat) : Nat := if r = 0 then 0 else r + i

theorem digN_step (l : List UInt8) (i : Nat) (hi : i < l.length) (h10 : i < 10) : digN (10 - i) (l.drop i) = if l[i].toNat < 128 then 1 else (if digN (10 - (i + 1)) (l.drop (i + 1)) = 0 then 0 else digN (10 - (i + 1)) (l.drop (i + 1)) + 1) := by
  rw [List.drop_eq_getElem_cons hi, show 10 - i = (10 - (i + 1)) + 1 by omega, digN]

set_option maxRecDepth 100000 in
set_option maxHeartbeats 4000000 in
theorem digitsD (lo D : Nat) (l : List UInt8) (bad : Bool) (w : World) (h : Dr w lo D l bad) (hs : l.length ≤ 1000000) :
    Calls Tryd.prog 104 #[.pointer (some ⟨D, 0, none⟩)] w fun e w' => e = .returned (.int .i64 ((digN 10 l : Nat) : Int)) ∧ w = w' := by
  obtain ⟨hlo, A, c, hb, hlc, hcm, hA, hr, hfar⟩ := h
  obtain ⟨N, hN⟩ : ∃ N, N = l.length := ⟨_, rfl⟩
  have HN := Lib.hid hN
  rw [← hN] at hb hs hr
  have c0 : w.cell? ⟨D, 0, none⟩ = some (.slice A N c) := hb.cell 0
  clear hN hb hlc hA hfar
  go_enter Tryd.func104, Tryd.ntmps104
  go_wp2_with fail
  go_loop [3] (fun iv => ∃ i : Nat, i ≤ N ∧ i ≤ 10 ∧ iv = .int .i64 (i : Int) ∧ digN 10 l = shiftN i (digN (10 - i) (l.drop i))) (fun iv => N - (intOf iv).toNat)
  case atStart => exact ⟨0, Nat.zero_le _, Nat.zero_le _, rfl, by unfold shiftN; split <;> simp_all⟩
  case round =>
    obtain ⟨i, hiN, hi10, rfl, hd⟩ := hrel
    have Hd := Lib.hid hd
    clear hd
    by_cases hlt : i < N
    · by_cases h10 : i < 10
      · have hil : i < l.length := by rw [← HN.out]; exact hlt
        obtain ⟨ad, rfl, hab, hcell⟩ := hr.get (k := i) hlt
        rw [byteCells_get l i hil] at hcell
        have hst := digN_step l i hil h10
        have Hst := Lib.hid hst
        have b0 := byte_lo8 l[i]
        have b1 := byte_hi8 l[i]
        generalize l[i] = cc at *
        clear hst
        by_cases h128 : cc.toNat < 128
        · have hd1 : decide ((cc.toNat : Int) < 128) = true := by rw [decide_eq_true_eq]; omega
          go_wp2_with fail
          go_ret
          exact ⟨by rw [Hd.out, Hst.out, if_pos h128]; show Ending.returned (Value.int .i64 ((i : Int) + 1)) = Ending.returned (Value.int .i64 ((shiftN i 1 : Nat) : Int)); rw [show shiftN i 1 = i + 1 by unfold shiftN; simp; omega]; simp, rfl⟩
        · have hd1 : decide ((cc.toNat : Int) < 128) = false := by rw [decide_eq_false_iff_not]; omega
          go_wp2_with fail
          go_round
          case rel => exact ⟨i + 1, by omega, by omega, by go_num, by rw [Hd.out, Hst.out, if_neg h128]; unfold shiftN; split <;> simp_all; omega⟩
          case measure => simp [intOf]; omega
      · obtain rfl : i = 10 := by omega
        go_wp2_with fail
        go_ret
        exact ⟨by rw [Hd.out]; rfl, rfl⟩
    · obtain rfl : i = N := by omega
      go_wp2_with fail
      go_ret
      exact ⟨by rw [Hd.out, HN.out, List.drop_length, show digN (10 - l.length) ([] : List UInt8) = 0 by cases (10 - l.length) <;> rfl]; rfl, rfl⟩
end Go.Proofs.YtbbikkncobgabaaDoor
