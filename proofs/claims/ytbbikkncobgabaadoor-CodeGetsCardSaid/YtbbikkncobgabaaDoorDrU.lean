/-
  scrivenerref02.Reader: number. By an AI agent.
-/
import Derived.Test.YtbbikkncobgabaaDoorDrN
import Derived.Outline
namespace Go.Proofs.YtbbikkncobgabaaDoor
open Go.RowKit
attribute [local go_sem ↓] Go.wp_at_zero Go.wp_at_succ

theorem hor_drop (b : List UInt8) (j : Nat) (hj : j < b.length) : hor (b.drop j) = (b[j].toNat % 128 + 128 * hor (b.drop (j + 1))) % 18446744073709551616 := by
  rw [List.drop_eq_getElem_cons hj, hor]

/-- how number ends -/
def NumberD (D : Nat) (l : List UInt8) (w : World) (e : Ending) (w' : World) : Prop := e = .returned (.tuple #[.int .u64 ((docNum l).1 : Int), .int .i64 ((docNum l).2 : Int)]) ∧ Below w.heap.size w w'

set_option maxRecDepth 100000 in
set_option maxHeartbeats 8000000 in
theorem numberD (lo D : Nat) (l : List UInt8) (bad : Bool) (w : World) (h : Dr w lo D l bad) (hs : l.length ≤ 1000000) :
    Calls Tryd.prog 70 #[.pointer (some ⟨D, 0, none⟩)] w (NumberD D l w) := by
  have h' := h
  have hlt := h.lt
  obtain ⟨hlo, A, c, hb, hlc, hcm, hA, hr, hfar⟩ := h'
  obtain ⟨N, hN⟩ : ∃ N, N = l.length := ⟨_, rfl⟩
  have HN := Lib.hid hN
  have hdig := digitsD lo D l bad w h hs
  have hle := digN_le 10 l
  obtain ⟨n, hn⟩ : ∃ n, n = digN 10 l := ⟨_, rfl⟩
  rw [← hn] at hdig hle
  have Hn := Lib.hid hn
  have HDig := Lib.hid hdig
  rw [← hN] at hb hs hr hlc hle
  obtain ⟨hnN, hn10⟩ := hle
  have c0 : w.cell? ⟨D, 0, none⟩ = some (.slice A N c) := hb.cell 0
  unfold maxLen at hcm
  clear hN hb hA hfar h hn hdig
  go_enter Tryd.func70, Tryd.ntmps70
  go_wp2_with fail
  refine HDig.out.mono ?_
  rintro e w1 ⟨rfl, rfl⟩
  go_wp2_with fail
  go_loop [5, 6] (fun xv iv => ∃ k X : Nat, k ≤ n ∧ iv = .int .i64 (k : Int) ∧ xv = .int .u64 (X : Int) ∧ X = hor ((l.take n).drop k)) (fun _ iv => (intOf iv).toNat)
  case atStart => exact ⟨n, 0, Nat.le_refl _, rfl, rfl, by rw [List.drop_of_length_le (by simp; omega)]; rfl⟩
  case round =>
    obtain ⟨k, X, hk, rfl, rfl, hX⟩ := hrel
    have hXs : X < 18446744073709551616 := by rw [hX]; exact hor_lt _
    have HX := Lib.hid hX
    clear hX
    rcases Nat.eq_zero_or_pos k with rfl | hk0
    · have hXh : X = hor (l.take n) := by rw [HX.out, List.drop_zero]
      have HXh := Lib.hid hXh
      clear hXh
      rcases Nat.eq_zero_or_pos n with hn0 | hn0
      · subst hn0
        have hdn : docNum l = (0, 0) := by unfold docNum; rw [if_pos (.inl Hn.out.symm)]
        go_wp2_with fail
        go_quiet (fail)
        go_wp2_with fail
        go_ret2
        exact ⟨by rw [hdn]; rfl, (below_drewN (Below.refl _ w) _)⟩
      · have hne : ((n : Int) == 0) = false := by rw [beq_eq_false_iff_ne]; omega
        have hconv : ∀ w', Below w.heap.size w w' → (convert 27 9 (.slice A n c)).run Tryd.prog w' = .ok (.string (str (l.take n))) w' := fun w' hbw => by
          have h1 := (hr.below hbw).take (k := n) hnN
          rw [byteCells_take] at h1
          exact conv_bytes w' w.heap.size A n c (l.take n) (by rw [List.length_take, ← HN.out]; omega) h1
        have HC := Lib.hid hconv
        have i0 : (0 : Int) ≤ (n : Int) := by omega
        have i1 : (n : Int) ≤ (c : Int) := by omega
        have i2 : (n : Int).toNat = n := by omega
        have c0d : w.drew.cell? ⟨D, 0, none⟩ = some (.slice A N c) := c0
        by_cases heq : dig 10 X = l.take n
        · have hdn : docNum l = (X, n) := by
            unfold docNum
            rw [← Hn.out, ← HXh.out, if_neg (by intro h; rcases h with h | h; omega; exact h heq)]
          have Hdn := Lib.hid hdn
          have hconvd := hconv w.drew (Below.refl _ w).drew
          rw [← heq] at hconvd
          have Heq := Lib.hid heq
          clear hconv hdn heq
          go_wp2_with fail
          go_region_with (go_at_call 57; refine (refShort X _ hXs).mono ?_; rintro e w5 ⟨v5, rfl, hown5, hb5⟩; have hbw5 : Below w.heap.size w w5 := (Below.refl _ w).drew.trans hb5; have hcv5 := hown5.conv; have hcb5 := HC.out w5 hbw5; rw [← Heq.out] at hcb5; have c5 : w5.cell? ⟨D, 0, none⟩ = some (.slice A N c) := (hbw5.cell (p := ⟨D, 0, none⟩) hlt).trans c0)
          all_goals
            go_wp2_with fail
            go_ret2
            exact ⟨by rw [Hdn.out]; rfl, hbw5⟩
        · have hdn : docNum l = (0, 0) := by
            unfold docNum
            rw [← Hn.out, ← HXh.out, if_pos (.inr heq)]
          have Hdn := Lib.hid hdn
          have hconvd := hconv w.drew (Below.refl _ w).drew
          have hs1 : ((str (dig 10 X)).toList == (str (l.take n)).toList) = false := by rw [str_eq]; simp [heq]
          have hs2 : ¬ (str (dig 10 X)).toList = (str (l.take n)).toList := by rw [str_list, str_list]; exact heq
          clear hconv hdn heq
          go_wp2_with fail
          go_region_with (go_at_call 57; refine (refShort X _ hXs).mono ?_; rintro e w5 ⟨v5, rfl, hown5, hb5⟩; have hbw5 : Below w.heap.size w w5 := (Below.refl _ w).drew.trans hb5; have hcv5 := hown5.conv; have hcb5 := HC.out w5 hbw5; have c5 : w5.cell? ⟨D, 0, none⟩ = some (.slice A N c) := (hbw5.cell (p := ⟨D, 0, none⟩) hlt).trans c0)
          all_goals
            go_wp2_with fail
            go_ret2
            exact ⟨by rw [Hdn.out]; rfl, hbw5⟩
    · obtain ⟨j, rfl⟩ : ∃ j, k = j + 1 := ⟨k - 1, by omega⟩
      have htl : (l.take n).length = n := by rw [List.length_take, ← HN.out]; omega
      have hjl : j < (l.take n).length := by omega
      obtain ⟨ad, rfl, hab, hcell⟩ := hr.get (k := j) (by omega)
      have hjl2 : j < l.length := by rw [← HN.out]; omega
      rw [byteCells_get l j hjl2] at hcell
      have hst := hor_drop (l.take n) j hjl
      rw [show (l.take n)[j] = l[j] by simp] at hst
      have Hst := Lib.hid hst
      have b0 := byte_lo8 l[j]
      have b1 := byte_hi8 l[j]
      have hwr : IntKind.u64.wrap (IntKind.u64.wrap ((X : Int) * 128) + (l[j].toNat : Int) % 128) = (((l[j].toNat % 128 + 128 * X) % 18446744073709551616 : Nat) : Int) := by
        rw [IntKind.wrap_u64, IntKind.wrap_u64]; omega
      generalize l[j] = cc at *
      have hj1 : ((j + 1 : Nat) : Int) - 1 = (j : Int) := by omega
      clear hst htl hjl hjl2
      go_wp2_with fail
      go_round
      case rel => exact ⟨j, (cc.toNat % 128 + 128 * X) % 18446744073709551616, by omega, rfl, congrArg (Value.int .u64) (by omega), by rw [Hst.out, HX.out]⟩
      case measure => simp [intOf]
end Go.Proofs.YtbbikkncobgabaaDoor
