/-
  scrivenerref01.Of: the document's sum, bit by bit, is the same. By an AI agent.
-/
import Derived.Test.YtbbikkncobgabaaHand
import Derived.Test.YtbbikkncobgabaaMem
import Derived.Outline
import Derived.Lib.Hide
namespace Go.Proofs.Ytbbikkncobgabaa
open Go.RowKit
attribute [local go_sem] Crc.refIn

set_option maxRecDepth 100000 in
theorem ref_of (A : Option Addr) (c : Nat) (l : List UInt8) (w : World) (hm : l.length ≤ maxLen) (hr : Reads w w.heap.size 1 A l.length (Lib.byteCells l)) :
    Calls Try.prog 10 #[.slice A l.length c] w fun e w' => e = .returned (.int .u32 (Crc.U (Crc.sum l))) ∧ w = w' := by
  unfold maxLen at hm
  go_enter Try.func10, Try.ntmps10
  go_wp2_with fail
  go_loop [3, 4] (fun x i => ∃ k : Nat, k ≤ l.length ∧ i = .int .i64 k ∧ x = .int .u64 (Crc.U (Crc.reg (l.take k)))) (fun _ i => l.length - (intOf i).toNat)
  case atStart => exact ⟨0, Nat.zero_le _, rfl, by rw [List.take_zero, show Crc.reg [] = Crc.ones from rfl, Crc.U_ones]⟩
  case round =>
    obtain ⟨k, hk, rfl, rfl⟩ := hrel
    by_cases hlt : k < l.length
    · obtain ⟨ad, rfl, hadb, hcell⟩ := hr.get hlt
      rw [byteCells_get l k hlt] at hcell
      generalize hcc : l[k] = cc at hcell
      have Hcc := Lib.hid hcc
      clear hcc
      have b0 := byte_lo cc
      have b1 := byte_hi cc
      go_wp2_with fail
      go_loop [3, 5] (fun x i => ∃ j : Nat, j ≤ 8 ∧ i = .int .i64 j ∧ x = .int .u64 (Crc.U (Crc.run (Crc.reg (l.take k)) ((Crc.bits8 cc).take j)))) (fun _ i => 8 - (intOf i).toNat)
      case atStart => exact ⟨0, Nat.zero_le _, rfl, rfl⟩
      case round =>
        obtain ⟨j, hj, rfl, rfl⟩ := hrel
        generalize hX : Crc.run (Crc.reg (l.take k)) ((Crc.bits8 cc).take j) = X
        have HX := Lib.hid hX
        clear hX
        have x0 := Crc.U_lo X
        have x1 := Crc.U_hi X
        by_cases hlt2 : j < 8
        · obtain ⟨Y, hY⟩ : ∃ Y, Y = X ^^^ Crc.top (cc.toNat.testBit j) := ⟨_, rfl⟩
          have hfin : Crc.run (Crc.reg (l.take k)) ((Crc.bits8 cc).take (j + 1)) = Crc.L Y := by
            have hj8 : j < (Crc.bits8 cc).length := by rw [Crc.bits8_length]; exact hlt2
            rw [List.take_succ_eq_append_getElem hj8, Crc.run_append, HX.out, hY]
            simp [Crc.bits8, Crc.S]
          have Hfin := Lib.hid hfin
          clear hfin
          have y0 := Crc.U_lo Y
          have y1 := Crc.U_hi Y
          have hcase : Crc.U Y * 2 < 4294967296 ∨ 4294967296 ≤ Crc.U Y * 2 := by omega
          rcases hcase with hun | hov
          · have Hun := Lib.hid hun
            have hd : Crc.U Y ≤ 2147483647 := by omega
            clear hun y1
            subst hY
            go_wp2_with fail
            go_round
            case rel => exact ⟨j + 1, by omega, by go_num, by rw [Hfin.out, Crc.refUnder _ Hun.out]⟩
            case measure => simp [intOf]; omega
          · have hd : 2147483648 ≤ Crc.U Y := by omega
            have Hov := Lib.hid hov
            clear hov
            subst hY
            go_wp2_with fail
            go_round
            case rel => exact ⟨j + 1, by omega, by go_num, by rw [Hfin.out, Crc.refOver _ Hov.out]⟩
            case measure => simp [intOf]; omega
        · have hje : j = 8 := by omega
          go_wp2_with fail
          go_round
          case rel =>
            refine ⟨k + 1, by omega, by go_num, ?_⟩
            subst hje
            have h8 : (Crc.bits8 cc).take 8 = Crc.bits8 cc := List.take_of_length_le (by rw [Crc.bits8_length]; omega)
            rw [List.take_succ_eq_append_getElem hlt, Crc.reg_append, Hcc.out, ← HX.out, h8]
            simp [Crc.bitsOf]
          case measure => simp [intOf]; omega
    · have hke : k = l.length := by omega
      subst hke
      rw [List.take_length]
      obtain ⟨X, hX⟩ : ∃ X, X = Crc.reg l := ⟨_, rfl⟩
      have HX := Lib.hid hX
      rw [← hX]
      clear hX
      have x0 := Crc.U_lo X
      have x1 := Crc.U_hi X
      go_wp2_with fail
      go_loop [7, 8] (fun o i => ∃ k : Nat, k ≤ 32 ∧ i = .int .i64 k ∧ o = .int .u32 (Crc.U (Crc.outK X k))) (fun _ i => 32 - (intOf i).toNat)
      case atStart => exact ⟨0, Nat.zero_le _, rfl, by rw [Crc.outK, Crc.U_zero]⟩
      case round =>
        obtain ⟨k, hk, rfl, rfl⟩ := hrel
        by_cases hlt : k < 32
        · have ho := Crc.outBit X k
          cases hb : X.getLsbD k with
          | true =>
            have hnx : Crc.outK X (k + 1) = Crc.outK X k := by rw [Crc.outK, hb]; rfl
            have Hnx := Lib.hid hnx
            rw [hb] at ho
            clear hnx hb
            go_wp2_with fail
            go_round
            case rel => exact ⟨k + 1, by omega, by go_num, by rw [Hnx.out]⟩
            case measure => simp [intOf]; omega
          | false =>
            have hnx : Crc.outK X (k + 1) = Crc.outK X k ||| (1#32 <<< (31 - k)) := by rw [Crc.outK, hb]; rfl
            have Hnx := Lib.hid hnx
            rw [hb] at ho
            clear hnx hb
            go_wp2_with fail
            go_round
            case rel =>
              refine ⟨k + 1, by omega, by go_num, ?_⟩
              rw [Hnx.out, ← Crc.outSet]
            case measure => simp [intOf]; omega
        · have hke : k = 32 := by omega
          go_wp2_with fail
          go_ret
          subst hke
          refine ⟨?_, rfl⟩
          show Ending.returned (Value.int IntKind.u32 (Crc.U (Crc.outK X 32))) = _
          rw [Crc.outK_32, HX.out]
          rfl
end Go.Proofs.Ytbbikkncobgabaa
