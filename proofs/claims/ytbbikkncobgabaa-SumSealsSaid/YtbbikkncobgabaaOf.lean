/-
  sum.Of: the sum of any parts. By an AI agent.
-/
import Derived.Test.YtbbikkncobgabaaHand
import Derived.Test.YtbbikkncobgabaaMem
import Derived.Outline
import Derived.Lib.Hide
namespace Go.Proofs.Ytbbikkncobgabaa
open Go.RowKit

theorem bitsOf_snoc (l : List UInt8) (c : UInt8) (X : BitVec 32) : Crc.run X (Crc.bitsOf (l ++ [c])) = Crc.run (Crc.run X (Crc.bitsOf l)) (Crc.bits8 c) := by
  rw [Crc.bitsOf_append, Crc.run_append]
  simp [Crc.bitsOf]

set_option maxHeartbeats 1000000 in
theorem sum_of (A : Option Addr) (n c : Nat) (vs : List Value) (ls : List (List UInt8)) (w : World) (hn : n ≤ maxLen) (B : Nat) (hB : B ≤ w.heap.size) (hrB : Reads w B 1 A n vs) (hpB : Parts w B vs ls) :
    Calls Try.prog 9 #[.slice A n c] w fun e w' => e = .returned (.int .u32 (Crc.U (Crc.sum ls.flatten))) ∧ Below w.heap.size w w' := by
  unfold maxLen at hn
  have hr := hrB.more hB
  have hp := hpB.more hB
  clear hrB hpB hB
  have hlen := hr.len
  have hpl := hp.1
  have Hlen := Lib.hid hlen
  have Hpl := Lib.hid hpl
  clear hlen hpl
  go_enter Try.func9, Try.ntmps9
  go_wp2_with fail
  refine (hands_any _).mono ?_
  rintro e w1 ⟨rfl, rfl⟩
  go_wp2_with fail
  go_loopw [15] (fun i wr => ∃ k : Nat, k ≤ n ∧ i = .int .i64 k ∧ Below w.heap.size w wr ∧ wr.heap[w.heap.size]? = some (.cells #[.int .u32 (Crc.U (Crc.reg (ls.take k).flatten))] 25 (0, 0))) (fun i _ => n - (intOf i).toNat)
  case atStart => exact ⟨0, Nat.zero_le _, rfl, (Below.refl _ _).alloc (Nat.le_refl _) _, heap_alloc_new w _⟩
  case round =>
    obtain ⟨k, hk, rfl, hb, hx⟩ := hrel
    by_cases hlt : k < n
    · obtain ⟨ad, rfl, hadb, hcell⟩ := (hr.below hb).get hlt
      have hkv : k < vs.length := by rw [Hlen.out]; exact hlt
      have hkl : k < ls.length := by rw [← Hpl.out]; exact hkv
      obtain ⟨A2, c2, he, _, hm2, hr2⟩ := hp.2 k _ _ (List.getElem?_eq_getElem hkv) (List.getElem?_eq_getElem hkl)
      rw [he] at hcell
      clear he
      obtain ⟨l, hl⟩ : ∃ l, l = ls[k] := ⟨_, rfl⟩
      have Hl := Lib.hid hl
      rw [← hl] at hcell hm2 hr2
      clear hl
      unfold maxLen at hm2
      go_wp2_with fail
      go_loopw [21] (fun i wr => ∃ j : Nat, j ≤ l.length ∧ i = .int .i64 j ∧ Below w.heap.size w wr ∧ wr.heap[w.heap.size]? = some (.cells #[.int .u32 (Crc.U (Crc.run (Crc.reg (ls.take k).flatten) (Crc.bitsOf (l.take j))))] 25 (0, 0))) (fun i _ => l.length - (intOf i).toNat)
      case atStart => exact ⟨0, Nat.zero_le _, rfl, hb, hx⟩
      case round =>
        clear hcell hb hx
        obtain ⟨j, hj, rfl, hb, hx⟩ := hrel
        by_cases hlt2 : j < l.length
        · obtain ⟨ad2, rfl, hadb2, hcell⟩ := (hr2.below hb).get hlt2
          rw [byteCells_get l j hlt2] at hcell
          go_wp2_with fail
          refine (hand_any _ _ _ _ hx).mono ?_
          rintro e w2 ⟨rfl, rfl⟩
          go_wp2_with fail
          go_roundw
          case rel =>
            refine ⟨j + 1, by omega, by go_num, ((hb.setCell (by simp) _).drew), ?_⟩
            have h1 := one_setCell (u := .int .u32 (Crc.U (Crc.run (Crc.run (Crc.reg (ls.take k).flatten) (Crc.bitsOf (l.take j))) (Crc.bits8 l[j])))) hx
            rw [List.take_succ_eq_append_getElem hlt2, bitsOf_snoc]
            exact h1
          case measure => simp [intOf]; omega
        · have hje : j = l.length := by omega
          go_wp2_with fail
          go_roundw
          case rel =>
            refine ⟨k + 1, by omega, by go_num, hb, ?_⟩
            subst hje
            rw [List.take_length] at hx
            rw [List.take_succ_eq_append_getElem hkl, List.flatten_append, Crc.reg_append, ← Hl.out]
            simpa using hx
          case measure => simp [intOf]; omega
    · have hke : k = n := by omega
      go_wp2_with fail
      refine (left_any _ _ _ hx).mono ?_
      rintro e w2 ⟨rfl, rfl⟩
      go_wp2_with fail
      go_ret
      refine ⟨?_, hb⟩
      subst hke
      have : ls.take k = ls := List.take_of_length_le (by rw [← Hpl.out, Hlen.out]; exact Nat.le_refl _)
      rw [this]
      rfl
end Go.Proofs.Ytbbikkncobgabaa
