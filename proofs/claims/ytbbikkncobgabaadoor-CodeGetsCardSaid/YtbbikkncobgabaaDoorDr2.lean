/-
  scrivenerref02.Reader: Raw where there is not so much; Wide; End. By an AI agent.
-/
import Derived.Test.YtbbikkncobgabaaDoorDr
import Derived.Laws.BitsAllLaws
namespace Go.Proofs.YtbbikkncobgabaaDoor
open Go.RowKit

/-- how a failing reading ends -/
def BadD (lo D : Nat) (l : List UInt8) (v : Value) (w : World) (e : Ending) (w' : World) : Prop := e = .returned v ∧ Dr w' lo D l true ∧ w.grownBy w' (some D)

set_option maxRecDepth 100000 in
set_option maxHeartbeats 4000000 in
theorem rawD_no (lo D : Nat) (l : List UInt8) (n : Int) (bad : Bool) (w : World) (h : Dr w lo D l bad) (hn : n < 0 ∨ (l.length : Int) < n ∨ bad = true) (hs : l.length ≤ 1000000) :
    Calls Tryd.prog 32 #[.pointer (some ⟨D, 0, none⟩), .int .i64 n] w (BadD lo D l (.slice none 0 0) w) := by
  have hsp := h.spoil
  have Hsp := Lib.hid hsp
  have hgr : w.grownBy (w.setCell ⟨D, 1, none⟩ (.bool true)) (some D) := only_setCell (World.grownBy.refl _ _) (Or.inl rfl) _
  obtain ⟨hlo, A, c, hb, hlc, hcm, hA, hr, hfar⟩ := h
  obtain ⟨N, hN⟩ : ∃ N, N = l.length := ⟨_, rfl⟩
  rw [← hN] at hb hlc hn hs
  have c0 : w.cell? ⟨D, 0, none⟩ = some (.slice A N c) := hb.cell 0
  have c1 : w.cell? ⟨D, 1, none⟩ = some (.bool bad) := hb.cell 1
  have f1 := hb.frozen 1
  clear hN hb hr hfar hA hsp
  by_cases h0 : n < 0
  · have hd0 : decide (n < 0) = true := by rw [decide_eq_true_eq]; exact h0
    clear hn
    go_enter Tryd.func32, Tryd.ntmps32
    go_wp2_with fail
    go_ret
    exact ⟨rfl, Hsp.out, hgr⟩
  · have hd0 : decide (n < 0) = false := by rw [decide_eq_false_iff_not]; exact h0
    by_cases h1 : (N : Int) < n
    · have hd1 : decide ((N : Int) < n) = true := by rw [decide_eq_true_eq]; exact h1
      clear hn
      go_enter Tryd.func32, Tryd.ntmps32
      go_wp2_with fail
      go_ret
      exact ⟨rfl, Hsp.out, hgr⟩
    · have hd1 : decide ((N : Int) < n) = false := by rw [decide_eq_false_iff_not]; exact h1
      obtain rfl : bad = true := by rcases hn with h | h | h; exact absurd h h0; exact absurd h h1; exact h
      clear hn
      go_enter Tryd.func32, Tryd.ntmps32
      go_wp2_with fail
      go_ret
      exact ⟨rfl, Hsp.out, hgr⟩

theorem endD (lo D : Nat) (l : List UInt8) (bad : Bool) (w : World) (h : Dr w lo D l bad) (hs : l.length ≤ 1000000) :
    Calls Tryd.prog 34 #[.pointer (some ⟨D, 0, none⟩)] w fun e w' => e = .returned (.bool (bad || decide (0 < l.length))) ∧ w.grownBy w' (some D) := by
  have hgr : w.grownBy (w.setCell ⟨D, 1, none⟩ (.bool true)) (some D) := only_setCell (World.grownBy.refl _ _) (Or.inl rfl) _
  obtain ⟨hlo, A, c, hb, hlc, hcm, hA, hr, hfar⟩ := h
  obtain ⟨N, hN⟩ : ∃ N, N = l.length := ⟨_, rfl⟩
  rw [← hN] at hb hs ⊢
  have c0 : w.cell? ⟨D, 0, none⟩ = some (.slice A N c) := hb.cell 0
  have c1 : w.cell? ⟨D, 1, none⟩ = some (.bool bad) := hb.cell 1
  have f1 := hb.frozen 1
  clear hN hb hr hfar hA hlc
  by_cases h0 : 0 < N
  · have hd0 : decide ((0 : Int) < (N : Int)) = true := by rw [decide_eq_true_eq]; omega
    rw [show (bad || decide (0 < N)) = true by simp [h0]]
    go_enter Tryd.func34, Tryd.ntmps34
    go_wp2_with fail
    go_ret
    exact ⟨rfl, hgr⟩
  · obtain rfl : N = 0 := by omega
    rw [show (bad || decide (0 < 0)) = bad by simp]
    go_enter Tryd.func34, Tryd.ntmps34
    go_wp2_with fail
    go_ret
    exact ⟨rfl, World.grownBy.refl _ _⟩
end Go.Proofs.YtbbikkncobgabaaDoor
