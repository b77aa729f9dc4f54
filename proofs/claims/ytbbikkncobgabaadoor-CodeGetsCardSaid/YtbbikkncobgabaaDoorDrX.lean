/-
  scrivenerref02.Reader.Text where there is none. By an AI agent.
-/
import Derived.Test.YtbbikkncobgabaaDoorDrT
namespace Go.Proofs.YtbbikkncobgabaaDoor
open Go.RowKit

set_option maxRecDepth 100000 in
set_option maxHeartbeats 8000000 in
theorem textD_no (lo D : Nat) (l : List UInt8) (most : Int) (bad : Bool) (w : World) (h : Dr w lo D l bad) (hx : text most l = none ∨ bad = true) (hmost : most ≤ 9223372036854775807) (hs : l.length ≤ 1000000) :
    Calls Tryd.prog 31 #[.pointer (some ⟨D, 0, none⟩), .int .i64 most] w (BadD lo D l (.string ⟨#[]⟩) w) := by
  have hnum := numberD lo D l bad w h hs
  unfold NumberD at hnum
  obtain ⟨N, hN⟩ : ∃ N, N = l.length := ⟨_, rfl⟩
  have HN := Lib.hid hN
  have hNs : N ≤ 1000000 := by omega
  rcases doc_num l with ⟨x, k, h1, hd, hk, hkl, hxl⟩ | ⟨h1, hd⟩
  · rw [hd] at hnum
    have HNum := Lib.hid hnum
    have hke : ((k : Int) == 0) = false := by rw [beq_eq_false_iff_ne]; omega
    have hkN : k ≤ N := by omega
    have hcase : bad = true ∨ ¬ (0 ≤ most ∧ (x : Int) ≤ most ∧ k + x ≤ N) := by
      rcases hx with hx | hx
      · right
        intro hc
        unfold text at hx
        rw [h1] at hx
        simp only at hx
        rw [if_pos (by rw [← hN]; exact hc)] at hx
        cases hx
      · exact .inl hx
    clear hnum hd h1 hx hN
    cases bad
    rotate_left
    · clear hcase
      go_enter Tryd.func31, Tryd.ntmps31
      go_wp2_with fail
      refine HNum.out.mono ?_
      rintro e w1 ⟨rfl, hb1⟩
      have hd1 := h.kept (row := none) (only_of_below hb1 none) (by simp)
      obtain ⟨A, c, c0, c1, f1⟩ := hd1.cells
      rw [← HN.out] at c0
      have hsp := Lib.hid hd1.spoil
      have hgr : w.grownBy (w1.setCell ⟨D, 1, none⟩ (.bool true)) (some D) := only_setCell (only_of_below hb1 (some D)) (Or.inl rfl) _
      clear hd1 hb1 HNum
      go_wp2_with fail
      go_ret
      exact ⟨rfl, hsp.out, hgr⟩
    · have hno : ¬ (0 ≤ most ∧ (x : Int) ≤ most ∧ k + x ≤ N) := by rcases hcase with h | h; cases h; exact h
      clear hcase
      by_cases g0 : most < 0
      · have d1 : decide (most < 0) = true := by rw [decide_eq_true_eq]; exact g0
        clear hno
        go_enter Tryd.func31, Tryd.ntmps31
        go_wp2_with fail
        refine HNum.out.mono ?_
        rintro e w1 ⟨rfl, hb1⟩
        have hd1 := h.kept (row := none) (only_of_below hb1 none) (by simp)
        obtain ⟨A, c, c0, c1, f1⟩ := hd1.cells
        rw [← HN.out] at c0
        have hsp := Lib.hid hd1.spoil
        have hgr : w.grownBy (w1.setCell ⟨D, 1, none⟩ (.bool true)) (some D) := only_setCell (only_of_below hb1 (some D)) (Or.inl rfl) _
        clear hd1 hb1 HNum
        go_wp2_with fail
        go_ret
        exact ⟨rfl, hsp.out, hgr⟩
      · have d1 : decide (most < 0) = false := by rw [decide_eq_false_iff_not]; exact g0
        have w1' : IntKind.u64.wrap most = most := by rw [IntKind.wrap_u64]; omega
        by_cases g1 : most < (x : Int)
        · have d2 : decide (most < (x : Int)) = true := by rw [decide_eq_true_eq]; exact g1
          clear hno
          go_enter Tryd.func31, Tryd.ntmps31
          go_wp2_with fail
          refine HNum.out.mono ?_
          rintro e w1 ⟨rfl, hb1⟩
          have hd1 := h.kept (row := none) (only_of_below hb1 none) (by simp)
          obtain ⟨A, c, c0, c1, f1⟩ := hd1.cells
          rw [← HN.out] at c0
          have hsp := Lib.hid hd1.spoil
          have hgr : w.grownBy (w1.setCell ⟨D, 1, none⟩ (.bool true)) (some D) := only_setCell (only_of_below hb1 (some D)) (Or.inl rfl) _
          clear hd1 hb1 HNum
          go_wp2_with fail
          go_ret
          exact ⟨rfl, hsp.out, hgr⟩
        · have d2 : decide (most < (x : Int)) = false := by rw [decide_eq_false_iff_not]; exact g1
          have d3 : decide ((N : Int) - (k : Int) < (x : Int)) = true := by rw [decide_eq_true_eq]; omega
          have w2' : IntKind.u64.wrap ((N : Int) - (k : Int)) = (N : Int) - (k : Int) := by rw [IntKind.wrap_u64]; omega
          clear hno
          go_enter Tryd.func31, Tryd.ntmps31
          go_wp2_with fail
          refine HNum.out.mono ?_
          rintro e w1 ⟨rfl, hb1⟩
          have hd1 := h.kept (row := none) (only_of_below hb1 none) (by simp)
          obtain ⟨A, c, c0, c1, f1⟩ := hd1.cells
          rw [← HN.out] at c0
          have hsp := Lib.hid hd1.spoil
          have hgr : w.grownBy (w1.setCell ⟨D, 1, none⟩ (.bool true)) (some D) := only_setCell (only_of_below hb1 (some D)) (Or.inl rfl) _
          clear hd1 hb1 HNum
          go_wp2_with fail
          go_ret
          exact ⟨rfl, hsp.out, hgr⟩
  · rw [hd] at hnum
    have HNum := Lib.hid hnum
    clear hnum hd h1 hx hN
    go_enter Tryd.func31, Tryd.ntmps31
    go_wp2_with fail
    refine HNum.out.mono ?_
    rintro e w1 ⟨rfl, hb1⟩
    have hd1 := h.kept (row := none) (only_of_below hb1 none) (by simp)
    obtain ⟨A, c, c0, c1, f1⟩ := hd1.cells
    rw [← HN.out] at c0
    have hsp := Lib.hid hd1.spoil
    have hgr : w.grownBy (w1.setCell ⟨D, 1, none⟩ (.bool true)) (some D) := only_setCell (only_of_below hb1 (some D)) (Or.inl rfl) _
    clear hd1 hb1 HNum
    go_wp2_with fail
    go_ret
    exact ⟨rfl, hsp.out, hgr⟩
end Go.Proofs.YtbbikkncobgabaaDoor
