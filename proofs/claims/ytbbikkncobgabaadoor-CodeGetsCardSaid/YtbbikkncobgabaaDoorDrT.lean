/-
  scrivenerref02.Reader: Uint, Text. By an AI agent.
-/
import Derived.Test.YtbbikkncobgabaaDoorDrU
namespace Go.Proofs.YtbbikkncobgabaaDoor
open Go.RowKit

/-- the document's number, as num has it -/
theorem doc_num (l : List UInt8) : (∃ x k, num 0 0 l = some (x, k) ∧ docNum l = (x, k) ∧ 0 < k ∧ k ≤ l.length ∧ x < 18446744073709551616) ∨ (num 0 0 l = none ∧ docNum l = (0, 0)) := by
  rcases h : num 0 0 l with _ | ⟨x, k⟩
  · exact .inr ⟨rfl, docNum_none l h⟩
  · obtain ⟨h1, h2⟩ := docNum_some l x k h
    obtain ⟨h3, _, _, h6⟩ := dig_num0 l x k h
    exact .inl ⟨x, k, rfl, h1, h2, h6, h3⟩

theorem Dr.cells {w : World} {lo D : Nat} {l : List UInt8} {bad : Bool} (h : Dr w lo D l bad) : ∃ A c, w.cell? ⟨D, 0, none⟩ = some (.slice A l.length c) ∧ w.cell? ⟨D, 1, none⟩ = some (.bool bad) ∧ w.frozen? ⟨D, 1, none⟩ = false := by
  obtain ⟨_, A, c, hb, _⟩ := h
  exact ⟨A, c, hb.cell 0, hb.cell 1, hb.frozen 1⟩

set_option maxRecDepth 100000 in
set_option maxHeartbeats 4000000 in
theorem uintD_ok (lo D : Nat) (l : List UInt8) (x k : Nat) (w : World) (h : Dr w lo D l false) (hx : num 0 0 l = some (x, k)) (hs : l.length ≤ 1000000) :
    Calls Tryd.prog 30 #[.pointer (some ⟨D, 0, none⟩)] w (NumD lo D l x k w) := by
  obtain ⟨hd, hk⟩ := docNum_some l x k hx
  obtain ⟨-, -, -, hkl⟩ := dig_num0 l x k hx
  have hnum := numberD lo D l false w h hs
  unfold NumberD at hnum
  rw [hd] at hnum
  have HNum := Lib.hid hnum
  have hke : ((k : Int) == 0) = false := by rw [beq_eq_false_iff_ne]; omega
  clear hnum hd hx
  go_enter Tryd.func30, Tryd.ntmps30
  go_wp2_with fail
  refine HNum.out.mono ?_
  rintro e w1 ⟨rfl, hb1⟩
  have hd1 := h.kept (row := none) (only_of_below hb1 none) (by simp)
  obtain ⟨A, c, c0, c1, f1⟩ := hd1.cells
  clear c0 f1
  go_wp2_with fail
  refine (rawD_ok lo D l k w1 hd1 hkl hs).mono ?_
  rintro e w2 ⟨v, rfl, -, hd2, hg2⟩
  have hgr := (only_of_below hb1 (some D)).trans hg2
  clear c1 hd1 hg2 hb1 HNum hke
  go_wp2_with fail
  go_ret
  exact ⟨rfl, hd2, hgr⟩

set_option maxRecDepth 100000 in
set_option maxHeartbeats 4000000 in
theorem uintD_no (lo D : Nat) (l : List UInt8) (bad : Bool) (w : World) (h : Dr w lo D l bad) (hx : num 0 0 l = none ∨ bad = true) (hs : l.length ≤ 1000000) :
    Calls Tryd.prog 30 #[.pointer (some ⟨D, 0, none⟩)] w (BadD lo D l (.int .u64 0) w) := by
  have hnum := numberD lo D l bad w h hs
  unfold NumberD at hnum
  rcases doc_num l with ⟨x, k, h1, hd, hk, -, -⟩ | ⟨-, hd⟩
  · have hbt : bad = true := by rcases hx with hx | hx; rw [h1] at hx; cases hx; exact hx
    subst hbt
    rw [hd] at hnum
    have HNum := Lib.hid hnum
    have hke : ((k : Int) == 0) = false := by rw [beq_eq_false_iff_ne]; omega
    clear hnum hd hx h1
    go_enter Tryd.func30, Tryd.ntmps30
    go_wp2_with fail
    refine HNum.out.mono ?_
    rintro e w1 ⟨rfl, hb1⟩
    have hd1 := h.kept (row := none) (only_of_below hb1 none) (by simp)
    obtain ⟨A, c, c0, c1, f1⟩ := hd1.cells
    have hsp := Lib.hid hd1.spoil
    have hgr : w.grownBy (w1.setCell ⟨D, 1, none⟩ (.bool true)) (some D) := only_setCell (only_of_below hb1 (some D)) (Or.inl rfl) _
    clear c0 hd1 hb1 HNum
    go_wp2_with fail
    go_ret
    exact ⟨rfl, hsp.out, hgr⟩
  · rw [hd] at hnum
    have HNum := Lib.hid hnum
    clear hnum hd hx
    go_enter Tryd.func30, Tryd.ntmps30
    go_wp2_with fail
    refine HNum.out.mono ?_
    rintro e w1 ⟨rfl, hb1⟩
    have hd1 := h.kept (row := none) (only_of_below hb1 none) (by simp)
    obtain ⟨A, c, c0, c1, f1⟩ := hd1.cells
    have hsp := Lib.hid hd1.spoil
    have hgr : w.grownBy (w1.setCell ⟨D, 1, none⟩ (.bool true)) (some D) := only_setCell (only_of_below hb1 (some D)) (Or.inl rfl) _
    clear c0 hd1 hb1 HNum
    go_wp2_with fail
    go_ret
    exact ⟨rfl, hsp.out, hgr⟩

/-- how a good reading of a text ends -/
def TextD (lo D : Nat) (l t : List UInt8) (n : Nat) (w : World) (e : Ending) (w' : World) : Prop := e = .returned (.string (str t)) ∧ Dr w' lo D (l.drop n) false ∧ w.grownBy w' (some D)

set_option maxRecDepth 100000 in
set_option maxHeartbeats 4000000 in
theorem textD_ok (lo D : Nat) (l : List UInt8) (most : Int) (k x : Nat) (w : World) (h : Dr w lo D l false) (hx : text most l = some (k, x)) (hmost : most ≤ 9223372036854775807) (hs : l.length ≤ 1000000) :
    Calls Tryd.prog 31 #[.pointer (some ⟨D, 0, none⟩), .int .i64 most] w (TextD lo D l ((l.drop k).take x) (k + x) w) := by
  unfold text at hx
  rcases doc_num l with ⟨x', k', h1, hd, hk, hkl, hxl⟩ | ⟨h1, -⟩
  · rw [h1] at hx
    simp only at hx
    split at hx
    · rename_i hc
      injection hx with hx
      injection hx with e1 e2
      subst e1 e2
      obtain ⟨m0, m1, m2⟩ := hc
      have hnum := numberD lo D l false w h hs
      unfold NumberD at hnum
      rw [hd] at hnum
      have HNum := Lib.hid hnum
      have hke : ((k' : Int) == 0) = false := by rw [beq_eq_false_iff_ne]; omega
      have d1 : decide (most < 0) = false := by rw [decide_eq_false_iff_not]; omega
      have d2 : decide (most < (x' : Int)) = false := by rw [decide_eq_false_iff_not]; omega
      have w1' : IntKind.u64.wrap most = most := by rw [IntKind.wrap_u64]; omega
      obtain ⟨N, hN⟩ : ∃ N, N = l.length := ⟨_, rfl⟩
      have HN := Lib.hid hN
      have d3 : decide ((N : Int) - (k' : Int) < (x' : Int)) = false := by rw [decide_eq_false_iff_not]; omega
      have w2' : IntKind.u64.wrap ((N : Int) - (k' : Int)) = (N : Int) - (k' : Int) := by rw [IntKind.wrap_u64]; omega
      have w3' : IntKind.i64.wrap (x' : Int) = (x' : Int) := by rw [IntKind.wrap_i64]; omega
      have hNs : N ≤ 1000000 := by omega
      clear hnum hd h1 hN
      go_enter Tryd.func31, Tryd.ntmps31
      go_wp2_with fail
      refine HNum.out.mono ?_
      rintro e w1 ⟨rfl, hb1⟩
      have hd1 := h.kept (row := none) (only_of_below hb1 none) (by simp)
      obtain ⟨A, c, c0, c1, f1⟩ := hd1.cells
      rw [← HN.out] at c0
      clear f1
      go_wp2_with fail
      refine (rawD_ok lo D l k' w1 hd1 hkl hs).mono ?_
      rintro e w2 ⟨v, rfl, -, hd2, hg2⟩
      have hgr := (only_of_below hb1 (some D)).trans hg2
      clear c0 c1 hd1 hg2 hb1 HNum d1 d2 d3 w1' w2'
      go_wp2_with fail
      refine (rawD_ok lo D (l.drop k') x' w2 hd2 (by rw [List.length_drop]; omega) (by rw [List.length_drop]; omega)).mono ?_
      rintro e w3 ⟨v3, rfl, hown3, hd3, hg3⟩
      have hgr3 := hgr.trans hg3
      have hcv := hown3.conv
      rw [List.drop_drop] at hd3
      clear hgr hg3 hd2 hown3
      go_wp2_with fail
      go_ret
      exact ⟨rfl, hd3, hgr3⟩
    · cases hx
  · rw [h1] at hx; cases hx
end Go.Proofs.YtbbikkncobgabaaDoor
