/-
  code.Reader: Left, Err, Fail, End; NewReader. By an AI agent.
-/
import Derived.Test.YtbbikkncobgabaaDoorText
namespace Go.Proofs.YtbbikkncobgabaaDoor
open Go.RowKit

set_option maxRecDepth 100000 in
set_option maxHeartbeats 1000000 in
theorem left_rd (R : Nat) (l : List UInt8) (p : Nat) (bad : Bool) (w : World) (h : Rd w R l p bad) (hm : l.length ≤ 140737488355328) :
    Calls Tryd.prog 23 #[.pointer (some ⟨R, 0, none⟩)] w fun e w' => e = .returned (.int .i64 ((l.length : Int) - (p : Int))) ∧ Rd w' R l p bad ∧ w.grownBy w' none := by
  have h' := h
  obtain ⟨A, cap, hb, hlc, hcm, hp, hA, hr⟩ := h
  have c0 : w.cell? ⟨R, 0, none⟩ = some (.slice A l.length cap) := hb.cell 0
  have c1 : w.cell? ⟨R, 1, none⟩ = some (.int .i64 p) := hb.cell 1
  have hsub : IntKind.i64.wrap ((l.length : Int) - (p : Int)) = (l.length : Int) - (p : Int) := IntWalk.i64_in _ (by omega)
  clear hb hr hA
  go_enter Tryd.func23, Tryd.ntmps23
  go_wp2_with fail
  go_quiet (fail)
  go_wp2_with fail
  go_ret
  exact ⟨rfl, h', only_drewN (World.grownBy.refl _ _) _⟩

theorem left_nil (w : World) : Calls Tryd.prog 23 #[.pointer none] w fun e w' => e = .returned (.int .i64 0) ∧ w = w' := by
  go_enter Tryd.func23, Tryd.ntmps23
  go_wp2_with fail
  go_ret
  exact ⟨rfl, rfl⟩

theorem err_rd (R : Nat) (l : List UInt8) (p : Nat) (bad : Bool) (w : World) (h : Rd w R l p bad) :
    Calls Tryd.prog 24 #[.pointer (some ⟨R, 0, none⟩)] w fun e w' => e = .returned (.int .i64 (if bad then 2 else 0)) ∧ w = w' := by
  obtain ⟨A, cap, hb, _⟩ := h
  have c2 : w.cell? ⟨R, 2, none⟩ = some (.bool bad) := hb.cell 2
  clear hb
  cases bad
  · go_enter Tryd.func24, Tryd.ntmps24
    go_wp2_with fail
    go_ret
    exact ⟨rfl, rfl⟩
  · go_enter Tryd.func24, Tryd.ntmps24
    go_wp2_with fail
    go_ret
    exact ⟨rfl, rfl⟩
theorem err_nil (w : World) : Calls Tryd.prog 24 #[.pointer none] w fun e w' => e = .returned (.int .i64 2) ∧ w = w' := by
  go_enter Tryd.func24, Tryd.ntmps24
  go_wp2_with fail
  go_ret
  exact ⟨rfl, rfl⟩

theorem fail_rd (R : Nat) (l : List UInt8) (p : Nat) (bad : Bool) (w : World) (h : Rd w R l p bad) :
    Calls Tryd.prog 35 #[.pointer (some ⟨R, 0, none⟩)] w fun e w' => e = .returned (.tuple #[]) ∧ Rd w' R l p true ∧ w.grownBy w' (some R) ∧ w'.heap.size = w.heap.size := by
  obtain ⟨A, cap, hb, hlc, hcm, hp, hA, hr⟩ := h
  have c2 : w.cell? ⟨R, 2, none⟩ = some (.bool bad) := hb.cell 2
  have f2 := hb.frozen 2
  have hrd : Rd (w.setCell ⟨R, 2, none⟩ (.bool true)) R l p true := ⟨A, cap, hb.set_ 2 (.bool true), hlc, hcm, hp, hA, hr.setCell (p := ⟨R, 2, none⟩) (Nat.le_refl _) _⟩
  clear hb hr hA
  go_enter Tryd.func35, Tryd.ntmps35
  go_wp2_with fail
  go_end0
  exact ⟨rfl, hrd, only_setCell (World.grownBy.refl _ _) (Or.inl rfl) _, by simp⟩
theorem fail_nil (w : World) : Calls Tryd.prog 35 #[.pointer none] w fun e w' => e = .returned (.tuple #[]) ∧ w = w' := by
  go_enter Tryd.func35, Tryd.ntmps35
  go_wp2_with fail
  go_end0
  exact ⟨rfl, rfl⟩

theorem end_rd (R : Nat) (l : List UInt8) (p : Nat) (bad : Bool) (w : World) (h : Rd w R l p bad) (hm : l.length ≤ 140737488355328) :
    Calls Tryd.prog 33 #[.pointer (some ⟨R, 0, none⟩)] w fun e w' => e = .returned (.int .i64 (if bad || decide (p < l.length) then 2 else 0)) ∧ Rd w' R l p (bad || decide (p < l.length)) ∧ w.grownBy w' (some R) := by
  have hp : p ≤ l.length := by obtain ⟨_, _, _, _, _, hp, _⟩ := h; exact hp
  by_cases hlt : p < l.length
  · have hd : decide ((0 : Int) < (l.length : Int) - (p : Int)) = true := by rw [decide_eq_true_eq]; omega
    have e1 : (bad || decide (p < l.length)) = true := by simp [hlt]
    rw [e1]
    clear e1
    go_enter Tryd.func33, Tryd.ntmps33
    go_wp2_with fail
    refine (left_rd R l p bad _ h hm).mono ?_
    rintro e w1 ⟨rfl, hrd1, hgr1⟩
    go_wp2_with fail
    refine (fail_rd R l p bad _ hrd1).mono ?_
    rintro e w2 ⟨rfl, hrd2, hgr2, -⟩
    go_wp2_with fail
    refine (err_rd R l p true _ hrd2).mono ?_
    rintro e w3 ⟨rfl, rfl⟩
    go_wp2_with fail
    go_ret
    exact ⟨rfl, hrd2, (only_but hgr1 (some R)).trans hgr2⟩
  · have hd : decide ((0 : Int) < (l.length : Int) - (p : Int)) = false := by rw [decide_eq_false_iff_not]; omega
    have e1 : (bad || decide (p < l.length)) = bad := by simp [hlt]
    rw [e1]
    clear e1
    cases bad
    all_goals
      go_enter Tryd.func33, Tryd.ntmps33
      go_wp2_with fail
      refine (left_rd R l p _ _ h hm).mono ?_
      rintro e w1 ⟨rfl, hrd1, hgr1⟩
      go_wp2_with fail
      refine (err_rd R l p _ _ hrd1).mono ?_
      rintro e w3 ⟨rfl, rfl⟩
      go_wp2_with fail
      go_ret
      exact ⟨rfl, hrd1, only_but hgr1 (some R)⟩
theorem end_nil (w : World) : Calls Tryd.prog 33 #[.pointer none] w fun e w' => e = .returned (.int .i64 2) ∧ w = w' := by
  go_enter Tryd.func33, Tryd.ntmps33
  go_wp2_with fail
  refine (left_nil _).mono ?_
  rintro e w1 ⟨rfl, rfl⟩
  go_wp2_with fail
  refine (err_nil _).mono ?_
  rintro e w1 ⟨rfl, rfl⟩
  go_wp2_with fail
  go_ret
  exact ⟨rfl, rfl⟩

/-- the shape of a row that a call owns, nil's too -/
theorem Owns.form2 {w : World} {base : Nat} {v : Value} {l : List UInt8} (h : Owns w base v l) : ∃ A c, v = .slice A l.length c ∧ l.length ≤ c ∧ c ≤ maxLen ∧ (A = none → c = 0) ∧ Reads w w.heap.size 1 A l.length (Lib.byteCells l) := by
  have h' := h
  obtain ⟨h1, h2⟩ := h
  rcases h2 with ⟨rfl, hx⟩ | ⟨g, cap, cur, rfl, hg, hh, hnc, hm, r⟩
  · have : l = [] := by simpa [Lib.byteCells] using hx
    subst this
    exact ⟨none, 0, rfl, Nat.le_refl _, Nat.zero_le _, fun _ => rfl, Reads.none_⟩
  · exact ⟨some ⟨g, 0, none⟩, cap, rfl, hnc, hm, (fun e => by cases e), Reads.of_own h'⟩

/-- a new reader -/
def NewRd (l : List UInt8) (w : World) (e : Ending) (w' : World) : Prop := ∃ R, e = .returned (.pointer (some ⟨R, 0, none⟩)) ∧ w.heap.size ≤ R ∧ Rd w' R l 0 false ∧ Below w.heap.size w w'

set_option maxRecDepth 100000 in
set_option maxHeartbeats 1000000 in
theorem newReader_any (A : Option Addr) (n c : Nat) (l : List UInt8) (w : World) (hn : n = l.length) (hc : n ≤ c) (hm : n ≤ 140737488355328) (hA : A = none → c = 0) (hr : Reads w w.heap.size 1 A n (Lib.byteCells l)) :
    Calls Tryd.prog 21 #[.slice A n c] w (NewRd l w) := by
  have Hn := Lib.hid hn
  clear hn
  go_enter Tryd.func21, Tryd.ntmps21
  go_wp2_with fail
  refine (clone_any A n c l _ Hn.out hc hm hA _ (Nat.le_refl _) hr).mono ?_
  rintro e w1 ⟨v, rfl, hown, hb⟩
  obtain ⟨A1, c1, rfl, h1, h2, h3, h4⟩ := hown.form2
  have hs := hb.size
  have hrd : Rd (w1.alloc (.cells #[.slice A1 l.length c1, .int .i64 0, .bool false] 58)) w1.heap.size l 0 false := ⟨A1, c1, Blk.new _ _ _, h1, h2, Nat.zero_le _, h3, h4.alloc (Nat.le_refl _) _⟩
  have Hrd := Lib.hid hrd
  have Hb := Lib.hid hb
  clear hrd h3 h4 hown hr hA hb
  go_wp2_with fail
  go_ret
  exact ⟨_, rfl, hs, Hrd.out, Hb.out.alloc hs _⟩
end Go.Proofs.YtbbikkncobgabaaDoor
