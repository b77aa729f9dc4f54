/-
  code.Reader.Text. By an AI agent.
-/
import Derived.Test.YtbbikkncobgabaaDoorRaw
namespace Go.Proofs.YtbbikkncobgabaaDoor
open Go.RowKit

/-- a text of at most so many bytes: how many bytes its number has, how many it has -/
def text (most : Int) (l : List UInt8) : Option (Nat × Nat) :=
  match num 0 0 l with
  | none => none
  | some (x, k) => if 0 ≤ most ∧ (x : Int) ≤ most ∧ k + x ≤ l.length then some (k, x) else none

set_option maxRecDepth 100000 in
set_option maxHeartbeats 2000000 in
theorem text_way_ok (R : Nat) (l : List UInt8) (p k x : Nat) (most : Int) (a m b : Nat) (u : Value) (w1 : World) (h : Rd w1 R l p false) (ha : Var w1 a (.pointer (some ⟨R, 0, none⟩))) (hm1 : Var w1 m (.int .i64 most)) (hb : Var w1 b u) (hRm : R < m) (hRa : R < a) (hRb : R < b)
    (hx : num 0 0 (l.drop p) = some (x, k)) (h0 : 0 ≤ most) (h1 : (x : Int) ≤ most) (h2 : most ≤ 9223372036854775807) (hp : p + k + x ≤ l.length) (hm : l.length ≤ 140737488355328) :
    Calls Tryd.prog 65 #[.pointer (some ⟨a, 0, none⟩), .pointer (some ⟨m, 0, none⟩), .pointer (some ⟨b, 0, none⟩)] w1 fun e w2 => e = .returned (.tuple #[]) ∧ Rd w2 R l (p + (k + x)) false ∧ Var w2 b (.string (str ((l.drop (p + k)).take x))) ∧
      ∀ w : World, w.grownBy w1 (some R) → w.heap.size ≤ b → w.grownBy w2 (some R) := by
  have ca := ha.1
  have Hx := Lib.hid hx
  clear hx
  go_enter Tryd.func65, Tryd.ntmps65
  go_wp2_with fail
  refine (number_any R l p false _ h hm).mono ?_
  rintro e w2 ⟨hgr1, hsz1, ⟨x', n', hx', rfl, hrd1⟩ | ⟨hx', _⟩⟩
  · have hxx := Hx.out
    rw [hx'] at hxx
    injection hxx with hxx
    injection hxx with e1 e2
    subst e1 e2
    have ha2 := ha.far hgr1 (by simp; omega)
    have hm2 := hm1.far hgr1 (by simp; omega)
    have hb2 := hb.far hgr1 (by simp; omega)
    have ca2 := ha2.1
    have cm2 := hm2.1
    have hu : IntKind.u64.wrap most = most := by rw [IntKind.wrap_u64]; omega
    have hd0 : decide ((0 : Int) ≤ most) = true := by rw [decide_eq_true_eq]; omega
    have hd1 : decide ((x' : Int) ≤ most) = true := by rw [decide_eq_true_eq]; omega
    have hi : IntKind.i64.wrap (x' : Int) = (x' : Int) := IntWalk.i64_in _ (by omega)
    clear hx' hsz1
    go_wp2_with fail
    refine (must_ok _).mono ?_
    rintro e w3 ⟨rfl, rfl⟩
    go_wp2_with fail
    refine (next_ok R l (p + n') x' false _ hrd1 hp hm).mono ?_
    rintro e w4 ⟨⟨A', rfl, hr4⟩, hrd4, hgr4, hsz4⟩
    have hcv := conv_bytes w4 R A' x' x' ((l.drop (p + n')).take x') (by simp; omega) hr4
    have hb4 := hb2.far hgr4 (by simp; omega)
    have hgr5 := hgr1.trans hgr4
    have cb := hb4.1
    have fb := hb4.2
    have hst := hb4.set (.string (str ((l.drop (p + n')).take x')))
    have hrd5 := hrd4.set_ hRb (.string (str ((l.drop (p + n')).take x')))
    clear hr4 hsz4 hu hd0 hd1 hi
    go_wp2_with fail
    go_end0
    exact ⟨rfl, by rw [← Nat.add_assoc]; exact hrd5, hst, fun w hw hwb => only_setCell (hw.trans hgr5) (Or.inr hwb) _⟩
  · rw [Hx.out] at hx'; cases hx'

set_option maxRecDepth 100000 in
set_option maxHeartbeats 2000000 in
theorem text_way_no (R : Nat) (l : List UInt8) (p : Nat) (most : Int) (a m b : Nat) (w1 : World) (h : Rd w1 R l p false) (ha : Var w1 a (.pointer (some ⟨R, 0, none⟩))) (hm1 : Var w1 m (.int .i64 most)) (hRm : R < m) (hRa : R < a)
    (hx : text most (l.drop p) = none) (h2 : most ≤ 9223372036854775807) (hm : l.length ≤ 140737488355328) :
    Calls Tryd.prog 65 #[.pointer (some ⟨a, 0, none⟩), .pointer (some ⟨m, 0, none⟩), .pointer (some ⟨b, 0, none⟩)] w1 fun e w2 => e = .panicked gives ∧ (∃ q, Rd w2 R l q false) ∧ w1.grownBy w2 (some R) := by
  have ca := ha.1
  have Hx := Lib.hid hx
  clear hx
  go_enter Tryd.func65, Tryd.ntmps65
  go_wp2_with fail
  refine (number_any R l p false _ h hm).mono ?_
  rintro e w2 ⟨hgr1, hsz1, ⟨x, k, hx', rfl, hrd1⟩ | ⟨hx', rfl, q, hrd⟩⟩
  · have hxx := Hx.out
    rw [text, hx'] at hxx
    have hno : ¬ (0 ≤ most ∧ (x : Int) ≤ most ∧ k + x ≤ (l.drop p).length) := fun hc => by simp only [if_pos hc] at hxx; cases hxx
    rw [List.length_drop] at hno
    have ha2 := ha.far hgr1 (by simp; omega)
    have hm2 := hm1.far hgr1 (by simp; omega)
    have ca2 := ha2.1
    have cm2 := hm2.1
    have hpk : p + k ≤ l.length := by obtain ⟨_, _, _, _, _, hpk, _⟩ := hrd1; exact hpk
    clear hx' hsz1 hxx
    rcases (by omega : most < 0 ∨ (0 ≤ most ∧ most < (x : Int)) ∨ (0 ≤ most ∧ (x : Int) ≤ most)) with h0 | ⟨h0, h1⟩ | ⟨h0, h1⟩
    · have hd0 : decide ((0 : Int) ≤ most) = false := by rw [decide_eq_false_iff_not]; omega
      clear hno
      go_wp2_with fail
      refine (must_no _).mono ?_
      rintro e w3 ⟨rfl, rfl⟩
      go_wp2_with fail
      exact ⟨rfl, rfl, ⟨_, hrd1⟩, hgr1⟩
    · have hd0 : decide ((0 : Int) ≤ most) = true := by rw [decide_eq_true_eq]; omega
      have hd1 : decide ((x : Int) ≤ most) = false := by rw [decide_eq_false_iff_not]; omega
      have hu : IntKind.u64.wrap most = most := by rw [IntKind.wrap_u64]; omega
      clear hno
      go_wp2_with fail
      refine (must_no _).mono ?_
      rintro e w3 ⟨rfl, rfl⟩
      go_wp2_with fail
      exact ⟨rfl, rfl, ⟨_, hrd1⟩, hgr1⟩
    · have hlong : (l.length : Int) - ((p + k : Nat) : Int) < (x : Int) := by omega
      have hd0 : decide ((0 : Int) ≤ most) = true := by rw [decide_eq_true_eq]; omega
      have hd1 : decide ((x : Int) ≤ most) = true := by rw [decide_eq_true_eq]; omega
      have hu : IntKind.u64.wrap most = most := by rw [IntKind.wrap_u64]; omega
      have hi : IntKind.i64.wrap (x : Int) = (x : Int) := IntWalk.i64_in _ (by omega)
      clear hno
      go_wp2_with fail
      refine (must_ok _).mono ?_
      rintro e w3 ⟨rfl, rfl⟩
      go_wp2_with fail
      refine (next_no R l (p + k) x false _ hrd1 (Or.inr hlong) hm).mono ?_
      rintro e w4 ⟨rfl, q, rfl⟩
      go_wp2_with fail
      exact ⟨rfl, rfl, ⟨_, hrd1⟩, only_drewN hgr1 q⟩
  · go_wp2_with fail
    exact ⟨rfl, rfl, ⟨q, hrd⟩, hgr1⟩

theorem text_enter : ∀ (args : Array Value) (w : World), (callFunc 65 args).run Tryd.prog w = .ok (.enter 65 args) w := fun args w => by kernel_rfl

set_option maxRecDepth 100000 in
set_option maxHeartbeats 1000000 in
theorem text_ok (R : Nat) (l : List UInt8) (p k x : Nat) (most : Int) (w : World) (h : Rd w R l p false) (hx : text most (l.drop p) = some (k, x)) (h2 : most ≤ 9223372036854775807) (hm : l.length ≤ 140737488355328) :
    Calls Tryd.prog 26 #[.pointer (some ⟨R, 0, none⟩), .int .i64 most] w (ReadEnd R l p w (.string ⟨#[]⟩) (some (.string (str ((l.drop (p + k)).take x)), k + x))) := by
  have hmf : ∀ (fn : Fn) (first cap : Array Value) (w : World), (Instr.makeFunc fn first cap).run Tryd.prog w = .ok (.func fn first cap) w := fun _ _ _ _ => rfl
  have hlt := h.lt
  have hpl : p ≤ l.length := by obtain ⟨_, _, _, _, _, hpl, _⟩ := h; exact hpl
  obtain ⟨hnum, h0, h1, hp⟩ : num 0 0 (l.drop p) = some (x, k) ∧ 0 ≤ most ∧ (x : Int) ≤ most ∧ p + k + x ≤ l.length := by
    unfold text at hx
    split at hx
    · cases hx
    · rename_i y j hy
      split at hx
      · rename_i hc
        injection hx with hx
        injection hx with e1 e2
        subst e1 e2
        rw [List.length_drop] at hc
        exact ⟨hy, hc.1, hc.2.1, by omega⟩
      · cases hx
  have Hx := Lib.hid hnum
  clear hx hnum
  go_enter Tryd.func26, Tryd.ntmps26
  go_wp2_with fail
  refine (part_ok R l p 65 _ _ (fun w2 => Rd w2 R l (p + (k + x)) false ∧ Var w2 (w.heap.size + 2) (.string (str ((l.drop (p + k)).take x))) ∧ w.grownBy w2 (some R)) ?_ text_enter ?_).mono ?_
  · exact h.alloc3 _ _ _
  · intro w1 hg
    obtain ⟨hV0, hV1, hV2⟩ := three_vars w _ _ _ _ _ _ hg (by simp)
    refine (text_way_ok R l p k x most _ _ _ _ w1 ((h.alloc3 _ _ _).kept hg (by simp)) hV0 hV1 hV2 (by omega) (by omega) (by omega) Hx.out h0 h1 h2 hp hm).mono ?_
    rintro e w2 ⟨rfl, e1, e2, e3⟩
    exact ⟨rfl, e1, e2, e3 w ((grown3 w _ _ _ (some R)).trans (only_but hg (some R))) (by omega)⟩
  rintro e w2 ⟨rfl, hrd, hv, hgr⟩
  have cv := hv.1
  have fv := hv.2
  have hst := hv.set (.string (str ((l.drop (p + k)).take x)))
  have hrd2 := hrd.set_ (g := w.heap.size + 2) (by omega) (.string (str ((l.drop (p + k)).take x)))
  go_wp2_with fail
  refine ⟨rfl, .string (str ((l.drop (p + k)).take x)), by simp [results, Tryd.results26, go_sem, hst.1], only_setCell hgr (Or.inr (by simp; omega)) _, .inl ⟨_, k + x, rfl, rfl, hrd2⟩⟩

set_option maxRecDepth 100000 in
set_option maxHeartbeats 1000000 in
theorem text_no (R : Nat) (l : List UInt8) (p : Nat) (n : Int) (w : World) (h : Rd w R l p false) (hn : text n (l.drop p) = none) (h2 : n ≤ 9223372036854775807) (hm : l.length ≤ 140737488355328) :
    Calls Tryd.prog 26 #[.pointer (some ⟨R, 0, none⟩), .int .i64 n] w (ReadEnd R l p w (.string ⟨#[]⟩) none) := by
  have hmf : ∀ (fn : Fn) (first cap : Array Value) (w : World), (Instr.makeFunc fn first cap).run Tryd.prog w = .ok (.func fn first cap) w := fun _ _ _ _ => rfl
  have hlt := h.lt
  have Hn := Lib.hid hn
  clear hn
  go_enter Tryd.func26, Tryd.ntmps26
  go_wp2_with fail
  refine (part_no R l p 65 _ _ (h.alloc3 _ _ _) text_enter ?_).mono ?_
  · intro w1 hg
    obtain ⟨hV0, hV1, hV2⟩ := three_vars w _ _ _ _ _ _ hg (by simp)
    exact text_way_no R l p n _ _ _ w1 ((h.alloc3 _ _ _).kept hg (by simp)) hV0 hV1 (by omega) (by omega) Hn.out h2 hm
  rintro e w2 ⟨rfl, hrd, hgr⟩
  obtain ⟨_, _, hv⟩ := three_vars w _ _ _ _ _ _ hgr (by simp; omega)
  have hgr2 := (grown3 w _ _ _ (some R)).trans hgr
  have cv := hv.1
  have fv := hv.2
  go_wp2_with fail
  refine ⟨rfl, .string ⟨#[]⟩, by simp [results, Tryd.results26, go_sem, (hv.set (.string ⟨#[]⟩)).1], only_setCell hgr2 (Or.inr (by simp; omega)) _, .inr ⟨rfl, rfl, hrd.set_ (by omega) _⟩⟩

theorem text_skip (A : Option Addr) (n : Int) (w : World) (h : Skips w A) :
    Calls Tryd.prog 26 #[.pointer A, .int .i64 n] w fun e w' => e = .returned (.string ⟨#[]⟩) ∧ w.grownBy w' none := by
  have hmf : ∀ (fn : Fn) (first cap : Array Value) (w : World), (Instr.makeFunc fn first cap).run Tryd.prog w = .ok (.func fn first cap) w := fun _ _ _ _ => rfl
  go_enter Tryd.func26, Tryd.ntmps26
  go_wp2_with fail
  refine (part_skip _ 65 _ _ (h.kept (grown3 w _ _ _ none)).val).mono ?_
  rintro e w2 ⟨rfl, hgr⟩
  obtain ⟨_, _, hv⟩ := three_vars w _ _ _ _ _ _ hgr (by simp)
  have hgr2 := (grown3 w _ _ _ none).trans hgr
  have cv := hv.1
  have fv := hv.2
  go_wp2_with fail
  refine ⟨rfl, .string ⟨#[]⟩, by simp [results, Tryd.results26, go_sem, (hv.set (.string ⟨#[]⟩)).1], rfl, none_setCell hgr2 (by simp; omega) _⟩
end Go.Proofs.YtbbikkncobgabaaDoor
