/-
  code.Reader.Uint. By an AI agent.
-/
import Derived.Test.YtbbikkncobgabaaDoorU8
namespace Go.Proofs.YtbbikkncobgabaaDoor
open Go.RowKit

set_option maxRecDepth 100000 in
set_option maxHeartbeats 1000000 in
theorem uint_way_ok (R : Nat) (l : List UInt8) (p a b x n : Nat) (u : Value) (w1 : World) (h : Rd w1 R l p false) (ha : Var w1 a (.pointer (some ⟨R, 0, none⟩))) (hb : Var w1 b u) (hRb : R < b) (hx : num 0 0 (l.drop p) = some (x, n)) (hm : l.length ≤ 140737488355328) :
    Calls Tryd.prog 63 #[.pointer (some ⟨a, 0, none⟩), .pointer (some ⟨b, 0, none⟩)] w1 fun e w2 => e = .returned (.tuple #[]) ∧ Rd w2 R l (p + n) false ∧ Var w2 b (.int .u64 (x : Int)) ∧
      ∀ w : World, w.grownBy w1 (some R) → w.heap.size ≤ b → w.grownBy w2 (some R) := by
  have ca := ha.1
  have Hx := Lib.hid hx
  clear hx
  go_enter Tryd.func63, Tryd.ntmps63
  go_wp2_with fail
  refine (number_any R l p false _ h hm).mono ?_
  rintro e w2 ⟨hgr1, hsz1, ⟨x', n', hx', rfl, hrd1⟩ | ⟨hx', _⟩⟩
  · have hxx := Hx.out
    rw [hx'] at hxx
    injection hxx with hxx
    injection hxx with h1 h2
    subst h1 h2
    have hb2 := hb.far hgr1 (by simp; omega)
    have hb3 := hb2.set (.int .u64 (x' : Int))
    have hrd2 := hrd1.set_ hRb (.int .u64 (x' : Int))
    have cb := hb2.1
    have fb := hb2.2
    clear hsz1 hx'
    go_wp2_with fail
    go_end0
    exact ⟨rfl, hrd2, hb3, fun w hw hwb => only_setCell (hw.trans hgr1) (Or.inr hwb) _⟩
  · rw [Hx.out] at hx'; cases hx'

theorem uint_enter : ∀ (args : Array Value) (w : World), (callFunc 63 args).run Tryd.prog w = .ok (.enter 63 args) w := fun args w => by kernel_rfl

set_option maxRecDepth 100000 in
set_option maxHeartbeats 1000000 in
theorem uint_ok (R : Nat) (l : List UInt8) (p x n : Nat) (w : World) (h : Rd w R l p false) (hx : num 0 0 (l.drop p) = some (x, n)) (hm : l.length ≤ 140737488355328) :
    Calls Tryd.prog 22 #[.pointer (some ⟨R, 0, none⟩)] w (ReadEnd R l p w (.int .u64 0) (some (.int .u64 (x : Int), n))) := by
  have hmf : ∀ (fn : Fn) (first cap : Array Value) (w : World), (Instr.makeFunc fn first cap).run Tryd.prog w = .ok (.func fn first cap) w := fun _ _ _ _ => rfl
  have hlt := h.lt
  have Hx := Lib.hid hx
  clear hx
  go_enter Tryd.func22, Tryd.ntmps22
  go_wp2_with fail
  refine (part_ok R l p 63 _ _ (fun w2 => Rd w2 R l (p + n) false ∧ Var w2 (w.heap.size + 1) (.int .u64 (x : Int)) ∧ w.grownBy w2 (some R)) ?_ uint_enter ?_).mono ?_
  · exact (h.kept (World.grownBy_alloc _ _ none) (by simp)).kept (World.grownBy_alloc _ _ none) (by simp)
  · intro w1 hg
    have hg2 := World.grownBy.trans (only_alloc (only_alloc (World.grownBy.refl w (some R)) (.cells #[.pointer (some ⟨R, 0, none⟩)] 41)) (.cells #[.int .u64 0] 34)) (only_but hg (some R))
    have hV0 : Var w1 w.heap.size (.pointer (some ⟨R, 0, none⟩)) := ((Var.one w _ 41).far (World.grownBy_alloc _ _ none) (by simp)).far hg (by simp)
    have hV1 : Var w1 (w.heap.size + 1) (.int .u64 0) := (Var.at_ (w.alloc _) _ _ _ (by simp)).far hg (by simp)
    have hrd : Rd w1 R l p false := ((h.kept (World.grownBy_alloc _ _ none) (by simp)).kept (World.grownBy_alloc _ _ none) (by simp)).kept hg (by simp)
    refine (uint_way_ok R l p _ _ x n _ w1 hrd hV0 hV1 (by omega) Hx.out hm).mono ?_
    rintro e w2 ⟨rfl, h1, h2, h3⟩
    exact ⟨rfl, h1, h2, h3 w hg2 (by omega)⟩
  rintro e w2 ⟨rfl, hrd, hv, hgr⟩
  have cv := hv.1
  have fv := hv.2
  go_wp2_with fail
  refine ⟨rfl, .int .u64 (x : Int), by simp [results, Tryd.results22, go_sem, (hv.set (.int .u64 (x : Int))).1], only_setCell hgr (Or.inr (by simp)) _, .inl ⟨_, n, rfl, rfl, hrd.set_ (by omega) _⟩⟩

theorem uint_way_no (R : Nat) (l : List UInt8) (p a b : Nat) (w1 : World) (h : Rd w1 R l p false) (ha : Var w1 a (.pointer (some ⟨R, 0, none⟩))) (hx : num 0 0 (l.drop p) = none) (hm : l.length ≤ 140737488355328) :
    Calls Tryd.prog 63 #[.pointer (some ⟨a, 0, none⟩), .pointer (some ⟨b, 0, none⟩)] w1 fun e w2 => e = .panicked gives ∧ (∃ q, Rd w2 R l q false) ∧ w1.grownBy w2 (some R) := by
  have ca := ha.1
  have Hx := Lib.hid hx
  clear hx
  go_enter Tryd.func63, Tryd.ntmps63
  go_wp2_with fail
  refine (number_any R l p false _ h hm).mono ?_
  rintro e w2 ⟨hgr1, hsz1, ⟨x', n', hx', _⟩ | ⟨_, rfl, q, hrd⟩⟩
  · rw [Hx.out] at hx'; cases hx'
  · go_wp2_with fail
    exact ⟨rfl, rfl, ⟨q, hrd⟩, hgr1⟩

set_option maxRecDepth 100000 in
set_option maxHeartbeats 1000000 in
theorem uint_no (R : Nat) (l : List UInt8) (p : Nat) (w : World) (h : Rd w R l p false) (hx : num 0 0 (l.drop p) = none) (hm : l.length ≤ 140737488355328) :
    Calls Tryd.prog 22 #[.pointer (some ⟨R, 0, none⟩)] w (ReadEnd R l p w (.int .u64 0) none) := by
  have hmf : ∀ (fn : Fn) (first cap : Array Value) (w : World), (Instr.makeFunc fn first cap).run Tryd.prog w = .ok (.func fn first cap) w := fun _ _ _ _ => rfl
  have hlt := h.lt
  have Hx := Lib.hid hx
  clear hx
  go_enter Tryd.func22, Tryd.ntmps22
  go_wp2_with fail
  have h2 := (h.kept (World.grownBy_alloc w (.cells #[.pointer (some ⟨R, 0, none⟩)] 41) none) (by simp)).kept (World.grownBy_alloc _ (.cells #[.int .u64 0] 34) none) (by simp)
  refine (part_no R l p 63 _ _ h2 uint_enter ?_).mono ?_
  · intro w1 hg
    have hV0 : Var w1 w.heap.size (.pointer (some ⟨R, 0, none⟩)) := ((Var.one w _ 41).far (World.grownBy_alloc _ _ none) (by simp)).far hg (by simp)
    exact uint_way_no R l p _ _ w1 (h2.kept hg (by simp)) hV0 Hx.out hm
  rintro e w2 ⟨rfl, hrd, hgr⟩
  have hv : Var w2 (w.heap.size + 1) (.int .u64 0) := (Var.at_ (w.alloc (.cells #[.pointer (some ⟨R, 0, none⟩)] 41)) _ _ _ (by simp)).far hgr (by simp; omega)
  have hgr2 := World.grownBy.trans (only_alloc (only_alloc (World.grownBy.refl w (some R)) _) _) hgr
  have cv := hv.1
  have fv := hv.2
  go_wp2_with fail
  refine ⟨rfl, .int .u64 0, by simp [results, Tryd.results22, go_sem, (hv.set (.int .u64 0)).1], only_setCell hgr2 (Or.inr (by simp)) _, .inr ⟨rfl, rfl, hrd.set_ (by omega) _⟩⟩

theorem uint_skip (A : Option Addr) (w : World) (h : Skips w A) :
    Calls Tryd.prog 22 #[.pointer A] w fun e w' => e = .returned (.int .u64 0) ∧ w.grownBy w' none := by
  have hmf : ∀ (fn : Fn) (first cap : Array Value) (w : World), (Instr.makeFunc fn first cap).run Tryd.prog w = .ok (.func fn first cap) w := fun _ _ _ _ => rfl
  go_enter Tryd.func22, Tryd.ntmps22
  go_wp2_with fail
  refine (part_skip _ 63 _ _ ?_).mono ?_
  · exact ((h.kept (World.grownBy_alloc _ _ none)).kept (World.grownBy_alloc _ _ none)).val
  rintro e w2 ⟨rfl, hgr⟩
  have hv : Var w2 (w.heap.size + 1) (.int .u64 0) := (Var.at_ (w.alloc (.cells #[.pointer A] 41)) _ _ _ (by simp)).far hgr (by simp)
  have hgr2 := World.grownBy.trans (only_alloc (only_alloc (World.grownBy.refl w none) _) _) hgr
  have cv := hv.1
  have fv := hv.2
  go_wp2_with fail
  refine ⟨rfl, .int .u64 0, by simp [results, Tryd.results22, go_sem, (hv.set (.int .u64 0)).1], rfl, none_setCell hgr2 (by simp) _⟩
end Go.Proofs.YtbbikkncobgabaaDoor
