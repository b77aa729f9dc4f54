/-
  code.Reader.part: a way that is gone, or given up. By an AI agent.
-/
import Derived.Test.YtbbikkncobgabaaDoorNumber
namespace Go.Proofs.YtbbikkncobgabaaDoor
open Go.RowKit

theorem catch_idle (a b : Addr) (w : World) :
    CallsD Tryd.prog 101 #[.pointer (some a), .pointer (some b)] .returning w fun e u' w' => e = .returned (.tuple #[]) ∧ u' = .returning ∧ w' = w := by
  refine callsD_of_wpS Tryd.func101 rfl fun c₀ cs hu => ?_
  apply wpS_seq
  apply wpS_region
  simp [wpOpsS, go_sem, recoverD, hu, Tryd.ntmps101, Exit.thenS]
  apply wpS_seq
  apply wpS_region
  simp [wpOpsS, go_sem, Exit.thenS]
  refine wpS_cond (t := false) (by simp [Act.eval, Array.replicate]) ?_
  simp only [Bool.false_eq_true, if_false]
  refine wpS_of_wp (wp_skip ?_)
  cases c₀
  simp_all [bodyPostS, results, Tryd.results101]

set_option maxRecDepth 100000 in
set_option maxHeartbeats 1000000 in
theorem catch_given (a b : Addr) (R p : Nat) (w : World) (hwas : w.cell? a = some (.int .i64 p)) (hbox : w.cell? b = some (.pointer (some ⟨R, 0, none⟩)))
    {x y : Value} (h1 : w.cell? ⟨R, 1, none⟩ = some x) (h2 : w.cell? ⟨R, 2, none⟩ = some y) (f1 : w.frozen? ⟨R, 1, none⟩ = false) (f2 : w.frozen? ⟨R, 2, none⟩ = false) :
    CallsD Tryd.prog 101 #[.pointer (some a), .pointer (some b)] (.panicking gives) w fun e u' w' =>
      e = .returned (.tuple #[]) ∧ u' = .panicking [{ v := .iface 147 (.agg #[]), recovered := true }] ∧ w' = (w.setCell ⟨R, 1, none⟩ (.int .i64 p)).setCell ⟨R, 2, none⟩ (.bool true) := by
  unfold gives
  have hta : ∀ w : World, (Instr.typeAssert (.iface 147 (.agg #[])) 20 147 false).run Tryd.prog w = .ok (.agg #[]) w := fun _ => by kernel_rfl
  refine callsD_of_wpS Tryd.func101 rfl fun c₀ cs hu => ?_
  apply wpS_seq
  apply wpS_region
  simp [wpOpsS, go_sem, recoverD, hu, Tryd.ntmps101, Exit.thenS]
  apply wpS_seq
  apply wpS_region
  simp [wpOpsS, go_sem, Exit.thenS]
  refine wpS_cond (t := true) (by simp [Act.eval, Array.replicate]) ?_
  simp only [if_true]
  refine wpS_of_wp ?_
  simp [Array.replicate]
  go_wp2_with fail
  cases c₀
  simp [bodyPostS, results, Tryd.results101]

set_option maxRecDepth 100000 in
set_option maxHeartbeats 1000000 in
theorem part_ok (R : Nat) (l : List UInt8) (p : Nat) (F : FuncId) (cap : Array Value) (w : World) (Ok : World → Prop) (h : Rd w R l p false)
    (hent : ∀ (args : Array Value) (w : World), (callFunc F args).run Tryd.prog w = .ok (.enter F args) w)
    (hway : ∀ w1, w.grownBy w1 none → Calls Tryd.prog F cap w1 (fun e w2 => e = .returned (.tuple #[]) ∧ Ok w2)) :
    Calls Tryd.prog 62 #[.pointer (some ⟨R, 0, none⟩), .func (.func F) #[] cap] w (fun e w' => e = .returned (.tuple #[]) ∧ Ok w') := by
  have hmf : ∀ (fn : Fn) (first cap : Array Value) (w : World), (Instr.makeFunc fn first cap).run Tryd.prog w = .ok (.func fn first cap) w := fun _ _ _ _ => rfl
  have hlt := h.lt
  obtain ⟨A, c, hb, hlc, hcm, hp, hA, hr⟩ := h
  have c1 : w.cell? ⟨R, 1, none⟩ = some (.int .i64 p) := hb.cell 1
  have c2 : w.cell? ⟨R, 2, none⟩ = some (.bool false) := hb.cell 2
  have g1 : ∀ o, (w.alloc o).cell? ⟨R, 1, none⟩ = some (.int .i64 p) := fun o => (World.cell?_alloc_lt w o _ hlt).trans c1
  have g2 : ∀ o, (w.alloc o).cell? ⟨R, 2, none⟩ = some (.bool false) := fun o => (World.cell?_alloc_lt w o _ hlt).trans c2
  have HW := Lib.hid hway
  clear hway hb hr
  go_enter_defers Tryd.func62, Tryd.ntmps62
  go_wp2_with fail
  refine (HW.out _ ?_).mono ?_
  · exact only_of_below (((Below.refl _ w).alloc (Nat.le_refl _) _).alloc (by simp) _) none
  rintro e w2 ⟨rfl, hok⟩
  go_wp2_with fail
  refine leaves_cons (f := 101) (args := #[.pointer (some ⟨w.heap.size + 1, 0, none⟩), .pointer (some ⟨w.heap.size, 0, none⟩)]) (by simp) (by simp [go_sem]) ?_
  refine (catch_idle _ _ _).mono ?_
  rintro e u' w'' ⟨rfl, rfl, rfl⟩
  simp [Leaves, settle, results, Tryd.results62, go_sem]
  exact hok

theorem Rd.fault {w : World} {R : Nat} {l : List UInt8} {q : Nat} {b : Bool} (h : Rd w R l q b) (p : Nat) (hp : p ≤ l.length) : Rd ((w.setCell ⟨R, 1, none⟩ (.int .i64 p)).setCell ⟨R, 2, none⟩ (.bool true)) R l p true := by
  obtain ⟨A, c, hb, hlc, hcm, _, hA, hr⟩ := h
  refine ⟨A, c, ?_, hlc, hcm, hp, hA, (hr.setCell (p := ⟨R, 1, none⟩) (Nat.le_refl _) _).setCell (p := ⟨R, 2, none⟩) (Nat.le_refl _) _⟩
  exact (hb.set_ 1 (.int .i64 p)).set_ 2 (.bool true)

set_option maxRecDepth 100000 in
set_option maxHeartbeats 1000000 in
theorem part_no (R : Nat) (l : List UInt8) (p : Nat) (F : FuncId) (cap : Array Value) (w : World) (h : Rd w R l p false)
    (hent : ∀ (args : Array Value) (w : World), (callFunc F args).run Tryd.prog w = .ok (.enter F args) w)
    (hway : ∀ w1, w.grownBy w1 none → Calls Tryd.prog F cap w1 (fun e w2 => e = .panicked gives ∧ (∃ q, Rd w2 R l q false) ∧ w1.grownBy w2 (some R))) :
    Calls Tryd.prog 62 #[.pointer (some ⟨R, 0, none⟩), .func (.func F) #[] cap] w (fun e w' => e = .returned (.tuple #[]) ∧ Rd w' R l p true ∧ w.grownBy w' (some R)) := by
  have hmf : ∀ (fn : Fn) (first cap : Array Value) (w : World), (Instr.makeFunc fn first cap).run Tryd.prog w = .ok (.func fn first cap) w := fun _ _ _ _ => rfl
  have hlt := h.lt
  obtain ⟨A, c, hb, hlc, hcm, hp, hA, hr⟩ := h
  have c1 : w.cell? ⟨R, 1, none⟩ = some (.int .i64 p) := hb.cell 1
  have c2 : w.cell? ⟨R, 2, none⟩ = some (.bool false) := hb.cell 2
  have g1 : ∀ o, (w.alloc o).cell? ⟨R, 1, none⟩ = some (.int .i64 p) := fun o => (World.cell?_alloc_lt w o _ hlt).trans c1
  have g2 : ∀ o, (w.alloc o).cell? ⟨R, 2, none⟩ = some (.bool false) := fun o => (World.cell?_alloc_lt w o _ hlt).trans c2
  have HW := Lib.hid hway
  clear hway hb hr
  go_enter_defers Tryd.func62, Tryd.ntmps62
  go_wp2_with fail
  refine (HW.out _ ?_).mono ?_
  · exact only_of_below (((Below.refl _ w).alloc (Nat.le_refl _) _).alloc (by simp) _) none
  rintro e w2 ⟨rfl, ⟨q, hrd⟩, hgr⟩
  have hgw : w.grownBy w2 (some R) := World.grownBy.trans (only_alloc (only_alloc (World.grownBy.refl w _) _) _) hgr
  have hwas : w2.cell? ⟨w.heap.size + 1, 0, none⟩ = some (.int .i64 p) := by
    rw [hgr.cell_far _ (by simp) (by simp; omega)]; simp
  have hbox : w2.cell? ⟨w.heap.size, 0, none⟩ = some (.pointer (some ⟨R, 0, none⟩)) := by
    rw [hgr.cell_far _ (by simp; omega) (by simp; omega)]; simp
  clear hgr
  have hrd2 := hrd.fault p hp
  have hgw2 := only_setCell (only_setCell hgw (p := ⟨R, 1, none⟩) (Or.inl rfl) (.int .i64 p)) (p := ⟨R, 2, none⟩) (Or.inl rfl) (.bool true)
  obtain ⟨A', c', hb', _⟩ := hrd
  go_wp2_with fail
  refine leaves_cons (f := 101) (args := #[.pointer (some ⟨w.heap.size + 1, 0, none⟩), .pointer (some ⟨w.heap.size, 0, none⟩)]) (by simp) (by simp [go_sem]) ?_
  refine (catch_given _ _ R p _ hwas hbox (hb'.cell 1) (hb'.cell 2) (hb'.frozen 1) (hb'.frozen 2)).mono ?_
  rintro e u' w'' ⟨rfl, rfl, rfl⟩
  simp [Leaves, settle, results, Tryd.results62, go_sem]
  exact ⟨hrd2, hgw2⟩

theorem part_skip (v : Value) (F : FuncId) (cap : Array Value) (w : World) (h : v = .pointer none ∨ ∃ R l p, v = .pointer (some ⟨R, 0, none⟩) ∧ Rd w R l p true) :
    Calls Tryd.prog 62 #[v, .func (.func F) #[] cap] w (fun e w' => e = .returned (.tuple #[]) ∧ w.grownBy w' none) := by
  rcases h with rfl | ⟨R, l, p, rfl, h⟩
  · go_enter_defers Tryd.func62, Tryd.ntmps62
    go_wp2_with fail
    simp [bodyPostD, Leaves, results, Tryd.results62, go_sem]
    exact World.grownBy_alloc _ _ _
  · have hlt := h.lt
    obtain ⟨A, c, hb, hlc, hcm, hp, hA, hr⟩ := h
    have c2 : w.cell? ⟨R, 2, none⟩ = some (.bool true) := hb.cell 2
    have g2 : ∀ o, (w.alloc o).cell? ⟨R, 2, none⟩ = some (.bool true) := fun o => (World.cell?_alloc_lt w o _ hlt).trans c2
    clear hb hr
    go_enter_defers Tryd.func62, Tryd.ntmps62
    go_wp2_with fail
    simp [bodyPostD, Leaves, results, Tryd.results62, go_sem]
    exact World.grownBy_alloc _ _ _
end Go.Proofs.YtbbikkncobgabaaDoor
