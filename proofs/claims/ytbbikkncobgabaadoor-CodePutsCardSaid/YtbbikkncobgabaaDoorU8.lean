/-
  code.Reader.U8. By an AI agent.
-/
import Derived.Test.YtbbikkncobgabaaDoorPart
namespace Go.Proofs.YtbbikkncobgabaaDoor
open Go.RowKit

/-- how a reading ends: what is answered, and how many bytes it took; none: there is a fault -/
def ReadEnd (R : Nat) (l : List UInt8) (p : Nat) (w : World) (zero : Value) (good : Option (Value × Nat)) (e : Ending) (w' : World) : Prop :=
  w.grownBy w' (some R) ∧ ((∃ v n, good = some (v, n) ∧ e = .returned v ∧ Rd w' R l (p + n) false) ∨ (good = none ∧ e = .returned zero ∧ Rd w' R l p true))

theorem only_but {a c : World} (h : a.grownBy c none) (row : Option Nat) : a.grownBy c row := ⟨h.os, h.tape, h.output, h.size, fun i hi _ => h.block i hi (by simp)⟩

/-- nil, or a reader behind a fault -/
def Skips (w : World) (A : Option Addr) : Prop := A = none ∨ ∃ R l p, A = some ⟨R, 0, none⟩ ∧ Rd w R l p true
theorem Skips.kept {w w' : World} {A : Option Addr} (h : Skips w A) (hg : w.grownBy w' none) : Skips w' A := by
  rcases h with h | ⟨R, l, p, h, hrd⟩
  · exact .inl h
  · exact .inr ⟨R, l, p, h, hrd.kept hg (by simp)⟩
theorem Skips.val {w : World} {A : Option Addr} (h : Skips w A) : Value.pointer A = .pointer none ∨ ∃ R l p, Value.pointer A = .pointer (some ⟨R, 0, none⟩) ∧ Rd w R l p true := by
  rcases h with rfl | ⟨R, l, p, rfl, hrd⟩
  · exact .inl rfl
  · exact .inr ⟨R, l, p, rfl, hrd⟩

/-- a variable of the call's own -/
def Var (w : World) (g : Nat) (v : Value) : Prop := w.cell? ⟨g, 0, none⟩ = some v ∧ w.frozen? ⟨g, 0, none⟩ = false

theorem Var.far {w w' : World} {g : Nat} {v : Value} (h : Var w g v) {row : Option Nat} (hg : w.grownBy w' row) (hne : some g ≠ row) : Var w' g v := by
  have hlt : g < w.heap.size := World.block_lt_of_cell? w _ h.1
  exact ⟨by rw [hg.cell_far _ hlt hne]; exact h.1, by rw [hg.frozen_far _ hlt hne]; exact h.2⟩

theorem Rd.set_ {w : World} {R : Nat} {l : List UInt8} {p : Nat} {b : Bool} (h : Rd w R l p b) {g : Nat} (hg : R < g) (v : Value) : Rd (w.setCell ⟨g, 0, none⟩ v) R l p b :=
  h.kept (row := some g) (only_setCell (World.grownBy.refl _ _) (Or.inl rfl) v) (fun k e => by cases e; exact hg)
theorem Var.set {w : World} {g : Nat} {u : Value} (h : Var w g u) (v : Value) : Var (w.setCell ⟨g, 0, none⟩ v) g v := by
  have h1 := h.1
  have h2 := h.2
  constructor
  · go_simp
  · go_simp

set_option maxRecDepth 100000 in
set_option maxHeartbeats 1000000 in
theorem u8_way_ok (R : Nat) (l : List UInt8) (p a b : Nat) (u : Value) (w1 : World) (h : Rd w1 R l p false) (ha : Var w1 a (.pointer (some ⟨R, 0, none⟩))) (hb : Var w1 b u) (hRb : R < b) (hp : p < l.length) (hm : l.length ≤ 140737488355328) :
    Calls Tryd.prog 102 #[.pointer (some ⟨a, 0, none⟩), .pointer (some ⟨b, 0, none⟩)] w1 fun e w2 => e = .returned (.tuple #[]) ∧ Rd w2 R l (p + 1) false ∧ Var w2 b (.int .u8 (l[p].toNat : Int)) ∧
      ∀ w : World, w.grownBy w1 (some R) → w.heap.size ≤ b → w.grownBy w2 (some R) := by
  have ca := ha.1
  go_enter Tryd.func102, Tryd.ntmps102
  go_wp2_with fail
  refine (next_ok R l p 1 false _ h (by omega) hm).mono ?_
  rintro e w2 ⟨⟨A', rfl, hr1⟩, hrd1, hgr1, hsz1⟩
  obtain ⟨ad, rfl, hadb, hcell⟩ := hr1.get (k := 0) (by omega)
  have hone : ((l.drop p).take 1) = [l[p]] := by rw [List.drop_eq_getElem_cons hp]; rfl
  have hcl : w2.cell? ad = some (.int .u8 (l[p].toNat : Int)) := by
    rw [add_none] at hcell
    rw [hcell]
    congr 1
    rw [byteCells_get _ 0 (by rw [hone]; simp)]
    simp [hone]
  have hb2 := hb.far hgr1 (by simp; omega)
  have hb3 := hb2.set (.int .u8 (l[p].toNat : Int))
  have hrd2 := hrd1.set_ hRb (.int .u8 (l[p].toNat : Int))
  have cb := hb2.1
  have fb := hb2.2
  clear hone hcell hr1 hsz1
  go_wp2_with fail
  go_end0
  exact ⟨rfl, hrd2, hb3, fun w hw hwb => only_setCell (hw.trans hgr1) (Or.inr hwb) _⟩

/-- the way's calls -/
theorem u8_enter : ∀ (args : Array Value) (w : World), (callFunc 102 args).run Tryd.prog w = .ok (.enter 102 args) w := fun args w => by kernel_rfl

theorem Var.one (w : World) (v : Value) (t : TypeId) : Var (w.alloc (.cells #[v] t)) w.heap.size v := by
  constructor <;> go_simp

theorem Var.at_ (w : World) (v : Value) (t : TypeId) (k : Nat) (h : w.heap.size = k) : Var (w.alloc (.cells #[v] t)) k v := by subst h; exact Var.one w v t

theorem none_setCell {a w : World} (h : a.grownBy w none) {p : Addr} (hp : a.heap.size ≤ p.block) (u : Value) : a.grownBy (w.setCell p u) none :=
  ⟨h.os, h.tape, h.output, by simpa [World.setCell] using h.size, fun i hi hne => (Below.heap_setCell w p u i (by omega)).trans (h.block i hi hne)⟩

set_option maxRecDepth 100000 in
set_option maxHeartbeats 1000000 in
theorem u8_ok (R : Nat) (l : List UInt8) (p : Nat) (w : World) (h : Rd w R l p false) (hp : p < l.length) (hm : l.length ≤ 140737488355328) :
    Calls Tryd.prog 68 #[.pointer (some ⟨R, 0, none⟩)] w (ReadEnd R l p w (.int .u8 0) (some (.int .u8 (l[p].toNat : Int), 1))) := by
  have hmf : ∀ (fn : Fn) (first cap : Array Value) (w : World), (Instr.makeFunc fn first cap).run Tryd.prog w = .ok (.func fn first cap) w := fun _ _ _ _ => rfl
  have hlt := h.lt
  go_enter Tryd.func68, Tryd.ntmps68
  go_wp2_with fail
  refine (part_ok R l p 102 _ _ (fun w2 => Rd w2 R l (p + 1) false ∧ Var w2 (w.heap.size + 1) (.int .u8 (l[p].toNat : Int)) ∧ w.grownBy w2 (some R)) ?_ u8_enter ?_).mono ?_
  · exact (h.kept (World.grownBy_alloc _ _ none) (by simp)).kept (World.grownBy_alloc _ _ none) (by simp)
  · intro w1 hg
    have hg2 := World.grownBy.trans (only_alloc (only_alloc (World.grownBy.refl w (some R)) (.cells #[.pointer (some ⟨R, 0, none⟩)] 41)) (.cells #[.int .u8 0] 5)) (only_but hg (some R))
    have hV0 : Var w1 w.heap.size (.pointer (some ⟨R, 0, none⟩)) := ((Var.one w _ 41).far (World.grownBy_alloc _ _ none) (by simp)).far hg (by simp)
    have hV1 : Var w1 (w.heap.size + 1) (.int .u8 0) := (Var.at_ (w.alloc _) _ _ _ (by simp)).far hg (by simp)
    have hrd : Rd w1 R l p false := ((h.kept (World.grownBy_alloc _ _ none) (by simp)).kept (World.grownBy_alloc _ _ none) (by simp)).kept hg (by simp)
    refine (u8_way_ok R l p _ _ _ w1 hrd hV0 hV1 (by omega) hp hm).mono ?_
    rintro e w2 ⟨rfl, h1, h2, h3⟩
    exact ⟨rfl, h1, h2, h3 w hg2 (by omega)⟩
  rintro e w2 ⟨rfl, hrd, hv, hgr⟩
  have cv := hv.1
  have fv := hv.2
  go_wp2_with fail
  refine ⟨rfl, .int .u8 (l[p].toNat : Int), by simp [results, Tryd.results68, go_sem, (hv.set (.int .u8 (l[p].toNat : Int))).1], only_setCell hgr (Or.inr (by simp)) _, .inl ⟨_, 1, rfl, rfl, hrd.set_ (by omega) _⟩⟩

theorem u8_way_no (R : Nat) (l : List UInt8) (a b : Nat) (w1 : World) (h : Rd w1 R l l.length false) (ha : Var w1 a (.pointer (some ⟨R, 0, none⟩))) (hm : l.length ≤ 140737488355328) :
    Calls Tryd.prog 102 #[.pointer (some ⟨a, 0, none⟩), .pointer (some ⟨b, 0, none⟩)] w1 fun e w2 => e = .panicked gives ∧ (∃ q, Rd w2 R l q false) ∧ w1.grownBy w2 (some R) := by
  have ca := ha.1
  go_enter Tryd.func102, Tryd.ntmps102
  go_wp2_with fail
  refine (next_no R l l.length 1 false _ h (by omega) hm).mono ?_
  rintro e w2 ⟨rfl, q, rfl⟩
  go_wp2_with fail
  exact ⟨rfl, rfl, ⟨_, h⟩, only_drewN (World.grownBy.refl _ _) q⟩

set_option maxRecDepth 100000 in
set_option maxHeartbeats 1000000 in
theorem u8_no (R : Nat) (l : List UInt8) (w : World) (h : Rd w R l l.length false) (hm : l.length ≤ 140737488355328) :
    Calls Tryd.prog 68 #[.pointer (some ⟨R, 0, none⟩)] w (ReadEnd R l l.length w (.int .u8 0) none) := by
  have hmf : ∀ (fn : Fn) (first cap : Array Value) (w : World), (Instr.makeFunc fn first cap).run Tryd.prog w = .ok (.func fn first cap) w := fun _ _ _ _ => rfl
  have hlt := h.lt
  go_enter Tryd.func68, Tryd.ntmps68
  go_wp2_with fail
  have h2 := (h.kept (World.grownBy_alloc w (.cells #[.pointer (some ⟨R, 0, none⟩)] 41) none) (by simp)).kept (World.grownBy_alloc _ (.cells #[.int .u8 0] 5) none) (by simp)
  refine (part_no R l l.length 102 _ _ h2 u8_enter ?_).mono ?_
  · intro w1 hg
    have hV0 : Var w1 w.heap.size (.pointer (some ⟨R, 0, none⟩)) := ((Var.one w _ 41).far (World.grownBy_alloc _ _ none) (by simp)).far hg (by simp)
    exact u8_way_no R l _ _ w1 (h2.kept hg (by simp)) hV0 hm
  rintro e w2 ⟨rfl, hrd, hgr⟩
  have hv : Var w2 (w.heap.size + 1) (.int .u8 0) := (Var.at_ (w.alloc (.cells #[.pointer (some ⟨R, 0, none⟩)] 41)) _ _ _ (by simp)).far hgr (by simp; omega)
  have hgr2 := World.grownBy.trans (only_alloc (only_alloc (World.grownBy.refl w (some R)) _) _) hgr
  have cv := hv.1
  have fv := hv.2
  go_wp2_with fail
  refine ⟨rfl, .int .u8 0, by simp [results, Tryd.results68, go_sem, (hv.set (.int .u8 0)).1], only_setCell hgr2 (Or.inr (by simp)) _, .inr ⟨rfl, rfl, hrd.set_ (by omega) _⟩⟩

/-- nil, or behind a fault -/
theorem u8_skip (A : Option Addr) (w : World) (h : Skips w A) :
    Calls Tryd.prog 68 #[.pointer A] w fun e w' => e = .returned (.int .u8 0) ∧ w.grownBy w' none := by
  have hmf : ∀ (fn : Fn) (first cap : Array Value) (w : World), (Instr.makeFunc fn first cap).run Tryd.prog w = .ok (.func fn first cap) w := fun _ _ _ _ => rfl
  go_enter Tryd.func68, Tryd.ntmps68
  go_wp2_with fail
  refine (part_skip _ 102 _ _ ?_).mono ?_
  · exact ((h.kept (World.grownBy_alloc _ _ none)).kept (World.grownBy_alloc _ _ none)).val
  rintro e w2 ⟨rfl, hgr⟩
  have hv : Var w2 (w.heap.size + 1) (.int .u8 0) := (Var.at_ (w.alloc (.cells #[.pointer A] 41)) _ _ _ (by simp)).far hgr (by simp)
  have hgr2 := World.grownBy.trans (only_alloc (only_alloc (World.grownBy.refl w none) _) _) hgr
  have cv := hv.1
  have fv := hv.2
  go_wp2_with fail
  refine ⟨rfl, .int .u8 0, by simp [results, Tryd.results68, go_sem, (hv.set (.int .u8 0)).1], rfl, none_setCell hgr2 (by simp) _⟩
end Go.Proofs.YtbbikkncobgabaaDoor
