/-
  bytes.Clone; code.Reader.Raw. By an AI agent.
-/
import Derived.Test.YtbbikkncobgabaaDoorU32
namespace Go.Proofs.YtbbikkncobgabaaDoor
open Go.RowKit

set_option maxRecDepth 100000 in
set_option maxHeartbeats 1000000 in
theorem clone_any (A : Option Addr) (n c : Nat) (l : List UInt8) (w : World) (hn : n = l.length) (hc : n ≤ c) (hm : n ≤ 140737488355328) (hA : A = none → c = 0) (B : Nat) (hB : B ≤ w.heap.size) (hrB : Reads w B 1 A n (Lib.byteCells l)) :
    Calls Tryd.prog 60 #[.slice A n c] w (Gives w.heap.size l w) := by
  have hr := hrB.more hB
  clear hrB hB
  have e0 : ∀ w : World, (binOp BinOp.eql 27 (.slice none 0 0) (.slice none 0 0)).run Tryd.prog w = .ok (.bool true) w := fun _ => by kernel_rfl
  have e1 : ∀ (ad : Addr) (n c : Nat) (w : World), (binOp BinOp.eql 27 (.slice (some ad) n c) (.slice none 0 0)).run Tryd.prog w = .ok (.bool false) w := fun _ _ _ _ => by kernel_rfl
  rcases A with _ | ad
  · have hc0 := hA rfl
    subst hc0
    obtain rfl : n = 0 := by omega
    obtain rfl : l = [] := List.eq_nil_of_length_eq_zero hn.symm
    clear hA hn hr hm hc e1
    go_enter Tryd.func60, Tryd.ntmps60
    go_wp2_with fail
    go_ret
    exact ⟨_, rfl, Owns.nil _ _, Below.refl _ _⟩
  · have hlit := Owns.lit w w.heap.size [] (Nat.le_refl _) (Nat.zero_le _)
    have Hn := Lib.hid hn
    clear hn hA
    go_enter Tryd.func60, Tryd.ntmps60
    go_wp2_with (at_builtin; refine wpList_app rfl _ _ rfl w.heap.size _ [] rfl hlit w.heap.size _ _ _ l rfl Hn.out ?_ ?_ ?_ ?_)
    · exact hr.alloc (Nat.le_refl _) _
    · simp; omega
    · simp
    intro v2 w2 hown2 hg2 _
    have hb2 : Below w.heap.size w w2 := ((Below.refl _ w).alloc (Nat.le_refl _) _).grown hg2 (by simp) (fun k h => (hlit.lt k h).1)
    clear hlit hg2
    go_wp2_with fail
    go_ret
    exact ⟨_, rfl, hown2, hb2⟩

/-- how Raw ends -/
def RawEnd (R : Nat) (l : List UInt8) (p : Nat) (w : World) (good : Option Nat) (e : Ending) (w' : World) : Prop :=
  w.grownBy w' (some R) ∧ ((∃ v n, good = some n ∧ e = .returned v ∧ Owns w' w.heap.size v ((l.drop p).take n) ∧ Rd w' R l (p + n) false) ∨ (good = none ∧ e = .returned (.slice none 0 0) ∧ Rd w' R l p true))

set_option maxRecDepth 100000 in
set_option maxHeartbeats 1000000 in
theorem raw_way_ok (R : Nat) (l : List UInt8) (p n a m b : Nat) (u : Value) (w1 : World) (h : Rd w1 R l p false) (ha : Var w1 a (.pointer (some ⟨R, 0, none⟩))) (hm1 : Var w1 m (.int .i64 n)) (hb : Var w1 b u) (hRb : R < b) (hp : p + n ≤ l.length) (hm : l.length ≤ 140737488355328) :
    Calls Tryd.prog 99 #[.pointer (some ⟨a, 0, none⟩), .pointer (some ⟨m, 0, none⟩), .pointer (some ⟨b, 0, none⟩)] w1 fun e w2 => e = .returned (.tuple #[]) ∧ Rd w2 R l (p + n) false ∧ (∃ v, Var w2 b v ∧ Owns w2 w1.heap.size v ((l.drop p).take n)) ∧
      ∀ w : World, w.grownBy w1 (some R) → w.heap.size ≤ b → w.grownBy w2 (some R) := by
  have ca := ha.1
  have cm := hm1.1
  have hlt : b < w1.heap.size := World.block_lt_of_cell? w1 _ hb.1
  go_enter Tryd.func99, Tryd.ntmps99
  go_wp2_with fail
  refine (next_ok R l p n false _ h hp hm).mono ?_
  rintro e w2 ⟨⟨A', rfl, hr1⟩, hrd1, hgr1, hsz1⟩
  have hb2 := hb.far hgr1 (by simp; omega)
  have hRlt := hrd1.lt
  have Hsz := Lib.hid hsz1
  clear hsz1
  have hAn : A' = none → n = 0 := fun e => by
    rcases Nat.eq_zero_or_pos n with h0 | h0
    · exact h0
    · obtain ⟨ad, h1, _⟩ := hr1.get (k := 0) h0
      rw [e] at h1; cases h1
  go_wp2_with fail
  refine (clone_any A' n n ((l.drop p).take n) _ (by simp; omega) (Nat.le_refl _) (by omega) hAn R (Nat.le_of_lt hRlt) hr1).mono ?_
  rintro e w3 ⟨v, rfl, hown, hb3⟩
  obtain ⟨A4, c4, hv, _, _, _⟩ := hown.form
  subst hv
  generalize ((l.drop p).take n).length = n4 at *
  obtain ⟨v, hv⟩ : ∃ v, v = Value.slice A4 n4 c4 := ⟨_, rfl⟩
  rw [← hv] at hown
  have Hv := Lib.hid hv
  have hbl := hb2.far (only_of_below hb3 none) (by simp)
  have hb4 := hbl.set v
  have hrd3 := hrd1.kept (only_of_below hb3 none) (by simp)
  have hrd4 := hrd3.set_ hRb v
  have hlt2 : b < w2.heap.size := by rw [Hsz.out]; exact hlt
  have hown4 := (hown.apart (a := ⟨b, 0, none⟩) hlt2 v).more (Nat.le_of_eq Hsz.out.symm)
  have hgr3 := hgr1.trans (only_of_below hb3 (some R))
  have cb := hbl.1
  have fb := hbl.2
  rw [Hv.out] at hb4 hrd4 hown4
  have Hown4 := Lib.hid hown4
  clear hv
  clear hr1 hown hown4 hAn
  go_wp2_with fail
  go_end0
  exact ⟨rfl, hrd4, ⟨_, hb4, Hown4.out⟩, fun w hw hwb => only_setCell (hw.trans hgr3) (Or.inr hwb) _⟩


theorem raw_way_no (R : Nat) (l : List UInt8) (p : Nat) (n : Int) (a m b : Nat) (w1 : World) (h : Rd w1 R l p false) (ha : Var w1 a (.pointer (some ⟨R, 0, none⟩))) (hm1 : Var w1 m (.int .i64 n)) (hn : n < 0 ∨ (l.length : Int) - (p : Int) < n) (hm : l.length ≤ 140737488355328) :
    Calls Tryd.prog 99 #[.pointer (some ⟨a, 0, none⟩), .pointer (some ⟨m, 0, none⟩), .pointer (some ⟨b, 0, none⟩)] w1 fun e w2 => e = .panicked gives ∧ (∃ q, Rd w2 R l q false) ∧ w1.grownBy w2 (some R) := by
  have ca := ha.1
  have cm := hm1.1
  go_enter Tryd.func99, Tryd.ntmps99
  go_wp2_with fail
  refine (next_no R l p n false _ h hn hm).mono ?_
  rintro e w2 ⟨rfl, q, rfl⟩
  go_wp2_with fail
  exact ⟨rfl, rfl, ⟨_, h⟩, only_drewN (World.grownBy.refl _ _) q⟩

theorem raw_enter : ∀ (args : Array Value) (w : World), (callFunc 99 args).run Tryd.prog w = .ok (.enter 99 args) w := fun args w => by kernel_rfl

/-- three variables of a call's own, one behind the other -/
theorem three_vars (w : World) (x y z : Value) (s t u : TypeId) {w1 : World} {row : Option Nat} (hg : (((w.alloc (.cells #[x] s)).alloc (.cells #[y] t)).alloc (.cells #[z] u)).grownBy w1 row) (hr : ∀ k, row = some k → k < w.heap.size) :
    Var w1 w.heap.size x ∧ Var w1 (w.heap.size + 1) y ∧ Var w1 (w.heap.size + 2) z := by
  have hne : ∀ j, some (w.heap.size + j) ≠ row := fun j e => by have := hr _ e.symm; omega
  refine ⟨?_, ?_, ?_⟩
  · exact (((Var.one w x s).far (World.grownBy_alloc _ _ none) (by simp)).far (World.grownBy_alloc _ _ none) (by simp)).far hg (hne 0)
  · exact ((Var.at_ (w.alloc _) y t _ (by simp)).far (World.grownBy_alloc _ _ none) (by simp)).far hg (hne 1)
  · exact (Var.at_ ((w.alloc _).alloc _) z u _ (by simp)).far hg (hne 2)
theorem Rd.alloc3 {w : World} {R : Nat} {l : List UInt8} {p : Nat} {b : Bool} (h : Rd w R l p b) (x y z : Obj) : Rd (((w.alloc x).alloc y).alloc z) R l p b :=
  ((h.kept (World.grownBy_alloc _ _ none) (by simp)).kept (World.grownBy_alloc _ _ none) (by simp)).kept (World.grownBy_alloc _ _ none) (by simp)
theorem grown3 (w : World) (x y z : Obj) (row : Option Nat) : w.grownBy (((w.alloc x).alloc y).alloc z) row := only_alloc (only_alloc (only_alloc (World.grownBy.refl _ _) _) _) _

set_option maxRecDepth 100000 in
set_option maxHeartbeats 1000000 in
theorem raw_ok (R : Nat) (l : List UInt8) (p n : Nat) (w : World) (h : Rd w R l p false) (hp : p + n ≤ l.length) (hm : l.length ≤ 140737488355328) :
    Calls Tryd.prog 54 #[.pointer (some ⟨R, 0, none⟩), .int .i64 n] w (RawEnd R l p w (some n)) := by
  have hmf : ∀ (fn : Fn) (first cap : Array Value) (w : World), (Instr.makeFunc fn first cap).run Tryd.prog w = .ok (.func fn first cap) w := fun _ _ _ _ => rfl
  have hlt := h.lt
  go_enter Tryd.func54, Tryd.ntmps54
  go_wp2_with fail
  refine (part_ok R l p 99 _ _ (fun w2 => Rd w2 R l (p + n) false ∧ (∃ v, Var w2 (w.heap.size + 2) v ∧ Owns w2 (w.heap.size + 3) v ((l.drop p).take n)) ∧ w.grownBy w2 (some R)) ?_ raw_enter ?_).mono ?_
  · exact h.alloc3 _ _ _
  · intro w1 hg
    obtain ⟨hV0, hV1, hV2⟩ := three_vars w _ _ _ _ _ _ hg (by simp)
    have hsz : w.heap.size + 3 ≤ w1.heap.size := by have := hg.size; simpa using this
    refine (raw_way_ok R l p n _ _ _ _ w1 ((h.alloc3 _ _ _).kept hg (by simp)) hV0 hV1 hV2 (by omega) hp hm).mono ?_
    rintro e w2 ⟨rfl, h1, ⟨v, h2, h4⟩, h3⟩
    exact ⟨rfl, h1, ⟨v, h2, h4.more hsz⟩, h3 w ((grown3 w _ _ _ (some R)).trans (only_but hg (some R))) (by omega)⟩
  rintro e w2 ⟨rfl, hrd, ⟨v, hv, hown⟩, hgr⟩
  obtain ⟨A4, c4, rfl, _, _, _⟩ := hown.form
  have cv := hv.1
  have fv := hv.2
  have hst := hv.set (.slice A4 ((l.drop p).take n).length c4)
  have hrd2 := hrd.set_ (g := w.heap.size + 2) (by omega) (.slice A4 ((l.drop p).take n).length c4)
  have hown2 := (hown.apart (a := ⟨w.heap.size + 2, 0, none⟩) (by simp) (.slice A4 ((l.drop p).take n).length c4)).more (base' := w.heap.size) (by omega)
  have hgr2 := only_setCell hgr (p := ⟨w.heap.size + 2, 0, none⟩) (Or.inr (by simp)) (.slice A4 ((l.drop p).take n).length c4)
  generalize ((l.drop p).take n).length = n4 at *
  have Hown2 := Lib.hid hown2
  clear hown hown2
  go_wp2_with fail
  refine ⟨rfl, .slice A4 n4 c4, by simp [results, Tryd.results54, go_sem, hst.1], hgr2, .inl ⟨_, n, rfl, rfl, Hown2.out, hrd2⟩⟩

set_option maxRecDepth 100000 in
set_option maxHeartbeats 1000000 in
theorem raw_no (R : Nat) (l : List UInt8) (p : Nat) (n : Int) (w : World) (h : Rd w R l p false) (hn : n < 0 ∨ (l.length : Int) - (p : Int) < n) (hm : l.length ≤ 140737488355328) :
    Calls Tryd.prog 54 #[.pointer (some ⟨R, 0, none⟩), .int .i64 n] w (RawEnd R l p w none) := by
  have hmf : ∀ (fn : Fn) (first cap : Array Value) (w : World), (Instr.makeFunc fn first cap).run Tryd.prog w = .ok (.func fn first cap) w := fun _ _ _ _ => rfl
  have hlt := h.lt
  have Hn := Lib.hid hn
  clear hn
  go_enter Tryd.func54, Tryd.ntmps54
  go_wp2_with fail
  refine (part_no R l p 99 _ _ (h.alloc3 _ _ _) raw_enter ?_).mono ?_
  · intro w1 hg
    obtain ⟨hV0, hV1, hV2⟩ := three_vars w _ _ _ _ _ _ hg (by simp)
    exact raw_way_no R l p n _ _ _ w1 ((h.alloc3 _ _ _).kept hg (by simp)) hV0 hV1 Hn.out hm
  rintro e w2 ⟨rfl, hrd, hgr⟩
  obtain ⟨_, _, hv⟩ := three_vars w _ _ _ _ _ _ hgr (by simp; omega)
  have hgr2 := (grown3 w _ _ _ (some R)).trans hgr
  have cv := hv.1
  have fv := hv.2
  go_wp2_with fail
  refine ⟨rfl, .slice none 0 0, by simp [results, Tryd.results54, go_sem, (hv.set (.slice none 0 0)).1], only_setCell hgr2 (Or.inr (by simp; omega)) _, .inr ⟨rfl, rfl, hrd.set_ (by omega) _⟩⟩

theorem raw_skip (A : Option Addr) (n : Int) (w : World) (h : Skips w A) :
    Calls Tryd.prog 54 #[.pointer A, .int .i64 n] w fun e w' => e = .returned (.slice none 0 0) ∧ w.grownBy w' none := by
  have hmf : ∀ (fn : Fn) (first cap : Array Value) (w : World), (Instr.makeFunc fn first cap).run Tryd.prog w = .ok (.func fn first cap) w := fun _ _ _ _ => rfl
  go_enter Tryd.func54, Tryd.ntmps54
  go_wp2_with fail
  refine (part_skip _ 99 _ _ (h.kept (grown3 w _ _ _ none)).val).mono ?_
  rintro e w2 ⟨rfl, hgr⟩
  obtain ⟨_, _, hv⟩ := three_vars w _ _ _ _ _ _ hgr (by simp)
  have hgr2 := (grown3 w _ _ _ none).trans hgr
  have cv := hv.1
  have fv := hv.2
  go_wp2_with fail
  refine ⟨rfl, .slice none 0 0, by simp [results, Tryd.results54, go_sem, (hv.set (.slice none 0 0)).1], rfl, none_setCell hgr2 (by simp; omega) _⟩
end Go.Proofs.YtbbikkncobgabaaDoor
