/-
  code.Reader.U32. By an AI agent.
-/
import Derived.Test.YtbbikkncobgabaaDoorUint
import Derived.Laws.BitsAllLaws
import Derived.Laws.BitsLemmas
namespace Go.Proofs.YtbbikkncobgabaaDoor
open Go.RowKit

/-- bytes as a number, the least one first -/
def leN : List UInt8 → Nat
  | [] => 0
  | c :: t => c.toNat + 256 * leN t

theorem leN_snoc (l : List UInt8) (c : UInt8) : leN (l ++ [c]) = leN l + c.toNat * 2 ^ (8 * l.length) := by
  induction l with
  | nil => simp [leN]
  | cons d t ih =>
    simp only [List.cons_append, leN, ih, List.length_cons]
    rw [show 8 * (t.length + 1) = 8 * t.length + 8 by omega, Nat.pow_add, Nat.mul_add, ← Nat.mul_assoc, ← Nat.mul_assoc]
    have : 256 * c.toNat * 2 ^ (8 * t.length) = c.toNat * 2 ^ (8 * t.length) * 2 ^ 8 := by
      rw [Nat.mul_comm 256, Nat.mul_assoc, Nat.mul_comm 256, ← Nat.mul_assoc]
    omega
theorem leN_lt (l : List UInt8) : leN l < 2 ^ (8 * l.length) := by
  induction l with
  | nil => simp [leN]
  | cons d t ih =>
    have hd := d.toNat_lt
    rw [leN, List.length_cons, show 8 * (t.length + 1) = 8 * t.length + 8 by omega, Nat.pow_add]
    omega

theorem or_step (x c i : Nat) (hx : x < 2 ^ (8 * i)) (hc : c < 256) (hi : i < 4) : bits .or .u32 (x : Int) (IntKind.u32.wrap ((c : Int) * 2 ^ (8 * i))) = ((x + c * 2 ^ (8 * i) : Nat) : Int) := by
  have e1 : (c : Int) * 2 ^ (8 * i) = ((c * 2 ^ (8 * i) : Nat) : Int) := by push_cast; rfl
  have h1 : c * 2 ^ (8 * i) ≤ 255 * 2 ^ (8 * i) := Nat.mul_le_mul_right _ (by omega)
  have h2 : 2 ^ (8 * i) ≤ 2 ^ 24 := Nat.pow_le_pow_right (by decide) (by omega)
  have e2 : x ||| c * 2 ^ (8 * i) = x + c * 2 ^ (8 * i) := by
    rw [Nat.or_comm, Nat.mul_comm c, ← Nat.two_pow_add_eq_or_of_lt hx]; omega
  rw [e1]
  generalize hq : c * 2 ^ (8 * i) = q at *
  have e3 : IntKind.u32.wrap (q : Int) = (q : Int) := by rw [IntKind.wrap_u32]; omega
  rw [e3, u32_or_nat _ _ (by omega) (by omega), e2]

set_option maxRecDepth 100000 in
set_option maxHeartbeats 4000000 in
theorem u32_way_ok (R : Nat) (l : List UInt8) (p a b : Nat) (w1 : World) (h : Rd w1 R l p false) (ha : Var w1 a (.pointer (some ⟨R, 0, none⟩))) (hb : Var w1 b (.int .u32 0)) (hRb : R < b) (hp : p + 4 ≤ l.length) (hm : l.length ≤ 140737488355328) :
    Calls Tryd.prog 103 #[.pointer (some ⟨a, 0, none⟩), .pointer (some ⟨b, 0, none⟩)] w1 fun e w2 => e = .returned (.tuple #[]) ∧ Rd w2 R l (p + 4) false ∧ Var w2 b (.int .u32 (leN ((l.drop p).take 4) : Int)) ∧
      ∀ w : World, w.grownBy w1 (some R) → w.heap.size ≤ b → w.grownBy w2 (some R) := by
  have ca := ha.1
  go_enter Tryd.func103, Tryd.ntmps103
  go_wp2_with fail
  refine (next_ok R l p 4 false _ h hp hm).mono ?_
  rintro e w2 ⟨⟨A', rfl, hr1⟩, hrd1, hgr1, hsz1⟩
  obtain ⟨bs, hbs⟩ : ∃ bs, bs = (l.drop p).take 4 := ⟨_, rfl⟩
  have hbl : bs.length = 4 := by rw [hbs]; simp; omega
  rw [← hbs] at hr1
  have Hbs := Lib.hid hbs
  have Hbl := Lib.hid hbl
  have Hk := Lib.hid (p := ∀ w : World, w.grownBy w1 (some R) → w.heap.size ≤ b → w.grownBy w2 (some R)) (fun w hw _ => hw.trans hgr1)
  have hv := hb.far hgr1 (by simp; omega)
  clear hbs hbl
  go_wp2_with fail
  go_loopw [7] (fun i wr => ∃ k : Nat, k ≤ 4 ∧ i = .int .i64 k ∧ Rd wr R l (p + 4) false ∧ Var wr b (.int .u32 (leN (bs.take k) : Int)) ∧ Reads wr R 1 A' 4 (Lib.byteCells bs) ∧ Hid (∀ w : World, w.grownBy w1 (some R) → w.heap.size ≤ b → w.grownBy wr (some R))) (fun i _ => 4 - (intOf i).toNat)
  case atStart => exact ⟨0, by omega, rfl, hrd1, hv, hr1, Hk⟩
  case round =>
    clear hv hrd1 Hk hr1 hgr1 hsz1
    obtain ⟨k, hk, rfl, hrd, hv, hr, Hk⟩ := hrel
    by_cases hk4 : k < 4
    · obtain ⟨ad, rfl, hadb, hcell⟩ := hr.get hk4
      have hkb : k < bs.length := by rw [Hbl.out]; exact hk4
      rw [byteCells_get bs k hkb] at hcell
      have hx := leN_lt (bs.take k)
      have hs := leN_snoc (bs.take k) bs[k]
      rw [← List.take_succ_eq_append_getElem hkb] at hs
      rw [List.length_take, Nat.min_eq_left (by omega)] at hs hx
      have hor := or_step (leN (bs.take k)) bs[k].toNat k hx (bs[k].toNat_lt) hk4
      rw [← hs] at hor
      have c8 := bs[k].toNat_lt
      generalize hxk : leN (bs.take k) = x at *
      generalize hyk : leN (bs.take (k + 1)) = y at *
      generalize bs[k] = c at *
      have Hyk := Lib.hid hyk
      clear hs hxk hyk
      have cv := hv.1
      have cv2 : wr.drew.cell? ⟨b, 0, none⟩ = some (.int .u32 (x : Int)) := hv.1
      have fv2 : wr.drew.frozen? ⟨b, 0, none⟩ = false := hv.2
      have m1 : IntKind.i64.wrap (8 * (k : Int)) = 8 * (k : Int) := IntWalk.i64_in _ (by omega)
      have m2 : (8 * (k : Int)).toNat = 8 * k := by omega
      have m3 : (0 : Int) ≤ 8 * (k : Int) := by omega
      have m4 : IntKind.u32.wrap (c.toNat : Int) = (c.toNat : Int) := by rw [IntKind.wrap_u32]; omega
      go_wp2_with fail
      go_still_tail 7, (by kernel_rfl)
      change wpList _ _ _ _ _ wr.drew
      go_wp2_with fail
      go_roundw
      case rel =>
        refine ⟨k + 1, by omega, by go_num, hrd.set_ hRb _, by rw [Hyk.out]; exact hv.set _, hr.setCell (p := ⟨b, 0, none⟩) (Nat.le_of_lt hRb) _, Lib.hid fun w hw hwb => only_drew (only_setCell (Hk.out w hw hwb) (Or.inr hwb) _)⟩
      case measure => simp [intOf]; omega
    · have hk5 : k = 4 := by omega
      rw [hk5, List.take_of_length_le (by rw [Hbl.out]; exact Nat.le_refl _)] at hv
      go_wp2_with fail
      go_end0
      exact ⟨rfl, hrd, by rw [← Hbs.out]; exact hv, Hk.out⟩

theorem u32_enter : ∀ (args : Array Value) (w : World), (callFunc 103 args).run Tryd.prog w = .ok (.enter 103 args) w := fun args w => by kernel_rfl

set_option maxRecDepth 100000 in
set_option maxHeartbeats 1000000 in
theorem u32_ok (R : Nat) (l : List UInt8) (p : Nat) (w : World) (h : Rd w R l p false) (hp : p + 4 ≤ l.length) (hm : l.length ≤ 140737488355328) :
    Calls Tryd.prog 69 #[.pointer (some ⟨R, 0, none⟩)] w (ReadEnd R l p w (.int .u32 0) (some (.int .u32 (leN ((l.drop p).take 4) : Int), 4))) := by
  have hmf : ∀ (fn : Fn) (first cap : Array Value) (w : World), (Instr.makeFunc fn first cap).run Tryd.prog w = .ok (.func fn first cap) w := fun _ _ _ _ => rfl
  have hlt := h.lt
  go_enter Tryd.func69, Tryd.ntmps69
  go_wp2_with fail
  refine (part_ok R l p 103 _ _ (fun w2 => Rd w2 R l (p + 4) false ∧ Var w2 (w.heap.size + 1) (.int .u32 (leN ((l.drop p).take 4) : Int)) ∧ w.grownBy w2 (some R)) ?_ u32_enter ?_).mono ?_
  · exact (h.kept (World.grownBy_alloc _ _ none) (by simp)).kept (World.grownBy_alloc _ _ none) (by simp)
  · intro w1 hg
    have hg2 := World.grownBy.trans (only_alloc (only_alloc (World.grownBy.refl w (some R)) (.cells #[.pointer (some ⟨R, 0, none⟩)] 41)) (.cells #[.int .u32 0] 97)) (only_but hg (some R))
    have hV0 : Var w1 w.heap.size (.pointer (some ⟨R, 0, none⟩)) := ((Var.one w _ 41).far (World.grownBy_alloc _ _ none) (by simp)).far hg (by simp)
    have hV1 : Var w1 (w.heap.size + 1) (.int .u32 0) := (Var.at_ (w.alloc _) _ _ _ (by simp)).far hg (by simp)
    have hrd : Rd w1 R l p false := ((h.kept (World.grownBy_alloc _ _ none) (by simp)).kept (World.grownBy_alloc _ _ none) (by simp)).kept hg (by simp)
    refine (u32_way_ok R l p _ _ w1 hrd hV0 hV1 (by omega) hp hm).mono ?_
    rintro e w2 ⟨rfl, h1, h2, h3⟩
    exact ⟨rfl, h1, h2, h3 w hg2 (by omega)⟩
  rintro e w2 ⟨rfl, hrd, hv, hgr⟩
  have cv := hv.1
  have fv := hv.2
  go_wp2_with fail
  refine ⟨rfl, .int .u32 (leN ((l.drop p).take 4) : Int), by simp [results, Tryd.results69, go_sem, (hv.set (.int .u32 (leN ((l.drop p).take 4) : Int))).1], only_setCell hgr (Or.inr (by simp)) _, .inl ⟨_, 4, rfl, rfl, hrd.set_ (by omega) _⟩⟩

theorem u32_way_no (R : Nat) (l : List UInt8) (p a b : Nat) (w1 : World) (h : Rd w1 R l p false) (ha : Var w1 a (.pointer (some ⟨R, 0, none⟩))) (hp : l.length < p + 4) (hm : l.length ≤ 140737488355328) :
    Calls Tryd.prog 103 #[.pointer (some ⟨a, 0, none⟩), .pointer (some ⟨b, 0, none⟩)] w1 fun e w2 => e = .panicked gives ∧ (∃ q, Rd w2 R l q false) ∧ w1.grownBy w2 (some R) := by
  have ca := ha.1
  go_enter Tryd.func103, Tryd.ntmps103
  go_wp2_with fail
  refine (next_no R l p 4 false _ h (by omega) hm).mono ?_
  rintro e w2 ⟨rfl, q, rfl⟩
  go_wp2_with fail
  exact ⟨rfl, rfl, ⟨_, h⟩, only_drewN (World.grownBy.refl _ _) q⟩

set_option maxRecDepth 100000 in
set_option maxHeartbeats 1000000 in
theorem u32_no (R : Nat) (l : List UInt8) (p : Nat) (w : World) (h : Rd w R l p false) (hp : l.length < p + 4) (hm : l.length ≤ 140737488355328) :
    Calls Tryd.prog 69 #[.pointer (some ⟨R, 0, none⟩)] w (ReadEnd R l p w (.int .u32 0) none) := by
  have hmf : ∀ (fn : Fn) (first cap : Array Value) (w : World), (Instr.makeFunc fn first cap).run Tryd.prog w = .ok (.func fn first cap) w := fun _ _ _ _ => rfl
  have hlt := h.lt
  go_enter Tryd.func69, Tryd.ntmps69
  go_wp2_with fail
  have h2 := (h.kept (World.grownBy_alloc w (.cells #[.pointer (some ⟨R, 0, none⟩)] 41) none) (by simp)).kept (World.grownBy_alloc _ (.cells #[.int .u32 0] 97) none) (by simp)
  refine (part_no R l p 103 _ _ h2 u32_enter ?_).mono ?_
  · intro w1 hg
    have hV0 : Var w1 w.heap.size (.pointer (some ⟨R, 0, none⟩)) := ((Var.one w _ 41).far (World.grownBy_alloc _ _ none) (by simp)).far hg (by simp)
    exact u32_way_no R l p _ _ w1 (h2.kept hg (by simp)) hV0 hp hm
  rintro e w2 ⟨rfl, hrd, hgr⟩
  have hv : Var w2 (w.heap.size + 1) (.int .u32 0) := (Var.at_ (w.alloc (.cells #[.pointer (some ⟨R, 0, none⟩)] 41)) _ _ _ (by simp)).far hgr (by simp; omega)
  have hgr2 := World.grownBy.trans (only_alloc (only_alloc (World.grownBy.refl w (some R)) _) _) hgr
  have cv := hv.1
  have fv := hv.2
  go_wp2_with fail
  refine ⟨rfl, .int .u32 0, by simp [results, Tryd.results69, go_sem, (hv.set (.int .u32 0)).1], only_setCell hgr2 (Or.inr (by simp)) _, .inr ⟨rfl, rfl, hrd.set_ (by omega) _⟩⟩

theorem u32_skip (A : Option Addr) (w : World) (h : Skips w A) :
    Calls Tryd.prog 69 #[.pointer A] w fun e w' => e = .returned (.int .u32 0) ∧ w.grownBy w' none := by
  have hmf : ∀ (fn : Fn) (first cap : Array Value) (w : World), (Instr.makeFunc fn first cap).run Tryd.prog w = .ok (.func fn first cap) w := fun _ _ _ _ => rfl
  go_enter Tryd.func69, Tryd.ntmps69
  go_wp2_with fail
  refine (part_skip _ 103 _ _ ?_).mono ?_
  · exact ((h.kept (World.grownBy_alloc _ _ none)).kept (World.grownBy_alloc _ _ none)).val
  rintro e w2 ⟨rfl, hgr⟩
  have hv : Var w2 (w.heap.size + 1) (.int .u32 0) := (Var.at_ (w.alloc (.cells #[.pointer A] 41)) _ _ _ (by simp)).far hgr (by simp)
  have hgr2 := World.grownBy.trans (only_alloc (only_alloc (World.grownBy.refl w none) _) _) hgr
  have cv := hv.1
  have fv := hv.2
  go_wp2_with fail
  refine ⟨rfl, .int .u32 0, by simp [results, Tryd.results69, go_sem, (hv.set (.int .u32 0)).1], rfl, none_setCell hgr2 (by simp) _⟩
end Go.Proofs.YtbbikkncobgabaaDoor
