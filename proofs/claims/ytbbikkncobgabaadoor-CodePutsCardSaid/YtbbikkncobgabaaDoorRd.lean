/-
  code.Reader: where it stands, and its parts. By an AI agent.
-/
import Derived.Test.YtbbikkncobgabaaDoorConv
import Derived.BigQuiet
import Derived.Deep.QuietTactic
import Derived.StillTailTactics
import Derived.Deep.RegionHeld3
import Derived.BigRegion
import Derived.IntWalk
import Derived.Defers
import Derived.Recover
import Derived.WalkLawsBesides
import Derived.Lib.Hide
namespace Go.Proofs.YtbbikkncobgabaaDoor
open Go.RowKit

/-- a reader of these bytes, at that place -/
def Rd (w : World) (R : Nat) (l : List UInt8) (p : Nat) (bad : Bool) : Prop :=
  ∃ A cap, Blk w R 58 #[.slice A l.length cap, .int .i64 p, .bool bad] ∧ l.length ≤ cap ∧ cap ≤ maxLen ∧ p ≤ l.length ∧ (A = none → cap = 0) ∧ Reads w R 1 A l.length (Lib.byteCells l)

theorem must_ok (w : World) : Calls Tryd.prog 66 #[.bool true] w fun e w' => e = .returned (.tuple #[]) ∧ w = w' := by
  go_enter Tryd.func66, Tryd.ntmps66
  go_wp2_with fail
  go_end0
  exact ⟨rfl, rfl⟩

/-- what a reader gives up with -/
def gives : List PanicEntry := [{ v := .iface 147 (.agg #[]), recovered := false }]

theorem must_no (w : World) : Calls Tryd.prog 66 #[.bool false] w fun e w' => e = .panicked gives ∧ w = w' := by
  go_enter Tryd.func66, Tryd.ntmps66
  go_wp2_with fail
  exact ⟨rfl, rfl, rfl⟩

theorem Rd.lt {w : World} {R : Nat} {l : List UInt8} {p : Nat} {bad : Bool} (h : Rd w R l p bad) : R < w.heap.size := by
  obtain ⟨A, cap, hb, _⟩ := h; exact hb.lt
/-- behind whatever left its block and what lies below as it was -/
theorem Rd.kept {w w' : World} {R : Nat} {l : List UInt8} {p : Nat} {bad : Bool} (h : Rd w R l p bad) {row : Option Nat} (hg : w.grownBy w' row) (hr : ∀ k, row = some k → R < k) : Rd w' R l p bad := by
  have hlt := h.lt
  obtain ⟨A, cap, hb, h1, h2, h3, h5, h4⟩ := h
  have hk : ∀ k, k ≤ R → w'.heap[k]? = w.heap[k]? := fun k hk => hg.block k (by omega) (fun e => by have := hr k e.symm; omega)
  refine ⟨A, cap, (hk R (Nat.le_refl _)).trans hb, h1, h2, h3, h5, h4.grown hg (by omega) (fun g e => Nat.le_of_lt (hr g e))⟩

theorem next_ok (R : Nat) (l : List UInt8) (p n : Nat) (bad : Bool) (w : World) (h : Rd w R l p bad) (hn : p + n ≤ l.length) (hm : l.length ≤ 140737488355328) :
    Calls Tryd.prog 67 #[.pointer (some ⟨R, 0, none⟩), .int .i64 n] w fun e w' => (∃ A', e = .returned (.slice A' n n) ∧ Reads w' R 1 A' n (Lib.byteCells ((l.drop p).take n))) ∧ Rd w' R l (p + n) bad ∧ w.grownBy w' (some R) ∧ w'.heap.size = w.heap.size := by
  obtain ⟨A, cap, hb, hlc, hcm, hp, hA, hr⟩ := h
  unfold maxLen at hcm
  have c0 : w.cell? ⟨R, 0, none⟩ = some (.slice A l.length cap) := hb.cell 0
  have c1 : w.cell? ⟨R, 1, none⟩ = some (.int .i64 p) := hb.cell 1
  have f1 := hb.frozen 1
  have hd0 : decide ((0 : Int) ≤ (n : Int)) = true := by rw [decide_eq_true_eq]; omega
  have hsub : IntKind.i64.wrap ((l.length : Int) - (p : Int)) = (l.length : Int) - (p : Int) := IntWalk.i64_in _ (by omega)
  have hd1 : decide ((n : Int) ≤ (l.length : Int) - (p : Int)) = true := by rw [decide_eq_true_eq]; omega
  go_enter Tryd.func67, Tryd.ntmps67
  go_wp2_with fail
  go_quiet ((go_at_call 66; exact Calls.quiet_of_same ((must_ok _).mono fun _ _ ⟨h1, h2⟩ => ⟨h1, h2.symm⟩)))
  go_wp2_with fail
  clear hd0 hd1 hsub
  have hadd : IntKind.i64.wrap ((p : Int) + (n : Int)) = (p : Int) + (n : Int) := IntWalk.i64_in _ (by omega)
  have hpn : ((p : Int)).toNat = p := by omega
  have hpn2 : ((p : Int) + (n : Int)).toNat = p + n := by omega
  have i0 : (0 : Int) ≤ (p : Int) := by omega
  have i1 : (p : Int) ≤ (p : Int) + (n : Int) := by omega
  have i2 : (p : Int) + (n : Int) ≤ (cap : Int) := by omega
  have hb2 : Blk (w.setCell ⟨R, 1, none⟩ (.int .i64 ((p + n : Nat) : Int))) R 58 #[.slice A l.length cap, .int .i64 ((p + n : Nat) : Int), .bool bad] := hb.set_ 1 (.int .i64 ((p + n : Nat) : Int))
  have hr2 := hr.setCell (p := ⟨R, 1, none⟩) (Nat.le_refl _) (.int .i64 ((p + n : Nat) : Int))
  rw [Int.natCast_add] at hb2 hr2
  have hRd : Rd (w.setCell ⟨R, 1, none⟩ (.int .i64 ((p : Int) + (n : Int)))) R l (p + n) bad := ⟨A, cap, by rw [Int.natCast_add]; exact hb2, hlc, by unfold maxLen; exact hcm, hn, hA, hr2⟩
  have hsz : (w.setCell ⟨R, 1, none⟩ (.int .i64 ((p : Int) + (n : Int)))).heap.size = w.heap.size := by simp
  have HRd := Lib.hid hRd
  have Hsz := Lib.hid hsz
  clear hRd hsz hb2
  rcases A with _ | ad
  · have hc0 := hA rfl
    subst hc0
    obtain rfl : n = 0 := by omega
    obtain rfl : p = 0 := by omega
    clear hA hr hr2
    go_wp2_with fail
    go_quiet (fail)
    go_wp2_with fail
    go_ret
    exact ⟨⟨none, rfl, Reads.none_⟩, HRd.out, only_setCell (only_drewN (World.grownBy.refl _ _) _) (Or.inl rfl) _, Hsz.out⟩
  · clear hA hr
    rcases Nat.eq_zero_or_pos n with rfl | hpos
    · go_wp2_with fail
      go_quiet (fail)
      go_wp2_with fail
      go_ret
      exact ⟨⟨_, rfl, by simp [Lib.byteCells], fun h => absurd h (by omega)⟩, HRd.out, only_setCell (only_drewN (World.grownBy.refl _ _) _) (Or.inl rfl) _, Hsz.out⟩
    · go_wp2_with fail
      go_quiet (fail)
      clear c0 hadd hpn hpn2
      have hne : ¬ n = 0 := by omega
      have hcut := (hr2.cut (k := p) (cap := cap) hp hlc)
      go_wp2_with fail
      go_ret
      refine ⟨⟨_, rfl, ?_⟩, HRd.out, only_setCell (only_drewN (World.grownBy.refl _ _) _) (Or.inl rfl) _, Hsz.out⟩
      rw [if_neg (by omega)] at hcut
      simp only [Nat.mul_one, Option.map_some, byteCells_drop] at hcut
      have := hcut.take (k := n) (by omega)
      rwa [byteCells_take] at this

section
variable {P : Program} {ops : Array Oper} {w : World} {Q : Act → Prop} {rest : List Oper} {o : Oper} {a : Act}
theorem still_hide {l : List Oper} (h : ∀ Q' : Act → Prop, Hid (Q' = Q) → wpStill P ops w Q' l a) : wpStill P ops w Q l a := h Q (Lib.hid rfl)
theorem still_want (hw : Region.wanted o (yielded ops a.tmps) = true) (h : ∀ K : Act → Prop, (∀ a, wpStill P ops w Q rest a → K a) → o.still P a w K) : wpStill P ops w Q (o :: rest) a :=
  wpStill_step fun K hK => by rw [if_pos hw]; exact h K hK
theorem still_skip (hw : Region.wanted o (yielded ops a.tmps) = false) (h : wpStill P ops w Q rest (a.put o.dst undef)) : wpStill P ops w Q (o :: rest) a :=
  wpStill_step fun K hK => by rw [if_neg (by rw [hw]; exact Bool.false_ne_true)]; exact hK _ h
end

attribute [local irreducible] wpStill in
set_option maxHeartbeats 1000000 in
set_option maxRecDepth 100000 in
theorem next_no (R : Nat) (l : List UInt8) (p : Nat) (n : Int) (bad : Bool) (w : World) (h : Rd w R l p bad) (hn : n < 0 ∨ (l.length : Int) - (p : Int) < n) (hm : l.length ≤ 140737488355328) :
    Calls Tryd.prog 67 #[.pointer (some ⟨R, 0, none⟩), .int .i64 n] w fun e w' => e = .panicked gives ∧ ∃ k, w' = w.drewN k := by
  obtain ⟨A, cap, hb, hlc, hcm, hp, hA, hr⟩ := h
  have c0 : w.drew.cell? ⟨R, 0, none⟩ = some (.slice A l.length cap) := hb.cell 0
  have c1 : w.drew.cell? ⟨R, 1, none⟩ = some (.int .i64 p) := hb.cell 1
  have c0' : w.cell? ⟨R, 0, none⟩ = some (.slice A l.length cap) := hb.cell 0
  have c1' : w.cell? ⟨R, 1, none⟩ = some (.int .i64 p) := hb.cell 1
  have hsub : IntKind.i64.wrap ((l.length : Int) - (p : Int)) = (l.length : Int) - (p : Int) := IntWalk.i64_in _ (by omega)
  clear hb hr hA
  rcases (by omega : n < 0 ∨ (0 ≤ n ∧ (l.length : Int) - (p : Int) < n)) with h0 | ⟨h0, h1⟩
  · have hd0 : decide ((0 : Int) ≤ n) = false := by rw [decide_eq_false_iff_not]; omega
    clear hn h0
    go_enter Tryd.func67, Tryd.ntmps67
    go_wp2_with fail
    refine wp_region_still_tail 16 (by kernel_rfl) (by kernel_rfl) ?_
    simp only [List.take_succ_cons, List.take_zero, List.drop_succ_cons, List.drop_zero]
    refine still_hide ?_
    intro QQ HQ
    iterate 3 (refine still_want rfl (fun K hK => ?_); go_simp; refine hK _ ?_; clear hK K)
    iterate 12 (refine still_skip (by kernel_rfl) ?_)
    iterate 1 (refine still_want rfl (fun K hK => ?_); go_simp; refine hK _ ?_; clear hK K)
    refine wpStill_nil ?_
    rw [HQ.out]
    clear HQ
    change wpList _ _ _ _ _ w.drew
    go_wp2_with fail
    refine (must_no _).mono ?_
    rintro e w1 ⟨rfl, rfl⟩
    go_wp2_with fail
    exact ⟨rfl, rfl, 1, rfl⟩
  · obtain ⟨m, rfl⟩ := Int.eq_ofNat_of_zero_le h0
    have hd0 : decide ((0 : Int) ≤ (m : Int)) = true := by rw [decide_eq_true_eq]; omega
    have hd1 : decide ((m : Int) ≤ (l.length : Int) - (p : Int)) = false := by rw [decide_eq_false_iff_not]; omega
    clear hn
    go_enter Tryd.func67, Tryd.ntmps67
    go_wp2_with fail
    refine wp_region_still_tail 16 (by kernel_rfl) (by kernel_rfl) ?_
    simp only [List.take_succ_cons, List.take_zero, List.drop_succ_cons, List.drop_zero]
    refine still_hide ?_
    intro QQ HQ
    iterate 16 (refine still_want rfl (fun K hK => ?_); go_simp; refine hK _ ?_; clear hK K)
    refine wpStill_nil ?_
    rw [HQ.out]
    clear HQ
    change wpList _ _ _ _ _ w.drew
    go_wp2_with fail
    refine (must_no _).mono ?_
    rintro e w1 ⟨rfl, rfl⟩
    go_wp2_with fail
    exact ⟨rfl, rfl, 1, rfl⟩
end Go.Proofs.YtbbikkncobgabaaDoor
