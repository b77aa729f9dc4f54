/-
  What a reader answers, and what the document's does, part by part. By an AI agent.
-/
import Derived.Test.YtbbikkncobgabaaDoorDrX
import Derived.Test.YtbbikkncobgabaaDoorStays
namespace Go.Proofs.YtbbikkncobgabaaDoor
open Go.RowKit

/-- a reading, good or not, by a reader that may be behind a fault -/
def GetBoth (R : Nat) (l : List UInt8) (q : Nat) (bad : Bool) (good : Option (Nat × List UInt8 × Nat)) (w : World) (e : Ending) (w' : World) : Prop :=
  w.grownBy w' (some R) ∧ ((bad = false ∧ ∃ y t j, good = some (y, t, j) ∧ e = .returned (.tuple #[.int .u64 (y : Int), .string (str t)]) ∧ Rd w' R l (q + j) false) ∨ ((good = none ∨ bad = true) ∧ e = .returned (.tuple #[.int .u64 0, .string ⟨#[]⟩]) ∧ Rd w' R l q true))

theorem get_both (R : Nat) (l : List UInt8) (q : Nat) (bad : Bool) (s m x : Int) (A : Option Addr) (n c : Nat) (w : World) (h : Rd w R l q bad) (hmost : m ≤ 9223372036854775807) (hm : l.length ≤ 140737488355328) :
    Calls Tryd.prog 27 #[.pointer (some ⟨R, 0, none⟩), part s m x (.slice A n c)] w (GetBoth R l q bad (rdPart (s % 5) m (l.drop q)) w) := by
  cases bad
  · refine (get_any R l q s m x A n c w h hmost hm).mono ?_
    rintro e w' ⟨hg, ⟨y, t, j, h1, rfl, h2⟩ | ⟨h1, rfl, h2⟩⟩
    · exact ⟨hg, .inl ⟨rfl, y, t, j, h1, rfl, h2⟩⟩
    · exact ⟨hg, .inr ⟨.inl h1, rfl, h2⟩⟩
  · refine (getSkipped R l q s m x A n c w h).mono ?_
    rintro e w' ⟨rfl, h2, hg⟩
    exact ⟨only_but hg _, .inr ⟨.inr rfl, rfl, h2⟩⟩

theorem rd_inv0 (m : Int) (r : List UInt8) (y : Nat) (t : List UInt8) (j : Nat) (h : rdPart 0 m r = some (y, t, j)) : 1 ≤ r.length ∧ y = leN (r.take 1) ∧ t = [] ∧ j = 1 := by
  unfold rdPart at h
  rw [if_pos rfl] at h
  cases r with
  | nil => cases h
  | cons c r =>
    simp at h
    obtain ⟨rfl, rfl, rfl⟩ := h
    simp [leN]
theorem rd_none0 (m : Int) (r : List UInt8) (h : rdPart 0 m r = none) : r.length < 1 := by
  unfold rdPart at h
  rw [if_pos rfl] at h
  cases r with
  | nil => simp
  | cons c r => simp at h
theorem rd_inv1 (m : Int) (r : List UInt8) (y : Nat) (t : List UInt8) (j : Nat) (h : rdPart 1 m r = some (y, t, j)) : 4 ≤ r.length ∧ y = leN (r.take 4) ∧ t = [] ∧ j = 4 := by
  unfold rdPart at h
  rw [if_neg (by decide), if_pos rfl] at h
  split at h
  · rename_i h4
    simp at h
    obtain ⟨rfl, rfl, rfl⟩ := h
    exact ⟨h4, rfl, rfl, rfl⟩
  · cases h
theorem rd_none1 (m : Int) (r : List UInt8) (h : rdPart 1 m r = none) : r.length < 4 := by
  unfold rdPart at h
  rw [if_neg (by decide), if_pos rfl] at h
  split at h
  · cases h
  · omega
theorem rd_inv2 (m : Int) (r : List UInt8) (y : Nat) (t : List UInt8) (j : Nat) (h : rdPart 2 m r = some (y, t, j)) : num 0 0 r = some (y, j) ∧ t = [] := by
  unfold rdPart at h
  rw [if_neg (by decide), if_neg (by decide), if_pos rfl] at h
  rcases hn : num 0 0 r with _ | ⟨x, k⟩
  · rw [hn] at h; cases h
  · rw [hn] at h
    simp at h
    obtain ⟨rfl, rfl, rfl⟩ := h
    exact ⟨rfl, rfl⟩
theorem rd_none2 (m : Int) (r : List UInt8) (h : rdPart 2 m r = none) : num 0 0 r = none := by
  unfold rdPart at h
  rw [if_neg (by decide), if_neg (by decide), if_pos rfl] at h
  rcases hn : num 0 0 r with _ | ⟨x, k⟩
  · rfl
  · rw [hn] at h; cases h
theorem rd_inv3 (m : Int) (r : List UInt8) (y : Nat) (t : List UInt8) (j : Nat) (h : rdPart 3 m r = some (y, t, j)) : ∃ k x, text m r = some (k, x) ∧ y = 0 ∧ t = (r.drop k).take x ∧ j = k + x := by
  unfold rdPart at h
  rw [if_neg (by decide), if_neg (by decide), if_neg (by decide), if_pos rfl] at h
  rcases hn : text m r with _ | ⟨k, x⟩
  · rw [hn] at h; cases h
  · rw [hn] at h
    simp at h
    obtain ⟨rfl, rfl, rfl⟩ := h
    exact ⟨k, x, rfl, rfl, rfl, rfl⟩
theorem rd_none3 (m : Int) (r : List UInt8) (h : rdPart 3 m r = none) : text m r = none := by
  unfold rdPart at h
  rw [if_neg (by decide), if_neg (by decide), if_neg (by decide), if_pos rfl] at h
  rcases hn : text m r with _ | ⟨k, x⟩
  · rfl
  · rw [hn] at h; cases h
theorem rd_inv4 (m : Int) (r : List UInt8) (y : Nat) (t : List UInt8) (j : Nat) (h : rdPart 4 m r = some (y, t, j)) : ∃ k : Nat, m = (k : Int) ∧ k ≤ r.length ∧ y = 0 ∧ t = r.take k ∧ j = k := by
  unfold rdPart at h
  rw [if_neg (by decide), if_neg (by decide), if_neg (by decide), if_neg (by decide)] at h
  split at h
  · rename_i h4
    simp at h
    obtain ⟨rfl, rfl, rfl⟩ := h
    exact ⟨m.toNat, by omega, by omega, rfl, rfl, rfl⟩
  · cases h
theorem rd_none4 (m : Int) (r : List UInt8) (h : rdPart 4 m r = none) : m < 0 ∨ (r.length : Int) < m := by
  unfold rdPart at h
  rw [if_neg (by decide), if_neg (by decide), if_neg (by decide), if_neg (by decide)] at h
  split at h
  · cases h
  · omega

set_option maxRecDepth 100000 in
set_option maxHeartbeats 1000000 in
theorem left_q (R : Nat) (l : List UInt8) (p : Nat) (bad : Bool) (M : Nat) (w : World) (h : Rd w R l p bad) (hm : l.length ≤ 140737488355328) (hM : (l.length : Int) - (p : Int) = (M : Int)) :
    Calls Tryd.prog 23 #[.pointer (some ⟨R, 0, none⟩)] w fun e w' => e = .returned (.int .i64 (M : Int)) ∧ ∃ k, w' = w.drewN k := by
  rw [← hM]
  obtain ⟨A, cap, hb, hlc, hcm, hp, hA, hr⟩ := h
  have c0 : w.cell? ⟨R, 0, none⟩ = some (.slice A l.length cap) := hb.cell 0
  have c1 : w.cell? ⟨R, 1, none⟩ = some (.int .i64 p) := hb.cell 1
  have hsub : IntKind.i64.wrap ((l.length : Int) - (p : Int)) = (l.length : Int) - (p : Int) := IntWalk.i64_in _ (by omega)
  clear hb hr hA hM
  go_enter Tryd.func23, Tryd.ntmps23
  go_wp2_with fail
  go_quiet (fail)
  go_wp2_with fail
  go_ret
  exact ⟨rfl, _, rfl⟩
theorem err_q (R : Nat) (l : List UInt8) (p : Nat) (bad : Bool) (z : Int) (w : World) (h : Rd w R l p bad) (hz : (if bad then 2 else 0) = z) :
    Calls Tryd.prog 24 #[.pointer (some ⟨R, 0, none⟩)] w fun e w' => e = .returned (.int .i64 z) ∧ w' = w := by
  subst hz
  exact (err_rd R l p bad w h).mono fun _ _ ⟨h1, h2⟩ => ⟨h1, h2.symm⟩
end Go.Proofs.YtbbikkncobgabaaDoor
