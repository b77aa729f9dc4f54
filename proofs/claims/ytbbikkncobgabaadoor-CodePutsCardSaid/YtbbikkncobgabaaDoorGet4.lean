/-
  scrivenerlaw02.get, of raw bytes. By an AI agent.
-/
import Derived.Test.YtbbikkncobgabaaDoorGet
namespace Go.Proofs.YtbbikkncobgabaaDoor
open Go.RowKit

theorem raw_ok2 (R : Nat) (l : List UInt8) (p n : Nat) (w : World) (h : Rd w R l p false) (hp : p + n ≤ l.length) (hm : l.length ≤ 140737488355328) :
    Calls Tryd.prog 54 #[.pointer (some ⟨R, 0, none⟩), .int .i64 n] w fun e w' => ∃ v, e = .returned v ∧ Owns w' w.heap.size v ((l.drop p).take n) ∧ Rd w' R l (p + n) false ∧ w.grownBy w' (some R) :=
  (raw_ok R l p n w h hp hm).mono fun e w' ⟨hg, hx⟩ => by
    rcases hx with ⟨v, j, e1, he, ho, hr⟩ | ⟨e1, _⟩
    · injection e1 with e1
      subst e1
      exact ⟨v, he, ho, hr, hg⟩
    · cases e1
theorem raw_no2 (R : Nat) (l : List UInt8) (p : Nat) (n : Int) (w : World) (h : Rd w R l p false) (hn : n < 0 ∨ (l.length : Int) - (p : Int) < n) (hm : l.length ≤ 140737488355328) :
    Calls Tryd.prog 54 #[.pointer (some ⟨R, 0, none⟩), .int .i64 n] w fun e w' => e = .returned (.slice none 0 0) ∧ Rd w' R l p true ∧ w.grownBy w' (some R) :=
  (raw_no R l p n w h hn hm).mono fun e w' ⟨hg, hx⟩ => by
    rcases hx with ⟨v, j, e1, _⟩ | ⟨_, he, hr⟩
    · cases e1
    · exact ⟨he, hr, hg⟩

theorem Rd.drew {w : World} {R : Nat} {l : List UInt8} {p : Nat} {b : Bool} (h : Rd w R l p b) : Rd w.drew R l p b := h

set_option maxRecDepth 100000 in
set_option maxHeartbeats 2000000 in
theorem get_4 (R : Nat) (l : List UInt8) (p : Nat) (s m x : Int) (A : Option Addr) (n c : Nat) (w : World) (h : Rd w R l p false) (hk : s % 5 = 4) (hmost : m ≤ 9223372036854775807) (hm : l.length ≤ 140737488355328) :
    Calls Tryd.prog 27 #[.pointer (some ⟨R, 0, none⟩), part s m x (.slice A n c)] w (GetEnd R l p w (rdPart 4 m (l.drop p))) := by
  have hlt := h.lt
  have Hk := Lib.hid hk
  clear hk
  have hsort := sort_any s m x A n c
  unfold part at hsort ⊢
  go_enter Tryd.func27, Tryd.ntmps27
  go_wp2_with fail
  refine (hsort _).mono ?_
  rintro e w1 ⟨rfl, hg1⟩
  rw [Hk.out]
  have hgw : w.grownBy w1 none := World.grownBy.trans (World.grownBy_alloc w _ none) hg1
  have hgR := only_but hgw (some R)
  have hrd := h.kept hgw (by simp)
  have cm : w1.cell? ⟨w.heap.size, 1, none⟩ = some (.int .i64 m) := by
    rw [hg1.cell_far _ (by simp) (by simp)]; simp
  have hsz1 : w.heap.size < w1.heap.size := by have := hg1.size; simp at this; omega
  clear hsort hg1
  have cm2 : w1.drew.cell? ⟨w.heap.size, 1, none⟩ = some (.int .i64 m) := cm
  go_wp2_with fail
  by_cases hg : 0 ≤ m ∧ p + m.toNat ≤ l.length
  · obtain ⟨j, rfl⟩ := Int.eq_ofNat_of_zero_le hg.1
    have hj : p + j ≤ l.length := by simpa using hg.2
    go_region_with ((go_at_call 54; refine (raw_ok2 R l p j _ hrd.drew hj hm).mono ?_; rintro e w2 ⟨v, rfl, hown, hrd2, hg2⟩; have hcv := hown.conv))
    all_goals
      go_wp2_with fail
      go_ret2
      exact ⟨(only_drew hgR).trans hg2, .inl ⟨0, (l.drop p).take j, j, by rw [rdPart.eq_def, if_neg (by decide), if_neg (by decide), if_neg (by decide), if_neg (by decide), if_pos (by rw [List.length_drop]; omega)]; simp, rfl, hrd2⟩⟩
  · have hpl : p ≤ l.length := by obtain ⟨_, _, _, _, _, hpl, _⟩ := h; exact hpl
    go_region_with ((go_at_call 54; refine (raw_no2 R l p m _ hrd.drew (by omega) hm).mono ?_; rintro e w2 ⟨rfl, hrd2, hg2⟩; have hcv := (Owns.nil w2 0).conv))
    all_goals
      go_wp2_with fail
      go_ret2
      exact ⟨(only_drew hgR).trans hg2, .inr ⟨by rw [rdPart.eq_def, if_neg (by decide), if_neg (by decide), if_neg (by decide), if_neg (by decide), if_neg (by rw [List.length_drop]; omega)], rfl, hrd2⟩⟩


theorem Skips.drew {w : World} {B : Option Addr} (h : Skips w B) : Skips w.drew B := h

set_option maxRecDepth 100000 in
set_option maxHeartbeats 2000000 in
theorem getSkip_0 (B : Option Addr) (s m x : Int) (A : Option Addr) (n c : Nat) (w : World) (h : Skips w B) (hk : s % 5 = 0) :
    Calls Tryd.prog 27 #[.pointer B, part s m x (.slice A n c)] w fun e w' => e = .returned (.tuple #[.int .u64 0, .string (str [])]) ∧ w.grownBy w' none := by
  have Hk := Lib.hid hk
  clear hk
  have hsort := sort_any s m x A n c
  unfold part at hsort ⊢
  go_enter Tryd.func27, Tryd.ntmps27
  go_wp2_with fail
  refine (hsort _).mono ?_
  rintro e w1 ⟨rfl, hg1⟩
  rw [Hk.out]
  have hgw : w.grownBy w1 none := World.grownBy.trans (World.grownBy_alloc w _ none) hg1
  have hsk := h.kept hgw
  have cm : w1.cell? ⟨w.heap.size, 1, none⟩ = some (.int .i64 m) := by
    rw [hg1.cell_far _ (by simp) (by simp)]; simp
  have cm2 : w1.drew.cell? ⟨w.heap.size, 1, none⟩ = some (.int .i64 m) := cm
  clear hsort hg1
  go_wp2_with fail
  refine (u8_skip B _ hsk).mono ?_
  rintro e w2 ⟨rfl, hg2⟩
  go_wp2_with fail
  go_ret2
  exact ⟨rfl, hgw.trans hg2⟩

set_option maxRecDepth 100000 in
set_option maxHeartbeats 2000000 in
theorem getSkip_1 (B : Option Addr) (s m x : Int) (A : Option Addr) (n c : Nat) (w : World) (h : Skips w B) (hk : s % 5 = 1) :
    Calls Tryd.prog 27 #[.pointer B, part s m x (.slice A n c)] w fun e w' => e = .returned (.tuple #[.int .u64 0, .string (str [])]) ∧ w.grownBy w' none := by
  have Hk := Lib.hid hk
  clear hk
  have hsort := sort_any s m x A n c
  unfold part at hsort ⊢
  go_enter Tryd.func27, Tryd.ntmps27
  go_wp2_with fail
  refine (hsort _).mono ?_
  rintro e w1 ⟨rfl, hg1⟩
  rw [Hk.out]
  have hgw : w.grownBy w1 none := World.grownBy.trans (World.grownBy_alloc w _ none) hg1
  have hsk := h.kept hgw
  have cm : w1.cell? ⟨w.heap.size, 1, none⟩ = some (.int .i64 m) := by
    rw [hg1.cell_far _ (by simp) (by simp)]; simp
  have cm2 : w1.drew.cell? ⟨w.heap.size, 1, none⟩ = some (.int .i64 m) := cm
  clear hsort hg1
  go_wp2_with fail
  refine (u32_skip B _ hsk).mono ?_
  rintro e w2 ⟨rfl, hg2⟩
  go_wp2_with fail
  go_ret2
  exact ⟨rfl, hgw.trans hg2⟩

set_option maxRecDepth 100000 in
set_option maxHeartbeats 2000000 in
theorem getSkip_2 (B : Option Addr) (s m x : Int) (A : Option Addr) (n c : Nat) (w : World) (h : Skips w B) (hk : s % 5 = 2) :
    Calls Tryd.prog 27 #[.pointer B, part s m x (.slice A n c)] w fun e w' => e = .returned (.tuple #[.int .u64 0, .string (str [])]) ∧ w.grownBy w' none := by
  have Hk := Lib.hid hk
  clear hk
  have hsort := sort_any s m x A n c
  unfold part at hsort ⊢
  go_enter Tryd.func27, Tryd.ntmps27
  go_wp2_with fail
  refine (hsort _).mono ?_
  rintro e w1 ⟨rfl, hg1⟩
  rw [Hk.out]
  have hgw : w.grownBy w1 none := World.grownBy.trans (World.grownBy_alloc w _ none) hg1
  have hsk := h.kept hgw
  have cm : w1.cell? ⟨w.heap.size, 1, none⟩ = some (.int .i64 m) := by
    rw [hg1.cell_far _ (by simp) (by simp)]; simp
  have cm2 : w1.drew.cell? ⟨w.heap.size, 1, none⟩ = some (.int .i64 m) := cm
  clear hsort hg1
  go_wp2_with fail
  refine (uint_skip B _ hsk).mono ?_
  rintro e w2 ⟨rfl, hg2⟩
  go_wp2_with fail
  go_ret2
  exact ⟨rfl, hgw.trans hg2⟩

set_option maxRecDepth 100000 in
set_option maxHeartbeats 2000000 in
theorem getSkip_3 (B : Option Addr) (s m x : Int) (A : Option Addr) (n c : Nat) (w : World) (h : Skips w B) (hk : s % 5 = 3) :
    Calls Tryd.prog 27 #[.pointer B, part s m x (.slice A n c)] w fun e w' => e = .returned (.tuple #[.int .u64 0, .string (str [])]) ∧ w.grownBy w' none := by
  have Hk := Lib.hid hk
  clear hk
  have hsort := sort_any s m x A n c
  unfold part at hsort ⊢
  go_enter Tryd.func27, Tryd.ntmps27
  go_wp2_with fail
  refine (hsort _).mono ?_
  rintro e w1 ⟨rfl, hg1⟩
  rw [Hk.out]
  have hgw : w.grownBy w1 none := World.grownBy.trans (World.grownBy_alloc w _ none) hg1
  have hsk := h.kept hgw
  have cm : w1.cell? ⟨w.heap.size, 1, none⟩ = some (.int .i64 m) := by
    rw [hg1.cell_far _ (by simp) (by simp)]; simp
  have cm2 : w1.drew.cell? ⟨w.heap.size, 1, none⟩ = some (.int .i64 m) := cm
  clear hsort hg1
  go_wp2_with fail
  refine (text_skip B m _ hsk).mono ?_
  rintro e w2 ⟨rfl, hg2⟩
  go_wp2_with fail
  go_ret2
  exact ⟨rfl, hgw.trans hg2⟩

set_option maxRecDepth 100000 in
set_option maxHeartbeats 2000000 in
theorem getSkip_4 (B : Option Addr) (s m x : Int) (A : Option Addr) (n c : Nat) (w : World) (h : Skips w B) (hk : s % 5 = 4) :
    Calls Tryd.prog 27 #[.pointer B, part s m x (.slice A n c)] w fun e w' => e = .returned (.tuple #[.int .u64 0, .string (str [])]) ∧ w.grownBy w' none := by
  have Hk := Lib.hid hk
  clear hk
  have hsort := sort_any s m x A n c
  unfold part at hsort ⊢
  go_enter Tryd.func27, Tryd.ntmps27
  go_wp2_with fail
  refine (hsort _).mono ?_
  rintro e w1 ⟨rfl, hg1⟩
  rw [Hk.out]
  have hgw : w.grownBy w1 none := World.grownBy.trans (World.grownBy_alloc w _ none) hg1
  have hsk := h.kept hgw
  have cm : w1.cell? ⟨w.heap.size, 1, none⟩ = some (.int .i64 m) := by
    rw [hg1.cell_far _ (by simp) (by simp)]; simp
  have cm2 : w1.drew.cell? ⟨w.heap.size, 1, none⟩ = some (.int .i64 m) := cm
  clear hsort hg1
  go_wp2_with fail
  go_region_with ((go_at_call 54; refine (raw_skip B m _ hsk.drew).mono ?_; rintro e w2 ⟨rfl, hg2⟩; have hcv := (Owns.nil w2 0).conv))
  all_goals
    go_wp2_with fail
    go_ret2
    exact ⟨rfl, (only_drew hgw).trans hg2⟩

/-- get, whatever the part -/
theorem get_any (R : Nat) (l : List UInt8) (p : Nat) (s m x : Int) (A : Option Addr) (n c : Nat) (w : World) (h : Rd w R l p false) (hmost : m ≤ 9223372036854775807) (hm : l.length ≤ 140737488355328) :
    Calls Tryd.prog 27 #[.pointer (some ⟨R, 0, none⟩), part s m x (.slice A n c)] w (GetEnd R l p w (rdPart (s % 5) m (l.drop p))) := by
  rcases (by omega : s % 5 = 0 ∨ s % 5 = 1 ∨ s % 5 = 2 ∨ s % 5 = 3 ∨ s % 5 = 4) with hk | hk | hk | hk | hk <;> rw [hk]
  · exact get_0 R l p s m x A n c w h hk hm
  · exact get_1 R l p s m x A n c w h hk hm
  · exact get_2 R l p s m x A n c w h hk hm
  · exact get_3 R l p s m x A n c w h hk hmost hm
  · exact get_4 R l p s m x A n c w h hk hmost hm
theorem getSkip_any (B : Option Addr) (s m x : Int) (A : Option Addr) (n c : Nat) (w : World) (h : Skips w B) :
    Calls Tryd.prog 27 #[.pointer B, part s m x (.slice A n c)] w fun e w' => e = .returned (.tuple #[.int .u64 0, .string (str [])]) ∧ w.grownBy w' none := by
  rcases (by omega : s % 5 = 0 ∨ s % 5 = 1 ∨ s % 5 = 2 ∨ s % 5 = 3 ∨ s % 5 = 4) with hk | hk | hk | hk | hk
  · exact getSkip_0 B s m x A n c w h hk
  · exact getSkip_1 B s m x A n c w h hk
  · exact getSkip_2 B s m x A n c w h hk
  · exact getSkip_3 B s m x A n c w h hk
  · exact getSkip_4 B s m x A n c w h hk
end Go.Proofs.YtbbikkncobgabaaDoor
