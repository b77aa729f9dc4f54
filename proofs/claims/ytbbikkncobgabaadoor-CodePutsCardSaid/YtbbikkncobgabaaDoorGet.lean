/-
  scrivenerlaw02: a part's sort; get. By an AI agent.
-/
import Derived.Test.YtbbikkncobgabaaDoorEnds
namespace Go.Proofs.YtbbikkncobgabaaDoor
open Go.RowKit

/-- a Part's value -/
def part (s m x : Int) (v : Value) : Value := .agg #[.int .i64 s, .int .i64 m, .int .u64 x, v]

theorem tmod5 (s : Int) : ∃ k, s.tmod 5 = k ∧ ((k < 0 ∧ -5 < k ∧ k + 5 = s % 5) ∨ (0 ≤ k ∧ k = s % 5)) := by
  refine ⟨_, rfl, ?_⟩
  rcases Int.le_total 0 s with h | h
  · rw [Int.tmod_eq_emod_of_nonneg h]; omega
  · obtain ⟨t, rfl⟩ : ∃ t : Int, s = -t := ⟨-s, by omega⟩
    rw [Int.neg_tmod, Int.tmod_eq_emod_of_nonneg (by omega)]
    omega

theorem sort_any (s m x : Int) (A : Option Addr) (n c : Nat) (w : World) :
    Calls Tryd.prog 28 #[part s m x (.slice A n c)] w fun e w' => e = .returned (.int .i64 (s % 5)) ∧ w.grownBy w' none := by
  unfold part
  obtain ⟨k, hk, ⟨h2, h3, h4⟩ | ⟨h2, h3⟩⟩ := tmod5 s
  · have hd : decide (k < 0) = true := by rw [decide_eq_true_eq]; exact h2
    have H4 := Lib.hid h4
    clear h4
    go_enter Tryd.func28, Tryd.ntmps28
    go_wp2_with fail
    go_ret
    exact ⟨by rw [← H4.out]; rfl, World.grownBy_alloc _ _ _⟩
  · have hd : decide (k < 0) = false := by rw [decide_eq_false_iff_not]; omega
    have H3 := Lib.hid h3
    clear h3
    go_enter Tryd.func28, Tryd.ntmps28
    go_wp2_with fail
    go_ret
    exact ⟨by rw [← H3.out]; rfl, World.grownBy_alloc _ _ _⟩

/-- a part of a sort, off the front: a number, or bytes; and how many bytes it took -/
def rdPart (k most : Int) (rest : List UInt8) : Option (Nat × List UInt8 × Nat) :=
  if k = 0 then (match rest with | c :: _ => some (c.toNat, [], 1) | [] => none)
  else if k = 1 then (if 4 ≤ rest.length then some (leN (rest.take 4), [], 4) else none)
  else if k = 2 then (match num 0 0 rest with | some (x, n) => some (x, [], n) | none => none)
  else if k = 3 then (match text most rest with | some (j, x) => some (0, (rest.drop j).take x, j + x) | none => none)
  else if 0 ≤ most ∧ most ≤ rest.length then some (0, rest.take most.toNat, most.toNat) else none

/-- how get ends -/
def GetEnd (R : Nat) (l : List UInt8) (p : Nat) (w : World) (good : Option (Nat × List UInt8 × Nat)) (e : Ending) (w' : World) : Prop :=
  w.grownBy w' (some R) ∧ ((∃ y t j, good = some (y, t, j) ∧ e = .returned (.tuple #[.int .u64 (y : Int), .string (str t)]) ∧ Rd w' R l (p + j) false) ∨ (good = none ∧ e = .returned (.tuple #[.int .u64 0, .string (str [])]) ∧ Rd w' R l p true))

set_option maxRecDepth 100000 in
set_option maxHeartbeats 2000000 in
theorem get_0 (R : Nat) (l : List UInt8) (p : Nat) (s m x : Int) (A : Option Addr) (n c : Nat) (w : World) (h : Rd w R l p false) (hk : s % 5 = 0) (hm : l.length ≤ 140737488355328) :
    Calls Tryd.prog 27 #[.pointer (some ⟨R, 0, none⟩), part s m x (.slice A n c)] w (GetEnd R l p w (rdPart 0 m (l.drop p))) := by
  have hlt := h.lt
  have Hk := Lib.hid hk
  clear hk
  have hsort := sort_any s m x A n c
  unfold part at hsort ⊢
  go_enter Tryd.func27, Tryd.ntmps27
  go_wp2_with fail
  refine (hsort _).mono ?_
  rintro e w1 ⟨rfl, hg1⟩
  rw [Hk.out]
  have hgw : w.grownBy w1 none := World.grownBy.trans (World.grownBy_alloc w _ none) hg1
  have hgR := only_but hgw (some R)
  have hrd := h.kept hgw (by simp)
  have cm : w1.cell? ⟨w.heap.size, 1, none⟩ = some (.int .i64 m) := by
    rw [hg1.cell_far _ (by simp) (by simp)]; simp
  clear hsort hg1
  clear cm
  go_wp2_with fail
  by_cases hp : p < l.length
  · refine (u8_ok R l p _ hrd hp hm).mono ?_
    rintro e w2 ⟨hg2, ⟨v, j, e1, rfl, hrd2⟩ | ⟨e1, _⟩⟩
    · injection e1 with e1
      injection e1 with e1 e2
      subst e1 e2
      have hl8 := l[p].toNat_lt
      go_wp2_with fail
      go_ret2
      exact ⟨hgR.trans hg2, .inl ⟨_, _, _, by rw [rdPart.eq_def, if_pos rfl, List.drop_eq_getElem_cons hp], rfl, hrd2⟩⟩
    · cases e1
  · obtain rfl : p = l.length := by obtain ⟨_, _, _, _, _, hpl, _⟩ := h; omega
    refine (u8_no R l _ hrd hm).mono ?_
    rintro e w2 ⟨hg2, ⟨v, j, e1, _⟩ | ⟨_, rfl, hrd2⟩⟩
    · cases e1
    · go_wp2_with fail
      go_ret2
      exact ⟨hgR.trans hg2, .inr ⟨by rw [rdPart.eq_def, if_pos rfl, List.drop_length], rfl, hrd2⟩⟩

set_option maxRecDepth 100000 in
set_option maxHeartbeats 2000000 in
theorem get_1 (R : Nat) (l : List UInt8) (p : Nat) (s m x : Int) (A : Option Addr) (n c : Nat) (w : World) (h : Rd w R l p false) (hk : s % 5 = 1) (hm : l.length ≤ 140737488355328) :
    Calls Tryd.prog 27 #[.pointer (some ⟨R, 0, none⟩), part s m x (.slice A n c)] w (GetEnd R l p w (rdPart 1 m (l.drop p))) := by
  have hlt := h.lt
  have Hk := Lib.hid hk
  clear hk
  have hsort := sort_any s m x A n c
  unfold part at hsort ⊢
  go_enter Tryd.func27, Tryd.ntmps27
  go_wp2_with fail
  refine (hsort _).mono ?_
  rintro e w1 ⟨rfl, hg1⟩
  rw [Hk.out]
  have hgw : w.grownBy w1 none := World.grownBy.trans (World.grownBy_alloc w _ none) hg1
  have hgR := only_but hgw (some R)
  have hrd := h.kept hgw (by simp)
  have cm : w1.cell? ⟨w.heap.size, 1, none⟩ = some (.int .i64 m) := by
    rw [hg1.cell_far _ (by simp) (by simp)]; simp
  clear hsort hg1
  clear cm
  go_wp2_with fail
  by_cases hp : p + 4 ≤ l.length
  · refine (u32_ok R l p _ hrd hp hm).mono ?_
    rintro e w2 ⟨hg2, ⟨v, j, e1, rfl, hrd2⟩ | ⟨e1, _⟩⟩
    · injection e1 with e1
      injection e1 with e1 e2
      subst e1 e2
      have hlt4 := leN_lt ((l.drop p).take 4)
      rw [List.length_take, List.length_drop, Nat.min_eq_left (by omega)] at hlt4
      generalize hq : leN ((l.drop p).take 4) = q at *
      have Hq := Lib.hid hq
      clear hq
      go_wp2_with fail
      go_ret2
      exact ⟨hgR.trans hg2, .inl ⟨_, _, _, by rw [rdPart.eq_def, if_neg (by decide), if_pos rfl, if_pos (by rw [List.length_drop]; omega), Hq.out], rfl, hrd2⟩⟩
    · cases e1
  · refine (u32_no R l p _ hrd (by omega) hm).mono ?_
    rintro e w2 ⟨hg2, ⟨v, j, e1, _⟩ | ⟨_, rfl, hrd2⟩⟩
    · cases e1
    · go_wp2_with fail
      go_ret2
      exact ⟨hgR.trans hg2, .inr ⟨by rw [rdPart.eq_def, if_neg (by decide), if_pos rfl, if_neg (by rw [List.length_drop]; omega)], rfl, hrd2⟩⟩

set_option maxRecDepth 100000 in
set_option maxHeartbeats 2000000 in
theorem get_2 (R : Nat) (l : List UInt8) (p : Nat) (s m x : Int) (A : Option Addr) (n c : Nat) (w : World) (h : Rd w R l p false) (hk : s % 5 = 2) (hm : l.length ≤ 140737488355328) :
    Calls Tryd.prog 27 #[.pointer (some ⟨R, 0, none⟩), part s m x (.slice A n c)] w (GetEnd R l p w (rdPart 2 m (l.drop p))) := by
  have hlt := h.lt
  have Hk := Lib.hid hk
  clear hk
  have hsort := sort_any s m x A n c
  unfold part at hsort ⊢
  go_enter Tryd.func27, Tryd.ntmps27
  go_wp2_with fail
  refine (hsort _).mono ?_
  rintro e w1 ⟨rfl, hg1⟩
  rw [Hk.out]
  have hgw : w.grownBy w1 none := World.grownBy.trans (World.grownBy_alloc w _ none) hg1
  have hgR := only_but hgw (some R)
  have hrd := h.kept hgw (by simp)
  have cm : w1.cell? ⟨w.heap.size, 1, none⟩ = some (.int .i64 m) := by
    rw [hg1.cell_far _ (by simp) (by simp)]; simp
  clear hsort hg1
  clear cm
  go_wp2_with fail
  rcases hx : num 0 0 (l.drop p) with _ | ⟨y, j⟩
  · refine (uint_no R l p _ hrd hx hm).mono ?_
    have Hx := Lib.hid hx
    clear hx
    rintro e w2 ⟨hg2, ⟨v, j, e1, _⟩ | ⟨_, rfl, hrd2⟩⟩
    · cases e1
    · go_wp2_with fail
      go_ret2
      exact ⟨hgR.trans hg2, .inr ⟨by rw [rdPart.eq_def, if_neg (by decide), if_neg (by decide), if_pos rfl, Hx.out], rfl, hrd2⟩⟩
  · refine (uint_ok R l p y j _ hrd hx hm).mono ?_
    have Hx := Lib.hid hx
    clear hx
    rintro e w2 ⟨hg2, ⟨v, j, e1, rfl, hrd2⟩ | ⟨e1, _⟩⟩
    · injection e1 with e1
      injection e1 with e1 e2
      subst e1 e2
      skip
      go_wp2_with fail
      go_ret2
      exact ⟨hgR.trans hg2, .inl ⟨_, _, _, by rw [rdPart.eq_def, if_neg (by decide), if_neg (by decide), if_pos rfl, Hx.out], rfl, hrd2⟩⟩
    · cases e1

set_option maxRecDepth 100000 in
set_option maxHeartbeats 2000000 in
theorem get_3 (R : Nat) (l : List UInt8) (p : Nat) (s m x : Int) (A : Option Addr) (n c : Nat) (w : World) (h : Rd w R l p false) (hk : s % 5 = 3) (hmost : m ≤ 9223372036854775807) (hm : l.length ≤ 140737488355328) :
    Calls Tryd.prog 27 #[.pointer (some ⟨R, 0, none⟩), part s m x (.slice A n c)] w (GetEnd R l p w (rdPart 3 m (l.drop p))) := by
  have hlt := h.lt
  have Hk := Lib.hid hk
  clear hk
  have hsort := sort_any s m x A n c
  unfold part at hsort ⊢
  go_enter Tryd.func27, Tryd.ntmps27
  go_wp2_with fail
  refine (hsort _).mono ?_
  rintro e w1 ⟨rfl, hg1⟩
  rw [Hk.out]
  have hgw : w.grownBy w1 none := World.grownBy.trans (World.grownBy_alloc w _ none) hg1
  have hgR := only_but hgw (some R)
  have hrd := h.kept hgw (by simp)
  have cm : w1.cell? ⟨w.heap.size, 1, none⟩ = some (.int .i64 m) := by
    rw [hg1.cell_far _ (by simp) (by simp)]; simp
  clear hsort hg1
  go_wp2_with fail
  rcases hx : text m (l.drop p) with _ | ⟨j, y⟩
  · refine (text_no R l p m _ hrd hx hmost hm).mono ?_
    have Hx := Lib.hid hx
    clear hx
    rintro e w2 ⟨hg2, ⟨v, j, e1, _⟩ | ⟨_, rfl, hrd2⟩⟩
    · cases e1
    · go_wp2_with fail
      go_ret2
      exact ⟨hgR.trans hg2, .inr ⟨by rw [rdPart.eq_def, if_neg (by decide), if_neg (by decide), if_neg (by decide), if_pos rfl, Hx.out], rfl, hrd2⟩⟩
  · refine (text_ok R l p j y m _ hrd hx hmost hm).mono ?_
    have Hx := Lib.hid hx
    clear hx
    rintro e w2 ⟨hg2, ⟨v, j, e1, rfl, hrd2⟩ | ⟨e1, _⟩⟩
    · injection e1 with e1
      injection e1 with e1 e2
      subst e1 e2
      skip
      go_wp2_with fail
      go_ret2
      exact ⟨hgR.trans hg2, .inl ⟨_, _, _, by rw [rdPart.eq_def, if_neg (by decide), if_neg (by decide), if_neg (by decide), if_pos rfl, Hx.out]; simp [List.drop_drop], rfl, hrd2⟩⟩
    · cases e1
end Go.Proofs.YtbbikkncobgabaaDoor
