/-
  scrivenerlaw02.meet: a part that stands ahead is met. By an AI agent.
-/
import Derived.Test.YtbbikkncobgabaaDoorLRow
import Derived.Test.YtbbikkncobgabaaDoorPlain
import Derived.Laws.BitsAllLaws
namespace Go.Proofs.YtbbikkncobgabaaDoor
open Go.RowKit

theorem and255 (x : Nat) (hx : x < 18446744073709551616) : bits .and .u64 (x : Int) 255 = ((x % 256 : Nat) : Int) := by
  rw [show (255 : Int) = ((255 : Nat) : Int) from rfl, u64_and_nat x 255 hx (by decide), show (255 : Nat) = 2 ^ 8 - 1 from rfl, Nat.and_two_pow_sub_one_eq_mod]
theorem and32 (x : Nat) (hx : x < 18446744073709551616) : bits .and .u64 (x : Int) 4294967295 = ((x % 4294967296 : Nat) : Int) := by
  rw [show (4294967295 : Int) = ((4294967295 : Nat) : Int) from rfl, u64_and_nat x 4294967295 hx (by decide), show (4294967295 : Nat) = 2 ^ 32 - 1 from rfl, Nat.and_two_pow_sub_one_eq_mod]

/-- how meet ends, at a part that stands ahead -/
def Met (R : Nat) (l : List UInt8) (q : Nat) (w : World) (e : Ending) (w' : World) : Prop := e = .returned (.bool true) ∧ Rd w' R l q false ∧ w.grownBy w' (some R)

set_option maxRecDepth 100000 in
set_option maxHeartbeats 2000000 in
theorem meet_0 (R : Nat) (l : List UInt8) (q : Nat) (s m : Int) (x : Nat) (A : Option Addr) (n c : Nat) (t r : List UInt8) (w : World) (h : Rd w R l q false) (hx : x < 18446744073709551616) (hn : n = t.length) (hcm : n ≤ 9223372036854775807) (B : Nat) (hB : B ≤ R) (hr : Reads w B 1 A n (Lib.byteCells t)) (hl : l.drop q = partBytes 0 x t ++ r) (hk : s % 5 = 0) (hm : l.length ≤ 140737488355328) :
    Calls Tryd.prog 36 #[.pointer (some ⟨R, 0, none⟩), part s m x (.slice A n c)] w (Met R l (q + (partBytes 0 x t).length) w) := by
  have hRw := h.lt
  have Hk := Lib.hid hk
  have hget := fun w1 h1 => get_any R l q s (n : Int) (x : Int) A n c w1 h1 (by omega) hm
  rw [hk, hl, hn, rd_part 0 (by decide) x t r hx (by omega)] at hget
  simp only [← hn] at hget
  have hsort := sort_any s (n : Int) (x : Int) A n c
  unfold part at hget hsort ⊢
  have HG := Lib.hid hget
  have HS := Lib.hid hsort
  have Hn := Lib.hid hn
  clear hk hl hget hsort hn
  go_enter Tryd.func36, Tryd.ntmps36
  go_wp2_with fail
  refine (HG.out _ ?_).mono ?_
  · exact h.kept (World.grownBy_alloc w _ none) (by simp)
  rintro e w1 ⟨hg1, ⟨y, u, j, e1, rfl, hrd1⟩ | ⟨e1, _⟩⟩
  rotate_left
  · cases e1
  injection e1 with e1
  injection e1 with e1 e2
  injection e2 with e2 e3
  subst e1 e2 e3
  have hg2 := World.grownBy.trans (World.grownBy_alloc w _ (some R)) hg1
  have b0 : w1.cell? ⟨w.heap.size, 0, none⟩ = some (.int .i64 s) := by rw [hg1.cell_far _ (by simp) (by simp; omega)]; simp
  have b1 : w1.cell? ⟨w.heap.size, 1, none⟩ = some (.int .i64 n) := by rw [hg1.cell_far _ (by simp) (by simp; omega)]; simp
  have b2 : w1.cell? ⟨w.heap.size, 2, none⟩ = some (.int .u64 x) := by rw [hg1.cell_far _ (by simp) (by simp; omega)]; simp
  have b3 : w1.cell? ⟨w.heap.size, 3, none⟩ = some (.slice A n c) := by rw [hg1.cell_far _ (by simp) (by simp; omega)]; simp
  have hr1 : Reads w1 B 1 A n (Lib.byteCells t) := hr.keep fun p hp => hg2.cell_far p (by omega) (by intro e; injection e with e; omega)
  have hbl : ∀ o, w1.cell? ⟨w.heap.size, o, none⟩ = w1.cell? ⟨w.heap.size, o, none⟩ := fun _ => rfl
  have hsz : w.heap.size < w1.heap.size := World.block_lt_of_cell? w1 _ b0
  clear hg1 hbl
  go_wp2_with fail
  refine (HS.out _).mono ?_
  rintro e w2 ⟨rfl, hg3⟩
  rw [Hk.out]
  have d2 : w2.cell? ⟨w.heap.size, 2, none⟩ = some (.int .u64 x) := by rw [hg3.cell_far _ hsz (by simp)]; exact b2
  have d3 : w2.cell? ⟨w.heap.size, 3, none⟩ = some (.slice A n c) := by rw [hg3.cell_far _ hsz (by simp)]; exact b3
  have hr2 : Reads w2 B 1 A n (Lib.byteCells t) := hr1.keep fun p hp => hg3.cell_far p (by omega) (by simp)
  have hrd2 := hrd1.kept hg3 (by simp)
  have hg4 := hg2.trans (only_but hg3 (some R))
  clear hg2 hg3 b0 b1 b2 b3 hrd1 hr1 hr
  have hand := and255 x hx
  rw [show partNum 0 x = x % 256 from rfl]
  go_wp2_with fail
  go_ret
  exact ⟨rfl, hrd2, hg4⟩

set_option maxRecDepth 100000 in
set_option maxHeartbeats 2000000 in
theorem meet_1 (R : Nat) (l : List UInt8) (q : Nat) (s m : Int) (x : Nat) (A : Option Addr) (n c : Nat) (t r : List UInt8) (w : World) (h : Rd w R l q false) (hx : x < 18446744073709551616) (hn : n = t.length) (hcm : n ≤ 9223372036854775807) (B : Nat) (hB : B ≤ R) (hr : Reads w B 1 A n (Lib.byteCells t)) (hl : l.drop q = partBytes 1 x t ++ r) (hk : s % 5 = 1) (hm : l.length ≤ 140737488355328) :
    Calls Tryd.prog 36 #[.pointer (some ⟨R, 0, none⟩), part s m x (.slice A n c)] w (Met R l (q + (partBytes 1 x t).length) w) := by
  have hRw := h.lt
  have Hk := Lib.hid hk
  have hget := fun w1 h1 => get_any R l q s (n : Int) (x : Int) A n c w1 h1 (by omega) hm
  rw [hk, hl, hn, rd_part 1 (by decide) x t r hx (by omega)] at hget
  simp only [← hn] at hget
  have hsort := sort_any s (n : Int) (x : Int) A n c
  unfold part at hget hsort ⊢
  have HG := Lib.hid hget
  have HS := Lib.hid hsort
  have Hn := Lib.hid hn
  clear hk hl hget hsort hn
  go_enter Tryd.func36, Tryd.ntmps36
  go_wp2_with fail
  refine (HG.out _ ?_).mono ?_
  · exact h.kept (World.grownBy_alloc w _ none) (by simp)
  rintro e w1 ⟨hg1, ⟨y, u, j, e1, rfl, hrd1⟩ | ⟨e1, _⟩⟩
  rotate_left
  · cases e1
  injection e1 with e1
  injection e1 with e1 e2
  injection e2 with e2 e3
  subst e1 e2 e3
  have hg2 := World.grownBy.trans (World.grownBy_alloc w _ (some R)) hg1
  have b0 : w1.cell? ⟨w.heap.size, 0, none⟩ = some (.int .i64 s) := by rw [hg1.cell_far _ (by simp) (by simp; omega)]; simp
  have b1 : w1.cell? ⟨w.heap.size, 1, none⟩ = some (.int .i64 n) := by rw [hg1.cell_far _ (by simp) (by simp; omega)]; simp
  have b2 : w1.cell? ⟨w.heap.size, 2, none⟩ = some (.int .u64 x) := by rw [hg1.cell_far _ (by simp) (by simp; omega)]; simp
  have b3 : w1.cell? ⟨w.heap.size, 3, none⟩ = some (.slice A n c) := by rw [hg1.cell_far _ (by simp) (by simp; omega)]; simp
  have hr1 : Reads w1 B 1 A n (Lib.byteCells t) := hr.keep fun p hp => hg2.cell_far p (by omega) (by intro e; injection e with e; omega)
  have hbl : ∀ o, w1.cell? ⟨w.heap.size, o, none⟩ = w1.cell? ⟨w.heap.size, o, none⟩ := fun _ => rfl
  have hsz : w.heap.size < w1.heap.size := World.block_lt_of_cell? w1 _ b0
  clear hg1 hbl
  go_wp2_with fail
  refine (HS.out _).mono ?_
  rintro e w2 ⟨rfl, hg3⟩
  rw [Hk.out]
  have d2 : w2.cell? ⟨w.heap.size, 2, none⟩ = some (.int .u64 x) := by rw [hg3.cell_far _ hsz (by simp)]; exact b2
  have d3 : w2.cell? ⟨w.heap.size, 3, none⟩ = some (.slice A n c) := by rw [hg3.cell_far _ hsz (by simp)]; exact b3
  have hr2 : Reads w2 B 1 A n (Lib.byteCells t) := hr1.keep fun p hp => hg3.cell_far p (by omega) (by simp)
  have hrd2 := hrd1.kept hg3 (by simp)
  have hg4 := hg2.trans (only_but hg3 (some R))
  clear hg2 hg3 b0 b1 b2 b3 hrd1 hr1 hr
  have hand := and32 x hx
  rw [show partNum 1 x = x % 4294967296 from rfl]
  go_wp2_with fail
  go_ret
  exact ⟨rfl, hrd2, hg4⟩

set_option maxRecDepth 100000 in
set_option maxHeartbeats 2000000 in
theorem meet_2 (R : Nat) (l : List UInt8) (q : Nat) (s m : Int) (x : Nat) (A : Option Addr) (n c : Nat) (t r : List UInt8) (w : World) (h : Rd w R l q false) (hx : x < 18446744073709551616) (hn : n = t.length) (hcm : n ≤ 9223372036854775807) (B : Nat) (hB : B ≤ R) (hr : Reads w B 1 A n (Lib.byteCells t)) (hl : l.drop q = partBytes 2 x t ++ r) (hk : s % 5 = 2) (hm : l.length ≤ 140737488355328) :
    Calls Tryd.prog 36 #[.pointer (some ⟨R, 0, none⟩), part s m x (.slice A n c)] w (Met R l (q + (partBytes 2 x t).length) w) := by
  have hRw := h.lt
  have Hk := Lib.hid hk
  have hget := fun w1 h1 => get_any R l q s (n : Int) (x : Int) A n c w1 h1 (by omega) hm
  rw [hk, hl, hn, rd_part 2 (by decide) x t r hx (by omega)] at hget
  simp only [← hn] at hget
  have hsort := sort_any s (n : Int) (x : Int) A n c
  unfold part at hget hsort ⊢
  have HG := Lib.hid hget
  have HS := Lib.hid hsort
  have Hn := Lib.hid hn
  clear hk hl hget hsort hn
  go_enter Tryd.func36, Tryd.ntmps36
  go_wp2_with fail
  refine (HG.out _ ?_).mono ?_
  · exact h.kept (World.grownBy_alloc w _ none) (by simp)
  rintro e w1 ⟨hg1, ⟨y, u, j, e1, rfl, hrd1⟩ | ⟨e1, _⟩⟩
  rotate_left
  · cases e1
  injection e1 with e1
  injection e1 with e1 e2
  injection e2 with e2 e3
  subst e1 e2 e3
  have hg2 := World.grownBy.trans (World.grownBy_alloc w _ (some R)) hg1
  have b0 : w1.cell? ⟨w.heap.size, 0, none⟩ = some (.int .i64 s) := by rw [hg1.cell_far _ (by simp) (by simp; omega)]; simp
  have b1 : w1.cell? ⟨w.heap.size, 1, none⟩ = some (.int .i64 n) := by rw [hg1.cell_far _ (by simp) (by simp; omega)]; simp
  have b2 : w1.cell? ⟨w.heap.size, 2, none⟩ = some (.int .u64 x) := by rw [hg1.cell_far _ (by simp) (by simp; omega)]; simp
  have b3 : w1.cell? ⟨w.heap.size, 3, none⟩ = some (.slice A n c) := by rw [hg1.cell_far _ (by simp) (by simp; omega)]; simp
  have hr1 : Reads w1 B 1 A n (Lib.byteCells t) := hr.keep fun p hp => hg2.cell_far p (by omega) (by intro e; injection e with e; omega)
  have hbl : ∀ o, w1.cell? ⟨w.heap.size, o, none⟩ = w1.cell? ⟨w.heap.size, o, none⟩ := fun _ => rfl
  have hsz : w.heap.size < w1.heap.size := World.block_lt_of_cell? w1 _ b0
  clear hg1 hbl
  go_wp2_with fail
  refine (HS.out _).mono ?_
  rintro e w2 ⟨rfl, hg3⟩
  rw [Hk.out]
  have d2 : w2.cell? ⟨w.heap.size, 2, none⟩ = some (.int .u64 x) := by rw [hg3.cell_far _ hsz (by simp)]; exact b2
  have d3 : w2.cell? ⟨w.heap.size, 3, none⟩ = some (.slice A n c) := by rw [hg3.cell_far _ hsz (by simp)]; exact b3
  have hr2 : Reads w2 B 1 A n (Lib.byteCells t) := hr1.keep fun p hp => hg3.cell_far p (by omega) (by simp)
  have hrd2 := hrd1.kept hg3 (by simp)
  have hg4 := hg2.trans (only_but hg3 (some R))
  clear hg2 hg3 b0 b1 b2 b3 hrd1 hr1 hr
  rw [show partNum 2 x = x from rfl]
  go_wp2_with fail
  go_ret
  exact ⟨rfl, hrd2, hg4⟩

set_option maxRecDepth 100000 in
set_option maxHeartbeats 2000000 in
theorem meet_3 (R : Nat) (l : List UInt8) (q : Nat) (s m : Int) (x : Nat) (A : Option Addr) (n c : Nat) (t r : List UInt8) (w : World) (h : Rd w R l q false) (hx : x < 18446744073709551616) (hn : n = t.length) (hcm : n ≤ 9223372036854775807) (B : Nat) (hB : B ≤ R) (hr : Reads w B 1 A n (Lib.byteCells t)) (hl : l.drop q = partBytes 3 x t ++ r) (hk : s % 5 = 3) (hm : l.length ≤ 140737488355328) :
    Calls Tryd.prog 36 #[.pointer (some ⟨R, 0, none⟩), part s m x (.slice A n c)] w (Met R l (q + (partBytes 3 x t).length) w) := by
  have hRw := h.lt
  have Hk := Lib.hid hk
  have hget := fun w1 h1 => get_any R l q s (n : Int) (x : Int) A n c w1 h1 (by omega) hm
  rw [hk, hl, hn, rd_part 3 (by decide) x t r hx (by omega)] at hget
  simp only [← hn] at hget
  have hsort := sort_any s (n : Int) (x : Int) A n c
  unfold part at hget hsort ⊢
  have HG := Lib.hid hget
  have HS := Lib.hid hsort
  have Hn := Lib.hid hn
  clear hk hl hget hsort hn
  go_enter Tryd.func36, Tryd.ntmps36
  go_wp2_with fail
  refine (HG.out _ ?_).mono ?_
  · exact h.kept (World.grownBy_alloc w _ none) (by simp)
  rintro e w1 ⟨hg1, ⟨y, u, j, e1, rfl, hrd1⟩ | ⟨e1, _⟩⟩
  rotate_left
  · cases e1
  injection e1 with e1
  injection e1 with e1 e2
  injection e2 with e2 e3
  subst e1 e2 e3
  have hg2 := World.grownBy.trans (World.grownBy_alloc w _ (some R)) hg1
  have b0 : w1.cell? ⟨w.heap.size, 0, none⟩ = some (.int .i64 s) := by rw [hg1.cell_far _ (by simp) (by simp; omega)]; simp
  have b1 : w1.cell? ⟨w.heap.size, 1, none⟩ = some (.int .i64 n) := by rw [hg1.cell_far _ (by simp) (by simp; omega)]; simp
  have b2 : w1.cell? ⟨w.heap.size, 2, none⟩ = some (.int .u64 x) := by rw [hg1.cell_far _ (by simp) (by simp; omega)]; simp
  have b3 : w1.cell? ⟨w.heap.size, 3, none⟩ = some (.slice A n c) := by rw [hg1.cell_far _ (by simp) (by simp; omega)]; simp
  have hr1 : Reads w1 B 1 A n (Lib.byteCells t) := hr.keep fun p hp => hg2.cell_far p (by omega) (by intro e; injection e with e; omega)
  have hbl : ∀ o, w1.cell? ⟨w.heap.size, o, none⟩ = w1.cell? ⟨w.heap.size, o, none⟩ := fun _ => rfl
  have hsz : w.heap.size < w1.heap.size := World.block_lt_of_cell? w1 _ b0
  clear hg1 hbl
  go_wp2_with fail
  refine (HS.out _).mono ?_
  rintro e w2 ⟨rfl, hg3⟩
  rw [Hk.out]
  have d2 : w2.cell? ⟨w.heap.size, 2, none⟩ = some (.int .u64 x) := by rw [hg3.cell_far _ hsz (by simp)]; exact b2
  have d3 : w2.cell? ⟨w.heap.size, 3, none⟩ = some (.slice A n c) := by rw [hg3.cell_far _ hsz (by simp)]; exact b3
  have hr2 : Reads w2 B 1 A n (Lib.byteCells t) := hr1.keep fun p hp => hg3.cell_far p (by omega) (by simp)
  have hrd2 := hrd1.kept hg3 (by simp)
  have hg4 := hg2.trans (only_but hg3 (some R))
  clear hg2 hg3 b0 b1 b2 b3 hrd1 hr1 hr
  have hconv := conv_bytes w2 B A n c t Hn.out hr2
  rw [show partText 3 t = t from rfl]
  go_wp2_with fail
  go_ret
  exact ⟨rfl, hrd2, hg4⟩

set_option maxRecDepth 100000 in
set_option maxHeartbeats 2000000 in
theorem meet_4 (R : Nat) (l : List UInt8) (q : Nat) (s m : Int) (x : Nat) (A : Option Addr) (n c : Nat) (t r : List UInt8) (w : World) (h : Rd w R l q false) (hx : x < 18446744073709551616) (hn : n = t.length) (hcm : n ≤ 9223372036854775807) (B : Nat) (hB : B ≤ R) (hr : Reads w B 1 A n (Lib.byteCells t)) (hl : l.drop q = partBytes 4 x t ++ r) (hk : s % 5 = 4) (hm : l.length ≤ 140737488355328) :
    Calls Tryd.prog 36 #[.pointer (some ⟨R, 0, none⟩), part s m x (.slice A n c)] w (Met R l (q + (partBytes 4 x t).length) w) := by
  have hRw := h.lt
  have Hk := Lib.hid hk
  have hget := fun w1 h1 => get_any R l q s (n : Int) (x : Int) A n c w1 h1 (by omega) hm
  rw [hk, hl, hn, rd_part 4 (by decide) x t r hx (by omega)] at hget
  simp only [← hn] at hget
  have hsort := sort_any s (n : Int) (x : Int) A n c
  unfold part at hget hsort ⊢
  have HG := Lib.hid hget
  have HS := Lib.hid hsort
  have Hn := Lib.hid hn
  clear hk hl hget hsort hn
  go_enter Tryd.func36, Tryd.ntmps36
  go_wp2_with fail
  refine (HG.out _ ?_).mono ?_
  · exact h.kept (World.grownBy_alloc w _ none) (by simp)
  rintro e w1 ⟨hg1, ⟨y, u, j, e1, rfl, hrd1⟩ | ⟨e1, _⟩⟩
  rotate_left
  · cases e1
  injection e1 with e1
  injection e1 with e1 e2
  injection e2 with e2 e3
  subst e1 e2 e3
  have hg2 := World.grownBy.trans (World.grownBy_alloc w _ (some R)) hg1
  have b0 : w1.cell? ⟨w.heap.size, 0, none⟩ = some (.int .i64 s) := by rw [hg1.cell_far _ (by simp) (by simp; omega)]; simp
  have b1 : w1.cell? ⟨w.heap.size, 1, none⟩ = some (.int .i64 n) := by rw [hg1.cell_far _ (by simp) (by simp; omega)]; simp
  have b2 : w1.cell? ⟨w.heap.size, 2, none⟩ = some (.int .u64 x) := by rw [hg1.cell_far _ (by simp) (by simp; omega)]; simp
  have b3 : w1.cell? ⟨w.heap.size, 3, none⟩ = some (.slice A n c) := by rw [hg1.cell_far _ (by simp) (by simp; omega)]; simp
  have hr1 : Reads w1 B 1 A n (Lib.byteCells t) := hr.keep fun p hp => hg2.cell_far p (by omega) (by intro e; injection e with e; omega)
  have hbl : ∀ o, w1.cell? ⟨w.heap.size, o, none⟩ = w1.cell? ⟨w.heap.size, o, none⟩ := fun _ => rfl
  have hsz : w.heap.size < w1.heap.size := World.block_lt_of_cell? w1 _ b0
  clear hg1 hbl
  go_wp2_with fail
  refine (HS.out _).mono ?_
  rintro e w2 ⟨rfl, hg3⟩
  rw [Hk.out]
  have d2 : w2.cell? ⟨w.heap.size, 2, none⟩ = some (.int .u64 x) := by rw [hg3.cell_far _ hsz (by simp)]; exact b2
  have d3 : w2.cell? ⟨w.heap.size, 3, none⟩ = some (.slice A n c) := by rw [hg3.cell_far _ hsz (by simp)]; exact b3
  have hr2 : Reads w2 B 1 A n (Lib.byteCells t) := hr1.keep fun p hp => hg3.cell_far p (by omega) (by simp)
  have hrd2 := hrd1.kept hg3 (by simp)
  have hg4 := hg2.trans (only_but hg3 (some R))
  clear hg2 hg3 b0 b1 b2 b3 hrd1 hr1 hr
  have hconv := conv_bytes w2 B A n c t Hn.out hr2
  rw [show partText 4 t = t from rfl]
  go_wp2_with fail
  go_ret
  exact ⟨rfl, hrd2, hg4⟩

/-- meet, whatever the part -/
theorem meet_any (R : Nat) (l : List UInt8) (q : Nat) (s m : Int) (x : Nat) (A : Option Addr) (n c : Nat) (t r : List UInt8) (w : World) (h : Rd w R l q false) (hx : x < 18446744073709551616) (hn : n = t.length) (hcm : n ≤ 9223372036854775807) (B : Nat) (hB : B ≤ R) (hr : Reads w B 1 A n (Lib.byteCells t)) (hl : l.drop q = partBytes (s % 5) x t ++ r) (hm : l.length ≤ 140737488355328) :
    Calls Tryd.prog 36 #[.pointer (some ⟨R, 0, none⟩), part s m x (.slice A n c)] w (Met R l (q + (partBytes (s % 5) x t).length) w) := by
  rcases (by omega : s % 5 = 0 ∨ s % 5 = 1 ∨ s % 5 = 2 ∨ s % 5 = 3 ∨ s % 5 = 4) with hk | hk | hk | hk | hk
  · rw [hk] at hl ⊢; exact meet_0 R l q s m x A n c t r w h hx hn hcm B hB hr hl hk hm
  · rw [hk] at hl ⊢; exact meet_1 R l q s m x A n c t r w h hx hn hcm B hB hr hl hk hm
  · rw [hk] at hl ⊢; exact meet_2 R l q s m x A n c t r w h hx hn hcm B hB hr hl hk hm
  · rw [hk] at hl ⊢; exact meet_3 R l q s m x A n c t r w h hx hn hcm B hB hr hl hk hm
  · rw [hk] at hl ⊢; exact meet_4 R l q s m x A n c t r w h hx hn hcm B hB hr hl hk hm
end Go.Proofs.YtbbikkncobgabaaDoor
