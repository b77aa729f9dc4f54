/-
  scrivenerlaw02.put, by a writer, and by none. By an AI agent.
-/
import Derived.Test.YtbbikkncobgabaaDoorWText
import Derived.Test.YtbbikkncobgabaaDoorGet4
namespace Go.Proofs.YtbbikkncobgabaaDoor
open Go.RowKit

/-- a part's bytes -/
def partBytes (k : Int) (x : Nat) (t : List UInt8) : List UInt8 :=
  if k = 0 then [UInt8.ofNat x] else if k = 1 then le32 (x % 4294967296) else if k = 2 then dig 10 x else if k = 3 then dig 10 t.length ++ t else t

/-- behind the part's own block, and its sort -/
theorem below_sort {w w1 : World} (o : Obj) (hg : (w.alloc o).grownBy w1 none) : Below w.heap.size w w1 := by
  have hgw : w.grownBy w1 none := World.grownBy.trans (World.grownBy_alloc w _ none) hg
  exact ⟨hgw.os, hgw.tape, hgw.output, hgw.size, fun i hi => hgw.block i hi (by simp)⟩

set_option maxRecDepth 100000 in
set_option maxHeartbeats 2000000 in
theorem put_0 (b : Nat) (row : Option Nat) (l : List UInt8) (s m : Int) (x : Nat) (A : Option Addr) (n c : Nat) (t : List UInt8) (w : World) (h : Wr w b row l) (hk : s % 5 = 0) (hx : x < 18446744073709551616) (hlim : l.length + 10 + t.length ≤ 140737488355328) :
    Calls Tryd.prog 17 #[.pointer (some ⟨b, 0, none⟩), part s m x (.slice A n c)] w (WrEnd b row (l ++ partBytes 0 x t) w) := by
  have Hk := Lib.hid hk
  clear hk
  have hsort := sort_any s m x A n c
  unfold part at hsort ⊢
  go_enter Tryd.func17, Tryd.ntmps17
  go_wp2_with fail
  refine (hsort _).mono ?_
  rintro e w1 ⟨rfl, hg1⟩
  rw [Hk.out]
  have hbw := below_sort _ hg1
  have cx : w1.cell? ⟨w.heap.size, 2, none⟩ = some (.int .u64 (x : Int)) := by
    rw [hg1.cell_far _ (by simp) (by simp)]; simp
  have cb : w1.cell? ⟨w.heap.size, 3, none⟩ = some (.slice A n c) := by
    rw [hg1.cell_far _ (by simp) (by simp)]; simp
  have hw : IntKind.u8.wrap (x : Int) = ((UInt8.ofNat x).toNat : Int) := by rw [IntKind.wrap_u8, UInt8.toNat_ofNat']; omega
  clear hsort hg1
  go_wp2_with fail
  refine (wu8 b row l (UInt8.ofNat x) w1 (h.old hbw) (by omega)).mono ?_
  rintro e w2 ⟨rfl, h2⟩
  have h3 := WrEnd.after hbw h2
  clear h2
  go_wp2_with fail
  go_end0
  exact ⟨rfl, by rw [partBytes, if_pos rfl]; exact h3⟩

set_option maxRecDepth 100000 in
set_option maxHeartbeats 2000000 in
theorem put_1 (b : Nat) (row : Option Nat) (l : List UInt8) (s m : Int) (x : Nat) (A : Option Addr) (n c : Nat) (t : List UInt8) (w : World) (h : Wr w b row l) (hk : s % 5 = 1) (hx : x < 18446744073709551616) (hlim : l.length + 10 + t.length ≤ 140737488355328) :
    Calls Tryd.prog 17 #[.pointer (some ⟨b, 0, none⟩), part s m x (.slice A n c)] w (WrEnd b row (l ++ partBytes 1 x t) w) := by
  have Hk := Lib.hid hk
  clear hk
  have hsort := sort_any s m x A n c
  unfold part at hsort ⊢
  go_enter Tryd.func17, Tryd.ntmps17
  go_wp2_with fail
  refine (hsort _).mono ?_
  rintro e w1 ⟨rfl, hg1⟩
  rw [Hk.out]
  have hbw := below_sort _ hg1
  have cx : w1.cell? ⟨w.heap.size, 2, none⟩ = some (.int .u64 (x : Int)) := by
    rw [hg1.cell_far _ (by simp) (by simp)]; simp
  have cb : w1.cell? ⟨w.heap.size, 3, none⟩ = some (.slice A n c) := by
    rw [hg1.cell_far _ (by simp) (by simp)]; simp
  have hw : IntKind.u32.wrap (x : Int) = ((x % 4294967296 : Nat) : Int) := by rw [IntKind.wrap_u32]; omega
  clear hsort hg1
  go_wp2_with fail
  refine (wu32 b row l (x % 4294967296) w1 (h.old hbw) (by omega) (by omega)).mono ?_
  rintro e w2 ⟨rfl, h2⟩
  have h3 := WrEnd.after hbw h2
  clear h2
  go_wp2_with fail
  go_end0
  exact ⟨rfl, by rw [partBytes, if_neg (by decide), if_pos rfl]; exact h3⟩

set_option maxRecDepth 100000 in
set_option maxHeartbeats 2000000 in
theorem put_2 (b : Nat) (row : Option Nat) (l : List UInt8) (s m : Int) (x : Nat) (A : Option Addr) (n c : Nat) (t : List UInt8) (w : World) (h : Wr w b row l) (hk : s % 5 = 2) (hx : x < 18446744073709551616) (hlim : l.length + 10 + t.length ≤ 140737488355328) :
    Calls Tryd.prog 17 #[.pointer (some ⟨b, 0, none⟩), part s m x (.slice A n c)] w (WrEnd b row (l ++ partBytes 2 x t) w) := by
  have Hk := Lib.hid hk
  clear hk
  have hsort := sort_any s m x A n c
  unfold part at hsort ⊢
  go_enter Tryd.func17, Tryd.ntmps17
  go_wp2_with fail
  refine (hsort _).mono ?_
  rintro e w1 ⟨rfl, hg1⟩
  rw [Hk.out]
  have hbw := below_sort _ hg1
  have cx : w1.cell? ⟨w.heap.size, 2, none⟩ = some (.int .u64 (x : Int)) := by
    rw [hg1.cell_far _ (by simp) (by simp)]; simp
  have cb : w1.cell? ⟨w.heap.size, 3, none⟩ = some (.slice A n c) := by
    rw [hg1.cell_far _ (by simp) (by simp)]; simp
  clear hsort hg1
  go_wp2_with fail
  refine (wuint b row l x w1 (h.old hbw) hx (by omega)).mono ?_
  rintro e w2 ⟨rfl, h2⟩
  have h3 := WrEnd.after hbw h2
  clear h2
  go_wp2_with fail
  go_end0
  exact ⟨rfl, by rw [partBytes, if_neg (by decide), if_neg (by decide), if_pos rfl]; exact h3⟩

set_option maxRecDepth 100000 in
set_option maxHeartbeats 2000000 in
theorem put_3 (b : Nat) (row : Option Nat) (l : List UInt8) (s m : Int) (x : Nat) (A : Option Addr) (n c : Nat) (t : List UInt8) (w : World) (h : Wr w b row l) (hk : s % 5 = 3) (hx : x < 18446744073709551616) (hn : n = t.length) (B : Nat) (hB : B ≤ w.heap.size) (hr : Reads w B 1 A n (Lib.byteCells t)) (hlim : l.length + 10 + t.length ≤ 140737488355328) :
    Calls Tryd.prog 17 #[.pointer (some ⟨b, 0, none⟩), part s m x (.slice A n c)] w (WrEnd b row (l ++ partBytes 3 x t) w) := by
  have Hk := Lib.hid hk
  clear hk
  have hsort := sort_any s m x A n c
  unfold part at hsort ⊢
  have Hn := Lib.hid hn
  clear hn
  go_enter Tryd.func17, Tryd.ntmps17
  go_wp2_with fail
  refine (hsort _).mono ?_
  rintro e w1 ⟨rfl, hg1⟩
  rw [Hk.out]
  have hbw := below_sort _ hg1
  have cx : w1.cell? ⟨w.heap.size, 2, none⟩ = some (.int .u64 (x : Int)) := by
    rw [hg1.cell_far _ (by simp) (by simp)]; simp
  have cb : w1.cell? ⟨w.heap.size, 3, none⟩ = some (.slice A n c) := by
    rw [hg1.cell_far _ (by simp) (by simp)]; simp
  have hr1 := (hr.below (hbw.mono hB))
  have hconv := conv_bytes w1 B A n c t Hn.out hr1
  clear hsort hg1
  go_wp2_with fail
  refine (wtext b row l t w1 (h.old hbw) (by omega)).mono ?_
  rintro e w2 ⟨rfl, h2⟩
  have h3 := WrEnd.after hbw h2
  clear h2
  go_wp2_with fail
  go_end0
  exact ⟨rfl, by rw [partBytes, if_neg (by decide), if_neg (by decide), if_neg (by decide), if_pos rfl, ← List.append_assoc]; exact h3⟩

set_option maxRecDepth 100000 in
set_option maxHeartbeats 2000000 in
theorem put_4 (b : Nat) (row : Option Nat) (l : List UInt8) (s m : Int) (x : Nat) (A : Option Addr) (n c : Nat) (t : List UInt8) (w : World) (h : Wr w b row l) (hk : s % 5 = 4) (hx : x < 18446744073709551616) (hn : n = t.length) (B : Nat) (hB : B ≤ w.heap.size) (hr : Reads w B 1 A n (Lib.byteCells t)) (hab : ∀ ad, A = some ad → 0 < n → ad.block ≠ b) (hlim : l.length + 10 + t.length ≤ 140737488355328) :
    Calls Tryd.prog 17 #[.pointer (some ⟨b, 0, none⟩), part s m x (.slice A n c)] w (WrEnd b row (l ++ partBytes 4 x t) w) := by
  have Hk := Lib.hid hk
  clear hk
  have hsort := sort_any s m x A n c
  unfold part at hsort ⊢
  have Hn := Lib.hid hn
  clear hn
  go_enter Tryd.func17, Tryd.ntmps17
  go_wp2_with fail
  refine (hsort _).mono ?_
  rintro e w1 ⟨rfl, hg1⟩
  rw [Hk.out]
  have hbw := below_sort _ hg1
  have cx : w1.cell? ⟨w.heap.size, 2, none⟩ = some (.int .u64 (x : Int)) := by
    rw [hg1.cell_far _ (by simp) (by simp)]; simp
  have cb : w1.cell? ⟨w.heap.size, 3, none⟩ = some (.slice A n c) := by
    rw [hg1.cell_far _ (by simp) (by simp)]; simp
  have hr1 := (hr.below (hbw.mono hB))
  clear hsort hg1
  go_wp2_with fail
  refine (wraw_any b row l t A n c w1 (h.old hbw) Hn.out B hr1 hab (by rw [Hn.out]; omega)).mono ?_
  rintro e w2 ⟨rfl, h2⟩
  have h3 := WrEnd.after hbw h2
  clear h2
  go_wp2_with fail
  go_end0
  exact ⟨rfl, by rw [partBytes, if_neg (by decide), if_neg (by decide), if_neg (by decide), if_neg (by decide)]; exact h3⟩

set_option maxRecDepth 100000 in
set_option maxHeartbeats 2000000 in
theorem putNil_0 (s m : Int) (x : Nat) (A : Option Addr) (n c : Nat) (t : List UInt8) (w : World) (hk : s % 5 = 0) (hx : x < 18446744073709551616) :
    Calls Tryd.prog 17 #[.pointer none, part s m x (.slice A n c)] w fun e w' => e = .returned (.tuple #[]) ∧ Below w.heap.size w w' := by
  have Hk := Lib.hid hk
  clear hk
  have hsort := sort_any s m x A n c
  unfold part at hsort ⊢
  go_enter Tryd.func17, Tryd.ntmps17
  go_wp2_with fail
  refine (hsort _).mono ?_
  rintro e w1 ⟨rfl, hg1⟩
  rw [Hk.out]
  have hbw := below_sort _ hg1
  have cx : w1.cell? ⟨w.heap.size, 2, none⟩ = some (.int .u64 (x : Int)) := by
    rw [hg1.cell_far _ (by simp) (by simp)]; simp
  have cb : w1.cell? ⟨w.heap.size, 3, none⟩ = some (.slice A n c) := by
    rw [hg1.cell_far _ (by simp) (by simp)]; simp
  have hw : IntKind.u8.wrap (x : Int) = ((UInt8.ofNat x).toNat : Int) := by rw [IntKind.wrap_u8, UInt8.toNat_ofNat']; omega
  clear hsort hg1
  go_wp2_with fail
  refine (wu8_nobody _ w1).mono ?_
  rintro e w2 ⟨rfl, hb2⟩
  have hb3 : Below w.heap.size w w2 := hbw.trans (hb2.mono hbw.size)
  go_wp2_with fail
  go_end0
  exact ⟨rfl, hb3⟩

set_option maxRecDepth 100000 in
set_option maxHeartbeats 2000000 in
theorem putNil_1 (s m : Int) (x : Nat) (A : Option Addr) (n c : Nat) (t : List UInt8) (w : World) (hk : s % 5 = 1) (hx : x < 18446744073709551616) :
    Calls Tryd.prog 17 #[.pointer none, part s m x (.slice A n c)] w fun e w' => e = .returned (.tuple #[]) ∧ Below w.heap.size w w' := by
  have Hk := Lib.hid hk
  clear hk
  have hsort := sort_any s m x A n c
  unfold part at hsort ⊢
  go_enter Tryd.func17, Tryd.ntmps17
  go_wp2_with fail
  refine (hsort _).mono ?_
  rintro e w1 ⟨rfl, hg1⟩
  rw [Hk.out]
  have hbw := below_sort _ hg1
  have cx : w1.cell? ⟨w.heap.size, 2, none⟩ = some (.int .u64 (x : Int)) := by
    rw [hg1.cell_far _ (by simp) (by simp)]; simp
  have cb : w1.cell? ⟨w.heap.size, 3, none⟩ = some (.slice A n c) := by
    rw [hg1.cell_far _ (by simp) (by simp)]; simp
  have hw : IntKind.u32.wrap (x : Int) = ((x % 4294967296 : Nat) : Int) := by rw [IntKind.wrap_u32]; omega
  clear hsort hg1
  go_wp2_with fail
  refine (wu32_nobody (x % 4294967296) w1).mono ?_
  rintro e w2 ⟨rfl, hb2⟩
  have hb3 : Below w.heap.size w w2 := hbw.trans (hb2.mono hbw.size)
  go_wp2_with fail
  go_end0
  exact ⟨rfl, hb3⟩

set_option maxRecDepth 100000 in
set_option maxHeartbeats 2000000 in
theorem putNil_2 (s m : Int) (x : Nat) (A : Option Addr) (n c : Nat) (t : List UInt8) (w : World) (hk : s % 5 = 2) (hx : x < 18446744073709551616) :
    Calls Tryd.prog 17 #[.pointer none, part s m x (.slice A n c)] w fun e w' => e = .returned (.tuple #[]) ∧ Below w.heap.size w w' := by
  have Hk := Lib.hid hk
  clear hk
  have hsort := sort_any s m x A n c
  unfold part at hsort ⊢
  go_enter Tryd.func17, Tryd.ntmps17
  go_wp2_with fail
  refine (hsort _).mono ?_
  rintro e w1 ⟨rfl, hg1⟩
  rw [Hk.out]
  have hbw := below_sort _ hg1
  have cx : w1.cell? ⟨w.heap.size, 2, none⟩ = some (.int .u64 (x : Int)) := by
    rw [hg1.cell_far _ (by simp) (by simp)]; simp
  have cb : w1.cell? ⟨w.heap.size, 3, none⟩ = some (.slice A n c) := by
    rw [hg1.cell_far _ (by simp) (by simp)]; simp
  clear hsort hg1
  go_wp2_with fail
  refine (wuint_nobody x w1 hx).mono ?_
  rintro e w2 ⟨rfl, hb2⟩
  have hb3 : Below w.heap.size w w2 := hbw.trans (hb2.mono hbw.size)
  go_wp2_with fail
  go_end0
  exact ⟨rfl, hb3⟩

set_option maxRecDepth 100000 in
set_option maxHeartbeats 2000000 in
theorem putNil_3 (s m : Int) (x : Nat) (A : Option Addr) (n c : Nat) (t : List UInt8) (w : World) (hk : s % 5 = 3) (hx : x < 18446744073709551616) (hn : n = t.length) (B : Nat) (hB : B ≤ w.heap.size) (hr : Reads w B 1 A n (Lib.byteCells t)) (ht : t.length ≤ 140737488355328) :
    Calls Tryd.prog 17 #[.pointer none, part s m x (.slice A n c)] w fun e w' => e = .returned (.tuple #[]) ∧ Below w.heap.size w w' := by
  have Hk := Lib.hid hk
  clear hk
  have hsort := sort_any s m x A n c
  unfold part at hsort ⊢
  have Hn := Lib.hid hn
  clear hn
  go_enter Tryd.func17, Tryd.ntmps17
  go_wp2_with fail
  refine (hsort _).mono ?_
  rintro e w1 ⟨rfl, hg1⟩
  rw [Hk.out]
  have hbw := below_sort _ hg1
  have cx : w1.cell? ⟨w.heap.size, 2, none⟩ = some (.int .u64 (x : Int)) := by
    rw [hg1.cell_far _ (by simp) (by simp)]; simp
  have cb : w1.cell? ⟨w.heap.size, 3, none⟩ = some (.slice A n c) := by
    rw [hg1.cell_far _ (by simp) (by simp)]; simp
  have hr1 := (hr.below (hbw.mono hB))
  have hconv := conv_bytes w1 B A n c t Hn.out hr1
  clear hsort hg1
  go_wp2_with fail
  refine (wtext_nobody t w1 (by omega)).mono ?_
  rintro e w2 ⟨rfl, hb2⟩
  have hb3 : Below w.heap.size w w2 := hbw.trans (hb2.mono hbw.size)
  go_wp2_with fail
  go_end0
  exact ⟨rfl, hb3⟩

set_option maxRecDepth 100000 in
set_option maxHeartbeats 2000000 in
theorem putNil_4 (s m : Int) (x : Nat) (A : Option Addr) (n c : Nat) (t : List UInt8) (w : World) (hk : s % 5 = 4) (hx : x < 18446744073709551616) (hn : n = t.length) (B : Nat) (hB : B ≤ w.heap.size) (hr : Reads w B 1 A n (Lib.byteCells t)) :
    Calls Tryd.prog 17 #[.pointer none, part s m x (.slice A n c)] w fun e w' => e = .returned (.tuple #[]) ∧ Below w.heap.size w w' := by
  have Hk := Lib.hid hk
  clear hk
  have hsort := sort_any s m x A n c
  unfold part at hsort ⊢
  have Hn := Lib.hid hn
  clear hn
  go_enter Tryd.func17, Tryd.ntmps17
  go_wp2_with fail
  refine (hsort _).mono ?_
  rintro e w1 ⟨rfl, hg1⟩
  rw [Hk.out]
  have hbw := below_sort _ hg1
  have cx : w1.cell? ⟨w.heap.size, 2, none⟩ = some (.int .u64 (x : Int)) := by
    rw [hg1.cell_far _ (by simp) (by simp)]; simp
  have cb : w1.cell? ⟨w.heap.size, 3, none⟩ = some (.slice A n c) := by
    rw [hg1.cell_far _ (by simp) (by simp)]; simp
  have hr1 := (hr.below (hbw.mono hB))
  clear hsort hg1
  go_wp2_with fail
  refine (wraw_nobody A n c w1).mono ?_
  rintro e w2 ⟨rfl, rfl⟩
  go_wp2_with fail
  go_end0
  exact ⟨rfl, hbw⟩

/-- put, whatever the part -/
theorem put_any (b : Nat) (row : Option Nat) (l : List UInt8) (s m : Int) (x : Nat) (A : Option Addr) (n c : Nat) (t : List UInt8) (w : World) (h : Wr w b row l) (hx : x < 18446744073709551616) (hn : n = t.length) (B : Nat) (hB : B ≤ w.heap.size) (hr : Reads w B 1 A n (Lib.byteCells t)) (hab : ∀ ad, A = some ad → 0 < n → ad.block ≠ b) (hlim : l.length + 10 + t.length ≤ 140737488355328) :
    Calls Tryd.prog 17 #[.pointer (some ⟨b, 0, none⟩), part s m x (.slice A n c)] w (WrEnd b row (l ++ partBytes (s % 5) x t) w) := by
  rcases (by omega : s % 5 = 0 ∨ s % 5 = 1 ∨ s % 5 = 2 ∨ s % 5 = 3 ∨ s % 5 = 4) with hk | hk | hk | hk | hk
  · rw [hk]; exact put_0 b row l s m x A n c t w h hk hx hlim
  · rw [hk]; exact put_1 b row l s m x A n c t w h hk hx hlim
  · rw [hk]; exact put_2 b row l s m x A n c t w h hk hx hlim
  · rw [hk]; exact put_3 b row l s m x A n c t w h hk hx hn B hB hr hlim
  · rw [hk]; exact put_4 b row l s m x A n c t w h hk hx hn B hB hr hab hlim
theorem putNil_any (s m : Int) (x : Nat) (A : Option Addr) (n c : Nat) (t : List UInt8) (w : World) (hx : x < 18446744073709551616) (hn : n = t.length) (B : Nat) (hB : B ≤ w.heap.size) (hr : Reads w B 1 A n (Lib.byteCells t)) (ht : t.length ≤ 140737488355328) :
    Calls Tryd.prog 17 #[.pointer none, part s m x (.slice A n c)] w fun e w' => e = .returned (.tuple #[]) ∧ Below w.heap.size w w' := by
  rcases (by omega : s % 5 = 0 ∨ s % 5 = 1 ∨ s % 5 = 2 ∨ s % 5 = 3 ∨ s % 5 = 4) with hk | hk | hk | hk | hk
  · exact putNil_0 s m x A n c t w hk hx
  · exact putNil_1 s m x A n c t w hk hx
  · exact putNil_2 s m x A n c t w hk hx
  · exact putNil_3 s m x A n c t w hk hx hn B hB hr ht
  · exact putNil_4 s m x A n c t w hk hx hn B hB hr
end Go.Proofs.YtbbikkncobgabaaDoor
