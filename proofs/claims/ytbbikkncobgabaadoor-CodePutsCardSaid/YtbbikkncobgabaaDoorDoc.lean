/-
  scrivenerlaw02.bytes: a part's, by the document. By an AI agent.
-/
import Derived.Test.YtbbikkncobgabaaDoorRef
namespace Go.Proofs.YtbbikkncobgabaaDoor
open Go.RowKit

/-- bytes that are answered, wherever they lie -/
def DocEnd (l : List UInt8) (w : World) (e : Ending) (w' : World) : Prop := ∃ A c, e = .returned (.slice A l.length c) ∧ Reads w' w'.heap.size 1 A l.length (Lib.byteCells l) ∧ Below w.heap.size w w'

theorem DocEnd.of {l : List UInt8} {w w1 w' : World} {v : Value} (hb : Below w.heap.size w w1) (hown : Owns w' w1.heap.size v l) (hb2 : Below w1.heap.size w1 w') : DocEnd l w (.returned v) w' := by
  obtain ⟨A, c, rfl, -, -, hr⟩ := hown.form
  exact ⟨A, c, rfl, hr, hb.trans (hb2.mono hb.size)⟩

set_option maxRecDepth 100000 in
set_option maxHeartbeats 2000000 in
theorem doc_0 (s m : Int) (x : Nat) (A : Option Addr) (n c : Nat) (t : List UInt8) (w : World) (hk : s % 5 = 0) (hx : x < 18446744073709551616) (hn : n = t.length) (B : Nat) (hB : B ≤ w.heap.size) (hr : Reads w B 1 A n (Lib.byteCells t)) (ht : t.length ≤ 100000000) :
    Calls Tryd.prog 18 #[part s m x (.slice A n c)] w (DocEnd (partBytes 0 x t) w) := by
  rw [partBytes, if_pos rfl, ← wideB_1]
  have Hk := Lib.hid hk
  clear hk
  have hsort := sort_any s m x A n c
  unfold part at hsort ⊢
  have Hn := Lib.hid hn
  clear hn
  go_enter Tryd.func18, Tryd.ntmps18
  go_wp2_with fail
  refine (hsort _).mono ?_
  rintro e w1 ⟨rfl, hg1⟩
  rw [Hk.out]
  have hbw := below_sort _ hg1
  have cx : w1.cell? ⟨w.heap.size, 2, none⟩ = some (.int .u64 (x : Int)) := by
    rw [hg1.cell_far _ (by simp) (by simp)]; simp
  have cb : w1.cell? ⟨w.heap.size, 3, none⟩ = some (.slice A n c) := by
    rw [hg1.cell_far _ (by simp) (by simp)]; simp
  have hr1 := (hr.below (hbw.mono hB))
  clear hsort hg1
  go_wp2_with fail
  refine (refWide x 1 w1 hx (by decide)).mono ?_
  rintro e w2 ⟨v, rfl, hown, hb2⟩
  have h3 := DocEnd.of hbw hown hb2
  have H3 := Lib.hid h3
  clear h3 hown hb2
  go_wp2_with fail
  go_ret
  exact H3.out

set_option maxRecDepth 100000 in
set_option maxHeartbeats 2000000 in
theorem doc_1 (s m : Int) (x : Nat) (A : Option Addr) (n c : Nat) (t : List UInt8) (w : World) (hk : s % 5 = 1) (hx : x < 18446744073709551616) (hn : n = t.length) (B : Nat) (hB : B ≤ w.heap.size) (hr : Reads w B 1 A n (Lib.byteCells t)) (ht : t.length ≤ 100000000) :
    Calls Tryd.prog 18 #[part s m x (.slice A n c)] w (DocEnd (partBytes 1 x t) w) := by
  rw [partBytes, if_neg (by decide), if_pos rfl, ← wideB_4]
  have Hk := Lib.hid hk
  clear hk
  have hsort := sort_any s m x A n c
  unfold part at hsort ⊢
  have Hn := Lib.hid hn
  clear hn
  go_enter Tryd.func18, Tryd.ntmps18
  go_wp2_with fail
  refine (hsort _).mono ?_
  rintro e w1 ⟨rfl, hg1⟩
  rw [Hk.out]
  have hbw := below_sort _ hg1
  have cx : w1.cell? ⟨w.heap.size, 2, none⟩ = some (.int .u64 (x : Int)) := by
    rw [hg1.cell_far _ (by simp) (by simp)]; simp
  have cb : w1.cell? ⟨w.heap.size, 3, none⟩ = some (.slice A n c) := by
    rw [hg1.cell_far _ (by simp) (by simp)]; simp
  have hr1 := (hr.below (hbw.mono hB))
  clear hsort hg1
  go_wp2_with fail
  refine (refWide x 4 w1 hx (by decide)).mono ?_
  rintro e w2 ⟨v, rfl, hown, hb2⟩
  have h3 := DocEnd.of hbw hown hb2
  have H3 := Lib.hid h3
  clear h3 hown hb2
  go_wp2_with fail
  go_ret
  exact H3.out

set_option maxRecDepth 100000 in
set_option maxHeartbeats 2000000 in
theorem doc_2 (s m : Int) (x : Nat) (A : Option Addr) (n c : Nat) (t : List UInt8) (w : World) (hk : s % 5 = 2) (hx : x < 18446744073709551616) (hn : n = t.length) (B : Nat) (hB : B ≤ w.heap.size) (hr : Reads w B 1 A n (Lib.byteCells t)) (ht : t.length ≤ 100000000) :
    Calls Tryd.prog 18 #[part s m x (.slice A n c)] w (DocEnd (partBytes 2 x t) w) := by
  rw [partBytes, if_neg (by decide), if_neg (by decide), if_pos rfl]
  have Hk := Lib.hid hk
  clear hk
  have hsort := sort_any s m x A n c
  unfold part at hsort ⊢
  have Hn := Lib.hid hn
  clear hn
  go_enter Tryd.func18, Tryd.ntmps18
  go_wp2_with fail
  refine (hsort _).mono ?_
  rintro e w1 ⟨rfl, hg1⟩
  rw [Hk.out]
  have hbw := below_sort _ hg1
  have cx : w1.cell? ⟨w.heap.size, 2, none⟩ = some (.int .u64 (x : Int)) := by
    rw [hg1.cell_far _ (by simp) (by simp)]; simp
  have cb : w1.cell? ⟨w.heap.size, 3, none⟩ = some (.slice A n c) := by
    rw [hg1.cell_far _ (by simp) (by simp)]; simp
  have hr1 := (hr.below (hbw.mono hB))
  clear hsort hg1
  go_wp2_with fail
  refine (refShort x w1 hx).mono ?_
  rintro e w2 ⟨v, rfl, hown, hb2⟩
  have h3 := DocEnd.of hbw hown hb2
  have H3 := Lib.hid h3
  clear h3 hown hb2
  go_wp2_with fail
  go_ret
  exact H3.out

set_option maxRecDepth 100000 in
set_option maxHeartbeats 2000000 in
theorem doc_3 (s m : Int) (x : Nat) (A : Option Addr) (n c : Nat) (t : List UInt8) (w : World) (hk : s % 5 = 3) (hx : x < 18446744073709551616) (hn : n = t.length) (B : Nat) (hB : B ≤ w.heap.size) (hr : Reads w B 1 A n (Lib.byteCells t)) (ht : t.length ≤ 100000000) :
    Calls Tryd.prog 18 #[part s m x (.slice A n c)] w (DocEnd (partBytes 3 x t) w) := by
  rw [partBytes, if_neg (by decide), if_neg (by decide), if_neg (by decide), if_pos rfl]
  have Hk := Lib.hid hk
  clear hk
  have hsort := sort_any s m x A n c
  unfold part at hsort ⊢
  have Hn := Lib.hid hn
  clear hn
  go_enter Tryd.func18, Tryd.ntmps18
  go_wp2_with fail
  refine (hsort _).mono ?_
  rintro e w1 ⟨rfl, hg1⟩
  rw [Hk.out]
  have hbw := below_sort _ hg1
  have cx : w1.cell? ⟨w.heap.size, 2, none⟩ = some (.int .u64 (x : Int)) := by
    rw [hg1.cell_far _ (by simp) (by simp)]; simp
  have cb : w1.cell? ⟨w.heap.size, 3, none⟩ = some (.slice A n c) := by
    rw [hg1.cell_far _ (by simp) (by simp)]; simp
  have hr1 := (hr.below (hbw.mono hB))
  have hconv := conv_bytes w1 B A n c t Hn.out hr1
  clear hsort hg1
  go_wp2_with fail
  refine (refText t w1 ht).mono ?_
  rintro e w2 ⟨v, rfl, hown, hb2⟩
  have h3 := DocEnd.of hbw hown hb2
  have H3 := Lib.hid h3
  clear h3 hown hb2
  go_wp2_with fail
  go_ret
  exact H3.out

set_option maxRecDepth 100000 in
set_option maxHeartbeats 2000000 in
theorem doc_4 (s m : Int) (x : Nat) (A : Option Addr) (n c : Nat) (t : List UInt8) (w : World) (hk : s % 5 = 4) (hx : x < 18446744073709551616) (hn : n = t.length) (B : Nat) (hB : B ≤ w.heap.size) (hr : Reads w B 1 A n (Lib.byteCells t)) (ht : t.length ≤ 100000000) :
    Calls Tryd.prog 18 #[part s m x (.slice A n c)] w (DocEnd (partBytes 4 x t) w) := by
  rw [partBytes, if_neg (by decide), if_neg (by decide), if_neg (by decide), if_neg (by decide)]
  have Hk := Lib.hid hk
  clear hk
  have hsort := sort_any s m x A n c
  unfold part at hsort ⊢
  have Hn := Lib.hid hn
  clear hn
  go_enter Tryd.func18, Tryd.ntmps18
  go_wp2_with fail
  refine (hsort _).mono ?_
  rintro e w1 ⟨rfl, hg1⟩
  rw [Hk.out]
  have hbw := below_sort _ hg1
  have cx : w1.cell? ⟨w.heap.size, 2, none⟩ = some (.int .u64 (x : Int)) := by
    rw [hg1.cell_far _ (by simp) (by simp)]; simp
  have cb : w1.cell? ⟨w.heap.size, 3, none⟩ = some (.slice A n c) := by
    rw [hg1.cell_far _ (by simp) (by simp)]; simp
  have hr1 := (hr.below (hbw.mono hB))
  clear hsort hg1
  go_wp2_with fail
  go_ret
  exact ⟨A, c, by rw [← Hn.out]; rfl, by rw [← Hn.out]; exact hr1.more (Nat.le_trans hB hbw.size), hbw⟩

theorem doc_any (s m : Int) (x : Nat) (A : Option Addr) (n c : Nat) (t : List UInt8) (w : World) (hx : x < 18446744073709551616) (hn : n = t.length) (B : Nat) (hB : B ≤ w.heap.size) (hr : Reads w B 1 A n (Lib.byteCells t)) (ht : t.length ≤ 100000000) :
    Calls Tryd.prog 18 #[part s m x (.slice A n c)] w (DocEnd (partBytes (s % 5) x t) w) := by
  rcases (by omega : s % 5 = 0 ∨ s % 5 = 1 ∨ s % 5 = 2 ∨ s % 5 = 3 ∨ s % 5 = 4) with hk | hk | hk | hk | hk
  · rw [hk]; exact doc_0 s m x A n c t w hk hx hn B hB hr ht
  · rw [hk]; exact doc_1 s m x A n c t w hk hx hn B hB hr ht
  · rw [hk]; exact doc_2 s m x A n c t w hk hx hn B hB hr ht
  · rw [hk]; exact doc_3 s m x A n c t w hk hx hn B hB hr ht
  · rw [hk]; exact doc_4 s m x A n c t w hk hx hn B hB hr ht
end Go.Proofs.YtbbikkncobgabaaDoor
