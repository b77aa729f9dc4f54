/-
  code.Writer: what it holds, and in which blocks; its buffer grows into a new block; Raw. By an AI agent.
-/
import Derived.Test.YtbbikkncobgabaaDoorRaw
import Derived.Test.YtbbikkncobgabaaDoorShelf
import Derived.Lib.BufferAt
import Derived.Lib.BufferMore
import Derived.Laws.IdiomCopy
import Derived.Laws.CopyRow
import Derived.Laws.Tables
import Derived.Deep.RegionWith
import Derived.BigCall
import Derived.BigGuard
namespace Go.Proofs.YtbbikkncobgabaaDoor
open Go.RowKit

/-- a writer in block b that holds these bytes; its row's block, if it has one -/
def Wr (w : World) (b : Nat) (row : Option Nat) (l : List UInt8) : Prop :=
  ∃ lr, (l = [] ∧ row = none ∧ Blk w b 33 #[.slice none 0 0, .int .i64 0, .int .i8 lr]) ∨
    (∃ g cap cur, 0 < l.length ∧ row = some g ∧ g ≠ b ∧ Blk w b 33 #[.slice (some ⟨g, 0, none⟩) l.length cap, .int .i64 0, .int .i8 lr] ∧ Blk w g 5 cur ∧ l.length ≤ cap ∧ cap ≤ maxLen ∧ cur.size = cap ∧ cur.toList.take l.length = Lib.byteCells l)

/-- what a writing leaves: of the old blocks only the writer's own and its row's may have turned; a row that is another one is new -/
def Wrote (b : Nat) (row row' : Option Nat) (w w' : World) : Prop :=
  w'.os = w.os ∧ w'.tape = w.tape ∧ w'.output = w.output ∧ w.heap.size ≤ w'.heap.size ∧ (∀ i, i < w.heap.size → i ≠ b → some i ≠ row → w'.heap[i]? = w.heap[i]?) ∧ (row' = row ∨ ∃ g, row' = some g ∧ w.heap.size ≤ g)

theorem Wrote.refl (b : Nat) (row : Option Nat) (w : World) : Wrote b row row w w := ⟨rfl, rfl, rfl, Nat.le_refl _, fun _ _ _ _ => rfl, .inl rfl⟩
theorem Wrote.trans {b : Nat} {r r1 r2 : Option Nat} {w w1 w2 : World} (h : Wrote b r r1 w w1) (k : Wrote b r1 r2 w1 w2) : Wrote b r r2 w w2 := by
  obtain ⟨h1, h2, h3, h4, h5, h6⟩ := h
  obtain ⟨k1, k2, k3, k4, k5, k6⟩ := k
  refine ⟨k1.trans h1, k2.trans h2, k3.trans h3, Nat.le_trans h4 k4, fun i hi hb hr => (k5 i (by omega) hb ?_).trans (h5 i hi hb hr), ?_⟩
  · rcases h6 with rfl | ⟨g, rfl, hg⟩
    · exact hr
    · intro e; injection e with e; omega
  · rcases k6 with rfl | ⟨g, rfl, hg⟩
    · exact h6
    · exact .inr ⟨g, rfl, by omega⟩
theorem Wrote.ofBelow {b : Nat} {row : Option Nat} {w w' : World} (h : Below w.heap.size w w') : Wrote b row row w w' := ⟨h.os, h.tape, h.output, h.size, fun i hi _ _ => h.block i hi, .inl rfl⟩
/-- as Below, where the writer's blocks lie from B on -/
theorem Wrote.below {b B : Nat} {row row' : Option Nat} {w w' : World} (h : Wrote b row row' w w') (hb : B ≤ b) (hr : ∀ g, row = some g → B ≤ g) (hB : B ≤ w.heap.size) : Below B w w' :=
  ⟨h.1, h.2.1, h.2.2.1, h.2.2.2.1, fun i hi => h.2.2.2.2.1 i (by omega) (by omega) (fun e => by have := hr i e.symm; omega)⟩
theorem Wrote.size {b : Nat} {row row' : Option Nat} {w w' : World} (h : Wrote b row row' w w') : w.heap.size ≤ w'.heap.size := h.2.2.2.1
theorem Wrote.newRow {b B : Nat} {row row' : Option Nat} {w w' : World} (h : Wrote b row row' w w') (hr : ∀ g, row = some g → B ≤ g) (hB : B ≤ w.heap.size) : ∀ g, row' = some g → B ≤ g := by
  intro g e
  rcases h.2.2.2.2.2 with e2 | ⟨g', e2, hg⟩
  · exact hr g (by rw [← e2]; exact e)
  · rw [e] at e2; injection e2 with e2; omega

theorem Wr.lt {w : World} {b : Nat} {row : Option Nat} {l : List UInt8} (h : Wr w b row l) : b < w.heap.size := by
  obtain ⟨lr, ⟨_, _, hb⟩ | ⟨g, cap, cur, _, _, _, hb, _⟩⟩ := h <;> exact hb.lt
theorem Wr.rowLt {w : World} {b : Nat} {row : Option Nat} {l : List UInt8} (h : Wr w b row l) : ∀ g, row = some g → g < w.heap.size ∧ g ≠ b := by
  intro g e
  obtain ⟨lr, ⟨_, rfl, _⟩ | ⟨g', cap, cur, _, rfl, hgb, _, hg, _⟩⟩ := h
  · cases e
  · injection e with e; subst e; exact ⟨hg.lt, hgb⟩
theorem Wr.keep {w w' : World} {b : Nat} {row : Option Nat} {l : List UInt8} (h : Wr w b row l) (hb : w'.heap[b]? = w.heap[b]?) (hr : ∀ g, row = some g → w'.heap[g]? = w.heap[g]?) : Wr w' b row l := by
  obtain ⟨lr, ⟨h1, h2, h3⟩ | ⟨g, cap, cur, h1, h2, h3, h4, h5, r⟩⟩ := h
  · exact ⟨lr, .inl ⟨h1, h2, hb.trans h3⟩⟩
  · exact ⟨lr, .inr ⟨g, cap, cur, h1, h2, h3, hb.trans h4, (hr g h2).trans h5, r⟩⟩
theorem Wr.old {w w' : World} {b : Nat} {row : Option Nat} {l : List UInt8} (h : Wr w b row l) (hb : Below w.heap.size w w') : Wr w' b row l :=
  h.keep (hb.block b h.lt) fun g e => hb.block g (h.rowLt g e).1
/-- another writer's writing leaves this one -/
theorem Wr.other {w w' : World} {b b' : Nat} {row r r' : Option Nat} {l : List UInt8} (h : Wr w b row l) (hw : Wrote b' r r' w w') (h1 : b ≠ b') (h2 : some b ≠ r) (h3 : row ≠ some b') (h4 : row = r → row = none) : Wr w' b row l := by
  refine h.keep (hw.2.2.2.2.1 b h.lt h1 h2) fun g e => ?_
  refine hw.2.2.2.2.1 g (h.rowLt g e).1 (fun e2 => h3 (by rw [e, e2])) fun e2 => ?_
  have := h4 (by rw [e, e2])
  rw [e] at this; cases this

/-- as the library's contracts have it -/
theorem Wr.buf {w : World} {b : Nat} {row : Option Nat} {l : List UInt8} (h : Wr w b row l) : LibA.IsBuffer 33 (fun _ => none) 5 0 b 0 (Lib.byteCells l) w := by
  obtain ⟨lr, ⟨rfl, _, hb⟩ | ⟨g, cap, cur, h0, _, hgb, hb, hg, hc, hm, hs, ht⟩⟩ := h
  · exact LibA.zero_isBuffer (Nat.zero_le _) (LibA.three_whole hb)
  · have := LibA.isBuffer_mk (T := 33) (R := fun _ => none) (e := 5) (B := 0) (Nat.zero_le _) (LibA.three_whole hb) (Nat.zero_le _) hg hc hm hs hgb
    rwa [ht] at this

theorem Wr.new (w : World) : Wr (w.alloc (.cells #[.slice none 0 0, .int .i64 0, .int .i8 0] 33)) w.heap.size none [] := ⟨0, .inl ⟨rfl, rfl, Blk.new _ _ _⟩⟩

theorem wnew_any (w : World) : Calls Tryd.prog 16 #[] w fun e w' => e = .returned (.pointer (some ⟨w.heap.size, 0, none⟩)) ∧ Wr w' w.heap.size none [] ∧ Below w.heap.size w w' := by
  go_enter Tryd.func16, Tryd.ntmps16
  go_wp2_with fail
  go_ret
  exact ⟨rfl, Wr.new w, (Below.refl _ _).alloc (Nat.le_refl _) _⟩

/-- how the buffer grows: a new row, with the old bytes at its front, and room for n more -/
def Grew (b n : Nat) (l : List UInt8) (w : World) (e : Ending) (w' : World) : Prop :=
  e = .returned (.int .i64 l.length) ∧ ∃ g cap cur lr, w.heap.size ≤ g ∧ Blk w' b 33 #[.slice (some ⟨g, 0, none⟩) (l.length + n) cap, .int .i64 0, .int .i8 lr] ∧ Blk w' g 5 cur ∧ l.length + n ≤ cap ∧ cap ≤ maxLen ∧ cur.size = cap ∧ cur.toList.take l.length = Lib.byteCells l ∧ w.grownBy w' (some b)

theorem infoByte0 : (Tryd.prog.info? 5).map (fun i => (i.zero, i.size, i.bytes)) = some (some (.int .u8 0), 1, 1) := infoByte

set_option maxHeartbeats 4000000 in
set_option maxRecDepth 100000 in
theorem grow_small (b n : Nat) (lr : Int) (w : World) (hb : Blk w b 33 #[.slice none 0 0, .int .i64 0, .int .i8 lr]) (hn : 1 ≤ n) (h64 : n ≤ 64) :
    Calls Tryd.prog 113 #[.pointer (some ⟨b, 0, none⟩), .int .i64 n] w (Grew b n [] w) := by
  obtain ⟨i0, hi, hz0, hz1, hz2⟩ := info_parts infoByte
  obtain ⟨M, hM⟩ : ∃ M, M = madeCells (Value.int .u8 0).cells ((64 : Int).toNat * i0.size) := ⟨_, rfl⟩
  have hMs : M.size = 64 := by rw [hM, size_madeCells, hz1]; rfl
  have hmk : ∀ W : World, (Instr.makeSlice 27 (.int .i64 (n : Int)) (.int .i64 64)).run Tryd.prog W = .ok (.slice (some ⟨W.heap.size, 0, none⟩) n 64) (W.alloc (.cells M 5)) := fun W => by
    have h := run_makeSlice (P := Tryd.prog) W 27 5 i0 (.int .u8 0) Tryd.underlying27 hi hz0 .i64 .i64 (n : Int) 64 (by omega) (by omega) (by rw [hz1]; decide) (by rw [hz2]; decide) (by decide)
    rw [← hM] at h
    simpa using h
  clear hM hz0 hz1 hz2 hi
  have hnil : ∀ W : World, (binOp .eql 27 (.slice none 0 0) (.slice none 0 0)).run Tryd.prog W = .ok (.bool true) W := fun W => Lib.run_eql_slice_nil_nil W _ _ Tryd.underlying27
  have hIs : LibA.IsBuffer 33 (fun _ => none) 5 0 b 0 [] w := LibA.zero_isBuffer (Nat.zero_le _) (LibA.three_whole hb)
  go_enter Tryd.func113, Tryd.ntmps113
  go_wp2_with fail
  refine (Tryd.Buffer_Len_at 33 (fun _ => none) 0 b 0 [] w hIs).mono ?_
  rintro e w0 ⟨rfl, k, hw0⟩
  have hb0 : Blk w0 b 33 #[.slice none 0 0, .int .i64 0, .int .i8 lr] := by rw [hw0]; exact hb
  have c0 : w0.cell? ⟨b, 0, none⟩ = some (.slice none 0 0) := hb0.cell 0
  have c1 : w0.cell? ⟨b, 1, none⟩ = some (.int .i64 0) := hb0.cell 1
  have f0 := hb0.frozen 0
  have f1 := hb0.frozen 1
  have hlt := hb0.lt
  have c0a : ∀ o, (w0.alloc o).cell? ⟨b, 0, none⟩ = some (.slice none 0 0) := fun o => (World.cell?_alloc_lt w0 o _ hlt).trans c0
  have f0a : ∀ o, (w0.alloc o).frozen? ⟨b, 0, none⟩ = false := fun o => (hb0.alloc o).frozen 0
  have hsz : w.heap.size = w0.heap.size := by rw [hw0]; rfl
  have hg0 : w.grownBy w0 (some b) := by rw [hw0]; exact only_drewN (World.grownBy.refl _ _) k
  have Hsz := Lib.hid hsz
  clear hw0 hIs hsz hb
  go_wp2_with fail
  refine (Tryd.Buffer_tryGrow_none_at b 0 none 0 0 n w0 c0 (Nat.le_refl _) (Nat.zero_le _) (by omega)).mono ?_
  rintro e w1 ⟨rfl, rfl⟩
  go_wp2_with fail
  go_ret
  have hb3 : Blk (w1.setCell ⟨b, 0, none⟩ (.slice (some ⟨w1.heap.size, 0, none⟩) n 64)) b 33 #[.slice (some ⟨w1.heap.size, 0, none⟩) n 64, .int .i64 0, .int .i8 lr] := hb0.set_ 0 _
  have hs3 : (w1.setCell ⟨b, 0, none⟩ (.slice (some ⟨w1.heap.size, 0, none⟩) n 64)).heap.size = w1.heap.size := by simp [World.setCell]
  have hn3 := Blk.new (w1.setCell ⟨b, 0, none⟩ (.slice (some ⟨w1.heap.size, 0, none⟩) n 64)) 5 M
  rw [hs3] at hn3
  exact ⟨rfl, w1.heap.size, 64, M, lr, Nat.le_of_eq Hsz.out, by simpa using hb3.alloc _, hn3, by simpa using h64, by unfold maxLen; omega, hMs, rfl, only_alloc (only_setCell hg0 (Or.inl rfl) _) _⟩

/-- behind growSlice: what the three stores leave -/
theorem grew_end {b n N cap L m : Nat} {l : List UInt8} {lr : Int} {w w2 : World} {x : Value} {cur : Array Value} (hb : Blk w2 b 33 #[x, .int .i64 0, .int .i8 lr]) (hg : Blk w2 N 5 cur) (hN : w.heap.size ≤ N) (hNb : N ≠ b)
    (hc : l.length + n ≤ cap) (hm : cap ≤ maxLen) (hs : cur.size = cap) (ht : cur.toList.take l.length = Lib.byteCells l) (hw : w.grownBy w2 (some b)) (hL : L = l.length) (hmn : m = l.length + n) (v : Value) :
    Grew b n l w (.returned (.int .i64 L)) (((w2.setCell ⟨b, 0, none⟩ v).setCell ⟨b, 1, none⟩ (.int .i64 0)).setCell ⟨b, 0, none⟩ (.slice (some ⟨N, 0, none⟩) m cap)) := by
  subst hL hmn
  refine ⟨rfl, N, cap, cur, lr, hN, ?_, ((hg.far (p := ⟨b, 0, none⟩) hNb v).far (p := ⟨b, 1, none⟩) hNb _).far (p := ⟨b, 0, none⟩) hNb _, hc, hm, hs, ht, only_setCell (only_setCell (only_setCell hw (Or.inl rfl) _) (Or.inl rfl) _) (Or.inl rfl) _⟩
  have := ((hb.set_ 0 v).set_ 1 (.int .i64 0)).set_ 0 (.slice (some ⟨N, 0, none⟩) (l.length + n) cap)
  simpa using this

end Go.Proofs.YtbbikkncobgabaaDoor
