/-
  append, make and the like at []byte, at this program's own numbers. By an AI agent.
-/
import Derived.Test.YtbbikkncobgabaaDoorChecked
import Derived.Test.YtbbikkncobgabaaDoorMem
import Derived.WalkKit
import Derived.OwnWalk
namespace Go.Proofs.YtbbikkncobgabaaDoor
open Go.RowKit

theorem infoByte : (Tryd.prog.info? 5).map (fun i => (i.zero, i.size, i.bytes)) = some (some (.int .u8 0), 1, 1) := by kernel_rfl

/-- a row of bytes that the call owns -/
def Owns (w : World) (base : Nat) (v : Value) (l : List UInt8) : Prop := w.ownsRow base 5 1 v l.length (Lib.byteCells l)

theorem Owns.nil (w : World) (base : Nat) : Owns w base (.slice none 0 0) [] := World.ownsRow_nil w base _ _
theorem Owns.alloc {w : World} {base : Nat} {v : Value} {l : List UInt8} (h : Owns w base v l) (o : Obj) : Owns (w.alloc o) base v l := World.ownsRow.alloc h o
theorem Owns.lt {w : World} {base : Nat} {v : Value} {l : List UInt8} (h : Owns w base v l) : ∀ k, v.ownBlock = some k → base ≤ k ∧ k < w.heap.size := World.ownsRow.lt h
theorem Owns.more {w : World} {base base' : Nat} {v : Value} {l : List UInt8} (h : Owns w base v l) (hb : base' ≤ base) : Owns w base' v l := by
  obtain ⟨h1, h2⟩ := h
  refine ⟨h1, ?_⟩
  rcases h2 with h2 | ⟨g, cap, cur, hv, hg, r⟩
  · exact .inl h2
  · exact .inr ⟨g, cap, cur, hv, by omega, r⟩
/-- behind a call that made memory of its own -/
theorem Owns.below {w w' : World} {base : Nat} {v : Value} {l : List UInt8} (h : Owns w base v l) (hb : Below w.heap.size w w') : Owns w' base v l := by
  refine World.ownsRow.kept (row := none) h ⟨hb.os, hb.tape, hb.output, hb.size, fun i hi _ => hb.block i hi⟩ ?_
  cases v.ownBlock with
  | none => exact .inl rfl
  | some g => exact .inr (by simp)
theorem Owns.drewN {w : World} {base : Nat} {v : Value} {l : List UInt8} (h : Owns w base v l) (n : Nat) : Owns (w.drewN n) base v l := h
/-- the shape of the value -/
theorem Owns.form {w : World} {base : Nat} {v : Value} {l : List UInt8} (h : Owns w base v l) : ∃ A c, v = .slice A l.length c ∧ l.length ≤ c ∧ l.length ≤ maxLen ∧ Reads w w.heap.size 1 A l.length (Lib.byteCells l) := by
  have h' := h
  obtain ⟨h1, h2⟩ := h
  rcases h2 with ⟨rfl, hx⟩ | ⟨g, cap, cur, rfl, hg, hh, hnc, hm, r⟩
  · have : l = [] := by simpa [Lib.byteCells] using hx
    subst this
    exact ⟨none, 0, rfl, Nat.le_refl _, Nat.zero_le _, Reads.none_⟩
  · exact ⟨some ⟨g, 0, none⟩, cap, rfl, hnc, Nat.le_trans hnc (by assumption), Reads.of_own h'⟩

theorem Owns.lit (w : World) (base : Nat) (l : List UInt8) (hb : base ≤ w.heap.size) (hl : l.length ≤ maxLen) :
    Owns (w.alloc (.cells (Lib.byteCells l).toArray 5)) base (.slice (some ⟨w.heap.size, 0, none⟩) l.length l.length) l := by
  have := World.ownsRow_lit (base := base) (e := 5) (size := 1) w (Lib.byteCells l).toArray l.length hb hl (by simp [Lib.byteCells])
  simpa [Owns] using this

/-- a row that isn't empty: where it lies, what its cells hold, that they may be written -/
theorem Owns.row {w : World} {base : Nat} {v : Value} {l : List UInt8} (h : Owns w base v l) (h0 : 0 < l.length) :
    ∃ g cap, v = .slice (some ⟨g, 0, none⟩) l.length cap ∧ l.length ≤ cap ∧ base ≤ g ∧ g < w.heap.size ∧ (∀ j (hj : j < l.length), w.cell? ⟨g, j, none⟩ = some (.int .u8 (l[j].toNat : Int))) ∧ (∀ j, w.frozen? ⟨g, j, none⟩ = false) := by
  obtain ⟨g, cap, rfl, hb, hg⟩ := World.ownsRow.form h h0
  refine ⟨g, cap, rfl, ?_, hb, hg, fun j hj => ?_, fun j => World.ownsRow.frozenAt h j⟩
  · obtain ⟨A, c, e, hc, _⟩ := Owns.form h
    injection e with e1 e2 e3
    omega
  · rw [World.ownsRow.cellAt h j (by omega)]
    simp [Lib.byteCells, hj]
theorem Owns.cell {w : World} {base g cap n : Nat} {l : List UInt8} (h : Owns w base (.slice (some ⟨g, 0, none⟩) n cap) l) (j : Nat) (hj : j < l.length) : w.cell? ⟨g, j, none⟩ = some (.int .u8 (l[j].toNat : Int)) := by
  obtain ⟨g', cap', e, _, _, _, hc, _⟩ := h.row (by omega)
  injection e with e1 e2 e3
  injection e1 with e1
  injection e1 with e1
  subst e1
  exact hc j hj
theorem Owns.free {w : World} {base g cap n : Nat} {l : List UInt8} (h : Owns w base (.slice (some ⟨g, 0, none⟩) n cap) l) (h0 : 0 < l.length) (j : Nat) : w.frozen? ⟨g, j, none⟩ = false := by
  obtain ⟨g', cap', e, _, _, _, _, hf⟩ := h.row h0
  injection e with e1 e2 e3
  injection e1 with e1
  injection e1 with e1
  subst e1
  exact hf j
theorem Owns.blk {w : World} {base g cap n : Nat} {l : List UInt8} (h : Owns w base (.slice (some ⟨g, 0, none⟩) n cap) l) : base ≤ g ∧ g < w.heap.size := h.lt g rfl

theorem Owns.stored {w : World} {base g cap : Nat} {l : List UInt8} (h : Owns w base (.slice (some ⟨g, 0, none⟩) l.length cap) l) (j : Nat) (b : UInt8) :
    Owns (w.setCell ⟨g, j, none⟩ (.int .u8 (b.toNat : Int))) base (.slice (some ⟨g, 0, none⟩) l.length cap) (l.set j b) := by
  have := (World.ownsRow.stored h j (.int .u8 (b.toNat : Int))).1
  unfold Owns
  rw [List.length_set]
  simpa [Lib.byteCells, List.map_set] using this

/-- a store of whatever byte -/
theorem Owns.turned {w : World} {base g cap : Nat} {l : List UInt8} (h : Owns w base (.slice (some ⟨g, 0, none⟩) l.length cap) l) (j : Nat) (x : Int) (h0 : 0 ≤ x) (h1 : x ≤ 255) :
    ∃ l' : List UInt8, l'.length = l.length ∧ Owns (w.setCell ⟨g, j, none⟩ (.int .u8 x)) base (.slice (some ⟨g, 0, none⟩) l.length cap) l' := by
  obtain ⟨b, hb⟩ : ∃ b : UInt8, x = (b.toNat : Int) := ⟨UInt8.ofNat x.toNat, by rw [UInt8.toNat_ofNat']; omega⟩
  exact ⟨l.set j b, List.length_set, by rw [hb]; exact Owns.stored h j b⟩
theorem wrap_u8_lo (y : Int) : 0 ≤ IntKind.u8.wrap y := by rw [IntKind.wrap_u8]; omega
theorem wrap_u8_hi (y : Int) : IntKind.u8.wrap y ≤ 255 := by rw [IntKind.wrap_u8]; omega
/-- what the call owns stays while a cell of a block below is written -/
theorem Owns.apart {w : World} {base : Nat} {v : Value} {l : List UInt8} (h : Owns w base v l) {a : Addr} (ha : a.block < base) (u : Value) : Owns (w.setCell a u) base v l := ownsRow_setCell_below h ha u

/-- one cell, just laid -/
theorem Reads.one (w : World) (x : Value) (t : TypeId) : Reads (w.alloc (.cells #[x] t)) (w.heap.size + 1) 1 (some ⟨w.heap.size, 0, none⟩) 1 [x] :=
  ⟨rfl, fun _ => ⟨⟨w.heap.size, 0, none⟩, rfl, Nat.lt_succ_self _, cell_one_new w x t⟩⟩

/-- a row, just laid -/
theorem Reads.laid (w : World) (cs : Array Value) (t : TypeId) {fr : Nat × Nat} : Reads (w.alloc (.cells cs t fr)) (w.heap.size + 1) 1 (some ⟨w.heap.size, 0, none⟩) cs.size cs.toList :=
  ⟨by simp, fun _ => ⟨⟨w.heap.size, 0, none⟩, rfl, Nat.lt_succ_self _, fun j u hu => (World.news_of_block (heap_alloc_new w (.cells cs t fr)) j u hu)⟩⟩

theorem Reads.laidAt (w : World) (k : Nat) (cs : Array Value) (t : TypeId) {fr : Nat × Nat} (h : w.heap.size = k) : Reads (w.alloc (.cells cs t fr)) (k + 1) 1 (some ⟨k, 0, none⟩) cs.size cs.toList := by
  subst h; exact Reads.laid w cs t

section
variable {w : World} {ops : Array Oper} {rest : List Oper} {o : Oper} {a : Act} {Q : Exit → Act → World → Prop}

theorem wpList_app (hgd : o.guard = none) (s x : Operand)
    (ho : o.op = .call { callee := .builtin .append, args := #[s, x], argTypes := #[27, 27] })
    (base : Nat) (v : Value) (l : List UInt8) (hs : a.eval s = v) (hown : Owns w base v l)
    (B : Nat) (A : Option Addr) (m c : Nat) (news : List UInt8) (hx : a.eval x = .slice A m c) (hm : m = news.length) (hr : Reads w B 1 A m (Lib.byteCells news))
    (hbytes : l.length + m ≤ 140737488355328) (hbase : base ≤ w.heap.size)
    (h : ∀ v' w', Owns w' base v' (l ++ news) → w.grownBy w' v.ownBlock → (v'.ownBlock = v.ownBlock ∨ v'.ownBlock = some w.heap.size) → wpList Tryd.prog ops Q rest (a.put o.dst v') w') : wpList Tryd.prog ops Q (o :: rest) a w := by
  obtain ⟨i0, hi, hz0, hz1, hz2⟩ := info_parts infoByte
  subst hm
  refine wpList_append_any w hgd s x 27 ho base 5 i0 (.int .u8 0) 1 1 Tryd.underlying27 hi hz0 hz1 hz2 rfl (by decide) v l.length (Lib.byteCells l) hs hown B A news.length c (Lib.byteCells news) hx hr
    (fun u hu => by simp only [Lib.byteCells, List.mem_map] at hu; obtain ⟨b, _, rfl⟩ := hu; rfl) (by unfold maxLen; omega) (by omega) hbase ?_
  intro v' w' h1 h2 h3
  refine h v' w' ?_ h2 h3
  unfold Owns
  rw [List.length_append, Lib.byteCells_append]
  exact h1

theorem wpList_mk (hgd : o.guard = none) (x y : Operand) (hop : o.op = Op.makeSlice 27 x y)
    (base : Nat) (kl kc : IntKind) (C : Int) (n : Nat) (hl : a.eval x = .int kl 0) (hc : a.eval y = .int kc C) (hC : C = (n : Int)) (hn : n ≤ 281474976710656) (hb : base ≤ w.heap.size)
    (h : ∀ w', Owns w' base (.slice (some ⟨w.heap.size, 0, none⟩) 0 n) [] → w.grownBy w' none → wpList Tryd.prog ops Q rest (a.put o.dst (.slice (some ⟨w.heap.size, 0, none⟩) 0 n)) w') :
    wpList Tryd.prog ops Q (o :: rest) a w := by
  obtain ⟨i0, hi, hz0, hz1, hz2⟩ := info_parts infoByte
  exact wpList_make_own w hgd x y 27 hop base 5 i0 (.int .u8 0) 1 Tryd.underlying27 hi hz0 hz1 kl kc C n hl hc hC (by rw [hz2]; omega) (by unfold maxLen; omega) hb h
end

/-- an answer that is bytes of the call's own -/
def Gives (base : Nat) (l : List UInt8) (w : World) (e : Ending) (w' : World) : Prop := ∃ v, e = .returned v ∧ Owns w' base v l ∧ Below w.heap.size w w'

/-- what a call that grows leaves of what was below -/
theorem Below.ofGrown {B : Nat} {a w w' : World} {row : Option Nat} (h : Below B a w) (hg : w.grownBy w' row) (hB : B ≤ w.heap.size) (hr : ∀ k, row = some k → B ≤ k) : Below B a w' := h.grown hg hB hr
end Go.Proofs.YtbbikkncobgabaaDoor
