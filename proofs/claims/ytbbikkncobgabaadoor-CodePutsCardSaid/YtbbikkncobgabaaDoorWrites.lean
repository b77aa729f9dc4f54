/-
  code.Writer: U8, Uint. By an AI agent.
-/
import Derived.Test.YtbbikkncobgabaaDoorDigits
namespace Go.Proofs.YtbbikkncobgabaaDoor
open Go.RowKit

/-- a writing behind a call that made memory of its own -/
theorem WrEnd.after {b : Nat} {row : Option Nat} {l : List UInt8} {w w1 w2 : World} (hb : Below w.heap.size w w1) (h : ∃ row', Wr w2 b row' l ∧ Wrote b row row' w1 w2) : ∃ row', Wr w2 b row' l ∧ Wrote b row row' w w2 := by
  obtain ⟨row', h1, h2⟩ := h
  exact ⟨row', h1, (Wrote.ofBelow hb).trans h2⟩
theorem WrEnd.then_ {b : Nat} {row row1 : Option Nat} {l : List UInt8} {w w1 w2 : World} (hb : Wrote b row row1 w w1) (h : ∃ row', Wr w2 b row' l ∧ Wrote b row1 row' w1 w2) : ∃ row', Wr w2 b row' l ∧ Wrote b row row' w w2 := by
  obtain ⟨row', h1, h2⟩ := h
  exact ⟨row', h1, hb.trans h2⟩

set_option maxRecDepth 100000 in
set_option maxHeartbeats 1000000 in
theorem wu8 (b : Nat) (row : Option Nat) (l : List UInt8) (x : UInt8) (w : World) (h : Wr w b row l) (hlim : l.length + 1 ≤ 140737488355328) :
    Calls Tryd.prog 49 #[.pointer (some ⟨b, 0, none⟩), .int .u8 (x.toNat : Int)] w (WrEnd b row (l ++ [x]) w) := by
  have hb := h.lt
  have hb0 : Below w.heap.size w (w.alloc (.cells #[.int .u8 (x.toNat : Int)] 5)) := (Below.refl _ w).alloc (Nat.le_refl _) _
  go_enter Tryd.func49, Tryd.ntmps49
  go_wp2_with fail
  refine (wraw_some b row l [x] ⟨w.heap.size, 0, none⟩ 1 1 _ (h.old hb0) rfl (by decide) (by simp; omega) ?_ hlim).mono ?_
  · intro j v hj
    exact World.news_of_block (heap_alloc_new w (.cells #[.int .u8 (x.toNat : Int)] 5)) j v hj
  rintro e w1 ⟨rfl, h1⟩
  have h2 := WrEnd.after hb0 h1
  clear h1
  go_wp2_with fail
  go_end0
  exact ⟨rfl, h2⟩

set_option maxRecDepth 100000 in
set_option maxHeartbeats 1000000 in
theorem wuint (b : Nat) (row : Option Nat) (l : List UInt8) (x : Nat) (w : World) (h : Wr w b row l) (hx : x < 18446744073709551616) (hlim : l.length + 10 ≤ 140737488355328) :
    Calls Tryd.prog 55 #[.pointer (some ⟨b, 0, none⟩), .int .u64 (x : Int)] w (WrEnd b row (l ++ dig 10 x) w) := by
  have hb := h.lt
  have hdl := dig_length 10 x
  go_enter Tryd.func55, Tryd.ntmps55
  go_wp2_with fail
  refine (digits_any 9 x _ (Nat.lt_of_lt_of_le hx (by decide)) (by decide) hx).mono ?_
  rintro e w1 ⟨v, rfl, hown, hb1⟩
  have hne : 0 < (dig 10 x).length := by
    rw [dig]; split <;> simp
  obtain ⟨g, cap, rfl, hcap, hg0, hg1, hcell, -⟩ := hown.row hne
  generalize hd : dig 10 x = t at *
  have hs := hb1.size
  go_wp2_with fail
  refine (wraw_some b row l t ⟨g, 0, none⟩ t.length cap _ (h.old hb1) rfl hne (by simp; omega) ?_ (by omega)).mono ?_
  · intro j v hj
    rcases Nat.lt_or_ge j t.length with hjl | hjl
    · have := hcell j hjl
      simp [Lib.byteCells, hjl] at hj
      rw [← hj]
      have e1 : (⟨g, 0, none⟩ : Addr).add j = ⟨g, j, none⟩ := by cases j <;> simp [Addr.add]
      rw [e1]
      exact this
    · rw [List.getElem?_eq_none (by simpa [Lib.byteCells] using hjl)] at hj; cases hj
  rintro e w2 ⟨rfl, h1⟩
  have h2 := WrEnd.after hb1 h1
  clear h1
  go_wp2_with fail
  go_end0
  exact ⟨rfl, h2⟩
end Go.Proofs.YtbbikkncobgabaaDoor
