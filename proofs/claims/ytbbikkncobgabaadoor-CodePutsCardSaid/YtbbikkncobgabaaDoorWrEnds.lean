/-
  code.Writer: Len, and what a nil one does. By an AI agent.
-/
import Derived.Test.YtbbikkncobgabaaDoorWrNil
namespace Go.Proofs.YtbbikkncobgabaaDoor
open Go.RowKit

theorem wlen (b : Nat) (row : Option Nat) (l : List UInt8) (w : World) (h : Wr w b row l) :
    Calls Tryd.prog 19 #[.pointer (some ⟨b, 0, none⟩)] w fun e w' => e = .returned (.int .i64 (l.length : Int)) ∧ ∃ k, w' = w.drewN k := by
  go_enter Tryd.func19, Tryd.ntmps19
  go_wp2_with fail
  refine (Tryd.Buffer_Len_at 33 (fun _ => none) 0 b 0 (Lib.byteCells l) w h.buf).mono ?_
  rintro e w1 ⟨rfl, k, rfl⟩
  rw [show (Lib.byteCells l).length = l.length by simp [Lib.byteCells]]
  go_wp2_with fail
  go_ret
  exact ⟨rfl, k, rfl⟩
theorem wlen_nil (w : World) : Calls Tryd.prog 19 #[.pointer none] w fun e w' => e = .returned (.int .i64 0) ∧ w = w' := by
  go_enter Tryd.func19, Tryd.ntmps19
  go_wp2_with fail
  go_ret
  exact ⟨rfl, rfl⟩
theorem wbytes_nil (w : World) : Calls Tryd.prog 20 #[.pointer none] w fun e w' => e = .returned (.slice none 0 0) ∧ w = w' := by
  go_enter Tryd.func20, Tryd.ntmps20
  go_wp2_with fail
  go_ret
  exact ⟨rfl, rfl⟩
theorem wraw_nobody (A : Option Addr) (n c : Nat) (w : World) : Calls Tryd.prog 53 #[.pointer none, .slice A n c] w fun e w' => e = .returned (.tuple #[]) ∧ w = w' := by
  go_enter Tryd.func53, Tryd.ntmps53
  go_wp2_with fail
  go_end0
  exact ⟨rfl, rfl⟩

/-- the buffer's own row -/
def BufRow (l : List UInt8) (w : World) (e : Ending) (w' : World) : Prop :=
  (∃ A c, e = .returned (.slice A l.length c) ∧ l.length ≤ c ∧ (A = none → c = 0) ∧ Reads w w.heap.size 1 A l.length (Lib.byteCells l)) ∧ ∃ k, w' = w.drewN k

set_option maxRecDepth 100000 in
set_option maxHeartbeats 1000000 in
theorem bufBytes (b : Nat) (row : Option Nat) (l : List UInt8) (w : World) (h : Wr w b row l) :
    Calls Tryd.prog 61 #[.pointer (some ⟨b, 0, none⟩)] w (BufRow l w) := by
  have hlen : (Lib.byteCells l).length = l.length := by simp [Lib.byteCells]
  obtain ⟨_, lr1, hcs⟩ := LibA.IsBuffer.cases h.buf
  rcases hcs with ⟨hnil, h4⟩ | ⟨g, cap, cur, h4, hBg, hg, hnc, hcm, hcs, htk, hgb⟩
  · obtain rfl : l = [] := by
      rw [hnil] at hlen
      exact List.eq_nil_of_length_eq_zero hlen.symm
    have c0 := h4.c0
    have c1 := h4.c1
    simp only [Nat.zero_add] at c1
    clear h4 hnil hlen
    go_enter Tryd.func61, Tryd.ntmps61
    go_wp2_with fail
    go_quiet (fail)
    go_wp2_with fail
    go_ret
    exact ⟨⟨none, 0, rfl, Nat.le_refl _, fun _ => rfl, Reads.none_⟩, _, rfl⟩
  · rw [hlen] at hnc htk h4
    have c0 := h4.c0
    have c1 := h4.c1
    simp only [Nat.zero_add] at c1
    have hr : Reads w w.heap.size 1 (some ⟨g, 0, none⟩) l.length (Lib.byteCells l) := by
      refine ⟨by simp [Lib.byteCells], fun h0 => ⟨_, rfl, (Array.getElem?_eq_some_iff.1 hg).1, fun j u hu => ?_⟩⟩
      have e1 : (⟨g, 0, none⟩ : Addr).add j = ⟨g, j, none⟩ := by cases j <;> simp [Addr.add]
      rw [e1, cell_of_row w g j cur _ (0, 0) hg]
      rw [← htk, List.getElem?_take] at hu
      split at hu
      · simpa using hu
      · cases hu
    have Hr := Lib.hid hr
    have i2 : (l.length : Int) ≤ (cap : Int) := by omega
    clear h4 hr hlen htk hg
    go_enter Tryd.func61, Tryd.ntmps61
    go_wp2_with fail
    go_quiet (fail)
    go_wp2_with fail
    go_ret
    exact ⟨⟨_, cap, rfl, hnc, (fun e => by cases e), Hr.out⟩, _, rfl⟩

theorem wbytes (b : Nat) (row : Option Nat) (l : List UInt8) (w : World) (h : Wr w b row l) (hm : l.length ≤ 140737488355328) :
    Calls Tryd.prog 20 #[.pointer (some ⟨b, 0, none⟩)] w (Gives w.heap.size l w) := by
  go_enter Tryd.func20, Tryd.ntmps20
  go_wp2_with fail
  refine (bufBytes b row l w h).mono ?_
  rintro e w1 ⟨⟨A, c, rfl, hc, hA, hr⟩, k, rfl⟩
  have HA := Lib.hid hA
  have Hr := Lib.hid hr
  clear hA hr
  go_wp2_with fail
  refine (clone_any A l.length c l (w.drewN k) rfl hc hm HA.out w.heap.size (Nat.le_refl _) Hr.out).mono ?_
  rintro e w2 ⟨v, rfl, hown, hb⟩
  have hb2 : Below w.heap.size w w2 := (below_drewN (Below.refl _ w) k).trans hb
  have hown2 : Owns w2 w.heap.size v l := hown
  clear hown hb
  go_wp2_with fail
  go_ret
  exact ⟨_, rfl, hown2, hb2⟩
end Go.Proofs.YtbbikkncobgabaaDoor
