/-
  code.Writer.Put. By an AI agent.
-/
import Derived.Test.YtbbikkncobgabaaDoorWText
import Derived.LoopTactic
import Derived.OwnWalk
namespace Go.Proofs.YtbbikkncobgabaaDoor
open Go.RowKit

theorem Wrote.cell {b : Nat} {row row' : Option Nat} {w w' : World} (h : Wrote b row row' w w') {a : Addr} (h1 : a.block < w.heap.size) (h2 : a.block ≠ b) (h3 : some a.block ≠ row) : w'.cell? a = w.cell? a :=
  World.cell?_of_block (h.2.2.2.2.1 a.block h1 h2 h3)

/-- numbers' digits, one behind the other -/
def digs (xs : List Nat) : List UInt8 := xs.flatMap (dig 10)
theorem digs_length (xs : List Nat) : (digs xs).length ≤ 10 * xs.length := by
  induction xs with
  | nil => simp [digs]
  | cons x xs ih =>
    have := dig_length 10 x
    simp only [digs, List.flatMap_cons, List.length_append, List.length_cons] at ih ⊢
    omega

set_option maxRecDepth 100000 in
set_option maxHeartbeats 2000000 in
theorem wput (b : Nat) (row : Option Nat) (l : List UInt8) (xs : List Nat) (ad : Addr) (n c : Nat) (w : World) (h : Wr w b row l) (hn : n = xs.length) (hx : ∀ x ∈ xs, x < 18446744073709551616) (hr : ∀ (j x : Nat), xs[j]? = some x → w.cell? (ad.add j) = some (.int .u64 (x : Int)))
    (hlt : ad.block < w.heap.size) (hab : ad.block ≠ b) (har : some ad.block ≠ row) (hlim : l.length + 10 * xs.length + 10 ≤ 140737488355328) :
    Calls Tryd.prog 51 #[.pointer (some ⟨b, 0, none⟩), .slice (some ad) n c] w (WrEnd b row (l ++ digs xs) w) := by
  have Hn := Lib.hid hn
  have hm : n ≤ 140737488355328 := by omega
  clear hn
  go_enter Tryd.func51, Tryd.ntmps51
  go_wp2_with fail
  go_loopw [8] (fun i wr => ∃ k r', k ≤ n ∧ i = .int .i64 k ∧ Wr wr b r' (l ++ digs (xs.take k)) ∧ Wrote b row r' w wr) (fun i _ => n - (intOf i).toNat)
  case atStart => exact ⟨0, row, Nat.zero_le _, rfl, by simpa [digs] using h, Wrote.refl _ _ _⟩
  case round =>
    obtain ⟨k, r', hk, rfl, hw, hwr⟩ := hrel
    by_cases hkn : k < n
    · have hkl : k < xs.length := by rw [← Hn.out]; exact hkn
      have hc := hr k xs[k] (List.getElem?_eq_getElem hkl)
      have hc2 : wr.cell? (ad.add k) = some (.int .u64 (xs[k] : Int)) := (hwr.cell (by rw [block_of_add]; exact hlt) (by rw [block_of_add]; exact hab) (by rw [block_of_add]; exact har)).trans hc
      have hxk := hx xs[k] (List.getElem_mem hkl)
      have hd : digs (xs.take (k + 1)) = digs (xs.take k) ++ dig 10 xs[k] := by
        unfold digs; rw [List.take_succ_eq_append_getElem hkl, List.flatMap_append, List.flatMap_singleton]
      have Hd := Lib.hid hd
      have hlen := digs_length (xs.take k)
      rw [List.length_take] at hlen
      clear hd hc h
      generalize xs[k] = x at *
      go_wp2_with fail
      refine (wuint b r' (l ++ digs (xs.take k)) x wr hw hxk (by simp; omega)).mono ?_
      rintro e w1 ⟨rfl, r2, h2, h3⟩
      have h4 := hwr.trans h3
      clear h3
      rw [List.append_assoc, ← Hd.out] at h2
      go_wp2_with fail
      go_roundw
      case rel => exact ⟨k + 1, r2, by omega, by go_num, h2, h4⟩
      case measure => simp [intOf]; omega
    · obtain rfl : k = n := by omega
      rw [Hn.out, List.take_length] at hw
      go_wp2_with fail
      go_end0
      exact ⟨rfl, r', hw, hwr⟩
end Go.Proofs.YtbbikkncobgabaaDoor
