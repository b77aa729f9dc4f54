/-
  sum.Seal and scrivenerref01.Seal: a text with its sum behind it. By an AI agent.
-/
import Derived.Test.YtbbikkncobgabaaOf
import Derived.Test.YtbbikkncobgabaaRefOf
import Derived.Test.YtbbikkncobgabaaApp
namespace Go.Proofs.Ytbbikkncobgabaa
open Go.RowKit

/-- one byte, as cells -/
theorem cells_one (b : UInt8) (x : Int) (h : x = (b.toNat : Int)) : Lib.byteCells [b] = [.int .u8 x] := by rw [h]; rfl

theorem idx0 : ∀ w : World, (Instr.index 42 (.agg #[.int .i64 0, .int .i64 8, .int .i64 16, .int .i64 24]) (.int .i64 0)).run Try.prog w = .ok (.int .i64 0) w := fun _ => by kernel_rfl
theorem idx1 : ∀ w : World, (Instr.index 42 (.agg #[.int .i64 0, .int .i64 8, .int .i64 16, .int .i64 24]) (.int .i64 1)).run Try.prog w = .ok (.int .i64 8) w := fun _ => by kernel_rfl
theorem idx2 : ∀ w : World, (Instr.index 42 (.agg #[.int .i64 0, .int .i64 8, .int .i64 16, .int .i64 24]) (.int .i64 2)).run Try.prog w = .ok (.int .i64 16) w := fun _ => by kernel_rfl
theorem idx3 : ∀ w : World, (Instr.index 42 (.agg #[.int .i64 0, .int .i64 8, .int .i64 16, .int .i64 24]) (.int .i64 3)).run Try.prog w = .ok (.int .i64 24) w := fun _ => by kernel_rfl

attribute [local go_sem] Crc.le4_0 Crc.le4_1 Crc.le4_2 Crc.le4_3

/-- a round's end -/
def Shutting (B : Nat) (w : World) (l : List UInt8) (X : BitVec 32) (v i : Value) (wr : World) : Prop :=
  ∃ k : Nat, k ≤ 4 ∧ i = .int .i64 k ∧ Owns wr B v (l ++ (Crc.le4 X).take k) ∧ Below B w wr

set_option maxHeartbeats 1000000 in
theorem shut_any (A : Option Addr) (c : Nat) (l : List UInt8) (w : World) (hm : l.length ≤ 1000000) (hcl : l.length ≤ c) (B : Nat) (hB : B ≤ w.heap.size) (hrB : Reads w B 1 A l.length (Lib.byteCells l)) :
    Calls Try.prog 11 #[.slice A l.length c] w (Gives w.heap.size (Crc.shut l) w) := by
  have hr := hrB.more hB
  clear hrB hB
  go_enter Try.func11, Try.ntmps11
  go_wp2_with fail
  refine (sum_of _ _ _ [.slice A l.length c] [l] _ (by decide) (w.heap.size + 1) (by simp) ?_ ?_).mono ?_
  · exact Reads.laid w #[.slice A l.length c] _
  · exact Parts.cons hcl (by unfold maxLen; omega) ((hr.alloc (Nat.le_refl _) _).more (by simp)) (Parts.nil _ _)
  rintro e w1 ⟨rfl, hb1⟩
  have hb : Below w.heap.size w w1 := ((Below.refl _ _).alloc (Nat.le_refl _) _).trans (hb1.mono (by simp))
  have hr1 := hr.below hb
  have hs1 := hb.size
  generalize hX : Crc.sum [l].flatten = X
  have HX := Lib.hid hX
  clear hX hb1
  go_wp2_with (first | (at_make; refine wpList_mk rfl _ _ rfl w.heap.size _ _ _ (l.length + 4) rfl rfl (by omega) (by omega) hs1 ?_; intro w2 hown2 hg2) | (at_builtin; refine wpList_app rfl _ _ rfl w.heap.size _ [] rfl hown2 w.heap.size _ _ _ l rfl rfl ?_ ?_ ?_ ?_))
  · exact hr1.grown hg2 hs1 (fun g h => by cases h)
  · simp; omega
  · have := hg2.size; omega
  intro v3 w3 hown3 hg3 _
  have hb3 : Below w.heap.size w w3 := (hb.grown hg2 hs1 (fun k h => by cases h)).grown hg3 (by have := hg2.size; omega) (fun k h => by
    have := hown2.lt k h; omega)
  have hs3 := hb3.size
  clear hown2 hg2 hg3 hr1 hb hs1
  go_wp2_with fail
  refine (places_any _).mono ?_
  rintro e w4 ⟨rfl, hb4⟩
  have hown4 := hown3.below hb4
  have hb5 : Below w.heap.size w w4 := hb3.trans (hb4.mono hs3)
  clear hb4 hown3 hb3
  go_wp2_with fail
  go_loopw [4, 17] (fun v i wr => Shutting w.heap.size w l X v i wr) (fun _ i _ => 4 - (intOf i).toNat)
  case atStart => exact ⟨0, by omega, rfl, by simpa using hown4, hb5⟩
  case round =>
    clear hs3 hown4 hb5
    obtain ⟨k, hk, rfl, hown, hb⟩ := hrel
    have hsz := hb.size
    have hlen : (l ++ (Crc.le4 X).take k).length ≤ 1000004 := by rw [List.length_append, List.length_take, Crc.le4_length]; omega
    have hc4 : k = 0 ∨ k = 1 ∨ k = 2 ∨ k = 3 ∨ k = 4 := by omega
    rcases hc4 with rfl | rfl | rfl | rfl | rfl
    · have hi := idx0
      have x0 := Crc.U_lo X
      go_wp2_with (at_builtin; refine wpList_app rfl _ _ rfl w.heap.size _ _ rfl (hown.alloc _) _ _ _ _ [Crc.b4 X 0] rfl rfl (Reads.one _ _ _) ?_ ?_ ?_)
      · first | omega | (simp at hlen ⊢; omega)
      · simp; omega
      intro v2 w2 hown2 hg2 _
      have hb2 : Below w.heap.size w w2 := (hb.alloc hsz _).grown hg2 (by simp; omega) (fun k h => (hown.lt k h).1)
      have hown3 : Owns w2 w.heap.size v2 (l ++ (Crc.le4 X).take (0 + 1)) := by rw [Crc.take_b4 X 0 (by decide)]; simpa using hown2
      clear hown2
      go_wp2_with fail
      go_roundw
      case rel => exact ⟨1, by decide, rfl, hown3, hb2⟩
      case measure => simp [intOf]
    · have hi := idx1
      have x0 := Crc.U_lo X
      go_wp2_with (at_builtin; refine wpList_app rfl _ _ rfl w.heap.size _ _ rfl (hown.alloc _) _ _ _ _ [Crc.b4 X 1] rfl rfl (Reads.one _ _ _) ?_ ?_ ?_)
      · first | omega | (simp at hlen ⊢; omega)
      · simp; omega
      intro v2 w2 hown2 hg2 _
      have hb2 : Below w.heap.size w w2 := (hb.alloc hsz _).grown hg2 (by simp; omega) (fun k h => (hown.lt k h).1)
      have hown3 : Owns w2 w.heap.size v2 (l ++ (Crc.le4 X).take (1 + 1)) := by rw [Crc.take_b4 X 1 (by decide)]; simpa using hown2
      clear hown2
      go_wp2_with fail
      go_roundw
      case rel => exact ⟨2, by decide, rfl, hown3, hb2⟩
      case measure => simp [intOf]
    · have hi := idx2
      have x0 := Crc.U_lo X
      go_wp2_with (at_builtin; refine wpList_app rfl _ _ rfl w.heap.size _ _ rfl (hown.alloc _) _ _ _ _ [Crc.b4 X 2] rfl rfl (Reads.one _ _ _) ?_ ?_ ?_)
      · first | omega | (simp at hlen ⊢; omega)
      · simp; omega
      intro v2 w2 hown2 hg2 _
      have hb2 : Below w.heap.size w w2 := (hb.alloc hsz _).grown hg2 (by simp; omega) (fun k h => (hown.lt k h).1)
      have hown3 : Owns w2 w.heap.size v2 (l ++ (Crc.le4 X).take (2 + 1)) := by rw [Crc.take_b4 X 2 (by decide)]; simpa using hown2
      clear hown2
      go_wp2_with fail
      go_roundw
      case rel => exact ⟨3, by decide, rfl, hown3, hb2⟩
      case measure => simp [intOf]
    · have hi := idx3
      have x0 := Crc.U_lo X
      go_wp2_with (at_builtin; refine wpList_app rfl _ _ rfl w.heap.size _ _ rfl (hown.alloc _) _ _ _ _ [Crc.b4 X 3] rfl rfl (Reads.one _ _ _) ?_ ?_ ?_)
      · first | omega | (simp at hlen ⊢; omega)
      · simp; omega
      intro v2 w2 hown2 hg2 _
      have hb2 : Below w.heap.size w w2 := (hb.alloc hsz _).grown hg2 (by simp; omega) (fun k h => (hown.lt k h).1)
      have hown3 : Owns w2 w.heap.size v2 (l ++ (Crc.le4 X).take (3 + 1)) := by rw [Crc.take_b4 X 3 (by decide)]; simpa using hown2
      clear hown2
      go_wp2_with fail
      go_roundw
      case rel => exact ⟨4, by decide, rfl, hown3, hb2⟩
      case measure => simp [intOf]
    · go_wp2_with fail
      go_ret
      refine ⟨_, rfl, ?_, hb⟩
      have e : Crc.shut l = l ++ (Crc.le4 X).take 4 := by
        rw [List.take_of_length_le (by rw [Crc.le4_length]; exact Nat.le_refl _), ← HX.out]
        simp [Crc.shut]
      rw [e]
      exact hown

set_option maxHeartbeats 1000000 in
theorem refShut_any (A : Option Addr) (c : Nat) (l : List UInt8) (w : World) (hm : l.length ≤ 1000000) (B : Nat) (hB : B ≤ w.heap.size) (hrB : Reads w B 1 A l.length (Lib.byteCells l)) :
    Calls Try.prog 12 #[.slice A l.length c] w (Gives w.heap.size (Crc.shut l) w) := by
  have hr := hrB.more hB
  clear hrB hB
  go_enter Try.func12, Try.ntmps12
  go_wp2_with fail
  refine (ref_of _ _ l _ (by unfold maxLen; omega) hr).mono ?_
  rintro e w1 ⟨rfl, rfl⟩
  generalize hX : Crc.sum l = X
  have HX := Lib.hid hX
  clear hX
  have x0 := Crc.U_lo X
  have hlit := Owns.lit w w.heap.size [] (Nat.le_refl _) (Nat.zero_le _)
  go_wp2_with (at_builtin; refine wpList_app rfl (.tmp 6) (.tmp 7) rfl w.heap.size _ [] rfl hlit w.heap.size _ _ _ l rfl rfl ?_ ?_ ?_ ?_)
  · exact hr.alloc (Nat.le_refl _) _
  · simp; omega
  · simp
  intro v2 w2 hown2 hg2 _
  have hb2 : Below w.heap.size w w2 := ((Below.refl _ w).alloc (Nat.le_refl _) _).grown hg2 (by simp) (fun k h => (hlit.lt k h).1)
  have hs2 := hb2.size
  clear hlit hg2
  go_wp2_with (at_builtin; refine wpList_app rfl (.tmp 8) (.tmp 20) rfl w.heap.size _ l rfl (hown2.alloc _) (w2.heap.size + 1) _ _ _ [Crc.b4 X 0, Crc.b4 X 1, Crc.b4 X 2, Crc.b4 X 3] rfl rfl ?_ ?_ ?_ ?_)
  · exact Reads.laid w2 (Lib.byteCells [Crc.b4 X 0, Crc.b4 X 1, Crc.b4 X 2, Crc.b4 X 3]).toArray _
  · omega
  · simp; omega
  intro v3 w3 hown3 hg3 _
  have hb3 : Below w.heap.size w w3 := (hb2.alloc hs2 _).grown hg3 (by simp; omega) (fun k h => (hown2.lt k h).1)
  clear hg3 hown2
  go_wp2_with fail
  go_ret
  refine ⟨_, rfl, ?_, hb3⟩
  have e : Crc.shut l = l ++ [Crc.b4 X 0, Crc.b4 X 1, Crc.b4 X 2, Crc.b4 X 3] := by rw [← HX.out]; rfl
  rw [e]
  exact hown3
end Go.Proofs.Ytbbikkncobgabaa
