/-
  sum.Open and scrivenerref01.Open: what is shut is opened. By an AI agent.
-/
import Derived.Test.YtbbikkncobgabaaShut
namespace Go.Proofs.Ytbbikkncobgabaa
open Go.RowKit

/-- what a call that opens answers where there is nothing -/
def No (w : World) (e : Ending) (w' : World) : Prop := e = .returned (.tuple #[.slice none 0 0, .bool false]) ∧ Below w.heap.size w w'
/-- .. and where there is a text -/
def Yes (t : List UInt8) (w : World) (e : Ending) (w' : World) : Prop := ∃ v, e = .returned (.tuple #[v, .bool true]) ∧ Owns w' w.heap.size v t ∧ Below w.heap.size w w'

theorem open_short (A : Option Addr) (c : Nat) (l : List UInt8) (w : World) (hl : l.length < 4) :
    Calls Try.prog 13 #[.slice A l.length c] w (No w) := by
  go_enter Try.func13, Try.ntmps13
  go_wp2_with fail
  go_ret2
  exact ⟨rfl, Below.refl _ _⟩

theorem refOpen_short (A : Option Addr) (c : Nat) (l : List UInt8) (w : World) (hl : l.length < 4) :
    Calls Try.prog 14 #[.slice A l.length c] w (No w) := by
  go_enter Try.func14, Try.ntmps14
  go_wp2_with fail
  go_ret2
  exact ⟨rfl, Below.refl _ _⟩

theorem add_succ (a : Addr) (n : Nat) : a.add (n + 1) = ⟨a.block, a.off + (n + 1), none⟩ := by simp [Addr.add]

theorem four_get (t : List UInt8) (y : BitVec 32) (k : Nat) (hk : k < 4) : (t ++ Crc.le4 y)[t.length + k]'(by simp [Crc.le4_length]; exact hk) = Crc.b4 y k := by
  rw [List.getElem_append_right (by omega), Crc.b4_get y k hk]
  congr 1
  omega

def Four (B : Nat) (w : World) (y : BitVec 32) (x i : Value) (wr : World) : Prop :=
  ∃ k : Nat, k ≤ 4 ∧ i = .int .i64 k ∧ x = .int .u32 (Crc.U (Crc.acc y k)) ∧ Below B w wr

set_option maxHeartbeats 1000000 in
theorem open_four (A : Option Addr) (c : Nat) (t : List UInt8) (y : BitVec 32) (w : World) (hm : t.length ≤ 1000000) (hcl : t.length + 4 ≤ c) (hr : Reads w w.heap.size 1 A (t.length + 4) (Lib.byteCells (t ++ Crc.le4 y))) :
    Calls Try.prog 13 #[.slice A (t.length + 4) c] w (fun e w' => if y = Crc.sum t then Yes t w e w' else No w e w') := by
  obtain ⟨P, hP⟩ : ∃ P : Ending → World → Prop, P = fun e w' => if y = Crc.sum t then Yes t w e w' else No w e w' := ⟨_, rfl⟩
  have HP := Lib.hid hP
  rw [← hP]
  clear hP
  go_enter Try.func13, Try.ntmps13
  go_wp2_with fail
  refine (places_any _).mono ?_
  rintro e w1 ⟨rfl, hb1⟩
  go_wp2_with fail
  go_loopw [5, 14] (fun x i wr => Four w.heap.size w y x i wr) (fun _ i _ => 4 - (intOf i).toNat)
  case atStart => exact ⟨0, by omega, rfl, by rw [Crc.acc, Crc.U_zero], hb1⟩
  case round =>
    clear hb1
    obtain ⟨k, hk, rfl, rfl, hb⟩ := hrel
    have hc4 : k = 0 ∨ k = 1 ∨ k = 2 ∨ k = 3 ∨ k = 4 := by omega
    rcases hc4 with rfl | rfl | rfl | rfl | rfl
    · have hi := idx0
      obtain ⟨ad, rfl, _, hcell⟩ := (hr.below hb).get (show t.length + 0 < t.length + 4 by omega)
      rw [byteCells_get _ _ (by simp [Crc.le4_length]), four_get t y 0 (by decide), Nat.add_zero] at hcell
      have b0 := byte_lo (Crc.b4 y 0)
      have b1 := byte_hi (Crc.b4 y 0)
      go_wp2_with fail
      go_roundw
      case rel => exact ⟨1, by decide, rfl, by rw [Crc.acc_0], hb⟩
      case measure => simp [intOf]
    · have hi := idx1
      obtain ⟨ad, rfl, _, hcell⟩ := (hr.below hb).get (show t.length + 1 < t.length + 4 by omega)
      rw [byteCells_get _ _ (by simp [Crc.le4_length]), four_get t y 1 (by decide), add_succ] at hcell
      have b0 := byte_lo (Crc.b4 y 1)
      have b1 := byte_hi (Crc.b4 y 1)
      go_wp2_with fail
      go_roundw
      case rel => exact ⟨2, by decide, rfl, by rw [Crc.acc_1], hb⟩
      case measure => simp [intOf]
    · have hi := idx2
      obtain ⟨ad, rfl, _, hcell⟩ := (hr.below hb).get (show t.length + 2 < t.length + 4 by omega)
      rw [byteCells_get _ _ (by simp [Crc.le4_length]), four_get t y 2 (by decide), add_succ] at hcell
      have b0 := byte_lo (Crc.b4 y 2)
      have b1 := byte_hi (Crc.b4 y 2)
      go_wp2_with fail
      go_roundw
      case rel => exact ⟨3, by decide, rfl, by rw [Crc.acc_2], hb⟩
      case measure => simp [intOf]
    · have hi := idx3
      obtain ⟨ad, rfl, _, hcell⟩ := (hr.below hb).get (show t.length + 3 < t.length + 4 by omega)
      rw [byteCells_get _ _ (by simp [Crc.le4_length]), four_get t y 3 (by decide), add_succ] at hcell
      have b0 := byte_lo (Crc.b4 y 3)
      have b1 := byte_hi (Crc.b4 y 3)
      go_wp2_with fail
      go_roundw
      case rel => exact ⟨4, by decide, rfl, by rw [Crc.acc_3], hb⟩
      case measure => simp [intOf]
    · rw [Crc.acc_4]
      have hs := hb.size
      have y0 := Crc.U_lo y
      have y1 := Crc.U_hi y
      go_wp2_with fail
      refine (sum_of _ _ _ [.slice A t.length c] [t] _ (by simp [maxLen]) (wr.heap.size + 1) (by simp) (Reads.laid wr #[.slice A t.length c] _) ?_).mono ?_
      · refine Parts.cons (by omega) (by unfold maxLen; omega) ?_ (Parts.nil _ _)
        have h1 := (((hr.below hb).more hs).alloc (Nat.le_refl _) (.cells #[.slice A t.length c] 23)).more (show wr.heap.size ≤ wr.heap.size + 1 by omega)
        have h2 := h1.take (show t.length ≤ t.length + 4 by omega)
        rw [byteCells_take, List.take_left] at h2
        exact h2
      rintro e w2 ⟨rfl, hb2⟩
      have hb3 : Below w.heap.size w w2 := (hb.alloc hs _).trans (hb2.mono (by simp; omega))
      have hr3 := (hr.below hb3).take (show t.length ≤ t.length + 4 by omega)
      rw [byteCells_take, List.take_left] at hr3
      have hs3 := hb3.size
      clear hb2
      rw [List.flatten_cons, List.flatten_nil, List.append_nil]
      have s0 := Crc.U_lo (Crc.sum t)
      have s1 := Crc.U_hi (Crc.sum t)
      by_cases he : y = Crc.sum t
      · have hne : (Crc.U y != Crc.U (Crc.sum t)) = false := by rw [he]; simp
        have Hy := Lib.hid he
        clear he
        go_wp2_with (at_builtin; refine wpList_app rfl _ _ rfl w.heap.size _ [] rfl (Owns.nil _ _) w.heap.size _ _ _ t rfl rfl hr3 ?_ hs3 ?_)
        · simp; omega
        intro v4 w4 hown4 hg4 _
        go_wp2_with fail
        rw [HP.out]
        show if _ then _ else _
        rw [if_pos Hy.out]
        exact ⟨_, rfl, by simpa using hown4, hb3.grown hg4 hs3 (fun k h => by simp [Value.ownBlock] at h)⟩
      · have hne : (Crc.U y != Crc.U (Crc.sum t)) = true := by simpa [Crc.U_inj] using he
        have Hy := Lib.hid he
        clear he
        go_wp2_with fail
        rw [HP.out]
        show if _ then _ else _
        rw [if_neg Hy.out]
        exact ⟨rfl, hb3⟩
end Go.Proofs.Ytbbikkncobgabaa
