/-
  code.Writer.Text, U32. By an AI agent.
-/
import Derived.Test.YtbbikkncobgabaaDoorWrEnds
namespace Go.Proofs.YtbbikkncobgabaaDoor
open Go.RowKit

set_option maxRecDepth 100000 in
set_option maxHeartbeats 1000000 in
theorem wtext (b : Nat) (row : Option Nat) (l t : List UInt8) (w : World) (h : Wr w b row l) (hlim : l.length + 10 + t.length ≤ 140737488355328) :
    Calls Tryd.prog 52 #[.pointer (some ⟨b, 0, none⟩), .string (str t)] w (WrEnd b row (l ++ dig 10 t.length ++ t) w) := by
  have hdl := dig_length 10 t.length
  have hsz : (str t).size = t.length := by simp [str, ByteArray.size]
  have hw : IntKind.u64.wrap (t.length : Int) = (t.length : Int) := by rw [IntKind.wrap_u64]; omega
  go_enter Tryd.func52, Tryd.ntmps52
  go_wp2_with fail
  refine (wuint b row l t.length w h (by omega) (by omega)).mono ?_
  rintro e w1 ⟨rfl, row1, h1, hb1⟩
  have hs := hb1.size
  obtain ⟨w2, cap, hrun, hr2, hc2, hb2⟩ := conv_str w1 t
  go_wp2_with fail
  clear hrun
  have hlt1 := h1.lt
  refine (wraw_any b row1 (l ++ dig 10 t.length) t (some ⟨w1.heap.size, 0, none⟩) t.length cap w2 (h1.old hb2) rfl _ hr2 (fun ad e _ => by injection e with e; subst e; simp; omega) (by simp; omega)).mono ?_
  rintro e w3 ⟨rfl, h3⟩
  have h4 := WrEnd.then_ hb1 (WrEnd.after hb2 h3)
  clear h3
  go_wp2_with fail
  go_end0
  exact ⟨rfl, h4⟩

/-- a number's four bytes, the least one first -/
def le32 (x : Nat) : List UInt8 := [UInt8.ofNat x, UInt8.ofNat (x / 256), UInt8.ofNat (x / 65536), UInt8.ofNat (x / 16777216)]

theorem le32_cells (x : Nat) (hx : x < 4294967296) : Lib.byteCells (le32 x) = [.int .u8 ((x : Int) % 256), .int .u8 ((x : Int) / 256 % 256), .int .u8 ((x : Int) / 65536 % 256), .int .u8 ((x : Int) / 16777216)] := by
  have e0 : ((UInt8.ofNat x).toNat : Int) = (x : Int) % 256 := by rw [UInt8.toNat_ofNat']; omega
  have e1 : ((UInt8.ofNat (x / 256)).toNat : Int) = (x : Int) / 256 % 256 := by rw [UInt8.toNat_ofNat']; omega
  have e2 : ((UInt8.ofNat (x / 65536)).toNat : Int) = (x : Int) / 65536 % 256 := by rw [UInt8.toNat_ofNat']; omega
  have e3 : ((UInt8.ofNat (x / 16777216)).toNat : Int) = (x : Int) / 16777216 := by rw [UInt8.toNat_ofNat']; omega
  rw [← e0, ← e1, ← e2, ← e3]
  rfl

set_option maxRecDepth 100000 in
set_option maxHeartbeats 1000000 in
theorem wu32 (b : Nat) (row : Option Nat) (l : List UInt8) (x : Nat) (w : World) (h : Wr w b row l) (hx : x < 4294967296) (hlim : l.length + 4 ≤ 140737488355328) :
    Calls Tryd.prog 50 #[.pointer (some ⟨b, 0, none⟩), .int .u32 (x : Int)] w (WrEnd b row (l ++ le32 x) w) := by
  have hb := h.lt
  have hb0 : Below w.heap.size w (w.alloc (.cells #[.int .u8 ((x : Int) % 256), .int .u8 ((x : Int) / 256 % 256), .int .u8 ((x : Int) / 65536 % 256), .int .u8 ((x : Int) / 16777216)] 5)) := (Below.refl _ w).alloc (Nat.le_refl _) _
  go_enter Tryd.func50, Tryd.ntmps50
  go_wp2_with fail
  refine (wraw_some b row l (le32 x) ⟨w.heap.size, 0, none⟩ 4 4 _ (h.old hb0) rfl (by decide) (by simp; omega) ?_ hlim).mono ?_
  · intro j v hj
    rw [le32_cells x hx] at hj
    exact World.news_of_block (heap_alloc_new w (.cells #[.int .u8 ((x : Int) % 256), .int .u8 ((x : Int) / 256 % 256), .int .u8 ((x : Int) / 65536 % 256), .int .u8 ((x : Int) / 16777216)] 5)) j v hj
  rintro e w1 ⟨rfl, h1⟩
  have h2 := WrEnd.after hb0 h1
  clear h1
  go_wp2_with fail
  go_end0
  exact ⟨rfl, h2⟩

/- a nil writer -/
theorem wu8_nobody (x : Int) (w : World) : Calls Tryd.prog 49 #[.pointer none, .int .u8 x] w fun e w' => e = .returned (.tuple #[]) ∧ Below w.heap.size w w' := by
  go_enter Tryd.func49, Tryd.ntmps49
  go_wp2_with fail
  refine (wraw_nobody _ _ _ _).mono ?_
  rintro e w1 ⟨rfl, rfl⟩
  go_wp2_with fail
  go_end0
  exact ⟨rfl, (Below.refl _ w).alloc (Nat.le_refl _) _⟩
theorem wu32_nobody (x : Nat) (w : World) : Calls Tryd.prog 50 #[.pointer none, .int .u32 (x : Int)] w fun e w' => e = .returned (.tuple #[]) ∧ Below w.heap.size w w' := by
  go_enter Tryd.func50, Tryd.ntmps50
  go_wp2_with fail
  refine (wraw_nobody _ _ _ _).mono ?_
  rintro e w1 ⟨rfl, rfl⟩
  go_wp2_with fail
  go_end0
  exact ⟨rfl, (Below.refl _ w).alloc (Nat.le_refl _) _⟩
theorem wuint_nobody (x : Nat) (w : World) (hx : x < 18446744073709551616) : Calls Tryd.prog 55 #[.pointer none, .int .u64 (x : Int)] w fun e w' => e = .returned (.tuple #[]) ∧ Below w.heap.size w w' := by
  go_enter Tryd.func55, Tryd.ntmps55
  go_wp2_with fail
  refine (digits_any 9 x _ (Nat.lt_of_lt_of_le hx (by decide)) (by decide) hx).mono ?_
  rintro e w1 ⟨v, rfl, hown, hb1⟩
  obtain ⟨A, c, rfl, -⟩ := hown.form
  go_wp2_with fail
  refine (wraw_nobody _ _ _ _).mono ?_
  rintro e w2 ⟨rfl, rfl⟩
  go_wp2_with fail
  go_end0
  exact ⟨rfl, hb1⟩
theorem wtext_nobody (t : List UInt8) (w : World) (ht : t.length < 18446744073709551616) : Calls Tryd.prog 52 #[.pointer none, .string (str t)] w fun e w' => e = .returned (.tuple #[]) ∧ Below w.heap.size w w' := by
  have hsz : (str t).size = t.length := by simp [str, ByteArray.size]
  have hw : IntKind.u64.wrap (t.length : Int) = (t.length : Int) := by rw [IntKind.wrap_u64]; omega
  go_enter Tryd.func52, Tryd.ntmps52
  go_wp2_with fail
  refine (wuint_nobody t.length w ht).mono ?_
  rintro e w1 ⟨rfl, hb1⟩
  have hs := hb1.size
  obtain ⟨w2, cap, hrun, hr2, hc2, hb2⟩ := conv_str w1 t
  have hb3 := hb1.trans (hb2.mono hs)
  go_wp2_with fail
  refine (wraw_nobody _ _ _ _).mono ?_
  rintro e w2 ⟨rfl, rfl⟩
  go_wp2_with fail
  go_end0
  exact ⟨rfl, hb3⟩
end Go.Proofs.YtbbikkncobgabaaDoor
