/-
  The walks of the sum's smallest functions: Reverse8, Reverse32, the two closures over the register. By an AI agent.
-/
import Derived.Test.YtbbikkncobgabaaChecked
import Derived.Test.YtbbikkncobgabaaBits
import Derived.OwnWalk
import Derived.StillTailTactics
import Derived.Deep.LoopGhost
import Derived.WalkLawsBesides
import Derived.WalkSpells
import Derived.Below
namespace Go.Proofs.Ytbbikkncobgabaa
open Go.RowKit

theorem byte_hi (c : UInt8) : (c.toNat : Int) ≤ 255 := by have := c.toNat_lt; omega
theorem byte_lo (c : UInt8) : 0 ≤ (c.toNat : Int) := by omega

/-- the library's table of turned bytes -/
def revTab : ByteArray := ⟨#[0, 128, 64, 192, 32, 160, 96, 224, 16, 144, 80, 208, 48, 176, 112, 240, 8, 136, 72, 200, 40, 168, 104, 232, 24, 152, 88, 216, 56, 184, 120, 248, 4, 132, 68, 196, 36, 164, 100, 228, 20, 148, 84, 212, 52, 180, 116, 244, 12, 140, 76, 204, 44, 172, 108, 236, 28, 156, 92, 220, 60, 188, 124, 252, 2, 130, 66, 194, 34, 162, 98, 226, 18, 146, 82, 210, 50, 178, 114, 242, 10, 138, 74, 202, 42, 170, 106, 234, 26, 154, 90, 218, 58, 186, 122, 250, 6, 134, 70, 198, 38, 166, 102, 230, 22, 150, 86, 214, 54, 182, 118, 246, 14, 142, 78, 206, 46, 174, 110, 238, 30, 158, 94, 222, 62, 190, 126, 254, 1, 129, 65, 193, 33, 161, 97, 225, 17, 145, 81, 209, 49, 177, 113, 241, 9, 137, 73, 201, 41, 169, 105, 233, 25, 153, 89, 217, 57, 185, 121, 249, 5, 133, 69, 197, 37, 165, 101, 229, 21, 149, 85, 213, 53, 181, 117, 245, 13, 141, 77, 205, 45, 173, 109, 237, 29, 157, 93, 221, 61, 189, 125, 253, 3, 131, 67, 195, 35, 163, 99, 227, 19, 147, 83, 211, 51, 179, 115, 243, 11, 139, 75, 203, 43, 171, 107, 235, 27, 155, 91, 219, 59, 187, 123, 251, 7, 135, 71, 199, 39, 167, 103, 231, 23, 151, 87, 215, 55, 183, 119, 247, 15, 143, 79, 207, 47, 175, 111, 239, 31, 159, 95, 223, 63, 191, 127, 255]⟩

set_option maxRecDepth 100000 in
theorem revTab_get (c : UInt8) (h : c.toNat < revTab.size) : (revTab[c.toNat]'h).toNat = Crc.rev c := by
  have all : ∀ j : Fin 256, (revTab[j.val]'j.isLt).toNat = (BitVec.ofNat 8 j.val).reverse.toNat := by decide +kernel
  refine (all ⟨c.toNat, c.toNat_lt⟩).trans ?_
  unfold Crc.rev
  congr 2
  exact (BitVec.eq_of_toNat_eq (by rw [BitVec.toNat_ofNat, UInt8.toNat_toBitVec]; exact Nat.mod_eq_of_lt c.toNat_lt))

set_option maxRecDepth 100000 in
theorem reverse8 (c : UInt8) (w : World) :
    Calls Try.prog 18 #[.int .u8 (c.toNat : Int)] w fun e w' => e = .returned (.int .u8 (Crc.rev c : Int)) ∧ w' = w := by
  have h0 := byte_lo c
  have h1 := byte_hi c
  go_enter Try.func18, Try.ntmps18
  go_wp2
  go_ret
  refine ⟨?_, rfl⟩
  rw [← revTab_get c c.toNat_lt]
  simp [revTab]

theorem reverseBytes32 (x : Int) (w : World) :
    Calls Try.prog 21 #[.int .u32 x] w fun e w' => e = .returned (.int .u32 (Crc.rb32 x)) ∧ w' = w := by
  go_enter Try.func21, Try.ntmps21
  go_wp2
  go_ret
  exact ⟨rfl, rfl⟩

theorem reverse32 (X : BitVec 32) (w : World) :
    Calls Try.prog 20 #[.int .u32 (Crc.U X)] w fun e w' => e = .returned (.int .u32 (Crc.U X.reverse)) ∧ w' = w := by
  have h0 := Crc.U_lo X
  have h1 := Crc.U_hi X
  go_enter Try.func20, Try.ntmps20
  go_wp2_with fail
  refine (reverseBytes32 (Crc.sw 16 252645135 (Crc.sw 4 858993459 (Crc.sw 2 1431655765 (Crc.U X)))) _).mono ?_
  rintro e w' ⟨rfl, rfl⟩
  go_wp2
  go_ret
  exact ⟨by rw [← Crc.r32_U]; rfl, rfl⟩

theorem setCell_twice (w : World) (b o : Nat) (v v' : Value) : (w.setCell ⟨b, o, none⟩ v).setCell ⟨b, o, none⟩ v' = w.setCell ⟨b, o, none⟩ v' := by
  simp only [World.setCell]
  congr 1
  apply Array.ext_getElem?
  intro i
  simp only [Array.getElem?_modify]
  split
  · cases hw : w.heap[i]? with
    | none => rfl
    | some o => cases o <;> simp
  · rfl

/-- THE HAND: a byte is fed to the register -/
theorem hand_any (c : UInt8) (X : BitVec 32) (b : Nat) (w : World) (hb : w.heap[b]? = some (.cells #[.int .u32 (Crc.U X)] 25 (0, 0))) :
    Calls Try.prog 17 #[.int .u8 (c.toNat : Int), .pointer (some ⟨b, 0, none⟩)] w fun e w' =>
      e = .returned (.tuple #[]) ∧ (w.setCell ⟨b, 0, none⟩ (.int .u32 (Crc.U (Crc.run X (Crc.bits8 c))))).drew = w' := by
  have hc := cell_of_one hb
  have hf := free_of_one hb
  have h0 := byte_lo c
  have h1 := byte_hi c
  have x0 := Crc.U_lo X
  have x1 := Crc.U_hi X
  have r1 : (Crc.rev c : Int) ≤ 255 := by have := Crc.rev_lt c; omega
  have r0 : 0 ≤ (Crc.rev c : Int) := by omega
  go_enter Try.func17, Try.ntmps17
  go_wp2_with fail
  go_still_tail 6, (by kernel_rfl)
  still_call (reverse8 _ _)
  repeat still_step
  refine wpStill_nil ?_
  change wpList _ _ _ _ _ w.drew
  go_wp2
  go_loopw [10] (fun i wr => ∃ k : Nat, k ≤ 8 ∧ i = .int .i64 k ∧ wr = (w.setCell ⟨b, 0, none⟩ (.int .u32 (Crc.U (Crc.LL k (X ^^^ Crc.at24 c))))).drew) (fun i _ => 8 - (intOf i).toNat)
  case atStart =>
    refine ⟨0, by omega, rfl, ?_⟩
    rw [Crc.in_U]
    rfl
  case round =>
    obtain ⟨k, hk, rfl, rfl⟩ := hrel
    have l0 := Crc.U_lo (Crc.LL k (X ^^^ Crc.at24 c))
    have l1 := Crc.U_hi (Crc.LL k (X ^^^ Crc.at24 c))
    by_cases hlt : k < 8
    · go_wp2
      go_roundw
      case rel =>
        refine ⟨k + 1, by omega, by go_num, ?_⟩
        rw [Crc.step_U, Crc.LL_succ, setCell_twice]
      case measure => simp [intOf]; omega
    · go_wp2
      go_end0
      obtain rfl : k = 8 := by omega
      exact ⟨rfl, by rw [Crc.feed]⟩

/-- what is left -/
theorem left_any (X : BitVec 32) (b : Nat) (w : World) (hb : w.heap[b]? = some (.cells #[.int .u32 (Crc.U X)] 25 (0, 0))) :
    Calls Try.prog 19 #[.pointer (some ⟨b, 0, none⟩)] w fun e w' =>
      e = .returned (.int .u32 (Crc.U (~~~ X.reverse))) ∧ w = w' := by
  have hc := cell_of_one hb
  go_enter Try.func19, Try.ntmps19
  go_wp2_with fail
  refine (reverse32 _ _).mono ?_
  rintro e w' ⟨rfl, rfl⟩
  go_wp2
  go_ret
  refine ⟨?_, rfl⟩
  show Ending.returned (Value.int IntKind.u32 (bits BinOp.xor IntKind.u32 IntKind.u32.max (Crc.U X.reverse))) = _
  rw [show IntKind.u32.max = 4294967295 from rfl, Crc.bits_xor_max]

theorem hands_any (w : World) :
    Calls Try.prog 15 #[] w fun e w' =>
      e = .returned (.tuple #[.func (.func 17) #[] #[.pointer (some ⟨w.heap.size, 0, none⟩)], .func (.func 19) #[] #[.pointer (some ⟨w.heap.size, 0, none⟩)]]) ∧
      w.alloc (.cells #[.int .u32 (Crc.U Crc.ones)] 25) = w' := by
  have hmf : ∀ (fn : Fn) (first cap : Array Value) (w : World), (Instr.makeFunc fn first cap).run Try.prog w = .ok (.func fn first cap) w := fun _ _ _ _ => rfl
  go_enter Try.func15, Try.ntmps15
  go_wp2
  go_ret2
  exact ⟨rfl, by rw [Crc.U_ones]⟩

theorem places_any (w : World) :
    Calls Try.prog 16 #[] w fun e w' =>
      e = .returned (.agg #[.int .i64 0, .int .i64 8, .int .i64 16, .int .i64 24]) ∧ Below w.heap.size w w' := by
  go_enter Try.func16, Try.ntmps16
  go_wp2
  exact bodyPost_ret (v := .agg #[.int .i64 0, .int .i64 8, .int .i64 16, .int .i64 24]) (by simp [results, Try.results16, go_sem]) rfl ⟨rfl, (Below.refl _ _).alloc (Nat.le_refl _) _⟩
end Go.Proofs.Ytbbikkncobgabaa
