/-
  scrivenerlaw01.awake: the chapter's examples hold. By an AI agent.
-/
import Derived.Test.YtbbikkncobgabaaRefOpen
namespace Go.Proofs.Ytbbikkncobgabaa
open Go.RowKit

theorem sum_none : Crc.U (Crc.sum []) = 0 := by decide +kernel
theorem sum_digits : Crc.U (Crc.sum [49, 50, 51, 52, 53, 54, 55, 56, 57]) = 3808858755 := by decide +kernel
theorem sum_zeros : Crc.U (Crc.sum (List.replicate 32 0)) = 2324772522 := by decide +kernel
theorem shut_ab : Crc.shut [97, 98] = [97, 98, 54, 41, 162, 226] := by decide +kernel
theorem sum_ab : 3802278198#32 = Crc.sum [97, 98] := by decide +kernel
theorem four_ab : [97, 98] ++ Crc.le4 3802278198#32 = [97, 98, 54, 41, 162, 226] := by decide +kernel
theorem four_ab' : [97, 98] ++ Crc.le4 1654794550#32 = [97, 98, 54, 41, 162, 98] := by decide +kernel
theorem sum_ab' : ¬ 1654794550#32 = Crc.sum [97, 98] := by decide +kernel
theorem shut_none : Crc.shut [] = [0, 0, 0, 0] := by decide +kernel
theorem four_none : [] ++ Crc.le4 0#32 = [0, 0, 0, 0] := by decide +kernel
theorem sum_none' : 0#32 = Crc.sum [] := by decide +kernel
theorem make32 (w : World) : (Instr.makeSlice 23 (.int .i64 32) (.int .i64 32)).run Try.prog w =
    .ok (.slice (some ⟨w.heap.size, 0, none⟩) 32 32) (w.alloc (.cells (Lib.byteCells (List.replicate 32 0)).toArray 5)) := by kernel_rfl

set_option maxRecDepth 100000 in
set_option maxHeartbeats 4000000 in
theorem awake_any (w : World) :
    Calls Try.prog 8 #[] w fun e w' => e = .returned (.bool true) ∧ Below w.heap.size w w' := by
  have kc := conv_const
  go_enter Try.func8, Try.ntmps8
  go_wp2_with fail
  refine (shut_any _ 2 [97, 98] _ (by decide) (by decide) (w.heap.size + 1) (by simp) (Reads.laid w (Lib.byteCells [97, 98]).toArray _)).mono ?_
  rintro e w1 ⟨v1, rfl, hown1, hb1⟩
  have hb : Below w.heap.size w w1 := ((Below.refl _ w).alloc (Nat.le_refl _) _).trans (hb1.mono (by simp))
  replace hown1 := hown1.more (show w.heap.size ≤ (w.alloc (.cells (Lib.byteCells [97, 98]).toArray 5 (2, 3))).heap.size by simp)
  rw [shut_ab] at hown1
  obtain ⟨g, cap, rfl, hcap, _, _, _, _⟩ := hown1.row (by decide)
  have hs1 := hb.size
  have hn6 : ([97, 98, 54, 41, 162, 226] : List UInt8).length = 6 := rfl
  rw [hn6] at hcap hown1 ⊢
  clear hb1 hn6
  go_wp2_with fail
  have hr1 := hown1.form
  obtain ⟨A1, c1, e1, _, _, hr1⟩ := hr1
  injection e1 with e1 _ e3
  subst e1 e3
  refine (open_four _ _ [97, 98] 3802278198#32 w1 (by decide) hcap (by rw [four_ab]; exact hr1)).mono ?_
  rintro e w2 hy
  rw [if_pos sum_ab] at hy
  obtain ⟨v2, rfl, hown2, hb2⟩ := hy
  replace hown1 := hown1.below hb2
  replace hb := hb.trans (hb2.mono hs1)
  have hs2 := hb.size
  obtain ⟨A2, c2, rfl, _, _, _⟩ := hown2.form
  clear hb2 hr1
  have hc5 := hown1.cell 5 (by decide)
  have hf5 := hown1.free (by decide) 5
  have hx5 : bits .xor .u8 226 128 = 98 := by decide
  go_wp2_with fail
  have hown3 : Owns (w2.setCell ⟨g, 5, none⟩ (.int .u8 98)) w.heap.size (.slice (some ⟨g, 0, none⟩) 6 cap) [97, 98, 54, 41, 162, 98] := hown1.stored 5 98
  have hb3 : Below w.heap.size w (w2.setCell ⟨g, 5, none⟩ (.int .u8 98)) := hb.setCell hown1.blk.1 _
  have hown2' : Owns (w2.setCell ⟨g, 5, none⟩ (.int .u8 98)) w1.heap.size (.slice A2 2 c2) [97, 98] := ownsRow_setCell_below hown2 (by assumption) _
  generalize w2.setCell ⟨g, 5, none⟩ (.int .u8 98) = w3 at hown3 hb3 hown2' ⊢
  clear hown1 hown2 hb hs2 hc5 hf5
  have hs3 := hb3.size
  obtain ⟨A1, c1, e1, _, _, hr3⟩ := hown3.form
  injection e1 with e1 _ e3
  subst e1 e3
  refine (open_four _ _ [97, 98] 1654794550#32 w3 (by decide) hcap (by rw [four_ab']; exact hr3)).mono ?_
  rintro e w4 hy
  rw [if_neg sum_ab'] at hy
  obtain ⟨rfl, hb4⟩ := hy
  have hown4 := hown2'.below hb4
  have hb := hb3.trans (hb4.mono hs3)
  have hs4 := hb.size
  clear hb4 hown2' hown3 hr3 hb3
  go_wp2_with fail
  refine (shut_any none 0 [] w4 (by decide) (by decide) 0 (Nat.zero_le _) Reads.none_).mono ?_
  rintro e w5 ⟨v5, rfl, hown5, hb5⟩
  rw [shut_none] at hown5
  obtain ⟨A5, c5, rfl, hcc5, _, hr5⟩ := hown5.form
  have hown6 := hown4.below hb5
  have hb6 := hb.trans (hb5.mono hs4)
  have hs6 := hb6.size
  clear hb5 hown4 hb hown5
  go_wp2_with fail
  refine (open_four _ _ [] 0#32 w5 (by decide) hcc5 (by rw [four_none]; exact hr5)).mono ?_
  rintro e w6 hy
  rw [if_pos sum_none'] at hy
  obtain ⟨v6, rfl, _, hb7⟩ := hy
  have hown7 := hown6.below hb7
  have hb8 := hb6.trans (hb7.mono hs6)
  have hs8 := hb8.size
  clear hb7 hown6 hb6 hr5
  go_wp2_with fail
  refine (open_short _ _ [97, 98, 99] _ (by decide)).mono ?_
  rintro e w7 ⟨rfl, hb9⟩
  have hb10 : Below w6.heap.size w6 w7 := ((Below.refl _ w6).alloc (Nat.le_refl _) _).trans (hb9.mono (by simp))
  have hown10 := hown7.below hb10
  have hb11 := hb8.trans (hb10.mono hs8)
  have hs11 := hb11.size
  clear hb9 hb10 hown7 hb8
  go_wp2_with fail
  refine (sum_of none 0 0 [] [] w7 (by simp [maxLen]) 0 (Nat.zero_le _) Reads.none_ (Parts.nil _ _)).mono ?_
  rintro e w8 ⟨rfl, hb12⟩
  rw [show ([] : List (List UInt8)).flatten = [] from rfl, sum_none]
  have hown12 := hown10.below hb12
  have hb13 := hb11.trans (hb12.mono hs11)
  have hs13 := hb13.size
  clear hb12 hown10 hb11
  go_wp2_with fail
  refine (sum_of _ 3 3 [.slice (some ⟨w8.heap.size, 0, none⟩) 4 4, .slice none 0 0, .slice (some ⟨w8.heap.size + 1, 0, none⟩) 5 5] [[49, 50, 51, 52], [], [53, 54, 55, 56, 57]] _ (by simp [maxLen]) (w8.heap.size + 3) (by simp) ?_ ?_).mono ?_
  · exact Reads.laidAt _ (w8.heap.size + 2) #[.slice (some ⟨w8.heap.size, 0, none⟩) 4 4, .slice none 0 0, .slice (some ⟨w8.heap.size + 1, 0, none⟩) 5 5] 23 (by simp)
  · refine Parts.cons (l := [49, 50, 51, 52]) (by decide) (by simp [maxLen]) ?_ (Parts.cons (l := []) (by decide) (by simp [maxLen]) Reads.none_ (Parts.cons (l := [53, 54, 55, 56, 57]) (by decide) (by simp [maxLen]) ?_ (Parts.nil _ _)))
    · exact ((((Reads.laid w8 (Lib.byteCells [49, 50, 51, 52]).toArray 5).alloc (by simp) _).alloc (by simp) _).more (by omega))
    · exact (((Reads.laidAt _ (w8.heap.size + 1) (Lib.byteCells [53, 54, 55, 56, 57]).toArray 5 (by simp)).alloc (by simp) _).more (by omega))
  rintro e w9 ⟨rfl, hb14⟩
  have hb15 : Below w8.heap.size w8 w9 := ((((Below.refl _ w8).alloc (Nat.le_refl _) _).alloc (by simp) _).alloc (by simp; omega) _).trans (hb14.mono (by simp; omega))
  rw [show ([[49, 50, 51, 52], [], [53, 54, 55, 56, 57]] : List (List UInt8)).flatten = [49, 50, 51, 52, 53, 54, 55, 56, 57] from rfl, sum_digits]
  have hown15 := hown12.below hb15
  have hb16 := hb13.trans (hb15.mono hs13)
  have hs16 := hb16.size
  clear hb15 hb14 hown12 hb13
  have hmk := make32
  go_wp2_with fail
  refine (sum_of _ 1 1 [.slice (some ⟨w9.heap.size, 0, none⟩) 32 32] [List.replicate 32 0] _ (by simp [maxLen]) (w9.heap.size + 2) (by simp) ?_ ?_).mono ?_
  · exact Reads.laidAt _ (w9.heap.size + 1) #[.slice (some ⟨w9.heap.size, 0, none⟩) 32 32] 23 (by simp)
  · refine Parts.cons (l := List.replicate 32 0) (by decide) (by simp [maxLen]) ?_ (Parts.nil _ _)
    exact ((Reads.laid w9 (Lib.byteCells (List.replicate 32 0)).toArray 5).alloc (by simp) _).more (by omega)
  rintro e w10 ⟨rfl, hb17⟩
  have hb18 : Below w9.heap.size w9 w10 := (((Below.refl _ w9).alloc (Nat.le_refl _) _).alloc (by simp) _).trans (hb17.mono (by simp; omega))
  rw [show ([List.replicate 32 0] : List (List UInt8)).flatten = List.replicate 32 0 from rfl, sum_zeros]
  have hown18 := hown15.below hb18
  have hb19 := hb16.trans (hb18.mono hs16)
  clear hb18 hb17 hown15 hb16 hmk
  obtain ⟨A1, c1, e1, _, _, hr18⟩ := hown18.form
  injection e1 with e1 _ e3
  subst e1 e3
  have hcv := conv_bytes w10 _ A2 2 c2 [97, 98] rfl hr18
  have hst : str [97, 98] = { data := #[97, 98] } := rfl
  rw [hst] at hcv
  go_wp2_with fail
  go_ret
  exact ⟨rfl, hb19⟩
end Go.Proofs.Ytbbikkncobgabaa
