/-
  scrivenerlaw02.awake answers true. By an AI agent.
-/
import Derived.Test.YtbbikkncobgabaaDoorWPut
import Derived.Test.YtbbikkncobgabaaDoorRdB
namespace Go.Proofs.YtbbikkncobgabaaDoor
open Go.RowKit

theorem wstep {w w1 w2 : World} {b : Nat} {row : Option Nat} {l : List UInt8} (hb : Below w.heap.size w w1) (hB : w.heap.size ≤ b) (hr : ∀ g, row = some g → w.heap.size ≤ g) (h : ∃ row', Wr w2 b row' l ∧ Wrote b row row' w1 w2) :
    ∃ row', Wr w2 b row' l ∧ Below w.heap.size w w2 ∧ ∀ g, row' = some g → w.heap.size ≤ g := by
  obtain ⟨row', h1, h2⟩ := h
  exact ⟨row', h1, hb.trans (h2.below hB hr hb.size), h2.newRow hr hb.size⟩

theorem RdB.weaken {w : World} {lo lo' R : Nat} {l : List UInt8} {p : Nat} {bad : Bool} (h : RdB w lo R l p bad) (hl : lo' ≤ lo) : RdB w lo' R l p bad := by
  obtain ⟨h0, A, cap, h1, h2, h3, h4, h5, h6, h7⟩ := h
  exact ⟨by omega, A, cap, h1, h2, h3, h4, h5, h6, fun ad e h => by have := h7 ad e h; omega⟩
theorem RdB.old {w w' : World} {lo R : Nat} {l : List UInt8} {p : Nat} {bad : Bool} (h : RdB w lo R l p bad) (hb : Below w.heap.size w w') : RdB w' lo R l p bad := h.kept (row := none) (only_of_below hb none) (by simp)

def maxU : Nat := 18446744073709551615
theorem digs_three : digs [127, 128, maxU] = [127, 128, 1, 255, 255, 255, 255, 255, 255, 255, 255, 255, 1] := by decide +kernel
theorem digs_two : digs [3, 2] = [3, 2] := by decide +kernel
theorem le32_one : le32 1 = [1, 0, 0, 0] := by decide +kernel
theorem dig_two : dig 10 2 = [2] := by decide +kernel
theorem num_a : num 0 0 [129, 128, 0] = none := by decide +kernel
theorem num_b : num 0 0 [129, 0] = none := by decide +kernel
theorem text_c : text 2 [2, 97, 98, 99] = some (1, 2) := by decide +kernel
theorem text_d : text 1 [2, 97, 98, 99] = none := by decide +kernel

theorem row_three (w : World) (x y z : Nat) (t : TypeId) (v : Value) (hv : v = .int .u64 (z : Int)) : ∀ (j u : Nat), [x, y, z][j]? = some u → (w.alloc (.cells #[.int .u64 x, .int .u64 y, v] t)).cell? ((⟨w.heap.size, 0, none⟩ : Addr).add j) = some (.int .u64 (u : Int)) := by
  intro j u hj
  subst hv
  have h := World.news_of_block (heap_alloc_new w (.cells #[.int .u64 x, .int .u64 y, .int .u64 z] t)) j (.int .u64 (u : Int))
  refine h ?_
  match j, hj with
  | 0, hj => simp at hj; subst hj; rfl
  | 1, hj => simp at hj; subst hj; rfl
  | 2, hj => simp at hj; subst hj; rfl
  | j + 3, hj => simp at hj
theorem row_two (w : World) (x y : Nat) (t : TypeId) : ∀ (j u : Nat), [x, y][j]? = some u → (w.alloc (.cells #[.int .u64 x, .int .u64 y] t)).cell? ((⟨w.heap.size, 0, none⟩ : Addr).add j) = some (.int .u64 (u : Int)) := by
  intro j u hj
  have h := World.news_of_block (heap_alloc_new w (.cells #[.int .u64 x, .int .u64 y] t)) j (.int .u64 (u : Int))
  refine h ?_
  match j, hj with
  | 0, hj => simp at hj; subst hj; rfl
  | 1, hj => simp at hj; subst hj; rfl
  | j + 2, hj => simp at hj

set_option maxRecDepth 100000 in
set_option maxHeartbeats 4000000 in
theorem awake_any (w : World) :
    Calls Tryd.prog 15 #[] w fun e w' => e = .returned (.bool true) ∧ Below w.heap.size w w' := by
  go_enter Tryd.func15, Tryd.ntmps15
  go_wp2_with fail
  refine (wnew_any w).mono ?_
  rintro e w1 ⟨rfl, h1, hb1⟩
  have hr0 : ∀ g, (none : Option Nat) = some g → w.heap.size ≤ g := fun g e => by cases e
  go_wp2_with fail
  have c1 := wu8 w.heap.size none [] 200 w1 h1 (by decide)
  rw [show (((200 : UInt8).toNat : Nat) : Int) = 200 from rfl, List.nil_append] at c1
  refine c1.mono ?_
  clear c1
  rintro e w2 ⟨rfl, h2⟩
  obtain ⟨r2, h2, hb2, hr2⟩ := wstep hb1 (Nat.le_refl _) hr0 h2
  clear h1 hb1 hr0
  go_wp2_with fail
  refine (wu32 w.heap.size r2 _ 1 w2 h2 (by decide) (by decide)).mono ?_
  rintro e w3 ⟨rfl, h3⟩
  obtain ⟨r3, h3, hb3, hr3⟩ := wstep hb2 (Nat.le_refl _) hr2 h3
  clear h2 hb2 hr2
  rw [le32_one] at h3
  go_wp2_with fail
  have hs3 := hb3.size
  have hb4 : Below w.heap.size w (w3.alloc (.cells #[.int .u64 127, .int .u64 128, .int .u64 18446744073709551615] 34)) := hb3.alloc hs3 _
  refine (wput w.heap.size r3 _ [127, 128, maxU] ⟨w3.heap.size, 0, none⟩ 3 3 _ (h3.old ((Below.refl _ _).alloc (Nat.le_refl _) _)) rfl (by decide +kernel) ?_ (by simp) ?_ ?_ (by decide)).mono ?_
  · exact row_three w3 127 128 maxU _ (.int .u64 18446744073709551615) rfl
  · have := h3.lt; simp; omega
  · intro e; have := h3.rowLt _ e.symm; simp at this
  rintro e w5 ⟨rfl, h5⟩
  obtain ⟨r5, h5, hb5, hr5⟩ := wstep hb4 (Nat.le_refl _) hr3 h5
  clear h3 hb3 hr3 hb4 hs3
  rw [digs_three] at h5
  go_wp2_with fail
  refine (wtext w.heap.size r5 _ [195, 169] w5 h5 (by decide)).mono ?_
  rintro e w6 ⟨rfl, h6⟩
  obtain ⟨r6, h6, hb6, hr6⟩ := wstep hb5 (Nat.le_refl _) hr5 h6
  clear h5 hb5 hr5
  rw [show ([195, 169] : List UInt8).length = 2 from rfl, dig_two] at h6
  go_wp2_with fail
  refine (wraw_none none 0 w.heap.size r6 _ w6 h6).mono ?_
  rintro e w7 ⟨rfl, h7⟩
  obtain ⟨r7, h7, hb7, hr7⟩ := wstep hb6 (Nat.le_refl _) hr6 h7
  clear h6 hb6 hr6
  go_wp2_with fail
  have hs7 := hb7.size
  have hb8 : Below w.heap.size w (w7.alloc (.cells #[.int .u64 3, .int .u64 2] 34)) := hb7.alloc hs7 _
  refine (wput w.heap.size r7 _ [3, 2] ⟨w7.heap.size, 0, none⟩ 2 2 _ (h7.old ((Below.refl _ _).alloc (Nat.le_refl _) _)) rfl (by decide +kernel) ?_ (by simp) ?_ ?_ (by decide)).mono ?_
  · exact row_two w7 3 2 _
  · have := h7.lt; simp; omega
  · intro e; have := h7.rowLt _ e.symm; simp at this
  rintro e w9 ⟨rfl, h9⟩
  obtain ⟨r9, h9, hb9, -⟩ := wstep hb8 (Nat.le_refl _) hr7 h9
  clear h7 hb7 hr7 hb8 hs7
  rw [digs_two] at h9
  replace h9 : Wr w9 w.heap.size r9 [200, 1, 0, 0, 0, 127, 128, 1, 255, 255, 255, 255, 255, 255, 255, 255, 255, 1, 2, 195, 169, 3, 2] := h9
  have hs9 := hb9.size
  go_wp2_with fail
  -- the readers
  refine (newReaderB_any _ 3 3 [129, 128, 0] _ rfl (by decide) (by decide) (fun e => by cases e) (w9.heap.size + 1) (by simp) (Reads.laid w9 (Lib.byteCells [129, 128, 0]).toArray _)).mono ?_
  rintro e w10 ⟨Ra, rfl, hA, hb10⟩
  have hb11 : Below w9.heap.size w9 w10 := ((Below.refl _ w9).alloc (Nat.le_refl _) _).trans (hb10.mono (by simp))
  have hA0 : w.heap.size ≤ Ra := by have := hA.1; simp at this; omega
  have h10 := h9.old hb11
  have hb12 := hb9.trans (hb11.mono hs9)
  have hs12 := hb12.size
  clear h9 hb9 hs9 hb10 hb11
  go_wp2_with fail
  have hss10 : w.heap.size ≤ w10.heap.size := hs12
  have hA10 : RdB w10 w9.heap.size Ra [129, 128, 0] 0 false := hA.weaken (by simp)
  clear hA
  refine (newReaderB_any _ 2 2 [129, 0] _ rfl (by decide) (by decide) (fun e => by cases e) (w10.heap.size + 1) (by simp) (Reads.laid w10 (Lib.byteCells [129, 0]).toArray _)).mono ?_
  rintro e w11 ⟨Rb, rfl, hX, hbr⟩
  have hbs : Below w10.heap.size w10 w11 := ((Below.refl _ w10).alloc (Nat.le_refl _) _).trans (hbr.mono (by simp))
  have hB11 : RdB w11 w10.heap.size Rb [129, 0] 0 false := hX.weaken (by simp)
  have hA11 := hA10.old hbs
  have hss11 : w10.heap.size ≤ w11.heap.size := hbs.size
  have hloB : w10.heap.size ≤ Rb := hB11.1
  have hltA : Ra < w10.heap.size := hA10.rd.lt
  have hW11 := h10.old hbs
  have hbw11 := hb12.trans (hbs.mono hs12)
  have hsw11 := hbw11.size
  clear h10 hb12 hs12 hbr hbs hX hA10
  go_wp2_with fail
  refine (newReaderB_any _ 4 4 [2, 97, 98, 99] _ rfl (by decide) (by decide) (fun e => by cases e) (w11.heap.size + 1) (by simp) (Reads.laid w11 (Lib.byteCells [2, 97, 98, 99]).toArray _)).mono ?_
  rintro e w12 ⟨Rc, rfl, hX, hbr⟩
  have hbs : Below w11.heap.size w11 w12 := ((Below.refl _ w11).alloc (Nat.le_refl _) _).trans (hbr.mono (by simp))
  have hC12 : RdB w12 w11.heap.size Rc [2, 97, 98, 99] 0 false := hX.weaken (by simp)
  have hA12 := hA11.old hbs
  have hB12 := hB11.old hbs
  have hss12 : w11.heap.size ≤ w12.heap.size := hbs.size
  have hloC : w11.heap.size ≤ Rc := hC12.1
  have hltB : Rb < w11.heap.size := hB11.rd.lt
  have hW12 := hW11.old hbs
  have hbw12 := hbw11.trans (hbs.mono hsw11)
  have hsw12 := hbw12.size
  clear hW11 hbw11 hsw11 hbr hbs hX hA11 hB11
  go_wp2_with fail
  refine (newReaderB_any _ 4 4 [2, 97, 98, 99] _ rfl (by decide) (by decide) (fun e => by cases e) (w12.heap.size + 1) (by simp) (Reads.laid w12 (Lib.byteCells [2, 97, 98, 99]).toArray _)).mono ?_
  rintro e w13 ⟨Rd, rfl, hX, hbr⟩
  have hbs : Below w12.heap.size w12 w13 := ((Below.refl _ w12).alloc (Nat.le_refl _) _).trans (hbr.mono (by simp))
  have hD13 : RdB w13 w12.heap.size Rd [2, 97, 98, 99] 0 false := hX.weaken (by simp)
  have hA13 := hA12.old hbs
  have hB13 := hB12.old hbs
  have hC13 := hC12.old hbs
  have hss13 : w12.heap.size ≤ w13.heap.size := hbs.size
  have hloD : w12.heap.size ≤ Rd := hD13.1
  have hltC : Rc < w12.heap.size := hC12.rd.lt
  have hW13 := hW12.old hbs
  have hbw13 := hbw12.trans (hbs.mono hsw12)
  have hsw13 := hbw13.size
  clear hW12 hbw12 hsw12 hbr hbs hX hA12 hB12 hC12
  go_wp2_with fail
  refine (newReaderB_any _ 1 1 [5] _ rfl (by decide) (by decide) (fun e => by cases e) (w13.heap.size + 1) (by simp) (Reads.laid w13 (Lib.byteCells [5]).toArray _)).mono ?_
  rintro e w14 ⟨Re, rfl, hX, hbr⟩
  have hbs : Below w13.heap.size w13 w14 := ((Below.refl _ w13).alloc (Nat.le_refl _) _).trans (hbr.mono (by simp))
  have hE14 : RdB w14 w13.heap.size Re [5] 0 false := hX.weaken (by simp)
  have hA14 := hA13.old hbs
  have hB14 := hB13.old hbs
  have hC14 := hC13.old hbs
  have hD14 := hD13.old hbs
  have hss14 : w13.heap.size ≤ w14.heap.size := hbs.size
  have hloE : w13.heap.size ≤ Re := hE14.1
  have hltD : Rd < w13.heap.size := hD13.rd.lt
  have hW14 := hW13.old hbs
  have hbw14 := hbw13.trans (hbs.mono hsw13)
  have hsw14 := hbw14.size
  clear hW13 hbw13 hsw13 hbr hbs hX hA13 hB13 hC13 hD13
  go_wp2_with fail
  refine (wbytes w.heap.size r9 _ w14 hW14 (by decide)).mono ?_
  rintro e w20 ⟨v, rfl, hown, hbb⟩
  have hA20 := hA14.old hbb
  have hB20 := hB14.old hbb
  have hC20 := hC14.old hbb
  have hD20 := hD14.old hbb
  have hE20 := hE14.old hbb
  have hW20 := hW14.old hbb
  have hb20 := hbw14.trans (hbb.mono hsw14)
  have hs20 := hb20.size
  have hcv := hown.conv
  rw [show str [200, 1, 0, 0, 0, 127, 128, 1, 255, 255, 255, 255, 255, 255, 255, 255, 255, 1, 2, 195, 169, 3, 2] = { data := #[200, 1, 0, 0, 0, 127, 128, 1, 255, 255, 255, 255, 255, 255, 255, 255, 255, 1, 2, 195, 169, 3, 2] } from rfl] at hcv
  clear hW14 hbw14 hsw14 hbb hown hA14 hB14 hC14 hD14 hE14
  go_wp2_with fail
  clear hcv
  refine (wlen w.heap.size r9 _ w20 hW20).mono ?_
  rintro e w21 ⟨rfl, k21, rfl⟩
  rw [show ([200, 1, 0, 0, 0, 127, 128, 1, 255, 255, 255, 255, 255, 255, 255, 255, 255, 1, 2, 195, 169, 3, 2] : List UInt8).length = 23 from rfl]
  have hg21 : w20.grownBy (w20.drewN k21) none := only_drewN (World.grownBy.refl _ _) _
  have hA21 := hA20.kept hg21 (by simp)
  have hB21 := hB20.kept hg21 (by simp)
  have hC21 := hC20.kept hg21 (by simp)
  have hD21 := hD20.kept hg21 (by simp)
  have hE21 := hE20.kept hg21 (by simp)
  have hb21 := below_drewN hb20 k21
  generalize w20.drewN k21 = w21 at *
  clear hW20 hb20 hs20 hg21 hA20 hB20 hC20 hD20 hE20
  go_wp2_with fail
  have hRa := hA0
  have hX := hA21.rd
  clear hA21
  refine (uint_no Ra _ 0 _ hX num_a (by decide)).mono ?_
  rintro e w22 ⟨hg, ⟨_, _, e1, _⟩ | ⟨-, rfl, hX2⟩⟩
  · cases e1
  clear hX
  have hB22 := hB21.kept hg (by intro k e; injection e with e; omega)
  have hC22 := hC21.kept hg (by intro k e; injection e with e; omega)
  have hD22 := hD21.kept hg (by intro k e; injection e with e; omega)
  have hE22 := hE21.kept hg (by intro k e; injection e with e; omega)
  have hb22 := hb21.grown hg hb21.size (by intro k e; injection e with e; omega)
  clear hb21 hg hB21 hC21 hD21 hE21
  go_wp2_with fail
  refine (left_rd Ra _ 0 true _ hX2 (by decide)).mono ?_
  rintro e w23 ⟨rfl, -, hg⟩
  clear hX2
  rw [show ((([129, 128, 0] : List UInt8).length : Int) - ((0 : Nat) : Int)) = 3 from rfl]
  have hB23 := hB22.kept hg (by simp)
  have hC23 := hC22.kept hg (by simp)
  have hD23 := hD22.kept hg (by simp)
  have hE23 := hE22.kept hg (by simp)
  have hb23 := hb22.grown hg hb22.size (by simp)
  clear hb22 hg hB22 hC22 hD22 hE22
  go_wp2_with fail
  have hX := hB23.rd
  clear hB23
  refine (uint_no Rb _ 0 _ hX num_b (by decide)).mono ?_
  rintro e w24 ⟨hg, ⟨_, _, e1, _⟩ | ⟨-, rfl, hX2⟩⟩
  · cases e1
  clear hX
  have hC24 := hC23.kept hg (by intro k e; injection e with e; omega)
  have hD24 := hD23.kept hg (by intro k e; injection e with e; omega)
  have hE24 := hE23.kept hg (by intro k e; injection e with e; omega)
  have hb24 := hb23.grown hg hb23.size (by intro k e; injection e with e; omega)
  clear hb23 hg hC23 hD23 hE23
  go_wp2_with fail
  refine (err_rd Rb _ 0 true _ hX2).mono ?_
  rintro e wx ⟨rfl, rfl⟩
  clear hX2
  rw [if_pos rfl]
  go_wp2_with fail
  have hX := hC24.rd
  clear hC24
  refine (text_ok Rc _ 0 1 2 2 _ hX text_c (by decide) (by decide)).mono ?_
  rintro e w25 ⟨hg, ⟨_, _, e1, rfl, hX2⟩ | ⟨e1, _⟩⟩
  rotate_left
  · cases e1
  injection e1 with e1
  injection e1 with e1 e2
  subst e1 e2
  clear hX
  rw [show str ((([2, 97, 98, 99] : List UInt8).drop (0 + 1)).take 2) = { data := #[97, 98] } from rfl]
  have hD25 := hD24.kept hg (by intro k e; injection e with e; omega)
  have hE25 := hE24.kept hg (by intro k e; injection e with e; omega)
  have hb25 := hb24.grown hg hb24.size (by intro k e; injection e with e; omega)
  clear hb24 hg hD24 hE24
  go_wp2_with fail
  refine (left_rd Rc _ _ false _ hX2 (by decide)).mono ?_
  rintro e w26 ⟨rfl, -, hg⟩
  clear hX2
  rw [show ((([2, 97, 98, 99] : List UInt8).length : Int) - ((0 + (1 + 2) : Nat) : Int)) = 1 from rfl]
  have hD26 := hD25.kept hg (by simp)
  have hE26 := hE25.kept hg (by simp)
  have hb26 := hb25.grown hg hb25.size (by simp)
  clear hb25 hg hD25 hE25
  go_wp2_with fail
  have hX := hD26.rd
  clear hD26
  refine (text_no Rd _ 0 1 _ hX text_d (by decide) (by decide)).mono ?_
  rintro e w27 ⟨hg, ⟨_, _, e1, _⟩ | ⟨-, rfl, hX2⟩⟩
  · cases e1
  clear hX
  have hE27 := hE26.kept hg (by intro k e; injection e with e; omega)
  have hb27 := hb26.grown hg hb26.size (by intro k e; injection e with e; omega)
  clear hb26 hg hE26
  go_wp2_with fail
  refine (left_rd Rd _ 0 true _ hX2 (by decide)).mono ?_
  rintro e w28 ⟨rfl, -, hg⟩
  clear hX2
  rw [show ((([2, 97, 98, 99] : List UInt8).length : Int) - ((0 : Nat) : Int)) = 4 from rfl]
  have hE28 := hE27.kept hg (by simp)
  have hb28 := hb27.grown hg hb27.size (by simp)
  clear hb27 hg hE27
  go_wp2_with fail
  have hX := hE28.rd
  clear hE28
  refine (raw_no Re _ 0 2 _ hX (by decide) (by decide)).mono ?_
  rintro e w29 ⟨hg, ⟨_, _, e1, _⟩ | ⟨-, rfl, hX2⟩⟩
  · cases e1
  clear hX
  have hb29 := hb28.grown hg hb28.size (by intro k e; injection e with e; omega)
  clear hb28 hg 
  go_wp2_with fail
  refine (end_rd Re _ 0 true _ hX2 (by decide)).mono ?_
  rintro e w30 ⟨rfl, -, hg⟩
  clear hX2
  rw [show (true || decide (0 < ([5] : List UInt8).length)) = true from rfl, if_pos rfl]
  have hb30 := hb29.grown hg hb29.size (by intro k e; injection e with e; omega)
  clear hb29 hg 
  go_wp2_with fail
  go_ret
  exact ⟨rfl, hb30⟩
end Go.Proofs.YtbbikkncobgabaaDoor
