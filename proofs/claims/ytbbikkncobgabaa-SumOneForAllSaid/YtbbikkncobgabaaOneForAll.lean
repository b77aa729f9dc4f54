/-
  scrivenerlaw01.SumOneForAll: the walk. By an AI agent.
-/
import Derived.Test.YtbbikkncobgabaaAwake
namespace Go.Proofs.Ytbbikkncobgabaa
open Go.RowKit
attribute [local go_sem] Crc.le4_0 Crc.le4_1 Crc.le4_2 Crc.le4_3

theorem opn_shut (l : List UInt8) : opn (Crc.shut l) = some l := by
  rw [Crc.shut, opn_four, if_pos rfl]

theorem four_fin (l : List UInt8) (X : BitVec 32) (b : Bool) (hb : b = decide (X = Crc.sum l)) :
    (if X = Crc.sum l then some l else none).isSome = b ∧ ((str (l ++ Crc.le4 X)).toList == (str (Crc.shut l)).toList) = b ∧ (Crc.U (Crc.sum (l ++ Crc.le4 X)) == Crc.U (Crc.sum (Crc.shut []))) = b := by
  have h1 := Crc.sum_four l X
  subst hb
  rw [str_eq]
  by_cases h : X = Crc.sum l
  · have h2 : l ++ Crc.le4 X = Crc.shut l := by rw [h]; rfl
    refine ⟨by simp [h], by rw [decide_eq_true h2, decide_eq_true h], ?_⟩
    rw [h1.2 h2, decide_eq_true h]
    simp
  · have h2 : ¬ l ++ Crc.le4 X = Crc.shut l := fun h3 => h (Crc.le4_inj _ _ (List.append_cancel_left h3))
    have h3 : ¬ Crc.sum (l ++ Crc.le4 X) = Crc.sum (Crc.shut []) := fun h4 => h2 (h1.1 h4)
    refine ⟨by simp [h], by rw [decide_eq_false h2, decide_eq_false h], ?_⟩
    rw [decide_eq_false h]
    simpa [Crc.U_inj] using h3

set_option maxRecDepth 100000 in
set_option maxHeartbeats 4000000 in
theorem oneForAll_any (A : Option Addr) (c : Nat) (l : List UInt8) (X : BitVec 32) (w : World) (hcl : l.length ≤ c) (hr : Reads w w.heap.size 1 A l.length (Lib.byteCells l)) :
    Calls Try.prog 6 #[.slice A l.length c, .int .u32 (Crc.U X)] w fun e w' => e = .returned (.bool true) ∧ Below w.heap.size w w' := by
  by_cases hbig : 20000 < l.length
  · go_enter Try.func6, Try.ntmps6
    go_wp2_with fail
    refine (awake_any _).mono ?_
    rintro e w1 ⟨rfl, hb⟩
    go_wp2_with fail
    go_ret
    exact ⟨rfl, hb⟩
  · have hl : l.length ≤ 20000 := by omega
    clear hbig
    have x0 := Crc.U_lo X
    have x1 := Crc.U_hi X
    go_enter Try.func6, Try.ntmps6
    go_wp2_with fail
    refine (shut_any _ _ l _ (by omega) hcl _ (Nat.le_refl _) hr).mono ?_
    rintro e w1 ⟨v1, rfl, hown1, hb⟩
    have hs := hb.size
    obtain ⟨A1, c1, rfl, hc1, hm1, hr1⟩ := hown1.form
    have hlen : l.length + 4 = (Crc.shut l).length := by simp [Crc.shut, Crc.le4_length]
    rw [← hlen] at hc1 hm1 hr1 hown1 ⊢
    have Hlen := Lib.hid hlen
    clear hlen
    unfold maxLen at hm1
    go_wp2_with fail
    refine (open_n _ _ _ (Crc.shut l) _ Hlen.out (by omega) hc1 hr1).mono ?_
    rintro e w2 ⟨v2, rfl, hown2, hb2⟩
    rw [opn_shut] at hown2 ⊢
    rw [show (some l).getD [] = l from rfl] at hown2
    rw [show (some l).isSome = true from rfl]
    replace hr1 := hr1.below hb2
    replace hown1 := hown1.below hb2
    replace hb := hb.trans (hb2.mono hs)
    replace hs := hb.size
    have hcv2 := hown2.conv
    have hcvb := conv_bytes w2 _ A _ c l rfl (hr.below hb)
    go_wp2_with fail
    clear hcv2 hcvb hown2
    refine (sum_one A1 _ c1 _ (Crc.shut l) _ rfl Hlen.out (by unfold maxLen; omega) hc1 (hr1.more hb2.size)).mono ?_
    rintro e w3 ⟨rfl, hb3⟩
    replace hr1 := (hr1.more hb2.size).below hb3
    replace hown1 := hown1.below hb3
    clear hb2
    replace hb := hb.trans (hb3.mono hs)
    replace hs := hb.size
    rw [Crc.sum_shut]
    go_wp2_with fail
    refine (shut_any none 0 [] w3 (by decide) (by decide) 0 (Nat.zero_le _) Reads.none_).mono ?_
    rintro e w4 ⟨v4, rfl, hown4, hb4⟩
    replace hr1 := (hr1.more hb3.size).below hb4
    replace hown1 := hown1.below hb4
    replace hb := hb.trans (hb4.mono hs)
    replace hs := hb.size
    clear hb3
    obtain ⟨A4, c4, rfl, hc4, hm4, hr4⟩ := hown4.form
    go_wp2_with fail
    refine (sum_one A4 _ c4 _ (Crc.shut []) _ rfl rfl hm4 hc4 hr4).mono ?_
    rintro e w5 ⟨rfl, hb5⟩
    replace hr1 := (hr1.more hb4.size).below hb5
    replace hown1 := hown1.below hb5
    replace hb := hb.trans (hb5.mono hs)
    replace hs := hb.size
    clear hb4 hr4 hown4
    have S0 := Crc.U_lo (Crc.sum (Crc.shut []))
    have hlit := Owns.lit w5 w5.heap.size [] (Nat.le_refl _) (Nat.zero_le _)
    have hr5 := hr.below hb
    have hs5 := hs
    go_wp2_with (at_builtin; refine wpList_app rfl (.tmp 48) (.tmp 49) rfl w5.heap.size _ [] rfl hlit w.heap.size _ _ _ l rfl rfl ?_ ?_ ?_ ?_)
    · exact hr5.alloc hs _
    · simp; omega
    · simp
    intro v6 w6 hown6 hg6 _
    have hb6 : Below w5.heap.size w5 w6 := by
      refine ((Below.refl _ w5).alloc (Nat.le_refl _) _).grown hg6 (by simp) (fun k h => ?_)
      simp [Value.ownBlock] at h
      omega
    replace hr1 := (hr1.more hb5.size).below hb6
    clear hown1
    have hs6 := hb6.size
    replace hb := hb.trans (hb6.mono hs)
    replace hs := hb.size
    clear hb5 hg6 hlit hr5
    go_wp2_with (at_builtin; refine wpList_app rfl (.tmp 50) (.tmp 62) rfl w5.heap.size _ l rfl (hown6.alloc _) (w6.heap.size + 1) _ _ _ [Crc.b4 X 0, Crc.b4 X 1, Crc.b4 X 2, Crc.b4 X 3] rfl rfl ?_ ?_ ?_ ?_)
    · exact Reads.laid w6 (Lib.byteCells [Crc.b4 X 0, Crc.b4 X 1, Crc.b4 X 2, Crc.b4 X 3]).toArray _
    · omega
    · simp; omega
    intro v7 w7 hown7 hg7 _
    have hb7 : Below w5.heap.size w5 w7 := (hb6.alloc hs6 _).grown hg7 (by simp; omega) (fun k h => (hown6.lt k h).1)
    replace hr1 : Reads w7 w5.heap.size 1 A1 (l.length + 4) (Lib.byteCells (Crc.shut l)) := (hr1.alloc hs6 _).grown hg7 (by simp; omega) (fun k h => (hown6.lt k h).1)
    have hb8 : Below w.heap.size w w7 := (hb.alloc hs _).grown hg7 (by simp; omega) (fun k h => Nat.le_trans hs5 (hown6.lt k h).1)
    clear hb hs hg7 hown6 hb6
    have hs7 := hb8.size
    have hz : l ++ [Crc.b4 X 0, Crc.b4 X 1, Crc.b4 X 2, Crc.b4 X 3] = l ++ Crc.le4 X := rfl
    rw [hz] at hown7
    clear hz
    have hlz : (l ++ Crc.le4 X).length = l.length + 4 := by simp [Crc.le4_length]
    obtain ⟨A7, c7, rfl, hc7, hm7, hr7⟩ := hown7.form
    rw [hlz] at hc7 hm7 hr7 hown7 ⊢
    have Hlz := Lib.hid hlz.symm
    clear hlz
    go_wp2_with fail
    refine (open_n _ _ _ (l ++ Crc.le4 X) _ Hlz.out (by omega) hc7 hr7).mono ?_
    rintro e w8 ⟨v8, rfl, _, hb9⟩
    replace hr1 := (hr1.more hb7.size).below hb9
    replace hr7 := hr7.below hb9
    have hb10 := hb8.trans (hb9.mono hs7)
    have hs8 := hb10.size
    have hs9 := hb9.size
    clear hb8 hb7 hown7
    rw [opn_four]
    have hcz := conv_bytes w8 _ A7 _ c7 (l ++ Crc.le4 X) Hlz.out hr7
    have hcx := conv_bytes w8 _ A1 _ c1 (Crc.shut l) Hlen.out hr1
    obtain ⟨b, hbx⟩ : ∃ b : Bool, b = decide (X = Crc.sum l) := ⟨_, rfl⟩
    obtain ⟨f1, f2, f3⟩ := four_fin l X b hbx
    clear hbx
    rw [f1]
    have F3 := Lib.hid f3
    clear f1 f3
    cases b
    all_goals
      go_wp2_with fail
      clear hcz hcx
      refine (sum_one A7 _ c7 _ (l ++ Crc.le4 X) _ rfl Hlz.out hm7 hc7 (hr7.more hs9)).mono ?_
      rintro e w9 ⟨rfl, hb11⟩
      have hb12 := hb10.trans (hb11.mono hs8)
      have hs12 := hb12.size
      go_wp2_with fail
      refine (shut_any none 0 [] w9 (by decide) (by decide) 0 (Nat.zero_le _) Reads.none_).mono ?_
      rintro e w10 ⟨v10, rfl, hown10, hb13⟩
      have hb14 := hb12.trans (hb13.mono hs12)
      have hs14 := hb14.size
      obtain ⟨A10, c10, rfl, hc10, hm10, hr10⟩ := hown10.form
      go_wp2_with fail
      refine (sum_one A10 _ c10 _ (Crc.shut []) _ rfl rfl hm10 hc10 hr10).mono ?_
      rintro e w11 ⟨rfl, hb15⟩
      have hb16 := hb14.trans (hb15.mono hs14)
      have hs16 := hb16.size
      clear hb11 hb13 hb15 hr10 hown10
      have f3 := F3.out
      go_wp2_with fail
      refine (awake_any _).mono ?_
      rintro e w12 ⟨rfl, hb17⟩
      have hb18 := hb16.trans (hb17.mono hs16)
      go_wp2_with fail
      go_ret
      exact ⟨rfl, hb18⟩
end Go.Proofs.Ytbbikkncobgabaa
