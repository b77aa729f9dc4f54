/-
  scrivenerref01.Open: by definition. By an AI agent.
-/
import Derived.Test.YtbbikkncobgabaaUnshut
import Derived.Test.YtbbikkncobgabaaConv
import Derived.Deep.RegionWith
import Derived.BigRegion
namespace Go.Proofs.Ytbbikkncobgabaa
open Go.RowKit

set_option maxHeartbeats 1000000 in
theorem refOpen_four (A : Option Addr) (c : Nat) (t : List UInt8) (y : BitVec 32) (w : World) (hm : t.length ≤ 1000000) (hcl : t.length + 4 ≤ c) (hr : Reads w w.heap.size 1 A (t.length + 4) (Lib.byteCells (t ++ Crc.le4 y))) :
    Calls Try.prog 14 #[.slice A (t.length + 4) c] w (fun e w' => if y = Crc.sum t then Yes t w e w' else No w e w') := by
  obtain ⟨P, hP⟩ : ∃ P : Ending → World → Prop, P = fun e w' => if y = Crc.sum t then Yes t w e w' else No w e w' := ⟨_, rfl⟩
  have HP := Lib.hid hP
  rw [← hP]
  clear hP
  have hlit := Owns.lit w w.heap.size [] (Nat.le_refl _) (Nat.zero_le _)
  go_enter Try.func14, Try.ntmps14
  go_wp2_with (at_builtin; refine wpList_app rfl _ _ rfl w.heap.size _ [] rfl hlit w.heap.size _ _ _ t rfl rfl ?_ ?_ ?_ ?_)
  · have h2 := (hr.alloc (Nat.le_refl _) (.cells #[] 5)).take (show t.length ≤ t.length + 4 by omega)
    rw [byteCells_take, List.take_left] at h2
    exact h2
  · simp; omega
  · simp
  intro v2 w2 hown2 hg2 _
  have hb2 : Below w.heap.size w w2 := ((Below.refl _ w).alloc (Nat.le_refl _) _).grown hg2 (by simp) (fun k h => (hlit.lt k h).1)
  have hs2 := hb2.size
  clear hlit hg2
  obtain ⟨A2, c2, rfl, hc2, _, hr2⟩ := hown2.form
  have hcv2 := conv_bytes w2 w.heap.size A _ c _ (by simp [Crc.le4_length]) (hr.below hb2)
  have hcv2d := conv_bytes w2.drew w.heap.size A _ c _ (by simp [Crc.le4_length]) (hr.below hb2.drew)
  go_wp2_with fail
  go_region_with (go_at_call 12; refine (refShut_any _ _ t _ hm w2.heap.size ?_ ?_).mono ?_; exact Nat.le_refl _; exact hr2; rintro e w3 ⟨v3, rfl, hown3, hb3⟩; obtain ⟨A3, c3, rfl, _, _, hr3⟩ := hown3.form; have hcv3 := conv_bytes w3 _ A3 _ c3 (Crc.shut t) rfl hr3; have hb4' : Below w2.heap.size w2 w3 := (below_drewN (Below.refl _ w2) 1).trans hb3; have hb4 : Below w.heap.size w w3 := hb2.trans (hb4'.mono hs2); have hcv4 := conv_bytes w3 w.heap.size A _ c _ (by simp [Crc.le4_length]) (hr.below hb4))
  all_goals
    clear hcv2 hcv2d hcv3 hcv4
    by_cases he : y = Crc.sum t
    · have ht : ((str (Crc.shut t)).toList == (str (t ++ Crc.le4 y)).toList) = true := by rw [str_eq, he]; simp [Crc.shut]
      have Hy := Lib.hid he
      rw [ht, Bool.not_true]
      clear he ht
      go_wp2_with fail
      rw [HP.out]
      show if _ then _ else _
      rw [if_pos Hy.out]
      exact ⟨_, rfl, hown2.below hb4', hb4⟩
    · have ht : ((str (Crc.shut t)).toList == (str (t ++ Crc.le4 y)).toList) = false := by
        rw [str_eq]
        simp only [decide_eq_false_iff_not]
        intro h
        exact he (Crc.le4_inj _ _ (List.append_cancel_left h)).symm
      have Hy := Lib.hid he
      rw [ht, Bool.not_false]
      clear he ht
      go_wp2_with fail
      rw [HP.out]
      show if _ then _ else _
      rw [if_neg Hy.out]
      exact ⟨rfl, hb4⟩

/-- what bytes are opened as -/
def opn (l : List UInt8) : Option (List UInt8) := if 4 ≤ l.length ∧ Crc.shut (l.take (l.length - 4)) = l then some (l.take (l.length - 4)) else none

/-- a call that opens -/
def Opens (l : List UInt8) (w : World) (e : Ending) (w' : World) : Prop :=
  ∃ v, e = .returned (.tuple #[v, .bool (opn l).isSome]) ∧ Owns w' w.heap.size v ((opn l).getD []) ∧ Below w.heap.size w w'

theorem opens_no {l : List UInt8} (h : opn l = none) {w w' : World} {e : Ending} (hn : No w e w') : Opens l w e w' := by
  obtain ⟨rfl, hb⟩ := hn
  refine ⟨.slice none 0 0, by rw [h]; rfl, by rw [h]; exact Owns.nil _ _, hb⟩
theorem opens_yes {l t : List UInt8} (h : opn l = some t) {w w' : World} {e : Ending} (hy : Yes t w e w') : Opens l w e w' := by
  obtain ⟨v, rfl, ho, hb⟩ := hy
  exact ⟨v, by rw [h]; rfl, by rw [h]; exact ho, hb⟩

theorem opn_four (t : List UInt8) (y : BitVec 32) : opn (t ++ Crc.le4 y) = if y = Crc.sum t then some t else none := by
  have hlen : (t ++ Crc.le4 y).length = t.length + 4 := by simp [Crc.le4_length]
  unfold opn
  rw [hlen, show t.length + 4 - 4 = t.length by omega, List.take_left]
  by_cases h : y = Crc.sum t
  · rw [if_pos ⟨by omega, by rw [h]; rfl⟩, if_pos h]
  · rw [if_neg, if_neg h]
    rintro ⟨_, h2⟩
    exact h (Crc.le4_inj _ _ (List.append_cancel_left h2)).symm

theorem four_of (l : List UInt8) (h : 4 ≤ l.length) : ∃ t y, l = t ++ Crc.le4 y := by
  obtain ⟨y, hy⟩ := Crc.exists_le4 (l.drop (l.length - 4)) (by simp; omega)
  exact ⟨l.take (l.length - 4), y, by rw [hy, List.take_append_drop]⟩

theorem open_any (A : Option Addr) (c : Nat) (l : List UInt8) (w : World) (hm : l.length ≤ 1000000) (hcl : l.length ≤ c) (hr : Reads w w.heap.size 1 A l.length (Lib.byteCells l)) :
    Calls Try.prog 13 #[.slice A l.length c] w (Opens l w) := by
  rcases Nat.lt_or_ge l.length 4 with h | h
  · have hn : opn l = none := by unfold opn; rw [if_neg (by omega)]
    exact (open_short A c l w h).mono fun e w' => opens_no hn
  · obtain ⟨t, y, rfl⟩ := four_of l h
    have hlen : (t ++ Crc.le4 y).length = t.length + 4 := by simp [Crc.le4_length]
    rw [hlen] at hm hcl hr ⊢
    refine (open_four A c t y w (by omega) hcl hr).mono fun e w' he => ?_
    have ho := opn_four t y
    by_cases hy : y = Crc.sum t
    · rw [if_pos hy] at he ho; exact opens_yes ho he
    · rw [if_neg hy] at he ho; exact opens_no ho he

theorem refOpen_any (A : Option Addr) (c : Nat) (l : List UInt8) (w : World) (hm : l.length ≤ 1000000) (hcl : l.length ≤ c) (hr : Reads w w.heap.size 1 A l.length (Lib.byteCells l)) :
    Calls Try.prog 14 #[.slice A l.length c] w (Opens l w) := by
  rcases Nat.lt_or_ge l.length 4 with h | h
  · have hn : opn l = none := by unfold opn; rw [if_neg (by omega)]
    exact (refOpen_short A c l w h).mono fun e w' => opens_no hn
  · obtain ⟨t, y, rfl⟩ := four_of l h
    have hlen : (t ++ Crc.le4 y).length = t.length + 4 := by simp [Crc.le4_length]
    rw [hlen] at hm hcl hr ⊢
    refine (refOpen_four A c t y w (by omega) hcl hr).mono fun e w' he => ?_
    have ho := opn_four t y
    by_cases hy : y = Crc.sum t
    · rw [if_pos hy] at he ho; exact opens_yes ho he
    · rw [if_neg hy] at he ho; exact opens_no ho he

theorem open_n (A : Option Addr) (n c : Nat) (l : List UInt8) (w : World) (hn : n = l.length) (hm : n ≤ 1000000) (hcl : n ≤ c) (hr : Reads w w.heap.size 1 A n (Lib.byteCells l)) :
    Calls Try.prog 13 #[.slice A n c] w (Opens l w) := by
  subst hn; exact open_any A c l w hm hcl hr
theorem shut_n (A : Option Addr) (n c : Nat) (l : List UInt8) (w : World) (hn : n = l.length) (hm : n ≤ 1000000) (hcl : n ≤ c) (B : Nat) (hB : B ≤ w.heap.size) (hr : Reads w B 1 A n (Lib.byteCells l)) :
    Calls Try.prog 11 #[.slice A n c] w (Gives w.heap.size (Crc.shut l) w) := by
  subst hn; exact shut_any A c l w hm hcl B hB hr
/-- the sum of one text -/
theorem sum_one (A : Option Addr) (n c k : Nat) (l : List UInt8) (w : World) (hk : w.heap.size = k) (hn : n = l.length) (hm : n ≤ maxLen) (hcl : n ≤ c) (hr : Reads w w.heap.size 1 A n (Lib.byteCells l)) :
    Calls Try.prog 9 #[.slice (some ⟨k, 0, none⟩) 1 1] (w.alloc (.cells #[.slice A n c] 23)) fun e w' => e = .returned (.int .u32 (Crc.U (Crc.sum l))) ∧ Below w.heap.size w w' := by
  subst hk
  refine (sum_of _ 1 1 [.slice A n c] [l] _ (by simp [maxLen]) (w.heap.size + 1) (by simp) (Reads.laid w #[.slice A n c] _) (Parts.consN hn hcl hm ((hr.alloc (Nat.le_refl _) _).more (by omega)) (Parts.nil _ _))).mono ?_
  rintro e w' ⟨rfl, hb⟩
  refine ⟨by simp, ((Below.refl _ w).alloc (Nat.le_refl _) _).trans (hb.mono (by simp))⟩
end Go.Proofs.Ytbbikkncobgabaa
