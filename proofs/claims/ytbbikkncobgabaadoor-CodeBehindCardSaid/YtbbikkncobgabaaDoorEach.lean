/-
  scrivenerlaw02.CodeEach answers true. By an AI agent.
-/
import Derived.Test.YtbbikkncobgabaaDoorMeet
import Derived.Outline
namespace Go.Proofs.YtbbikkncobgabaaDoor
open Go.RowKit

theorem PartsIn.more {w : World} {B B' : Nat} {A : Option Addr} {ps : List Pt} (h : PartsIn w B A ps) (hB : B ≤ B') : PartsIn w B' A ps := by
  intro i p hp
  obtain ⟨h1, ad, h2, h3, A1, c1, g0, g1, g2, g3, g4, g5, g6, g7⟩ := h i p hp
  exact ⟨h1, ad, h2, by omega, A1, c1, g0, g1, g2, g3, g4, g5, g6, g7.more hB⟩

theorem Blk.newAt (w : World) (t : TypeId) (cs : Array Value) (k : Nat) (h : w.heap.size = k) : Blk (w.alloc (.cells cs t)) k t cs := by subst h; exact Blk.new w t cs

/-- a slice of one part -/
theorem parts_one (w : World) (k : Nat) (p : Pt) (A : Option Addr) (c : Nat) (hb : Blk w k 36 #[.int .i64 p.s, .int .i64 p.m, .int .u64 (p.x : Int), .slice A p.t.length c]) (hok : p.ok) (hc : p.t.length ≤ c) (hm : p.t.length ≤ maxLen) (hA : A = none → c = 0) (B : Nat) (hB : B ≤ w.heap.size) (hr : Reads w B 1 A p.t.length (Lib.byteCells p.t)) :
    PartsIn w w.heap.size (some ⟨k, 0, none⟩) [p] := by
  intro i q hq
  have hi : i = 0 := by
    rcases Nat.eq_zero_or_pos i with h | h
    · exact h
    · rw [List.getElem?_eq_none (by simp; omega)] at hq; cases hq
  subst hi
  simp at hq
  subst hq
  refine ⟨hok, ⟨k, 0, none⟩, rfl, hb.lt, A, c, hb.cell 0, hb.cell 1, hb.cell 2, hb.cell 3, hc, hm, hA, hr.more hB⟩

/-- row, of one part -/
theorem row_one (w : World) (k : Nat) (p : Pt) (A : Option Addr) (c : Nat) (hb : Blk w k 36 #[.int .i64 p.s, .int .i64 p.m, .int .u64 (p.x : Int), .slice A p.t.length c]) (hok : p.ok) (hc : p.t.length ≤ c) (hm : p.t.length ≤ maxLen) (hA : A = none → c = 0) (B : Nat) (hB : B ≤ w.heap.size) (hr : Reads w B 1 A p.t.length (Lib.byteCells p.t)) (hsm : p.t.length ≤ 100000000) :
    Calls Tryd.prog 25 #[.slice (some ⟨k, 0, none⟩) 1 1] w (Gives w.heap.size (partBytes (p.s % 5) p.x p.t) w) := by
  have h := row_any (some ⟨k, 0, none⟩) 1 1 [p] w rfl (by omega) (parts_one w k p A c hb hok hc hm hA B hB hr) (by simp [bulk]; omega)
  simpa [rowB] using h

set_option maxRecDepth 100000 in
set_option maxHeartbeats 8000000 in
theorem each_any (A : Option Addr) (n c : Nat) (l : List UInt8) (t : List UInt8) (most : Int) (w : World) (hn : n = l.length) (hc : n ≤ c) (hA : A = none → c = 0) (hr : Reads w w.heap.size 1 A n (Lib.byteCells l)) (hm : n ≤ 9223372036854775807) (ht : t.length ≤ 9223372036854775807) (hmost : -9223372036854775808 ≤ most ∧ most ≤ 9223372036854775807) :
    Calls Tryd.prog 4 #[.slice A n c, .string (str t), .int .i64 most] w fun e w' => e = .returned (.bool true) ∧ Below w.heap.size w w' := by
  have Hn := Lib.hid hn
  have HA := Lib.hid hA
  have Hr := Lib.hid hr
  have hsz : (str t).size = t.length := by simp [str, ByteArray.size]
  have Hsz := Lib.hid hsz
  clear hn hA hr
  by_cases hbig : 2000 < n
  · have hd : decide ((2000 : Int) < (n : Int)) = true := by rw [decide_eq_true_eq]; omega
    go_enter Tryd.func4, Tryd.ntmps4
    go_wp2_with fail
    refine (awake_any _).mono ?_
    rintro e w1 ⟨rfl, hb⟩
    go_wp2_with fail
    go_ret
    exact ⟨rfl, hb⟩
  have hd : decide ((2000 : Int) < (n : Int)) = false := by rw [decide_eq_false_iff_not]; omega
  by_cases hbig2 : 2000 < t.length
  · have hd2 : decide ((2000 : Int) < (t.length : Int)) = true := by rw [decide_eq_true_eq]; omega
    go_enter Tryd.func4, Tryd.ntmps4
    go_wp2_with fail
    refine (awake_any _).mono ?_
    rintro e w1 ⟨rfl, hb⟩
    go_wp2_with fail
    go_ret
    exact ⟨rfl, hb⟩
  have hd2 : decide ((2000 : Int) < (t.length : Int)) = false := by rw [decide_eq_false_iff_not]; omega
  have hll : l.length ≤ 140737488355328 := by rw [← Hn.out]; omega
  go_enter Tryd.func4, Tryd.ntmps4
  go_wp2_with fail
  clear hd hd2 hsz
  refine (newReaderB_any A n c l w Hn.out hc (by omega) HA.out w.heap.size (Nat.le_refl _) Hr.out).mono ?_
  rintro e w1 ⟨R, rfl, hrd, hb1⟩
  have hR := hrd.1
  have hrd1 := hrd.rd
  clear hrd
  go_wp2_with fail
  rcases hnum : num 0 0 l with _ | ⟨x, N⟩
  · have hnum' : num 0 0 (l.drop 0) = none := hnum
    clear hnum
    refine (uint_no R l 0 w1 hrd1 hnum' hll).mono ?_
    clear hnum'
    rintro e w2 ⟨hg2, ⟨v, N', e1, _⟩ | ⟨-, rfl, hrd2⟩⟩
    · cases e1
    have hb2 := hb1.grown hg2 hb1.size (by intro k e; injection e with e; omega)
    clear hb1 hrd1 hg2
    go_wp2_with fail
    refine (left_rd R l 0 true _ hrd2 hll).mono ?_
    rintro e w3 ⟨rfl, hrd3, hg3⟩
    rw [← Hn.out, show ((n : Int) - ((0 : Nat) : Int)) = (n : Int) by omega]
    have hb3 := hb2.grown hg3 hb2.size (by simp)
    clear hb2 hrd2 hg3
    go_wp2_with fail
    refine (err_rd R l 0 true _ hrd3).mono ?_
    rintro e w5 ⟨rfl, rfl⟩
    rw [if_pos rfl]
    have hbb5 := hb3
    obtain ⟨w6, cap, hrun, hr6, hc6, hb6⟩ := conv_str w3 t
    have hb7 : Below w.heap.size w w6 := hbb5.trans (hb6.mono hbb5.size)
    have hs6 := hb6.size
    have hs7 := hb7.size
    go_wp2_with fail
    clear hrun
    refine (row_one _ w6.heap.size ⟨3, 0, 0, t⟩ (some ⟨w3.heap.size, 0, none⟩) cap (Blk.newAt _ _ _ _ rfl) ⟨(show (0 : Nat) < 18446744073709551616 by decide), (show (-9223372036854775808 : Int) ≤ 0 by decide), (show (0 : Int) ≤ 9223372036854775807 by decide)⟩ hc6 ht (fun e => by cases e) w6.heap.size (by simp) (hr6.alloc (Nat.le_refl _) _) (by show t.length ≤ _; omega)).mono ?_
    rintro e w8 ⟨v8, rfl, hown8, hb8⟩
    have hb9 : Below w.heap.size w w8 := (hb7.alloc hs7 _).trans (hb8.mono (by simp; omega))
    rw [show partBytes ((3 : Int) % 5) 0 t = dig 10 t.length ++ t from rfl] at hown8
    obtain ⟨T, hT⟩ : ∃ T, T = dig 10 t.length ++ t := ⟨_, rfl⟩
    rw [← hT] at hown8
    have HT := Lib.hid hT
    obtain ⟨A8, c8, rfl, hcc8, hcm8, hA8, hr8⟩ := hown8.form2
    have hlen8 : T.length ≤ 140737488355328 := by have := dig_length 10 t.length; rw [hT]; simp; omega
    clear hT
    have HA8 := Lib.hid hA8
    have Hr8 := Lib.hid hr8
    have hs9 := hb9.size
    clear hb8 hown8 hA8 hr8 hb6 hb7 hr6
    go_wp2_with fail
    refine (newReaderB_any A8 T.length c8 T w8 rfl hcc8 hlen8 HA8.out w8.heap.size (Nat.le_refl _) Hr8.out).mono ?_
    rintro e w10 ⟨R2, rfl, hrd10, hb10⟩
    have hR2 := hrd10.1
    have hrd11 := hrd10.rd
    have hb11 := hb9.trans (hb10.mono hs9)
    clear hrd10 hb10 hb9 HA8 Hr8 hcm8
    have hdig : num 0 0 T = some (t.length, (dig 10 t.length).length) := by rw [HT.out]; exact num_dig0 t.length t (by omega)
    by_cases hmo : (t.length : Int) ≤ most
    · have htx : text most (T.drop 0) = some ((dig 10 t.length).length, t.length) := by
        rw [List.drop_zero, text, hdig]
        exact if_pos ⟨by omega, hmo, by rw [HT.out]; simp⟩
      have hge : decide ((t.length : Int) ≤ most) = true := by rw [decide_eq_true_eq]; exact hmo
      go_wp2_with fail
      refine (text_ok R2 _ 0 _ _ most w10 hrd11 htx hmost.2 hlen8).mono ?_
      clear htx hdig
      rintro e w12 ⟨hg12, ⟨v12, N12, e1, rfl, hrd12⟩ | ⟨e1, _⟩⟩
      rotate_left
      · cases e1
      injection e1 with e1
      injection e1 with e1 e2
      subst e1 e2
      rw [Nat.zero_add, show (T.drop (dig 10 t.length).length).take t.length = t by rw [HT.out, List.drop_left, List.take_length]]
      have hb12 := hb11.grown hg12 hb11.size (by intro k e; injection e with e; omega)
      clear hb11 hrd11 hg12
      go_wp2_with fail
      refine (err_rd R2 _ _ false _ hrd12).mono ?_
      rintro e w13 ⟨rfl, rfl⟩
      rw [if_neg (by decide)]
      have hsz := Hsz.out
      go_wp2_with fail
      refine (awake_any _).mono ?_
      rintro e w14 ⟨rfl, hb14⟩
      have hb15 := hb12.trans (hb14.mono hb12.size)
      go_wp2_with fail
      go_ret
      exact ⟨rfl, hb15⟩
    · have htx : text most (T.drop 0) = none := by
        rw [List.drop_zero, text, hdig]
        exact if_neg (fun h => hmo h.2.1)
      have hge : decide ((t.length : Int) ≤ most) = false := by rw [decide_eq_false_iff_not]; exact hmo
      go_wp2_with fail
      refine (text_no R2 _ 0 most w10 hrd11 htx hmost.2 hlen8).mono ?_
      clear htx hdig
      rintro e w12 ⟨hg12, ⟨v12, N12, e1, _⟩ | ⟨-, rfl, hrd12⟩⟩
      · cases e1
      have hb12 := hb11.grown hg12 hb11.size (by intro k e; injection e with e; omega)
      clear hb11 hrd11 hg12
      go_wp2_with fail
      refine (err_rd R2 _ _ true _ hrd12).mono ?_
      rintro e w13 ⟨rfl, rfl⟩
      rw [if_pos rfl]
      have hsz := Hsz.out
      by_cases ht0 : t = []
      · subst ht0
        have hneg : decide ((0 : Int) ≤ most) = false := by have h0 : (([] : List UInt8).length : Int) = 0 := rfl; rw [decide_eq_false_iff_not]; omega
        have hemp : (str []).toList = [] := str_list []
        go_wp2_with fail
        refine (awake_any _).mono ?_
        rintro e w14 ⟨rfl, hb14⟩
        have hb15 := hb12.trans (hb14.mono hb12.size)
        go_wp2_with fail
        go_ret
        exact ⟨rfl, hb15⟩
      · have hne : ¬ (str t).toList = [] := by rw [str_list]; exact ht0
        go_wp2_with fail
        refine (err_rd R2 _ _ true _ hrd12).mono ?_
        rintro e w13 ⟨rfl, rfl⟩
        rw [if_pos rfl]
        go_wp2_with fail
        refine (awake_any _).mono ?_
        rintro e w14 ⟨rfl, hb14⟩
        have hb15 := hb12.trans (hb14.mono hb12.size)
        go_wp2_with fail
        go_ret
        exact ⟨rfl, hb15⟩
  · obtain ⟨hx, htk, hN, hNl⟩ := dig_num0 l x N hnum
    have hnum' : num 0 0 (l.drop 0) = some (x, N) := hnum
    have Htk := Lib.hid htk
    have HN := Lib.hid hN
    clear htk hN hnum
    refine (uint_ok R l 0 x N w1 hrd1 hnum' hll).mono ?_
    clear hnum'
    rintro e w2 ⟨hg2, ⟨v, N', e1, rfl, hrd2⟩ | ⟨e1, _⟩⟩
    rotate_left
    · cases e1
    injection e1 with e1
    injection e1 with e1 e2
    subst e1 e2
    rw [Nat.zero_add] at hrd2
    have hb2 := hb1.grown hg2 hb1.size (by intro k e; injection e with e; omega)
    clear hb1 hrd1 hg2
    go_wp2_with fail
    refine (left_rd R l N false _ hrd2 hll).mono ?_
    rintro e w3 ⟨rfl, hrd3, hg3⟩
    rw [← Hn.out]
    have hb3 := hb2.grown hg3 hb2.size (by simp)
    clear hb2 hrd2 hg3
    have hNn : N ≤ n := by rw [Hn.out]; exact hNl
    have hsub : (n : Int) - ((n : Int) - (N : Int)) = (N : Int) := by omega
    go_wp2_with fail
    refine (err_rd R l N false _ hrd3).mono ?_
    rintro e w4 ⟨rfl, rfl⟩
    rw [if_neg (by decide)]
    go_wp2_with fail
    have hS : ∀ w' : World, Below w.heap.size w w' → ((convert 27 9 (.slice A N c)).run Tryd.prog w' = .ok (.string (str (dig 10 x))) w' ∧ Below w.heap.size w w') := by
      intro w' hbw
      refine ⟨?_, hbw⟩
      have h1 := (Hr.out.below hbw).take (k := N) hNn
      rw [byteCells_take, Htk.out] at h1
      exact conv_bytes w' w.heap.size A N c (dig 10 x) HN.out h1
    have HS := Lib.hid hS
    have hRow : ∀ (w' : World) (k : Nat), Blk w' k 36 #[.int .i64 2, .int .i64 0, .int .u64 (x : Int), .slice none 0 0] → Calls Tryd.prog 25 #[.slice (some ⟨k, 0, none⟩) 1 1] w' (Gives w'.heap.size (dig 10 x) w') := by
      intro w' k hb
      have h := row_one w' k ⟨2, 0, x, []⟩ none 0 hb ⟨hx, (show (-9223372036854775808 : Int) ≤ 0 by decide), (show (0 : Int) ≤ 9223372036854775807 by decide)⟩ (Nat.le_refl _) (Nat.zero_le _) (fun _ => rfl) 0 (Nat.zero_le _) Reads.none_ (Nat.zero_le _)
      exact h
    have HRow := Lib.hid hRow
    have i0 : (0 : Int) ≤ (N : Int) := by omega
    have i1 : (N : Int) ≤ (c : Int) := by omega
    have i2 : (N : Int).toNat = N := by omega
    have HB0 := HS.out w3 hb3
    clear hS hRow
    have C0 := (HS.out w3.drew hb3.drew).1
    have C1 : ∀ cs ty, (convert 27 9 (.slice A N c)).run Tryd.prog (w3.alloc (.cells cs ty)).drew = .ok (.string (str (dig 10 x))) (w3.alloc (.cells cs ty)).drew := fun cs ty => (HS.out _ (hb3.alloc hb3.size _).drew).1
    have hsz3 := hb3.size
    go_region_with (go_at_call 25; refine (HRow.out _ _ ?_).mono ?_; exact Blk.newAt _ _ _ _ (by simp); rintro e w5 ⟨v5, rfl, hown5, hb5⟩; have hcv5 := hown5.conv; have hbb5 : Below w.heap.size w w5 := (hb3.alloc hb3.size _).drew.trans (hb5.mono (by simp; omega)); have hc5 := (HS.out w5 hbb5).1)
    all_goals
      clear C0 C1
      obtain ⟨w6, cap, hrun, hr6, hc6, hb6⟩ := conv_str w5 t
      have hb7 : Below w.heap.size w w6 := hbb5.trans (hb6.mono hbb5.size)
      have hs6 := hb6.size
      have hs7 := hb7.size
      go_wp2_with fail
      clear hrun
      refine (row_one _ w6.heap.size ⟨3, 0, 0, t⟩ (some ⟨w5.heap.size, 0, none⟩) cap (Blk.newAt _ _ _ _ rfl) ⟨(show (0 : Nat) < 18446744073709551616 by decide), (show (-9223372036854775808 : Int) ≤ 0 by decide), (show (0 : Int) ≤ 9223372036854775807 by decide)⟩ hc6 ht (fun e => by cases e) w6.heap.size (by simp) (hr6.alloc (Nat.le_refl _) _) (by show t.length ≤ _; omega)).mono ?_
      rintro e w8 ⟨v8, rfl, hown8, hb8⟩
      have hb9 : Below w.heap.size w w8 := (hb7.alloc hs7 _).trans (hb8.mono (by simp; omega))
      rw [show partBytes ((3 : Int) % 5) 0 t = dig 10 t.length ++ t from rfl] at hown8
      obtain ⟨T, hT⟩ : ∃ T, T = dig 10 t.length ++ t := ⟨_, rfl⟩
      rw [← hT] at hown8
      have HT := Lib.hid hT
      obtain ⟨A8, c8, rfl, hcc8, hcm8, hA8, hr8⟩ := hown8.form2
      have hlen8 : T.length ≤ 140737488355328 := by have := dig_length 10 t.length; rw [hT]; simp; omega
      clear hT
      have HA8 := Lib.hid hA8
      have Hr8 := Lib.hid hr8
      have hs9 := hb9.size
      clear hb8 hown8 hA8 hr8 hb6 hb7 hr6
      go_wp2_with fail
      refine (newReaderB_any A8 T.length c8 T w8 rfl hcc8 hlen8 HA8.out w8.heap.size (Nat.le_refl _) Hr8.out).mono ?_
      rintro e w10 ⟨R2, rfl, hrd10, hb10⟩
      have hR2 := hrd10.1
      have hrd11 := hrd10.rd
      have hb11 := hb9.trans (hb10.mono hs9)
      clear hrd10 hb10 hb9 HA8 Hr8 hcm8
      have hdig : num 0 0 T = some (t.length, (dig 10 t.length).length) := by rw [HT.out]; exact num_dig0 t.length t (by omega)
      by_cases hmo : (t.length : Int) ≤ most
      · have htx : text most (T.drop 0) = some ((dig 10 t.length).length, t.length) := by
          rw [List.drop_zero, text, hdig]
          exact if_pos ⟨by omega, hmo, by rw [HT.out]; simp⟩
        have hge : decide ((t.length : Int) ≤ most) = true := by rw [decide_eq_true_eq]; exact hmo
        go_wp2_with fail
        refine (text_ok R2 _ 0 _ _ most w10 hrd11 htx hmost.2 hlen8).mono ?_
        clear htx hdig
        rintro e w12 ⟨hg12, ⟨v12, N12, e1, rfl, hrd12⟩ | ⟨e1, _⟩⟩
        rotate_left
        · cases e1
        injection e1 with e1
        injection e1 with e1 e2
        subst e1 e2
        rw [Nat.zero_add, show (T.drop (dig 10 t.length).length).take t.length = t by rw [HT.out, List.drop_left, List.take_length]]
        have hb12 := hb11.grown hg12 hb11.size (by intro k e; injection e with e; omega)
        clear hb11 hrd11 hg12
        go_wp2_with fail
        refine (err_rd R2 _ _ false _ hrd12).mono ?_
        rintro e w13 ⟨rfl, rfl⟩
        rw [if_neg (by decide)]
        have hsz := Hsz.out
        go_wp2_with fail
        refine (awake_any _).mono ?_
        rintro e w14 ⟨rfl, hb14⟩
        have hb15 := hb12.trans (hb14.mono hb12.size)
        go_wp2_with fail
        go_ret
        exact ⟨rfl, hb15⟩
      · have htx : text most (T.drop 0) = none := by
          rw [List.drop_zero, text, hdig]
          exact if_neg (fun h => hmo h.2.1)
        have hge : decide ((t.length : Int) ≤ most) = false := by rw [decide_eq_false_iff_not]; exact hmo
        go_wp2_with fail
        refine (text_no R2 _ 0 most w10 hrd11 htx hmost.2 hlen8).mono ?_
        clear htx hdig
        rintro e w12 ⟨hg12, ⟨v12, N12, e1, _⟩ | ⟨-, rfl, hrd12⟩⟩
        · cases e1
        have hb12 := hb11.grown hg12 hb11.size (by intro k e; injection e with e; omega)
        clear hb11 hrd11 hg12
        go_wp2_with fail
        refine (err_rd R2 _ _ true _ hrd12).mono ?_
        rintro e w13 ⟨rfl, rfl⟩
        rw [if_pos rfl]
        have hsz := Hsz.out
        by_cases ht0 : t = []
        · subst ht0
          have hneg : decide ((0 : Int) ≤ most) = false := by have h0 : (([] : List UInt8).length : Int) = 0 := rfl; rw [decide_eq_false_iff_not]; omega
          have hemp : (str []).toList = [] := str_list []
          go_wp2_with fail
          refine (awake_any _).mono ?_
          rintro e w14 ⟨rfl, hb14⟩
          have hb15 := hb12.trans (hb14.mono hb12.size)
          go_wp2_with fail
          go_ret
          exact ⟨rfl, hb15⟩
        · have hne : ¬ (str t).toList = [] := by rw [str_list]; exact ht0
          go_wp2_with fail
          refine (err_rd R2 _ _ true _ hrd12).mono ?_
          rintro e w13 ⟨rfl, rfl⟩
          rw [if_pos rfl]
          go_wp2_with fail
          refine (awake_any _).mono ?_
          rintro e w14 ⟨rfl, hb14⟩
          have hb15 := hb12.trans (hb14.mono hb12.size)
          go_wp2_with fail
          go_ret
          exact ⟨rfl, hb15⟩
end Go.Proofs.YtbbikkncobgabaaDoor
