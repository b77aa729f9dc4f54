/-
  scrivenerlaw02.CodeBehind answers true. By an AI agent.
-/
import Derived.Test.YtbbikkncobgabaaDoorPCells
namespace Go.Proofs.YtbbikkncobgabaaDoor
open Go.RowKit

theorem and16 (z : Int) : ∃ k : Nat, bits .and .i64 z 65535 = (k : Int) ∧ k ≤ 65535 := by
  refine ⟨(BitVec.ofInt 64 z &&& BitVec.ofInt 64 65535).toNat, ?_, ?_⟩
  · have hx : (BitVec.ofInt 64 z &&& BitVec.ofInt 64 65535).toNat ≤ 65535 := by
      rw [BitVec.toNat_and]
      exact Nat.and_le_right
    show IntKind.i64.wrap ((BitVec.ofInt 64 z &&& BitVec.ofInt 64 65535).toNat : Int) = _
    rw [IntKind.wrap_i64]
    omega
  · rw [BitVec.toNat_and]
    exact Nat.and_le_right

/-- append(append([]byte{}, b...), c...): bytes of the call's own -/
theorem Owns.nothing (w : World) (base : Nat) (hb : base ≤ w.heap.size) : Owns (w.alloc (.cells #[] 5)) base (.slice (some ⟨w.heap.size, 0, none⟩) 0 0) [] := Owns.lit w base [] hb (by simp [maxLen])

set_option maxRecDepth 100000 in
set_option maxHeartbeats 16000000 in
theorem behind_any (s m : Int) (x : Nat) (A : Option Addr) (n c : Nat) (t : List UInt8) (A1 : Option Addr) (n1 c1 : Nat) (u1 : List UInt8) (A2 : Option Addr) (n2 c2 : Nat) (u2 : List UInt8) (cut : Int) (w : World)
    (hx : x < 18446744073709551616) (hmost : -9223372036854775808 ≤ m ∧ m ≤ 9223372036854775807) (hn : n = t.length) (hnc : n ≤ c) (hm : n ≤ maxLen) (hA : A = none → c = 0) (hr : Reads w w.heap.size 1 A n (Lib.byteCells t))
    (hn1 : n1 = u1.length) (hm1 : n1 ≤ maxLen) (hr1 : Reads w w.heap.size 1 A1 n1 (Lib.byteCells u1))
    (hn2 : n2 = u2.length) (hm2 : n2 ≤ maxLen) (hr2 : Reads w w.heap.size 1 A2 n2 (Lib.byteCells u2)) :
    Calls Tryd.prog 8 #[part s m x (.slice A n c), .slice A1 n1 c1, .slice A2 n2 c2, .int .i64 cut] w fun e w' => e = .returned (.bool true) ∧ Below w.heap.size w w' := by
  have Hn := Lib.hid hn
  have Hn1 := Lib.hid hn1
  have Hn2 := Lib.hid hn2
  have HA := Lib.hid hA
  have Hr := Lib.hid hr
  have Hr1 := Lib.hid hr1
  have Hr2 := Lib.hid hr2
  clear hn hn1 hn2 hA hr hr1 hr2
  unfold maxLen at hm hm1 hm2
  unfold part
  have hb0 : Below w.heap.size w (w.alloc (.cells #[.int .i64 s, .int .i64 m, .int .u64 (x : Int), .slice A n c] 36)) := (Below.refl _ w).alloc (Nat.le_refl _) _
  by_cases hbig : 2000 < n
  · have hd : decide ((2000 : Int) < (n : Int)) = true := by rw [decide_eq_true_eq]; omega
    go_enter Tryd.func8, Tryd.ntmps8
    go_wp2_with fail
    refine (awake_any _).mono ?_
    rintro e w1 ⟨rfl, hb⟩
    have hb1 := hb0.trans (hb.mono hb0.size)
    go_wp2_with fail
    go_ret
    exact ⟨rfl, hb1⟩
  have hd : decide ((2000 : Int) < (n : Int)) = false := by rw [decide_eq_false_iff_not]; omega
  by_cases hbig1 : 2000 < n1
  · have hd1 : decide ((2000 : Int) < (n1 : Int)) = true := by rw [decide_eq_true_eq]; omega
    go_enter Tryd.func8, Tryd.ntmps8
    go_wp2_with fail
    refine (awake_any _).mono ?_
    rintro e w1 ⟨rfl, hb⟩
    have hb1 := hb0.trans (hb.mono hb0.size)
    go_wp2_with fail
    go_ret
    exact ⟨rfl, hb1⟩
  have hd1 : decide ((2000 : Int) < (n1 : Int)) = false := by rw [decide_eq_false_iff_not]; omega
  by_cases hbig2 : 2000 < n2
  · have hd2 : decide ((2000 : Int) < (n2 : Int)) = true := by rw [decide_eq_true_eq]; omega
    go_enter Tryd.func8, Tryd.ntmps8
    go_wp2_with fail
    refine (awake_any _).mono ?_
    rintro e w1 ⟨rfl, hb⟩
    have hb1 := hb0.trans (hb.mono hb0.size)
    go_wp2_with fail
    go_ret
    exact ⟨rfl, hb1⟩
  have hd2 : decide ((2000 : Int) < (n2 : Int)) = false := by rw [decide_eq_false_iff_not]; omega
  have hrow := fun (w' : World) (k : Nat) (hbl : Blk w' k 36 #[.int .i64 s, .int .i64 m, .int .u64 (x : Int), .slice A t.length c]) (hbw : Below w.heap.size w w') =>
    row_one w' k ⟨s, m, x, t⟩ A c hbl ⟨hx, hmost.1, hmost.2⟩ (by show t.length ≤ c; rw [← Hn.out]; exact hnc) (by show t.length ≤ maxLen; rw [← Hn.out]; exact hm) HA.out w.heap.size hbw.size (by show Reads w' _ 1 A t.length _; rw [← Hn.out]; exact Hr.out.below hbw) (by show t.length ≤ _; rw [← Hn.out]; omega)
  rw [← Hn.out] at hrow
  have HRow := Lib.hid hrow
  have hlen : (partBytes (s % 5) x t).length ≤ 3000 := by have := partBytes_len (s % 5) x t; rw [← Hn.out] at this; omega
  obtain ⟨pb, hpb⟩ : ∃ pb, pb = partBytes (s % 5) x t := ⟨_, rfl⟩
  have Hpb := Lib.hid hpb
  rw [← hpb] at hlen
  clear hrow hpb
  go_enter Tryd.func8, Tryd.ntmps8
  go_wp2_with fail
  clear hd hd1 hd2
  refine (HRow.out _ (w.heap.size + 1) (Blk.newAt _ _ _ _ (by simp)) (hb0.alloc hb0.size _)).mono ?_
  rintro e w3 ⟨v3, rfl, hown3, hb3'⟩
  have hb3 : Below w.heap.size w w3 := (hb0.alloc hb0.size _).trans (hb3'.mono (by simp; omega))
  have hbox : Blk w3 w.heap.size 36 #[.int .i64 s, .int .i64 m, .int .u64 (x : Int), .slice A n c] := ((Blk.new w _ _).alloc _).below hb3' (by simp; omega)
  rw [← Hpb.out] at hown3
  obtain ⟨A3, c3, rfl, hc3, hm3, hA3, hr3⟩ := hown3.form2
  have HA3 := Lib.hid hA3
  have Hr3 := Lib.hid hr3
  have hs3 := hb3.size
  obtain ⟨L, hL⟩ : ∃ L, L = pb.length := ⟨_, rfl⟩
  rw [← hL] at hc3 hlen ⊢
  have HL := Lib.hid hL
  unfold maxLen at hm3
  clear hb3' hown3 hA3 hr3 hL HRow
  -- the first
  go_wp2_with (at_builtin; refine wpList_app rfl (.tmp 34) (.tmp 35) rfl w3.heap.size _ [] rfl (Owns.nothing w3 _ (Nat.le_refl _)) w3.heap.size _ _ _ pb rfl HL.out ((by rw [HL.out]; exact Hr3.out : Reads w3 w3.heap.size 1 A3 L (Lib.byteCells pb)).alloc (Nat.le_refl _) _) ?_ ?_ ?_)
  · simp; omega
  · simp
  intro v4 w4 hown4 hg4 _
  have hb4 : Below w3.heap.size w3 w4 := ((Below.refl _ w3).alloc (Nat.le_refl _) _).grown hg4 (by simp) (fun k hk => by simp [Value.ownBlock] at hk; omega)
  have hs4 := hb4.size
  clear hg4
  go_wp2_with (at_builtin; refine wpList_app rfl (.tmp 36) (.tmp 37) rfl w3.heap.size _ pb rfl hown4 w.heap.size _ _ _ u1 rfl Hn1.out (Hr1.out.below (hb3.trans (hb4.mono hs3))) ?_ ?_ ?_)
  · rw [← HL.out]; omega
  · exact hs4
  intro v5 w5 hown5 hg5 _
  have hb5 : Below w3.heap.size w3 w5 := hb4.grown hg5 hs4 (fun k hk => (hown4.lt k hk).1)
  have hs5 := hb5.size
  clear hg5 hown4 hb4 hs4
  obtain ⟨T1, hT1⟩ : ∃ T1, T1 = pb ++ u1 := ⟨_, rfl⟩
  rw [← hT1] at hown5
  have HT1 := Lib.hid hT1
  have hT1l : T1.length = L + n1 := by rw [hT1, List.length_append, ← HL.out, ← Hn1.out]
  have HT1l := Lib.hid hT1l
  have hT1s : T1.length ≤ 6000 := by omega
  obtain ⟨A5, c5, rfl, hc5, -, hA5, hr5⟩ := hown5.form2
  have HA5 := Lib.hid hA5
  have Hr5 := Lib.hid hr5
  clear hT1 hT1l hown5 hA5 hr5
  go_wp2_with fail
  refine (newReaderB_any A5 _ c5 T1 w5 rfl hc5 (by omega) HA5.out w5.heap.size (Nat.le_refl _) Hr5.out).mono ?_
  rintro e w6 ⟨Rx, rfl, hX6, hb6'⟩
  have hRx : w3.heap.size ≤ Rx := by have := hX6.1; omega
  have hb6 := hb5.trans (hb6'.mono hs5)
  have hs6 := hb6.size
  clear HA5 Hr5 hb5 hb6' hc5 hs5
  -- the second
  have hb6a : Below w3.heap.size w3 (w6.alloc (.cells #[] 5)) := hb6.alloc hs6 _
  go_wp2_with (at_builtin; refine wpList_app rfl (.tmp 40) (.tmp 41) rfl w6.heap.size _ [] rfl (Owns.nothing w6 _ (Nat.le_refl _)) w3.heap.size _ _ _ pb rfl HL.out ((by rw [HL.out]; exact Hr3.out : Reads w3 w3.heap.size 1 A3 L (Lib.byteCells pb)).below hb6a) ?_ ?_ ?_)
  · simp; omega
  · simp
  intro v7 w7 hown7 hg7 _
  have hb7 : Below w6.heap.size w6 w7 := ((Below.refl _ w6).alloc (Nat.le_refl _) _).grown hg7 (by simp) (fun k hk => by simp [Value.ownBlock] at hk; omega)
  have hs7 := hb7.size
  clear hg7 hb6a
  go_wp2_with (at_builtin; refine wpList_app rfl (.tmp 42) (.tmp 43) rfl w6.heap.size _ pb rfl hown7 w.heap.size _ _ _ u2 rfl Hn2.out (Hr2.out.below (hb3.trans ((hb6.trans (hb7.mono hs6)).mono hs3))) ?_ ?_ ?_)
  · rw [← HL.out]; omega
  · exact hs7
  intro v8 w8 hown8 hg8 _
  have hb8 : Below w6.heap.size w6 w8 := hb7.grown hg8 hs7 (fun k hk => (hown7.lt k hk).1)
  have hs8 := hb8.size
  clear hg8 hown7 hb7 hs7
  obtain ⟨T2, hT2⟩ : ∃ T2, T2 = pb ++ u2 := ⟨_, rfl⟩
  rw [← hT2] at hown8
  have HT2 := Lib.hid hT2
  have hT2l : T2.length = L + n2 := by rw [hT2, List.length_append, ← HL.out, ← Hn2.out]
  have HT2l := Lib.hid hT2l
  have hT2s : T2.length ≤ 6000 := by omega
  obtain ⟨A8, c8, rfl, hc8, -, hA8, hr8⟩ := hown8.form2
  have HA8 := Lib.hid hA8
  have Hr8 := Lib.hid hr8
  clear hT2 hT2l hown8 hA8 hr8
  have hX8 := hX6.rd.kept (row := none) (only_of_below hb8 none) (by simp)
  have hRx8 : Rx < w6.heap.size := hX6.rd.lt
  have hb8w := hb6.trans (hb8.mono hs6)
  clear hX6 hb6
  go_wp2_with fail
  refine (newReaderB_any A8 _ c8 T2 w8 rfl hc8 (by omega) HA8.out w8.heap.size (Nat.le_refl _) Hr8.out).mono ?_
  rintro e w9 ⟨Ry, rfl, hY9, hb9'⟩
  have hRy : w8.heap.size ≤ Ry := hY9.1
  have hX9 := hX8.kept (row := none) (only_of_below hb9' none) (by simp)
  have hb9 := hb8w.trans (hb9'.mono hb8w.size)
  have hs9 := hb9.size
  have hbox9 := hbox.below hb9 (by have := hbox.lt; omega)
  clear HA8 Hr8 hb8w hb8 hb9' hc8 hX8
  -- meet, twice
  have d0 : w9.cell? ⟨w.heap.size, 0, none⟩ = some (.int .i64 s) := hbox9.cell 0
  have d1 : w9.cell? ⟨w.heap.size, 1, none⟩ = some (.int .i64 m) := hbox9.cell 1
  have d2 : w9.cell? ⟨w.heap.size, 2, none⟩ = some (.int .u64 (x : Int)) := hbox9.cell 2
  have d3 : w9.cell? ⟨w.heap.size, 3, none⟩ = some (.slice A n c) := hbox9.cell 3
  have hm9 := meet_any Rx T1 0 s m x A n c t u1 w9 hX9 hx Hn.out (by omega) w.heap.size (by omega) (Hr.out.below (hb3.trans (hb9.mono hs3))) (by rw [List.drop_zero, HT1.out, Hpb.out]) (by omega)
  rw [← Hpb.out, ← HL.out, Nat.zero_add] at hm9
  unfold part at hm9
  have HM9 := Lib.hid hm9
  clear hm9 hX9
  go_wp2_with fail
  refine HM9.out.mono ?_
  rintro e w10 ⟨rfl, hX10, hg10⟩
  have hb10 := hb9.grown hg10 hs9 (by intro k e; injection e with e; omega)
  have hs10 := hb10.size
  have hY10 := hY9.kept hg10 (by intro k e; injection e with e; omega)
  have hbox10 := hbox9.grown hg10 (by intro e; injection e with e; have := hbox.lt; omega)
  clear d0 d1 d2 d3 HM9 hg10 hY9 hbox9 hb9 hs9
  have d0 : w10.cell? ⟨w.heap.size, 0, none⟩ = some (.int .i64 s) := hbox10.cell 0
  have d1 : w10.cell? ⟨w.heap.size, 1, none⟩ = some (.int .i64 m) := hbox10.cell 1
  have d2 : w10.cell? ⟨w.heap.size, 2, none⟩ = some (.int .u64 (x : Int)) := hbox10.cell 2
  have d3 : w10.cell? ⟨w.heap.size, 3, none⟩ = some (.slice A n c) := hbox10.cell 3
  have hm10 := meet_any Ry T2 0 s m x A n c t u2 w10 hY10.rd hx Hn.out (by omega) w.heap.size (by omega) (Hr.out.below (hb3.trans (hb10.mono hs3))) (by rw [List.drop_zero, HT2.out, Hpb.out]) (by omega)
  rw [← Hpb.out, ← HL.out, Nat.zero_add] at hm10
  unfold part at hm10
  have HM10 := Lib.hid hm10
  clear hm10 hY10
  go_wp2_with fail
  refine HM10.out.mono ?_
  rintro e w11 ⟨rfl, hY11, hg11⟩
  have hb11 := hb10.grown hg11 hs10 (by intro k e; injection e with e; omega)
  have hX11 := hX10.kept hg11 (by intro k e; injection e with e; omega)
  have hbox11 := hbox10.grown hg11 (by intro e; injection e with e; have := hbox.lt; omega)
  have hs11 := hb11.size
  clear d0 d1 d2 d3 HM10 hg11 hX10 hbox10 hb10 hs10
  go_wp2_with fail
  refine (left_rd Rx T1 L false _ hX11 (by omega)).mono ?_
  rintro e w12 ⟨rfl, hX12, hg12⟩
  rw [show (T1.length : Int) - (L : Int) = (n1 : Int) by have := HT1l.out; omega]
  have hb12 := hb11.grown hg12 hs11 (by simp)
  have hY12 := hY11.kept hg12 (by simp)
  have hbox12 := hbox11.grown hg12 (by simp)
  have hs12 := hb12.size
  clear hg12 hX11 hY11 hbox11 hb11 hs11
  go_wp2_with fail
  refine (left_rd Ry T2 L false _ hY12 (by omega)).mono ?_
  rintro e w13 ⟨rfl, hY13, hg13⟩
  rw [show (T2.length : Int) - (L : Int) = (n2 : Int) by have := HT2l.out; omega]
  have hb13 := hb12.grown hg13 hs12 (by simp)
  have hX13 := hX12.kept hg13 (by simp)
  have hbox13 := hbox12.grown hg13 (by simp)
  have hs13 := hb13.size
  clear hg13 hX12 hY12 hbox12 hb12 hs12
  go_wp2_with fail
  refine (err_rd Rx T1 L false _ hX13).mono ?_
  rintro e w14 ⟨rfl, rfl⟩
  rw [if_neg (by decide)]
  clear hX13 hY13
  have hbw13 := hb3.trans (hb13.mono hs3)
  rcases Nat.eq_zero_or_pos L with hL0 | hL0
  · subst hL0
    go_wp2_with fail
    refine (awake_any _).mono ?_
    rintro e w15 ⟨rfl, hb15⟩
    have hb16 := hbw13.trans (hb15.mono hbw13.size)
    go_wp2_with fail
    go_ret
    exact ⟨rfl, hb16⟩
  have hLe : ((L : Int) == 0) = false := by rw [beq_eq_false_iff_ne]; omega
  obtain ⟨K0, hK0, hK1⟩ := and16 cut
  have hKL : K0 % L < L := Nat.mod_lt _ hL0
  go_wp2_with fail
  obtain ⟨K, hK⟩ : ∃ K, K = K0 % L := ⟨_, rfl⟩
  have hKi : (K0 : Int) % (L : Int) = (K : Int) := by rw [hK]; simp
  rw [hKi, ← hK]
  rw [← hK] at hKL
  obtain ⟨z, hz⟩ : ∃ z, z = pb.take K := ⟨_, rfl⟩
  have hzl : K = z.length := by rw [hz, List.length_take, ← HL.out]; omega
  have hrz : Reads w13 w3.heap.size 1 A3 K (Lib.byteCells z) := by
    have h1 := (Hr3.out.below hb13).take (k := K) (by rw [← HL.out]; omega)
    rwa [byteCells_take, ← hz] at h1
  have hcutp : rdPart (s % 5) (n : Int) (z.drop 0) = none := by
    rw [List.drop_zero, hz, Hpb.out, Hn.out]
    exact rd_cut (s % 5) (by omega) x t K hx (by rw [← Hn.out]; omega) (by rw [← Hpb.out, ← HL.out]; exact hKL)
  have Hzl := Lib.hid hzl
  have Hcut := Lib.hid hcutp
  have hzs : z.length ≤ 3000 := by omega
  clear hK hKi hK0 hz hcutp hLe
  refine (newReaderB_any A3 K c3 z w13 hzl (by omega) (by omega) HA3.out w3.heap.size hs13 hrz).mono ?_
  clear hrz hzl
  rintro e w15 ⟨Rz, rfl, hZ15, hb15⟩
  have hRz := hZ15.1
  have hbox15 := hbox13.below hb15 (by have := hbox13.lt; omega)
  have hb16 := hb13.trans (hb15.mono hs13)
  have hbl13 := hbox13.lt
  have d0 : w15.cell? ⟨w.heap.size, 0, none⟩ = some (.int .i64 s) := hbox15.cell 0
  have d1 : w15.cell? ⟨w.heap.size, 1, none⟩ = some (.int .i64 m) := hbox15.cell 1
  have d2 : w15.cell? ⟨w.heap.size, 2, none⟩ = some (.int .u64 (x : Int)) := hbox15.cell 2
  have d3 : w15.cell? ⟨w.heap.size, 3, none⟩ = some (.slice A n c) := hbox15.cell 3
  have f1 := hbox15.frozen 1
  have hZ16 := hZ15.kept (row := some w.heap.size) (only_setCell (World.grownBy.refl _ _) (p := ⟨w.heap.size, 1, none⟩) (Or.inl rfl) (.int .i64 (n : Int))) (by intro k e; injection e with e; omega)
  have hget := fun W h => get_any Rz z 0 s (n : Int) (x : Int) A n c W h (by omega) (by omega)
  rw [Hcut.out] at hget
  unfold part at hget
  have HG := Lib.hid hget
  have hb17 : Below w.heap.size w (w15.setCell ⟨w.heap.size, 1, none⟩ (.int .i64 (n : Int))) := (hb3.trans (hb16.mono hs3)).setCell (Nat.le_refl _) _
  clear hget hZ15 hbox13 hbox15 hb13 hb15 hb16 Hcut
  go_wp2_with fail
  refine (HG.out _ hZ16.rd).mono ?_
  rintro e w18 ⟨hg18, ⟨_, _, _, e1, _⟩ | ⟨-, rfl, hrd18⟩⟩
  · cases e1
  rw [show str [] = ⟨#[]⟩ from rfl]
  have hb18 := hb17.grown hg18 hb17.size (by intro k e; injection e with e; omega)
  clear d0 d1 d2 d3 f1 hZ16 HG hg18 hb17
  go_wp2_with fail
  refine (left_rd Rz z 0 true _ hrd18 (by omega)).mono ?_
  rintro e w19 ⟨rfl, hrd19, hg19⟩
  rw [← Hzl.out, show ((K : Int) - ((0 : Nat) : Int)) = (K : Int) by omega]
  have hb19 := hb18.grown hg19 hb18.size (by simp)
  clear hrd18 hg19 hb18
  go_wp2_with fail
  refine (err_rd Rz z 0 true _ hrd19).mono ?_
  rintro e w20 ⟨rfl, rfl⟩
  rw [if_pos rfl]
  go_wp2_with fail
  refine (awake_any _).mono ?_
  rintro e w21 ⟨rfl, hb21⟩
  have hb22 := hb19.trans (hb21.mono hb19.size)
  go_wp2_with fail
  go_ret
  exact ⟨rfl, hb22⟩
end Go.Proofs.YtbbikkncobgabaaDoor
