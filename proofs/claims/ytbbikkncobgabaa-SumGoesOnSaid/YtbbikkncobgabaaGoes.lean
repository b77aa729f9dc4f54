/-
  scrivenerlaw01.SumGoesOn: the walk. By an AI agent.
-/
import Derived.Test.YtbbikkncobgabaaAwake
import Derived.Test.YtbbikkncobgabaaTrack
import Derived.Deep.RegionHeld3
import Derived.IntWalk
namespace Go.Proofs.Ytbbikkncobgabaa
open Go.RowKit
attribute [local go_sem] Crc.le4_0 Crc.le4_1 Crc.le4_2 Crc.le4_3

theorem Crc.low8 (x : Int) : ∃ m : Nat, m ≤ 255 ∧ bits .and .i64 x 255 = (m : Int) := by
  have h : ((BitVec.ofInt 64 x &&& BitVec.ofInt 64 255).toNat) ≤ 255 := by
    rw [BitVec.toNat_and, show (BitVec.ofInt 64 255).toNat = 255 from rfl]
    exact Nat.and_le_right
  refine ⟨(BitVec.ofInt 64 x &&& BitVec.ofInt 64 255).toNat, h, ?_⟩
  show IntKind.i64.wrap ((BitVec.ofInt 64 x &&& BitVec.ofInt 64 255).toNat : Int) = _
  rw [IntKind.wrap_i64]
  omega

/-- the sum of two texts, one behind the other -/
theorem sum_two (A : Option Addr) (n c : Nat) (l : List UInt8) (A2 : Option Addr) (n2 c2 : Nat) (l2 : List UInt8) (k : Nat) (w : World) (hk : w.heap.size = k) (hn : n = l.length) (hm : n ≤ maxLen) (hcl : n ≤ c) (hr : Reads w w.heap.size 1 A n (Lib.byteCells l))
    (hn2 : n2 = l2.length) (hm2 : n2 ≤ maxLen) (hcl2 : n2 ≤ c2) (hr2 : Reads w w.heap.size 1 A2 n2 (Lib.byteCells l2)) :
    Calls Try.prog 9 #[.slice (some ⟨k, 0, none⟩) 2 2] (w.alloc (.cells #[.slice A n c, .slice A2 n2 c2] 23)) fun e w' => e = .returned (.int .u32 (Crc.U (Crc.sum (l ++ l2)))) ∧ Below w.heap.size w w' := by
  subst hk
  refine (sum_of _ 2 2 [.slice A n c, .slice A2 n2 c2] [l, l2] _ (by simp [maxLen]) (w.heap.size + 1) (by simp) (Reads.laid w #[.slice A n c, .slice A2 n2 c2] _) (Parts.consN hn hcl hm ((hr.alloc (Nat.le_refl _) _).more (by omega)) (Parts.consN hn2 hcl2 hm2 ((hr2.alloc (Nat.le_refl _) _).more (by omega)) (Parts.nil _ _)))).mono ?_
  rintro e w' ⟨rfl, hb⟩
  exact ⟨by simp, ((Below.refl _ w).alloc (Nat.le_refl _) _).trans (hb.mono (by simp))⟩

theorem Blk.newAt (w : World) (t : TypeId) (cs : Array Value) (k : Nat) (h : w.heap.size = k) : Blk (w.alloc (.cells cs t)) k t cs := by subst h; exact Blk.new w t cs

/-- the same, wherever the two lie -/
theorem two_at (A : Option Addr) (n c : Nat) (l : List UInt8) (A2 : Option Addr) (n2 c2 : Nat) (l2 : List UInt8) (k : Nat) (W w : World) (hb : Below W.heap.size W w) (hk : Blk w k 23 #[.slice A n c, .slice A2 n2 c2])
    (hn : n = l.length) (hm : n ≤ maxLen) (hcl : n ≤ c) (hr : Reads W W.heap.size 1 A n (Lib.byteCells l))
    (hn2 : n2 = l2.length) (hm2 : n2 ≤ maxLen) (hcl2 : n2 ≤ c2) (hr2 : Reads W W.heap.size 1 A2 n2 (Lib.byteCells l2)) :
    Calls Try.prog 9 #[.slice (some ⟨k, 0, none⟩) 2 2] w fun e w' => e = .returned (.int .u32 (Crc.U (Crc.sum (l ++ l2)))) ∧ Below w.heap.size w w' := by
  have hs := hb.size
  refine (sum_of _ 2 2 [.slice A n c, .slice A2 n2 c2] [l, l2] _ (by simp [maxLen]) w.heap.size (Nat.le_refl _) ⟨rfl, fun _ => ⟨_, rfl, hk.lt, fun j u hu => ?_⟩⟩
    (Parts.consN hn hcl hm ((hr.below hb).more hs) (Parts.consN hn2 hcl2 hm2 ((hr2.below hb).more hs) (Parts.nil _ _)))).mono ?_
  · match j, hu with
    | 0, hu => have := hk.cell 0; simp [Addr.add] at this hu ⊢; rw [this, hu]
    | 1, hu => have := hk.cell 1; simp [Addr.add] at this hu ⊢; rw [this, hu]
    | j + 2, hu => simp at hu
  rintro e w' ⟨rfl, hb⟩
  exact ⟨by simp, hb⟩

set_option maxRecDepth 100000 in
set_option maxHeartbeats 4000000 in
theorem goes_any (A : Option Addr) (c : Nat) (l : List UInt8) (A1 : Option Addr) (c1 : Nat) (l1 : List UInt8) (A2 : Option Addr) (c2 : Nat) (l2 : List UInt8) (X Y : BitVec 32) (x : Int) (w : World)
    (hc : l.length ≤ c) (hr : Reads w w.heap.size 1 A l.length (Lib.byteCells l)) (hc1 : l1.length ≤ c1) (hr1 : Reads w w.heap.size 1 A1 l1.length (Lib.byteCells l1))
    (hc2 : l2.length ≤ c2) (hr2 : Reads w w.heap.size 1 A2 l2.length (Lib.byteCells l2)) :
    Calls Try.prog 5 #[.slice A l.length c, .slice A1 l1.length c1, .slice A2 l2.length c2, .int .u32 (Crc.U X), .int .u32 (Crc.U Y), .int .i64 x] w fun e w' => e = .returned (.bool true) ∧ Below w.heap.size w w' := by
  rcases (by omega : 20000 < l.length ∨ (l.length ≤ 20000 ∧ 20000 < l1.length) ∨ (l.length ≤ 20000 ∧ l1.length ≤ 20000 ∧ 20000 < l2.length) ∨ (l.length ≤ 20000 ∧ l1.length ≤ 20000 ∧ l2.length ≤ 20000)) with h0 | ⟨h0, h1⟩ | ⟨h0, h1, h2⟩ | ⟨h0, h1, h2⟩
  iterate 3
    · go_enter Try.func5, Try.ntmps5
      go_wp2_with fail
      refine (awake_any _).mono ?_
      rintro e w1 ⟨rfl, hb⟩
      go_wp2_with fail
      go_ret
      exact ⟨rfl, hb⟩
  obtain ⟨m, hm, hlow⟩ := Crc.low8 x
  obtain ⟨K, hK, hKl⟩ : ∃ K : Nat, (m : Int) % 5 = (K : Int) ∧ K < 5 := ⟨m % 5, by simp, Nat.mod_lt _ (by decide)⟩
  have x0 := Crc.U_lo X
  have x1 := Crc.U_hi X
  have y0 := Crc.U_lo Y
  have y1 := Crc.U_hi Y
  go_enter Try.func5, Try.ntmps5
  go_wp2_with fail
  refine (sum_one A _ c _ l _ rfl rfl (by unfold maxLen; omega) hc hr).mono ?_
  rintro e w1 ⟨rfl, hb⟩
  have hs := hb.size
  go_wp2_with fail
  refine (sum_one A1 _ c1 _ l1 _ rfl rfl (by unfold maxLen; omega) hc1 ((hr1.below hb).more hs)).mono ?_
  rintro e w2 ⟨rfl, hb2⟩
  replace hb := hb.trans (hb2.mono hs)
  replace hs := hb.size
  clear hb2
  go_wp2_with fail
  refine (sum_two A _ c l A2 _ c2 l2 _ _ rfl rfl (by unfold maxLen; omega) hc ((hr.below hb).more hs) rfl (by unfold maxLen; omega) hc2 ((hr2.below hb).more hs)).mono ?_
  rintro e w3 ⟨rfl, hb2⟩
  replace hb := hb.trans (hb2.mono hs)
  replace hs := hb.size
  clear hb2
  have hgo : ((Crc.U (Crc.sum l) == Crc.U (Crc.sum l1)) != (Crc.U (Crc.sum (l ++ l2)) == Crc.U (Crc.sum (l1 ++ l2)))) = false := by
    have e1 : (Crc.U (Crc.sum l) == Crc.U (Crc.sum l1)) = decide (Crc.sum l = Crc.sum l1) := by
      by_cases h : Crc.sum l = Crc.sum l1
      · simp [h]
      · rw [decide_eq_false h, beq_eq_false_iff_ne]; exact fun h2 => h ((Crc.U_inj _ _).1 h2)
    have e2 : (Crc.U (Crc.sum (l ++ l2)) == Crc.U (Crc.sum (l1 ++ l2))) = decide (Crc.sum l = Crc.sum l1) := by
      have hg := Crc.goes_on l l1 l2
      by_cases h : Crc.sum l = Crc.sum l1
      · rw [decide_eq_true h, hg.2 h]; simp
      · rw [decide_eq_false h, beq_eq_false_iff_ne]; exact fun h2 => h (hg.1 ((Crc.U_inj _ _).1 h2))
    rw [e1, e2]; simp
  have hgo2 : (!((Crc.U (Crc.sum l) == Crc.U (Crc.sum l1)) == (Crc.U (Crc.sum (l ++ l2)) == Crc.U (Crc.sum (l1 ++ l2))))) = false := by
    generalize (Crc.U (Crc.sum l) == Crc.U (Crc.sum l1)) = a at *
    generalize (Crc.U (Crc.sum (l ++ l2)) == Crc.U (Crc.sum (l1 ++ l2))) = b at *
    cases a <;> cases b <;> simp_all
  go_wp2_with fail
  refine (sum_two A1 _ c1 l1 A2 _ c2 l2 _ _ rfl rfl (by unfold maxLen; omega) hc1 ((hr1.below hb).more hs) rfl (by unfold maxLen; omega) hc2 ((hr2.below hb).more hs)).mono ?_
  rintro e w4 ⟨rfl, hb2⟩
  replace hb := hb.trans (hb2.mono hs)
  replace hs := hb.size
  clear hb2
  go_wp2_with fail
  have Hp : Reads ((w4.alloc (.cells #[.int .u8 ((Crc.b4 X 0).toNat : Int), .int .u8 ((Crc.b4 X 1).toNat : Int), .int .u8 ((Crc.b4 X 2).toNat : Int), .int .u8 ((Crc.b4 X 3).toNat : Int)] 5)).alloc (.cells #[.int .u8 ((Crc.b4 Y 0).toNat : Int), .int .u8 ((Crc.b4 Y 1).toNat : Int), .int .u8 ((Crc.b4 Y 2).toNat : Int), .int .u8 ((Crc.b4 Y 3).toNat : Int)] 5)) (w4.heap.size + 2) 1 (some ⟨w4.heap.size, 0, none⟩) 4 (Lib.byteCells (Crc.le4 X)) :=
    ((Reads.laid w4 #[.int .u8 ((Crc.b4 X 0).toNat : Int), .int .u8 ((Crc.b4 X 1).toNat : Int), .int .u8 ((Crc.b4 X 2).toNat : Int), .int .u8 ((Crc.b4 X 3).toNat : Int)] 5).alloc (by simp) _).more (by omega)
  have Hq : Reads ((w4.alloc (.cells #[.int .u8 ((Crc.b4 X 0).toNat : Int), .int .u8 ((Crc.b4 X 1).toNat : Int), .int .u8 ((Crc.b4 X 2).toNat : Int), .int .u8 ((Crc.b4 X 3).toNat : Int)] 5)).alloc (.cells #[.int .u8 ((Crc.b4 Y 0).toNat : Int), .int .u8 ((Crc.b4 Y 1).toNat : Int), .int .u8 ((Crc.b4 Y 2).toNat : Int), .int .u8 ((Crc.b4 Y 3).toNat : Int)] 5)) (w4.heap.size + 2) 1 (some ⟨w4.heap.size + 1, 0, none⟩) 4 (Lib.byteCells (Crc.le4 Y)) :=
    (Reads.laidAt _ (w4.heap.size + 1) #[.int .u8 ((Crc.b4 Y 0).toNat : Int), .int .u8 ((Crc.b4 Y 1).toNat : Int), .int .u8 ((Crc.b4 Y 2).toNat : Int), .int .u8 ((Crc.b4 Y 3).toNat : Int)] 5 (by simp))
  have HB := (hb.alloc hs (.cells #[.int .u8 ((Crc.b4 X 0).toNat : Int), .int .u8 ((Crc.b4 X 1).toNat : Int), .int .u8 ((Crc.b4 X 2).toNat : Int), .int .u8 ((Crc.b4 X 3).toNat : Int)] 5)).alloc (by simp; omega) (.cells #[.int .u8 ((Crc.b4 Y 0).toNat : Int), .int .u8 ((Crc.b4 Y 1).toNat : Int), .int .u8 ((Crc.b4 Y 2).toNat : Int), .int .u8 ((Crc.b4 Y 3).toNat : Int)] 5)
  have hsz : ((w4.alloc (.cells #[.int .u8 ((Crc.b4 X 0).toNat : Int), .int .u8 ((Crc.b4 X 1).toNat : Int), .int .u8 ((Crc.b4 X 2).toNat : Int), .int .u8 ((Crc.b4 X 3).toNat : Int)] 5)).alloc (.cells #[.int .u8 ((Crc.b4 Y 0).toNat : Int), .int .u8 ((Crc.b4 Y 1).toNat : Int), .int .u8 ((Crc.b4 Y 2).toNat : Int), .int .u8 ((Crc.b4 Y 3).toNat : Int)] 5)).heap.size = w4.heap.size + 2 := by simp
  rw [hK]
  generalize ((w4.alloc (.cells #[.int .u8 ((Crc.b4 X 0).toNat : Int), .int .u8 ((Crc.b4 X 1).toNat : Int), .int .u8 ((Crc.b4 X 2).toNat : Int), .int .u8 ((Crc.b4 X 3).toNat : Int)] 5)).alloc (.cells #[.int .u8 ((Crc.b4 Y 0).toNat : Int), .int .u8 ((Crc.b4 Y 1).toNat : Int), .int .u8 ((Crc.b4 Y 2).toNat : Int), .int .u8 ((Crc.b4 Y 3).toNat : Int)] 5)) = W at *
  rw [← hsz] at Hp Hq
  generalize w4.heap.size = g at *
  clear hb hgo hgo2 hlow hK hsz
  obtain ⟨P, hP, hPl⟩ : ∃ P, P = (Crc.le4 X).take K ∧ K = P.length := ⟨_, rfl, by simp [Crc.le4_length]; omega⟩
  obtain ⟨Q, hQ, hQl⟩ : ∃ Q, Q = (Crc.le4 Y).take K ∧ K = Q.length := ⟨_, rfl, by simp [Crc.le4_length]; omega⟩
  replace Hp := Hp.take (show K ≤ 4 by omega)
  replace Hq := Hq.take (show K ≤ 4 by omega)
  rw [byteCells_take, ← hP] at Hp
  rw [byteCells_take, ← hQ] at Hq
  have Hsh := Crc.short_apart l P Q (by omega) (by omega)
  clear hP hQ
  have hsW := HB.size
  have HS := Lib.hid (p := ∀ w', Below W.heap.size W w' → (convert 23 9 (.slice (some ⟨g, 0, none⟩) K 4)).run Try.prog w' = .ok (.string (str P)) w' ∧ (convert 23 9 (.slice (some ⟨g + 1, 0, none⟩) K 4)).run Try.prog w' = .ok (.string (str Q)) w' ∧ Below W.heap.size W w') (fun w' h => ⟨conv_bytes w' _ _ K 4 P hPl (Hp.below h), conv_bytes w' _ _ K 4 Q hQl (Hq.below h), h⟩)
  obtain ⟨b, hbx⟩ : ∃ b : Bool, b = decide (P = Q) := ⟨_, rfl⟩
  have f1 : (Crc.U (Crc.sum (l ++ P)) == Crc.U (Crc.sum (l ++ Q))) = b := by
    rw [hbx]
    by_cases h : P = Q
    · simp [h]
    · rw [decide_eq_false h, beq_eq_false_iff_ne]; exact fun h2 => h (Hsh ((Crc.U_inj _ _).1 h2))
  have f2 : ((str P).toList == (str Q).toList) = b := by rw [hbx, str_eq]
  clear hbx Hsh
  have Hr := (hr.below HB).more hsW
  have HPl := Lib.hid hPl
  have HQl := Lib.hid hQl
  clear hPl hQl hr hr1 hr2
  have Two := fun (w' : World) (k : Nat) (h : Below W.heap.size W w') (hk : Blk w' k 23 #[.slice A l.length c, .slice (some ⟨g, 0, none⟩) K 4]) => two_at A l.length c l (some ⟨g, 0, none⟩) K 4 P k W w' h hk rfl (by unfold maxLen; omega) hc Hr HPl.out (by unfold maxLen; omega) (by omega) Hp
  have Two' := fun (w' : World) (k : Nat) (h : Below W.heap.size W w') (hk : Blk w' k 23 #[.slice A l.length c, .slice (some ⟨g + 1, 0, none⟩) K 4]) => two_at A l.length c l (some ⟨g + 1, 0, none⟩) K 4 Q k W w' h hk rfl (by unfold maxLen; omega) hc Hr HQl.out (by unfold maxLen; omega) (by omega) Hq
  have T1 := Lib.hid Two
  have T2 := Lib.hid Two'
  clear Two Two' Hp Hq Hr
  have hK0 : (0 : Int) ≤ (K : Int) := by omega
  have hK4 : (K : Int) ≤ 4 := by omega
  have hKn : (K : Int).toNat = K := by omega
  have HB0 := HS.out W (Below.refl _ _)
  cases b
  all_goals
    go_region_held3 (fun w' => (convert 23 9 (.slice (some ⟨g, 0, none⟩) K 4)).run Try.prog w' = .ok (.string (str P)) w' ∧ (convert 23 9 (.slice (some ⟨g + 1, 0, none⟩) K 4)).run Try.prog w' = .ok (.string (str Q)) w' ∧ Below W.heap.size W w')
      (first
        | exact HS.out _ (Below.refl _ _).drew
        | (go_split_ands; refine HS.out _ ?_; (((repeat' (first | with_reducible assumption | with_reducible exact Below.refl _ _ | with_reducible refine Below.drew ?_ | with_reducible refine Below.alloc ?_ ?_ _)); all_goals (first | exact Nat.le_refl _ | (refine Below.size (B := ?_) ?_; rotate_left; with_reducible assumption) | (simp; done) | (simp; omega) | omega)); done))
        | (go_split_ands; refine HS.out _ ?_; refine Below.trans ?_ (hb5.mono ?_); (focus (((repeat' (first | with_reducible assumption | with_reducible exact Below.refl _ _ | with_reducible refine Below.drew ?_ | with_reducible refine Below.alloc ?_ ?_ _)); all_goals (first | exact Nat.le_refl _ | (refine Below.size (B := ?_) ?_; rotate_left; with_reducible assumption) | (simp; done) | (simp; omega) | omega)); done)); (first | exact Nat.le_refl _ | (simp; done) | (simp; omega) | (refine Below.size (B := W.heap.size) ?_; ((repeat' (first | with_reducible assumption | with_reducible exact Below.refl _ _ | with_reducible refine Below.drew ?_ | with_reducible refine Below.alloc ?_ ?_ _)); all_goals (first | exact Nat.le_refl _ | (refine Below.size (B := ?_) ?_; rotate_left; with_reducible assumption) | (simp; done) | (simp; omega) | omega)); done))))
      (first
        | (go_at_call 9; go_split_ands; refine (T1.out _ _ ?_ ?_).mono ?_; with_reducible assumption; (focus ((repeat' (first | with_reducible refine Blk.drew ?_ | with_reducible exact Blk.newAt _ _ _ _ (by simp) | with_reducible refine Blk.alloc ?_ _)); done)); rintro e w5 ⟨rfl, hb5⟩)
        | (go_at_call 9; go_split_ands; refine (T2.out _ _ ?_ ?_).mono ?_; with_reducible assumption; (focus ((repeat' (first | with_reducible refine Blk.drew ?_ | with_reducible exact Blk.newAt _ _ _ _ (by simp) | with_reducible refine Blk.alloc ?_ _)); done)); rintro e w5 ⟨rfl, hb5⟩)
        | (go_at_call 9; go_split_ands; refine (T2.out _ _ ?_ ?_).mono ?_; with_reducible assumption; (repeat' (with_reducible refine Blk.drew ?_)); (refine Blk.below ?_ hb5 ?_; (focus ((repeat' (first | with_reducible refine Blk.drew ?_ | with_reducible exact Blk.newAt _ _ _ _ (by simp) | with_reducible refine Blk.alloc ?_ _)); done)); (focus (first | (simp; done) | (simp; omega)))); rintro e w5 ⟨rfl, hb5⟩)
        | (go_at_call 8; refine (awake_any _).mono ?_; rintro e w5 ⟨rfl, hb5⟩))
    all_goals
      go_split_ands
      go_wp2_with fail
      go_ret
      refine ⟨rfl, HB.trans (Below.mono (B := W.heap.size) ?_ hsW)⟩
      with_reducible assumption
end Go.Proofs.Ytbbikkncobgabaa
