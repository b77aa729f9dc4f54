/-
  scrivenerlaw02.CodeGets answers true. By an AI agent.
-/
import Derived.Test.YtbbikkncobgabaaDoorGets2
import Derived.Deep.QuietTactic
import Derived.BigQuiet
import Derived.Deep.DrawnRows
import Derived.Outline
namespace Go.Proofs.YtbbikkncobgabaaDoor
open Go.RowKit
attribute [local go_sem ↓] Go.wp_at_zero Go.wp_at_succ

set_option maxRecDepth 100000 in
set_option maxHeartbeats 8000000 in
theorem gets_any (A : Option Addr) (N c : Nat) (l : List UInt8) (A2 : Option Addr) (n2 c2 : Nat) (ps : List Pt) (w : World) (hn : N = l.length) (hr : Reads w w.heap.size 1 A N (Lib.byteCells l)) (hm : N ≤ 9223372036854775807)
    (hn2 : n2 = ps.length) (hm2 : n2 ≤ 9223372036854775807) (h2 : PartsIn w w.heap.size A2 ps) :
    Calls Tryd.prog 5 #[.slice A N c, .slice A2 n2 c2] w fun e w' => e = .returned (.bool true) ∧ Below w.heap.size w w' := by
  have Hn := Lib.hid hn
  have Hn2 := Lib.hid hn2
  have HG := Lib.hid (great_any A2 n2 c2 w.heap.size ps w hn2 hm2 h2)
  have HP := Lib.hid h2
  have Hr := Lib.hid hr
  clear hn hn2 h2 hr
  by_cases hbig : 20000 < N
  · have hd : decide ((20000 : Int) < (N : Int)) = true := by rw [decide_eq_true_eq]; omega
    go_enter Tryd.func5, Tryd.ntmps5
    go_wp2_with fail
    refine HG.out.mono ?_
    rintro e w' ⟨g1, rfl, -, rfl⟩
    cases g1
    · go_wp2_with fail
      refine (awake_any _).mono ?_
      rintro e w1 ⟨rfl, hb⟩
      go_wp2_with fail
      go_ret
      exact ⟨rfl, hb⟩
    · go_wp2_with fail
      refine (awake_any _).mono ?_
      rintro e w1 ⟨rfl, hb⟩
      go_wp2_with fail
      go_ret
      exact ⟨rfl, hb⟩
  have hd : decide ((20000 : Int) < (N : Int)) = false := by rw [decide_eq_false_iff_not]; omega
  go_enter Tryd.func5, Tryd.ntmps5
  go_wp2_with fail
  refine HG.out.mono ?_
  rintro e w' ⟨g1, rfl, -, rfl⟩
  cases g1
  rotate_left
  · go_wp2_with fail
    refine (awake_any _).mono ?_
    rintro e w1 ⟨rfl, hb⟩
    go_wp2_with fail
    go_ret
    exact ⟨rfl, hb⟩
  have hN : N ≤ 20000 := by omega
  have hlen : l.length ≤ 140737488355328 := by have := Hn.out; omega
  clear HG
  go_wp2_with (at_builtin; refine wpList_app rfl (.tmp 22) (.tmp 23) rfl w.heap.size _ [] rfl (Owns.bare0 w _ (Nat.le_refl _)) w.heap.size _ _ _ l rfl Hn.out (Hr.out.alloc (Nat.le_refl _) _) ?_ ?_ ?_)
  · first | omega | (simp; omega)
  · first | omega | simp
  intro v1 w1 hown1' hg1 _
  have hown1 : Owns w1 w.heap.size v1 l := hown1'
  have hb1 : Below w.heap.size w w1 := ((Below.refl _ w).alloc (Nat.le_refl _) _).grown hg1 (by simp) (fun k hk => by simp [Value.ownBlock] at hk; omega)
  have hs1 := hb1.size
  obtain ⟨A1, c1, rfl, hc1, -, hA1, hr1⟩ := hown1.form2
  rw [← Hn.out] at hown1 hc1 hr1 ⊢
  clear hown1' hg1 hd hbig
  go_wp2_with fail
  refine (newReaderB_any A1 N c1 l w1 Hn.out hc1 (by omega) hA1 w1.heap.size (Nat.le_refl _) hr1).mono ?_
  rintro e w2 ⟨R, rfl, hR, hb2⟩
  have hRS : w1.heap.size ≤ R := hR.1
  have hR2 : R < w2.heap.size := hR.rd.lt
  have hs2 := hb2.size
  have hfar : ∀ g, (Value.slice A1 N c1).ownBlock = some g → w.heap.size ≤ g ∧ g < w1.heap.size := hown1.lt
  have hown2 := hown1.below hb2
  have hb12 := hb1.trans (hb2.mono hs1)
  have hr2 := Hr.out.below hb12
  have hs12 := hb12.size
  clear hr1 hown1 hb1 hb2
  go_wp2_with (at_builtin; refine wpList_app rfl (.tmp 27) (.tmp 28) rfl w2.heap.size _ [] rfl (Owns.bare0 w2 _ (Nat.le_refl _)) w.heap.size _ _ _ l rfl Hn.out (hr2.alloc hs12 _) ?_ ?_ ?_)
  · first | omega | (simp; omega)
  · first | omega | simp
  intro v3 w3 hown3' hg3 _
  have hown3 : Owns w3 w2.heap.size v3 l := hown3'
  have hb3 : Below w2.heap.size w2 w3 := ((Below.refl _ w2).alloc (Nat.le_refl _) _).grown hg3 (by simp) (fun k hk => by simp [Value.ownBlock] at hk; omega)
  have hs3 := hb3.size
  obtain ⟨A3, c3, rfl, hc3, hm3, hA3, hr3⟩ := hown3.form2
  obtain ⟨lo, hlo⟩ : ∃ lo, lo = w2.heap.size := ⟨_, rfl⟩
  obtain ⟨D, hD⟩ : ∃ D, D = w3.heap.size := ⟨_, rfl⟩
  have hb34 := hb3.alloc hs3 (.cells #[.slice A3 l.length c3, .bool false] 51)
  have hDr : Dr (w3.alloc (.cells #[.slice A3 l.length c3, .bool false] 51)) lo D l false := by
    subst hlo hD
    refine ⟨hs3, A3, c3, Blk.new _ _ _, hc3, hm3, hA3, (hr3.alloc (Nat.le_refl _) _).more (by simp), ?_⟩
    intro ad e h0
    obtain ⟨g, cap, e2, -, hg, -⟩ := hown3.row h0
    injection e2 with e2 _ _
    rw [e] at e2
    injection e2 with e2
    have h9 := hown3.lt ad.block (by rw [e]; rfl)
    exact ⟨h9.1, by omega⟩
  have hRB := hR.kept (only_of_below hb34 none) (fun k e => by cases e)
  have hb4 := hb12.trans (hb34.mono hs12)
  have hown4 := hown2.below hb34
  rw [← Hn.out] at hDr hRB hb4 hown4 ⊢
  have hRlo : R < lo := by omega
  have hDlo : lo ≤ D := by omega
  have hs14 : w1.heap.size ≤ lo := by omega
  have HD := Lib.hid hD
  have Hlo := Lib.hid hlo
  clear hr2 hown2 hown3 hown3' hg3 hb3 hc3 hm3 hA3 hr3 hb34 hR hb12 hD hlo
  go_wp2_with fail
  rw [← HD.out]
  obtain ⟨w4, hw4⟩ : ∃ w4, w4 = w3.alloc (.cells #[.slice A3 N c3, .bool false] 51) := ⟨_, rfl⟩
  rw [← hw4] at hDr hRB hb4 hown4 ⊢
  clear hw4 HD Hlo
  go_loopw [8] (fun i wx => ∃ j l', j ≤ N ∧ l'.length = N ∧ i = .int .i64 (j : Nat) ∧ Owns wx w.heap.size (.slice A1 N c1) l' ∧ w4.grownBy wx (Value.slice A1 N c1).ownBlock) (fun i _ => N - (intOf i).toNat)
  case atStart => exact ⟨0, l, Nat.zero_le _, Hn.out.symm, rfl, hown4, World.grownBy.refl _ _⟩
  case round =>
    obtain ⟨j, l', hj, hl', rfl, hown', hgx⟩ := hrel
    have Hl' := Lib.hid hl'
    clear hown4
    by_cases hjm : j < N
    · have hjl : j < l'.length := by rw [hl']; exact hjm
      obtain ⟨g, cap, e, -, -, -, -, -⟩ := hown'.row (by omega)
      injection e with e1 e2 e3
      subst e1 e3
      clear e2
      have hcell := hown'.cell j hjl
      have hfr := hown'.free (by omega) j
      generalize l'[j] = b at hcell
      clear hl' hjl
      have b0 := byte_lo8 b
      have b1 := byte_hi8 b
      go_wp2_with fail
      go_roundw
      case rel =>
        have hx := hown'
        rw [← Hl'.out] at hx
        obtain ⟨l'', h1, h2⟩ := hx.turned j _ (wrap_u8_lo _) (wrap_u8_hi _)
        rw [Hl'.out] at h1 h2
        exact ⟨j + 1, l'', by omega, h1, by go_num, h2, only_setCell (g := g) hgx (Or.inl rfl) _⟩
      case measure => simp [intOf]; omega
    · clear hl' Hl' hown'
      obtain ⟨w5, rfl⟩ : ∃ w5 : World, w5 = wr := ⟨_, rfl⟩
      have hRd0 := (hRB.kept hgx (fun k e => (hfar k e).2)).rd
      have hDr0 := hDr.kept hgx (fun k e => by have := (hfar k e).2; omega)
      have hb5 := hb4.grown hgx hb4.size (fun g e => (hfar g e).1)
      clear hRB hDr hb4 hgx hfar
      go_wp2_with fail
      go_loopw [9] (fun i wx => ∃ (k q : Nat) (bad : Bool), k ≤ n2 ∧ i = .int .i64 (k : Nat) ∧ Rd wx R l q bad ∧ Dr wx lo D (l.drop q) bad ∧ Below w.heap.size w wx) (fun i _ => n2 - (intOf i).toNat)
      case atStart => exact ⟨0, 0, false, Nat.zero_le _, rfl, hRd0, hDr0, hb5⟩
      case round =>
        obtain ⟨k, q, bad, hk, rfl, hRd, hD, hb⟩ := hrel
        clear hRd0 hDr0 hb5
        have hs := hb.size
        have hlen2 : (l.drop q).length ≤ 1000000 := by rw [List.length_drop]; have := Hn.out; omega
        obtain ⟨wo, rfl⟩ : ∃ wo : World, wo = wr := ⟨_, rfl⟩
        by_cases hkn : k < n2
        · have hkl : k < ps.length := by rw [← Hn2.out]; exact hkn
          obtain ⟨ad, p, A5, c5, rfl, hadb, -, ⟨-, -, hmost⟩, hf, -, -, -, -⟩ := (HP.out.below hb).at_ hkl
          have hab : (ad.add (k * 4)).block < w.heap.size := by rw [block_of_add]; exact hadb
          have hget := get_one R l q bad p.s p.m p.x A5 p.t.length c5 wo hRd hmost hlen
          unfold part at hget
          have HGet := Lib.hid hget
          have Hf := Lib.hid hf
          obtain ⟨q0, q1, q2, q3⟩ := hf
          clear hget hRd
          go_wp2_with fail
          refine HGet.out.mono ?_
          rintro e w5' ⟨hg5, y, t, j, b, rfl, hRd5, hO⟩
          have hD5 := hD.kept hg5 (fun k e => by injection e with e; omega)
          have hb5 := hb.grown hg5 hs (fun g e => by injection e with e; omega)
          have hf5 := Hf.out.kept hg5 (fun e => by injection e with e; omega)
          have hs5 := hb5.size
          have hsort := sort_any p.s p.m p.x A5 p.t.length c5 w5'
          unfold part at hsort
          have HSort := Lib.hid hsort
          have Hf5 := Lib.hid hf5
          clear q0 q1 q2 q3 hsort HGet hg5 hD hb hs Hf
          obtain ⟨q0, q1, q2, q3⟩ := hf5
          go_wp2_with fail
          refine HSort.out.mono ?_
          rintro e w6 ⟨rfl, hg6⟩
          have hRd6 := hRd5.kept hg6 (fun k e => by cases e)
          have hD6 := hD5.kept hg6 (fun k e => by cases e)
          have hb6 := hb5.grown hg6 hs5 (fun g e => by cases e)
          have hf6 := Hf5.out.kept hg6 (fun e => by cases e)
          have hs6 := hb6.size
          clear q0 q1 q2 q3 HSort hg6 hD5 hb5 hs5 Hf5 hRd5
          obtain ⟨q0, q1, q2, q3⟩ := hf6
          have hk5 : p.s % 5 = 0 ∨ p.s % 5 = 1 ∨ p.s % 5 = 2 ∨ p.s % 5 = 3 ∨ p.s % 5 = 4 := by omega
          rcases hk5 with h5 | h5 | h5 | h5 | h5
          · rw [h5] at hO ⊢
            obtain ⟨rfl, hcall⟩ := wide1_one lo D (l.drop q) p.m bad y t j b w6 hD6 hO hlen2
            rw [str_no]
            have HC := Lib.hid hcall
            clear hcall
            go_wp2_with fail
            refine HC.out.mono ?_
            rintro e w7 ⟨rfl, hD7, hg7⟩
            have hRd7 := hRd6.kept hg7 (fun k e => by injection e with e; omega)
            have hb7 := hb6.grown hg7 hs6 (fun g e => by injection e with e; omega)
            rw [List.drop_drop] at hD7
            have hq7 := hRd7.le
            obtain ⟨M, hM⟩ : ∃ M, M = (l.drop (q + j)).length := ⟨_, rfl⟩
            have hM2 : (l.length : Int) - ((q + j : Nat) : Int) = (M : Int) := by rw [hM, List.length_drop]; omega
            have HL := Lib.hid (fun r : Nat => left_q R l (q + j) b M (w7.drewN r) (show Rd (w7.drewN r) R l (q + j) b from hRd7) hlen hM2)
            obtain ⟨A7, c7, d0, d1, -⟩ := hD7.cells
            rw [← hM] at d0
            have HR7 := Lib.hid hRd7
            have HD7 := Lib.hid hD7
            have HB7 := Lib.hid hb7
            clear hM hM2 hq7 hD7 hb7 hRd6 hD6 hb6 hs6 hg7 hO HC
            cases b
            · have HE := Lib.hid (fun r : Nat => err_q R l (q + j) false 0 (w7.drewN r) (show Rd (w7.drewN r) R l (q + j) false from hRd7) rfl)
              clear hRd7
              go_wp2_with fail
              go_quiet ((first | (go_at_call 23; exact Calls.quiet_of (HL.out _)) | (go_at_call 24; exact Calls.quiet_of_same (HE.out _))))
              go_wp2_with fail
              go_roundw
              case rel => exact ⟨k + 1, q + j, false, by omega, by go_num, HR7.out, HD7.out, below_drewN HB7.out _⟩
              case measure => simp [intOf]; omega
            · have HE := Lib.hid (fun r : Nat => err_q R l (q + j) true 2 (w7.drewN r) (show Rd (w7.drewN r) R l (q + j) true from hRd7) rfl)
              clear hRd7
              go_wp2_with fail
              go_quiet ((first | (go_at_call 23; exact Calls.quiet_of (HL.out _)) | (go_at_call 24; exact Calls.quiet_of_same (HE.out _))))
              go_wp2_with fail
              go_roundw
              case rel => exact ⟨k + 1, q + j, true, by omega, by go_num, HR7.out, HD7.out, below_drewN HB7.out _⟩
              case measure => simp [intOf]; omega
          · rw [h5] at hO ⊢
            obtain ⟨rfl, hcall⟩ := wide4_one lo D (l.drop q) p.m bad y t j b w6 hD6 hO hlen2
            rw [str_no]
            have HC := Lib.hid hcall
            clear hcall
            go_wp2_with fail
            refine HC.out.mono ?_
            rintro e w7 ⟨rfl, hD7, hg7⟩
            have hRd7 := hRd6.kept hg7 (fun k e => by injection e with e; omega)
            have hb7 := hb6.grown hg7 hs6 (fun g e => by injection e with e; omega)
            rw [List.drop_drop] at hD7
            have hq7 := hRd7.le
            obtain ⟨M, hM⟩ : ∃ M, M = (l.drop (q + j)).length := ⟨_, rfl⟩
            have hM2 : (l.length : Int) - ((q + j : Nat) : Int) = (M : Int) := by rw [hM, List.length_drop]; omega
            have HL := Lib.hid (fun r : Nat => left_q R l (q + j) b M (w7.drewN r) (show Rd (w7.drewN r) R l (q + j) b from hRd7) hlen hM2)
            obtain ⟨A7, c7, d0, d1, -⟩ := hD7.cells
            rw [← hM] at d0
            have HR7 := Lib.hid hRd7
            have HD7 := Lib.hid hD7
            have HB7 := Lib.hid hb7
            clear hM hM2 hq7 hD7 hb7 hRd6 hD6 hb6 hs6 hg7 hO HC
            cases b
            · have HE := Lib.hid (fun r : Nat => err_q R l (q + j) false 0 (w7.drewN r) (show Rd (w7.drewN r) R l (q + j) false from hRd7) rfl)
              clear hRd7
              go_wp2_with fail
              go_quiet ((first | (go_at_call 23; exact Calls.quiet_of (HL.out _)) | (go_at_call 24; exact Calls.quiet_of_same (HE.out _))))
              go_wp2_with fail
              go_roundw
              case rel => exact ⟨k + 1, q + j, false, by omega, by go_num, HR7.out, HD7.out, below_drewN HB7.out _⟩
              case measure => simp [intOf]; omega
            · have HE := Lib.hid (fun r : Nat => err_q R l (q + j) true 2 (w7.drewN r) (show Rd (w7.drewN r) R l (q + j) true from hRd7) rfl)
              clear hRd7
              go_wp2_with fail
              go_quiet ((first | (go_at_call 23; exact Calls.quiet_of (HL.out _)) | (go_at_call 24; exact Calls.quiet_of_same (HE.out _))))
              go_wp2_with fail
              go_roundw
              case rel => exact ⟨k + 1, q + j, true, by omega, by go_num, HR7.out, HD7.out, below_drewN HB7.out _⟩
              case measure => simp [intOf]; omega
          · rw [h5] at hO ⊢
            obtain ⟨rfl, hcall⟩ := uint_one lo D (l.drop q) p.m bad y t j b w6 hD6 hO hlen2
            rw [str_no]
            have HC := Lib.hid hcall
            clear hcall
            go_wp2_with fail
            refine HC.out.mono ?_
            rintro e w7 ⟨rfl, hD7, hg7⟩
            have hRd7 := hRd6.kept hg7 (fun k e => by injection e with e; omega)
            have hb7 := hb6.grown hg7 hs6 (fun g e => by injection e with e; omega)
            rw [List.drop_drop] at hD7
            have hq7 := hRd7.le
            obtain ⟨M, hM⟩ : ∃ M, M = (l.drop (q + j)).length := ⟨_, rfl⟩
            have hM2 : (l.length : Int) - ((q + j : Nat) : Int) = (M : Int) := by rw [hM, List.length_drop]; omega
            have HL := Lib.hid (fun r : Nat => left_q R l (q + j) b M (w7.drewN r) (show Rd (w7.drewN r) R l (q + j) b from hRd7) hlen hM2)
            obtain ⟨A7, c7, d0, d1, -⟩ := hD7.cells
            rw [← hM] at d0
            have HR7 := Lib.hid hRd7
            have HD7 := Lib.hid hD7
            have HB7 := Lib.hid hb7
            clear hM hM2 hq7 hD7 hb7 hRd6 hD6 hb6 hs6 hg7 hO HC
            cases b
            · have HE := Lib.hid (fun r : Nat => err_q R l (q + j) false 0 (w7.drewN r) (show Rd (w7.drewN r) R l (q + j) false from hRd7) rfl)
              clear hRd7
              go_wp2_with fail
              go_quiet ((first | (go_at_call 23; exact Calls.quiet_of (HL.out _)) | (go_at_call 24; exact Calls.quiet_of_same (HE.out _))))
              go_wp2_with fail
              go_roundw
              case rel => exact ⟨k + 1, q + j, false, by omega, by go_num, HR7.out, HD7.out, below_drewN HB7.out _⟩
              case measure => simp [intOf]; omega
            · have HE := Lib.hid (fun r : Nat => err_q R l (q + j) true 2 (w7.drewN r) (show Rd (w7.drewN r) R l (q + j) true from hRd7) rfl)
              clear hRd7
              go_wp2_with fail
              go_quiet ((first | (go_at_call 23; exact Calls.quiet_of (HL.out _)) | (go_at_call 24; exact Calls.quiet_of_same (HE.out _))))
              go_wp2_with fail
              go_roundw
              case rel => exact ⟨k + 1, q + j, true, by omega, by go_num, HR7.out, HD7.out, below_drewN HB7.out _⟩
              case measure => simp [intOf]; omega
          · rw [h5] at hO ⊢
            obtain ⟨rfl, hcall⟩ := text_one lo D (l.drop q) p.m bad y t j b w6 hD6 hO hmost hlen2
            rw [show ((0 : Nat) : Int) = 0 from rfl]
            have HC := Lib.hid hcall
            clear hcall
            go_wp2_with fail
            refine HC.out.mono ?_
            rintro e w7 ⟨rfl, hD7, hg7⟩
            have hRd7 := hRd6.kept hg7 (fun k e => by injection e with e; omega)
            have hb7 := hb6.grown hg7 hs6 (fun g e => by injection e with e; omega)
            rw [List.drop_drop] at hD7
            have hq7 := hRd7.le
            obtain ⟨M, hM⟩ : ∃ M, M = (l.drop (q + j)).length := ⟨_, rfl⟩
            have hM2 : (l.length : Int) - ((q + j : Nat) : Int) = (M : Int) := by rw [hM, List.length_drop]; omega
            have HL := Lib.hid (fun r : Nat => left_q R l (q + j) b M (w7.drewN r) (show Rd (w7.drewN r) R l (q + j) b from hRd7) hlen hM2)
            obtain ⟨A7, c7, d0, d1, -⟩ := hD7.cells
            rw [← hM] at d0
            have HR7 := Lib.hid hRd7
            have HD7 := Lib.hid hD7
            have HB7 := Lib.hid hb7
            clear hM hM2 hq7 hD7 hb7 hRd6 hD6 hb6 hs6 hg7 hO HC
            cases b
            · have HE := Lib.hid (fun r : Nat => err_q R l (q + j) false 0 (w7.drewN r) (show Rd (w7.drewN r) R l (q + j) false from hRd7) rfl)
              clear hRd7
              go_wp2_with fail
              go_quiet ((first | (go_at_call 23; exact Calls.quiet_of (HL.out _)) | (go_at_call 24; exact Calls.quiet_of_same (HE.out _))))
              go_wp2_with fail
              go_roundw
              case rel => exact ⟨k + 1, q + j, false, by omega, by go_num, HR7.out, HD7.out, below_drewN HB7.out _⟩
              case measure => simp [intOf]; omega
            · have HE := Lib.hid (fun r : Nat => err_q R l (q + j) true 2 (w7.drewN r) (show Rd (w7.drewN r) R l (q + j) true from hRd7) rfl)
              clear hRd7
              go_wp2_with fail
              go_quiet ((first | (go_at_call 23; exact Calls.quiet_of (HL.out _)) | (go_at_call 24; exact Calls.quiet_of_same (HE.out _))))
              go_wp2_with fail
              go_roundw
              case rel => exact ⟨k + 1, q + j, true, by omega, by go_num, HR7.out, HD7.out, below_drewN HB7.out _⟩
              case measure => simp [intOf]; omega
          · rw [h5] at hO ⊢
            obtain ⟨rfl, hcall⟩ := raw_one lo D (l.drop q) p.m bad y t j b w6 hD6 hO hlen2
            rw [show ((0 : Nat) : Int) = 0 from rfl]
            have HC := Lib.hid hcall
            clear hcall
            go_wp2_with fail
            refine HC.out.mono ?_
            rintro e w7 ⟨⟨v7, base7, rfl, hv7⟩, hD7, hg7⟩
            have C7 := hv7.conv
            clear hv7
            have hRd7 := hRd6.kept hg7 (fun k e => by injection e with e; omega)
            have hb7 := hb6.grown hg7 hs6 (fun g e => by injection e with e; omega)
            rw [List.drop_drop] at hD7
            have hq7 := hRd7.le
            obtain ⟨M, hM⟩ : ∃ M, M = (l.drop (q + j)).length := ⟨_, rfl⟩
            have hM2 : (l.length : Int) - ((q + j : Nat) : Int) = (M : Int) := by rw [hM, List.length_drop]; omega
            have HL := Lib.hid (fun r : Nat => left_q R l (q + j) b M (w7.drewN r) (show Rd (w7.drewN r) R l (q + j) b from hRd7) hlen hM2)
            obtain ⟨A7, c7, d0, d1, -⟩ := hD7.cells
            rw [← hM] at d0
            have HR7 := Lib.hid hRd7
            have HD7 := Lib.hid hD7
            have HB7 := Lib.hid hb7
            clear hM hM2 hq7 hD7 hb7 hRd6 hD6 hb6 hs6 hg7 hO HC
            cases b
            · have HE := Lib.hid (fun r : Nat => err_q R l (q + j) false 0 (w7.drewN r) (show Rd (w7.drewN r) R l (q + j) false from hRd7) rfl)
              clear hRd7
              go_wp2_with fail
              go_quiet ((first | (go_at_call 23; exact Calls.quiet_of (HL.out _)) | (go_at_call 24; exact Calls.quiet_of_same (HE.out _))))
              go_wp2_with fail
              go_roundw
              case rel => exact ⟨k + 1, q + j, false, by omega, by go_num, HR7.out, HD7.out, below_drewN HB7.out _⟩
              case measure => simp [intOf]; omega
            · have HE := Lib.hid (fun r : Nat => err_q R l (q + j) true 2 (w7.drewN r) (show Rd (w7.drewN r) R l (q + j) true from hRd7) rfl)
              clear hRd7
              go_wp2_with fail
              go_quiet ((first | (go_at_call 23; exact Calls.quiet_of (HL.out _)) | (go_at_call 24; exact Calls.quiet_of_same (HE.out _))))
              go_wp2_with fail
              go_roundw
              case rel => exact ⟨k + 1, q + j, true, by omega, by go_num, HR7.out, HD7.out, below_drewN HB7.out _⟩
              case measure => simp [intOf]; omega
        · obtain rfl : k = n2 := by omega
          have he := end_rd R l q bad wo hRd hlen
          have he2 : ∀ w', Dr w' lo D (l.drop q) bad → Calls Tryd.prog 34 #[.pointer (some ⟨D, 0, none⟩)] w' fun e w'' => e = .returned (.bool (bad || decide (q < l.length))) ∧ w'.grownBy w'' (some D) := fun w' h => by
            have h9 := endD lo D (l.drop q) bad w' h hlen2
            rw [show decide (0 < (l.drop q).length) = decide (q < l.length) by rw [List.length_drop]; exact decide_eq_decide.mpr (by omega)] at h9
            exact h9
          generalize (bad || decide (q < l.length)) = both at he he2
          have HE := Lib.hid he
          have HE2 := Lib.hid he2
          clear he he2
          cases both
          · have he3 := HE.out
            go_wp2_with fail
            rw [if_neg (by decide)] at he3
            refine he3.mono ?_
            rintro e w2' ⟨rfl, -, hg2⟩
            have hD2 := hD.kept hg2 (fun k e => by injection e with e; omega)
            have hb2 := hb.grown hg2 hs (fun g e => by injection e with e; omega)
            go_wp2_with fail
            refine (HE2.out _ hD2).mono ?_
            rintro e w3' ⟨rfl, hg3⟩
            have hb3 := hb2.grown hg3 hb2.size (fun g e => by injection e with e; omega)
            go_wp2_with fail
            refine (awake_any _).mono ?_
            rintro e w4' ⟨rfl, hb4⟩
            go_wp2_with fail
            go_ret
            exact ⟨rfl, hb3.trans (hb4.mono hb3.size)⟩
          · have he3 := HE.out
            go_wp2_with fail
            rw [if_pos trivial] at he3
            refine he3.mono ?_
            rintro e w2' ⟨rfl, -, hg2⟩
            have hD2 := hD.kept hg2 (fun k e => by injection e with e; omega)
            have hb2 := hb.grown hg2 hs (fun g e => by injection e with e; omega)
            go_wp2_with fail
            refine (HE2.out _ hD2).mono ?_
            rintro e w3' ⟨rfl, hg3⟩
            have hb3 := hb2.grown hg3 hb2.size (fun g e => by injection e with e; omega)
            go_wp2_with fail
            refine (awake_any _).mono ?_
            rintro e w4' ⟨rfl, hb4⟩
            go_wp2_with fail
            go_ret
            exact ⟨rfl, hb3.trans (hb4.mono hb3.size)⟩
end Go.Proofs.YtbbikkncobgabaaDoor
