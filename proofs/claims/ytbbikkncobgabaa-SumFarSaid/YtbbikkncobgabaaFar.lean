/-
  scrivenerlaw01.SumFar: the walk. By an AI agent.
-/
import Derived.Test.YtbbikkncobgabaaAwake
import Derived.Test.YtbbikkncobgabaaTrack
import Derived.BigQuiet
import Derived.Deep.QuietTactic
import Derived.StillTailTactics
import Derived.IntWalk
namespace Go.Proofs.Ytbbikkncobgabaa
open Go.RowKit

theorem Owns.turnedN {w : World} {base g cap n : Nat} {l : List UInt8} (h : Owns w base (.slice (some ⟨g, 0, none⟩) n cap) l) (hn : l.length = n) (j : Nat) (x : Int) (h0 : 0 ≤ x) (h1 : x ≤ 255) :
    ∃ l' : List UInt8, l'.length = n ∧ Owns (w.setCell ⟨g, j, none⟩ (.int .u8 x)) base (.slice (some ⟨g, 0, none⟩) n cap) l' := by
  subst hn; exact h.turned j x h0 h1
theorem xor_hi (a b : UInt8) : 0 ≤ bits .xor .u8 (a.toNat : Int) (b.toNat : Int) ∧ bits .xor .u8 (a.toNat : Int) (b.toNat : Int) ≤ 255 := by
  have ha := a.toNat_lt
  have hb := b.toNat_lt
  rw [u8_xor_nat _ _ (by omega) (by omega)]
  have := Nat.xor_lt_two_pow (n := 8) (x := a.toNat) (y := b.toNat) (by omega) (by omega)
  omega

set_option maxRecDepth 100000 in
set_option maxHeartbeats 4000000 in
theorem far_any (A : Option Addr) (c : Nat) (l : List UInt8) (A1 : Option Addr) (c1 : Nat) (l1 : List UInt8) (x : Int) (w : World) (hcl : l.length ≤ c) (hr : Reads w w.heap.size 1 A l.length (Lib.byteCells l))
    (hc1 : l1.length ≤ c1) (hr1 : Reads w w.heap.size 1 A1 l1.length (Lib.byteCells l1)) :
    Calls Try.prog 7 #[.slice A l.length c, .slice A1 l1.length c1, .int .i64 x] w fun e w' => e = .returned (.bool true) ∧ Below w.heap.size w w' := by
  by_cases hbig : 65536 < l.length
  · go_enter Try.func7, Try.ntmps7
    go_wp2_with fail
    refine (awake_any _).mono ?_
    rintro e w1 ⟨rfl, hb⟩
    go_wp2_with fail
    go_ret
    exact ⟨rfl, hb⟩
  by_cases hzero : l.length = 0
  · have hz : ((l.length : Int) == 0) = true := by rw [hzero]; rfl
    have hl : l.length ≤ 65536 := by omega
    clear hbig hzero
    go_enter Try.func7, Try.ntmps7
    go_wp2_with fail
    refine (awake_any _).mono ?_
    rintro e w1 ⟨rfl, hb⟩
    go_wp2_with fail
    go_ret
    exact ⟨rfl, hb⟩
  · have hl : l.length ≤ 65536 := by omega
    have hl0 : 1 ≤ l.length := by omega
    have hz : ((l.length : Int) == 0) = false := by rw [beq_eq_false_iff_ne]; omega
    clear hbig hzero
    have hlit := Owns.lit w w.heap.size [] (Nat.le_refl _) (Nat.zero_le _)
    obtain ⟨m, hm, hlow⟩ := Crc.low24 x
    go_enter Try.func7, Try.ntmps7
    go_wp2_with (at_builtin; refine wpList_app rfl _ _ rfl w.heap.size _ [] rfl hlit w.heap.size _ _ _ l rfl rfl ?_ ?_ ?_ ?_)
    · exact hr.alloc (Nat.le_refl _) _
    · simp; omega
    · simp
    intro v2 w2 hown2 hg2 _
    have hb : Below w.heap.size w w2 := ((Below.refl _ w).alloc (Nat.le_refl _) _).grown hg2 (by simp) (fun k h => (hlit.lt k h).1)
    have hs2 := hb.size
    clear hlit hg2
    obtain ⟨g, cap, rfl, hcap, hg0, -, -, -⟩ := hown2.row (by first | omega | (simp; omega))
    replace hown2 : Owns w2 w.heap.size (.slice (some ⟨g, 0, none⟩) l.length cap) l := by simpa using hown2
    replace hcap : l.length ≤ cap := by simpa using hcap
    try rw [show (([] : List UInt8) ++ l).length = l.length from rfl]
    go_wp2_with fail
    obtain ⟨K, hK, hKl⟩ : ∃ K : Nat, (m : Int) % (l.length : Int) = (K : Int) ∧ K < l.length :=
      ⟨m % l.length, by simp, Nat.mod_lt _ hl0⟩
    rw [hK]
    clear hK hlow
    go_loopw [9] (fun i wr => ∃ (j : Nat) (L : List UInt8), K + j ≤ l.length ∧ i = .int .i64 j ∧ Below w.heap.size w wr ∧ L.length = l.length ∧ Owns wr w.heap.size (.slice (some ⟨g, 0, none⟩) l.length cap) L ∧ w2.heap.size ≤ wr.heap.size) (fun i _ => l.length - (intOf i).toNat)
    case atStart => exact ⟨0, l, by omega, rfl, hb, rfl, hown2, Nat.le_refl _⟩
    case round =>
      clear hown2 hb
      obtain ⟨j, L, hj, rfl, hb, hL, hown, hs⟩ := hrel
      rcases (by omega : (j < l1.length ∧ K + j < l.length) ∨ (j < l1.length ∧ ¬ K + j < l.length) ∨ ¬ j < l1.length) with ⟨h1, h2⟩ | ⟨h1, h2⟩ | h1
      · obtain ⟨ad, rfl, hadb, hcell⟩ := (hr1.below hb).get h1
        rw [byteCells_get l1 j h1] at hcell
        have hcell2 := hown.cell (K + j) (by omega)
        have hfree := hown.free (by omega) (K + j)
        have hsum : IntKind.i64.wrap ((K : Int) + (j : Int)) = (K : Int) + (j : Int) := IntWalk.i64_in _ (by omega)
        have hsn : ((K : Int) + (j : Int)).toNat = K + j := by omega
        have hs0 : 0 ≤ (K : Int) + (j : Int) := by omega
        have hs1 : (K : Int) + (j : Int) < l.length := by omega
        have hj1 : (j : Int) < l1.length := by omega
        have hlc : l1.length ≤ c1 := hc1
        go_wp2_with fail
        go_still_tail 12, (by kernel_rfl)
        change wpList _ _ _ _ _ wr.drew
        have hcell3 : wr.drew.cell? (ad.add j) = some (Value.int IntKind.u8 ↑l1[j].toNat) := hcell
        have hcell4 : wr.drew.cell? { block := g, off := K + j } = some (Value.int IntKind.u8 ↑L[K + j].toNat) := hcell2
        have hfree2 : wr.drew.frozen? { block := g, off := K + j } = false := hfree
        clear hcell hcell2 hfree
        go_wp2_with fail
        obtain ⟨L2, hL2, hown2⟩ := hown.turnedN hL (K + j) _ (xor_hi L[K + j] l1[j]).1 (xor_hi L[K + j] l1[j]).2
        go_roundw
        case rel => exact ⟨j + 1, L2, by omega, by go_num, (hb.setCell hg0 _).drew, hL2, hown2, Nat.le_trans hs (by simp)⟩
        case measure => simp [intOf]; omega
      all_goals
        have hsz := hb.size
        have hcvb := conv_bytes wr _ A _ c l rfl (hr.below hb)
        have hcvc := hown.conv
        by_cases heq : l = L
        · have hd : ((str l).toList == (str L).toList) = true := by rw [str_eq]; simpa using heq
          clear heq
          go_wp2_with fail
          refine (awake_any _).mono ?_
          rintro e w8 ⟨rfl, hb8⟩
          have hb9 := hb.trans (hb8.mono hsz)
          go_wp2_with fail
          go_ret
          exact ⟨rfl, hb9⟩
        · have hd : ((str l).toList == (str L).toList) = false := by rw [str_eq]; simpa using heq
          have Hne := Lib.hid heq
          clear heq
          go_wp2_with fail
          clear hcvb hcvc hd
          refine (shut_any _ _ l _ (by omega) hcl _ hsz (hr.below hb)).mono ?_
          rintro e w8 ⟨v8, rfl, hown8, hb8⟩
          have hb9 := hb.trans (hb8.mono hsz)
          have hown9 := hown.below hb8
          have hs9 := hb9.size
          obtain ⟨_, _, e1, _, _, hr9⟩ := hown9.form
          injection e1 with e2 e3 e4
          subst e2
          rw [hL] at hr9
          have HL := Lib.hid hL.symm
          clear hL e3 e4
          go_wp2_with fail
          refine (shut_n _ _ _ L _ HL.out (by omega) hcap _ (Nat.le_refl _) hr9).mono ?_
          rintro e w10 ⟨v10, rfl, hown10, hb10⟩
          replace hown8 := hown8.below hb10
          have hb11 := hb9.trans (hb10.mono hs9)
          have hs11 := hb11.size
          clear hown9 hown hr9 hb8 hb9 hb10
          obtain ⟨A8, c8, rfl, hc8, hm8, hr8⟩ := hown8.form
          obtain ⟨A10, c10, rfl, hc10, hm10, hr10⟩ := hown10.form
          have hlen8 : (Crc.shut l).length = l.length + 4 := by simp [Crc.shut, Crc.le4_length]
          have hlen10 : (Crc.shut L).length = l.length + 4 := by simp [Crc.shut, Crc.le4_length, HL.out]
          rw [hlen8] at hr8 hc8 ⊢
          rw [hlen10] at hr10 hc10 ⊢
          have Hlen8 := Lib.hid hlen8
          have Hlen10 := Lib.hid hlen10
          clear hlen8 hlen10 hown8 hown10 hm8 hm10
          obtain ⟨E, hE⟩ : ∃ E, E = Crc.bitsOf (Crc.xors (Crc.shut l) (Crc.shut L)) := ⟨_, rfl⟩
          have HE := Lib.hid hE
          clear hE
          go_wp2_with fail
          go_loopw [12, 13, 14, 15] (fun f la mn i wr3 => ∃ (k : Nat) (F La M : Int), k ≤ l.length + 4 ∧ f = .int .i64 F ∧ la = .int .i64 La ∧ mn = .int .i64 M ∧ i = .int .i64 k ∧ Below w10.heap.size w10 wr3 ∧ Crc.Track E (8 * k) M F La) (fun _ _ _ i _ => l.length + 4 - (intOf i).toNat)
          case atStart => exact ⟨0, -1, -1, 0, by omega, rfl, rfl, rfl, rfl, Below.refl _ _, Crc.Track.start _⟩
          case round =>
            obtain ⟨k, F, La, M, hk, rfl, rfl, rfl, rfl, hbl, ht⟩ := hrel
            have hbd := ht.bounds
            by_cases hk2 : k < l.length + 4
            · obtain ⟨ad, rfl, hadb, hcell8⟩ := (hr8.below hbl).get hk2
              obtain ⟨ad2, rfl, hadb2, hcell10⟩ := (hr10.below hbl).get hk2
              have hi8 : k < (Crc.shut l).length := by rw [Hlen8.out]; exact hk2
              have hi10 : k < (Crc.shut L).length := by rw [Hlen10.out]; exact hk2
              rw [byteCells_get _ k hi8] at hcell8
              rw [byteCells_get _ k hi10] at hcell10
              have hbit := fun t (ht : t < 8) => Crc.far_bit (Crc.shut l) (Crc.shut L) (by rw [Hlen8.out, Hlen10.out]) k t ht hi8 hi10
              rw [← HE.out] at hbit
              clear hcell8 hcell10
              have hx8 : ∀ wr, Below w10.heap.size w10 wr → wr.cell? (ad.add k) = some (.int .u8 ((Crc.shut l)[k].toNat : Int)) := fun wr h => by
                obtain ⟨ad', e, _, hc⟩ := (hr8.below h).get hk2
                rw [byteCells_get _ k hi8] at hc
                injection e with e
                rw [e]; exact hc
              have hx10 : ∀ wr, Below w10.heap.size w10 wr → wr.cell? (ad2.add k) = some (.int .u8 ((Crc.shut L)[k].toNat : Int)) := fun wr h => by
                obtain ⟨ad', e, _, hc⟩ := (hr10.below h).get hk2
                rw [byteCells_get _ k hi10] at hc
                injection e with e
                rw [e]; exact hc
              generalize (Crc.shut l)[k] = a at hbit hx8
              generalize (Crc.shut L)[k] = b at hbit hx10
              have Hx8 := Lib.hid hx8
              have Hx10 := Lib.hid hx10
              have Hbit := Lib.hid hbit
              clear hx8 hx10 hbit hi8 hi10
              go_wp2_with fail
              go_loopw [12, 13, 14, 16] (fun f la mn i wr3 => ∃ (t : Nat) (F La M : Int), t ≤ 8 ∧ f = .int .i64 F ∧ la = .int .i64 La ∧ mn = .int .i64 M ∧ i = .int .i64 t ∧ Below w10.heap.size w10 wr3 ∧ Crc.Track E (8 * k + t) M F La) (fun _ _ _ i _ => 8 - (intOf i).toNat)
              case atStart => exact ⟨0, _, _, _, by omega, rfl, rfl, rfl, rfl, hbl, ht⟩
              case round =>
                clear hbl ht hbd
                obtain ⟨t, F, La, M, ht8, rfl, rfl, rfl, rfl, hbl, ht⟩ := hrel
                have hbd := ht.bounds
                have h8 := Hx8.out _ hbl
                have h10 := Hx10.out _ hbl
                have h8' := Hx8.out _ hbl.drew
                have h10' := Hx10.out _ hbl.drew
                rcases (by omega : t < 8 ∨ t = 8) with htlt | rfl
                · have hdt : decide ((t : Int) < 8) = true := by rw [decide_eq_true_eq]; omega
                  by_cases hab : a = b
                  · have hnb : ((a.toNat : Int) == (b.toNat : Int)) = true := by subst hab; simp
                    have Hab := Lib.hid hab
                    clear hab
                    go_wp2_with fail
                    go_quiet (fail)
                    clear h8 h10 h8' h10'
                    go_wp2_with fail
                    go_roundw
                    case rel =>
                      refine ⟨k + 1, F, La, M, by omega, rfl, rfl, rfl, by go_num, below_drewN hbl nq, ?_⟩
                      have := ht.skips (8 - t) (fun j hj => by
                        have := Hbit.out (t + j) (by omega)
                        rw [Hab.out, UInt8.xor_self] at this
                        rw [show 8 * k + t + j = 8 * k + (t + j) by omega, this]
                        simp)
                      rw [show 8 * k + t + (8 - t) = 8 * (k + 1) by omega] at this
                      exact this
                    case measure => simp [intOf]; omega
                  · have hnb : ((a.toNat : Int) == (b.toNat : Int)) = false := by
                      rw [beq_eq_false_iff_ne]
                      intro h
                      exact hab (UInt8.toNat_inj.1 (Int.ofNat_inj.1 h))
                    clear hab
                    go_wp2_with fail
                    go_quiet (fail)
                    have h8n := Hx8.out _ (below_drewN hbl nq)
                    have h10n := Hx10.out _ (below_drewN hbl nq)
                    have ht0 : (0 : Int) ≤ (t : Int) := by omega
                    have ht1 : (t : Int) < 8 := by omega
                    have htn : ((t : Int)).toNat = t := by omega
                    have hxl := (xor_hi a b).1
                    have hxh := (xor_hi a b).2
                    go_wp2_with fail
                    go_quiet (fail)
                    clear h8 h10 h8' h10' h8n h10n
                    have htest := Crc.bitTest a b t
                    have hat := Hbit.out t htlt
                    have hbl3 := below_drewN (below_drewN hbl nq) 0
                    cases hbv : (a ^^^ b).toNat.testBit t
                    · rw [hbv] at htest hat
                      clear hbv
                      go_wp2_with fail
                      go_roundw
                      case rel => exact ⟨t + 1, F, La, M, by omega, rfl, rfl, rfl, by go_num, below_drewN hbl _, ht.skip hat⟩
                      case measure => simp [intOf]; omega
                    · rw [hbv] at htest hat
                      clear hbv
                      have hset := ht.set hat
                      have hM1 : IntKind.i64.wrap (M + 1) = M + 1 := IntWalk.i64_in _ (by omega)
                      have hP1 : IntKind.i64.wrap (8 * (k : Int)) = 8 * (k : Int) := IntWalk.i64_in _ (by omega)
                      have hP2 : IntKind.i64.wrap (8 * (k : Int) + (t : Int)) = 8 * (k : Int) + (t : Int) := IntWalk.i64_in _ (by omega)
                      by_cases hF : F < 0
                      · have hFd : decide (F < 0) = true := by simpa using hF
                        rw [if_pos hF] at hset
                        have Hset := Lib.hid hset
                        clear hset
                        go_wp2_with fail
                        go_roundw
                        case rel => exact ⟨t + 1, ((8 * k + t : Nat) : Int), ((8 * k + t : Nat) : Int), M + 1, by omega, by go_num, by go_num, rfl, by go_num, below_drewN hbl _, Hset.out⟩
                        case measure => simp [intOf]; omega
                      · have hFd : decide (F < 0) = false := by simpa using hF
                        rw [if_neg hF] at hset
                        have Hset := Lib.hid hset
                        clear hset
                        go_wp2_with fail
                        go_roundw
                        case rel => exact ⟨t + 1, F, ((8 * k + t : Nat) : Int), M + 1, by omega, rfl, by go_num, rfl, by go_num, below_drewN hbl _, Hset.out⟩
                        case measure => simp [intOf]; omega
                · clear h8 h10 h8' h10'
                  have hdt : decide (((8 : Nat) : Int) < 8) = false := rfl
                  go_wp2_with fail
                  go_quiet (fail)
                  go_wp2_with fail
                  go_roundw
                  case rel => exact ⟨k + 1, F, La, M, by omega, rfl, rfl, rfl, by go_num, below_drewN hbl _, by rw [show 8 * (k + 1) = 8 * k + 8 by omega]; exact ht⟩
                  case measure => simp [intOf]; omega
            · have hke : k = l.length + 4 := by omega
              subst hke
              have hfar := Crc.Track.far (HL.out) hl Hne.out (by rw [HE.out, ← Hlen8.out] at ht; exact ht)
              obtain ⟨hf1, hf2⟩ := hfar
              have hdd : IntKind.i64.wrap (La - F) = La - F := IntWalk.i64_in _ (by omega)
              have hdm : decide ((4 : Int) ≤ M) = true := by simpa using hf1
              have hds : decide ((32 : Int) ≤ La - F) = true := by simpa using hf2
              clear hf1 hf2 ht hbd
              have hb12 := hb11.trans (hbl.mono hs11)
              have hs12 := hb12.size
              go_wp2_with fail
              refine (awake_any _).mono ?_
              rintro e w13 ⟨rfl, hb13⟩
              have hb14 := hb12.trans (hb13.mono hs12)
              go_wp2_with fail
              go_ret
              exact ⟨rfl, hb14⟩
end Go.Proofs.Ytbbikkncobgabaa
