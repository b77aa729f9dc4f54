/-
  scrivenerlaw01.SumSeals: the walk. By an AI agent.
-/
import Derived.Test.YtbbikkncobgabaaAwake
namespace Go.Proofs.Ytbbikkncobgabaa
open Go.RowKit

set_option maxRecDepth 100000 in
set_option maxHeartbeats 4000000 in
theorem seals_any (A : Option Addr) (c : Nat) (l : List UInt8) (w : World) (hcl : l.length ≤ c) (hr : Reads w w.heap.size 1 A l.length (Lib.byteCells l)) :
    Calls Try.prog 4 #[.slice A l.length c] w fun e w' => e = .returned (.bool true) ∧ Below w.heap.size w w' := by
  by_cases hbig : 20000 < l.length
  · go_enter Try.func4, Try.ntmps4
    go_wp2_with fail
    refine (awake_any _).mono ?_
    rintro e w1 ⟨rfl, hb⟩
    go_wp2_with fail
    go_ret
    exact ⟨rfl, hb⟩
  · have hl : l.length ≤ 20000 := by omega
    clear hbig
    have hcv := conv_bytes w _ A _ c l rfl hr
    go_enter Try.func4, Try.ntmps4
    go_wp2_with fail
    refine (shut_any _ _ l _ (by omega) hcl _ (Nat.le_refl _) hr).mono ?_
    rintro e w1 ⟨v1, rfl, hown1, hb1⟩
    have hs1 := hb1.size
    clear hcv
    obtain ⟨w2, cap2, hrun2, hr2, hc2, hb2⟩ := conv_str w1 l
    go_wp2_with fail
    clear hrun2
    have hb12 := hb1.trans (hb2.mono hs1)
    have hown2 := hown1.below hb2
    have hs2 := hb12.size
    clear hb2 hown1 hb1
    refine (refShut_any _ _ l _ (by omega) _ (Nat.le_refl _) hr2).mono ?_
    rintro e w3 ⟨v3, rfl, hown3, hb3⟩
    have hb13 := hb12.trans (hb3.mono hs2)
    have hown4 := hown2.below hb3
    have hs3 := hb13.size
    have hg3 : ∀ k, v1.ownBlock = some k → k < w3.heap.size := fun k h => (hown4.lt k h).2
    clear hb12 hown2 hb3 hr2 hs2 hc2
    go_wp2_with fail
    refine (open_any _ _ l _ (by omega) hcl ((hr.below hb13).more hs3)).mono ?_
    rintro e w4 ⟨v4, rfl, hown5, hb4⟩
    have hb14 := hb13.trans (hb4.mono hs3)
    have hown6 := hown4.below hb4
    have hown7 := hown3.below hb4
    have hs4 := hb14.size
    clear hb13 hown3 hown4
    obtain ⟨w5, cap5, hrun5, hr5, hc5, hb5⟩ := conv_str w4 l
    go_wp2_with fail
    clear hrun5
    have hb15 := hb14.trans (hb5.mono hs4)
    have hs5 := hb15.size
    replace hown5 := hown5.below hb5
    replace hown6 := hown6.below hb5
    replace hown7 := hown7.below hb5
    clear hb14 hb5
    refine (refOpen_any _ _ l _ (by omega) hc5 hr5).mono ?_
    rintro e w6 ⟨v6, rfl, hown8, hb6⟩
    have hb16 := hb15.trans (hb6.mono hs5)
    have hs6 := hb16.size
    replace hown5 := hown5.below hb6
    replace hown6 := hown6.below hb6
    replace hown7 := hown7.below hb6
    clear hb15 hb6 hr5 hc5 hs5
    have hg4 : ∀ k, v1.ownBlock = some k → k < w3.heap.size := hg3
    have ht : (opn l).isSome = false → (opn l).getD [] = [] := by cases opn l <;> simp
    generalize (opn l).getD [] = t at *
    generalize (opn l).isSome = ok at *
    have hcv1 := hown6.conv
    have hcv3 := hown7.conv
    have hcv4 := hown5.conv
    have hcv6 := hown8.conv
    obtain ⟨g, cap, rfl, hcap, hg0, hg1, -, -⟩ := hown6.row (by simp [Crc.shut, Crc.le4_length])
    have hg5 : g < w3.heap.size := hg4 g rfl
    obtain ⟨A4, c4, rfl, hc4, hm4, -⟩ := hown5.form
    unfold maxLen at hm4
    have hlen : (Crc.shut l).length ≤ 30000 := by simp [Crc.shut, Crc.le4_length]; omega
    clear hg4 hg3 hown7 hown8
    have hok : ok = false → t.length ≤ 0 := fun h => by rw [ht h]; exact Nat.le_refl _
    have hm5 : t.length ≤ 9223372036854775807 := by omega
    generalize hn4 : t.length = n4 at *
    have Hn4 := Lib.hid hn4
    generalize hn1 : (Crc.shut l).length = n1 at *
    have Hn1 := Lib.hid hn1
    clear ht hn4 hn1 hm4
    cases ok
    all_goals try have h0 : n4 ≤ 0 := hok rfl
    all_goals
      clear hok
      go_wp2_with fail
    all_goals try clear h0
    all_goals
      clear hcv1 hcv3 hcv4 hcv6
      go_loopw [10] (fun i wr => ∃ k : Nat, ∃ l' : List UInt8, k ≤ n1 ∧ l'.length = n1 ∧ i = .int .i64 k ∧ Owns wr w.heap.size (.slice (some ⟨g, 0, none⟩) n1 cap) l' ∧ Owns wr w3.heap.size (.slice A4 n4 c4) t ∧ Below w.heap.size w wr) (fun i _ => n1 - (intOf i).toNat)
      case atStart => exact ⟨0, _, Nat.zero_le _, Hn1.out, rfl, hown6, hown5, hb16⟩
      case round =>
        clear hown6 hown5 hb16 hs6 hg1
        obtain ⟨k, l', hk, hl', rfl, hown6, hown5, hb⟩ := hrel
        have Hl' := Lib.hid hl'
        by_cases hlt : k < n1
        · have hkl : k < l'.length := by rw [hl']; exact hlt
          have hcell := hown6.cell k hkl
          have hfr := hown6.free (by omega) k
          generalize l'[k] = b at hcell
          clear hl' hkl
          have b0 := byte_lo b
          have b1 := byte_hi b
          go_wp2_with fail
          go_roundw
          case rel =>
            have hx := hown6
            rw [← Hl'.out] at hx
            obtain ⟨l'', h1, h2⟩ := hx.turned k _ (wrap_u8_lo _) (wrap_u8_hi _)
            rw [Hl'.out] at h1 h2
            exact ⟨k + 1, l'', by omega, h1, by go_num, h2, hown5.apart hg5 _, hb.setCell hg0 _⟩
          case measure => simp [intOf]; omega
        · clear hl'
          go_wp2_with fail
          go_loopw [11] (fun i wr => ∃ k : Nat, ∃ l' : List UInt8, k ≤ n4 ∧ l'.length = n4 ∧ i = .int .i64 k ∧ Owns wr w3.heap.size (.slice A4 n4 c4) l' ∧ Below w.heap.size w wr) (fun i _ => n4 - (intOf i).toNat)
          case atStart => exact ⟨0, _, Nat.zero_le _, Hn4.out, rfl, hown5, hb⟩
          case round =>
            clear hown6 hown5 hb
            obtain ⟨k2, l2, hk2, hl2, rfl, hown5, hb⟩ := hrel
            have Hl2 := Lib.hid hl2
            by_cases hlt2 : k2 < n4
            · first
              | (exfalso; omega)
              | (obtain ⟨g4, cap4, e4, _, hg40, -, -, -⟩ := hown5.row (by omega)
                 injection e4 with e1 e2 e3
                 clear e2
                 subst e1 e3
                 have hkl : k2 < l2.length := by rw [hl2]; exact hlt2
                 have hcell := hown5.cell k2 hkl
                 have hfr := hown5.free (by omega) k2
                 generalize l2[k2] = b at hcell
                 clear hl2 hkl
                 have b0 := byte_lo b
                 have b1 := byte_hi b
                 go_wp2_with fail
                 go_roundw
                 case rel =>
                   have hx := hown5
                   rw [← Hl2.out] at hx
                   obtain ⟨l'', h1, h2⟩ := hx.turned k2 _ (wrap_u8_lo _) (wrap_u8_hi _)
                   rw [Hl2.out] at h1 h2
                   exact ⟨k2 + 1, l'', by omega, h1, by go_num, h2, hb.setCell (Nat.le_trans hs3 hg40) _⟩
                 case measure => simp [intOf]; omega)
            · clear hl2
              have hcv := conv_bytes _ _ A _ c l rfl (hr.below hb)
              go_wp2_with fail
              refine (awake_any _).mono ?_
              rintro e w9 ⟨rfl, hb9⟩
              have hb10 := hb.trans (hb9.mono hb.size)
              clear hcv
              go_wp2_with fail
              go_ret
              exact ⟨rfl, hb10⟩
end Go.Proofs.Ytbbikkncobgabaa
