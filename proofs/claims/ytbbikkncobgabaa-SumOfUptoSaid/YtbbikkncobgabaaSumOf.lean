/-
  scrivenerlaw01.SumOf: the walk. By an AI agent.
-/
import Derived.Test.YtbbikkncobgabaaAwake
namespace Go.Proofs.Ytbbikkncobgabaa
open Go.RowKit

set_option maxRecDepth 100000 in
set_option maxHeartbeats 4000000 in
theorem sumOf_any (A : Option Addr) (n c : Nat) (vs : List Value) (ls : List (List UInt8)) (w : World) (hn : n ≤ maxLen) (hr : Reads w w.heap.size 1 A n vs) (hp : Parts w w.heap.size vs ls)
    (hsm : ∀ l, l ∈ ls → l.length ≤ 1048576) :
    Calls Try.prog 3 #[.slice A n c] w fun e w' => e = .returned (.bool true) ∧ Below w.heap.size w w' := by
  have Hn := Lib.hid hn
  unfold maxLen at hn
  have Hlen := Lib.hid hr.len
  have Hpl := Lib.hid hp.1
  have Hsm := Lib.hid hsm
  clear hsm
  go_enter Try.func3, Try.ntmps3
  go_wp2_with fail
  go_loopw [3, 4] (fun v i wr => ∃ k : Nat, k ≤ n ∧ k ≤ 1001 ∧ i = .int .i64 k ∧ Owns wr w.heap.size v (ls.take k).flatten ∧ (ls.take k).flatten.length ≤ 20000 ∧ Below w.heap.size w wr) (fun _ i _ => n - (intOf i).toNat)
  case atStart => exact ⟨0, Nat.zero_le _, Nat.zero_le _, rfl, Owns.nil _ _, Nat.zero_le _, Below.refl _ _⟩
  case round =>
    obtain ⟨k, hk, hk2, rfl, hown, hall, hb⟩ := hrel
    have hsz := hb.size
    by_cases hlt : k < n
    · obtain ⟨ad, rfl, hadb, hcell⟩ := (hr.below hb).get hlt
      have hkv : k < vs.length := by rw [Hlen.out]; exact hlt
      have hkl : k < ls.length := by rw [← Hpl.out]; exact hkv
      obtain ⟨A2, c2, he, hc2, hm2, hr2⟩ := hp.2 k _ _ (List.getElem?_eq_getElem hkv) (List.getElem?_eq_getElem hkl)
      rw [he] at hcell
      clear he
      have hlk := Hsm.out _ (List.getElem_mem hkl)
      have hstep : (ls.take (k + 1)).flatten = (ls.take k).flatten ++ ls[k] := by rw [List.take_succ_eq_append_getElem hkl, List.flatten_append]; simp
      have Hstep := Lib.hid hstep
      clear hstep
      generalize ls[k] = l at *
      go_wp2_with (at_builtin; refine wpList_app rfl _ _ rfl w.heap.size _ _ rfl hown w.heap.size _ _ _ l rfl rfl ?_ ?_ ?_ ?_)
      · exact hr2.below hb
      · omega
      · exact hsz
      intro v2 w2 hown2 hg2 _
      have hb2 : Below w.heap.size w w2 := hb.grown hg2 hsz (fun k h => (hown.lt k h).1)
      rw [← Hstep.out] at hown2
      have hs2 := hb2.size
      clear hown hb hg2 hcell hall
      obtain ⟨A3, c3, rfl, hc3, hm3, hr3⟩ := hown2.form
      clear hm3
      rcases (by omega : 20000 < (ls.take (k + 1)).flatten.length ∨ ((ls.take (k + 1)).flatten.length ≤ 20000 ∧ 1000 < k) ∨ ((ls.take (k + 1)).flatten.length ≤ 20000 ∧ k ≤ 1000)) with h1 | ⟨h1, h2⟩ | ⟨h1, h2⟩
      · generalize (ls.take (k + 1)).flatten = m at *
        go_wp2_with fail
        refine (awake_any _).mono ?_
        rintro e w3 ⟨rfl, hb3⟩
        have hb4 := hb2.trans (hb3.mono hs2)
        go_wp2_with fail
        go_ret
        exact ⟨rfl, hb4⟩
      · generalize (ls.take (k + 1)).flatten = m at *
        go_wp2_with fail
        refine (awake_any _).mono ?_
        rintro e w3 ⟨rfl, hb3⟩
        have hb4 := hb2.trans (hb3.mono hs2)
        go_wp2_with fail
        go_ret
        exact ⟨rfl, hb4⟩
      · obtain ⟨m, hm⟩ : ∃ m, m = (ls.take (k + 1)).flatten := ⟨_, rfl⟩
        rw [← hm] at hown2 hc3 hr3 h1 ⊢
        have Hm := Lib.hid hm
        clear hm
        go_wp2_with fail
        go_roundw
        case rel => exact ⟨k + 1, by omega, by omega, by go_num, by rw [← Hm.out]; exact hown2, by rw [← Hm.out]; exact h1, hb2⟩
        case measure => simp [intOf]; omega
    · have hfl : (ls.take k).flatten = ls.flatten := by rw [List.take_of_length_le (by rw [← Hpl.out, Hlen.out]; omega)]
      rw [hfl] at hown hall
      clear hfl
      obtain ⟨A3, c3, rfl, hc3, hm3, hr3⟩ := hown.form
      clear hm3 hown
      go_wp2_with fail
      refine (sum_of A n c vs ls _ Hn.out w.heap.size hsz (hr.below hb) (hp.below hb)).mono ?_
      rintro e w3 ⟨rfl, hb3⟩
      have hb4 := hb.trans (hb3.mono hsz)
      replace hr3 := hr3.below hb3
      have hs3 := hb3.size
      have hs4 := hb4.size
      clear hb3
      obtain ⟨l, hl⟩ : ∃ l, l = ls.flatten := ⟨_, rfl⟩
      rw [← hl] at hall hc3 hr3 ⊢
      have Hl := Lib.hid hl
      clear hl
      go_wp2_with fail
      refine (ref_of A3 c3 l _ (by unfold maxLen; omega) (hr3.more hs3)).mono ?_
      rintro e w4 ⟨rfl, rfl⟩
      go_wp2_with fail
      refine (sum_one A3 _ c3 _ l _ rfl rfl (by unfold maxLen; omega) hc3 (hr3.more hs3)).mono ?_
      rintro e w5 ⟨rfl, hb5⟩
      have hb6 := hb4.trans (hb5.mono hs4)
      have hs6 := hb6.size
      clear hb5
      go_wp2_with fail
      refine (sum_of A n c vs ls _ Hn.out w.heap.size hs6 (hr.below hb6) (hp.below hb6)).mono ?_
      rintro e w7 ⟨rfl, hb7⟩
      rw [← Hl.out]
      have hb8 := hb6.trans (hb7.mono hs6)
      have hs8 := hb8.size
      clear hb7
      go_wp2_with fail
      refine (awake_any _).mono ?_
      rintro e w9 ⟨rfl, hb9⟩
      have hb10 := hb8.trans (hb9.mono hs8)
      go_wp2_with fail
      go_ret
      exact ⟨rfl, hb10⟩
end Go.Proofs.Ytbbikkncobgabaa
