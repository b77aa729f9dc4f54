/-
  scrivenerlaw02.CodeStays answers true. By an AI agent.
-/
import Derived.Test.YtbbikkncobgabaaDoorGreat
import Derived.Test.YtbbikkncobgabaaDoorAwake2
import Derived.OwnWalk
namespace Go.Proofs.YtbbikkncobgabaaDoor
open Go.RowKit

/-- a reading, whatever comes of it -/
theorem getEver (R : Nat) (l : List UInt8) (q : Nat) (s m x : Int) (A : Option Addr) (n c : Nat) (w : World) (h : Rd w R l q false) (hmost : m ≤ 9223372036854775807) (hm : l.length ≤ 140737488355328) :
    Calls Tryd.prog 27 #[.pointer (some ⟨R, 0, none⟩), part s m x (.slice A n c)] w fun e w' => (∃ y t, e = .returned (.tuple #[.int .u64 y, .string t])) ∧ (∃ q' b', Rd w' R l q' b') ∧ w.grownBy w' (some R) := by
  refine (get_any R l q s m x A n c w h hmost hm).mono ?_
  rintro e w' ⟨hg, ⟨y, t, j, h1, rfl, h2⟩ | ⟨-, rfl, h2⟩⟩
  · exact ⟨⟨_, _, rfl⟩, ⟨_, _, h2⟩, hg⟩
  · exact ⟨⟨_, _, rfl⟩, ⟨_, _, h2⟩, hg⟩

theorem getSkipped (R : Nat) (l : List UInt8) (q : Nat) (s m x : Int) (A : Option Addr) (n c : Nat) (w : World) (h : Rd w R l q true) :
    Calls Tryd.prog 27 #[.pointer (some ⟨R, 0, none⟩), part s m x (.slice A n c)] w fun e w' => e = .returned (.tuple #[.int .u64 0, .string ⟨#[]⟩]) ∧ Rd w' R l q true ∧ w.grownBy w' none := by
  refine (getSkip_any (some ⟨R, 0, none⟩) s m x A n c w (.inr ⟨R, l, q, rfl, h⟩)).mono ?_
  rintro e w' ⟨rfl, hg⟩
  exact ⟨rfl, h.kept hg (by simp), hg⟩

theorem Rd.le {w : World} {R : Nat} {l : List UInt8} {q : Nat} {b : Bool} (h : Rd w R l q b) : q ≤ l.length := by
  obtain ⟨_, _, _, _, _, h4, _⟩ := h; exact h4

set_option maxRecDepth 100000 in
set_option maxHeartbeats 8000000 in
theorem stays_any (A : Option Addr) (n c : Nat) (l : List UInt8) (A1 : Option Addr) (n1 c1 : Nat) (ps1 : List Pt) (A2 : Option Addr) (n2 c2 : Nat) (ps2 : List Pt) (w : World) (hn : n = l.length) (hc : n ≤ c) (hA : A = none → c = 0) (hr : Reads w w.heap.size 1 A n (Lib.byteCells l)) (hm : n ≤ 9223372036854775807)
    (hn1 : n1 = ps1.length) (hm1 : n1 ≤ 9223372036854775807) (h1 : PartsIn w w.heap.size A1 ps1) (hn2 : n2 = ps2.length) (hm2 : n2 ≤ 9223372036854775807) (h2 : PartsIn w w.heap.size A2 ps2) :
    Calls Tryd.prog 9 #[.slice A n c, .slice A1 n1 c1, .slice A2 n2 c2] w fun e w' => e = .returned (.bool true) ∧ Below w.heap.size w w' := by
  have Hn := Lib.hid hn
  have Hn1 := Lib.hid hn1
  have Hn2 := Lib.hid hn2
  have HA := Lib.hid hA
  have HG1 := Lib.hid (great_any A1 n1 c1 w.heap.size ps1 w hn1 hm1 h1)
  have HG2 := Lib.hid (great_any A2 n2 c2 w.heap.size ps2 w hn2 hm2 h2)
  have H1 := Lib.hid h1
  have H2 := Lib.hid h2
  have Hr := Lib.hid hr
  clear hn hn1 hn2 hA h1 h2 hr
  by_cases hbig : 2000 < n
  · have hd : decide ((2000 : Int) < (n : Int)) = true := by rw [decide_eq_true_eq]; omega
    go_enter Tryd.func9, Tryd.ntmps9
    go_wp2_with fail
    refine (awake_any _).mono ?_
    rintro e w1 ⟨rfl, hb⟩
    go_wp2_with fail
    go_ret
    exact ⟨rfl, hb⟩
  have hd : decide ((2000 : Int) < (n : Int)) = false := by rw [decide_eq_false_iff_not]; omega
  go_enter Tryd.func9, Tryd.ntmps9
  go_wp2_with fail
  refine HG1.out.mono ?_
  rintro e w' ⟨g1, rfl, -, rfl⟩
  cases g1
  rotate_left
  · go_wp2_with fail
    refine (awake_any _).mono ?_
    rintro e w1 ⟨rfl, hb⟩
    go_wp2_with fail
    go_ret
    exact ⟨rfl, hb⟩
  go_wp2_with fail
  refine HG2.out.mono ?_
  rintro e w' ⟨g2, rfl, -, rfl⟩
  cases g2
  rotate_left
  · go_wp2_with fail
    refine (awake_any _).mono ?_
    rintro e w1 ⟨rfl, hb⟩
    go_wp2_with fail
    go_ret
    exact ⟨rfl, hb⟩
  clear HG1 HG2 hd
  go_wp2_with fail
  refine (newReaderB_any A n c l w Hn.out hc (by omega) HA.out w.heap.size (Nat.le_refl _) Hr.out).mono ?_
  rintro e w1 ⟨R, rfl, hrd, hb1⟩
  have hR := hrd.1
  have hrd1 := hrd.rd
  have hll : l.length ≤ 140737488355328 := by rw [← Hn.out]; omega
  clear hrd HA Hr
  go_wp2_with fail
  go_loopw [8] (fun i wr => ∃ k q b, k ≤ n1 ∧ i = .int .i64 k ∧ Rd wr R l q b ∧ Below w.heap.size w wr) (fun i _ => n1 - (intOf i).toNat)
  case atStart => exact ⟨0, 0, false, Nat.zero_le _, rfl, hrd1, hb1⟩
  case round =>
    obtain ⟨k, q, b, hk, rfl, hrd2, hb2⟩ := hrel
    clear hrd1 hb1
    rcases (by omega : k = n1 ∨ k < n1) with rfl | hkn
    rotate_left
    · cases b
      · have hkl : k < ps1.length := by rw [← Hn1.out]; exact hkn
        obtain ⟨ad, p, A3, c3, rfl, hadb, -, ⟨-, -, hmost⟩, hf, -, -, -, -⟩ := (H1.out.below hb2).at_ hkl
        obtain ⟨p0, p1, p2, p3⟩ := hf
        have hge := fun w1 h1 => getEver R l q p.s p.m p.x A3 p.t.length c3 w1 h1 hmost hll
        unfold part at hge
        have HGE := Lib.hid hge
        clear hge
        go_wp2_with fail
        refine (err_rd R l q false _ hrd2).mono ?_
        rintro e w3 ⟨rfl, rfl⟩
        rw [if_neg (by decide)]
        go_wp2_with fail
        refine (HGE.out _ hrd2).mono ?_
        rintro e w3 ⟨⟨y, t, rfl⟩, ⟨q', b', hrd3⟩, hg3⟩
        have hb3 := hb2.grown hg3 hb2.size (by intro k e; injection e with e; omega)
        clear p0 p1 p2 p3 hrd2 hb2 hg3
        go_wp2_with fail
        go_roundw
        case rel => exact ⟨k + 1, q', b', by omega, by go_num, hrd3, hb3⟩
        case measure => simp [intOf]; omega
      · have hex : (k : Int) < (n1 : Int) := by omega
        go_wp2_with fail
        refine (err_rd R l q true _ hrd2).mono ?_
        rintro e w3 ⟨rfl, rfl⟩
        rw [if_pos rfl]
        go_wp2_with fail
        refine (fail_rd R l q _ _ hrd2).mono ?_
        rintro e w4 ⟨rfl, hrd4, hg4, -⟩
        have hb4 := hb2.grown hg4 hb2.size (by intro k e; injection e with e; omega)
        clear hrd2 hb2 hg4
        go_wp2_with fail
        refine (left_rd R l q true _ hrd4 hll).mono ?_
        rintro e w5 ⟨rfl, hrd5, hg5⟩
        have hb5 := hb4.grown hg5 hb4.size (by simp)
        clear hrd4 hb4 hg5
        go_wp2_with fail
        go_loopw [10] (fun i wr => ∃ k, k ≤ n2 ∧ i = .int .i64 k ∧ Rd wr R l q true ∧ Below w.heap.size w wr) (fun i _ => n2 - (intOf i).toNat)
        case atStart => exact ⟨0, Nat.zero_le _, rfl, hrd5, hb5⟩
        case round =>
          obtain ⟨j, hj, rfl, hrd6, hb6⟩ := hrel
          clear hrd5 hb5
          by_cases hjn : j < n2
          · have hjl : j < ps2.length := by rw [← Hn2.out]; exact hjn
            obtain ⟨ad, p, A3, c3, rfl, hadb, -, -, hf, -, -, -, -⟩ := (H2.out.below hb6).at_ hjl
            obtain ⟨p0, p1, p2, p3⟩ := hf
            have hge := fun w1 h1 => getSkipped R l q p.s p.m p.x A3 p.t.length c3 w1 h1
            unfold part at hge
            have HGE := Lib.hid hge
            clear hge
            go_wp2_with fail
            refine (HGE.out _ hrd6).mono ?_
            rintro e w7 ⟨rfl, hrd7, hg7⟩
            have hb7 := hb6.grown hg7 hb6.size (by simp)
            clear p0 p1 p2 p3 hrd6 hb6 hg7
            go_wp2_with fail
            refine (left_rd R l q true _ hrd7 hll).mono ?_
            rintro e w8 ⟨rfl, hrd8, hg8⟩
            have hb8 := hb7.grown hg8 hb7.size (by simp)
            clear hrd7 hb7 hg8
            go_wp2_with fail
            refine (err_rd R l q true _ hrd8).mono ?_
            rintro e w9 ⟨rfl, rfl⟩
            rw [if_pos rfl]
            go_wp2_with fail
            go_roundw
            case rel => exact ⟨j + 1, by omega, by go_num, hrd8, hb8⟩
            case measure => simp [intOf]; omega
          · go_wp2_with fail
            refine (end_rd R l q true _ hrd6 hll).mono ?_
            rintro e w7 ⟨rfl, hrd7, hg7⟩
            rw [Bool.true_or, if_pos rfl]
            rw [Bool.true_or] at hrd7
            have hb7 := hb6.grown hg7 hb6.size (by intro k e; injection e with e; omega)
            clear hrd6 hb6 hg7
            go_wp2_with fail
            refine (left_rd R l q true _ hrd7 hll).mono ?_
            rintro e w8 ⟨rfl, hrd8, hg8⟩
            have hb8 := hb7.grown hg8 hb7.size (by simp)
            clear hrd7 hb7 hg8
            go_wp2_with fail
            refine (awake_any _).mono ?_
            rintro e w9 ⟨rfl, hb9⟩
            have hb10 := hb8.trans (hb9.mono hb8.size)
            go_wp2_with fail
            go_ret
            exact ⟨rfl, hb10⟩
    · go_wp2_with fail
      refine (fail_rd R l q _ _ hrd2).mono ?_
      rintro e w4 ⟨rfl, hrd4, hg4, -⟩
      have hb4 := hb2.grown hg4 hb2.size (by intro k e; injection e with e; omega)
      clear hrd2 hb2 hg4
      go_wp2_with fail
      refine (left_rd R l q true _ hrd4 hll).mono ?_
      rintro e w5 ⟨rfl, hrd5, hg5⟩
      have hb5 := hb4.grown hg5 hb4.size (by simp)
      clear hrd4 hb4 hg5
      go_wp2_with fail
      go_loopw [10] (fun i wr => ∃ k, k ≤ n2 ∧ i = .int .i64 k ∧ Rd wr R l q true ∧ Below w.heap.size w wr) (fun i _ => n2 - (intOf i).toNat)
      case atStart => exact ⟨0, Nat.zero_le _, rfl, hrd5, hb5⟩
      case round =>
        obtain ⟨j, hj, rfl, hrd6, hb6⟩ := hrel
        clear hrd5 hb5
        by_cases hjn : j < n2
        · have hjl : j < ps2.length := by rw [← Hn2.out]; exact hjn
          obtain ⟨ad, p, A3, c3, rfl, hadb, -, -, hf, -, -, -, -⟩ := (H2.out.below hb6).at_ hjl
          obtain ⟨p0, p1, p2, p3⟩ := hf
          have hge := fun w1 h1 => getSkipped R l q p.s p.m p.x A3 p.t.length c3 w1 h1
          unfold part at hge
          have HGE := Lib.hid hge
          clear hge
          go_wp2_with fail
          refine (HGE.out _ hrd6).mono ?_
          rintro e w7 ⟨rfl, hrd7, hg7⟩
          have hb7 := hb6.grown hg7 hb6.size (by simp)
          clear p0 p1 p2 p3 hrd6 hb6 hg7
          go_wp2_with fail
          refine (left_rd R l q true _ hrd7 hll).mono ?_
          rintro e w8 ⟨rfl, hrd8, hg8⟩
          have hb8 := hb7.grown hg8 hb7.size (by simp)
          clear hrd7 hb7 hg8
          go_wp2_with fail
          refine (err_rd R l q true _ hrd8).mono ?_
          rintro e w9 ⟨rfl, rfl⟩
          rw [if_pos rfl]
          go_wp2_with fail
          go_roundw
          case rel => exact ⟨j + 1, by omega, by go_num, hrd8, hb8⟩
          case measure => simp [intOf]; omega
        · go_wp2_with fail
          refine (end_rd R l q true _ hrd6 hll).mono ?_
          rintro e w7 ⟨rfl, hrd7, hg7⟩
          rw [Bool.true_or, if_pos rfl]
          rw [Bool.true_or] at hrd7
          have hb7 := hb6.grown hg7 hb6.size (by intro k e; injection e with e; omega)
          clear hrd6 hb6 hg7
          go_wp2_with fail
          refine (left_rd R l q true _ hrd7 hll).mono ?_
          rintro e w8 ⟨rfl, hrd8, hg8⟩
          have hb8 := hb7.grown hg8 hb7.size (by simp)
          clear hrd7 hb7 hg8
          go_wp2_with fail
          refine (awake_any _).mono ?_
          rintro e w9 ⟨rfl, hb9⟩
          have hb10 := hb8.trans (hb9.mono hb8.size)
          go_wp2_with fail
          go_ret
          exact ⟨rfl, hb10⟩
end Go.Proofs.YtbbikkncobgabaaDoor
