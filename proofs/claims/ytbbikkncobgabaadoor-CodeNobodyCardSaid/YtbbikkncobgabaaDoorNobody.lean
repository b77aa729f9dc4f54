/-
  scrivenerlaw02.CodeNobody answers true. By an AI agent.
-/
import Derived.Test.YtbbikkncobgabaaDoorGreat
import Derived.Test.YtbbikkncobgabaaDoorAwake2
import Derived.OwnWalk
import Derived.Outline
namespace Go.Proofs.YtbbikkncobgabaaDoor
open Go.RowKit

theorem rdPart_nil (k m : Int) (r : Nat × List UInt8 × Nat) (h : rdPart k m [] = some r) : r = (0, [], 0) := by
  unfold rdPart at h
  split at h
  · simp at h
  · split at h
    · simp at h
    · split at h
      · simp [num] at h
      · split at h
        · simp [text, num] at h
        · split at h
          · rename_i h5
            have : m = 0 := by have := h5.2; simp at this; omega
            subst this
            simpa using h.symm
          · cases h

/-- what a reader of no bytes answers -/
theorem getZero (R : Nat) (b : Bool) (s m x : Int) (A : Option Addr) (n c : Nat) (w : World) (h : Rd w R [] 0 b) (hmost : m ≤ 9223372036854775807) :
    Calls Tryd.prog 27 #[.pointer (some ⟨R, 0, none⟩), part s m x (.slice A n c)] w fun e w' => e = .returned (.tuple #[.int .u64 0, .string ⟨#[]⟩]) ∧ (∃ b', Rd w' R [] 0 b') ∧ w.grownBy w' (some R) := by
  cases b
  · refine (get_any R [] 0 s m x A n c w h hmost (by decide)).mono ?_
    rintro e w' ⟨hg, ⟨y, t, j, h1, rfl, h2⟩ | ⟨-, rfl, h2⟩⟩
    · have := rdPart_nil _ _ _ h1
      injection this with e1 e2
      injection e2 with e2 e3
      subst e1 e2 e3
      exact ⟨rfl, ⟨_, h2⟩, hg⟩
    · exact ⟨rfl, ⟨_, h2⟩, hg⟩
  · refine (getSkip_any (some ⟨R, 0, none⟩) s m x A n c w (.inr ⟨R, [], 0, rfl, h⟩)).mono ?_
    rintro e w' ⟨rfl, hg⟩
    exact ⟨rfl, ⟨_, h.kept hg (by simp)⟩, only_but hg _⟩
theorem getNone (s m x : Int) (A : Option Addr) (n c : Nat) (w : World) :
    Calls Tryd.prog 27 #[.pointer none, part s m x (.slice A n c)] w fun e w' => e = .returned (.tuple #[.int .u64 0, .string ⟨#[]⟩]) ∧ w.grownBy w' none :=
  getSkip_any none s m x A n c w (.inl rfl)

set_option maxRecDepth 100000 in
set_option maxHeartbeats 4000000 in
theorem nobody_any (A : Option Addr) (n c : Nat) (ps : List Pt) (w : World) (hn : n = ps.length) (hm : n ≤ 9223372036854775807) (h : PartsIn w w.heap.size A ps) :
    Calls Tryd.prog 6 #[.slice A n c] w fun e w' => e = .returned (.bool true) ∧ Below w.heap.size w w' := by
  have Hn := Lib.hid hn
  have hg := great_any A n c w.heap.size ps w hn hm h
  clear hn
  go_enter Tryd.func6, Tryd.ntmps6
  go_wp2_with fail
  refine hg.mono ?_
  rintro e w' ⟨g, rfl, hsmall, rfl⟩
  have Hsmall := Lib.hid hsmall
  clear hg hsmall
  cases g
  rotate_left
  · go_wp2_with fail
    refine (awake_any _).mono ?_
    rintro e w1 ⟨rfl, hb⟩
    go_wp2_with fail
    go_ret
    exact ⟨rfl, hb⟩
  have hz : Rd (w.alloc (.cells #[.slice none 0 0, .int .i64 0, .bool false] 58)) w.heap.size [] 0 false := ⟨none, 0, Blk.new _ _ _, Nat.le_refl _, Nat.zero_le _, Nat.le_refl _, fun _ => rfl, Reads.none_⟩
  go_wp2_with fail
  refine (err_rd w.heap.size [] 0 false _ hz).mono ?_
  rintro e w1 ⟨rfl, rfl⟩
  rw [if_neg (by decide)]
  go_wp2_with fail
  refine (end_rd w.heap.size [] 0 false _ hz (by decide)).mono ?_
  rintro e w1 ⟨rfl, hz1, hg1⟩
  rw [show (false || decide (0 < ([] : List UInt8).length)) = false from rfl] at hz1 ⊢
  rw [if_neg (by decide)]
  have hb1 : Below w.heap.size w w1 := ((Below.refl _ w).alloc (Nat.le_refl _) _).grown hg1 (by simp) (by intro k e; injection e with e; omega)
  clear hz hg1
  go_wp2_with fail
  go_loopw [5] (fun i wr => ∃ k b, k ≤ n ∧ i = .int .i64 k ∧ Rd wr w.heap.size [] 0 b ∧ Below w.heap.size w wr) (fun i _ => n - (intOf i).toNat)
  case atStart => exact ⟨0, false, Nat.zero_le _, rfl, hz1, hb1⟩
  case round =>
    obtain ⟨k, b, hk, rfl, hz2, hb2⟩ := hrel
    clear hz1 hb1
    by_cases hkn : k < n
    · have hkl : k < ps.length := by rw [← Hn.out]; exact hkn
      obtain ⟨ad, p, A1, c1, rfl, hadb, hp, hok, hf, -, -, -, -⟩ := (h.below hb2).at_ hkl
      obtain ⟨-, -, hmost⟩ := hok
      have hbl : (ad.add (k * 4)).block ≠ w.heap.size := by rw [block_of_add]; omega
      have hf' := hf
      obtain ⟨p0, p1, p2, p3⟩ := hf
      have g1 := getNone p.s p.m p.x A1 p.t.length c1
      have g2 := fun w1 h1 => getZero w.heap.size b p.s p.m p.x A1 p.t.length c1 w1 h1 hmost
      unfold part at g1 g2
      have G1 := Lib.hid g1
      have G2 := Lib.hid g2
      clear h hp g1 g2
      go_wp2_with fail
      refine (G1.out _).mono ?_
      rintro e w2 ⟨rfl, hg2⟩
      have hf2 := hf'.kept hg2 (by simp)
      have hz3 := hz2.kept hg2 (by simp)
      have hb3 := hb2.grown hg2 hb2.size (by simp)
      clear p0 p1 p2 p3 hf' hz2 hb2 hg2
      have hf2' := hf2
      obtain ⟨p0, p1, p2, p3⟩ := hf2
      go_wp2_with fail
      refine (G2.out _ hz3).mono ?_
      rintro e w3 ⟨rfl, ⟨b', hz4⟩, hg3⟩
      have hb4 := hb3.grown hg3 hb3.size (by intro k e; injection e with e; omega)
      clear p0 p1 p2 p3 hz3 hb3 hg3 hf2'
      go_wp2_with fail
      refine (fail_nil _).mono ?_
      rintro e w4 ⟨rfl, rfl⟩
      go_wp2_with fail
      refine (left_nil _).mono ?_
      rintro e w4 ⟨rfl, rfl⟩
      go_wp2_with fail
      refine (left_rd w.heap.size [] 0 b' _ hz4 (by decide)).mono ?_
      rintro e w4 ⟨rfl, hz5, hg4⟩
      have hb5 := hb4.grown hg4 hb4.size (by simp)
      rw [show ((([] : List UInt8).length : Int) - ((0 : Nat) : Int)) = 0 from rfl]
      clear hb4 hg4 hz4
      go_wp2_with fail
      refine (err_nil _).mono ?_
      rintro e w5 ⟨rfl, rfl⟩
      go_wp2_with fail
      go_roundw
      case rel => exact ⟨k + 1, b', by omega, by go_num, hz5, hb5⟩
      case measure => simp [intOf]; omega
    · go_wp2_with fail
      refine (end_nil _).mono ?_
      rintro e w5 ⟨rfl, rfl⟩
      go_wp2_with fail
      refine (awake_any _).mono ?_
      rintro e w6 ⟨rfl, hb6⟩
      have hb7 := hb2.trans (hb6.mono hb2.size)
      go_wp2_with fail
      go_ret
      exact ⟨rfl, hb7⟩
end Go.Proofs.YtbbikkncobgabaaDoor
