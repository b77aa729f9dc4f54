/-
  scrivenerlaw02.row. By an AI agent.
-/
import Derived.Test.YtbbikkncobgabaaDoorGreat
import Derived.Test.YtbbikkncobgabaaDoorAwake2
import Derived.OwnWalk
namespace Go.Proofs.YtbbikkncobgabaaDoor
open Go.RowKit

/-- the bytes of a row of parts -/
def rowB : List Pt → List UInt8
  | [] => []
  | p :: ps => partBytes (p.s % 5) p.x p.t ++ rowB ps
/-- how many they are at most -/
def bulk : List Pt → Nat
  | [] => 0
  | p :: ps => 10 + p.t.length + bulk ps

theorem rowB_append (ps qs : List Pt) : rowB (ps ++ qs) = rowB ps ++ rowB qs := by
  induction ps with
  | nil => rfl
  | cons p ps ih => simp [rowB, ih]
theorem bulk_append (ps qs : List Pt) : bulk (ps ++ qs) = bulk ps + bulk qs := by
  induction ps with
  | nil => simp [bulk]
  | cons p ps ih => simp [bulk, ih]; omega
theorem partBytes_len (k : Int) (x : Nat) (t : List UInt8) : (partBytes k x t).length ≤ 10 + t.length := by
  have h1 := dig_length 10 x
  have h2 := dig_length 10 t.length
  have h3 : (le32 (x % 4294967296)).length = 4 := rfl
  unfold partBytes
  split
  · simp; omega
  · split
    · omega
    · split
      · omega
      · split
        · simp; omega
        · omega
theorem rowB_len (ps : List Pt) : (rowB ps).length ≤ bulk ps := by
  induction ps with
  | nil => simp [rowB, bulk]
  | cons p ps ih =>
    have := partBytes_len (p.s % 5) p.x p.t
    simp [rowB, bulk]
    omega
theorem bulk_small (ps : List Pt) : bulk ps ≤ 29 * ps.length + 20 * weigh ps := by
  induction ps with
  | nil => simp [bulk]
  | cons p ps ih =>
    simp only [bulk, weigh, List.length_cons]
    omega

theorem bulk_take (ps : List Pt) (k : Nat) : bulk (ps.take k) ≤ bulk ps := by
  conv => rhs; rw [← List.take_append_drop k ps, bulk_append]
  omega

theorem Reads.apart {w : World} {B n b : Nat} {A : Option Addr} {xs : List Value} (h : Reads w B 1 A n xs) (hb : B ≤ b) : ∀ ad, A = some ad → 0 < n → ad.block ≠ b := by
  intro ad e h0
  obtain ⟨ad', e', hlt, _⟩ := h.2 h0
  rw [e] at e'
  injection e' with e'
  subst e'
  omega

set_option maxRecDepth 100000 in
set_option maxHeartbeats 4000000 in
theorem row_any (A : Option Addr) (n c : Nat) (ps : List Pt) (w : World) (hn : n = ps.length) (hm : n ≤ 9223372036854775807) (h : PartsIn w w.heap.size A ps) (hbulk : bulk ps ≤ 1000000000) :
    Calls Tryd.prog 25 #[.slice A n c] w (Gives w.heap.size (rowB ps) w) := by
  have Hn := Lib.hid hn
  have H := Lib.hid h
  clear hn h
  go_enter Tryd.func25, Tryd.ntmps25
  go_wp2_with fail
  refine (wnew_any w).mono ?_
  rintro e w1 ⟨rfl, h1, hb1⟩
  go_wp2_with fail
  go_loopw [4] (fun i wr => ∃ k row, k ≤ n ∧ i = .int .i64 k ∧ Wr wr w.heap.size row (rowB (ps.take k)) ∧ Below w.heap.size w wr ∧ ∀ g, row = some g → w.heap.size ≤ g) (fun i _ => n - (intOf i).toNat)
  case atStart => exact ⟨0, none, Nat.zero_le _, rfl, h1, hb1, fun g e => by cases e⟩
  case round =>
    obtain ⟨k, row, hk, rfl, h2, hb2, hr2⟩ := hrel
    clear h1 hb1
    by_cases hkn : k < n
    · have hkl : k < ps.length := by rw [← Hn.out]; exact hkn
      obtain ⟨ad, p, A1, c1, rfl, hadb, hp, ⟨hx, -, -⟩, hf, -, -, -, hrd⟩ := (H.out.below hb2).at_ hkl
      obtain ⟨p0, p1, p2, p3⟩ := hf
      have htk : rowB (ps.take (k + 1)) = rowB (ps.take k) ++ partBytes (p.s % 5) p.x p.t := by
        rw [List.take_add_one, hp, rowB_append]; simp [rowB]
      have hl1 := rowB_len (ps.take k)
      have hl2 := bulk_take ps (k + 1)
      rw [List.take_add_one, hp, bulk_append] at hl2
      have hl3 : bulk [p] = 10 + p.t.length := by simp [bulk]
      simp only [Option.toList_some] at hl2
      rw [hl3] at hl2
      have hput := put_any w.heap.size row (rowB (ps.take k)) p.s p.m p.x A1 p.t.length c1 p.t wr h2 hx rfl w.heap.size hb2.size hrd (hrd.apart (Nat.le_refl _)) (by omega)
      unfold part at hput
      have HP := Lib.hid hput
      have Htk := Lib.hid htk
      clear hput htk hp hl1 hl2 hl3 hrd h2
      go_wp2_with fail
      refine HP.out.mono ?_
      rintro e w3 ⟨rfl, h3⟩
      obtain ⟨row3, h3, hb3, hr3⟩ := wstep hb2 (Nat.le_refl _) hr2 h3
      rw [← Htk.out] at h3
      clear p0 p1 p2 p3 hb2 hr2
      go_wp2_with fail
      go_roundw
      case rel => exact ⟨k + 1, row3, by omega, by go_num, h3, hb3, hr3⟩
      case measure => simp [intOf]; omega
    · obtain rfl : k = n := by omega
      rw [Hn.out, List.take_length] at h2
      have hlen := rowB_len ps
      go_wp2_with fail
      refine (wbytes w.heap.size row (rowB ps) wr h2 (by omega)).mono ?_
      rintro e w4 ⟨v, rfl, hown, hb4⟩
      have hb5 := hb2.trans (hb4.mono hb2.size)
      have hown5 := hown.more hb2.size
      clear hown hb4
      go_wp2_with fail
      go_ret
      exact ⟨v, rfl, hown5, hb5⟩
end Go.Proofs.YtbbikkncobgabaaDoor
