/-
  bytes.Buffer.Write of nothing; code.Writer.Raw of no bytes. By an AI agent.
-/
import Derived.Test.YtbbikkncobgabaaDoorWrites
namespace Go.Proofs.YtbbikkncobgabaaDoor
open Go.RowKit

set_option maxRecDepth 100000 in
set_option maxHeartbeats 2000000 in
theorem write_nil (A0 : Option Addr) (n0 : Nat) (b : Nat) (row : Option Nat) (l : List UInt8) (w : World) (h : Wr w b row l) :
    Calls Tryd.prog 98 #[.pointer (some ⟨b, 0, none⟩), .slice A0 0 n0] w (WriteEnd b row l 0 w) := by
  obtain ⟨lr, ⟨rfl, rfl, hb⟩ | ⟨g, cap, cur, hl0, rfl, hgb, hb, hg, hlc, hcm, hcs, ht⟩⟩ := h
  · have c2 : w.cell? ⟨b, 2, none⟩ = some (.int .i8 lr) := hb.cell 2
    have f2 := hb.frozen 2
    have hb1 : Blk (w.setCell ⟨b, 2, none⟩ (.int .i8 0)) b 33 #[.slice none 0 0, .int .i64 0, .int .i8 0] := hb.set_ 2 (.int .i8 0)
    have hgr1 : w.grownBy (w.setCell ⟨b, 2, none⟩ (.int .i8 0)) (some b) := only_setCell (World.grownBy.refl _ _) (Or.inl rfl) _
    have HT := Lib.hid (Tryd.Buffer_tryGrow_room_at b 0 none 0 0 0 _ (hb1.cell 0) (hb1.frozen 0) (Nat.le_refl _) (Nat.zero_le _) (Nat.le_refl _))
    clear hb
    go_enter Tryd.func98, Tryd.ntmps98
    go_wp2_with fail
    refine HT.out.mono ?_
    rintro e w2 ⟨rfl, hw2⟩
    have hb2 : Blk w2 b 33 #[.slice none 0 0, .int .i64 0, .int .i8 0] := by rw [hw2]; exact hb1.set_ 0 _
    have hgr2 : w.grownBy w2 (some b) := by rw [hw2]; exact only_setCell hgr1 (Or.inl rfl) _
    have e0 : w2.cell? ⟨b, 0, none⟩ = some (.slice none 0 0) := hb2.cell 0
    have hcp := fun (d : Option Addr) (c : Nat) => run_copy_none (P := Tryd.prog) w2 27 27 3 5 d A0 0 c 0 n0 Tryd.underlying27 (by kernel_rfl) rfl
    have Hend : Hid (Wr w2 b none []) := ⟨0, .inl ⟨rfl, rfl, hb2⟩⟩
    clear hw2 hb1 hgr1 hb2
    go_wp2_with fail
    all_goals
      go_ret2
      exact ⟨rfl, none, Hend.out, hgr2.os, hgr2.tape, hgr2.output, hgr2.size, fun i hi hib _ => hgr2.block i hi (fun e => hib (by injection e)), .inl rfl⟩
  · have c2 : w.cell? ⟨b, 2, none⟩ = some (.int .i8 lr) := hb.cell 2
    have f2 := hb.frozen 2
    have hb1 : Blk (w.setCell ⟨b, 2, none⟩ (.int .i8 0)) b 33 #[.slice (some ⟨g, 0, none⟩) l.length cap, .int .i64 0, .int .i8 0] := hb.set_ 2 (.int .i8 0)
    have hg1 := hg.far (p := ⟨b, 2, none⟩) hgb (.int .i8 0)
    have hgr1 : w.grownBy (w.setCell ⟨b, 2, none⟩ (.int .i8 0)) (some b) := only_setCell (World.grownBy.refl _ _) (Or.inl rfl) _
    have HT := Lib.hid (Tryd.Buffer_tryGrow_room_at b 0 (some ⟨g, 0, none⟩) l.length cap 0 _ (hb1.cell 0) (hb1.frozen 0) hlc hcm (Nat.zero_le _))
    have Hcs := Lib.hid hcs
    have Ht := Lib.hid ht
    clear hb hg hcs ht
    go_enter Tryd.func98, Tryd.ntmps98
    go_wp2_with fail
    refine HT.out.mono ?_
    rintro e w2 ⟨rfl, hw2⟩
    have hb2 : Blk w2 b 33 #[.slice (some ⟨g, 0, none⟩) l.length cap, .int .i64 0, .int .i8 0] := by rw [hw2]; exact hb1.set_ 0 _
    have hg2 : Blk w2 g 5 cur := by rw [hw2]; exact hg1.far (p := ⟨b, 0, none⟩) hgb _
    have hgr2 : w.grownBy w2 (some b) := by rw [hw2]; exact only_setCell hgr1 (Or.inl rfl) _
    have e0 : w2.cell? ⟨b, 0, none⟩ = some (.slice (some ⟨g, 0, none⟩) l.length cap) := hb2.cell 0
    have hcp := fun (d : Option Addr) (c : Nat) => run_copy_none (P := Tryd.prog) w2 27 27 3 5 d A0 0 c 0 n0 Tryd.underlying27 (by kernel_rfl) rfl
    have Hend : Hid (Wr w2 b (some g) l) := ⟨0, .inr ⟨g, cap, cur, hl0, rfl, hgb, hb2, hg2, hlc, hcm, Hcs.out, Ht.out⟩⟩
    have hcm' := hcm
    unfold maxLen at hcm'
    clear hw2 hb1 hgr1 hb2 hg1 hg2
    go_wp2_with fail
    all_goals
      go_ret2
      exact ⟨rfl, some g, Hend.out, hgr2.os, hgr2.tape, hgr2.output, hgr2.size, fun i hi hib _ => hgr2.block i hi (fun e => hib (by injection e)), .inl rfl⟩

set_option maxRecDepth 100000 in
set_option maxHeartbeats 1000000 in
theorem wraw_none (A0 : Option Addr) (n0 : Nat) (b : Nat) (row : Option Nat) (l : List UInt8) (w : World) (h : Wr w b row l) :
    Calls Tryd.prog 53 #[.pointer (some ⟨b, 0, none⟩), .slice A0 0 n0] w (WrEnd b row l w) := by
  go_enter Tryd.func53, Tryd.ntmps53
  go_wp2_with fail
  refine (write_nil A0 n0 b row l w h).mono ?_
  rintro e w1 ⟨rfl, h1⟩
  go_wp2_with fail
  go_end0
  exact ⟨rfl, h1⟩

/-- Raw of whatever slice, wherever it lies but in the writer's own block -/
theorem wraw_any (b : Nat) (row : Option Nat) (l t : List UInt8) (A : Option Addr) (n c : Nat) (w : World) (h : Wr w b row l) (hn : n = t.length) (B : Nat) (hr : Reads w B 1 A n (Lib.byteCells t)) (hab : ∀ ad, A = some ad → 0 < n → ad.block ≠ b) (hlim : l.length + n ≤ 140737488355328) :
    Calls Tryd.prog 53 #[.pointer (some ⟨b, 0, none⟩), .slice A n c] w (WrEnd b row (l ++ t) w) := by
  rcases Nat.eq_zero_or_pos n with h0 | h0
  · subst h0
    obtain rfl := List.eq_nil_of_length_eq_zero hn.symm
    rw [List.append_nil]
    exact wraw_none A c b row l w h
  · obtain ⟨ad, rfl, hb, hc⟩ := hr.2 h0
    exact wraw_some b row l t ad n c w h hn h0 (hab ad rfl h0) hc hlim
end Go.Proofs.YtbbikkncobgabaaDoor
