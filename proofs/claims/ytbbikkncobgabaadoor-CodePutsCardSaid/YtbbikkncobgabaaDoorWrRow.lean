/-
  bytes.Buffer.grow: of a row. By an AI agent.
-/
import Derived.Test.YtbbikkncobgabaaDoorWr
import Derived.Deep.DrawnRows
namespace Go.Proofs.YtbbikkncobgabaaDoor
open Go.RowKit
attribute [local go_sem ↓] Go.wp_at_zero Go.wp_at_succ

set_option maxHeartbeats 8000000 in
set_option maxRecDepth 100000 in
theorem grow_row_at (b g cap n L : Nat) (lr : Int) (cur : Array Value) (l : List UInt8) (w : World) (hL : l.length = L) (hb : Blk w b 33 #[.slice (some ⟨g, 0, none⟩) L cap, .int .i64 0, .int .i8 lr]) (hg : Blk w g 5 cur) (h0 : ¬ L = 0) (hgb : g ≠ b)
    (hlc : L ≤ cap) (hcm : cap ≤ maxLen) (hcs : cur.size = cap) (ht : cur.toList.take L = Lib.byteCells l) (hn : 1 ≤ n) (hroom : cap - L < n) (hlim : L + n ≤ 140737488355328) :
    Calls Tryd.prog 113 #[.pointer (some ⟨b, 0, none⟩), .int .i64 n] w (Grew b n l w) := by
  have hnil : ∀ W : World, (binOp .eql 27 (.slice (some ⟨g, 0, none⟩) L cap) (.slice none 0 0)).run Tryd.prog W = .ok (.bool false) W := fun W => Lib.run_eql_slice_some_nil W _ _ _ Tryd.underlying27
  have hIs := Wr.buf (w := w) (b := b) (row := some g) (l := l) ⟨lr, .inr ⟨g, cap, cur, by omega, rfl, hgb, by rw [hL]; exact hb, hg, by omega, hcm, hcs, by rw [hL]; exact ht⟩⟩
  have hlen : (Lib.byteCells l).length = L := by simp [Lib.byteCells, hL]
  have HL := Lib.hid hL
  clear hL
  have h1 : ∀ v ∈ cur.toList.take L, v.oneCell' = true := by rw [ht]; exact Lib.byteCells_one _
  have Ht := Lib.hid ht
  have Hs := Lib.hid hcs
  clear ht hcs
  unfold maxLen at hcm
  go_enter Tryd.func113, Tryd.ntmps113
  go_wp2_with fail
  refine (Tryd.Buffer_Len_at 33 (fun _ => none) 0 b 0 (Lib.byteCells l) w hIs).mono ?_
  rintro e w0 ⟨rfl, k, hw0⟩
  rw [hlen]
  have hb0 : Blk w0 b 33 #[.slice (some ⟨g, 0, none⟩) L cap, .int .i64 0, .int .i8 lr] := by rw [hw0]; exact hb
  have hg1 : Blk w0 g 5 cur := by rw [hw0]; exact hg
  have c0 : w0.cell? ⟨b, 0, none⟩ = some (.slice (some ⟨g, 0, none⟩) L cap) := hb0.cell 0
  have c1 : w0.cell? ⟨b, 1, none⟩ = some (.int .i64 0) := hb0.cell 1
  have f0 := hb0.frozen 0
  have f1 := hb0.frozen 1
  have hlt := hb0.lt
  have hsz : w.heap.size = w0.heap.size := by rw [hw0]; rfl
  have hg0 : w.grownBy w0 (some b) := by rw [hw0]; exact only_drewN (World.grownBy.refl _ _) k
  have Hsz := Lib.hid hsz
  clear hw0 hIs hsz hb hg hlen
  go_wp2_with fail
  refine (Tryd.Buffer_tryGrow_none_at b 0 _ L cap n w0 c0 hlc (by unfold maxLen; exact hcm) hroom).mono ?_
  rintro e w1 ⟨rfl, rfl⟩
  have hwn : IntKind.i64.wrap (n : Int) = n := IntWalk.i64_in _ (by omega)
  go_wp2_with fail
  go_region_with (
      go_at_call 116
      refine (Tryd.bytes_growSlice_row g L cap n cur _ ?_ Hs.out hlc hn hlim (by omega) h1).mono ?_
      exact hg1
      rintro e w2 ⟨cap2, cells, rfl, hN, hcsz, htk, hcap2, hcm2, hbel⟩
      have hb2 : Blk w2 b 33 #[.slice (some ⟨g, 0, none⟩) L cap, .int .i64 0, .int .i8 lr] := (hbel.block b hlt).trans hb0
      have d0 : w2.cell? ⟨b, 0, none⟩ = some (.slice (some ⟨g, 0, none⟩) L cap) := hb2.cell 0
      have d1 : w2.cell? ⟨b, 1, none⟩ = some (.int .i64 0) := hb2.cell 1
      have e0 := hb2.frozen 0
      have e1 := hb2.frozen 1)
  all_goals
    go_wp2_with fail
    go_ret
    have hw2 : w.grownBy w2 (some b) := (only_drew hg0).trans (only_of_below hbel (some b))
    exact grew_end hb2 hN (Nat.le_of_eq Hsz.out) (Ne.symm (Nat.ne_of_lt hlt)) (by rw [HL.out]; exact hcap2) hcm2 hcsz (by rw [HL.out]; exact htk.trans Ht.out) hw2 HL.out.symm (by rw [HL.out]) _

theorem grow_row (b g cap n : Nat) (lr : Int) (cur : Array Value) (l : List UInt8) (w : World) (hb : Blk w b 33 #[.slice (some ⟨g, 0, none⟩) l.length cap, .int .i64 0, .int .i8 lr]) (hg : Blk w g 5 cur) (h0 : 0 < l.length) (hgb : g ≠ b)
    (hlc : l.length ≤ cap) (hcm : cap ≤ maxLen) (hcs : cur.size = cap) (ht : cur.toList.take l.length = Lib.byteCells l) (hn : 1 ≤ n) (hroom : cap - l.length < n) (hlim : l.length + n ≤ 140737488355328) :
    Calls Tryd.prog 113 #[.pointer (some ⟨b, 0, none⟩), .int .i64 n] w (Grew b n l w) :=
  grow_row_at b g cap n l.length lr cur l w rfl hb hg (by omega) hgb hlc hcm hcs ht hn hroom hlim
end Go.Proofs.YtbbikkncobgabaaDoor
