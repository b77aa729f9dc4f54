/-
  bytes.Buffer.grow: of nil, by many. By an AI agent.
-/
import Derived.Test.YtbbikkncobgabaaDoorWr
import Derived.Deep.DrawnRows
namespace Go.Proofs.YtbbikkncobgabaaDoor
open Go.RowKit
attribute [local go_sem ↓] Go.wp_at_zero Go.wp_at_succ

set_option maxHeartbeats 8000000 in
set_option maxRecDepth 100000 in
theorem grow_big (b n : Nat) (lr : Int) (w : World) (hb : Blk w b 33 #[.slice none 0 0, .int .i64 0, .int .i8 lr]) (h64 : 64 < n) (hlim : n ≤ 140737488355328) :
    Calls Tryd.prog 113 #[.pointer (some ⟨b, 0, none⟩), .int .i64 n] w (Grew b n [] w) := by
  have hnil : ∀ W : World, (binOp .eql 27 (.slice none 0 0) (.slice none 0 0)).run Tryd.prog W = .ok (.bool true) W := fun W => Lib.run_eql_slice_nil_nil W _ _ Tryd.underlying27
  have hIs : LibA.IsBuffer 33 (fun _ => none) 5 0 b 0 [] w := LibA.zero_isBuffer (Nat.zero_le _) (LibA.three_whole hb)
  go_enter Tryd.func113, Tryd.ntmps113
  go_wp2_with fail
  refine (Tryd.Buffer_Len_at 33 (fun _ => none) 0 b 0 [] w hIs).mono ?_
  rintro e w0 ⟨rfl, k, hw0⟩
  have hb0 : Blk w0 b 33 #[.slice none 0 0, .int .i64 0, .int .i8 lr] := by rw [hw0]; exact hb
  have c0 : w0.cell? ⟨b, 0, none⟩ = some (.slice none 0 0) := hb0.cell 0
  have c1 : w0.cell? ⟨b, 1, none⟩ = some (.int .i64 0) := hb0.cell 1
  have f0 := hb0.frozen 0
  have f1 := hb0.frozen 1
  have hlt := hb0.lt
  have hsz : w.heap.size = w0.heap.size := by rw [hw0]; rfl
  have hg0 : w.grownBy w0 (some b) := by rw [hw0]; exact only_drewN (World.grownBy.refl _ _) k
  have Hsz := Lib.hid hsz
  clear hw0 hIs hsz hb
  go_wp2_with fail
  refine (Tryd.Buffer_tryGrow_none_at b 0 none 0 0 n w0 c0 (Nat.le_refl _) (Nat.zero_le _) (by omega)).mono ?_
  rintro e w1 ⟨rfl, rfl⟩
  have hwn : IntKind.i64.wrap (n : Int) = n := IntWalk.i64_in _ (by omega)
  go_wp2_with fail
  go_region_with (
      go_at_call 116
      refine (Tryd.bytes_growSlice_nil n _ (by omega) hlim).mono ?_
      rintro e w2 ⟨cap2, cells, rfl, hN, hcsz, hcap2, hcm2, hbel⟩
      have hb2 : Blk w2 b 33 #[.slice none 0 0, .int .i64 0, .int .i8 lr] := (hbel.block b hlt).trans hb0
      have d0 : w2.cell? ⟨b, 0, none⟩ = some (.slice none 0 0) := hb2.cell 0
      have d1 : w2.cell? ⟨b, 1, none⟩ = some (.int .i64 0) := hb2.cell 1
      have e0 := hb2.frozen 0
      have e1 := hb2.frozen 1)
  all_goals
    go_wp2_with fail
    go_ret
    have hw2 : w.grownBy w2 (some b) := (only_drew hg0).trans (only_of_below hbel (some b))
    exact grew_end (l := []) (L := 0) (m := n) hb2 hN (Nat.le_of_eq Hsz.out) (Ne.symm (Nat.ne_of_lt hlt)) (by simpa using hcap2) hcm2 hcsz rfl hw2 rfl (by simp) _

end Go.Proofs.YtbbikkncobgabaaDoor
