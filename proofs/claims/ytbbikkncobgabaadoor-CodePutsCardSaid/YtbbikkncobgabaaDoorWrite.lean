/-
  bytes.Buffer.Write: what is written, and where; code.Writer.Raw. By an AI agent.
-/
import Derived.Test.YtbbikkncobgabaaDoorWrBig
import Derived.Test.YtbbikkncobgabaaDoorWrRow
namespace Go.Proofs.YtbbikkncobgabaaDoor
open Go.RowKit

theorem byteCells_len (l : List UInt8) : (Lib.byteCells l).length = l.length := by simp [Lib.byteCells]

/-- behind the copy -/
theorem copied {b g cap : Nat} {l t : List UInt8} {lr : Int} {w : World} {cur : Array Value} (hb : Blk w b 33 #[.slice (some ⟨g, 0, none⟩) (l.length + t.length) cap, .int .i64 0, .int .i8 lr]) (hg : Blk w g 5 cur) (hgb : g ≠ b) (h0 : 0 < t.length)
    (hc : l.length + t.length ≤ cap) (hm : cap ≤ maxLen) (hs : cur.size = cap) (ht : cur.toList.take l.length = Lib.byteCells l) :
    Wr (w.setRow g (cur.toList.take l.length ++ Lib.byteCells t ++ cur.toList.drop (l.length + t.length)).toArray) b (some g) (l ++ t) := by
  rw [ht]
  refine ⟨lr, .inr ⟨g, cap, _, by simp; omega, rfl, hgb, ?_, setRow_heap w g cur _ _ _ hg, by simp; omega, hm, ?_, ?_⟩⟩
  · rw [List.length_append]
    exact (setRow_other w g b _ (Ne.symm hgb)).trans hb
  · simp [byteCells_len]
    omega
  · rw [Lib.byteCells_append, List.length_append, List.toList_toArray, List.take_left' (by simp [byteCells_len])]

theorem Wrote.setRow {b g : Nat} {row : Option Nat} {w w' : World} (h : w.grownBy w' (some b)) (hg : row = some g ∨ w.heap.size ≤ g) (cs : Array Value) : Wrote b row (some g) w (w'.setRow g cs) :=
  ⟨h.os, h.tape, h.output, by rw [setRow_size]; exact h.size, fun i hi hb hr => (setRow_other w' g i cs (by
    rintro rfl
    rcases hg with hg | hg
    · exact hr hg.symm
    · omega)).trans (h.block i hi (fun e => hb (by injection e))), by
    rcases hg with rfl | hg
    · exact .inl rfl
    · exact .inr ⟨g, rfl, hg⟩⟩

/-- how Write ends -/
def WriteEnd (b : Nat) (row : Option Nat) (l : List UInt8) (n : Nat) (w : World) (e : Ending) (w' : World) : Prop :=
  e = .returned (.tuple #[.int .i64 n, .nilIface]) ∧ ∃ row', Wr w' b row' l ∧ Wrote b row row' w w'

theorem info1 : (Tryd.prog.info? 5).map (·.size) = some 1 := by kernel_rfl

theorem hsrc_len {w : World} {ad : Addr} {t : List UInt8} (h0 : 0 < t.length) (hr : ∀ j v, (Lib.byteCells t)[j]? = some v → w.cell? (ad.add j) = some v) : ad.block < w.heap.size := by
  have h := hr 0 _ (List.getElem?_eq_getElem (by rw [byteCells_len]; exact h0))
  have := World.block_lt_of_cell? w _ h
  rwa [block_of_add] at this

set_option maxHeartbeats 4000000 in
set_option maxRecDepth 100000 in
theorem write_room (b g cap n : Nat) (lr : Int) (cur : Array Value) (l t : List UInt8) (ad : Addr) (c : Nat) (w : World) (hb : Blk w b 33 #[.slice (some ⟨g, 0, none⟩) l.length cap, .int .i64 0, .int .i8 lr]) (hg : Blk w g 5 cur) (hgb : g ≠ b)
    (hlc : l.length ≤ cap) (hcm : cap ≤ maxLen) (hcs : cur.size = cap) (ht : cur.toList.take l.length = Lib.byteCells l) (hn : n = t.length) (h0 : 0 < n) (hroom : n ≤ cap - l.length) (hab : ad.block ≠ b)
    (hr : ∀ j v, (Lib.byteCells t)[j]? = some v → w.cell? (ad.add j) = some v) :
    Calls Tryd.prog 98 #[.pointer (some ⟨b, 0, none⟩), .slice (some ad) n c] w (WriteEnd b (some g) (l ++ t) n w) := by
  have c2 : w.cell? ⟨b, 2, none⟩ = some (.int .i8 lr) := hb.cell 2
  have f2 := hb.frozen 2
  have hb1 := hb.set_ 2 (.int .i8 0)
  have hg1 := hg.far (p := ⟨b, 2, none⟩) hgb (.int .i8 0)
  have hgr1 : w.grownBy (w.setCell ⟨b, 2, none⟩ (.int .i8 0)) (some b) := only_setCell (World.grownBy.refl _ _) (Or.inl rfl) _
  have d0 : (w.setCell ⟨b, 2, none⟩ (.int .i8 0)).cell? ⟨b, 0, none⟩ = some (.slice (some ⟨g, 0, none⟩) l.length cap) := hb1.cell 0
  have g0 := hb1.frozen 0
  have HT := Lib.hid (Tryd.Buffer_tryGrow_room_at b 0 (some ⟨g, 0, none⟩) l.length cap n _ d0 g0 hlc hcm hroom)
  have Hcs := Lib.hid hcs
  have Ht := Lib.hid ht
  have Hn := Lib.hid hn
  have Hr := Lib.hid hr
  have h0t : 0 < t.length := by omega
  clear hb hcs ht hn hr d0 g0
  go_enter Tryd.func98, Tryd.ntmps98
  go_wp2_with fail
  refine HT.out.mono ?_
  rintro e w2 ⟨rfl, hw2⟩
  have hb2 : Blk w2 b 33 #[.slice (some ⟨g, 0, none⟩) (l.length + n) cap, .int .i64 0, .int .i8 0] := by rw [hw2]; exact hb1.set_ 0 _
  have hg2 : Blk w2 g 5 cur := by rw [hw2]; exact hg1.far (p := ⟨b, 0, none⟩) hgb _
  have hgr2 : w.grownBy w2 (some b) := by rw [hw2]; exact only_setCell hgr1 (Or.inl rfl) _
  have hsrc : ∀ j v, (Lib.byteCells t)[j]? = some v → w2.cell? (ad.add j) = some v := fun j v hj =>
    (hgr2.cell_far _ (by rw [block_of_add]; exact hsrc_len h0t Hr.out) (by rw [block_of_add]; exact fun e => hab (by injection e))).trans (Hr.out j v hj)
  clear hw2 hb1 hg1 hgr1
  have hcp := run_copy_row (P := Tryd.prog) w2 27 27 3 5 g l.length n (cap - l.length) ad n c cur 5 (Lib.byteCells t) Tryd.underlying27 info1 hg2 (by rw [byteCells_len, ← Hn.out]; exact (Nat.min_self n).symm) hsrc (by rw [byteCells_len, Hcs.out, ← Hn.out]; omega) (Lib.byteCells_one _)
  rw [byteCells_len, ← Hn.out] at hcp
  have e0 : w2.cell? ⟨b, 0, none⟩ = some (.slice (some ⟨g, 0, none⟩) (l.length + n) cap) := hb2.cell 0
  have hne : ¬ cap = l.length := by omega
  have hend := copied (l := l) (t := t) (by rw [← Hn.out]; exact hb2) hg2 hgb h0t (by rw [← Hn.out]; omega) hcm Hcs.out Ht.out
  rw [← Hn.out, List.append_assoc] at hend
  have Hend := Lib.hid hend
  have hcm' := hcm
  unfold maxLen at hcm'
  clear hend hsrc hb2 hg2
  go_wp2_with fail
  go_ret2
  exact ⟨rfl, _, Hend.out, Wrote.setRow hgr2 (.inl rfl) _⟩

/-- the same, where there is no room -/
def NoRoomIn (b n : Nat) (L : Nat) (w : World) : Prop := ∃ ao cap, w.cell? ⟨b, 0, none⟩ = some (.slice ao L cap) ∧ L ≤ cap ∧ cap ≤ maxLen ∧ cap - L < n

set_option maxHeartbeats 4000000 in
set_option maxRecDepth 100000 in
theorem write_grow (b n : Nat) (row : Option Nat) (l t : List UInt8) (ad : Addr) (c : Nat) (w : World) (h : Wr w b row l) (hnr : NoRoomIn b n l.length (w.setCell ⟨b, 2, none⟩ (.int .i8 0)))
    (hG : Calls Tryd.prog 113 #[.pointer (some ⟨b, 0, none⟩), .int .i64 n] (w.setCell ⟨b, 2, none⟩ (.int .i8 0)) (Grew b n l (w.setCell ⟨b, 2, none⟩ (.int .i8 0))))
    (hn : n = t.length) (h0 : 0 < n) (hab : ad.block ≠ b) (hr : ∀ j v, (Lib.byteCells t)[j]? = some v → w.cell? (ad.add j) = some v) :
    Calls Tryd.prog 98 #[.pointer (some ⟨b, 0, none⟩), .slice (some ad) n c] w (WriteEnd b row (l ++ t) n w) := by
  have hlt := h.lt
  obtain ⟨x, lr, hb⟩ : ∃ x lr, Blk w b 33 #[x, .int .i64 0, .int .i8 lr] := by
    obtain ⟨lr, ⟨_, _, hb⟩ | ⟨g, cap, cur, _, _, _, hb, _⟩⟩ := h
    · exact ⟨_, lr, hb⟩
    · exact ⟨_, lr, hb⟩
  have c2 : w.cell? ⟨b, 2, none⟩ = some (.int .i8 lr) := hb.cell 2
  have f2 := hb.frozen 2
  have hgr1 : w.grownBy (w.setCell ⟨b, 2, none⟩ (.int .i8 0)) (some b) := only_setCell (World.grownBy.refl _ _) (Or.inl rfl) _
  have hs1 : (w.setCell ⟨b, 2, none⟩ (.int .i8 0)).heap.size = w.heap.size := by simp [World.setCell]
  obtain ⟨ao, cap, d0, hlc, hcm, hroom⟩ := hnr
  have HT := Lib.hid (Tryd.Buffer_tryGrow_none_at b 0 ao l.length cap n _ d0 hlc hcm hroom)
  have HG := Lib.hid hG
  have Hn := Lib.hid hn
  have Hr := Lib.hid hr
  have Hs1 := Lib.hid hs1
  have h0t : 0 < t.length := by omega
  clear hb hn hr d0 hG h hlc hcm hroom hs1
  go_enter Tryd.func98, Tryd.ntmps98
  go_wp2_with fail
  refine HT.out.mono ?_
  rintro e w1 ⟨rfl, rfl⟩
  go_wp2_with fail
  refine HG.out.mono ?_
  rintro e w2 ⟨rfl, g, cap2, cur, lr2, hgn, hb2, hg2, hc2, hm2, hs2, ht2, hgr⟩
  have hgr2 : w.grownBy w2 (some b) := hgr1.trans hgr
  have hgb : g ≠ b := by have := Hs1.out; omega
  have hsrc : ∀ j v, (Lib.byteCells t)[j]? = some v → w2.cell? (ad.add j) = some v := fun j v hj =>
    (hgr2.cell_far _ (by rw [block_of_add]; exact hsrc_len h0t Hr.out) (by rw [block_of_add]; exact fun e => hab (by injection e))).trans (Hr.out j v hj)
  have Hs2 := Lib.hid hs2
  have Ht2 := Lib.hid ht2
  clear hgr hgr1 HG HT hs2 ht2
  have hcp := run_copy_row (P := Tryd.prog) w2 27 27 3 5 g l.length n (cap2 - l.length) ad n c cur 5 (Lib.byteCells t) Tryd.underlying27 info1 hg2 (by rw [byteCells_len, ← Hn.out]; exact (Nat.min_self n).symm) hsrc (by rw [byteCells_len, Hs2.out, ← Hn.out]; omega) (Lib.byteCells_one _)
  rw [byteCells_len, ← Hn.out] at hcp
  have e0 : w2.cell? ⟨b, 0, none⟩ = some (.slice (some ⟨g, 0, none⟩) (l.length + n) cap2) := hb2.cell 0
  have hne : ¬ cap2 = l.length := by omega
  have hend := copied (l := l) (t := t) (by rw [← Hn.out]; exact hb2) hg2 hgb h0t (by rw [← Hn.out]; omega) hm2 Hs2.out Ht2.out
  rw [← Hn.out, List.append_assoc] at hend
  have Hend := Lib.hid hend
  have hcm' := hm2
  unfold maxLen at hcm'
  have hnew : w.heap.size ≤ g := by have := Hs1.out; omega
  clear hend hsrc hb2 hg2
  go_wp2_with fail
  go_ret2
  exact ⟨rfl, _, Hend.out, Wrote.setRow hgr2 (.inr hnew) _⟩

theorem write_some (b : Nat) (row : Option Nat) (l t : List UInt8) (ad : Addr) (n c : Nat) (w : World) (h : Wr w b row l) (hn : n = t.length) (h0 : 0 < n) (hab : ad.block ≠ b) (hr : ∀ j v, (Lib.byteCells t)[j]? = some v → w.cell? (ad.add j) = some v) (hlim : l.length + n ≤ 140737488355328) :
    Calls Tryd.prog 98 #[.pointer (some ⟨b, 0, none⟩), .slice (some ad) n c] w (WriteEnd b row (l ++ t) n w) := by
  have h' := h
  obtain ⟨lr, ⟨rfl, rfl, hb⟩ | ⟨g, cap, cur, hl0, rfl, hgb, hb, hg, hlc, hcm, hcs, ht⟩⟩ := h
  · have hb1 : Blk (w.setCell ⟨b, 2, none⟩ (.int .i8 0)) b 33 #[.slice none 0 0, .int .i64 0, .int .i8 0] := hb.set_ 2 (.int .i8 0)
    refine write_grow b n none [] t ad c w h' ⟨none, 0, hb1.cell 0, Nat.le_refl _, Nat.zero_le _, by simpa using h0⟩ ?_ hn h0 hab hr
    rcases Nat.lt_or_ge 64 n with h64 | h64
    · exact grow_big b n 0 _ hb1 h64 (by simpa using hlim)
    · exact grow_small b n 0 _ hb1 h0 h64
  · rcases Nat.lt_or_ge (cap - l.length) n with hroom | hroom
    · have hb1 : Blk (w.setCell ⟨b, 2, none⟩ (.int .i8 0)) b 33 #[.slice (some ⟨g, 0, none⟩) l.length cap, .int .i64 0, .int .i8 0] := hb.set_ 2 (.int .i8 0)
      exact write_grow b n (some g) l t ad c w h' ⟨_, cap, hb1.cell 0, hlc, hcm, hroom⟩ (grow_row b g cap n 0 cur l _ hb1 (hg.far (p := ⟨b, 2, none⟩) hgb _) hl0 hgb hlc hcm hcs ht h0 hroom hlim) hn h0 hab hr
    · exact write_room b g cap n lr cur l t ad c w hb hg hgb hlc hcm hcs ht hn h0 hroom hab hr

/-- how a writing ends -/
def WrEnd (b : Nat) (row : Option Nat) (l : List UInt8) (w : World) (e : Ending) (w' : World) : Prop :=
  e = .returned (.tuple #[]) ∧ ∃ row', Wr w' b row' l ∧ Wrote b row row' w w'

set_option maxRecDepth 100000 in
set_option maxHeartbeats 1000000 in
theorem wraw_some (b : Nat) (row : Option Nat) (l t : List UInt8) (ad : Addr) (n c : Nat) (w : World) (h : Wr w b row l) (hn : n = t.length) (h0 : 0 < n) (hab : ad.block ≠ b) (hr : ∀ j v, (Lib.byteCells t)[j]? = some v → w.cell? (ad.add j) = some v) (hlim : l.length + n ≤ 140737488355328) :
    Calls Tryd.prog 53 #[.pointer (some ⟨b, 0, none⟩), .slice (some ad) n c] w (WrEnd b row (l ++ t) w) := by
  have Hc := Lib.hid (write_some b row l t ad n c w h hn h0 hab hr hlim)
  clear hn hr h
  go_enter Tryd.func53, Tryd.ntmps53
  go_wp2_with fail
  refine Hc.out.mono ?_
  rintro e w1 ⟨rfl, row', h1, h2⟩
  go_wp2_with fail
  go_end0
  exact ⟨rfl, row', h1, h2⟩
end Go.Proofs.YtbbikkncobgabaaDoor
