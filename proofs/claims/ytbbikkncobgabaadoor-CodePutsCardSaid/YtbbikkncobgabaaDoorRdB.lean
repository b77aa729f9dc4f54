/-
  code.NewReader: where its blocks lie; what one reader's reading leaves of the others. By an AI agent.
-/
import Derived.Test.YtbbikkncobgabaaDoorEnds
namespace Go.Proofs.YtbbikkncobgabaaDoor
open Go.RowKit

/-- a reader whose blocks lie from lo on -/
def RdB (w : World) (lo R : Nat) (l : List UInt8) (p : Nat) (bad : Bool) : Prop :=
  lo ≤ R ∧ ∃ A cap, Blk w R 58 #[.slice A l.length cap, .int .i64 p, .bool bad] ∧ l.length ≤ cap ∧ cap ≤ maxLen ∧ p ≤ l.length ∧ (A = none → cap = 0) ∧ Reads w R 1 A l.length (Lib.byteCells l) ∧ ∀ ad, A = some ad → 0 < l.length → lo ≤ ad.block

theorem RdB.rd {w : World} {lo R : Nat} {l : List UInt8} {p : Nat} {bad : Bool} (h : RdB w lo R l p bad) : Rd w R l p bad := by
  obtain ⟨_, A, cap, h1, h2, h3, h4, h5, h6, _⟩ := h
  exact ⟨A, cap, h1, h2, h3, h4, h5, h6⟩
theorem RdB.kept {w w' : World} {lo R : Nat} {l : List UInt8} {p : Nat} {bad : Bool} (h : RdB w lo R l p bad) {row : Option Nat} (hg : w.grownBy w' row) (hr : ∀ k, row = some k → k < lo) : RdB w' lo R l p bad := by
  obtain ⟨h0, A, cap, h1, h2, h3, h4, h5, h6, h7⟩ := h
  have hlt := h1.lt
  refine ⟨h0, A, cap, (hg.block R hlt (fun e => by have := hr R e.symm; omega)).trans h1, h2, h3, h4, h5, ⟨h6.1, fun hn => ?_⟩, h7⟩
  obtain ⟨ad, e, hb, hc⟩ := h6.2 hn
  have hlo := h7 ad e hn
  refine ⟨ad, e, hb, fun j u hu => (World.cell?_of_block ?_).trans (hc j u hu)⟩
  rw [block_of_add]
  exact hg.block _ (by omega) (fun e => by have := hr _ e.symm; omega)

/-- a new reader -/
def NewRdB (l : List UInt8) (w : World) (e : Ending) (w' : World) : Prop := ∃ R, e = .returned (.pointer (some ⟨R, 0, none⟩)) ∧ RdB w' w.heap.size R l 0 false ∧ Below w.heap.size w w'

set_option maxRecDepth 100000 in
set_option maxHeartbeats 1000000 in
theorem newReaderB_any (A : Option Addr) (n c : Nat) (l : List UInt8) (w : World) (hn : n = l.length) (hc : n ≤ c) (hm : n ≤ 140737488355328) (hA : A = none → c = 0) (B : Nat) (hB : B ≤ w.heap.size) (hr : Reads w B 1 A n (Lib.byteCells l)) :
    Calls Tryd.prog 21 #[.slice A n c] w (NewRdB l w) := by
  have Hn := Lib.hid hn
  clear hn
  have hr := hr.more hB
  go_enter Tryd.func21, Tryd.ntmps21
  go_wp2_with fail
  refine (clone_any A n c l _ Hn.out hc hm hA _ (Nat.le_refl _) hr).mono ?_
  rintro e w1 ⟨v, rfl, hown, hb⟩
  have hown' := hown
  obtain ⟨A1, c1, rfl, h1, h2, h3, h4⟩ := hown.form2
  have h7 : ∀ ad, A1 = some ad → 0 < l.length → w.heap.size ≤ ad.block := by
    intro ad e h0
    obtain ⟨g, cap, e2, _, hg, _⟩ := hown'.row h0
    injection e2 with e2 _ _
    rw [e] at e2
    injection e2 with e2
    rw [e2]
    exact hg
  have hs := hb.size
  have hrd : RdB (w1.alloc (.cells #[.slice A1 l.length c1, .int .i64 0, .bool false] 58)) w.heap.size w1.heap.size l 0 false := ⟨hs, A1, c1, Blk.new _ _ _, h1, h2, Nat.zero_le _, h3, h4.alloc (Nat.le_refl _) _, h7⟩
  have Hrd := Lib.hid hrd
  have Hb := Lib.hid hb
  clear hrd h3 h4 hown hown' h7 hr hA hb
  go_wp2_with fail
  go_ret
  exact ⟨_, rfl, Hrd.out, Hb.out.alloc hs _⟩
end Go.Proofs.YtbbikkncobgabaaDoor
