/-
  Two writers and bytes of the call's own, side by side: which blocks are whose. By an AI agent.
-/
import Derived.Test.YtbbikkncobgabaaDoorDoc
namespace Go.Proofs.YtbbikkncobgabaaDoor
open Go.RowKit

theorem Owns.stay {w w' : World} {base : Nat} {v : Value} {l : List UInt8} (h : Owns w base v l) (hk : ∀ g, v.ownBlock = some g → w'.heap[g]? = w.heap[g]?) : Owns w' base v l := by
  obtain ⟨h1, h2⟩ := h
  refine ⟨h1, ?_⟩
  rcases h2 with h2 | ⟨g, cap, cur, hv, hg, hh, r⟩
  · exact .inl h2
  · exact .inr ⟨g, cap, cur, hv, hg, (hk g (by rw [hv]; rfl)).trans hh, r⟩

/-- the blocks below S of two writers' rows and of a row of bytes: each lies from H on, none is a writer's own, no two are one -/
structure Sep (H S bw bv : Nat) (r1 r2 r3 : Option Nat) : Prop where
  b1 : H ≤ bw
  b2 : bw < bv
  b3 : bv < S
  h1 : ∀ g, r1 = some g → H ≤ g ∧ g < S ∧ g ≠ bw ∧ g ≠ bv ∧ r2 ≠ some g ∧ r3 ≠ some g
  h2 : ∀ g, r2 = some g → H ≤ g ∧ g < S ∧ g ≠ bw ∧ g ≠ bv ∧ r1 ≠ some g ∧ r3 ≠ some g
  h3 : ∀ g, r3 = some g → H ≤ g ∧ g < S ∧ g ≠ bw ∧ g ≠ bv ∧ r1 ≠ some g ∧ r2 ≠ some g

theorem Sep.more {H S S' bw bv : Nat} {r1 r2 r3 : Option Nat} (h : Sep H S bw bv r1 r2 r3) (hS : S ≤ S') : Sep H S' bw bv r1 r2 r3 := by
  obtain ⟨b1, b2, b3, h1, h2, h3⟩ := h
  exact ⟨b1, b2, by omega, fun g e => by obtain ⟨a, b, c⟩ := h1 g e; exact ⟨a, by omega, c⟩, fun g e => by obtain ⟨a, b, c⟩ := h2 g e; exact ⟨a, by omega, c⟩, fun g e => by obtain ⟨a, b, c⟩ := h3 g e; exact ⟨a, by omega, c⟩⟩

theorem Sep.first {H S S' bw bv : Nat} {r1 r2 r3 r : Option Nat} (h : Sep H S bw bv r1 r2 r3) (hS : S ≤ S') (hr : r = r1 ∨ ∃ g, r = some g ∧ S ≤ g) (hlt : ∀ g, r = some g → g < S') : Sep H S' bw bv r r2 r3 := by
  have hm := h.more hS
  rcases hr with rfl | ⟨g, rfl, hg⟩
  · exact hm
  · obtain ⟨b1, b2, b3, h1, h2, h3⟩ := h
    have n2 : r2 ≠ some g := fun e => by have := (h2 g e).2.1; omega
    have n3 : r3 ≠ some g := fun e => by have := (h3 g e).2.1; omega
    refine ⟨b1, b2, by omega, fun g' e => ?_, fun g' e => ?_, fun g' e => ?_⟩
    · injection e with e; subst e; exact ⟨by omega, hlt g rfl, by omega, by omega, n2, n3⟩
    · obtain ⟨a, b, c, d, _, f⟩ := h2 g' e; exact ⟨a, by omega, c, d, (fun e2 => by injection e2 with e2; omega), f⟩
    · obtain ⟨a, b, c, d, _, f⟩ := h3 g' e; exact ⟨a, by omega, c, d, (fun e2 => by injection e2 with e2; omega), f⟩
theorem Sep.second {H S S' bw bv : Nat} {r1 r2 r3 r : Option Nat} (h : Sep H S bw bv r1 r2 r3) (hS : S ≤ S') (hr : r = r2 ∨ ∃ g, r = some g ∧ S ≤ g) (hlt : ∀ g, r = some g → g < S') : Sep H S' bw bv r1 r r3 := by
  have hm := h.more hS
  rcases hr with rfl | ⟨g, rfl, hg⟩
  · exact hm
  · obtain ⟨b1, b2, b3, h1, h2, h3⟩ := h
    have n1 : r1 ≠ some g := fun e => by have := (h1 g e).2.1; omega
    have n3 : r3 ≠ some g := fun e => by have := (h3 g e).2.1; omega
    refine ⟨b1, b2, by omega, fun g' e => ?_, fun g' e => ?_, fun g' e => ?_⟩
    · obtain ⟨a, b, c, d, _, f⟩ := h1 g' e; exact ⟨a, by omega, c, d, (fun e2 => by injection e2 with e2; omega), f⟩
    · injection e with e; subst e; exact ⟨by omega, hlt g rfl, by omega, by omega, n1, n3⟩
    · obtain ⟨a, b, c, d, f, _⟩ := h3 g' e; exact ⟨a, by omega, c, d, f, (fun e2 => by injection e2 with e2; omega)⟩
theorem Sep.third {H S S' bw bv : Nat} {r1 r2 r3 r : Option Nat} (h : Sep H S bw bv r1 r2 r3) (hS : S ≤ S') (hr : r = r3 ∨ ∃ g, r = some g ∧ S ≤ g) (hlt : ∀ g, r = some g → g < S') : Sep H S' bw bv r1 r2 r := by
  have hm := h.more hS
  rcases hr with rfl | ⟨g, rfl, hg⟩
  · exact hm
  · obtain ⟨b1, b2, b3, h1, h2, h3⟩ := h
    have n1 : r1 ≠ some g := fun e => by have := (h1 g e).2.1; omega
    have n2 : r2 ≠ some g := fun e => by have := (h2 g e).2.1; omega
    refine ⟨b1, b2, by omega, fun g' e => ?_, fun g' e => ?_, fun g' e => ?_⟩
    · obtain ⟨a, b, c, d, f, _⟩ := h1 g' e; exact ⟨a, by omega, c, d, f, (fun e2 => by injection e2 with e2; omega)⟩
    · obtain ⟨a, b, c, d, f, _⟩ := h2 g' e; exact ⟨a, by omega, c, d, f, (fun e2 => by injection e2 with e2; omega)⟩
    · injection e with e; subst e; exact ⟨by omega, hlt g rfl, by omega, by omega, n1, n2⟩

/-- two writers, and bytes in a row of the call's own: what each holds -/
structure Trio (H : Nat) (w : World) (bw bv : Nat) (v : Value) (l1 l2 l3 : List UInt8) (r1 r2 : Option Nat) : Prop where
  wr : Wr w bw r1 l1
  vr : Wr w bv r2 l2
  own : Owns w H v l3
  sep : Sep H w.heap.size bw bv r1 r2 v.ownBlock

section
variable {H bw bv : Nat} {w w' : World} {v : Value} {l1 l2 l3 l : List UInt8} {r1 r2 r : Option Nat}
/-- behind what leaves all that is old -/
theorem Trio.old (h : Trio H w bw bv v l1 l2 l3 r1 r2) (hb : Below w.heap.size w w') : Trio H w' bw bv v l1 l2 l3 r1 r2 :=
  ⟨h.wr.old hb, h.vr.old hb, h.own.below hb, h.sep.more hb.size⟩
/-- behind what turns one block that is none of theirs -/
theorem Trio.apart (h : Trio H w bw bv v l1 l2 l3 r1 r2) {row : Option Nat} (hg : w.grownBy w' row) (hr : ∀ g, row = some g → g ≠ bw ∧ g ≠ bv ∧ r1 ≠ some g ∧ r2 ≠ some g ∧ v.ownBlock ≠ some g) : Trio H w' bw bv v l1 l2 l3 r1 r2 := by
  have hk : ∀ i, i < w.heap.size → (∀ g, row = some g → g ≠ i) → w'.heap[i]? = w.heap[i]? := fun i hi hne => hg.block i hi (fun e => hne i e.symm rfl)
  refine ⟨h.wr.keep (hk bw h.wr.lt fun g e => (hr g e).1) (fun g e => hk g (h.wr.rowLt g e).1 fun g' e' e2 => (hr g' e').2.2.1 (by rw [e, e2])),
    h.vr.keep (hk bv h.vr.lt fun g e => (hr g e).2.1) (fun g e => hk g (h.vr.rowLt g e).1 fun g' e' e2 => (hr g' e').2.2.2.1 (by rw [e, e2])),
    h.own.stay (fun g e => hk g (h.sep.h3 g e).2.1 fun g' e' e2 => (hr g' e').2.2.2.2 (by rw [e, e2])), h.sep.more hg.size⟩
/-- the first one has written -/
theorem Trio.first (h : Trio H w bw bv v l1 l2 l3 r1 r2) (hw : Wr w' bw r l) (hf : Wrote bw r1 r w w') : Trio H w' bw bv v l l2 l3 r r2 := by
  have hs := h.sep
  have hk := hf.2.2.2.2.1
  refine ⟨hw, h.vr.keep (hk bv h.vr.lt (by have := hs.b2; omega) fun e => (hs.h1 bv e.symm).2.2.2.1 rfl) (fun g e => hk g (h.vr.rowLt g e).1 (hs.h2 g e).2.2.1 fun e2 => (hs.h2 g e).2.2.2.2.1 e2.symm),
    h.own.stay (fun g e => hk g (hs.h3 g e).2.1 (hs.h3 g e).2.2.1 fun e2 => (hs.h3 g e).2.2.2.2.1 e2.symm), hs.first hf.size hf.2.2.2.2.2 fun g e => (hw.rowLt g e).1⟩
/-- the second one has written -/
theorem Trio.second (h : Trio H w bw bv v l1 l2 l3 r1 r2) (hw : Wr w' bv r l) (hf : Wrote bv r2 r w w') : Trio H w' bw bv v l1 l l3 r1 r := by
  have hs := h.sep
  have hk := hf.2.2.2.2.1
  refine ⟨h.wr.keep (hk bw h.wr.lt (by have := hs.b2; omega) fun e => (hs.h2 bw e.symm).2.2.1 rfl) (fun g e => hk g (h.wr.rowLt g e).1 (hs.h1 g e).2.2.2.1 fun e2 => (hs.h1 g e).2.2.2.2.1 e2.symm), hw,
    h.own.stay (fun g e => hk g (hs.h3 g e).2.1 (hs.h3 g e).2.2.2.1 fun e2 => (hs.h3 g e).2.2.2.2.2 e2.symm), hs.second hf.size hf.2.2.2.2.2 fun g e => (hw.rowLt g e).1⟩
/-- the row has grown -/
theorem Trio.third {v' : Value} (h : Trio H w bw bv v l1 l2 l3 r1 r2) (ho : Owns w' H v' l) (hg : w.grownBy w' v.ownBlock) (hv : v'.ownBlock = v.ownBlock ∨ v'.ownBlock = some w.heap.size) : Trio H w' bw bv v' l1 l2 l r1 r2 := by
  have hs := h.sep
  refine ⟨h.wr.keep (hg.block bw h.wr.lt fun e => (hs.h3 bw e.symm).2.2.1 rfl) (fun g e => hg.block g (h.wr.rowLt g e).1 fun e2 => (hs.h1 g e).2.2.2.2.2 e2.symm),
    h.vr.keep (hg.block bv h.vr.lt fun e => (hs.h3 bv e.symm).2.2.2.1 rfl) (fun g e => hg.block g (h.vr.rowLt g e).1 fun e2 => (hs.h2 g e).2.2.2.2.2 e2.symm), ho,
    hs.third hg.size (hv.imp_right fun e => ⟨_, e, Nat.le_refl _⟩) fun g e => (ho.lt g e).2⟩
/-- of the blocks below H none has turned -/
theorem Trio.below1 (h : Trio H w bw bv v l1 l2 l3 r1 r2) (hf : Wrote bw r1 r w w') : Below H w w' := hf.below h.sep.b1 (fun g e => (h.sep.h1 g e).1) (by have := h.sep.b1; have := h.sep.b2; have := h.sep.b3; omega)
theorem Trio.below2 (h : Trio H w bw bv v l1 l2 l3 r1 r2) (hf : Wrote bv r2 r w w') : Below H w w' := hf.below (by have := h.sep.b1; have := h.sep.b2; omega) (fun g e => (h.sep.h2 g e).1) (by have := h.sep.b1; have := h.sep.b2; have := h.sep.b3; omega)
end
end Go.Proofs.YtbbikkncobgabaaDoor
