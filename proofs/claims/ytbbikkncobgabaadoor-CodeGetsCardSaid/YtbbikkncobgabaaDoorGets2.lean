/-
  What the reader's part answers, and the document's at the same place. By an AI agent.
-/
import Derived.Test.YtbbikkncobgabaaDoorGets1
namespace Go.Proofs.YtbbikkncobgabaaDoor
open Go.RowKit

theorem str_no : str [] = ⟨#[]⟩ := rfl

/-- what a reading of a part comes to: b, whether it failed -/
def OutP (k m : Int) (r : List UInt8) (bad : Bool) (y : Nat) (t : List UInt8) (j : Nat) (b : Bool) : Prop :=
  (b = false ∧ bad = false ∧ rdPart k m r = some (y, t, j)) ∨ (b = true ∧ y = 0 ∧ t = [] ∧ j = 0 ∧ (rdPart k m r = none ∨ bad = true))

theorem get_one (R : Nat) (l : List UInt8) (q : Nat) (bad : Bool) (s m x : Int) (A : Option Addr) (n c : Nat) (w : World) (h : Rd w R l q bad) (hmost : m ≤ 9223372036854775807) (hm : l.length ≤ 140737488355328) :
    Calls Tryd.prog 27 #[.pointer (some ⟨R, 0, none⟩), part s m x (.slice A n c)] w fun e w' => w.grownBy w' (some R) ∧ ∃ (y : Nat) (t : List UInt8) (j : Nat) (b : Bool), e = .returned (.tuple #[.int .u64 (y : Int), .string (str t)]) ∧ Rd w' R l (q + j) b ∧ OutP (s % 5) m (l.drop q) bad y t j b := by
  refine (get_both R l q bad s m x A n c w h hmost hm).mono ?_
  rintro e w' ⟨hg, ⟨h0, y, t, j, h1, rfl, h2⟩ | ⟨h1, rfl, h2⟩⟩
  · exact ⟨hg, y, t, j, false, rfl, h2, .inl ⟨rfl, h0, h1⟩⟩
  · exact ⟨hg, 0, [], 0, true, rfl, h2, .inr ⟨rfl, rfl, rfl, rfl, h1⟩⟩

/-- how the document's number ends -/
def NumO (lo D : Nat) (r : List UInt8) (y j : Nat) (b : Bool) (w : World) (e : Ending) (w' : World) : Prop := e = .returned (.int .u64 (y : Int)) ∧ Dr w' lo D (r.drop j) b ∧ w.grownBy w' (some D)

theorem wide1_one (lo D : Nat) (r : List UInt8) (m : Int) (bad : Bool) (y : Nat) (t : List UInt8) (j : Nat) (b : Bool) (w : World) (h : Dr w lo D r bad) (ho : OutP 0 m r bad y t j b) (hs : r.length ≤ 1000000) :
    t = [] ∧ Calls Tryd.prog 29 #[.pointer (some ⟨D, 0, none⟩), .int .i64 1] w (NumO lo D r y j b w) := by
  rcases ho with ⟨rfl, rfl, h1⟩ | ⟨rfl, rfl, rfl, rfl, h1⟩
  · obtain ⟨h2, rfl, rfl, rfl⟩ := rd_inv0 m r y t j h1
    exact ⟨rfl, wideD_ok lo D r 1 w h h2 (by decide) hs⟩
  · exact ⟨rfl, (wideD_no lo D r 1 bad w h (h1.imp (rd_none0 m r) id) hs)⟩
theorem wide4_one (lo D : Nat) (r : List UInt8) (m : Int) (bad : Bool) (y : Nat) (t : List UInt8) (j : Nat) (b : Bool) (w : World) (h : Dr w lo D r bad) (ho : OutP 1 m r bad y t j b) (hs : r.length ≤ 1000000) :
    t = [] ∧ Calls Tryd.prog 29 #[.pointer (some ⟨D, 0, none⟩), .int .i64 4] w (NumO lo D r y j b w) := by
  rcases ho with ⟨rfl, rfl, h1⟩ | ⟨rfl, rfl, rfl, rfl, h1⟩
  · obtain ⟨h2, rfl, rfl, rfl⟩ := rd_inv1 m r y t j h1
    exact ⟨rfl, wideD_ok lo D r 4 w h h2 (by decide) hs⟩
  · exact ⟨rfl, (wideD_no lo D r 4 bad w h (h1.imp (rd_none1 m r) id) hs)⟩
theorem uint_one (lo D : Nat) (r : List UInt8) (m : Int) (bad : Bool) (y : Nat) (t : List UInt8) (j : Nat) (b : Bool) (w : World) (h : Dr w lo D r bad) (ho : OutP 2 m r bad y t j b) (hs : r.length ≤ 1000000) :
    t = [] ∧ Calls Tryd.prog 30 #[.pointer (some ⟨D, 0, none⟩)] w (NumO lo D r y j b w) := by
  rcases ho with ⟨rfl, rfl, h1⟩ | ⟨rfl, rfl, rfl, rfl, h1⟩
  · obtain ⟨h2, rfl⟩ := rd_inv2 m r y t j h1
    exact ⟨rfl, uintD_ok lo D r y j w h h2 hs⟩
  · exact ⟨rfl, (uintD_no lo D r bad w h (h1.imp (rd_none2 m r) id) hs)⟩
/-- how the document's text ends -/
def TextO (lo D : Nat) (r t : List UInt8) (j : Nat) (b : Bool) (w : World) (e : Ending) (w' : World) : Prop := e = .returned (.string (str t)) ∧ Dr w' lo D (r.drop j) b ∧ w.grownBy w' (some D)
theorem text_one (lo D : Nat) (r : List UInt8) (m : Int) (bad : Bool) (y : Nat) (t : List UInt8) (j : Nat) (b : Bool) (w : World) (h : Dr w lo D r bad) (ho : OutP 3 m r bad y t j b) (hmost : m ≤ 9223372036854775807) (hs : r.length ≤ 1000000) :
    y = 0 ∧ Calls Tryd.prog 31 #[.pointer (some ⟨D, 0, none⟩), .int .i64 m] w (TextO lo D r t j b w) := by
  rcases ho with ⟨rfl, rfl, h1⟩ | ⟨rfl, rfl, rfl, rfl, h1⟩
  · obtain ⟨k, x, h2, rfl, rfl, rfl⟩ := rd_inv3 m r y t j h1
    exact ⟨rfl, textD_ok lo D r m k x w h h2 hmost hs⟩
  · exact ⟨rfl, (textD_no lo D r m bad w h (h1.imp (rd_none3 m r) id) hmost hs)⟩
/-- how the document's bytes end -/
def RawO (lo D : Nat) (r t : List UInt8) (j : Nat) (b : Bool) (w : World) (e : Ending) (w' : World) : Prop := (∃ v base, e = .returned v ∧ Owns w' base v t) ∧ Dr w' lo D (r.drop j) b ∧ w.grownBy w' (some D)
theorem raw_one (lo D : Nat) (r : List UInt8) (m : Int) (bad : Bool) (y : Nat) (t : List UInt8) (j : Nat) (b : Bool) (w : World) (h : Dr w lo D r bad) (ho : OutP 4 m r bad y t j b) (hs : r.length ≤ 1000000) :
    y = 0 ∧ Calls Tryd.prog 32 #[.pointer (some ⟨D, 0, none⟩), .int .i64 m] w (RawO lo D r t j b w) := by
  rcases ho with ⟨rfl, rfl, h1⟩ | ⟨rfl, rfl, rfl, rfl, h1⟩
  · obtain ⟨k, rfl, h2, rfl, rfl, rfl⟩ := rd_inv4 m r y t j h1
    refine ⟨rfl, (rawD_ok lo D r j w h h2 hs).mono ?_⟩
    rintro e w' ⟨v, rfl, h3, h4, h5⟩
    exact ⟨⟨v, _, rfl, h3⟩, h4, h5⟩
  · refine ⟨rfl, (rawD_no lo D r m bad w h ?_ hs).mono ?_⟩
    · rcases h1 with h1 | h1
      · rcases rd_none4 m r h1 with h2 | h2
        · exact .inl h2
        · exact .inr (.inl h2)
      · exact .inr (.inr h1)
    · rintro e w' ⟨rfl, h4, h5⟩
      exact ⟨⟨_, 0, rfl, Owns.nil w' 0⟩, h4, h5⟩
end Go.Proofs.YtbbikkncobgabaaDoor
