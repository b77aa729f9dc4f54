/-
  scrivenerref02.Reader: what it holds; Raw, End. By an AI agent.
-/
import Derived.Test.YtbbikkncobgabaaDoorRef
import Derived.Test.YtbbikkncobgabaaDoorRdB
import Derived.Outline
namespace Go.Proofs.YtbbikkncobgabaaDoor
open Go.RowKit

/-- the document's reader in block D, its bytes in another one; all its blocks lie from lo on -/
def Dr (w : World) (lo D : Nat) (l : List UInt8) (bad : Bool) : Prop :=
  lo ≤ D ∧ ∃ A c, Blk w D 51 #[.slice A l.length c, .bool bad] ∧ l.length ≤ c ∧ c ≤ maxLen ∧ (A = none → c = 0) ∧ Reads w w.heap.size 1 A l.length (Lib.byteCells l) ∧ ∀ ad, A = some ad → 0 < l.length → lo ≤ ad.block ∧ ad.block ≠ D

theorem Dr.lt {w : World} {lo D : Nat} {l : List UInt8} {bad : Bool} (h : Dr w lo D l bad) : D < w.heap.size := by
  obtain ⟨_, A, c, hb, _⟩ := h; exact hb.lt
theorem Dr.kept {w w' : World} {lo D : Nat} {l : List UInt8} {bad : Bool} (h : Dr w lo D l bad) {row : Option Nat} (hg : w.grownBy w' row) (hr : ∀ k, row = some k → k < lo) : Dr w' lo D l bad := by
  obtain ⟨h0, A, c, h1, h2, h3, h4, h5, h6⟩ := h
  have hlt := h1.lt
  refine ⟨h0, A, c, (hg.block D hlt (fun e => by have := hr D e.symm; omega)).trans h1, h2, h3, h4, ⟨h5.1, fun hn => ?_⟩, h6⟩
  obtain ⟨ad, e, hb, hc⟩ := h5.2 hn
  have hlo := (h6 ad e hn).1
  refine ⟨ad, e, Nat.lt_of_lt_of_le hb hg.size, fun j u hu => (World.cell?_of_block ?_).trans (hc j u hu)⟩
  rw [block_of_add]
  exact hg.block _ hb (fun e => by have := hr _ e.symm; omega)
/-- a fault -/
theorem Dr.spoil {w : World} {lo D : Nat} {l : List UInt8} {bad : Bool} (h : Dr w lo D l bad) : Dr (w.setCell ⟨D, 1, none⟩ (.bool true)) lo D l true := by
  obtain ⟨h0, A, c, h1, h2, h3, h4, h5, h6⟩ := h
  refine ⟨h0, A, c, h1.set_ 1 (.bool true), h2, h3, h4, ⟨h5.1, fun hn => ?_⟩, h6⟩
  obtain ⟨ad, e, hb, hc⟩ := h5.2 hn
  refine ⟨ad, e, by simpa [World.setCell] using hb, fun j u hu => (World.cell?_setCell_other _ _ _ _ ?_).trans (hc j u hu)⟩
  intro e2
  have h9 := congrArg Addr.block e2
  rw [block_of_add] at h9
  exact (h6 ad e hn).2 (by simpa using h9.symm)

theorem Owns.bare0 (w : World) (base : Nat) (hb : base ≤ w.heap.size) : Owns (w.alloc (.cells #[] 5)) base (.slice (some ⟨w.heap.size, 0, none⟩) 0 0) [] := Owns.lit w base [] hb (by simp [maxLen])

/-- how Raw ends, where there is so much -/
def RawD (lo D : Nat) (l : List UInt8) (n : Nat) (w : World) (e : Ending) (w' : World) : Prop := ∃ v, e = .returned v ∧ Owns w' w.heap.size v (l.take n) ∧ Dr w' lo D (l.drop n) false ∧ w.grownBy w' (some D)

/-- behind the two appends and the store -/
theorem rawD_end {lo D : Nat} {l : List UInt8} {n : Nat} {w w2 w3 : World} {v v3 : Value} {A : Option Addr} {c : Nat} (hD : Blk w D 51 #[.slice A l.length c, .bool false]) (hlo : lo ≤ D) (hloS : lo ≤ w.heap.size)
    (hb2 : Below w.heap.size w w2) (h2 : Owns w2 w.heap.size v (l.take n)) (h3 : Owns w3 w2.heap.size v3 (l.drop n)) (hb3 : Below w2.heap.size w2 w3) :
    RawD lo D l n w (.returned v) (w3.setCell ⟨D, 0, none⟩ v3) := by
  have hlt := hD.lt
  have hs2 := hb2.size
  have hbb := hb2.trans (hb3.mono hs2)
  have hDw3 := hD.below hbb hlt
  refine ⟨v, rfl, (h2.below hb3).apart (a := ⟨D, 0, none⟩) hlt _, ?_, only_setCell (only_of_below hbb (some D)) (Or.inl rfl) _⟩
  have h3' := h3
  obtain ⟨A3, c3, rfl, hc, hm, hA, hr⟩ := h3.form2
  have hlb : ∀ ad, A3 = some ad → 0 < (l.drop n).length → w2.heap.size ≤ ad.block := by
    intro ad e h0
    obtain ⟨g, cap, e2, _, hg, _⟩ := h3'.row h0
    injection e2 with e2 _ _
    rw [e] at e2
    injection e2 with e2
    rw [e2]
    exact hg
  refine ⟨hlo, A3, c3, by simpa using hDw3.set_ 0 (.slice A3 (l.drop n).length c3), hc, hm, hA, ⟨hr.1, fun hn => ?_⟩, fun ad e h0 => by have := hlb ad e h0; omega⟩
  obtain ⟨ad, e, hb, hcell⟩ := hr.2 hn
  have hge := hlb ad e hn
  refine ⟨ad, e, by simpa [World.setCell] using hb, fun j u hu => (World.cell?_setCell_other _ _ _ _ ?_).trans (hcell j u hu)⟩
  intro e2
  have h9 := congrArg Addr.block e2
  rw [block_of_add] at h9
  simp at h9
  omega

set_option maxRecDepth 100000 in
set_option maxHeartbeats 4000000 in
theorem rawD_ok (lo D : Nat) (l : List UInt8) (n : Nat) (w : World) (h : Dr w lo D l false) (hn : n ≤ l.length) (hs : l.length ≤ 1000000) :
    Calls Tryd.prog 32 #[.pointer (some ⟨D, 0, none⟩), .int .i64 n] w (RawD lo D l n w) := by
  have hlt := h.lt
  obtain ⟨hlo, A, c, hb, hlc, hcm, hA, hr, hfar⟩ := h
  have hloS : lo ≤ w.heap.size := by omega
  obtain ⟨N, hN⟩ : ∃ N, N = l.length := ⟨_, rfl⟩
  have HN := Lib.hid hN
  have Hb := Lib.hid hb
  rw [← hN] at hb hlc hr hn hs
  have hd0 : decide ((n : Int) < 0) = false := by rw [decide_eq_false_iff_not]; omega
  have hd1 : decide ((N : Int) < (n : Int)) = false := by rw [decide_eq_false_iff_not]; omega
  have c0 : w.cell? ⟨D, 0, none⟩ = some (.slice A N c) := hb.cell 0
  have c1 : w.cell? ⟨D, 1, none⟩ = some (.bool false) := hb.cell 1
  have c0a : ∀ o, (w.alloc o).cell? ⟨D, 0, none⟩ = some (.slice A N c) := fun o => (World.cell?_alloc_lt w o _ hlt).trans c0
  unfold maxLen at hcm
  have i0 : (0 : Int) ≤ (n : Int) := by omega
  have i1 : (n : Int) ≤ (N : Int) := by omega
  have i2 : (n : Int) ≤ (c : Int) := by omega
  clear hN hb hfar
  have hrt : Reads w w.heap.size 1 A n (Lib.byteCells (l.take n)) := by
    have h1 := hr.take (k := n) hn
    rwa [byteCells_take] at h1
  have hrd : Reads w w.heap.size 1 (if c = n then A else A.map (·.add (n * 1))) (N - n) (Lib.byteCells (l.drop n)) := by
    have h1 := hr.cut (k := n) (cap := c) hn hlc
    rw [Nat.mul_one, byteCells_drop] at h1
    rw [Nat.mul_one]
    exact h1
  have htl : n = (l.take n).length := by rw [List.length_take, ← HN.out]; omega
  have hdl : N - n = (l.drop n).length := by rw [List.length_drop, ← HN.out]
  have Htl := Lib.hid htl
  have Hdl := Lib.hid hdl
  clear hr htl hdl
  rcases A with _ | ad
  · have hc0 := hA rfl
    subst hc0
    obtain rfl : N = 0 := by omega
    obtain rfl : n = 0 := by omega
    clear hA hrd hrt
    have f0 : ∀ o o', ((w.alloc o).alloc o').frozen? ⟨D, 0, none⟩ = false := fun o o' => ((Hb.out.alloc o).alloc o').frozen 0
    have c0b : ∀ o o', ((w.alloc o).alloc o').cell? ⟨D, 0, none⟩ = some (.slice none 0 0) := fun o o' => by
      rw [((Hb.out.alloc o).alloc o').cell 0, ← HN.out]; rfl
    go_enter Tryd.func32, Tryd.ntmps32
    obtain rfl : l = [] := List.eq_nil_of_length_eq_zero HN.out.symm
    have hsz : (w.alloc (.cells #[] 5)).heap.size = w.heap.size + 1 := by simp
    have hend := rawD_end (n := 0) (v := .slice (some ⟨w.heap.size, 0, none⟩) 0 0) (v3 := .slice (some ⟨w.heap.size + 1, 0, none⟩) 0 0) Hb.out hlo hloS ((Below.refl _ w).alloc (Nat.le_refl _) _) (Owns.bare0 w _ (Nat.le_refl _)) (by have h := Owns.bare0 (w.alloc (.cells #[] 5)) _ (Nat.le_refl _); rw [hsz] at h ⊢; exact h) ((Below.refl _ _).alloc (Nat.le_refl _) _)
    rw [World.setCell_alloc_past (hn := by simp; omega), World.setCell_alloc_past (hn := hlt)] at hend
    have Hend := Lib.hid hend
    clear hend hsz
    go_wp2_with fail
    go_ret
    exact Hend.out
  · clear hA
    by_cases hcn : c = n
    · rw [if_pos hcn] at hrd
      go_enter Tryd.func32, Tryd.ntmps32
      go_wp2_with (at_builtin; refine wpList_app rfl (.tmp 26) (.tmp 32) rfl w.heap.size _ [] rfl (Owns.bare0 w _ (Nat.le_refl _)) w.heap.size _ _ _ (l.take n) rfl Htl.out (hrt.alloc (Nat.le_refl _) _) ?_ ?_ ?_)
      · first | omega | (simp; omega)
      · first | omega | simp
      intro v2 w2 hown2 hg2 _
      have hb2 : Below w.heap.size w w2 := ((Below.refl _ w).alloc (Nat.le_refl _) _).grown hg2 (by simp) (fun k hk => by simp [Value.ownBlock] at hk; omega)
      have e0 : w2.cell? ⟨D, 0, none⟩ = some (.slice (some ad) N c) := (hb2.cell (p := ⟨D, 0, none⟩) hlt).trans c0
      have hs2 := hb2.size
      have e0a : ∀ o, (w2.alloc o).cell? ⟨D, 0, none⟩ = some (.slice (some ad) N c) := fun o => (World.cell?_alloc_lt w2 o ⟨D, 0, none⟩ (by show D < _; omega)).trans e0
      have hrd2 := hrd.below hb2
      clear hg2 hrt hrd c0 c1 c0a
      go_wp2_with (at_builtin; refine wpList_app rfl (.tmp 35) (.tmp 41) rfl w2.heap.size _ [] rfl (Owns.bare0 w2 _ (Nat.le_refl _)) w.heap.size _ _ _ (l.drop n) rfl Hdl.out (hrd2.alloc hs2 _) ?_ ?_ ?_)
      · first | omega | (simp; omega)
      · first | omega | simp
      intro v3 w3 hown3 hg3 _
      have hown3' := hown3
      have hb3 : Below w2.heap.size w2 w3 := ((Below.refl _ w2).alloc (Nat.le_refl _) _).grown hg3 (by simp) (fun k hk => by simp [Value.ownBlock] at hk; omega)
      have hend := rawD_end (Hb.out) hlo hloS hb2 hown2 hown3 hb3
      have hbb := hb2.trans (hb3.mono hs2)
      have g0 : w3.cell? ⟨D, 0, none⟩ = some (.slice (some ad) N c) := by rw [hbb.cell (p := ⟨D, 0, none⟩) hlt, Hb.out.cell 0, ← HN.out]; rfl
      have g1 : w3.frozen? ⟨D, 0, none⟩ = false := by rw [hbb.frozen (p := ⟨D, 0, none⟩) hlt]; exact Hb.out.frozen 0
      have Hend := Lib.hid hend
      clear hend hg3 hown2 hown3 hrd2 e0 e0a
      obtain ⟨A3, c3, e3⟩ : ∃ A3 c3, v3 = .slice A3 (N - n) c3 := by
        obtain ⟨A3, c3, e, -⟩ := hown3'.form
        exact ⟨A3, c3, by rw [e, ← Hdl.out]⟩
      subst e3
      go_wp2_with fail
      go_ret
      exact Hend.out
    · rw [if_neg hcn, Nat.mul_one, Option.map_some] at hrd
      go_enter Tryd.func32, Tryd.ntmps32
      go_wp2_with (at_builtin; refine wpList_app rfl (.tmp 26) (.tmp 32) rfl w.heap.size _ [] rfl (Owns.bare0 w _ (Nat.le_refl _)) w.heap.size _ _ _ (l.take n) rfl Htl.out (hrt.alloc (Nat.le_refl _) _) ?_ ?_ ?_)
      · first | omega | (simp; omega)
      · first | omega | simp
      intro v2 w2 hown2 hg2 _
      have hb2 : Below w.heap.size w w2 := ((Below.refl _ w).alloc (Nat.le_refl _) _).grown hg2 (by simp) (fun k hk => by simp [Value.ownBlock] at hk; omega)
      have e0 : w2.cell? ⟨D, 0, none⟩ = some (.slice (some ad) N c) := (hb2.cell (p := ⟨D, 0, none⟩) hlt).trans c0
      have hs2 := hb2.size
      have e0a : ∀ o, (w2.alloc o).cell? ⟨D, 0, none⟩ = some (.slice (some ad) N c) := fun o => (World.cell?_alloc_lt w2 o ⟨D, 0, none⟩ (by show D < _; omega)).trans e0
      have hrd2 := hrd.below hb2
      clear hg2 hrt hrd c0 c1 c0a
      go_wp2_with (at_builtin; refine wpList_app rfl (.tmp 35) (.tmp 41) rfl w2.heap.size _ [] rfl (Owns.bare0 w2 _ (Nat.le_refl _)) w.heap.size _ _ _ (l.drop n) rfl Hdl.out (hrd2.alloc hs2 _) ?_ ?_ ?_)
      · first | omega | (simp; omega)
      · first | omega | simp
      intro v3 w3 hown3 hg3 _
      have hown3' := hown3
      have hb3 : Below w2.heap.size w2 w3 := ((Below.refl _ w2).alloc (Nat.le_refl _) _).grown hg3 (by simp) (fun k hk => by simp [Value.ownBlock] at hk; omega)
      have hend := rawD_end (Hb.out) hlo hloS hb2 hown2 hown3 hb3
      have hbb := hb2.trans (hb3.mono hs2)
      have g0 : w3.cell? ⟨D, 0, none⟩ = some (.slice (some ad) N c) := by rw [hbb.cell (p := ⟨D, 0, none⟩) hlt, Hb.out.cell 0, ← HN.out]; rfl
      have g1 : w3.frozen? ⟨D, 0, none⟩ = false := by rw [hbb.frozen (p := ⟨D, 0, none⟩) hlt]; exact Hb.out.frozen 0
      have Hend := Lib.hid hend
      clear hend hg3 hown2 hown3 hrd2 e0 e0a
      obtain ⟨A3, c3, e3⟩ : ∃ A3 c3, v3 = .slice A3 (N - n) c3 := by
        obtain ⟨A3, c3, e, -⟩ := hown3'.form
        exact ⟨A3, c3, by rw [e, ← Hdl.out]⟩
      subst e3
      go_wp2_with fail
      go_ret
      exact Hend.out
end Go.Proofs.YtbbikkncobgabaaDoor
