/-
  A slice of parts, cell by cell: from parts to cells, and back. By an AI agent.
-/
import Derived.Test.YtbbikkncobgabaaDoorEach
import Derived.Test.YtbbikkncobgabaaDoorOpenP
namespace Go.Proofs.YtbbikkncobgabaaDoor
open Go.RowKit

/-- parts, and where their bytes lie, as cells -/
def cells4 : List (Pt × Option Addr × Nat) → List Value
  | [] => []
  | (p, A, c) :: r => .int .i64 p.s :: .int .i64 p.m :: .int .u64 (p.x : Int) :: .slice A p.t.length c :: cells4 r

theorem cells4_len (l : List (Pt × Option Addr × Nat)) : (cells4 l).length = l.length * 4 := by
  induction l with
  | nil => rfl
  | cons e l ih => obtain ⟨p, A, c⟩ := e; simp [cells4, ih]; omega
theorem cells4_append (l r : List (Pt × Option Addr × Nat)) : cells4 (l ++ r) = cells4 l ++ cells4 r := by
  induction l with
  | nil => rfl
  | cons e l ih => obtain ⟨p, A, c⟩ := e; simp [cells4, ih]
theorem cells4_one (l : List (Pt × Option Addr × Nat)) : ∀ u ∈ cells4 l, u.oneCell' = true := by
  induction l with
  | nil => intro u h; cases h
  | cons e l ih =>
    obtain ⟨p, A, c⟩ := e
    intro u h
    simp only [cells4, List.mem_cons] at h
    rcases h with rfl | rfl | rfl | rfl | h
    · rfl
    · rfl
    · rfl
    · rfl
    · exact ih u h
theorem cells4_get : ∀ (l : List (Pt × Option Addr × Nat)) (i : Nat) (p : Pt) (A : Option Addr) (c : Nat), l[i]? = some (p, A, c) →
    (cells4 l)[i * 4]? = some (.int .i64 p.s) ∧ (cells4 l)[i * 4 + 1]? = some (.int .i64 p.m) ∧ (cells4 l)[i * 4 + 2]? = some (.int .u64 (p.x : Int)) ∧ (cells4 l)[i * 4 + 3]? = some (.slice A p.t.length c)
  | [], i, p, A, c, h => by simp at h
  | (p', A', c') :: r, 0, p, A, c, h => by
    simp at h
    obtain ⟨rfl, rfl, rfl⟩ := h
    exact ⟨rfl, rfl, rfl, rfl⟩
  | (p', A', c') :: r, i + 1, p, A, c, h => by
    simp at h
    have ih := cells4_get r i p A c h
    have e : ∀ j, (cells4 ((p', A', c') :: r))[(i + 1) * 4 + j]? = (cells4 r)[i * 4 + j]? := by
      intro j
      rw [show (i + 1) * 4 + j = (i * 4 + j) + 4 by omega]
      rfl
    exact ⟨(e 0).trans ih.1, (e 1).trans ih.2.1, (e 2).trans ih.2.2.1, (e 3).trans ih.2.2.2⟩

/-- each part's bytes lie where its cell says -/
def Kept (w : World) (B : Nat) (l : List (Pt × Option Addr × Nat)) : Prop :=
  ∀ p A c, (p, A, c) ∈ l → p.ok ∧ p.t.length ≤ c ∧ p.t.length ≤ maxLen ∧ (A = none → c = 0) ∧ Reads w B 1 A p.t.length (Lib.byteCells p.t)

theorem Kept.below {w w' : World} {B : Nat} {l : List (Pt × Option Addr × Nat)} (h : Kept w B l) (hb : Below B w w') : Kept w' B l := by
  intro p A c hp
  obtain ⟨h1, h2, h3, h4, h5⟩ := h p A c hp
  exact ⟨h1, h2, h3, h4, h5.below hb⟩
theorem Kept.append {w : World} {B : Nat} {l r : List (Pt × Option Addr × Nat)} (h : Kept w B l) (k : Kept w B r) : Kept w B (l ++ r) := by
  intro p A c hp
  rcases List.mem_append.1 hp with hp | hp
  · exact h p A c hp
  · exact k p A c hp
theorem Kept.more {w : World} {B B' : Nat} {l : List (Pt × Option Addr × Nat)} (h : Kept w B l) (hB : B ≤ B') : Kept w B' l := by
  intro p A c hp
  obtain ⟨h1, h2, h3, h4, h5⟩ := h p A c hp
  exact ⟨h1, h2, h3, h4, h5.more hB⟩

/-- from parts to cells -/
theorem PartsIn.cells {w : World} {B : Nat} {A : Option Addr} {ps : List Pt} (h : PartsIn w B A ps) : ∃ l : List (Pt × Option Addr × Nat), l.map (·.1) = ps ∧ Reads w B 4 A ps.length (cells4 l) ∧ Kept w B l := by
  have each : ∀ i, i < ps.length → ∃ e : Pt × Option Addr × Nat, ps[i]? = some e.1 ∧ e.1.ok ∧ ∃ ad, A = some ad ∧ ad.block < B ∧ Four w (ad.add (i * 4)) e.1 e.2.1 e.2.2 ∧ e.1.t.length ≤ e.2.2 ∧ e.1.t.length ≤ maxLen ∧ (e.2.1 = none → e.2.2 = 0) ∧ Reads w B 1 e.2.1 e.1.t.length (Lib.byteCells e.1.t) := by
    intro i hi
    obtain ⟨ad, p, A1, c1, h1, h2, h3, h4, h5⟩ := h.at_ hi
    exact ⟨(p, A1, c1), h3, h4, ad, h1, h2, h5⟩
  obtain ⟨l, hl, hQ⟩ := list_of ((⟨0, 0, 0, []⟩ : Pt), (none : Option Addr), (0 : Nat)) each
  have hmap : l.map (·.1) = ps := by
    apply List.ext_getElem?
    intro i
    rw [List.getElem?_map]
    rcases Nat.lt_or_ge i ps.length with hi | hi
    · have hil : i < l.length := by omega
      rw [List.getElem?_eq_getElem hil, Option.map_some, (hQ i _ (List.getElem?_eq_getElem hil)).1]
    · rw [List.getElem?_eq_none (by omega), List.getElem?_eq_none (by omega)]; rfl
  refine ⟨l, hmap, ⟨by rw [cells4_len, hl], fun h0 => ?_⟩, ?_⟩
  · obtain ⟨-, -, ad, hA, hb, -⟩ := hQ 0 _ (List.getElem?_eq_getElem (show 0 < l.length by omega))
    refine ⟨ad, hA, hb, fun j u hu => ?_⟩
    have hj : j < l.length * 4 := by
      rcases Nat.lt_or_ge j (l.length * 4) with h | h
      · exact h
      · rw [List.getElem?_eq_none (by rw [cells4_len]; exact h)] at hu; cases hu
    have hi : j / 4 < l.length := by omega
    obtain ⟨-, -, ad', hA', -, ⟨f0, f1, f2, f3⟩, -⟩ := hQ (j / 4) _ (List.getElem?_eq_getElem hi)
    rw [hA] at hA'
    injection hA' with hA'
    subst hA'
    obtain ⟨g0, g1, g2, g3⟩ := cells4_get l (j / 4) l[j / 4].1 l[j / 4].2.1 l[j / 4].2.2 (List.getElem?_eq_getElem hi)
    have e : ∀ r, ad.add (j / 4 * 4 + r) = (ad.add (j / 4 * 4)).add r := fun r => (add_of_add ad _ _).symm
    rcases (by omega : j = j / 4 * 4 + 0 ∨ j = j / 4 * 4 + 1 ∨ j = j / 4 * 4 + 2 ∨ j = j / 4 * 4 + 3) with hj' | hj' | hj' | hj' <;> rw [hj'] at hu ⊢
    · rw [show j / 4 * 4 + 0 = j / 4 * 4 from rfl] at hu ⊢
      rw [g0] at hu; injection hu with hu; subst hu; exact f0
    · rw [g1] at hu; injection hu with hu; subst hu; rw [e]; exact f1
    · rw [g2] at hu; injection hu with hu; subst hu; rw [e]; exact f2
    · rw [g3] at hu; injection hu with hu; subst hu; rw [e]; exact f3
  · intro p A1 c1 hp
    obtain ⟨i, hi, he⟩ := List.getElem_of_mem hp
    obtain ⟨-, h2, -, -, -, -, h7⟩ := hQ i _ (by rw [List.getElem?_eq_getElem hi, he])
    exact ⟨h2, h7⟩

/-- and back -/
theorem Kept.parts {w : World} {B : Nat} {A : Option Addr} {l : List (Pt × Option Addr × Nat)} (h : Kept w B l) (hr : Reads w B 4 A l.length (cells4 l)) : PartsIn w B A (l.map (·.1)) := by
  intro i p hp
  have hi : i < l.length := by
    rcases Nat.lt_or_ge i l.length with h | h
    · exact h
    · rw [List.getElem?_eq_none (by simpa using h)] at hp; cases hp
  rw [List.getElem?_map, List.getElem?_eq_getElem hi] at hp
  simp at hp
  rcases he : l[i] with ⟨q, A1, c1⟩
  rw [he] at hp
  simp at hp
  subst hp
  obtain ⟨h1, h2, h3, h4, h5⟩ := h q A1 c1 (by rw [← he]; exact List.getElem_mem hi)
  obtain ⟨g0, g1, g2, g3⟩ := cells4_get l i q A1 c1 (by rw [List.getElem?_eq_getElem hi, he])
  obtain ⟨ad, hA, hb, hc⟩ := hr.2 (by omega)
  refine ⟨h1, ad, hA, hb, A1, c1, hc _ _ g0, ?_, ?_, ?_, h2, h3, h4, h5⟩
  · rw [add_of_add]; exact hc _ _ g1
  · rw [add_of_add]; exact hc _ _ g2
  · rw [add_of_add]; exact hc _ _ g3
end Go.Proofs.YtbbikkncobgabaaDoor
