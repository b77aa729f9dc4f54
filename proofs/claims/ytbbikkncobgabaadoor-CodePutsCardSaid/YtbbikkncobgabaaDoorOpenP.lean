/-
  A []Part that came in. The first lemma is the howto's, laid there to be copied. By an AI agent.
-/
import Derived.Test.YtbbikkncobgabaaDoorRow
import Derived.Test.YtbbikkncobgabaaDoorGreat
import Derived.Deep.Slices
import Derived.Deep.Fields
import Derived.ChangeSame
namespace Go.Proofs.YtbbikkncobgabaaDoor
open Go.ChangeShapes Go.WideShapes Go.ChangeAt Go.RowKit Go.Deep

section
variable {H : Type} {enc : TypeId × Value → H} {P : Program} {w : World} {base : Nat} {spare : Nat → Bool} {held : Bool}
theorem open_slice_fields {t e : TypeId} {fs : Array Field} {fuel : Nat} {cs : List Value} {x : DataW H × List MemPlace} (ht : P.underlying t = some (.slice e)) (he : P.underlying e = some (.struct fs))
    (hone : oneCellFields P fs = true) (hC : P.cellsOf e = fs.size) (h : DataW.trod enc P w base spare held fuel t cs = some x) :
    (cs = [.slice none 0 0] ∧ x = (.nil, [])) ∨
    ∃ (a : Addr) (len cap m : Nat) (D : Nat → DataW H) (Pl : Nat → List MemPlace), cs = [.slice (some a) len cap] ∧ base ≤ a.block ∧ len ≤ cap ∧ cap ≤ maxLen ∧ m = (if spare a.block then cap else len) ∧
      x = (.slice ((List.range len).map D) ((List.range (m - len)).map fun j => D (len + j)), MemPlace.row a (m * fs.size) ++ (List.range m).flatMap Pl) ∧
      ∀ i, i < m → ∃ (ys : List (DataW H × List MemPlace)) (n : Nat), D i = .agg (ys.map (·.1)) ∧ Pl i = ys.flatMap (·.2) ∧ ys.length = fs.size ∧
        ∀ (j : Nat) (f : Field), fs[j]? = some f → ∃ (v : Value) (y : DataW H × List MemPlace), w.cell? (a.add (i * fs.size + j)) = some v ∧ ys[j]? = some y ∧ DataW.trod enc P w base spare held n f.type [v] = some y := by
  rcases open_slice ht h with h0 | ⟨a, len, cap, m, n, D, Pl, hcs, hb, hl, hm, hmm, hx, hi⟩
  · exact .inl h0
  · refine .inr ⟨a, len, cap, m, D, Pl, hcs, hb, hl, hm, hmm, by rw [hC] at hx; exact hx, fun i him => ?_⟩
    obtain ⟨cs', hc, ht'⟩ := hi i him
    rw [hC] at hc
    obtain ⟨ys, n', hn', hy, hlen, hyl, hf⟩ := DataW.trod_struct he ht'
    obtain ⟨_, hcl, hat⟩ := World.cells?_some hc
    simp only [Prod.mk.injEq] at hy
    refine ⟨ys, n', hy.1, hy.2, hyl, fun j f hj => ?_⟩
    obtain ⟨ho, hk⟩ := hone_of hone j f hj
    have hjl : j < fs.size := (Array.getElem?_eq_some_iff.1 hj).1
    have hcell := hat j hjl
    have hv : cs'[j]? = some (cs'[j]'(by omega)) := List.getElem?_eq_getElem (by omega)
    have h1 := hf j f hj
    rw [ho, hk] at h1
    have hone' : (cs'.drop j).take 1 = [cs'[j]'(by omega)] := by
      rw [List.drop_eq_getElem_cons (by omega)]
      rfl
    rw [hone'] at h1
    have hys : ys[j]? = some (ys[j]'(by omega)) := List.getElem?_eq_getElem (by omega)
    refine ⟨_, _, ?_, hys, h1.trans hys⟩
    rw [← Go.Deep.add_add, hcell, hv]
end

theorem list_of {α : Type} {n : Nat} {Q : Nat → α → Prop} (d : α) (h : ∀ i, i < n → ∃ a, Q i a) : ∃ l : List α, l.length = n ∧ ∀ i a, l[i]? = some a → Q i a := by
  induction n with
  | zero => exact ⟨[], rfl, fun i a e => by simp at e⟩
  | succ n ih =>
    obtain ⟨l, hl, hQ⟩ := ih fun i hi => h i (by omega)
    obtain ⟨a, ha⟩ := h n (by omega)
    refine ⟨l ++ [a], by simp [hl], fun i b e => ?_⟩
    rcases Nat.lt_or_ge i l.length with hi | hi
    · rw [List.getElem?_append_left hi] at e; exact hQ i b e
    · rw [List.getElem?_append_right hi] at e
      have h0 : i - l.length = 0 := by
        rcases Nat.eq_zero_or_pos (i - l.length) with h0 | h0
        · exact h0
        · rw [List.getElem?_eq_none (by simp; omega)] at e; cases e
      rw [h0] at e
      simp at e
      subst e
      obtain rfl : i = n := by omega
      exact ha

section
variable {H : Type} {enc : TypeId × Value → H}

/-- one byte slice, in a field -/
theorem open_field_bytes {w : World} {B : Nat} {fuel : Nat} {v : Value} {y : DataW H × List MemPlace} (h : DataW.trod enc Tryd.prog w B (fun _ => true) true fuel 27 [v] = some y) :
    ∃ A c, ∃ l : List UInt8, v = .slice A l.length c ∧ l.length ≤ c ∧ c ≤ maxLen ∧ (A = none → c = 0) ∧ Reads w w.heap.size 1 A l.length (Lib.byteCells l) := by
  rcases open_ints Tryd.underlying27 Tryd.underlying5 (by kernel_rfl) h with ⟨hcs, _⟩ | ⟨x, len, c, zs, hcs, _, hl, hm, hz, _, hcell, hwz⟩
  · simp at hcs
    subst hcs
    exact ⟨none, 0, [], rfl, Nat.le_refl _, Nat.zero_le _, fun _ => rfl, Reads.none_⟩
  · simp at hcs
    subst hcs
    obtain ⟨l, rfl⟩ := bytes_of_nums zs hwz
    simp only [if_true] at hz
    have hlen : len = (l.take len).length := by simp at hz ⊢; omega
    refine ⟨some x, c, l.take len, by rw [← hlen], by omega, hm, (fun e => by cases e), ?_⟩
    have hc2 : ∀ j u, (Lib.byteCells (l.take len))[j]? = some u → w.cell? (x.add j) = some u := by
      intro j u hu
      have hj : j < (l.take len).length := by
        rcases Nat.lt_or_ge j (l.take len).length with h | h
        · exact h
        · rw [List.getElem?_eq_none (by simpa [Lib.byteCells] using h)] at hu; cases hu
      have hj2 : j < l.length := by simp at hj; omega
      have h1 := hcell j (by simpa using hj2)
      rw [h1, ← hu]
      simp [Lib.byteCells, hj2, show j < len by omega, List.getD]
    refine ⟨by simp [Lib.byteCells], fun h0 => ⟨x, rfl, ?_, hc2⟩⟩
    have h1 := hc2 0 _ (List.getElem?_eq_getElem (by simpa [Lib.byteCells] using h0))
    have h2 := block_lt h1
    rwa [block_of_add] at h2

set_option maxRecDepth 100000 in
/-- a []byte that came in -/
theorem open_bytes2 {W : World} {v : Value} {d : DataW H} {p : List MemPlace} {base : Nat} {r : _} (hok : Value.okWide Tryd.prog W r base 27 v) (h : DataW.Trod enc Tryd.prog W 0 (fun _ => true) true 27 v d p) :
    ∃ A c, ∃ l : List UInt8, v = .slice A l.length c ∧ l.length ≤ c ∧ c ≤ maxLen ∧ (A = none → c = 0) ∧ Reads W W.heap.size 1 A l.length (Lib.byteCells l) := by
  obtain ⟨a0, len0, cap0, rfl⟩ := okWide_slice Tryd.underlying27 hok
  obtain ⟨fuel, hf⟩ := h
  exact open_field_bytes hf

theorem i64_lo {n : Int} (h : (Lit.int .i64 n).wf = true) : -9223372036854775808 ≤ n ∧ n ≤ 9223372036854775807 := by
  simpa [Lit.wf, IntKind.min, IntKind.max, IntKind.signed, IntKind.bits] using h
theorem u64_lo {n : Int} (h : (Lit.int .u64 n).wf = true) : 0 ≤ n ∧ n ≤ 18446744073709551615 := by
  simpa [Lit.wf, IntKind.min, IntKind.max, IntKind.signed, IntKind.bits] using h

set_option maxRecDepth 100000 in
/-- A []Part THAT CAME IN -/
theorem open_parts {W : World} {v : Value} {d : DataW H} {p : List MemPlace} {base : Nat} {r : _} (hok : Value.okWide Tryd.prog W r base 22 v) (h : DataW.Trod enc Tryd.prog W 0 (fun _ => true) true 22 v d p) :
    ∃ A n c, ∃ ps : List Pt, v = .slice A n c ∧ n = ps.length ∧ n ≤ c ∧ c ≤ maxLen ∧ (A = none → c = 0) ∧ PartsIn W W.heap.size A ps := by
  obtain ⟨a0, len0, cap0, rfl⟩ := okWide_slice Tryd.underlying22 hok
  obtain ⟨fuel, hf⟩ := h
  rcases open_slice_fields Tryd.underlying22 Tryd.underlying36 (by kernel_rfl) (by kernel_rfl) hf with ⟨hcs, _⟩ | ⟨a, len, cap, m, D, Pl, hcs, _, hl, hm, hmm, hx, hrow⟩
  · simp [Value.cells] at hcs
    obtain ⟨rfl, rfl, rfl⟩ := hcs
    exact ⟨none, 0, 0, [], rfl, rfl, Nat.le_refl _, Nat.zero_le _, fun _ => rfl, fun i p e => by simp at e⟩
  · simp [Value.cells] at hcs
    obtain ⟨rfl, rfl, rfl⟩ := hcs
    simp only [if_true] at hmm
    subst hmm
    have each : ∀ i, i < len0 → ∃ q : Pt, q.ok ∧ PartAt W W.heap.size (a.add (i * 4)) q ∧ a.block < W.heap.size := by
      intro i hi
      obtain ⟨ys, n, hD, hP, hyl, hf⟩ := hrow i (by omega)
      obtain ⟨v0, y0, hc0, _, ht0⟩ := hf 0 _ rfl
      obtain ⟨v1, y1, hc1, _, ht1⟩ := hf 1 _ rfl
      obtain ⟨v2, y2, hc2, _, ht2⟩ := hf 2 _ rfl
      obtain ⟨v3, y3, hc3, _, ht3⟩ := hf 3 _ rfl
      obtain ⟨s, e0, _, _⟩ := DataW.trod_int Tryd.underlying3 ht0
      obtain ⟨mo, e1, _, w1⟩ := DataW.trod_int Tryd.underlying3 ht1
      obtain ⟨x, e2, _, w2⟩ := DataW.trod_int Tryd.underlying34 ht2
      obtain ⟨A, c, l, e3, hlc, hcm, hA, hr⟩ := open_field_bytes ht3
      injection e0 with e0
      injection e1 with e1
      injection e2 with e2
      subst e0 e1 e2 e3
      have hx := u64_lo w2
      have hm := i64_lo w1
      have hxn : ((x.toNat : Nat) : Int) = x := Int.toNat_of_nonneg hx.1
      have hb := block_lt hc0
      rw [block_of_add] at hb
      refine ⟨⟨s, mo, x.toNat, l⟩, ⟨by show x.toNat < _; omega, hm.1, hm.2⟩, ⟨A, c, hc0, ?_, ?_, ?_, hlc, Nat.le_trans hlc hcm, hA, hr⟩, hb⟩
      · rw [add_of_add]; exact hc1
      · rw [add_of_add, hxn]; exact hc2
      · rw [add_of_add]; exact hc3
    obtain ⟨ps, hpl, hps⟩ := list_of (⟨0, 0, 0, []⟩ : Pt) each
    refine ⟨some a, len0, m, ps, rfl, hpl.symm, hl, hm, (fun e => by cases e), fun i q e => ?_⟩
    obtain ⟨h1, h2, h3⟩ := hps i q e
    exact ⟨h1, a, rfl, h3, h2⟩
end
end Go.Proofs.YtbbikkncobgabaaDoor
