/-
  string(b) at a []byte that reads as a text. By an AI agent.
-/
import Derived.Test.YtbbikkncobgabaaDoorApp
import Derived.Laws.BytesArg
import Derived.Lib.SlBytesConst
import Derived.Laws.IdiomStrings
namespace Go.Proofs.YtbbikkncobgabaaDoor
open Go.RowKit

/-- a text, as a string's bytes -/
def str (l : List UInt8) : ByteArray := ⟨l.toArray⟩

theorem str_toList (l : List UInt8) : (str l).data.toList = l := by simp [str]
theorem str_inj (l m : List UInt8) : str l = str m ↔ l = m := by
  constructor
  · intro h
    have := congrArg (fun s => s.data.toList) h
    simpa [str] using this
  · intro h; rw [h]

theorem strOfNums_bytes (l : List UInt8) : strOfNums (l.map fun b => (b.toNat : Int)) = str l := by
  unfold strOfNums str
  congr 1
  rw [List.map_map]
  congr 1
  conv => rhs; rw [← List.map_id l]
  apply List.map_congr_left
  intro b _
  simp

theorem conv_bytes (w : World) (B : Nat) (A : Option Addr) (n c : Nat) (l : List UInt8) (hn : n = l.length) (hr : Reads w B 1 A n (Lib.byteCells l)) :
    (convert 27 9 (.slice A n c)).run Tryd.prog w = .ok (.string (str l)) w := by
  subst hn
  cases A with
  | none =>
    have hl : l = [] := by
      rcases Nat.eq_zero_or_pos l.length with h0 | h0
      · exact List.eq_nil_of_length_eq_zero h0
      · obtain ⟨ad, h, _⟩ := hr.2 h0; cases h
    subst hl
    exact run_convert_bytes_nil w 27 5 Tryd.underlying27 Tryd.underlying5 _ _ 9 Tryd.underlying9
  | some ad =>
    have hc : ∀ j u, (Lib.byteCells l)[j]? = some u → w.cell? (ad.add j) = some u := by
      intro j u hu
      have hj : j < l.length := by
        rcases Nat.lt_or_ge j l.length with h | h
        · exact h
        · rw [List.getElem?_eq_none (by simpa [Lib.byteCells] using h)] at hu; cases hu
      obtain ⟨ad', h, _, hc⟩ := hr.2 (by omega)
      injection h with h
      subst h
      exact hc j u hu
    have hl := run_loadCells_list (P := Tryd.prog) w ad (Lib.byteCells l) hc
    have e : Lib.byteCells l = (l.map fun b => (b.toNat : Int)).map (Value.int .u8) := by simp [Lib.byteCells]
    rw [e] at hl
    rw [List.length_map, List.length_map] at hl
    rw [run_convert_bytes_string w 27 9 5 (some ad) l.length c Tryd.underlying27 Tryd.underlying5 Tryd.underlying9, run_bytesToString w ad l.length c _ hl, foldl_push_bytes, ← strOfNums_bytes]
    simp [strOfNums, ByteArray.empty, ByteArray.emptyWithCapacity]
    rfl

theorem str_list (l : List UInt8) : (str l).toList = l := by
  simp [str]

/-- '==' of two texts, in the walk's own form -/
theorem str_eq (l m : List UInt8) : ((str l).toList == (str m).toList) = decide (l = m) := by
  rw [str_list, str_list]
  by_cases h : l = m <;> simp [h]

/-- []byte("..") of a constant -/
theorem conv_const (w : World) (k : Nat) (C : Array Value) (n c : Nat) (h : w.heap.size = k) :
    (convert 27 27 (.slice (some ⟨k, 0, none⟩) n c)).run Tryd.prog (w.alloc (.cells C 5)) = .ok (.slice (some ⟨k, 0, none⟩) n c) (w.alloc (.cells C 5 (C.size, C.size + 1))) := by
  subst h
  exact Lib.run_convert_bytes_const (P := Tryd.prog) w 27 5 C n c Tryd.underlying27 Tryd.underlying5

/-- []byte(s) -/
theorem conv_str (w : World) (l : List UInt8) : ∃ w' cap, (convert 9 27 (.string (str l))).run Tryd.prog w = .ok (.slice (some ⟨w.heap.size, 0, none⟩) l.length cap) w' ∧
    Reads w' w'.heap.size 1 (some ⟨w.heap.size, 0, none⟩) l.length (Lib.byteCells l) ∧ l.length ≤ cap ∧ Below w.heap.size w w' := by
  have h := run_bytes_of_string (P := Tryd.prog) w 9 27 5 (str l) Tryd.underlying9 Tryd.underlying27 Tryd.underlying5
  have hsz : (str l).size = l.length := by simp [str, ByteArray.size]
  rw [hsz] at h
  refine ⟨_, _, h, ?_, grownCap_ge _ _ _ _, (Below.refl _ w).drew.alloc (Nat.le_refl _) _⟩
  have e : (bytesRow (str l) (grownCap w l.length 0 5)).toList.take l.length = Lib.byteCells l := by
    have e1 : (bytesRow (str l) (grownCap w l.length 0 5)).toList = Lib.byteCells l ++ List.replicate (grownCap w l.length 0 5 - l.length) (.int .u8 0) := by
      unfold bytesRow
      rw [hsz]
      simp [str, Lib.byteCells]
    have e2 : l.length = (Lib.byteCells l).length := by simp [Lib.byteCells]
    rw [e1, e2, List.take_left]
  have hlen : l.length ≤ (bytesRow (str l) (grownCap w l.length 0 5)).size := by
    have := congrArg List.length e
    simp [Lib.byteCells] at this
    omega
  have h2 := (Reads.laid w.drew (bytesRow (str l) (grownCap w l.length 0 5)) 5 (fr := ((bytesRow (str l) (grownCap w l.length 0 5)).size, (bytesRow (str l) (grownCap w l.length 0 5)).size + 1))).take hlen
  rw [e] at h2
  exact h2.more (by simp)

theorem Owns.conv {w : World} {base : Nat} {v : Value} {l : List UInt8} (h : Owns w base v l) : (convert 27 9 v).run Tryd.prog w = .ok (.string (str l)) w := by
  obtain ⟨A, c, rfl, _, _, hr⟩ := h.form
  exact conv_bytes w _ A _ c l rfl hr
end Go.Proofs.YtbbikkncobgabaaDoor
