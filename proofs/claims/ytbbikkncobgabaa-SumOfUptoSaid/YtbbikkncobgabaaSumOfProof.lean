/- scrivenerlaw01.SumOf answers true for every [][]byte of bulk at most 1048576, and leaves it as it was. By an AI agent. -/
import Derived.Test.YtbbikkncobgabaaRow
import Derived.Test.YtbbikkncobgabaaBulk
import Derived.Test.YtbbikkncobgabaaSumOf
import Derived.Deep.Matrix
import Derived.JoinedCond
namespace Go.Proofs.Ytbbikkncobgabaa.sumOf
open Go.ChangeShapes Go.WideShapes Go.ChangeAt Go.RowKit Go.Deep

def toBytes (zs : List Int) : List UInt8 := zs.map fun z => UInt8.ofNat z.toNat

theorem toBytes_back (zs : List Int) (h : ∀ n ∈ zs, (Lit.int .u8 n).wf = true) : (toBytes zs).map (fun b => (b.toNat : Int)) = zs := by
  induction zs with
  | nil => rfl
  | cons z zs ih =>
    have hz := h z List.mem_cons_self
    have hz2 : 0 ≤ z ∧ z ≤ 255 := by simpa [Lit.wf, IntKind.min, IntKind.max, IntKind.signed, IntKind.bits] using hz
    have ih2 := ih fun n hn => h n (List.mem_cons_of_mem _ hn)
    simp only [toBytes, List.map_cons] at ih2 ⊢
    rw [ih2]
    congr 1
    rw [UInt8.toNat_ofNat']
    omega

section
variable {H : Type} {enc : TypeId × Value → H} {P : Program}
/-- A [][]byte THAT CAME IN -/
theorem open_parts {t e q : TypeId} {W : World} {v : Value} {d : DataW H} {p : List MemPlace} (ht : P.underlying t = some (.slice e)) (he : P.underlying e = some (.slice q)) (hq : P.underlying q = some (.int .u8))
    (ce : P.cellsOf e = 1) (cq : P.cellsOf q = 1) {base : Nat} {r : _} (hok : Value.okWide P W r base t v) (h : DataW.Trod enc P W 0 (fun _ => true) true t v d p) :
    ∃ A n c vs, ∃ ls : List (List UInt8), v = .slice A n c ∧ n ≤ maxLen ∧ Reads W W.heap.size 1 A n vs ∧ Parts W W.heap.size vs ls ∧ ∀ l, l ∈ ls → l.length ≤ Rows.uptoBulk d := by
  obtain ⟨a0, len0, cap0, rfl⟩ := okWide_slice ht hok
  obtain ⟨fuel, hf⟩ := h
  rcases open_int_rows ht he hq ce cq hf with ⟨hcs, _⟩ | ⟨a, len, cap, A, L, C, Z, hcs, _, hl, hm, hx, hrow⟩
  · simp [Value.cells] at hcs
    obtain ⟨rfl, rfl, rfl⟩ := hcs
    exact ⟨none, 0, 0, [], [], rfl, Nat.zero_le _, Reads.none_, Parts.nil _ _, fun l hl => by cases hl⟩
  · simp [Value.cells] at hcs
    obtain ⟨rfl, rfl, rfl⟩ := hcs
    injection hx with hd _
    have hlen : ∀ r, r < len0 → ((toBytes (Z r)).take (L r)).length = L r := fun r hr => by
      obtain ⟨_, h1, _, h2, _⟩ := hrow r (by omega)
      simp [toBytes]; omega
    refine ⟨some a, len0, cap0, (List.range len0).map fun r => .slice (A r) (L r) (C r), (List.range len0).map fun r => (toBytes (Z r)).take (L r), rfl, by omega, ⟨by simp, fun h0 => ⟨a, rfl, ?_, fun j u hu => ?_⟩⟩, ⟨by simp, fun i v l hv hl2 => ?_⟩, fun l hl2 => ?_⟩
    · have h2 := block_lt (hrow 0 (by omega)).1
      rwa [block_of_add] at h2
    · simp only [List.getElem?_map] at hu
      rcases Nat.lt_or_ge j len0 with hj | hj
      · rw [List.getElem?_range hj] at hu
        simp at hu
        rw [(hrow j (by omega)).1, ← hu]
      · rw [List.getElem?_eq_none (by simpa using hj)] at hu; simp at hu
    · simp only [List.getElem?_map] at hv hl2
      rcases Nat.lt_or_ge i len0 with hi | hi
      · rw [List.getElem?_range hi] at hv hl2
        simp at hv hl2
        obtain ⟨h1, h2, h3, h4, h5, h6, h7⟩ := hrow i (by omega)
        have hli := hlen i hi
        subst hl2
        refine ⟨A i, C i, by rw [hli, hv], by omega, by omega, ?_⟩
        rw [hli]
        refine ⟨by simp only [Lib.byteCells, List.length_map]; omega, fun h0 => ?_⟩
        rcases hA : A i with _ | x
        · have := h6 hA; omega
        · obtain ⟨_, hc⟩ := h7 x hA
          have hb := block_lt (hc 0 (by omega))
          rw [block_of_add] at hb
          refine ⟨x, rfl, hb, fun j u hu => ?_⟩
          rcases Nat.lt_or_ge j (L i) with hj | hj
          · rw [hc j (by omega), ← hu]
            have hz := toBytes_back (Z i) h5
            have hz2 : (Z i).getD j 0 = (((toBytes (Z i)).getD j 0).toNat : Int) := by
              conv => lhs; rw [← hz]
              have hjl : j < (toBytes (Z i)).length := by simp [toBytes]; omega
              simp [List.getD, hjl]
            rw [hz2]
            have hjl : j < (toBytes (Z i)).length := by simp [toBytes]; omega
            simp [Lib.byteCells, List.getD, hjl, hj]
          · rw [List.getElem?_eq_none (by simp only [Lib.byteCells, List.length_map]; omega)] at hu; cases hu
      · rw [List.getElem?_eq_none (by simpa using hi)] at hv; simp at hv
    · simp only [List.mem_map, List.mem_range] at hl2
      obtain ⟨r, hr, rfl⟩ := hl2
      rw [hlen r hr, hd]
      refine Nat.le_trans ?_ (Nat.le_trans (bulks.part_le (List.mem_map.2 ⟨r, List.mem_range.2 hr, rfl⟩)) (Nat.le_trans (Nat.le_succ _) (bulks.slice_elems _ _)))
      obtain ⟨h1, h2, h3, h4, h5, h6, h7⟩ := hrow r (by omega)
      rcases hA : A r with _ | x
      · have := h6 hA; omega
      · refine Nat.le_trans ?_ (bulks.slice_le _ _)
        simp [lits]; omega
end

theorem contract (H : Type) (enc : TypeId × Value → H) (W : World) (base : Nat) (args : Array Value) (ds gs : List (DataW H)) (before : List MemPlace)
    (hval : ∀ (j : Nat) t v, Try.f3.params[j]? = some t → args[j]? = some v → Value.okWide Try.prog W .any base t v)
    (hW : DataW.Whole enc Try.prog Try.f3.params.toList Rows.sumOfSpec.vars false W args.toList ds gs before) (hk : Rows.uptoSmall H (ds ++ gs) = true) :
    Calls Try.prog 3 args W fun e W' => ∃ v, e = .returned v ∧ Rows.sumOfSpec.post enc Try.prog Try.f3 false true false false W args v W' := by
  have hW' := hW
  obtain ⟨p, q, hA0, hV, rfl, hfz, hnd⟩ := hW
  have hA : DataW.TrodAll enc Try.prog W 0 (fun _ => true) true Try.f3.params.toList args.toList ds p := hA0
  rw [Try.params3] at hA hval
  obtain ⟨v0, vs0, d0, ds0, p0, q0, hargs, rfl, rfl, h0, r0⟩ := trodAll_cons hA
  obtain ⟨rfl, rfl, rfl⟩ := trodAll_nil r0
  obtain rfl : args = #[v0] := by cases args; simp_all
  obtain ⟨rfl, rfl⟩ := trodVars_none hV
  have hsmall : Rows.uptoBulk d0 ≤ 1048576 := Nat.le_trans (bulks.part_le (by simp)) (bulks.bound hk)
  obtain ⟨A, n, c, vs, ls, rfl, hn, hr, hp, hl⟩ := open_parts Try.underlying22 Try.underlying23 Try.underlying5 (by kernel_rfl) (by kernel_rfl) (hval 0 22 v0 rfl rfl) h0
  refine (sumOf_any A n c vs ls W hn hr hp (fun l h => Nat.le_trans (hl l h) hsmall)).mono fun e W' ⟨he, hb⟩ => ?_
  subst he
  exact ⟨_, rfl, law_post laidOut (by kernel_rfl) hW' rfl rfl Try.underlying4 rfl hb⟩

set_option maxRecDepth 100000 in
theorem lifted (os : Os) (started : os.Started) (H : Type) (enc : TypeId × Value → H) (F : Stop.Interp) :
    ReturnsInHanded {} Try.checked os 3 .any ((Rows.OpenSpec.upto Rows.sumOfSpec).pre6 enc Try.prog Try.f3 Rows.sumOfUptoRow.domain false) (((Rows.OpenSpec.upto Rows.sumOfSpec).at F).post enc Try.prog Try.f3 false true false false) := by
  refine returnsInHanded_of_cond (C := Try.checked) (s := Rows.OpenSpec.upto Rows.sumOfSpec) (k := Rows.uptoSmall) rfl ownKnobs started (by kernel_rfl) Try.func3
    (OpenSpec.witness (enc := enc) (C := Try.checked) (s := Rows.OpenSpec.upto Rows.sumOfSpec) (k := Rows.uptoSmall) rfl false ⟨#[], #[.slice none 0 0], []⟩ 8 (by kernel_rfl) (by kernel_rfl) (by kernel_rfl)
      (x := ([.nil], [], [])) (by kernel_rfl) rfl (by kernel_rfl)) ?_
  intro W base args ds gs before hval hW _ hk _
  exact contract H enc W base args ds gs before hval hW hk

theorem holds : Rows.SumOfUptoSaid :=
  OpenClaim.holds_of_cond 3 Try.f3 rfl rfl rfl rfl rfl rfl rfl ⟨rfl, rfl, rfl, rfl, rfl⟩ rfl rfl rfl rfl rfl (by kernel_rfl) Try.func3 (by kernel_rfl)
    (of_decide_eq_true (by kernel_rfl)) (by unfold Func.isWrapper; first | (rw [if_pos (by decide +kernel)]; kernel_rfl) | (rw [if_neg (by decide +kernel)]; exact ⟨rfl, rfl⟩))
    (fun os started H enc _ F => lifted os started H enc F)
#print axioms holds
end Go.Proofs.Ytbbikkncobgabaa.sumOf
