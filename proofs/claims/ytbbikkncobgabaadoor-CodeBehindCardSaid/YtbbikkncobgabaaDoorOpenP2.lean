/-
  A Part that came in. By an AI agent.
-/
import Derived.Test.YtbbikkncobgabaaDoorOpenP
import Derived.Lib.SmallJoins
namespace Go.Proofs.YtbbikkncobgabaaDoor
open Go.ChangeShapes Go.WideShapes Go.ChangeAt Go.RowKit Go.Deep Go.Joins

set_option maxRecDepth 100000 in
theorem open_part {H : Type} {enc : TypeId × Value → H} {W : World} {v : Value} {d : DataW H} {p : List MemPlace} {base : Nat} {r : _} (hok : Value.okWide Tryd.prog W r base 36 v) (h : DataW.Trod enc Tryd.prog W 0 (fun _ => true) true 36 v d p) :
    ∃ (s m : Int) (x : Nat) (A : Option Addr) (c : Nat) (t : List UInt8), v = part s m x (.slice A t.length c) ∧ x < 18446744073709551616 ∧ (-9223372036854775808 ≤ m ∧ m ≤ 9223372036854775807) ∧ t.length ≤ c ∧ c ≤ maxLen ∧ (A = none → c = 0) ∧ Reads W W.heap.size 1 A t.length (Lib.byteCells t) := by
  obtain ⟨v0, v1, v2, v3, y0, y1, y2, y3, n, rfl, -, -, h0, h1, h2, h3⟩ := open_agg4 Tryd.underlying36 (by kernel_rfl) (by kernel_rfl) hok h
  obtain ⟨s, e0, -, -⟩ := DataW.trod_int Tryd.underlying3 h0
  obtain ⟨m, e1, -, w1⟩ := DataW.trod_int Tryd.underlying3 h1
  obtain ⟨x, e2, -, w2⟩ := DataW.trod_int Tryd.underlying34 h2
  obtain ⟨A, c, t, e3, hlc, hcm, hA, hr⟩ := open_field_bytes h3
  injection e0 with e0
  injection e1 with e1
  injection e2 with e2
  subst e0 e1 e2 e3
  have hx := u64_lo w2
  have hm := i64_lo w1
  have hxn : ((x.toNat : Nat) : Int) = x := Int.toNat_of_nonneg hx.1
  refine ⟨s, m, x.toNat, A, c, t, ?_, by omega, hm, hlc, hcm, hA, hr⟩
  rw [hxn]
  rfl
end Go.Proofs.YtbbikkncobgabaaDoor
