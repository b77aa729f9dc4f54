/-
  scrivenerlaw02: parts in memory; great. By an AI agent.
-/
import Derived.Test.YtbbikkncobgabaaDoorPut
import Derived.LoopTactic
namespace Go.Proofs.YtbbikkncobgabaaDoor
open Go.RowKit

/-- a part -/
structure Pt where
  s : Int
  m : Int
  x : Nat
  t : List UInt8

/-- its numbers are Go's -/
def Pt.ok (p : Pt) : Prop := p.x < 18446744073709551616 ∧ -9223372036854775808 ≤ p.m ∧ p.m ≤ 9223372036854775807

/-- a part lies there -/
def PartAt (w : World) (B : Nat) (a : Addr) (p : Pt) : Prop :=
  ∃ A c, w.cell? a = some (.int .i64 p.s) ∧ w.cell? (a.add 1) = some (.int .i64 p.m) ∧ w.cell? (a.add 2) = some (.int .u64 (p.x : Int)) ∧ w.cell? (a.add 3) = some (.slice A p.t.length c) ∧
    p.t.length ≤ c ∧ p.t.length ≤ maxLen ∧ (A = none → c = 0) ∧ Reads w B 1 A p.t.length (Lib.byteCells p.t)

/-- a slice's parts -/
def PartsIn (w : World) (B : Nat) (A : Option Addr) (ps : List Pt) : Prop :=
  ∀ i p, ps[i]? = some p → p.ok ∧ ∃ ad, A = some ad ∧ ad.block < B ∧ PartAt w B (ad.add (i * 4)) p

theorem PartAt.keep {w w' : World} {B : Nat} {a : Addr} {p : Pt} (h : PartAt w B a p) (ha : a.block < B) (hk : ∀ q : Addr, q.block < B → w'.cell? q = w.cell? q) : PartAt w' B a p := by
  obtain ⟨A, c, h0, h1, h2, h3, h4, h5, h6, h7⟩ := h
  exact ⟨A, c, (hk _ ha).trans h0, (hk _ (by rw [block_of_add]; exact ha)).trans h1, (hk _ (by rw [block_of_add]; exact ha)).trans h2, (hk _ (by rw [block_of_add]; exact ha)).trans h3, h4, h5, h6, h7.keep hk⟩
theorem PartsIn.keep {w w' : World} {B : Nat} {A : Option Addr} {ps : List Pt} (h : PartsIn w B A ps) (hk : ∀ q : Addr, q.block < B → w'.cell? q = w.cell? q) : PartsIn w' B A ps := by
  intro i p hp
  obtain ⟨h1, ad, h2, h3, h4⟩ := h i p hp
  exact ⟨h1, ad, h2, h3, h4.keep (by rw [block_of_add]; exact h3) hk⟩
theorem PartsIn.below {w w' : World} {B : Nat} {A : Option Addr} {ps : List Pt} (h : PartsIn w B A ps) (hb : Below B w w') : PartsIn w' B A ps := h.keep fun _ hq => hb.cell hq

/-- a part's four cells -/
def Four (w : World) (a : Addr) (p : Pt) (A : Option Addr) (c : Nat) : Prop :=
  w.cell? a = some (.int .i64 p.s) ∧ w.cell? ⟨a.block, a.off + 1, none⟩ = some (.int .i64 p.m) ∧ w.cell? ⟨a.block, a.off + 2, none⟩ = some (.int .u64 (p.x : Int)) ∧ w.cell? ⟨a.block, a.off + 3, none⟩ = some (.slice A p.t.length c)
theorem PartAt.four {w : World} {B : Nat} {a : Addr} {p : Pt} (h : PartAt w B a p) : ∃ A c, Four w a p A c ∧ p.t.length ≤ c ∧ p.t.length ≤ maxLen ∧ (A = none → c = 0) ∧ Reads w B 1 A p.t.length (Lib.byteCells p.t) := by
  obtain ⟨A, c, h0, h1, h2, h3, h4, h5, h6, h7⟩ := h
  exact ⟨A, c, ⟨h0, h1, h2, h3⟩, h4, h5, h6, h7⟩
theorem Four.kept {w w' : World} {a : Addr} {p : Pt} {A : Option Addr} {c : Nat} (h : Four w a p A c) {row : Option Nat} (hg : w.grownBy w' row) (hne : some a.block ≠ row) : Four w' a p A c := by
  have hlt : a.block < w.heap.size := World.block_lt_of_cell? w _ h.1
  obtain ⟨h0, h1, h2, h3⟩ := h
  have hk : ∀ o : Nat, w'.cell? ⟨a.block, o, none⟩ = w.cell? ⟨a.block, o, none⟩ := fun o => hg.cell_far ⟨a.block, o, none⟩ hlt hne
  exact ⟨(hg.cell_far a hlt hne).trans h0, (hk _).trans h1, (hk _).trans h2, (hk _).trans h3⟩
/-- the part at a place -/
theorem PartsIn.at_ {w : World} {B : Nat} {A : Option Addr} {ps : List Pt} (h : PartsIn w B A ps) {k : Nat} (hk : k < ps.length) : ∃ ad p A1 c1, A = some ad ∧ ad.block < B ∧ ps[k]? = some p ∧ p.ok ∧ Four w (ad.add (k * 4)) p A1 c1 ∧ p.t.length ≤ c1 ∧ p.t.length ≤ maxLen ∧ (A1 = none → c1 = 0) ∧ Reads w B 1 A1 p.t.length (Lib.byteCells p.t) := by
  obtain ⟨hok, ad, h1, h2, h3⟩ := h k ps[k] (List.getElem?_eq_getElem hk)
  obtain ⟨A1, c1, h4⟩ := h3.four
  exact ⟨ad, ps[k], A1, c1, h1, h2, List.getElem?_eq_getElem hk, hok, h4⟩

/-- the parts, weighed as the law weighs them -/
def weigh : List Pt → Nat
  | [] => 0
  | p :: ps => p.t.length / 20 + weigh ps
theorem weigh_snoc (ps : List Pt) (p : Pt) : weigh (ps ++ [p]) = weigh ps + p.t.length / 20 := by
  induction ps with
  | nil => simp [weigh]
  | cons q ps ih => simp [weigh, ih]; omega

/-- how great answers -/
def GreatEnd (ps : List Pt) (w : World) (e : Ending) (w' : World) : Prop := ∃ g : Bool, e = .returned (.bool g) ∧ (g = false → ps.length + weigh ps ≤ 2000) ∧ w = w'

set_option maxRecDepth 100000 in
set_option maxHeartbeats 2000000 in
theorem great_any (A : Option Addr) (n c B : Nat) (ps : List Pt) (w : World) (hn : n = ps.length) (hm : n ≤ 9223372036854775807) (h : PartsIn w B A ps) :
    Calls Tryd.prog 14 #[.slice A n c] w (GreatEnd ps w) := by
  have Hn := Lib.hid hn
  clear hn
  go_enter Tryd.func14, Tryd.ntmps14
  go_wp2_with fail
  go_loop [3, 4] (fun v i => ∃ k W : Nat, k ≤ n ∧ i = .int .i64 k ∧ v = .int .i64 W ∧ W = n + weigh (ps.take k)) (fun _ i => n - (intOf i).toNat)
  case atStart => exact ⟨0, n, Nat.zero_le _, rfl, rfl, by simp [weigh]⟩
  case round =>
    obtain ⟨k, W, hk, rfl, rfl, hW⟩ := hrel
    have HW := Lib.hid hW
    clear hW
    by_cases hlt : k < n
    · by_cases hs : W ≤ 2000
      · have hkl : k < ps.length := by rw [← Hn.out]; exact hlt
        obtain ⟨hok, ad, rfl, hadb, A1, c1, -, -, -, h3, h4, h5, -⟩ := h k ps[k] (List.getElem?_eq_getElem hkl)
        have h3' : w.cell? ⟨(ad.add (k * 4)).block, (ad.add (k * 4)).off + 3, none⟩ = some (.slice A1 ps[k].t.length c1) := h3
        unfold maxLen at h5
        have hwk : weigh (ps.take (k + 1)) = weigh (ps.take k) + ps[k].t.length / 20 := by
          rw [List.take_succ_eq_append_getElem hkl, weigh_snoc]
        have Hwk := Lib.hid hwk
        clear h3 hwk
        generalize ps[k].t.length = tl at *
        clear hok h
        go_wp2_with fail
        go_round
        case rel => exact ⟨k + 1, W + tl / 20, by omega, by go_num, by go_num, by rw [Hwk.out, HW.out]; omega⟩
        case measure => simp [intOf]; omega
      · have hd : decide ((2000 : Int) < (W : Int)) = true := by rw [decide_eq_true_eq]; omega
        go_wp2_with fail
        go_ret
        exact ⟨true, rfl, (fun h => by cases h), rfl⟩
    · obtain rfl : k = n := by omega
      have hend : Hid (W = k + weigh ps) := by rw [HW.out, Hn.out, List.take_length]; exact rfl
      by_cases hs : W ≤ 2000
      · have hd : decide ((2000 : Int) < (W : Int)) = false := by rw [decide_eq_false_iff_not]; omega
        go_wp2_with fail
        go_ret
        exact ⟨false, rfl, (fun _ => by have := hend.out; rw [← Hn.out]; omega), rfl⟩
      · have hd : decide ((2000 : Int) < (W : Int)) = true := by rw [decide_eq_true_eq]; omega
        go_wp2_with fail
        go_ret
        exact ⟨true, rfl, (fun h => by cases h), rfl⟩
end Go.Proofs.YtbbikkncobgabaaDoor
