/-
  scrivenerref02: Wide, Short, Text. By an AI agent.
-/
import Derived.Test.YtbbikkncobgabaaDoorPlain
import Derived.Test.YtbbikkncobgabaaDoorMeet
import Derived.Lib.AppendStr
import Derived.Laws.OwnMore
import Derived.LoopTactic
import Derived.Outline
namespace Go.Proofs.YtbbikkncobgabaaDoor
open Go.RowKit

/-- so many bytes of a number, the least one first -/
def wideB (x : Nat) : Nat → List UInt8
  | 0 => []
  | k + 1 => wideB x k ++ [UInt8.ofNat (x / 256 ^ k % 256)]
theorem wideB_len (x k : Nat) : (wideB x k).length = k := by
  induction k with
  | zero => rfl
  | succ k ih => simp [wideB, ih]
theorem wideB_1 (x : Nat) : wideB x 1 = [UInt8.ofNat x] := by
  have e : UInt8.ofNat (x / 256 ^ 0 % 256) = UInt8.ofNat x := by
    apply UInt8.toNat_inj.1
    rw [UInt8.toNat_ofNat', UInt8.toNat_ofNat']
    omega
  rw [wideB, wideB, List.nil_append, e]
theorem wideB_4 (x : Nat) : wideB x 4 = le32 (x % 4294967296) := by
  have e : ∀ a b : Nat, a % 256 = b % 256 → UInt8.ofNat a = UInt8.ofNat b := fun a b h => by
    apply UInt8.toNat_inj.1
    rw [UInt8.toNat_ofNat', UInt8.toNat_ofNat']
    exact h
  simp only [wideB, le32, List.nil_append, List.cons_append]
  congr 1
  · exact e _ _ (by omega)
  · congr 1
    · exact e _ _ (by omega)
    · congr 1
      · exact e _ _ (by omega)
      · congr 1
        exact e _ _ (by omega)

set_option maxRecDepth 100000 in
set_option maxHeartbeats 2000000 in
theorem refWide (x size : Nat) (w : World) (hx : x < 18446744073709551616) (hs : size ≤ 8) :
    Calls Tryd.prog 56 #[.int .u64 x, .int .i64 size] w (Gives w.heap.size (wideB x size) w) := by
  go_enter Tryd.func56, Tryd.ntmps56
  go_wp2_with fail
  go_loopw [0, 5] (fun xv v wr => ∃ k, k ≤ size ∧ xv = .int .u64 ((x / 256 ^ k : Nat) : Int) ∧ Owns wr w.heap.size v (wideB x k) ∧ Below w.heap.size w wr) (fun _ v _ => match v with | .slice _ n _ => size - n | _ => 0)
  case atStart => exact ⟨0, Nat.zero_le _, by simp, Owns.nil _ _, Below.refl _ _⟩
  case round =>
    obtain ⟨k, hk, rfl, hown, hb⟩ := hrel
    have hlen := wideB_len x k
    obtain ⟨A, c, rfl, -, -, -⟩ := hown.form
    rw [hlen] at hown ⊢
    have hs := hb.size
    clear hlen
    have hX : x / 256 ^ k < 18446744073709551616 := Nat.lt_of_le_of_lt (Nat.div_le_self _ _) hx
    obtain ⟨X, hXe⟩ : ∃ X, X = x / 256 ^ k := ⟨_, rfl⟩
    have HX := Lib.hid hXe
    rw [← hXe] at hX ⊢
    clear hXe
    by_cases hlt : k < size
    · have hand := and255 X hX
      have hone : Lib.byteCells [UInt8.ofNat (X % 256)] = [.int .u8 ((X : Int) % 256)] := cells_one _ _ (by rw [UInt8.toNat_ofNat']; omega)
      have Hone := Lib.hid hone
      clear hone
      have hnext : wideB x (k + 1) = wideB x k ++ [UInt8.ofNat (X % 256)] := by rw [HX.out]; rfl
      have Hnext := Lib.hid hnext
      have hsh : x / 256 ^ (k + 1) = X / 256 := by rw [HX.out, Nat.pow_succ, Nat.div_div_eq_div_mul]
      have Hsh := Lib.hid hsh
      clear hnext hsh
      go_wp2_with (at_builtin; refine wpList_app rfl (.tmp 10) (.tmp 14) rfl w.heap.size _ (wideB x k) rfl (hown.alloc _) (wr.heap.size + 1) _ _ _ [UInt8.ofNat (X % 256)] rfl rfl (by rw [Hone.out]; exact Reads.one wr _ _) ?_ ?_ ?_)
      · rw [wideB_len]; omega
      · simp; omega
      intro v3 w3 hown3 hg3 _
      rw [← Hnext.out] at hown3
      have hb3 : Below w.heap.size w w3 := (hb.alloc hs _).grown hg3 (by simp; omega) (fun k hk => (hown.lt k hk).1)
      clear hg3 hown hb
      have hl3 := wideB_len x (k + 1)
      obtain ⟨A3, c3, rfl, -, -, -⟩ := hown3.form
      rw [hl3] at hown3 ⊢
      clear hl3
      go_wp2_with fail
      go_roundw
      case rel => exact ⟨k + 1, by omega, by rw [Hsh.out]; go_num, hown3, hb3⟩
      case measure => simp; omega
    · obtain rfl : k = size := by omega
      go_wp2_with fail
      go_ret
      exact ⟨_, rfl, hown, hb⟩

/-- what Short makes: the digits -/
theorem dig_count (m y : Nat) (hm : 0 < m) : (dig m y).length = (if y < 128 then 1 else 1 + (dig (m - 1) (y / 128)).length) := by
  obtain ⟨m, rfl⟩ : ∃ k, m = k + 1 := ⟨m - 1, by omega⟩
  rw [dig]
  split
  · rfl
  · simp; omega
theorem dig_pos (m y : Nat) (hm : 0 < m) : 0 < (dig m y).length := by
  rw [dig_count m y hm]; split <;> omega
/-- the digit at a place -/
theorem dig_get : ∀ (m y i : Nat) (h : i < (dig m y).length), (dig m y)[i] = (if i + 1 < (dig m y).length then UInt8.ofNat (y / 128 ^ i % 128 + 128) else UInt8.ofNat (y / 128 ^ i % 128)) ∨ 128 ^ m ≤ y
  | 0, _, _, h => by rw [dig] at h; exact absurd h (by simp)
  | m + 1, y, i, h => by
    by_cases hy : y < 128
    · left
      have e : dig (m + 1) y = [UInt8.ofNat y] := by rw [dig, if_pos hy]
      have hi : i = 0 := by rw [e] at h; simpa using h
      subst hi
      simp only [e]
      simp [Nat.mod_eq_of_lt hy]
    · have e : dig (m + 1) y = UInt8.ofNat (y % 128 + 128) :: dig m (y / 128) := by rw [dig, if_neg hy]
      by_cases hbig : 128 ^ (m + 1) ≤ y
      · exact .inr hbig
      · left
        have hq : ¬ 128 ^ m ≤ y / 128 := by
          rw [Nat.le_div_iff_mul_le (by decide)]
          rw [Nat.pow_succ] at hbig
          exact hbig
        cases i with
        | zero =>
          have hp : 0 < (dig m (y / 128)).length := by
            rcases Nat.eq_zero_or_pos m with rfl | hm
            · simp at hq; omega
            · exact dig_pos m _ hm
          simp only [e]
          simp [hp]
        | succ i =>
          have hi : i < (dig m (y / 128)).length := by rw [e] at h; simpa using h
          have ih := (dig_get m (y / 128) i hi).resolve_right hq
          simp only [e, List.getElem_cons_succ, List.length_cons]
          rw [ih, Nat.pow_succ, Nat.mul_comm, ← Nat.div_div_eq_div_mul]
          simp

theorem zero_cells (c : Nat) : madeCells #[Value.int .u8 0] c = (Lib.byteCells (List.replicate c 0)).toArray := by
  apply Array.ext'
  rw [toList_madeCells_one]
  simp [Lib.byteCells]

theorem set_mid (D : List UInt8) (c i : Nat) (d : UInt8) (hc : c = D.length) (hi : i < c) : (D.take i ++ List.replicate (c - i) 0).set i d = D.take i ++ d :: List.replicate (c - (i + 1)) 0 := by
  have hl : (D.take i).length = i := by rw [List.length_take]; omega
  rw [List.set_append_right _ _ (by omega), hl, Nat.sub_self, show c - i = (c - (i + 1)) + 1 by omega, List.replicate_succ, List.set_cons_zero]
theorem take_next (D : List UInt8) (i : Nat) (hi : i < D.length) : D.take (i + 1) = D.take i ++ [D[i]] := by
  rw [List.take_succ_eq_append_getElem hi]

theorem pow128 (j : Nat) (hj : j ≤ 9) (x : Nat) (hx : x < 18446744073709551616) (h : 128 ≤ x / 128 ^ j) : j + 1 ≤ 9 := by
  rcases (by omega : j + 1 ≤ 9 ∨ j = 9) with h1 | rfl
  · exact h1
  · have : x / 128 ^ 9 < 2 := Nat.div_lt_of_lt_mul (Nat.lt_of_lt_of_le hx (by decide))
    omega

theorem byte_lo8 (c : UInt8) : 0 ≤ (c.toNat : Int) := by omega
theorem byte_hi8 (c : UInt8) : (c.toNat : Int) ≤ 255 := by have := c.toNat_lt; omega
theorem setCell_again (w : World) (b o : Nat) (v v' : Value) : (w.setCell ⟨b, o, none⟩ v).setCell ⟨b, o, none⟩ v' = w.setCell ⟨b, o, none⟩ v' := by
  simp only [World.setCell]
  congr 1
  apply Array.ext_getElem?
  intro i
  simp only [Array.getElem?_modify]
  split
  · cases hw : w.heap[i]? with
    | none => rfl
    | some o => cases o <;> simp
  · rfl

set_option maxRecDepth 100000 in
set_option maxHeartbeats 4000000 in
theorem refShort (x : Nat) (w : World) (hx : x < 18446744073709551616) :
    Calls Tryd.prog 57 #[.int .u64 x] w (Gives w.heap.size (dig 10 x) w) := by
  obtain ⟨i0, hi, hz0, hz1, hz2⟩ := info_parts infoByte
  have hmk : ∀ (c : Nat) (W : World), c ≤ 10 → (Instr.makeSlice 27 (.int .i64 (c : Int)) (.int .i64 (c : Int))).run Tryd.prog W = .ok (.slice (some ⟨W.heap.size, 0, none⟩) c c) (W.alloc (.cells (Lib.byteCells (List.replicate c 0)).toArray 5)) := fun c W hc => by
    have h := run_makeSlice (P := Tryd.prog) W 27 5 i0 (.int .u8 0) Tryd.underlying27 hi hz0 .i64 .i64 (c : Int) (c : Int) (by omega) (by omega) (by rw [hz1]; omega) (by rw [hz2]; omega) (by omega)
    rw [hz1, Nat.mul_one] at h
    simp only [Int.toNat_natCast] at h
    rw [← zero_cells]
    exact h
  have HM := Lib.hid hmk
  clear hmk hz0 hz1 hz2 hi
  go_enter Tryd.func57, Tryd.ntmps57
  go_wp2_with fail
  go_loop [3, 4] (fun cv yv => ∃ j c Y : Nat, j ≤ 9 ∧ c = j + 1 ∧ cv = .int .i64 (c : Int) ∧ yv = .int .u64 (Y : Int) ∧ Y = x / 128 ^ j ∧ (dig 10 x).length = j + (dig (10 - j) Y).length) (fun cv _ => 11 - (intOf cv).toNat)
  case atStart => exact ⟨0, 1, x, by omega, rfl, rfl, rfl, by simp, by simp⟩
  case round =>
    obtain ⟨j, c, Y, hj, hc, rfl, rfl, hY, hlen⟩ := hrel
    have HY := Lib.hid hY
    have Hlen := Lib.hid hlen
    have Hc := Lib.hid hc
    have hcs : c ≤ 10 := by omega
    have hYs : Y < 18446744073709551616 := by rw [hY]; exact Nat.lt_of_le_of_lt (Nat.div_le_self _ _) hx
    have hj2 : 128 ≤ Y → j + 1 ≤ 9 := by rw [hY]; exact pow128 j hj x hx
    have hdc := dig_count (10 - j) Y (by omega)
    have Hdc := Lib.hid hdc
    clear hY hlen hc hdc
    by_cases hlt : Y < 128
    · have hd : decide ((128 : Int) ≤ (Y : Int)) = false := by rw [decide_eq_false_iff_not]; omega
      have hcD : c = (dig 10 x).length := by rw [Hlen.out, Hdc.out, if_pos hlt, Hc.out]
      obtain ⟨D, hD⟩ : ∃ D, D = dig 10 x := ⟨_, rfl⟩
      have HD := Lib.hid hD
      rw [← hD] at hcD
      have HcD := Lib.hid hcD
      have hmk := fun W => HM.out c W hcs
      have hown0 : Owns (w.alloc (.cells (Lib.byteCells (List.replicate c 0)).toArray 5)) w.heap.size (.slice (some ⟨w.heap.size, 0, none⟩) c c) (D.take 0 ++ List.replicate (c - 0) 0) := by
        have h := Owns.lit w w.heap.size (List.replicate c 0) (Nat.le_refl _) (by rw [List.length_replicate]; unfold maxLen; omega)
        rw [List.length_replicate] at h
        simpa using h
      have hb0 : Below w.heap.size w (w.alloc (.cells (Lib.byteCells (List.replicate c 0)).toArray 5)) := (Below.refl _ _).alloc (Nat.le_refl _) _
      clear hD hcD hj2
      go_wp2_with fail
      clear hmk
      go_loopw [0, 6] (fun xv iv wr => ∃ i X : Nat, i ≤ c ∧ iv = .int .i64 (i : Int) ∧ xv = .int .u64 (X : Int) ∧ X = x / 128 ^ i ∧ Owns wr w.heap.size (.slice (some ⟨w.heap.size, 0, none⟩) c c) (D.take i ++ List.replicate (c - i) 0) ∧ Below w.heap.size w wr) (fun _ iv _ => c - (intOf iv).toNat)
      case atStart => exact ⟨0, x, Nat.zero_le _, rfl, rfl, by simp, hown0, hb0⟩
      case round =>
        clear hown0 hb0
        obtain ⟨i, X, hic, rfl, rfl, hXe, hown, hb⟩ := hrel
        have HXe := Lib.hid hXe
        have hXs : X < 18446744073709551616 := by rw [hXe]; exact Nat.lt_of_le_of_lt (Nat.div_le_self _ _) hx
        have hsh : x / 128 ^ (i + 1) = X / 128 := by rw [hXe, Nat.pow_succ, Nat.div_div_eq_div_mul]
        have Hsh := Lib.hid hsh
        clear hXe hsh
        by_cases hin : i < c
        · have hiD : i < D.length := by rw [← HcD.out]; exact hin
          have hlenl : (D.take i ++ List.replicate (c - i) 0).length = c := by rw [List.length_append, List.length_take, List.length_replicate]; have := HcD.out; omega
          have hcell := hown.cell i (by rw [hlenl]; exact hin)
          have hfr := hown.free (by rw [hlenl]; omega) i
          have hst := fun (b : UInt8) => (by
            have h := Owns.stored (g := w.heap.size) (cap := c) (l := D.take i ++ List.replicate (c - i) 0) (by rw [hlenl]; exact hown) i b
            rw [hlenl, set_mid D c i b HcD.out hin] at h
            exact h : Owns (wr.setCell ⟨w.heap.size, i, none⟩ (.int .u8 (b.toNat : Int))) w.heap.size (.slice (some ⟨w.heap.size, 0, none⟩) c c) (D.take i ++ b :: List.replicate (c - (i + 1)) 0))
          have HST := Lib.hid hst
          have hg := dig_get 10 x i (by rw [← HD.out]; exact hiD)
          have hg2 := hg.resolve_right (by have : x < 128 ^ 10 := Nat.lt_of_lt_of_le hx (by decide); omega)
          have hgd : D[i] = (if i + 1 < c then UInt8.ofNat (X % 128 + 128) else UInt8.ofNat (X % 128)) := by
            have e1 : (dig 10 x)[i]'(by rw [← HD.out]; exact hiD) = D[i] := by simp only [HD.out]
            rw [← e1, hg2, ← HD.out, ← HcD.out, ← HXe.out]
          have htk : D.take (i + 1) ++ List.replicate (c - (i + 1)) 0 = D.take i ++ D[i] :: List.replicate (c - (i + 1)) 0 := by
            rw [take_next D i hiD, List.append_assoc]; rfl
          have Hgd := Lib.hid hgd
          have Htk := Lib.hid htk
          have hm128 : ((X % 128 : Nat) : Int) = (X : Int) % 128 := by simp
          have Hm := Lib.hid hm128
          generalize (D.take i ++ List.replicate (c - i) 0)[i] = old at hcell
          have o1 := byte_lo8 old
          have o2 := byte_hi8 old
          clear hst hg hg2 hgd htk hm128 hlenl hown
          by_cases hi2 : i + 1 < c
          · have hb2 := (hb.setCell (p := ⟨w.heap.size, i, none⟩) (Nat.le_refl _) (.int .u8 ((X : Int) % 128 + 128)))
            have hw1 : IntKind.u8.wrap ((X : Int) % 128) = (X : Int) % 128 := by rw [IntKind.wrap_u8]; omega
            have hw2 : IntKind.u8.wrap ((X : Int) % 128 + 128) = (X : Int) % 128 + 128 := by rw [IntKind.wrap_u8]; omega
            have hfin : Owns (wr.setCell ⟨w.heap.size, i, none⟩ (.int .u8 ((X : Int) % 128 + 128))) w.heap.size (.slice (some ⟨w.heap.size, 0, none⟩) c c) (D.take (i + 1) ++ List.replicate (c - (i + 1)) 0) := by
              rw [Htk.out, Hgd.out, if_pos hi2]
              have h := HST.out (UInt8.ofNat (X % 128 + 128))
              rwa [ofNat_toNat _ (by omega), show ((X % 128 + 128 : Nat) : Int) = (X : Int) % 128 + 128 by omega] at h
            have Hfin := Lib.hid hfin
            clear hfin hb
            go_wp2_with fail
            rw [setCell_again]
            go_roundw
            case rel => exact ⟨i + 1, X / 128, by omega, by go_num, by go_num, Hsh.out.symm, Hfin.out, hb2⟩
            case measure => simp [intOf]; omega
          · have hb2 := (hb.setCell (p := ⟨w.heap.size, i, none⟩) (Nat.le_refl _) (.int .u8 ((X : Int) % 128)))
            have hw1 : IntKind.u8.wrap ((X : Int) % 128) = (X : Int) % 128 := by rw [IntKind.wrap_u8]; omega
            have hfin : Owns (wr.setCell ⟨w.heap.size, i, none⟩ (.int .u8 ((X : Int) % 128))) w.heap.size (.slice (some ⟨w.heap.size, 0, none⟩) c c) (D.take (i + 1) ++ List.replicate (c - (i + 1)) 0) := by
              rw [Htk.out, Hgd.out, if_neg hi2]
              have h := HST.out (UInt8.ofNat (X % 128))
              rwa [ofNat_toNat _ (by omega), show ((X % 128 : Nat) : Int) = (X : Int) % 128 by omega] at h
            have Hfin := Lib.hid hfin
            clear hfin hb
            go_wp2_with fail
            go_roundw
            case rel => exact ⟨i + 1, X / 128, by omega, by go_num, by go_num, Hsh.out.symm, Hfin.out, hb2⟩
            case measure => simp [intOf]; omega
        · obtain rfl : i = c := by omega
          have hfin : Owns wr w.heap.size (.slice (some ⟨w.heap.size, 0, none⟩) i i) D := by
            have e : D.take i ++ List.replicate (i - i) 0 = D := by rw [Nat.sub_self, HcD.out, List.take_length]; simp
            rwa [e] at hown
          have Hfin := Lib.hid hfin
          clear hfin hown
          go_wp2_with fail
          go_ret
          exact ⟨_, rfl, by rw [← HD.out]; exact Hfin.out, hb⟩
    · have hd : decide ((128 : Int) ≤ (Y : Int)) = true := by rw [decide_eq_true_eq]; omega
      have hj3 := hj2 (by omega)
      clear hj2
      go_wp2_with fail
      go_round
      case rel => exact ⟨j + 1, c + 1, Y / 128, hj3, by have := Hc.out; omega, by go_num, by go_num, by rw [HY.out, Nat.pow_succ, Nat.div_div_eq_div_mul], by rw [Hlen.out, Hdc.out, if_neg hlt]; rw [show 10 - j - 1 = 10 - (j + 1) by omega]; omega⟩
      case measure => simp [intOf]; have := Hc.out; omega

set_option maxRecDepth 100000 in
set_option maxHeartbeats 2000000 in
theorem refText (t : List UInt8) (w : World) (ht : t.length ≤ 100000000) :
    Calls Tryd.prog 58 #[.string (str t)] w (Gives w.heap.size (dig 10 t.length ++ t) w) := by
  obtain ⟨i0, hi, hz0, hz1, hz2⟩ := info_parts infoByte
  have hsz : (str t).size = t.length := by simp [str, ByteArray.size]
  have hw : IntKind.u64.wrap (t.length : Int) = (t.length : Int) := by rw [IntKind.wrap_u64]; omega
  have hdl := dig_length 10 t.length
  go_enter Tryd.func58, Tryd.ntmps58
  go_wp2_with fail
  refine (refShort t.length w (by omega)).mono ?_
  rintro e w1 ⟨v, rfl, hown, hb⟩
  go_wp2_with (at_builtin; refine Lib.wpList_append_own_string _ rfl (.tmp 6) (.tmp 7) _ _ rfl w.heap.size 5 i0 Tryd.underlying27 Tryd.underlying9 hi hz0 hz1 hz2 v _ _ rfl hown (str t) rfl ?_ ?_ ?_ ?_)
  · rw [hsz]; unfold maxLen; omega
  · rw [hsz]; omega
  · exact hb.size
  intro v2 w2 hown2 hg2 _
  have hb2 : Below w.heap.size w w2 := hb.grown hg2 hb.size (fun k hk => (hown.lt k hk).1)
  have hown3 : Owns w2 w.heap.size v2 (dig 10 t.length ++ t) := by
    have e : Lib.strCells (str t) = Lib.byteCells t := by simp [Lib.strCells, Lib.byteCells, str]
    rw [e, ← Lib.byteCells_append, ← List.length_append] at hown2
    exact hown2
  have H3 := Lib.hid hown3
  clear hown hown2 hg2 hown3
  go_wp2_with fail
  go_ret
  exact ⟨_, rfl, H3.out, hb2⟩
end Go.Proofs.YtbbikkncobgabaaDoor
