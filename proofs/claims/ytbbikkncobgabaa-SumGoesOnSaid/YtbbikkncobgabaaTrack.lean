/-
  SumFar's count of turned bits: plain. By an AI agent.
-/
import Derived.Test.YtbbikkncobgabaaBits
namespace Go.Proofs.Ytbbikkncobgabaa.Crc
open Go

/-- so many of the bits are gone through: how many are set, which is the first, which the last -/
def Track (e : List Bool) (p : Nat) (many first last : Int) : Prop :=
  many = weight (e.take p) ∧ (∀ k : Nat, k < p → e[k]? = some true → first ≤ k ∧ (k : Int) ≤ last) ∧
  (weight (e.take p) = 0 → first = -1 ∧ last = -1) ∧ (0 < weight (e.take p) → 0 ≤ first ∧ first ≤ last ∧ last < p)

theorem Track.start (e : List Bool) : Track e 0 0 (-1) (-1) :=
  ⟨by simp [weight], fun k hk => by omega, fun _ => ⟨rfl, rfl⟩, fun h => by simp [weight] at h⟩

theorem Track.bounds {e : List Bool} {p : Nat} {many first last : Int} (h : Track e p many first last) : 0 ≤ many ∧ many ≤ p ∧ -1 ≤ first ∧ first ≤ p ∧ -1 ≤ last ∧ last ≤ p := by
  obtain ⟨h1, h2, h3, h4⟩ := h
  have hw : weight (e.take p) ≤ p := Nat.le_trans (List.count_le_length) (by simp; omega)
  rcases Nat.eq_zero_or_pos (weight (e.take p)) with h0 | h0
  · obtain ⟨rfl, rfl⟩ := h3 h0; omega
  · have := h4 h0; omega

theorem Track.skip {e : List Bool} {p : Nat} {many first last : Int} (h : Track e p many first last) (hb : e[p]? = some false) : Track e (p + 1) many first last := by
  obtain ⟨h1, h2, h3, h4⟩ := h
  have hw : weight (e.take (p + 1)) = weight (e.take p) := by
    have hp : p < e.length := by
      rcases Nat.lt_or_ge p e.length with h | h
      · exact h
      · rw [List.getElem?_eq_none h] at hb; cases hb
    rw [List.take_succ_eq_append_getElem hp, weight_append]
    have : e[p] = false := by rw [List.getElem?_eq_getElem hp] at hb; exact Option.some.inj hb
    rw [this]; rfl
  refine ⟨by rw [hw]; exact h1, fun k hk he => ?_, by rw [hw]; exact h3, fun h0 => ?_⟩
  · by_cases hkp : k = p
    · subst hkp; rw [hb] at he; cases he
    · exact h2 k (by omega) he
  · rw [hw] at h0; have := h4 h0; omega

theorem Track.set {e : List Bool} {p : Nat} {many first last : Int} (h : Track e p many first last) (hb : e[p]? = some true) :
    Track e (p + 1) (many + 1) (if first < 0 then (p : Int) else first) p := by
  obtain ⟨h1, h2, h3, h4⟩ := h
  have hw : weight (e.take (p + 1)) = weight (e.take p) + 1 := by
    have hp : p < e.length := by
      rcases Nat.lt_or_ge p e.length with h | h
      · exact h
      · rw [List.getElem?_eq_none h] at hb; cases hb
    rw [List.take_succ_eq_append_getElem hp, weight_append]
    have : e[p] = true := by rw [List.getElem?_eq_getElem hp] at hb; exact Option.some.inj hb
    rw [this]; rfl
  refine ⟨by rw [hw, h1]; omega, fun k hk he => ?_, fun h0 => by omega, fun _ => ?_⟩
  · by_cases hkp : k = p
    · subst hkp
      refine ⟨?_, by omega⟩
      split
      · omega
      · rename_i hf
        rcases Nat.eq_zero_or_pos (weight (e.take k)) with h0 | h0
        · have := h3 h0; omega
        · have := h4 h0; omega
    · have hk2 := h2 k (by omega) he
      rcases Nat.eq_zero_or_pos (weight (e.take p)) with h0 | h0
      · have := h3 h0; omega
      · have h5 := h4 h0
        rw [if_neg (by omega)]
        omega
  · rcases Nat.eq_zero_or_pos (weight (e.take p)) with h0 | h0
    · have := h3 h0
      rw [if_pos (by omega)]; omega
    · have h5 := h4 h0
      rw [if_neg (by omega)]; omega

theorem Track.skip8 {e : List Bool} {p : Nat} {many first last : Int} (h : Track e p many first last) (hb : ∀ j, j < 8 → e[p + j]? = some false) : Track e (p + 8) many first last := by
  have key : ∀ n, n ≤ 8 → Track e (p + n) many first last := by
    intro n
    induction n with
    | zero => intro _; exact h
    | succ n ih => intro hn; exact (ih (by omega)).skip (hb n (by omega))
  exact key 8 (Nat.le_refl _)

theorem Track.skips {e : List Bool} {p : Nat} {many first last : Int} (h : Track e p many first last) (n : Nat) (hb : ∀ j, j < n → e[p + j]? = some false) : Track e (p + n) many first last := by
  induction n with
  | zero => exact h
  | succ n ih => exact (ih (fun j hj => hb j (by omega))).skip (hb n (by omega))

/-- the bit at a place -/
theorem bit_at : ∀ (l : List UInt8) (i j : Nat) (_ : j < 8) (hi : i < l.length), (bitsOf l)[8 * i + j]? = some ((l[i]).toNat.testBit j)
  | [], _, _, _, hi => by simp at hi
  | c :: l, 0, j, hj, _ => by
    rw [bitsOf_cons, Nat.mul_zero, Nat.zero_add, List.getElem?_append_left (by rw [bits8_length]; exact hj)]
    simp [bits8, hj]
  | c :: l, i + 1, j, hj, hi => by
    rw [bitsOf_cons, List.getElem?_append_right (by rw [bits8_length]; omega), bits8_length, show 8 * (i + 1) + j - 8 = 8 * i + j by omega]
    simpa using bit_at l i j hj (by simpa using hi)

theorem xors_get (x y : List UInt8) (i : Nat) (hx : i < x.length) (hy : i < y.length) (h : i < (xors x y).length) : (xors x y)[i] = x[i] ^^^ y[i] := by
  simp [xors]

/-- THE END -/
theorem Track.far {l m : List UInt8} (h : l.length = m.length) (hl : l.length ≤ 65536) (hne : l ≠ m) {many first last : Int}
    (ht : Track (bitsOf (xors (shut l) (shut m))) (8 * (shut l).length) many first last) : 4 ≤ many ∧ 32 ≤ last - first := by
  have hlen : (bitsOf (xors (shut l) (shut m))).length = 8 * (shut l).length := by
    rw [bitsOf_length, xors, List.length_zipWith]
    simp [shut, le4_length, h]
  obtain ⟨h1, h2, h3, h4⟩ := ht
  rw [List.take_of_length_le (by omega)] at h1 h3 h4
  have hw := far_weight l m h hl hne
  have h5 := h4 (by omega)
  have hs := far_spread l m h hne first.toNat last.toNat (fun k hk => by
    have hk2 : k < 8 * (shut l).length := by
      rcases Nat.lt_or_ge k (8 * (shut l).length) with h | h
      · exact h
      · rw [List.getElem?_eq_none (by omega)] at hk; cases hk
    have := h2 k hk2 hk
    omega)
  omega

/-- the law's own test -/
theorem bitTest (a b : UInt8) (j : Nat) : (bits .and .u8 (bits .xor .u8 (a.toNat : Int) (b.toNat : Int) / 2 ^ j) 1 == 1) = (a ^^^ b).toNat.testBit j := by
  have ha := a.toNat_lt
  have hb := b.toNat_lt
  rw [u8_xor_nat _ _ (by omega) (by omega)]
  have e : (((a.toNat ^^^ b.toNat : Nat) : Int) / 2 ^ j) = (((a.toNat ^^^ b.toNat) / 2 ^ j : Nat) : Int) := by simp
  have hx : a.toNat ^^^ b.toNat < 2 ^ 8 := Nat.xor_lt_two_pow (by omega) (by omega)
  have hlt : (a.toNat ^^^ b.toNat) / 2 ^ j < 256 := Nat.lt_of_le_of_lt (Nat.div_le_self _ _) hx
  rw [e]
  rw [UInt8.toNat_xor]
  generalize hq : (a.toNat ^^^ b.toNat) / 2 ^ j = q at hlt
  rw [show (1 : Int) = ((1 : Nat) : Int) from rfl, u8_and_nat _ _ (by omega) (by omega), nat_mask1, Nat.testBit_eq_decide_div_mod_eq, hq]
  have : q % 2 < 2 := Nat.mod_lt _ (by decide)
  by_cases h : q % 2 = 1
  · simp [h]
  · have h0 : q % 2 = 0 := by omega
    simp [h0]

/-- the bit at a place of the two sealed -/
theorem far_bit (x y : List UInt8) (h : x.length = y.length) (i j : Nat) (hj : j < 8) (hx : i < x.length) (hy : i < y.length) : (bitsOf (xors x y))[8 * i + j]? = some ((x[i] ^^^ y[i]).toNat.testBit j) := by
  have hl : i < (xors x y).length := by simp [xors]; omega
  rw [bit_at _ i j hj hl, xors_get x y i hx hy hl]

/-- 'at & 0xffffff' -/
theorem low24 (x : Int) : ∃ m : Nat, m ≤ 16777215 ∧ bits .and .i64 x 16777215 = (m : Int) := by
  have h : ((BitVec.ofInt 64 x &&& BitVec.ofInt 64 16777215).toNat) ≤ 16777215 := by
    rw [BitVec.toNat_and, show (BitVec.ofInt 64 16777215).toNat = 16777215 from rfl]
    exact Nat.and_le_right
  refine ⟨(BitVec.ofInt 64 x &&& BitVec.ofInt 64 16777215).toNat, h, ?_⟩
  show IntKind.i64.wrap ((BitVec.ofInt 64 x &&& BitVec.ofInt 64 16777215).toNat : Int) = _
  rw [IntKind.wrap_i64]
  omega
end Go.Proofs.Ytbbikkncobgabaa.Crc
