/-
  What is read of a part's bytes is that part: plain. By an AI agent.
-/
import Derived.Test.YtbbikkncobgabaaDoorPut
namespace Go.Proofs.YtbbikkncobgabaaDoor

theorem ofNat_toNat (n : Nat) (h : n < 256) : (UInt8.ofNat n).toNat = n := by rw [UInt8.toNat_ofNat']; exact Nat.mod_eq_of_lt h

theorem pow7 (k : Nat) : 2 ^ (7 * (k + 1)) = 128 * 2 ^ (7 * k) := by rw [show 7 * (k + 1) = 7 * k + 7 by omega, Nat.pow_add, Nat.mul_comm]

/-- what is left of a number behind a digit -/
theorem lt_rest {m k y : Nat} (hm : k + (m + 1) = 10) (hy : y < 2 ^ (64 - 7 * k)) (h : 128 ≤ y) : k < 9 ∧ y / 128 < 2 ^ (64 - 7 * (k + 1)) := by
  have hk : k < 9 := by
    rcases (by omega : k < 9 ∨ k = 9) with h1 | rfl
    · exact h1
    · have : 2 ^ (64 - 7 * 9) = 2 := by decide
      omega
  refine ⟨hk, ?_⟩
  have e : 2 ^ (64 - 7 * k) = 2 ^ (64 - 7 * (k + 1)) * 128 := by
    rw [show 64 - 7 * k = 64 - 7 * (k + 1) + 7 by omega, Nat.pow_add]
  exact Nat.div_lt_of_lt_mul (by rw [Nat.mul_comm, ← e]; exact hy)

/-- a number's digits are read as it, whatever stands behind -/
theorem num_dig : ∀ (m k x y : Nat) (r : List UInt8), k + m = 10 → 0 < m → y < 2 ^ (64 - 7 * k) → (k = 0 ∨ 0 < y) → num k x (dig m y ++ r) = some (x + y * 2 ^ (7 * k), k + (dig m y).length)
  | 0, _, _, _, _, _, h, _, _ => absurd h (by omega)
  | m + 1, k, x, y, r, hm, _, hy, h0 => by
    rw [dig]
    by_cases h : y < 128
    · rw [if_pos h, List.singleton_append, num]
      have hc := ofNat_toNat y (by omega)
      have h9 : k < 9 ∨ (k = 9 ∧ UInt8.ofNat y = 1) := by
        rcases (by omega : k < 9 ∨ k = 9) with h1 | rfl
        · exact .inl h1
        · have e : 2 ^ (64 - 7 * 9) = 2 := by decide
          have : y = 1 := by omega
          subst this
          exact .inr ⟨rfl, rfl⟩
      rw [if_pos h9, hc, if_pos h, if_pos h0, Nat.mod_eq_of_lt h]
      rfl
    · rw [if_neg h, List.cons_append, num]
      have hc := ofNat_toNat (y % 128 + 128) (by omega)
      obtain ⟨hk, hr⟩ := lt_rest hm hy (by omega)
      rw [if_pos (.inl hk), hc, if_neg (by omega), num_dig m (k + 1) _ (y / 128) r (by omega) (by omega) hr (.inr (by omega))]
      have e1 : x + (y % 128 + 128) % 128 * 2 ^ (7 * k) + y / 128 * 2 ^ (7 * (k + 1)) = x + y * 2 ^ (7 * k) := by
        rw [pow7, show (y % 128 + 128) % 128 = y % 128 by omega, Nat.add_assoc, ← Nat.mul_assoc, ← Nat.add_mul]
        congr 2
        omega
      rw [e1, List.length_cons]
      congr 2
      omega

/-- what is read as a number is its digits -/
theorem dig_num : ∀ (l : List UInt8) (k x v n : Nat), k ≤ 9 → num k x l = some (v, n) → ∃ y, v = x + y * 2 ^ (7 * k) ∧ y < 2 ^ (64 - 7 * k) ∧ (k = 0 ∨ 0 < y) ∧ n = k + (dig (10 - k) y).length ∧ l.take (n - k) = dig (10 - k) y ∧ n - k ≤ l.length
  | [], _, _, _, _, _, h => by rw [num] at h; cases h
  | c :: t, k, x, v, n, hk, h => by
    rw [num] at h
    split at h
    · rename_i h9
      split at h
      · rename_i hc
        split at h
        · rename_i h0
          injection h with h
          injection h with h1 h2
          refine ⟨c.toNat, by rw [← h1, Nat.mod_eq_of_lt hc], ?_, h0, ?_⟩
          · rcases h9 with h9 | ⟨rfl, rfl⟩
            · have : 2 ^ 8 ≤ 2 ^ (64 - 7 * k) := Nat.pow_le_pow_right (by decide) (by omega)
              omega
            · decide
          · have e : dig (10 - k) c.toNat = [c] := by
              rw [show 10 - k = (9 - k) + 1 by omega, dig, if_pos hc, UInt8.ofNat_toNat]
            rw [e]
            subst h2
            exact ⟨rfl, by rw [show k + 1 - k = 1 by omega]; rfl, by simp⟩
        · cases h
      · rename_i hc
        have hk9 : k < 9 := by
          rcases h9 with h9 | ⟨rfl, rfl⟩
          · exact h9
          · exact absurd (by decide) hc
        obtain ⟨y, h1, h2, h3, h4, h5, h6⟩ := dig_num t (k + 1) _ v n (by omega) h
        have hc2 := c.toNat_lt
        have hd : dig (10 - k) (c.toNat % 128 + 128 * y) = c :: dig (10 - (k + 1)) y := by
          rw [show 10 - k = (10 - (k + 1)) + 1 by omega, dig, if_neg (by omega)]
          congr 1
          · rw [show (c.toNat % 128 + 128 * y) % 128 + 128 = c.toNat by omega, UInt8.ofNat_toNat]
          · congr 1
            omega
        refine ⟨c.toNat % 128 + 128 * y, ?_, ?_, .inr (by omega), ?_, ?_, ?_⟩
        · rw [h1, pow7, Nat.add_mul, Nat.add_assoc]
          congr 2
          rw [← Nat.mul_assoc, Nat.mul_comm y 128]
        · have e : 2 ^ (64 - 7 * k) = 2 ^ (64 - 7 * (k + 1)) * 128 := by
            rw [show 64 - 7 * k = 64 - 7 * (k + 1) + 7 by omega, Nat.pow_add]
          omega
        · rw [hd, h4, List.length_cons]; omega
        · rw [hd, show n - k = (n - (k + 1)) + 1 by omega, List.take_succ_cons, h5]
        · rw [List.length_cons]; omega
    · cases h

/-- of a beginning of a number's digits that is not all of them no number is read -/
theorem num_cut : ∀ (m k x y j : Nat), j < (dig m y).length → num k x ((dig m y).take j) = none
  | 0, _, _, _, _, h => by rw [dig] at h; exact absurd h (by simp)
  | m + 1, k, x, y, 0, _ => by rw [List.take_zero, num]
  | m + 1, k, x, y, j + 1, h => by
    rw [dig] at h ⊢
    by_cases hy : y < 128
    · rw [if_pos hy] at h; exact absurd h (by simp)
    · rw [if_neg hy] at h ⊢
      rw [List.take_succ_cons, num]
      split
      · have hc := ofNat_toNat (y % 128 + 128) (by omega)
        rw [hc, if_neg (by omega)]
        exact num_cut m _ _ _ j (by simpa using h)
      · rfl

theorem num_dig0 (x : Nat) (r : List UInt8) (hx : x < 18446744073709551616) : num 0 0 (dig 10 x ++ r) = some (x, (dig 10 x).length) := by
  rw [num_dig 10 0 0 x r rfl (by decide) hx (.inl rfl)]
  simp
theorem dig_num0 (l : List UInt8) (v n : Nat) (h : num 0 0 l = some (v, n)) : v < 18446744073709551616 ∧ l.take n = dig 10 v ∧ n = (dig 10 v).length ∧ n ≤ l.length := by
  obtain ⟨y, h1, h2, _, h4, h5, h6⟩ := dig_num l 0 0 v n (by decide) h
  simp only [Nat.mul_zero, Nat.pow_zero, Nat.mul_one, Nat.zero_add, Nat.sub_zero] at h1 h2 h4 h5 h6
  subst h1
  exact ⟨h2, h5, h4, h6⟩

theorem leN_le32 (x : Nat) (hx : x < 4294967296) : leN (le32 x) = x := by
  unfold le32
  simp only [leN, UInt8.toNat_ofNat']
  omega

/-- a part's number, and its bytes, as they are read -/
def partNum (k : Int) (x : Nat) : Nat := if k = 0 then x % 256 else if k = 1 then x % 4294967296 else if k = 2 then x else 0
def partText (k : Int) (t : List UInt8) : List UInt8 := if k = 3 ∨ k = 4 then t else []

theorem rd_part (k : Int) (hk : k = 0 ∨ k = 1 ∨ k = 2 ∨ k = 3 ∨ k = 4) (x : Nat) (t r : List UInt8) (hx : x < 18446744073709551616) (ht : t.length < 18446744073709551616) :
    rdPart k t.length (partBytes k x t ++ r) = some (partNum k x, partText k t, (partBytes k x t).length) := by
  rcases hk with rfl | rfl | rfl | rfl | rfl
  · simp [rdPart, partBytes, partNum, partText]
  · have e : (le32 (x % 4294967296)).length = 4 := rfl
    simp [rdPart, partBytes, partNum, partText, e, leN_le32 (x % 4294967296) (by omega)]
  · simp [rdPart, partBytes, partNum, partText, num_dig0 x r hx]
  · have h : text (t.length : Int) (dig 10 t.length ++ t ++ r) = some ((dig 10 t.length).length, t.length) := by
      rw [text, List.append_assoc, num_dig0 t.length (t ++ r) ht]
      simp
    simp [rdPart, partBytes, partNum, partText]
    rw [List.append_assoc] at h
    rw [h]
    simp
  · simp [rdPart, partBytes, partNum, partText]
    omega

theorem rd_cut (k : Int) (hk : k = 0 ∨ k = 1 ∨ k = 2 ∨ k = 3 ∨ k = 4) (x : Nat) (t : List UInt8) (j : Nat) (hx : x < 18446744073709551616) (ht : t.length < 18446744073709551616) (hj : j < (partBytes k x t).length) :
    rdPart k t.length ((partBytes k x t).take j) = none := by
  rcases hk with rfl | rfl | rfl | rfl | rfl
  · simp [partBytes] at hj
    subst hj
    simp [rdPart]
  · have e : (le32 (x % 4294967296)).length = 4 := rfl
    simp [partBytes, e] at hj
    simp [rdPart, partBytes, e]
    omega
  · simp [partBytes] at hj
    simp [rdPart, partBytes, num_cut 10 0 0 x j hj]
  · simp [partBytes] at hj
    simp [rdPart, partBytes]
    have h : text (t.length : Int) ((dig 10 t.length ++ t).take j) = none := by
      rw [text]
      rcases Nat.lt_or_ge j (dig 10 t.length).length with h1 | h1
      · rw [List.take_append_of_le_length (by omega), num_cut 10 0 0 t.length j h1]
      · rw [List.take_append, List.take_of_length_le h1, num_dig0 t.length _ ht]
        simp
        omega
    rw [h]
  · simp [partBytes] at hj
    simp [rdPart, partBytes]
    omega
end Go.Proofs.YtbbikkncobgabaaDoor
