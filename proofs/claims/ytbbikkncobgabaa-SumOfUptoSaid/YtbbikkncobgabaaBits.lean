/-
  What the model's whole-number operations do to the sum's register. By an AI agent.
-/
import Derived.Laws.BitsAllLaws
import Derived.Laws.BitsLemmas
import Derived.WalkKit
import Derived.Test.YtbbikkncobgabaaDist
namespace Go.Proofs.Ytbbikkncobgabaa.Crc
open Go

/-- a register, as a number -/
def U (X : BitVec 32) : Int := (X.toNat : Int)

theorem U_lo (X : BitVec 32) : 0 ≤ U X := Int.natCast_nonneg _
theorem U_hi (X : BitVec 32) : U X ≤ 4294967295 := by have := X.isLt; unfold U; omega
theorem U_inj (X Y : BitVec 32) : U X = U Y ↔ X = Y := by
  unfold U
  constructor
  · intro h; exact BitVec.eq_of_toNat_eq (by exact_mod_cast h)
  · intro h; rw [h]
theorem exists_U (x : Int) (h0 : 0 ≤ x) (h1 : x ≤ 4294967295) : ∃ X, x = U X := by
  refine ⟨BitVec.ofNat 32 x.toNat, ?_⟩
  unfold U
  rw [BitVec.toNat_ofNat]
  omega
theorem ofInt_U (X : BitVec 32) : BitVec.ofInt 32 (U X) = X := by
  unfold U; rw [BitVec.ofInt_natCast]; simp

theorem bits_and (X : BitVec 32) (n : Int) : bits .and .u32 (U X) n = U (X &&& BitVec.ofInt 32 n) := by
  show IntKind.u32.wrap ((BitVec.ofInt 32 (U X) &&& BitVec.ofInt 32 n).toNat : Int) = _
  rw [ofInt_U, IntKind.wrap_u32]
  have := (X &&& BitVec.ofInt 32 n).isLt
  unfold U
  omega
theorem bits_or (X Y : BitVec 32) : bits .or .u32 (U X) (U Y) = U (X ||| Y) := by
  show IntKind.u32.wrap ((BitVec.ofInt 32 (U X) ||| BitVec.ofInt 32 (U Y)).toNat : Int) = _
  rw [ofInt_U, ofInt_U, IntKind.wrap_u32]
  have := (X ||| Y).isLt
  unfold U
  omega
theorem bits_xor (X Y : BitVec 32) : bits .xor .u32 (U X) (U Y) = U (X ^^^ Y) := by
  show IntKind.u32.wrap ((BitVec.ofInt 32 (U X) ^^^ BitVec.ofInt 32 (U Y)).toNat : Int) = _
  rw [ofInt_U, ofInt_U, IntKind.wrap_u32]
  have := (X ^^^ Y).isLt
  unfold U
  omega
theorem bits_xor_max (X : BitVec 32) : bits .xor .u32 4294967295 (U X) = U (~~~ X) := by
  have e : (4294967295 : Int) = U (BitVec.allOnes 32) := by decide
  rw [e, bits_xor, BitVec.allOnes_xor]

theorem U_shr (X : BitVec 32) (k : Nat) : U X / (2 : Int) ^ k = U (X >>> k) := by
  unfold U
  rw [BitVec.toNat_ushiftRight, Nat.shiftRight_eq_div_pow]
  simp
theorem U_shl (X : BitVec 32) (k : Nat) : U X * (2 : Int) ^ k % (4294967296 : Int) = U (X <<< k) := by
  unfold U
  rw [BitVec.toNat_shiftLeft, Nat.shiftLeft_eq]
  simp
theorem U_div2 (X : BitVec 32) : U X / (2 : Int) = U (X >>> 1) := U_shr X 1
theorem U_div4 (X : BitVec 32) : U X / (4 : Int) = U (X >>> 2) := U_shr X 2
theorem U_div16 (X : BitVec 32) : U X / (16 : Int) = U (X >>> 4) := U_shr X 4
theorem U_div256 (X : BitVec 32) : U X / (256 : Int) = U (X >>> 8) := U_shr X 8
theorem U_div65536 (X : BitVec 32) : U X / (65536 : Int) = U (X >>> 16) := U_shr X 16
theorem U_mul2 (X : BitVec 32) : U X * (2 : Int) % (4294967296 : Int) = U (X <<< 1) := U_shl X 1
theorem U_mul4 (X : BitVec 32) : U X * (4 : Int) % (4294967296 : Int) = U (X <<< 2) := U_shl X 2
theorem U_mul16 (X : BitVec 32) : U X * (16 : Int) % (4294967296 : Int) = U (X <<< 4) := U_shl X 4
theorem U_mul256 (X : BitVec 32) : U X * (256 : Int) % (4294967296 : Int) = U (X <<< 8) := U_shl X 8
theorem U_mul65536 (X : BitVec 32) : U X * (65536 : Int) % (4294967296 : Int) = U (X <<< 16) := U_shl X 16

/-- math/bits.ReverseBytes32, as the walk has it -/
def rb32 (x : Int) : Int :=
  bits .or .u32
    (bits .or .u32 (bits .and .u32 (x / (256 : Int)) 16711935) (bits .and .u32 x 16711935 * (256 : Int) % (4294967296 : Int)) / (65536 : Int))
    (bits .or .u32 (bits .and .u32 (x / (256 : Int)) 16711935) (bits .and .u32 x 16711935 * (256 : Int) % (4294967296 : Int)) * (65536 : Int) % (4294967296 : Int))

def sw (k : Int) (m : Int) (x : Int) : Int := bits .or .u32 (bits .and .u32 (x / k) m) (bits .and .u32 x m * k % (4294967296 : Int))

/-- the halves of all cells, turned round -/
def swp (k : Nat) (m : BitVec 32) (X : BitVec 32) : BitVec 32 := ((X >>> k) &&& m) ||| ((X &&& m) <<< k)

theorem sw_U (k : Nat) (m : Int) (X : BitVec 32) : sw (2 ^ k) m (U X) = U (swp k (BitVec.ofInt 32 m) X) := by
  unfold sw swp
  rw [U_shr, bits_and, bits_and, U_shl, bits_or]

theorem getLsbD_swp (k : Nat) (m X : BitVec 32) (i : Nat) (hi : i < 32) :
    (swp k m X).getLsbD i = ((X.getLsbD (k + i) && m.getLsbD i) || (decide (k ≤ i) && X.getLsbD (i - k) && m.getLsbD (i - k))) := by
  unfold swp
  rw [BitVec.getLsbD_or, BitVec.getLsbD_and, BitVec.getLsbD_shiftLeft, BitVec.getLsbD_and, BitVec.getLsbD_ushiftRight]
  by_cases h : k ≤ i
  · have : ¬ i < k := by omega
    simp [hi, h, this]
  · have : i < k := by omega
    simp [hi, h, this]

theorem rb32_U (X : BitVec 32) : rb32 (U X) = U (((swp 8 16711935#32 X) >>> 16) ||| ((swp 8 16711935#32 X) <<< 16)) := by
  unfold rb32 swp
  rw [U_div256, bits_and, bits_and, U_mul256, bits_or, U_div65536, U_mul65536, bits_or]
  rfl

theorem get_swp (k : Nat) (m X : BitVec 32) (i : Nat) :
    (swp k m X).getLsbD i = (decide (i < 32) && ((X.getLsbD (k + i) && m.getLsbD i) || (decide (k ≤ i) && (X.getLsbD (i - k) && m.getLsbD (i - k))))) := by
  by_cases hi : i < 32
  · rw [getLsbD_swp k m X i hi]; simp [hi, Bool.and_assoc]
  · rw [BitVec.getLsbD_of_ge _ i (by omega)]; simp [hi]

/-- the masks, bit by bit -/
theorem mask1 (i : Nat) (h : i < 32) : (1431655765#32).getLsbD i = decide (i % 2 = 0) := by
  have : ∀ j : Fin 32, (1431655765#32).getLsbD j.val = decide (j.val % 2 = 0) := by decide
  exact this ⟨i, h⟩
theorem mask2 (i : Nat) (h : i < 32) : (858993459#32).getLsbD i = decide (i % 4 < 2) := by
  have : ∀ j : Fin 32, (858993459#32).getLsbD j.val = decide (j.val % 4 < 2) := by decide
  exact this ⟨i, h⟩
theorem mask4 (i : Nat) (h : i < 32) : (252645135#32).getLsbD i = decide (i % 8 < 4) := by
  have : ∀ j : Fin 32, (252645135#32).getLsbD j.val = decide (j.val % 8 < 4) := by decide
  exact this ⟨i, h⟩
theorem mask8 (i : Nat) (h : i < 32) : (16711935#32).getLsbD i = decide (i % 16 < 8) := by
  have : ∀ j : Fin 32, (16711935#32).getLsbD j.val = decide (j.val % 16 < 8) := by decide
  exact this ⟨i, h⟩

/-- whose bit comes to place i -/
theorem swp_at (k : Nat) (m X : BitVec 32) (hk : 0 < k) (hm : ∀ i, i < 32 → m.getLsbD i = decide (i % (2 * k) < k)) (i : Nat) (hi : i < 32) :
    (swp k m X).getLsbD i = X.getLsbD (if i % (2 * k) < k then i + k else i - k) := by
  rw [getLsbD_swp k m X i hi, hm i hi]
  by_cases h : i % (2 * k) < k
  · have h2 : k ≤ i → (i - k) % (2 * k) ≥ k := by
      intro hki
      have h3 : i % (2 * k) + 2 * k * (i / (2 * k)) = i := Nat.mod_add_div i (2 * k)
      have h4 : 1 ≤ i / (2 * k) := by
        rcases Nat.eq_zero_or_pos (i / (2 * k)) with h0 | h0
        · rw [h0, Nat.mul_zero] at h3; omega
        · exact h0
      obtain ⟨q, hq⟩ : ∃ q, i / (2 * k) = q + 1 := ⟨i / (2 * k) - 1, by omega⟩
      rw [hq, Nat.mul_add, Nat.mul_one] at h3
      rw [show i - k = i % (2 * k) + k + 2 * k * q by omega, Nat.add_mul_mod_self_left, Nat.mod_eq_of_lt (by omega)]
      omega
    by_cases hki : k ≤ i
    · have := h2 hki
      rw [hm (i - k) (by omega)]
      have hn : ¬ (i - k) % (2 * k) < k := by omega
      simp [h, hki, hn, Nat.add_comm]
    · simp [h, hki, Nat.add_comm]
  · have hki : k ≤ i := by
      rcases Nat.lt_or_ge i k with h1 | h1
      · rw [Nat.mod_eq_of_lt (by omega)] at h; omega
      · exact h1
    have h3 : i % (2 * k) + 2 * k * (i / (2 * k)) = i := Nat.mod_add_div i (2 * k)
    have hlt : i % (2 * k) < 2 * k := Nat.mod_lt _ (by omega)
    have h5 : (i - k) % (2 * k) < k := by
      rw [show i - k = (i % (2 * k) - k) + 2 * k * (i / (2 * k)) by omega, Nat.add_mul_mod_self_left, Nat.mod_eq_of_lt (by omega)]
      omega
    rw [hm (i - k) (by omega)]
    simp [h, hki, h5]

theorem rev_all (X : BitVec 32) (i : Nat) (hi : i < 32) :
    (((swp 8 16711935#32 (swp 4 252645135#32 (swp 2 858993459#32 (swp 1 1431655765#32 X)))) >>> 16) ||| ((swp 8 16711935#32 (swp 4 252645135#32 (swp 2 858993459#32 (swp 1 1431655765#32 X)))) <<< 16)).getLsbD i = X.reverse.getLsbD i := by
  have e1 : ∀ j, j < 32 → (swp 1 1431655765#32 X).getLsbD j = X.getLsbD (if j % 2 < 1 then j + 1 else j - 1) := fun j hj =>
    swp_at 1 1431655765#32 X (by decide) (fun i h => by rw [mask1 i h]; congr 1; simp) j hj
  generalize swp 1 1431655765#32 X = A at *
  have e2 : ∀ j, j < 32 → (swp 2 858993459#32 A).getLsbD j = A.getLsbD (if j % 4 < 2 then j + 2 else j - 2) := fun j hj =>
    swp_at 2 858993459#32 A (by decide) (fun i h => mask2 i h) j hj
  generalize swp 2 858993459#32 A = B at *
  have e3 : ∀ j, j < 32 → (swp 4 252645135#32 B).getLsbD j = B.getLsbD (if j % 8 < 4 then j + 4 else j - 4) := fun j hj =>
    swp_at 4 252645135#32 B (by decide) (fun i h => mask4 i h) j hj
  generalize swp 4 252645135#32 B = C at *
  have e4 : ∀ j, j < 32 → (swp 8 16711935#32 C).getLsbD j = C.getLsbD (if j % 16 < 8 then j + 8 else j - 8) := fun j hj =>
    swp_at 8 16711935#32 C (by decide) (fun i h => mask8 i h) j hj
  generalize swp 8 16711935#32 C = D at *
  have hD : ∀ j, 32 ≤ j → D.getLsbD j = false := fun j hj => BitVec.getLsbD_of_ge D j hj
  rw [BitVec.getLsbD_or, BitVec.getLsbD_ushiftRight, BitVec.getLsbD_shiftLeft, BitVec.getLsbD_reverse, BitVec.getMsbD_eq_getLsbD]
  have main : ∀ j, j < 32 → D.getLsbD j = X.getLsbD (if j < 16 then 15 - j else 47 - j) := by
    intro j hj
    have h4 : (if j % 16 < 8 then j + 8 else j - 8) < 32 := by split <;> omega
    rw [e4 j hj]
    generalize hj4 : (if j % 16 < 8 then j + 8 else j - 8) = j4 at *
    have h3 : (if j4 % 8 < 4 then j4 + 4 else j4 - 4) < 32 := by split <;> omega
    rw [e3 j4 h4]
    generalize hj3 : (if j4 % 8 < 4 then j4 + 4 else j4 - 4) = j3 at *
    have h2 : (if j3 % 4 < 2 then j3 + 2 else j3 - 2) < 32 := by split <;> omega
    rw [e2 j3 h3]
    generalize hj2 : (if j3 % 4 < 2 then j3 + 2 else j3 - 2) = j2 at *
    rw [e1 j2 h2]
    congr 1
    split at hj4 <;> split at hj3 <;> split at hj2 <;> split <;> split <;> omega
  by_cases h16 : i < 16
  · rw [main (16 + i) (by omega)]
    have hn : ¬ 16 + i < 16 := by omega
    simp [h16, hi, hn]
    congr 1
    omega
  · rw [hD (16 + i) (by omega), main (i - 16) (by omega)]
    have hn : i - 16 < 16 := by omega
    simp [h16, hi, hn]
    congr 1
    omega

/-- math/bits.Reverse32, as the walk has it -/
def r32 (x : Int) : Int := rb32 (sw 16 252645135 (sw 4 858993459 (sw 2 1431655765 x)))

theorem r32_U (X : BitVec 32) : r32 (U X) = U X.reverse := by
  unfold r32
  rw [show (2 : Int) = 2 ^ 1 from rfl, sw_U, show (4 : Int) = 2 ^ 2 from rfl, sw_U, show (16 : Int) = 2 ^ 4 from rfl, sw_U, rb32_U, U_inj]
  apply BitVec.eq_of_getLsbD_eq
  intro i hi
  exact rev_all X i hi

/-! ### a shift of the register -/
theorem step_U (X : BitVec 32) : bits .xor .u32 (U X * (2 : Int) % (4294967296 : Int)) ((517762881 : Int) * (U X / (2147483648 : Int))) = U (L X) := by
  rw [U_mul2]
  have h : (517762881 : Int) * (U X / (2147483648 : Int)) = U (if X.msb then poly else 0#32) := by
    have hx := X.isLt
    cases hm : X.msb with
    | true =>
      have : 2147483648 ≤ X.toNat := by rw [BitVec.msb_eq_decide] at hm; simpa using hm
      have e : U X / (2147483648 : Int) = 1 := by unfold U; omega
      rw [e]; rfl
    | false =>
      have : X.toNat < 2147483648 := by rw [BitVec.msb_eq_decide] at hm; simpa using hm
      have e : U X / (2147483648 : Int) = 0 := by unfold U; omega
      rw [e]; rfl
  rw [h, bits_xor]
  rfl

/-- a byte's bits, turned round -/
def rev (c : UInt8) : Nat := c.toBitVec.reverse.toNat

theorem rev_lt (c : UInt8) : rev c < 256 := c.toBitVec.reverse.isLt

/-- where a byte is laid to the register -/
def at24 (c : UInt8) : BitVec 32 := BitVec.ofNat 32 (rev c * 16777216)

theorem in_U (X : BitVec 32) (c : UInt8) : bits .xor .u32 (U X) ((rev c : Int) * (16777216 : Int)) = U (X ^^^ at24 c) := by
  have h := rev_lt c
  have e : ((rev c : Int) * (16777216 : Int)) = U (at24 c) := by
    unfold U at24
    rw [BitVec.toNat_ofNat]
    omega
  rw [e, bits_xor]

theorem byte_lin : ∀ c : BitVec 8, run 0#32 ((List.range 8).map fun i => c.toNat.testBit i) = LL 8 (BitVec.ofNat 32 (c.reverse.toNat * 16777216)) := by
  decide +kernel

/-- A BYTE IS FED -/
theorem feed (X : BitVec 32) (c : UInt8) : LL 8 (X ^^^ at24 c) = run X (bits8 c) := by
  have h1 := run_xor (bits8 c) (List.replicate 8 false) 0#32 X (by simp [bits8_length])
  have h2 := zip_self (bits8 c)
  rw [bits8_length] at h2
  rw [h2, BitVec.zero_xor, run_false] at h1
  have h3 : run 0#32 (bits8 c) = LL 8 (at24 c) := byte_lin c.toBitVec
  rw [h1, h3, BitVec.xor_comm X]
  clear h1 h2 h3
  generalize at24 c = Y
  suffices h : ∀ n (A B : BitVec 32), LL n (A ^^^ B) = LL n A ^^^ LL n B from h 8 Y X
  intro n
  induction n with
  | zero => intro A B; rfl
  | succ n ih => intro A B; rw [LL, L_xor, ih]; rfl

/-! ### the document's own way -/
theorem refBit (c : UInt8) (j : Nat) : bits .and .u64 (IntKind.u64.wrap ((c.toNat : Int) / 2 ^ j)) 1 = if c.toNat.testBit j then 1 else 0 := by
  have hc := c.toNat_lt
  have e : ((c.toNat : Int) / 2 ^ j) = ((c.toNat / 2 ^ j : Nat) : Int) := by simp
  have hlt : c.toNat / 2 ^ j < 256 := Nat.lt_of_le_of_lt (Nat.div_le_self _ _) hc
  rw [e]
  generalize hq : c.toNat / 2 ^ j = q at hlt
  rw [IntKind.wrap_u64, Int.emod_eq_of_lt (by omega) (by omega), show (1 : Int) = ((1 : Nat) : Int) from rfl, u64_and_nat _ _ (by omega) (by omega), nat_mask1, Nat.testBit_eq_decide_div_mod_eq, hq]
  have : q % 2 < 2 := Nat.mod_lt _ (by decide)
  by_cases h : q % 2 = 1
  · simp [h]
  · have h0 : q % 2 = 0 := by omega
    simp [h0]

theorem top_toNat (X : BitVec 32) : (X ^^^ top true).toNat * 2 = (X.toNat * 2) ^^^ 4294967296 := by
  rw [BitVec.toNat_xor, show (top true).toNat = 2 ^ 31 from rfl, show (4294967296 : Nat) = 2 ^ 31 * 2 from rfl]
  apply Nat.eq_of_testBit_eq
  intro i
  rw [Nat.testBit_xor, show ((2 : Nat) ^ 31 * 2) = 2 ^ 32 from rfl, Nat.mul_comm, Nat.mul_comm X.toNat]
  cases i with
  | zero => rw [Nat.testBit_zero, Nat.testBit_zero]; simp
  | succ i =>
    rw [Nat.testBit_succ, Nat.testBit_succ, Nat.mul_div_cancel_left _ (by decide), Nat.mul_div_cancel_left _ (by decide), Nat.testBit_xor, Nat.testBit_two_pow, Nat.testBit_two_pow]
    congr 1
    by_cases h : 31 = i
    · subst h; rfl
    · have h2 : ¬ i = 31 := by omega
      simp [h, h2]

theorem refIn0 (X : BitVec 32) : bits .xor .u64 (U X * (2 : Int)) (IntKind.u64.wrap ((0 : Int) * (4294967296 : Int))) = U (X ^^^ top false) * (2 : Int) := by
  have hx := X.isLt
  rw [show IntKind.u64.wrap ((0 : Int) * (4294967296 : Int)) = ((0 : Nat) : Int) from rfl]
  unfold U
  rw [show ((X.toNat : Int) * 2) = ((X.toNat * 2 : Nat) : Int) by omega, u64_xor_nat _ _ (by omega) (by omega)]
  simp [top]
theorem refIn1 (X : BitVec 32) : bits .xor .u64 (U X * (2 : Int)) (IntKind.u64.wrap ((1 : Int) * (4294967296 : Int))) = U (X ^^^ top true) * (2 : Int) := by
  have hx := X.isLt
  rw [show IntKind.u64.wrap ((1 : Int) * (4294967296 : Int)) = ((4294967296 : Nat) : Int) from rfl]
  unfold U
  rw [show ((X.toNat : Int) * 2) = ((X.toNat * 2 : Nat) : Int) by omega, u64_xor_nat _ _ (by omega) (by omega), ← top_toNat]
  omega

theorem refIn (X : BitVec 32) (c : UInt8) (j : Nat) :
    bits .xor .u64 (U X * (2 : Int)) (IntKind.u64.wrap (bits .and .u64 (IntKind.u64.wrap ((c.toNat : Int) / 2 ^ j)) 1 * (4294967296 : Int))) = U (X ^^^ top (c.toNat.testBit j)) * (2 : Int) := by
  rw [refBit]
  cases c.toNat.testBit j
  · exact refIn0 X
  · exact refIn1 X

theorem refOver (Y : BitVec 32) (h : 4294967296 ≤ U Y * (2 : Int)) : bits .xor .u64 (bits .xor .u64 (U Y * (2 : Int)) 4294967296) 517762881 = U (L Y) := by
  have hy := Y.isLt
  have h1 : 2147483648 ≤ Y.toNat := by unfold U at h; omega
  have e : U Y * (2 : Int) = ((2 * Y.toNat : Nat) : Int) := by unfold U; omega
  have hlt : (2 * Y.toNat) ^^^ 4294967296 < 2 ^ 33 := Nat.xor_lt_two_pow (by omega) (by decide)
  rw [e, show (4294967296 : Int) = ((4294967296 : Nat) : Int) from rfl, u64_xor_nat _ _ (by omega) (by omega), show (517762881 : Int) = ((517762881 : Nat) : Int) from rfl,
    u64_xor_nat _ _ (by omega) (by omega), Nat.xor_assoc]
  unfold U
  rw [L_toNat]
  unfold Ln
  rw [show Nat.ble 2147483648 Y.toNat = true from Nat.ble_eq_true_of_le h1]
  rfl
theorem refUnder (Y : BitVec 32) (h : U Y * (2 : Int) < 4294967296) : U Y * (2 : Int) = U (L Y) := by
  have h1 : Y.toNat < 2147483648 := by unfold U at h; omega
  unfold U
  rw [L_toNat]
  unfold Ln
  have hb : Nat.ble 2147483648 Y.toNat = false := by
    cases hb : Nat.ble 2147483648 Y.toNat with
    | true => have := Nat.le_of_ble_eq_true hb; omega
    | false => rfl
  rw [hb]
  show _ = ((2 * Y.toNat : Nat) : Int)
  omega

/-- the sum, as the document lays it together -/
def outK (X : BitVec 32) : Nat → BitVec 32
  | 0 => 0#32
  | k + 1 => if X.getLsbD k then outK X k else outK X k ||| (1#32 <<< (31 - k))

theorem outK_get (X : BitVec 32) (k : Nat) (hk : k ≤ 32) (i : Nat) (hi : i < 32) : (outK X k).getLsbD i = (decide (31 - i < k) && !X.getLsbD (31 - i)) := by
  induction k with
  | zero => simp [outK]
  | succ k ih =>
    rw [outK]
    by_cases hik : 31 - i = k
    · cases hx : X.getLsbD k with
      | true => simp [hik, hx, ih (by omega)]
      | false =>
        have e : 31 - k = i := by omega
        simp [hik, hx, e, hi]
    · have hlt : decide (31 - i < k + 1) = decide (31 - i < k) := by
        by_cases h : 31 - i < k
        · simp [h]; omega
        · simp [h]; omega
      rw [hlt]
      cases hx : X.getLsbD k with
      | true => simp [ih (by omega)]
      | false =>
        have h1 : ¬ i - (31 - k) = 0 ∨ i < 31 - k := by omega
        simp only [Bool.false_eq_true, if_false, BitVec.getLsbD_or, ih (by omega), BitVec.getLsbD_shiftLeft, BitVec.getLsbD_one]
        rcases h1 with h1 | h1
        · simp [h1]
        · simp [h1]

theorem outK_32 (X : BitVec 32) : outK X 32 = ~~~ X.reverse := by
  apply BitVec.eq_of_getLsbD_eq
  intro i hi
  rw [outK_get X 32 (by omega) i hi]
  have : 31 - i < 32 := by omega
  rw [BitVec.getLsbD_not, BitVec.getLsbD_reverse, BitVec.getMsbD_eq_getLsbD]
  simp [hi, this]

theorem outBit (X : BitVec 32) (k : Nat) : bits .and .u64 (U X / 2 ^ k) 1 = if X.getLsbD k then 1 else 0 := by
  have hx := X.isLt
  have e : (U X / 2 ^ k) = ((X.toNat / 2 ^ k : Nat) : Int) := by unfold U; simp
  have hlt : X.toNat / 2 ^ k < 4294967296 := Nat.lt_of_le_of_lt (Nat.div_le_self _ _) hx
  rw [e, show (1 : Int) = ((1 : Nat) : Int) from rfl, u64_and_nat _ _ (by omega) (by omega), nat_mask1]
  have h2 : X.getLsbD k = decide (X.toNat / 2 ^ k % 2 = 1) := by rw [BitVec.getLsbD, Nat.testBit_eq_decide_div_mod_eq]
  rw [h2]
  have : X.toNat / 2 ^ k % 2 < 2 := Nat.mod_lt _ (by decide)
  by_cases h : X.toNat / 2 ^ k % 2 = 1
  · simp [h]
  · have h0 : X.toNat / 2 ^ k % 2 = 0 := by omega
    simp [h0]

theorem outSet (X : BitVec 32) (n : Nat) : bits .or .u32 (U X) ((2 : Int) ^ n % (4294967296 : Int)) = U (X ||| (1#32 <<< n)) := by
  have h := U_shl 1#32 n
  rw [show U 1#32 = 1 from rfl, Int.one_mul] at h
  rw [h, bits_or]

theorem le4_at (X : BitVec 32) (k : Nat) (hk : k < 4) : IntKind.u8.wrap (U X / (2 : Int) ^ (8 * k)) = (((le4 X)[k]'hk).toNat : Int) := by
  have hx := X.isLt
  rw [IntKind.wrap_u8]
  unfold U
  have hc : k = 0 ∨ k = 1 ∨ k = 2 ∨ k = 3 := by omega
  rcases hc with rfl | rfl | rfl | rfl <;> simp [le4]

/-- one of a number's four bytes -/
def b4 (X : BitVec 32) (k : Nat) : UInt8 := (le4 X).getD k 0
theorem b4_get (X : BitVec 32) (k : Nat) (hk : k < 4) : b4 X k = (le4 X)[k]'hk := by
  unfold b4
  rw [List.getD_eq_getElem?_getD, List.getElem?_eq_getElem (show k < (le4 X).length from hk)]
  rfl
theorem take_b4 (X : BitVec 32) (k : Nat) (hk : k < 4) : (le4 X).take (k + 1) = (le4 X).take k ++ [b4 X k] := by
  rw [b4_get X k hk]; exact List.take_succ_eq_append_getElem hk
theorem le4_0 (X : BitVec 32) : IntKind.u8.wrap (U X) = ((b4 X 0).toNat : Int) := by
  have := le4_at X 0 (by decide)
  rwa [Nat.mul_zero, Int.pow_zero, Int.ediv_one] at this
theorem le4_1 (X : BitVec 32) : IntKind.u8.wrap (U X / (256 : Int)) = ((b4 X 1).toNat : Int) := le4_at X 1 (by decide)
theorem le4_2 (X : BitVec 32) : IntKind.u8.wrap (U X / (65536 : Int)) = ((b4 X 2).toNat : Int) := le4_at X 2 (by decide)
theorem le4_3 (X : BitVec 32) : IntKind.u8.wrap (U X / (16777216 : Int)) = ((b4 X 3).toNat : Int) := le4_at X 3 (by decide)

theorem b4_bit (y : BitVec 32) (k : Nat) (hk : k < 4) (j : Nat) : (b4 y k).toNat.testBit j = (decide (j < 8) && y.getLsbD (8 * k + j)) := by
  have h : (b4 y k).toNat = y.toNat / 2 ^ (8 * k) % 2 ^ 8 := by
    have hc : k = 0 ∨ k = 1 ∨ k = 2 ∨ k = 3 := by omega
    rcases hc with rfl | rfl | rfl | rfl <;> simp [b4, le4]
  rw [h, Nat.testBit_mod_two_pow, Nat.testBit_div_two_pow, BitVec.getLsbD, Nat.add_comm]

/-- a number's bytes, laid together again -/
def acc (y : BitVec 32) : Nat → BitVec 32
  | 0 => 0#32
  | k + 1 => acc y k ||| (BitVec.ofNat 32 (b4 y k).toNat <<< (8 * k))

theorem acc_get (y : BitVec 32) (k : Nat) (hk : k ≤ 4) (i : Nat) (hi : i < 32) : (acc y k).getLsbD i = (decide (i < 8 * k) && y.getLsbD i) := by
  induction k with
  | zero => simp [acc]
  | succ k ih =>
    rw [acc, BitVec.getLsbD_or, ih (by omega), BitVec.getLsbD_shiftLeft, BitVec.getLsbD_ofNat, b4_bit y k (by omega)]
    rcases Nat.lt_or_ge i (8 * k) with h1 | h1
    · have h2 : i < 8 * (k + 1) := by omega
      simp [h1, h2]
    · rcases Nat.lt_or_ge i (8 * (k + 1)) with h2 | h2
      · have h3 : ¬ i < 8 * k := by omega
        have h4 : i - 8 * k < 8 := by omega
        have h5 : i - 8 * k < 32 := by omega
        have h6 : 8 * k + (i - 8 * k) = i := by omega
        simp [h2, h3, h4, h5, h6, hi]
      · have h3 : ¬ i < 8 * k := by omega
        have h4 : ¬ i - 8 * k < 8 := by omega
        have h5 : ¬ i < 8 * (k + 1) := by omega
        simp [h3, h4, h5]

theorem acc_4 (y : BitVec 32) : acc y 4 = y := by
  apply BitVec.eq_of_getLsbD_eq
  intro i hi
  rw [acc_get y 4 (by omega) i hi]
  simp [hi]

theorem acc_step (y : BitVec 32) (k : Nat) (hk : k < 4) : bits .or .u32 (U (acc y k)) (((b4 y k).toNat : Int) * (2 : Int) ^ (8 * k)) = U (acc y (k + 1)) := by
  have hb := (b4 y k).toNat_lt
  have e : ((b4 y k).toNat : Int) = U (BitVec.ofNat 32 (b4 y k).toNat) := by
    unfold U
    rw [BitVec.toNat_ofNat]
    omega
  have hlt : ((b4 y k).toNat : Int) * (2 : Int) ^ (8 * k) < 4294967296 := by
    have hc : k = 0 ∨ k = 1 ∨ k = 2 ∨ k = 3 := by omega
    rcases hc with rfl | rfl | rfl | rfl <;> simp <;> omega
  have h0 : 0 ≤ ((b4 y k).toNat : Int) * (2 : Int) ^ (8 * k) := Int.mul_nonneg (by omega) (Int.le_of_lt (Int.pow_pos (by decide)))
  have h1 : ((b4 y k).toNat : Int) * (2 : Int) ^ (8 * k) = U (BitVec.ofNat 32 (b4 y k).toNat <<< (8 * k)) := by
    rw [← U_shl, ← e, Int.emod_eq_of_lt h0 hlt]
  rw [h1, bits_or]
  rfl
theorem acc_0 (y : BitVec 32) : bits .or .u32 (U (acc y 0)) ((b4 y 0).toNat : Int) = U (acc y 1) := by
  have := acc_step y 0 (by decide)
  rwa [Nat.mul_zero, Int.pow_zero, Int.mul_one] at this
theorem acc_1 (y : BitVec 32) : bits .or .u32 (U (acc y 1)) (((b4 y 1).toNat : Int) * (256 : Int)) = U (acc y 2) := acc_step y 1 (by decide)
theorem acc_2 (y : BitVec 32) : bits .or .u32 (U (acc y 2)) (((b4 y 2).toNat : Int) * (65536 : Int)) = U (acc y 3) := acc_step y 2 (by decide)
theorem acc_3 (y : BitVec 32) : bits .or .u32 (U (acc y 3)) (((b4 y 3).toNat : Int) * (16777216 : Int)) = U (acc y 4) := acc_step y 3 (by decide)

theorem U_ones : U ones = 4294967295 := rfl
theorem U_zero : U 0#32 = 0 := rfl

attribute [irreducible] U
end Go.Proofs.Ytbbikkncobgabaa.Crc
