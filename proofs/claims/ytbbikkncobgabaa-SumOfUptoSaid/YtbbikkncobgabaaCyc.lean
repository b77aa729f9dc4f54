/-
  From the top bit alone 524,800 shifts never come back to it: reckoned by the kernel. By an AI agent.
-/
import Derived.Test.YtbbikkncobgabaaCrc
namespace Go.Proofs.Ytbbikkncobgabaa.Crc
/-- a shift, of a plain number below 2^32 -/
def Ln (x : Nat) : Nat := cond (Nat.ble 2147483648 x) (Nat.xor (Nat.mul 2 x) 4812730177) (Nat.mul 2 x)
def force (n : Nat) (f : Nat → Bool) : Bool := Nat.rec (f 0) (fun m _ => f (Nat.succ m)) n
/-- from x on, so many shifts never come to the top bit alone, and end at y -/
def chk (k : Nat) : Nat → Nat → Bool :=
  Nat.rec (fun x y => Nat.beq x y) (fun _ ih x y => force (Ln x) (fun z => cond (Nat.beq z 2147483648) false (ih z y))) k
def LnN : Nat → Nat → Nat
  | 0, x => x
  | n + 1, x => LnN n (Ln x)

theorem force_eq (n : Nat) (f : Nat → Bool) : force n f = f n := by cases n <;> rfl

theorem LnN_add (m n : Nat) (x : Nat) : LnN (m + n) x = LnN n (LnN m x) := by
  induction m generalizing x with
  | zero => simp [LnN]
  | succ m ih => rw [show m + 1 + n = (m + n) + 1 by omega, LnN, ih, LnN]

theorem chk_spec (k : Nat) : ∀ x y, chk k x y = true → LnN k x = y ∧ ∀ d, 0 < d → d ≤ k → LnN d x ≠ 2147483648 := by
  induction k with
  | zero =>
    intro x y h
    have : x = y := Nat.eq_of_beq_eq_true h
    exact ⟨this, fun d h0 h1 => by omega⟩
  | succ k ih =>
    intro x y h
    have h' : force (Ln x) (fun z => cond (Nat.beq z 2147483648) false (chk k z y)) = true := h
    rw [force_eq] at h'
    cases hb : Nat.beq (Ln x) 2147483648 with
    | true => rw [hb] at h'; cases h'
    | false =>
      rw [hb] at h'
      obtain ⟨h1, h2⟩ := ih (Ln x) y h'
      refine ⟨h1, fun d h0 hd => ?_⟩
      obtain ⟨d, rfl⟩ : ∃ e, d = e + 1 := ⟨d - 1, by omega⟩
      rw [LnN]
      by_cases hd0 : d = 0
      · subst hd0
        exact Nat.ne_of_beq_eq_false hb
      · exact h2 d (by omega) (by omega)

/-- n shifts of the top bit alone never come back to it, and end at c -/
def Far (n c : Nat) : Prop := LnN n 2147483648 = c ∧ ∀ d, 0 < d → d ≤ n → LnN d 2147483648 ≠ 2147483648

theorem far0 : Far 0 2147483648 := ⟨rfl, fun d h0 h1 => by omega⟩

theorem Far.ext {n c k c' : Nat} (h : Far n c) (hk : chk k c c' = true) : Far (n + k) c' := by
  obtain ⟨h1, h2⟩ := h
  obtain ⟨h3, h4⟩ := chk_spec k c c' hk
  refine ⟨by rw [LnN_add, h1, h3], fun d h0 hd => ?_⟩
  by_cases hn : d ≤ n
  · exact h2 d h0 hn
  · rw [show d = n + (d - n) by omega, LnN_add, h1]
    exact h4 (d - n) (by omega) (by omega)

theorem Far.ext' {n c k c' m : Nat} (h : Far n c) (hk : chk k c c' = true) (e : n + k = m) : Far m c' := e ▸ h.ext hk

theorem k0 : chk 8200 2147483648 2060271835 = true := by decide +kernel
theorem k1 : chk 8200 2060271835 3676617781 = true := by decide +kernel
theorem k2 : chk 8200 3676617781 2347997224 = true := by decide +kernel
theorem k3 : chk 8200 2347997224 3883181570 = true := by decide +kernel
theorem k4 : chk 8200 3883181570 2434972134 = true := by decide +kernel
theorem k5 : chk 8200 2434972134 1579896271 = true := by decide +kernel
theorem k6 : chk 8200 1579896271 4255245133 = true := by decide +kernel
theorem k7 : chk 8200 4255245133 3967115045 = true := by decide +kernel
theorem k8 : chk 8200 3967115045 75995773 = true := by decide +kernel
theorem k9 : chk 8200 75995773 2450469181 = true := by decide +kernel
theorem k10 : chk 8200 2450469181 3602190411 = true := by decide +kernel
theorem k11 : chk 8200 3602190411 1947395374 = true := by decide +kernel
theorem k12 : chk 8200 1947395374 3370668783 = true := by decide +kernel
theorem k13 : chk 8200 3370668783 2787603650 = true := by decide +kernel
theorem k14 : chk 8200 2787603650 4164911662 = true := by decide +kernel
theorem k15 : chk 8200 4164911662 845009045 = true := by decide +kernel
theorem k16 : chk 8200 845009045 2819640347 = true := by decide +kernel
theorem k17 : chk 8200 2819640347 1839891564 = true := by decide +kernel
theorem k18 : chk 8200 1839891564 287473375 = true := by decide +kernel
theorem k19 : chk 8200 287473375 1663454015 = true := by decide +kernel
theorem k20 : chk 8200 1663454015 3804302062 = true := by decide +kernel
theorem k21 : chk 8200 3804302062 820575563 = true := by decide +kernel
theorem k22 : chk 8200 820575563 1527324448 = true := by decide +kernel
theorem k23 : chk 8200 1527324448 1517018879 = true := by decide +kernel
theorem k24 : chk 8200 1517018879 3728686921 = true := by decide +kernel
theorem k25 : chk 8200 3728686921 3495778562 = true := by decide +kernel
theorem k26 : chk 8200 3495778562 3130986342 = true := by decide +kernel
theorem k27 : chk 8200 3130986342 203401611 = true := by decide +kernel
theorem k28 : chk 8200 203401611 3648766501 = true := by decide +kernel
theorem k29 : chk 8200 3648766501 382727537 = true := by decide +kernel
theorem k30 : chk 8200 382727537 3022729583 = true := by decide +kernel
theorem k31 : chk 8200 3022729583 2034963845 = true := by decide +kernel
theorem k32 : chk 8200 2034963845 855445330 = true := by decide +kernel
theorem k33 : chk 8200 855445330 660830270 = true := by decide +kernel
theorem k34 : chk 8200 660830270 1488413185 = true := by decide +kernel
theorem k35 : chk 8200 1488413185 4107423019 = true := by decide +kernel
theorem k36 : chk 8200 4107423019 3054289219 = true := by decide +kernel
theorem k37 : chk 8200 3054289219 2858255375 = true := by decide +kernel
theorem k38 : chk 8200 2858255375 3668460662 = true := by decide +kernel
theorem k39 : chk 8200 3668460662 3815788190 = true := by decide +kernel
theorem k40 : chk 8200 3815788190 1132284490 = true := by decide +kernel
theorem k41 : chk 8200 1132284490 649172927 = true := by decide +kernel
theorem k42 : chk 8200 649172927 2554686795 = true := by decide +kernel
theorem k43 : chk 8200 2554686795 2277299505 = true := by decide +kernel
theorem k44 : chk 8200 2277299505 4089048869 = true := by decide +kernel
theorem k45 : chk 8200 4089048869 82648228 = true := by decide +kernel
theorem k46 : chk 8200 82648228 2457793939 = true := by decide +kernel
theorem k47 : chk 8200 2457793939 3983047374 = true := by decide +kernel
theorem k48 : chk 8200 3983047374 2394363546 = true := by decide +kernel
theorem k49 : chk 8200 2394363546 2746349027 = true := by decide +kernel
theorem k50 : chk 8200 2746349027 380823668 = true := by decide +kernel
theorem k51 : chk 8200 380823668 2220628010 = true := by decide +kernel
theorem k52 : chk 8200 2220628010 1537990734 = true := by decide +kernel
theorem k53 : chk 8200 1537990734 837747553 = true := by decide +kernel
theorem k54 : chk 8200 837747553 3833600226 = true := by decide +kernel
theorem k55 : chk 8200 3833600226 3521236827 = true := by decide +kernel
theorem k56 : chk 8200 3521236827 3930393997 = true := by decide +kernel
theorem k57 : chk 8200 3930393997 2172467977 = true := by decide +kernel
theorem k58 : chk 8200 2172467977 2542928561 = true := by decide +kernel
theorem k59 : chk 8200 2542928561 4236945901 = true := by decide +kernel
theorem k60 : chk 8200 4236945901 2020034725 = true := by decide +kernel
theorem k61 : chk 8200 2020034725 1735717717 = true := by decide +kernel
theorem k62 : chk 8200 1735717717 3312317573 = true := by decide +kernel
theorem k63 : chk 8200 3312317573 2647651078 = true := by decide +kernel
theorem far1 : Far 8200 2060271835 := far0.ext' k0 (by decide)
theorem far2 : Far 16400 3676617781 := far1.ext' k1 (by decide)
theorem far3 : Far 24600 2347997224 := far2.ext' k2 (by decide)
theorem far4 : Far 32800 3883181570 := far3.ext' k3 (by decide)
theorem far5 : Far 41000 2434972134 := far4.ext' k4 (by decide)
theorem far6 : Far 49200 1579896271 := far5.ext' k5 (by decide)
theorem far7 : Far 57400 4255245133 := far6.ext' k6 (by decide)
theorem far8 : Far 65600 3967115045 := far7.ext' k7 (by decide)
theorem far9 : Far 73800 75995773 := far8.ext' k8 (by decide)
theorem far10 : Far 82000 2450469181 := far9.ext' k9 (by decide)
theorem far11 : Far 90200 3602190411 := far10.ext' k10 (by decide)
theorem far12 : Far 98400 1947395374 := far11.ext' k11 (by decide)
theorem far13 : Far 106600 3370668783 := far12.ext' k12 (by decide)
theorem far14 : Far 114800 2787603650 := far13.ext' k13 (by decide)
theorem far15 : Far 123000 4164911662 := far14.ext' k14 (by decide)
theorem far16 : Far 131200 845009045 := far15.ext' k15 (by decide)
theorem far17 : Far 139400 2819640347 := far16.ext' k16 (by decide)
theorem far18 : Far 147600 1839891564 := far17.ext' k17 (by decide)
theorem far19 : Far 155800 287473375 := far18.ext' k18 (by decide)
theorem far20 : Far 164000 1663454015 := far19.ext' k19 (by decide)
theorem far21 : Far 172200 3804302062 := far20.ext' k20 (by decide)
theorem far22 : Far 180400 820575563 := far21.ext' k21 (by decide)
theorem far23 : Far 188600 1527324448 := far22.ext' k22 (by decide)
theorem far24 : Far 196800 1517018879 := far23.ext' k23 (by decide)
theorem far25 : Far 205000 3728686921 := far24.ext' k24 (by decide)
theorem far26 : Far 213200 3495778562 := far25.ext' k25 (by decide)
theorem far27 : Far 221400 3130986342 := far26.ext' k26 (by decide)
theorem far28 : Far 229600 203401611 := far27.ext' k27 (by decide)
theorem far29 : Far 237800 3648766501 := far28.ext' k28 (by decide)
theorem far30 : Far 246000 382727537 := far29.ext' k29 (by decide)
theorem far31 : Far 254200 3022729583 := far30.ext' k30 (by decide)
theorem far32 : Far 262400 2034963845 := far31.ext' k31 (by decide)
theorem far33 : Far 270600 855445330 := far32.ext' k32 (by decide)
theorem far34 : Far 278800 660830270 := far33.ext' k33 (by decide)
theorem far35 : Far 287000 1488413185 := far34.ext' k34 (by decide)
theorem far36 : Far 295200 4107423019 := far35.ext' k35 (by decide)
theorem far37 : Far 303400 3054289219 := far36.ext' k36 (by decide)
theorem far38 : Far 311600 2858255375 := far37.ext' k37 (by decide)
theorem far39 : Far 319800 3668460662 := far38.ext' k38 (by decide)
theorem far40 : Far 328000 3815788190 := far39.ext' k39 (by decide)
theorem far41 : Far 336200 1132284490 := far40.ext' k40 (by decide)
theorem far42 : Far 344400 649172927 := far41.ext' k41 (by decide)
theorem far43 : Far 352600 2554686795 := far42.ext' k42 (by decide)
theorem far44 : Far 360800 2277299505 := far43.ext' k43 (by decide)
theorem far45 : Far 369000 4089048869 := far44.ext' k44 (by decide)
theorem far46 : Far 377200 82648228 := far45.ext' k45 (by decide)
theorem far47 : Far 385400 2457793939 := far46.ext' k46 (by decide)
theorem far48 : Far 393600 3983047374 := far47.ext' k47 (by decide)
theorem far49 : Far 401800 2394363546 := far48.ext' k48 (by decide)
theorem far50 : Far 410000 2746349027 := far49.ext' k49 (by decide)
theorem far51 : Far 418200 380823668 := far50.ext' k50 (by decide)
theorem far52 : Far 426400 2220628010 := far51.ext' k51 (by decide)
theorem far53 : Far 434600 1537990734 := far52.ext' k52 (by decide)
theorem far54 : Far 442800 837747553 := far53.ext' k53 (by decide)
theorem far55 : Far 451000 3833600226 := far54.ext' k54 (by decide)
theorem far56 : Far 459200 3521236827 := far55.ext' k55 (by decide)
theorem far57 : Far 467400 3930393997 := far56.ext' k56 (by decide)
theorem far58 : Far 475600 2172467977 := far57.ext' k57 (by decide)
theorem far59 : Far 483800 2542928561 := far58.ext' k58 (by decide)
theorem far60 : Far 492000 4236945901 := far59.ext' k59 (by decide)
theorem far61 : Far 500200 2020034725 := far60.ext' k60 (by decide)
theorem far62 : Far 508400 1735717717 := far61.ext' k61 (by decide)
theorem far63 : Far 516600 3312317573 := far62.ext' k62 (by decide)
theorem far64 : Far 524800 2647651078 := far63.ext' k63 (by decide)
theorem far : Far 524800 2647651078 := far64

theorem Ln_lt (x : Nat) (h : x < 4294967296) : Ln x < 4294967296 := by
  unfold Ln
  cases hb : Nat.ble 2147483648 x with
  | true =>
    have h1 : 2147483648 ≤ x := Nat.le_of_ble_eq_true hb
    show Nat.xor (2 * x) 4812730177 < _
    obtain ⟨y, hy⟩ : ∃ y, 2 * x = 2 ^ 32 + y := ⟨2 * x - 2 ^ 32, by omega⟩
    have hy2 : y < 2 ^ 32 := by omega
    apply Nat.lt_pow_two_of_testBit (n := 32) (Nat.xor (2 * x) 4812730177)
    intro i hi
    show ((2 * x) ^^^ 4812730177).testBit i = false
    rw [Nat.testBit_xor]
    by_cases h32 : i = 32
    · subst h32
      rw [hy, Nat.testBit_two_pow_add_eq, Nat.testBit_lt_two_pow hy2]
      decide
    · have hb1 : 2 * x < 2 ^ i := Nat.lt_of_lt_of_le (by omega : 2 * x < 2 ^ 33) (Nat.pow_le_pow_right (by decide) (by omega))
      have hb2 : 4812730177 < 2 ^ i := Nat.lt_of_lt_of_le (by decide : 4812730177 < 2 ^ 33) (Nat.pow_le_pow_right (by decide) (by omega))
      rw [Nat.testBit_lt_two_pow hb1, Nat.testBit_lt_two_pow hb2]
      rfl
  | false =>
    have h1 : x < 2147483648 := by
      rcases Nat.lt_or_ge x 2147483648 with h | h
      · exact h
      · rw [Nat.ble_eq_true_of_le h] at hb; cases hb
    show 2 * x < _
    omega

theorem L_toNat (x : BitVec 32) : (L x).toNat = Ln x.toNat := by
  have hx := x.isLt
  unfold L Ln
  cases hb : Nat.ble 2147483648 x.toNat with
  | true =>
    have h1 : 2147483648 ≤ x.toNat := Nat.le_of_ble_eq_true hb
    have hm : x.msb = true := by rw [BitVec.msb_eq_decide]; simp; omega
    rw [hm]
    show ((x <<< 1) ^^^ poly).toNat = (2 * x.toNat) ^^^ 4812730177
    have hlt := Ln_lt x.toNat hx
    have hL : Ln x.toNat = (2 * x.toNat) ^^^ 4812730177 := by unfold Ln; rw [hb]; rfl
    rw [hL] at hlt
    apply Nat.eq_of_testBit_eq
    intro i
    rw [BitVec.toNat_xor, Nat.testBit_xor, Nat.testBit_xor]
    by_cases h32 : i < 32
    · have hp : (poly.toNat).testBit i = (4812730177 : Nat).testBit i := by
        have : ∀ j : Fin 32, (poly.toNat).testBit j.val = (4812730177 : Nat).testBit j.val := by decide
        exact this ⟨i, h32⟩
      rw [hp, BitVec.toNat_shiftLeft, Nat.testBit_mod_two_pow, Nat.shiftLeft_eq]
      simp [h32, Nat.mul_comm]
    · have h1 : ((x <<< 1).toNat).testBit i = false := Nat.testBit_lt_two_pow (Nat.lt_of_lt_of_le (BitVec.isLt _) (Nat.pow_le_pow_right (by decide) (by omega)))
      have h2 : (poly.toNat).testBit i = false := Nat.testBit_lt_two_pow (Nat.lt_of_lt_of_le (BitVec.isLt _) (Nat.pow_le_pow_right (by decide) (by omega)))
      have h3 : ((2 * x.toNat) ^^^ 4812730177).testBit i = false := Nat.testBit_lt_two_pow (Nat.lt_of_lt_of_le hlt (Nat.pow_le_pow_right (n := 2) (by decide) (by omega : 32 ≤ i)))
      rw [Nat.testBit_xor] at h3
      rw [h1, h2, h3]; rfl
  | false =>
    have h1 : x.toNat < 2147483648 := by
      rcases Nat.lt_or_ge x.toNat 2147483648 with h | h
      · exact h
      · rw [Nat.ble_eq_true_of_le h] at hb; cases hb
    have hm : x.msb = false := by rw [BitVec.msb_eq_decide]; simp; omega
    rw [hm]
    simp [BitVec.toNat_shiftLeft, Nat.shiftLeft_eq]
    show _ = 2 * x.toNat
    omega

theorem LL_toNat (n : Nat) (x : BitVec 32) : (LL n x).toNat = LnN n x.toNat := by
  induction n generalizing x with
  | zero => rfl
  | succ n ih => rw [LL, ih, L_toNat, LnN]

theorem no_return (d : Nat) (h0 : 0 < d) (h1 : d ≤ 524800) : LL d (top true) ≠ top true := by
  intro h
  have h2 := congrArg BitVec.toNat h
  rw [LL_toNat] at h2
  exact far.2 d h0 h1 h2
end Go.Proofs.Ytbbikkncobgabaa.Crc
