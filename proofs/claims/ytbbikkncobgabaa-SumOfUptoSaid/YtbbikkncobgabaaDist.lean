/-
  Two unlike texts of one length, shut by their sums, are unlike in four bits at least, and not within 32 bits. By an AI agent.
-/
import Derived.Test.YtbbikkncobgabaaCyc
namespace Go.Proofs.Ytbbikkncobgabaa.Crc

theorem split_first (l : List Bool) (h : 0 < weight l) : ∃ a r, l = List.replicate a false ++ true :: r := by
  induction l with
  | nil => simp [weight] at h
  | cons b l ih =>
    cases b with
    | true => exact ⟨0, l, rfl⟩
    | false =>
      obtain ⟨a, r, rfl⟩ := ih (by simpa [weight] using h)
      exact ⟨a + 1, r, rfl⟩

theorem none_set (l : List Bool) (h : weight l = 0) : l = List.replicate l.length false := by
  induction l with
  | nil => rfl
  | cons b l ih =>
    cases b with
    | true => simp [weight] at h
    | false =>
      rw [List.length_cons, List.replicate_succ, ← ih (by simpa [weight] using h)]

theorem weight_append (l m : List Bool) : weight (l ++ m) = weight l + weight m := by simp [weight]
theorem weight_false (n : Nat) : weight (List.replicate n false) = 0 := by simp [weight, List.count_replicate]
theorem weight_true (l : List Bool) : weight (true :: l) = weight l + 1 := by simp [weight]

theorem run_two (a d c : Nat) (hd : d + 1 ≤ 524800)
    (h : run 0#32 (List.replicate a false ++ true :: (List.replicate d false ++ true :: List.replicate c false)) = 0#32) : False := by
  rw [run_append, run_false, LL_zero, run_cons, run_append, run_false, run_cons, run_false] at h
  have h1 := LL_inj c _ _ (h.trans (LL_zero c).symm)
  unfold S at h1
  have h2 := L_inj0 _ h1
  rw [BitVec.xor_eq_zero_iff, BitVec.zero_xor] at h2
  have h3 : LL (d + 1) (top true) = top true := by rw [LL]; exact h2
  exact no_return (d + 1) (by omega) hd h3

/-- A TURN THAT LEAVES NOTHING TURNS FOUR BITS AT LEAST -/
theorem dist (e : List Bool) (hl : e.length ≤ 524800) (h : run 0#32 e = 0#32) (hne : 0 < weight e) : 4 ≤ weight e := by
  have hp := parity_run e 0#32
  rw [h, par_weight] at hp
  have hz : parity 0#32 = false := by decide
  rw [hz] at hp
  simp at hp
  rcases Nat.lt_or_ge (weight e) 4 with h4 | h4
  · exfalso
    have hw : weight e = 2 := by omega
    obtain ⟨a, r, rfl⟩ := split_first e hne
    rw [weight_append, weight_false, weight_true] at hw
    obtain ⟨d, s, rfl⟩ := split_first r (by omega)
    rw [weight_append, weight_false, weight_true] at hw
    have hs := none_set s (by omega)
    rw [hs] at h
    refine run_two a d s.length ?_ h
    simp at hl
    omega
  · exact h4

/-- .. AND THEY DON'T ALL LIE WITHIN 32 -/
theorem spread (e : List Bool) (h : run 0#32 e = 0#32) (i j : Nat) (hij : j < i + 32) (hout : ∀ k, e[k]? = some true → i ≤ k ∧ k ≤ j) : weight e = 0 := by
  by_cases hi : i ≤ e.length
  · have h1 : e = e.take i ++ ((e.drop i).take 32 ++ e.drop (i + 32)) := by
      rw [← List.drop_drop, List.take_append_drop, List.take_append_drop]
    have hall : ∀ b ∈ e.take i, b = false := by
      intro b hb
      obtain ⟨k, hk, rfl⟩ := List.getElem_of_mem hb
      cases hb' : (e.take i)[k] with
      | false => rfl
      | true =>
        have hk2 : k < i := by simp at hk; omega
        have hk3 : e[k]? = some true := by
          rw [← hb', List.getElem_take, List.getElem?_eq_getElem]
        have := (hout k hk3).1
        omega
    have hall2 : ∀ b ∈ e.drop (i + 32), b = false := by
      intro b hb
      obtain ⟨k, hk, rfl⟩ := List.getElem_of_mem hb
      cases hb' : (e.drop (i + 32))[k] with
      | false => rfl
      | true =>
        have hk3 : e[i + 32 + k]? = some true := by
          rw [← hb', List.getElem_drop, List.getElem?_eq_getElem]
        have := (hout _ hk3).2
        omega
    have e1 : e.take i = List.replicate (e.take i).length false := List.eq_replicate_iff.2 ⟨rfl, hall⟩
    have e2 : e.drop (i + 32) = List.replicate (e.drop (i + 32)).length false := List.eq_replicate_iff.2 ⟨rfl, hall2⟩
    have hb := burst (e.take i).length (e.drop (i + 32)).length ((e.drop i).take 32) (by simp; omega)
      (by rw [← e1, ← e2, List.append_assoc, ← h1]; exact h)
    have e3 : (e.drop i).take 32 = List.replicate ((e.drop i).take 32).length false := List.eq_replicate_iff.2 ⟨rfl, hb⟩
    rw [h1, weight_append, weight_append, e1, e2, e3]
    simp [weight_false]
  · unfold weight
    rw [List.count_eq_zero]
    intro hm
    obtain ⟨k, hk, hk2⟩ := List.getElem_of_mem hm
    have := (hout k (by rw [List.getElem?_eq_getElem hk, hk2])).1
    omega

/-! ### bytes -/
/-- a byte's bits, the lowest first -/
def bits8 (c : UInt8) : List Bool := (List.range 8).map fun i => c.toNat.testBit i

def bitsOf (l : List UInt8) : List Bool := l.flatMap bits8

theorem bits8_length (c : UInt8) : (bits8 c).length = 8 := by simp [bits8]
theorem bitsOf_length (l : List UInt8) : (bitsOf l).length = 8 * l.length := by
  induction l with
  | nil => rfl
  | cons c l ih => rw [bitsOf, List.flatMap_cons, List.length_append, ← bitsOf, ih, bits8_length, List.length_cons]; omega
theorem bitsOf_append (l m : List UInt8) : bitsOf (l ++ m) = bitsOf l ++ bitsOf m := by simp [bitsOf]
theorem bitsOf_cons (c : UInt8) (l : List UInt8) : bitsOf (c :: l) = bits8 c ++ bitsOf l := by simp [bitsOf]

/-- all ones -/
def ones : BitVec 32 := 0xFFFFFFFF#32

/-- the register behind so many bytes -/
def reg (l : List UInt8) : BitVec 32 := run ones (bitsOf l)

/-- THE SUM -/
def sum (l : List UInt8) : BitVec 32 := ~~~ (reg l).reverse

theorem sum_inj (l m : List UInt8) : sum l = sum m ↔ reg l = reg m := by
  unfold sum
  constructor
  · intro h
    have h2 := congrArg (fun z => (~~~ z).reverse) h
    simpa using h2
  · intro h; rw [h]

theorem reg_append (l m : List UInt8) : reg (l ++ m) = run (reg l) (bitsOf m) := by
  rw [reg, bitsOf_append, run_append]; rfl

/-- how a sum goes on -/
theorem goes_on (a b t : List UInt8) : sum (a ++ t) = sum (b ++ t) ↔ sum a = sum b := by
  rw [sum_inj, sum_inj, reg_append, reg_append]
  exact ⟨run_inj _ _ _, fun h => by rw [h]⟩

theorem bits8_inj (c d : UInt8) (h : bits8 c = bits8 d) : c = d := by
  apply UInt8.toNat_inj.1
  apply Nat.eq_of_testBit_eq
  intro i
  by_cases hi : i < 8
  · have := congrArg (fun l => l[i]?) h
    simpa [bits8, hi] using this
  · have hc : c.toNat < 2 ^ i := Nat.lt_of_lt_of_le c.toNat_lt (Nat.pow_le_pow_right (by decide) (by omega))
    have hd : d.toNat < 2 ^ i := Nat.lt_of_lt_of_le d.toNat_lt (Nat.pow_le_pow_right (by decide) (by omega))
    rw [Nat.testBit_lt_two_pow hc, Nat.testBit_lt_two_pow hd]

theorem bitsOf_inj : ∀ (l m : List UInt8), l.length = m.length → bitsOf l = bitsOf m → l = m
  | [], [], _, _ => rfl
  | [], _ :: _, h, _ => by simp at h
  | _ :: _, [], h, _ => by simp at h
  | c :: l, d :: m, h, hb => by
    rw [bitsOf_cons, bitsOf_cons] at hb
    obtain ⟨h1, h2⟩ := List.append_inj hb (by rw [bits8_length, bits8_length])
    rw [bits8_inj c d h1, bitsOf_inj l m (by simpa using h) h2]

theorem zip_false (l m : List Bool) (hl : l.length = m.length) (h : ∀ b ∈ List.zipWith (· ^^ ·) l m, b = false) : l = m := by
  apply List.ext_getElem hl
  intro i h1 h2
  have := h _ (List.getElem_mem (l := List.zipWith (· ^^ ·) l m) (n := i) (by simp; omega))
  simpa using this

/-- behind one text two unlike ones of one length, of four bytes at most, are told apart -/
theorem short_apart (a p q : List UInt8) (hl : p.length = q.length) (h4 : p.length ≤ 4) (h : sum (a ++ p) = sum (a ++ q)) : p = q := by
  rw [sum_inj, reg_append, reg_append] at h
  have hx := run_xor (bitsOf p) (bitsOf q) (reg a) (reg a) (by rw [bitsOf_length, bitsOf_length, hl])
  rw [h, BitVec.xor_self, BitVec.xor_self] at hx
  have := run_short _ (by rw [List.length_zipWith, bitsOf_length, bitsOf_length]; omega) hx
  exact bitsOf_inj p q hl (zip_false _ _ (by rw [bitsOf_length, bitsOf_length, hl]) this)

/-! ### what is put behind a text -/
/-- a number's four bytes, the lowest first -/
def le4 (x : BitVec 32) : List UInt8 := [UInt8.ofNat (x.toNat % 256), UInt8.ofNat (x.toNat / 256 % 256), UInt8.ofNat (x.toNat / 65536 % 256), UInt8.ofNat (x.toNat / 16777216 % 256)]

/-- a text with its sum behind it -/
def shut (l : List UInt8) : List UInt8 := l ++ le4 (sum l)

theorem le4_bits (x : BitVec 32) : bitsOf (le4 x) = (List.range 32).map fun i => x.getLsbD i := by
  have h8 : ∀ n k, (bits8 (UInt8.ofNat (n / 2 ^ k % 256))) = (List.range 8).map fun i => n.testBit (k + i) := by
    intro n k
    unfold bits8
    apply List.map_congr_left
    intro i hi
    have hi8 : i < 8 := by simpa using hi
    have h1 : (UInt8.ofNat (n / 2 ^ k % 256)).toNat = n / 2 ^ k % 2 ^ 8 := by
      rw [UInt8.toNat_ofNat']
      exact Nat.mod_mod _ _
    rw [h1, Nat.testBit_mod_two_pow, Nat.testBit_div_two_pow, Nat.add_comm]
    simp [hi8]
  have e0 : bits8 (UInt8.ofNat (x.toNat % 256)) = (List.range 8).map fun i => x.toNat.testBit (0 + i) := by
    have := h8 x.toNat 0
    rwa [Nat.pow_zero, Nat.div_one] at this
  have e1 : bits8 (UInt8.ofNat (x.toNat / 256 % 256)) = _ := h8 x.toNat 8
  have e2 : bits8 (UInt8.ofNat (x.toNat / 65536 % 256)) = _ := h8 x.toNat 16
  have e3 : bits8 (UInt8.ofNat (x.toNat / 16777216 % 256)) = _ := h8 x.toNat 24
  rw [le4, bitsOf_cons, bitsOf_cons, bitsOf_cons, bitsOf_cons, e0, e1, e2, e3]
  rfl

theorem le4_length (x : BitVec 32) : (le4 x).length = 4 := rfl

theorem le4_inj (x y : BitVec 32) (h : le4 x = le4 y) : x = y := by
  have h2 := congrArg bitsOf h
  rw [le4_bits, le4_bits] at h2
  apply BitVec.eq_of_getLsbD_eq
  intro i hi
  have := congrArg (fun l => l[i]?) h2
  simpa [hi] using this

/-- every four bytes are a number's -/
theorem exists_le4 (l : List UInt8) (h : l.length = 4) : ∃ x, le4 x = l := by
  match l, h with
  | [a, b, c, d], _ =>
    refine ⟨BitVec.ofNat 32 (a.toNat + 256 * b.toNat + 65536 * c.toNat + 16777216 * d.toNat), ?_⟩
    have ha := a.toNat_lt
    have hb := b.toNat_lt
    have hc := c.toNat_lt
    have hd := d.toNat_lt
    have hn : (BitVec.ofNat 32 (a.toNat + 256 * b.toNat + 65536 * c.toNat + 16777216 * d.toNat)).toNat = a.toNat + 256 * b.toNat + 65536 * c.toNat + 16777216 * d.toNat := by
      rw [BitVec.toNat_ofNat]; omega
    unfold le4
    rw [hn]
    have e0 : (a.toNat + 256 * b.toNat + 65536 * c.toNat + 16777216 * d.toNat) % 256 = a.toNat := by omega
    have e1 : (a.toNat + 256 * b.toNat + 65536 * c.toNat + 16777216 * d.toNat) / 256 % 256 = b.toNat := by omega
    have e2 : (a.toNat + 256 * b.toNat + 65536 * c.toNat + 16777216 * d.toNat) / 65536 % 256 = c.toNat := by omega
    have e3 : (a.toNat + 256 * b.toNat + 65536 * c.toNat + 16777216 * d.toNat) / 16777216 % 256 = d.toNat := by omega
    rw [e0, e1, e2, e3]
    simp

/-- what the register holds behind every text that is shut -/
def rest : BitVec 32 := run 0#32 (List.replicate 32 true)

theorem own_le4 (x : BitVec 32) : bitsOf (le4 (~~~ x.reverse)) = List.zipWith (· ^^ ·) (own x) (List.replicate 32 true) := by
  rw [le4_bits]
  apply List.ext_getElem
  · simp [own]
  · intro i h1 h2
    have hi : i < 32 := by simpa using h1
    rw [List.getElem_zipWith, List.getElem_replicate]
    simp [own, hi, BitVec.getElem_reverse, BitVec.getMsbD]

theorem reg_four (x y : BitVec 32) : run x (bitsOf (le4 (~~~ y.reverse))) = run (x ^^^ y) (List.replicate 32 true) := by
  rw [own_le4]
  have h := run_xor (own y) (List.replicate 32 true) y (x ^^^ y) (by simp [own])
  rw [run_own, BitVec.zero_xor, xlc, BitVec.xor_self, BitVec.xor_zero] at h
  exact h

/-- a text with four bytes behind it leaves 'rest' just if these are its sum -/
theorem reg_shut (l : List UInt8) (y : BitVec 32) : reg (l ++ le4 y) = rest ↔ y = sum l := by
  obtain ⟨z, rfl⟩ : ∃ z : BitVec 32, y = ~~~ z.reverse := ⟨(~~~ y).reverse, by simp⟩
  rw [reg_append, reg_four, rest]
  constructor
  · intro h
    have h2 := run_inj _ _ _ h
    rw [BitVec.xor_eq_zero_iff] at h2
    rw [sum, h2]
  · intro h
    have h2 : z = reg l := by
      have := congrArg (fun q => (~~~ q).reverse) h
      simpa [sum] using this
    rw [h2, BitVec.xor_self]

theorem sum_shut (l : List UInt8) : sum (shut l) = sum (shut []) := by
  rw [sum_inj, shut, shut, (reg_shut l _).2 rfl, (reg_shut [] _).2 rfl]

theorem sum_four (l : List UInt8) (y : BitVec 32) : sum (l ++ le4 y) = sum (shut []) ↔ l ++ le4 y = shut l := by
  have h0 : reg (shut []) = rest := (reg_shut [] _).2 rfl
  rw [sum_inj, h0, reg_shut]
  constructor
  · intro h; rw [shut, h]
  · intro h
    exact le4_inj _ _ (List.append_cancel_left h)

/-- bytes, turned -/
def xors (l m : List UInt8) : List UInt8 := List.zipWith (· ^^^ ·) l m

theorem bits8_xor (c d : UInt8) : bits8 (c ^^^ d) = List.zipWith (· ^^ ·) (bits8 c) (bits8 d) := by
  unfold bits8
  rw [List.zipWith_map]
  simp [UInt8.toNat_xor, Nat.testBit_xor]

theorem bitsOf_xors : ∀ (l m : List UInt8), l.length = m.length → bitsOf (xors l m) = List.zipWith (· ^^ ·) (bitsOf l) (bitsOf m)
  | [], [], _ => rfl
  | [], _ :: _, h => by simp at h
  | _ :: _, [], h => by simp at h
  | c :: l, d :: m, h => by
    have ih := bitsOf_xors l m (by simpa using h)
    rw [xors, List.zipWith_cons_cons, ← xors, bitsOf_cons, bitsOf_cons, bitsOf_cons, ih, bits8_xor, List.zipWith_append (by simp [bits8_length])]

/-- THE DIFFERENCE OF TWO SHUT TEXTS OF ONE LENGTH LEAVES NOTHING -/
theorem run_diff (l m : List UInt8) (h : l.length = m.length) : run 0#32 (bitsOf (xors (shut l) (shut m))) = 0#32 := by
  have hl : (shut l).length = (shut m).length := by simp [shut, le4_length, h]
  rw [bitsOf_xors _ _ hl]
  have hx := run_xor (bitsOf (shut l)) (bitsOf (shut m)) ones ones (by rw [bitsOf_length, bitsOf_length, hl])
  rw [BitVec.xor_self] at hx
  rw [hx]
  have e1 : run ones (bitsOf (shut l)) = rest := (reg_shut l _).2 rfl
  have e2 : run ones (bitsOf (shut m)) = rest := (reg_shut m _).2 rfl
  rw [e1, e2, BitVec.xor_self]

theorem weight_pos (l m : List UInt8) (h : l.length = m.length) (hne : l ≠ m) : 0 < weight (bitsOf (xors l m)) := by
  rcases Nat.eq_zero_or_pos (weight (bitsOf (xors l m))) with h0 | h0
  · exfalso
    have h1 := none_set _ h0
    have h2 : ∀ b ∈ bitsOf (xors l m), b = false := fun b hb => by rw [h1] at hb; simpa using (List.mem_replicate.1 hb).2
    rw [bitsOf_xors l m h] at h2
    exact hne (bitsOf_inj l m h (zip_false _ _ (by rw [bitsOf_length, bitsOf_length, h]) h2))
  · exact h0

/-- FOUR BITS AT LEAST -/
theorem far_weight (l m : List UInt8) (h : l.length = m.length) (hl : l.length ≤ 65536) (hne : l ≠ m) : 4 ≤ weight (bitsOf (xors (shut l) (shut m))) := by
  have hs : (shut l).length = (shut m).length := by simp [shut, le4_length, h]
  refine dist _ ?_ (run_diff l m h) (weight_pos _ _ hs ?_)
  · rw [bitsOf_length]; simp [xors, shut, le4_length, h]; omega
  · intro he
    exact hne (List.append_inj he (by omega)).1

/-- NOT WITHIN 32 -/
theorem far_spread (l m : List UInt8) (h : l.length = m.length) (hne : l ≠ m) (i j : Nat)
    (hout : ∀ k, (bitsOf (xors (shut l) (shut m)))[k]? = some true → i ≤ k ∧ k ≤ j) : i + 32 ≤ j := by
  have hs : (shut l).length = (shut m).length := by simp [shut, le4_length, h]
  rcases Nat.lt_or_ge j (i + 32) with h1 | h1
  · have h0 := spread _ (run_diff l m h) i j h1 hout
    have := weight_pos _ _ hs (fun he => hne (List.append_inj he (by omega)).1)
    omega
  · exact h1
end Go.Proofs.Ytbbikkncobgabaa.Crc
