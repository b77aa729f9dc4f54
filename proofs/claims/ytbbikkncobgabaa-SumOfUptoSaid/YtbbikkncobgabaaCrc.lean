/-
  The sum's register, bit by bit: plain mathematics, no program in sight. By an AI agent.
-/
namespace Go.Proofs.Ytbbikkncobgabaa.Crc

/-- what is divided by, without its highest power -/
def poly : BitVec 32 := 0x1EDC6F41#32

/-- one shift of the register -/
def L (x : BitVec 32) : BitVec 32 := (x <<< 1) ^^^ (if x.msb then poly else 0#32)

theorem xlc (x y z : BitVec 32) : x ^^^ (y ^^^ z) = y ^^^ (x ^^^ z) := by
  rw [← BitVec.xor_assoc, BitVec.xor_comm x y, BitVec.xor_assoc]

theorem xcan (x y : BitVec 32) : x ^^^ (x ^^^ y) = y := by
  rw [← BitVec.xor_assoc, BitVec.xor_self, BitVec.zero_xor]

theorem L_xor (x y : BitVec 32) : L (x ^^^ y) = L x ^^^ L y := by
  unfold L
  rw [BitVec.msb_xor, BitVec.shiftLeft_xor_distrib]
  cases x.msb <;> cases y.msb <;> simp [BitVec.xor_assoc, BitVec.xor_comm, xlc, xcan]

theorem L_zero : L 0#32 = 0#32 := by decide

/-- the bit that is fed: it stands at the register's top -/
def top (b : Bool) : BitVec 32 := if b then 0x80000000#32 else 0#32

theorem top_xor (a b : Bool) : top (a ^^ b) = top a ^^^ top b := by
  cases a <;> cases b <;> decide

def S (x : BitVec 32) (b : Bool) : BitVec 32 := L (x ^^^ top b)

theorem S_xor (x y : BitVec 32) (a b : Bool) : S (x ^^^ y) (a ^^ b) = S x a ^^^ S y b := by
  unfold S
  rw [← L_xor, top_xor]
  congr 1
  simp [BitVec.xor_assoc, xlc]

theorem S_false (x : BitVec 32) : S x false = L x := by simp [S, top]

def run (x : BitVec 32) (l : List Bool) : BitVec 32 := l.foldl S x

@[simp] theorem run_nil (x : BitVec 32) : run x [] = x := rfl
@[simp] theorem run_cons (x : BitVec 32) (b : Bool) (l : List Bool) : run x (b :: l) = run (S x b) l := rfl
theorem run_append (x : BitVec 32) (l m : List Bool) : run x (l ++ m) = run (run x l) m := by simp [run]

theorem run_xor : ∀ (l m : List Bool) (x y : BitVec 32), l.length = m.length →
    run (x ^^^ y) (List.zipWith (· ^^ ·) l m) = run x l ^^^ run y m
  | [], [], _, _, _ => rfl
  | [], _ :: _, _, _, h => by simp at h
  | _ :: _, [], _, _, h => by simp at h
  | a :: l, b :: m, x, y, h => by
    simp only [List.zipWith_cons_cons, run_cons, S_xor]
    exact run_xor l m _ _ (by simpa using h)

/-- so many shifts -/
def LL : Nat → BitVec 32 → BitVec 32
  | 0, x => x
  | n + 1, x => LL n (L x)

theorem LL_zero (n : Nat) : LL n 0#32 = 0#32 := by
  induction n with
  | zero => rfl
  | succ n ih => rw [LL, L_zero, ih]

theorem LL_add (m n : Nat) (x : BitVec 32) : LL (m + n) x = LL n (LL m x) := by
  induction m generalizing x with
  | zero => simp [LL]
  | succ m ih => rw [show m + 1 + n = (m + n) + 1 by omega, LL, ih, LL]

theorem LL_succ (n : Nat) (x : BitVec 32) : LL (n + 1) x = L (LL n x) := LL_add n 1 x

theorem run_false (n : Nat) (x : BitVec 32) : run x (List.replicate n false) = LL n x := by
  induction n generalizing x with
  | zero => rfl
  | succ n ih => rw [List.replicate_succ, run_cons, S_false, ih, LL]

theorem L_inj0 (x : BitVec 32) (h : L x = 0#32) : x = 0#32 := by
  unfold L at h
  cases hm : x.msb with
  | true =>
    rw [hm] at h
    have h0 := congrArg (fun z => z.getLsbD 0) h
    simp [poly] at h0
  | false =>
    rw [hm] at h
    simp at h
    apply BitVec.eq_of_getLsbD_eq
    intro i hi
    by_cases h31 : i = 31
    · subst h31; rw [BitVec.msb_eq_getLsbD_last] at hm; simpa using hm
    · have h0 := congrArg (fun z => z.getLsbD (i + 1)) h
      simp at h0
      have := h0 (by omega)
      simpa using this

theorem L_inj (x y : BitVec 32) (h : L x = L y) : x = y := by
  have : L (x ^^^ y) = 0#32 := by rw [L_xor, h, BitVec.xor_self]
  have := L_inj0 _ this
  exact BitVec.xor_eq_zero_iff.1 this

theorem LL_inj (n : Nat) (x y : BitVec 32) (h : LL n x = LL n y) : x = y := by
  induction n generalizing x y with
  | zero => exact h
  | succ n ih => exact L_inj _ _ (ih _ _ h)

theorem S_inj (x y : BitVec 32) (b : Bool) (h : S x b = S y b) : x = y := by
  have := L_inj _ _ h
  have h2 := congrArg (· ^^^ top b) this
  simpa [BitVec.xor_assoc] using h2

theorem run_inj (l : List Bool) (x y : BitVec 32) (h : run x l = run y l) : x = y := by
  induction l generalizing x y with
  | nil => exact h
  | cons b l ih => exact S_inj _ _ _ (ih _ _ h)

/-- the register's own bits, the highest first -/
def own (x : BitVec 32) : List Bool := (List.range 32).map fun j => x.getMsbD j

theorem S_msb (x : BitVec 32) : S x x.msb = x <<< 1 := by
  unfold S
  cases hm : x.msb with
  | true =>
    have ht : (x ^^^ top true).msb = false := by rw [BitVec.msb_xor, hm]; decide
    unfold L
    rw [ht, BitVec.shiftLeft_xor_distrib, show (top true) <<< 1 = 0#32 by decide]
    simp
  | false =>
    unfold L
    simp [top, hm]

theorem run_own_part (x : BitVec 32) (k : Nat) (h : k ≤ 32) : run x ((List.range k).map fun j => x.getMsbD j) = x <<< k := by
  induction k with
  | zero => simp
  | succ k ih =>
    rw [List.range_succ, List.map_append, run_append, ih (by omega)]
    simp only [List.map_cons, List.map_nil, run_cons, run_nil]
    have : x.getMsbD k = (x <<< k).msb := by
      rw [BitVec.msb_eq_getLsbD_last, BitVec.getMsbD_eq_getLsbD]
      have h1 : k < 32 := by omega
      have h2 : ¬ 31 < k := by omega
      simp [h1, h2]
      rw [BitVec.getLsbD_eq_getElem (by omega)]
    rw [this, S_msb, BitVec.shiftLeft_add]

theorem run_own (x : BitVec 32) : run x (own x) = 0#32 := by
  rw [own, run_own_part x 32 (by omega)]
  simp

theorem own_length (x : BitVec 32) : (own x).length = 32 := by simp [own]

/-! ### parity -/
def par (l : List Bool) : Bool := l.foldr (· ^^ ·) false

/-- the register's parity -/
def parity (x : BitVec 32) : Bool := par (own x)

theorem par_append (l m : List Bool) : par (l ++ m) = (par l ^^ par m) := by
  induction l with
  | nil => simp [par]
  | cons a l ih => simp only [List.cons_append, par, List.foldr_cons] at *; rw [ih]; simp

theorem par_zip : ∀ (l m : List Bool), l.length = m.length → par (List.zipWith (· ^^ ·) l m) = (par l ^^ par m)
  | [], [], _ => rfl
  | [], _ :: _, h => by simp at h
  | _ :: _, [], h => by simp at h
  | a :: l, b :: m, h => by
    have := par_zip l m (by simpa using h)
    simp only [par, List.zipWith_cons_cons, List.foldr_cons] at *
    rw [this]
    cases a <;> cases b <;> simp

theorem own_xor (x y : BitVec 32) : own (x ^^^ y) = List.zipWith (· ^^ ·) (own x) (own y) := by
  apply List.ext_getElem
  · simp [own]
  · intro i h1 h2
    simp [own]

theorem parity_xor (x y : BitVec 32) : parity (x ^^^ y) = (parity x ^^ parity y) := by
  unfold parity
  rw [own_xor, par_zip _ _ (by simp [own])]

theorem parity_shl (x : BitVec 32) : parity (x <<< 1) = (parity x ^^ x.msb) := by
  unfold parity own
  rw [show List.range 32 = 0 :: (List.range 31).map (· + 1) from rfl]
  conv => lhs; rw [show (0 :: (List.range 31).map (· + 1)) = List.range 31 ++ [31] from rfl]
  rw [List.map_append, par_append]
  simp only [List.map_cons, List.map_nil, List.map_map]
  have h1 : (x <<< 1).getMsbD 31 = false := by rw [BitVec.getMsbD_eq_getLsbD]; simp
  have h2 : List.map (fun j => (x <<< 1).getMsbD j) (List.range 31) = List.map ((fun j => x.getMsbD j) ∘ fun x => x + 1) (List.range 31) := by
    apply List.map_congr_left
    intro j hj
    have : j < 31 := by simpa using hj
    simp [BitVec.getMsbD_shiftLeft]
  rw [h1, h2]
  have h3 : x.getMsbD 0 = x.msb := by simp [BitVec.msb]
  rw [h3]
  simp only [par, List.foldr_cons, List.foldr_nil]
  cases x.msb <;> simp

theorem parity_L (x : BitVec 32) : parity (L x) = parity x := by
  unfold L
  rw [parity_xor, parity_shl]
  have hp : parity poly = true := by decide
  have hz : parity 0#32 = false := by decide
  cases x.msb
  · simp [hz]
  · simp [hp]

theorem parity_S (x : BitVec 32) (b : Bool) : parity (S x b) = (parity x ^^ b) := by
  unfold S
  rw [parity_L, parity_xor]
  congr 1
  cases b <;> decide

theorem parity_run (l : List Bool) (x : BitVec 32) : parity (run x l) = (parity x ^^ par l) := by
  induction l generalizing x with
  | nil => simp [par]
  | cons b l ih =>
    rw [run_cons, ih, parity_S]
    simp [par]

/-- how many are set -/
def weight (l : List Bool) : Nat := l.count true

theorem par_weight (l : List Bool) : par l = decide (weight l % 2 = 1) := by
  induction l with
  | nil => rfl
  | cons b l ih =>
    simp only [par, List.foldr_cons, weight] at *
    rw [ih]
    cases b
    · simp; rfl
    · simp
      by_cases h : List.count true l % 2 = 1
      · simp [h]; omega
      · simp [h]; omega

/-! ### a run of at most 32 -/
/-- so many bits, the first the highest -/
theorem own_inj (x y : BitVec 32) (h : own x = own y) : x = y := by
  apply BitVec.eq_of_getMsbD_eq
  intro i hi
  have := congrArg (fun l => l[i]?) h
  simpa [own, hi] using this

theorem exists_own (l : List Bool) (h : l.length = 32) : ∃ x, own x = l := by
  refine ⟨(BitVec.ofBoolListBE l).cast h, ?_⟩
  apply List.ext_getElem
  · simp [own, h]
  · intro i h1 h2
    have hi : i < 32 := by simpa [own] using h1
    simp only [own, List.getElem_map, List.getElem_range]
    rw [BitVec.getMsbD_cast, BitVec.getMsbD_ofBoolListBE, List.getD_eq_getElem?_getD, List.getElem?_eq_getElem h2]
    rfl

theorem zip_self (l : List Bool) : List.zipWith (· ^^ ·) l (List.replicate l.length false) = l := by
  induction l with
  | nil => rfl
  | cons a l ih => simp [List.replicate_succ, ih]

theorem run_zero_32 (x : BitVec 32) : run 0#32 (own x) = LL 32 x := by
  have h := run_xor (own x) (List.replicate 32 false) x x (by simp [own])
  have hz := zip_self (own x)
  rw [own_length] at hz
  rw [hz, BitVec.xor_self, run_own, run_false, BitVec.zero_xor] at h
  exact h

theorem run_short (w : List Bool) (hw : w.length ≤ 32) (h : run 0#32 w = 0#32) : ∀ b ∈ w, b = false := by
  obtain ⟨x, hx⟩ := exists_own (List.replicate (32 - w.length) false ++ w) (by simp; omega)
  have h1 : run 0#32 (own x) = 0#32 := by rw [hx, run_append, run_false, LL_zero, h]
  rw [run_zero_32] at h1
  have h2 : x = 0#32 := LL_inj 32 _ _ (by rw [h1, LL_zero])
  subst h2
  intro b hb
  have : b ∈ own 0#32 := by rw [hx]; exact List.mem_append_right _ hb
  simp [own] at this
  exact this.2

/-- A RUN OF AT MOST 32 THAT LEAVES NOTHING IS EMPTY -/
theorem burst (a c : Nat) (w : List Bool) (hw : w.length ≤ 32)
    (h : run 0#32 (List.replicate a false ++ w ++ List.replicate c false) = 0#32) : ∀ b ∈ w, b = false := by
  rw [run_append, run_append, run_false c, run_false a, LL_zero] at h
  exact run_short w hw (LL_inj c _ _ (by rw [h, LL_zero]))

end Go.Proofs.Ytbbikkncobgabaa.Crc
