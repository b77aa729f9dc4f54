/-
  scrivenerlaw02.CodeTwo answers true. By an AI agent.
-/
import Derived.Test.YtbbikkncobgabaaDoorPCells
namespace Go.Proofs.YtbbikkncobgabaaDoor
open Go.RowKit

theorem infoPart : (Tryd.prog.info? 36).map (fun i => (i.zero, i.size, i.bytes)) = some (some (.agg #[.int .i64 0, .int .i64 0, .int .u64 0, .slice none 0 0]), 4, 48) := by kernel_rfl

/-- a row of parts that the call owns -/
def OwnsP (w : World) (base : Nat) (v : Value) (l : List (Pt × Option Addr × Nat)) : Prop := w.ownsRow base 36 4 v l.length (cells4 l)

theorem OwnsP.none_ (w : World) (base : Nat) (hb : base ≤ w.heap.size) : OwnsP (w.alloc (.cells #[] 36)) base (.slice (some ⟨w.heap.size, 0, none⟩) 0 0) [] := by
  have := World.ownsRow_lit (base := base) (e := 36) (size := 4) w #[] 0 hb (by unfold maxLen; omega) rfl
  simpa [OwnsP, cells4] using this
theorem OwnsP.form {w : World} {base : Nat} {v : Value} {l : List (Pt × Option Addr × Nat)} (h : OwnsP w base v l) : ∃ A c, v = .slice A l.length c ∧ l.length ≤ c ∧ l.length ≤ maxLen ∧ (A = none → c = 0) ∧ Reads w w.heap.size 4 A l.length (cells4 l) := by
  have h' := h
  obtain ⟨h1, h2⟩ := h
  rcases h2 with ⟨rfl, hx⟩ | ⟨g, cap, cur, rfl, hg, hh, hnc, hm, r⟩
  · have hl : l.length = 0 := by
      rw [cells4_len] at h1
      rw [hx] at h1 ⊢
    have : l = [] := List.eq_nil_of_length_eq_zero hl
    subst this
    exact ⟨none, 0, rfl, Nat.le_refl _, Nat.zero_le _, fun _ => rfl, Reads.none_⟩
  · exact ⟨some ⟨g, 0, none⟩, cap, rfl, hnc, Nat.le_trans hnc (by assumption), (fun e => by cases e), Reads.of_own h'⟩

section
variable {w : World} {ops : Array Oper} {rest : List Oper} {o : Oper} {a : Act} {Q : Exit → Act → World → Prop}
theorem wpList_appP (hgd : o.guard = none) (s x : Operand)
    (ho : o.op = .call { callee := .builtin .append, args := #[s, x], argTypes := #[22, 22] })
    (base : Nat) (v : Value) (l : List (Pt × Option Addr × Nat)) (hs : a.eval s = v) (hown : OwnsP w base v l)
    (B : Nat) (A : Option Addr) (m c : Nat) (news : List (Pt × Option Addr × Nat)) (hx : a.eval x = .slice A m c) (hm : m = news.length) (hr : Reads w B 4 A m (cells4 news))
    (hsm : l.length + m ≤ 1000000) (hbase : base ≤ w.heap.size)
    (h : ∀ v' w', OwnsP w' base v' (l ++ news) → w.grownBy w' v.ownBlock → (v'.ownBlock = v.ownBlock ∨ v'.ownBlock = some w.heap.size) → wpList Tryd.prog ops Q rest (a.put o.dst v') w') : wpList Tryd.prog ops Q (o :: rest) a w := by
  obtain ⟨i0, hi, hz0, hz1, hz2⟩ := info_parts infoPart
  subst hm
  refine wpList_append_any w hgd s x 22 ho base 36 i0 _ 4 48 Tryd.underlying22 hi hz0 hz1 hz2 rfl (by decide) v l.length (cells4 l) hs hown B A news.length c (cells4 news) hx hr
    (cells4_one news) (by unfold maxLen; omega) (by omega) hbase ?_
  intro v' w' h1 h2 h3
  refine h v' w' ?_ h2 h3
  unfold OwnsP
  rw [List.length_append, cells4_append]
  exact h1
end

theorem str_append (l m : List UInt8) : str l ++ str m = str (l ++ m) := by
  apply ByteArray.ext
  simp [str]

theorem OwnsP.lt {w : World} {base : Nat} {v : Value} {l : List (Pt × Option Addr × Nat)} (h : OwnsP w base v l) : ∀ k, v.ownBlock = some k → base ≤ k ∧ k < w.heap.size := World.ownsRow.lt h

theorem rowB_drop (ps : List Pt) (k : Nat) (p : Pt) (h : ps[k]? = some p) : (rowB ps).drop (rowB (ps.take k)).length = partBytes (p.s % 5) p.x p.t ++ rowB (ps.drop (k + 1)) ∧ (rowB (ps.take (k + 1))).length = (rowB (ps.take k)).length + (partBytes (p.s % 5) p.x p.t).length := by
  have hk : k < ps.length := by
    rcases Nat.lt_or_ge k ps.length with h1 | h1
    · exact h1
    · rw [List.getElem?_eq_none h1] at h; cases h
  have e : ps = ps.take k ++ p :: ps.drop (k + 1) := by
    have h2 : ps[k] = p := by rw [List.getElem?_eq_getElem hk] at h; injection h
    rw [← h2, ← List.drop_eq_getElem_cons hk, List.take_append_drop]
  constructor
  · conv => lhs; arg 2; rw [e]
    rw [rowB_append, List.drop_left]
    rfl
  · rw [List.take_add_one, h, rowB_append]
    simp [rowB]

set_option maxRecDepth 100000 in
set_option maxHeartbeats 8000000 in
theorem two_any (A1 : Option Addr) (n1 c1 : Nat) (ps1 : List Pt) (A2 : Option Addr) (n2 c2 : Nat) (ps2 : List Pt) (w : World)
    (hn1 : n1 = ps1.length) (hm1 : n1 ≤ 9223372036854775807) (h1 : PartsIn w w.heap.size A1 ps1) (hn2 : n2 = ps2.length) (hm2 : n2 ≤ 9223372036854775807) (h2 : PartsIn w w.heap.size A2 ps2) :
    Calls Tryd.prog 7 #[.slice A1 n1 c1, .slice A2 n2 c2] w fun e w' => e = .returned (.bool true) ∧ Below w.heap.size w w' := by
  have Hn1 := Lib.hid hn1
  have Hn2 := Lib.hid hn2
  have HG1 := Lib.hid (great_any A1 n1 c1 w.heap.size ps1 w hn1 hm1 h1)
  have HG2 := Lib.hid (great_any A2 n2 c2 w.heap.size ps2 w hn2 hm2 h2)
  have H1 := Lib.hid h1
  have H2 := Lib.hid h2
  clear hn1 hn2 h1 h2
  go_enter Tryd.func7, Tryd.ntmps7
  go_wp2_with fail
  refine HG1.out.mono ?_
  rintro e w' ⟨g1, rfl, hs1, rfl⟩
  cases g1
  rotate_left
  · go_wp2_with fail
    refine (awake_any _).mono ?_
    rintro e w1 ⟨rfl, hb⟩
    go_wp2_with fail
    go_ret
    exact ⟨rfl, hb⟩
  have hs1 := hs1 rfl
  go_wp2_with fail
  refine HG2.out.mono ?_
  rintro e w' ⟨g2, rfl, hs2, rfl⟩
  cases g2
  rotate_left
  · go_wp2_with fail
    refine (awake_any _).mono ?_
    rintro e w1 ⟨rfl, hb⟩
    go_wp2_with fail
    go_ret
    exact ⟨rfl, hb⟩
  have hs2 := hs2 rfl
  have hk1 := bulk_small ps1
  have hk2 := bulk_small ps2
  clear HG1 HG2
  go_wp2_with fail
  refine (row_any A1 n1 c1 ps1 w Hn1.out hm1 H1.out (by omega)).mono ?_
  rintro e w1 ⟨va, rfl, hown1, hb1⟩
  have h2' := (H2.out.below hb1).more hb1.size
  go_wp2_with fail
  refine (row_any A2 n2 c2 ps2 w1 Hn2.out hm2 h2' (by omega)).mono ?_
  rintro e w2 ⟨vb, rfl, hown2, hb2⟩
  have hb3 := hb1.trans (hb2.mono hb1.size)
  have hs3 := hb3.size
  have hown1' := hown1.below hb2
  clear h2' hown1 hb1 hb2
  obtain ⟨l1, hl1, hr1, hq1⟩ := (H1.out.below hb3).cells
  obtain ⟨l2, hl2, hr2, hq2⟩ := (H2.out.below hb3).cells
  rw [← Hn1.out] at hr1
  rw [← Hn2.out] at hr2
  have hll1 : n1 = l1.length := by rw [Hn1.out, ← hl1, List.length_map]
  have hll2 : n2 = l2.length := by rw [Hn2.out, ← hl2, List.length_map]
  have Hll1 := Lib.hid hll1
  have Hll2 := Lib.hid hll2
  have Hl1 := Lib.hid hl1
  have Hl2 := Lib.hid hl2
  have hsm1 : l1.length ≤ 2000 := by rw [← hll1, Hn1.out]; omega
  have hsm2 : l2.length ≤ 2000 := by rw [← hll2, Hn2.out]; omega
  clear hll1 hll2 hl1 hl2 H1 H2
  obtain ⟨Ab, cb, rfl, -, -, -, hrb⟩ := hown2.form2
  have Hrb := Lib.hid hrb
  have Hr2 := Lib.hid hr2
  clear hrb hr2
  go_wp2_with (at_builtin; refine wpList_appP rfl (.tmp 22) (.tmp 23) rfl w2.heap.size _ [] rfl (OwnsP.none_ w2 _ (Nat.le_refl _)) w.heap.size _ _ _ l1 rfl Hll1.out (hr1.alloc hs3 _) ?_ ?_ ?_)
  · rw [Hll1.out]; simp; omega
  · simp
  intro v4 w4 hown4 hg4 _
  have hb4 : Below w2.heap.size w2 w4 := ((Below.refl _ w2).alloc (Nat.le_refl _) _).grown hg4 (by simp) (fun k hk => by simp [Value.ownBlock] at hk; omega)
  clear hg4 hr1
  have hs4 := hb4.size
  have hr2' := Hr2.out.below (hb4.mono hs3)
  go_wp2_with (at_builtin; refine wpList_appP rfl (.tmp 24) (.tmp 25) rfl w2.heap.size _ l1 rfl hown4 w.heap.size _ _ _ l2 rfl Hll2.out hr2' ?_ ?_ ?_)
  · rw [Hll2.out]; omega
  · exact hs4
  intro v5 w5 hown5 hg5 _
  have hb5 : Below w2.heap.size w2 w5 := hb4.grown hg5 hs4 (fun k hk => (hown4.lt k hk).1)
  have hbw5 := hb3.trans (hb5.mono hs3)
  have hs5 := hb5.size
  obtain ⟨A5, c5, rfl, hc5, hm5, -, hr5⟩ := hown5.form
  have hps : (l1 ++ l2).map (·.1) = ps1 ++ ps2 := by rw [List.map_append, Hl1.out, Hl2.out]
  have hparts := (((hq1.below (hb5.mono hs3)).append (hq2.below (hb5.mono hs3))).more hbw5.size).parts hr5
  rw [hps] at hparts
  obtain ⟨N, hN⟩ : ∃ N, N = (l1 ++ l2).length := ⟨_, rfl⟩
  have hNp : N = (ps1 ++ ps2).length := by rw [hN, ← hps, List.length_map]
  have hN2 : N = n1 + n2 := by rw [hN, List.length_append, ← Hll1.out, ← Hll2.out]
  rw [← hN] at hc5 hm5 ⊢
  have HNp := Lib.hid hNp
  have HN2 := Lib.hid hN2
  have HP := Lib.hid hparts
  have hNs : N ≤ 4000 := by rw [hN, List.length_append]; omega
  have hbk : bulk (ps1 ++ ps2) ≤ 1000000 := by rw [bulk_append]; omega
  clear hg5 hown5 hown4 hb4 hs4 hr5 hps hN hNp hN2 hparts hq1 hq2 Hr2 hr2' Hll1 Hll2 Hl1 Hl2 hm5
  go_wp2_with fail
  refine (row_any A5 N c5 (ps1 ++ ps2) w5 HNp.out (Nat.le_trans hNs (by decide)) HP.out (by omega)).mono ?_
  rintro e w6 ⟨vc, rfl, hown6, hb6⟩
  have hb7 := hb5.trans (hb6.mono hs5)
  have hs6 := hb6.size
  obtain ⟨T, hT⟩ : ∃ T, T = rowB (ps1 ++ ps2) := ⟨_, rfl⟩
  rw [← hT] at hown6
  have hTl : T.length = (rowB ps1).length + (rowB ps2).length := by rw [hT, rowB_append, List.length_append]
  have hTs : T.length ≤ 1000000 := by rw [hT]; exact Nat.le_trans (rowB_len _) hbk
  have hTab : str (rowB ps1) ++ str (rowB ps2) = str T := by rw [str_append, hT, rowB_append]
  have HT := Lib.hid hT
  have HTl := Lib.hid hTl
  have z1 : (str (rowB ps1)).size = (rowB ps1).length := by simp [str, ByteArray.size]
  have z2 : (str (rowB ps2)).size = (rowB ps2).length := by simp [str, ByteArray.size]
  have y1 : (rowB ps1).length ≤ 1000000 := Nat.le_trans (rowB_len _) (by omega)
  have y2 : (rowB ps2).length ≤ 1000000 := Nat.le_trans (rowB_len _) (by omega)
  have hconv6 := hown6.conv
  have hconv1 := (hown1'.below (hb5.trans (hb6.mono hs5))).conv
  have hconv2 := conv_bytes w6 w2.heap.size Ab _ cb (rowB ps2) rfl (Hrb.out.below hb7)
  obtain ⟨Ac, cc, rfl, hcc, -, hAc, hrc⟩ := hown6.form2
  have HAc := Lib.hid hAc
  have Hrc := Lib.hid hrc
  clear hT hTl hown6 hAc hrc
  go_wp2_with fail
  refine (newReaderB_any Ac T.length cc T w6 rfl hcc (by omega) HAc.out w6.heap.size (Nat.le_refl _) Hrc.out).mono ?_
  rintro e w7 ⟨R, rfl, hrd7, hb8⟩
  have hR := hrd7.1
  have hrd8 := hrd7.rd
  have hb9 : Below w5.heap.size w5 w7 := hb6.trans (hb8.mono hs6)
  clear hrd7 hconv6 hconv1 hconv2 hTab z1 z2 HAc Hrc hb6 hb7 hb8 hown1' hown2 Hrb
  go_wp2_with fail
  go_loopw [10] (fun i wr => ∃ k, k ≤ N ∧ i = .int .i64 k ∧ Rd wr R T (rowB ((ps1 ++ ps2).take k)).length false ∧ Below w5.heap.size w5 wr) (fun i _ => N - (intOf i).toNat)
  case atStart => exact ⟨0, Nat.zero_le _, rfl, hrd8, hb9⟩
  case round =>
    obtain ⟨k, hk, rfl, hrd10, hb10⟩ := hrel
    clear hrd8 hb9
    by_cases hkN : k < N
    · have hkl : k < (ps1 ++ ps2).length := by rw [← HNp.out]; exact hkN
      obtain ⟨ad, p, A3, c3, rfl, hadb, hp, ⟨hx, -, -⟩, hf, -, htm, -, hrd3⟩ := (HP.out.below hb10).at_ hkl
      unfold maxLen at htm
      obtain ⟨hdr, hln⟩ := rowB_drop (ps1 ++ ps2) k p hp
      rw [← HT.out] at hdr
      obtain ⟨p0, p1, p2, p3⟩ := hf
      have hmeet := fun w' h' hr' => meet_any R T _ p.s p.m p.x A3 p.t.length c3 p.t _ w' h' hx rfl (by omega) w5.heap.size (by omega) hr' hdr (by omega)
      rw [← hln] at hmeet
      unfold part at hmeet
      have HM := Lib.hid hmeet
      clear hmeet hdr hln hp
      by_cases hkn : k = n1
      · subst hkn
        have hq : (T.length : Int) - ((rowB ((ps1 ++ ps2).take k)).length : Int) = ((rowB ps2).length : Int) := by
          rw [HTl.out, Hn1.out, List.take_left]; omega
        go_wp2_with fail
        refine (left_rd R T _ false _ hrd10 (by omega)).mono ?_
        rintro e w11 ⟨rfl, hrd11, hg11⟩
        rw [hq]
        have hb11 := hb10.grown hg11 hb10.size (by simp)
        have hf2 := Four.kept (p := p) (A := A3) (c := c3) ⟨p0, p1, p2, p3⟩ hg11 (by simp)
        have hrd12 := hrd3.keep (w' := w11) fun q hq => hg11.cell_far q (by have := hb10.size; omega) (by simp)
        clear p0 p1 p2 p3 hrd10 hb10 hg11 hrd3 hq
        obtain ⟨p0, p1, p2, p3⟩ := hf2
        go_wp2_with fail
        refine (HM.out _ hrd11 hrd12).mono ?_
        rintro e w12 ⟨rfl, hrd13, hg13⟩
        have hb13 := hb11.grown hg13 hb11.size (by intro k e; injection e with e; omega)
        clear p0 p1 p2 p3 hrd11 hrd12 hb11 hg13
        go_wp2_with fail
        go_roundw
        case rel => exact ⟨k + 1, by omega, by go_num, hrd13, hb13⟩
        case measure => simp [intOf]; omega
      · have hke : ((k : Int) == (n1 : Int)) = false := by rw [beq_eq_false_iff_ne]; omega
        go_wp2_with fail
        refine (HM.out _ hrd10 hrd3).mono ?_
        rintro e w12 ⟨rfl, hrd13, hg13⟩
        have hb13 := hb10.grown hg13 hb10.size (by intro k e; injection e with e; omega)
        clear p0 p1 p2 p3 hrd10 hrd3 hb10 hg13
        go_wp2_with fail
        go_roundw
        case rel => exact ⟨k + 1, by omega, by go_num, hrd13, hb13⟩
        case measure => simp [intOf]; omega
    · obtain rfl : k = N := by omega
      have hq : (rowB ((ps1 ++ ps2).take k)).length = T.length := by rw [HNp.out, List.take_length, HT.out]
      rw [hq] at hrd10
      clear hq
      go_wp2_with fail
      refine (left_rd R T _ false _ hrd10 (by omega)).mono ?_
      rintro e w11 ⟨rfl, hrd11, hg11⟩
      rw [show (T.length : Int) - (T.length : Int) = 0 by omega]
      have hb11 := hb10.grown hg11 hb10.size (by simp)
      clear hrd10 hb10 hg11
      go_wp2_with fail
      refine (end_rd R T _ false _ hrd11 (by omega)).mono ?_
      rintro e w12 ⟨rfl, -, hg12⟩
      rw [show (false || decide (T.length < T.length)) = false by simp, if_neg (by decide)]
      have hb12 := hb11.grown hg12 hb11.size (by intro k e; injection e with e; omega)
      clear hrd11 hb11 hg12
      go_wp2_with fail
      refine (awake_any _).mono ?_
      rintro e w13 ⟨rfl, hb13⟩
      have hb14 := hbw5.trans ((hb12.trans (hb13.mono hb12.size)).mono hbw5.size)
      go_wp2_with fail
      go_ret
      exact ⟨rfl, hb14⟩
end Go.Proofs.YtbbikkncobgabaaDoor
