/-
  scrivenerlaw02.CodePuts answers true. By an AI agent.
-/
import Derived.Test.YtbbikkncobgabaaDoorSep
import Derived.StillTailTactics
import Derived.Deep.DrawnRows
import Derived.Outline
import Derived.Deep.RegionHeld3
namespace Go.Proofs.YtbbikkncobgabaaDoor
open Go.RowKit
attribute [local go_sem ↓] Go.wp_at_zero Go.wp_at_succ

/-- []byte{} -/
theorem Owns.bare (w : World) (base : Nat) (hb : base ≤ w.heap.size) : Owns (w.alloc (.cells #[] 5)) base (.slice (some ⟨w.heap.size, 0, none⟩) 0 0) [] := Owns.lit w base [] hb (by simp [maxLen])

theorem Four.below {w w' : World} {B : Nat} {a : Addr} {p : Pt} {A : Option Addr} {c : Nat} (h : Four w a p A c) (hb : Below B w w') (ha : a.block < B) : Four w' a p A c := by
  obtain ⟨h0, h1, h2, h3⟩ := h
  exact ⟨(hb.cell ha).trans h0, (hb.cell (p := ⟨a.block, a.off + 1, none⟩) ha).trans h1, (hb.cell (p := ⟨a.block, a.off + 2, none⟩) ha).trans h2, (hb.cell (p := ⟨a.block, a.off + 3, none⟩) ha).trans h3⟩

set_option maxRecDepth 100000 in
set_option maxHeartbeats 4000000 in
theorem puts_any (A : Option Addr) (n c : Nat) (ps : List Pt) (w : World) (hn : n = ps.length) (hm : n ≤ 9223372036854775807) (h : PartsIn w w.heap.size A ps) :
    Calls Tryd.prog 3 #[.slice A n c] w fun e w' => e = .returned (.bool true) ∧ Below w.heap.size w w' := by
  have Hn := Lib.hid hn
  have HP := Lib.hid h
  have hg := great_any A n c w.heap.size ps w hn hm h
  clear hn h
  go_enter Tryd.func3, Tryd.ntmps3
  go_wp2_with fail
  refine hg.mono ?_
  rintro e w' ⟨g, rfl, hsmall, rfl⟩
  cases g
  rotate_left
  · go_wp2_with fail
    refine (awake_any _).mono ?_
    rintro e w1 ⟨rfl, hb⟩
    go_wp2_with fail
    go_ret
    exact ⟨rfl, hb⟩
  have hsm := hsmall rfl
  have hbk := bulk_small ps
  have hbulk : bulk ps ≤ 60000 := by omega
  clear hg hsmall hbk
  go_wp2_with fail
  refine (wnew_any w).mono ?_
  rintro e w1 ⟨rfl, h1, hb1⟩
  have hlt1 := h1.lt
  obtain ⟨bv, hbv⟩ : ∃ bv, bv = w1.heap.size := ⟨_, rfl⟩
  have hT0 : Trio w.heap.size (w1.alloc (.cells #[.slice none 0 0, .int .i64 0, .int .i8 0] 33)) w.heap.size bv (.slice none 0 0) [] [] [] none none := by
    subst hbv
    exact ⟨h1.old ((Below.refl _ _).alloc (Nat.le_refl _) _), Wr.new w1, Owns.nil _ _, ⟨Nat.le_refl _, hlt1, by simp, (fun g e => by cases e), (fun g e => by cases e), (fun g e => by simp [Value.ownBlock] at e)⟩⟩
  have hb2 : Below w.heap.size w (w1.alloc (.cells #[.slice none 0 0, .int .i64 0, .int .i8 0] 33)) := hb1.alloc hb1.size _
  have Hbv := Lib.hid hbv
  clear h1 hb1 hlt1 hbv
  go_wp2_with fail
  rw [← Hbv.out]
  clear Hbv
  go_loopw [6, 7] (fun v i wr => ∃ k r1 r2, k ≤ n ∧ i = .int .i64 k ∧ Trio w.heap.size wr w.heap.size bv v (rowB (ps.take k)) (rowB (ps.take k)) (rowB (ps.take k)) r1 r2 ∧ Below w.heap.size w wr) (fun _ i _ => n - (intOf i).toNat)
  case atStart => exact ⟨0, none, none, Nat.zero_le _, rfl, hT0, hb2⟩
  case round =>
    obtain ⟨k, r1, r2, hk, rfl, hT, hb⟩ := hrel
    clear hT0 hb2
    have hs := hb.size
    obtain ⟨wo, rfl⟩ : ∃ wo : World, wo = wr := ⟨_, rfl⟩
    by_cases hkn : k < n
    · have hkl : k < ps.length := by rw [← Hn.out]; exact hkn
      obtain ⟨ad, p, A1, c1, rfl, hadb, hp, ⟨hx, -, -⟩, hf, -, -, -, hrd⟩ := (HP.out.below hb).at_ hkl
      have htk : rowB (ps.take (k + 1)) = rowB (ps.take k) ++ partBytes (p.s % 5) p.x p.t := by
        rw [List.take_add_one, hp, rowB_append]; simp [rowB]
      have hl1 := rowB_len (ps.take k)
      have hl2 := bulk_take ps (k + 1)
      rw [List.take_add_one, hp, bulk_append] at hl2
      have hl3 : bulk [p] = 10 + p.t.length := by simp [bulk]
      simp only [Option.toList_some] at hl2
      rw [hl3] at hl2
      have hlim : (rowB (ps.take k)).length + 10 + p.t.length ≤ 60000 := by omega
      have Htk := Lib.hid htk
      generalize rowB (ps.take k) = L at *
      have hab : (ad.add (k * 4)).block < w.heap.size := by rw [block_of_add]; exact hadb
      have p3 : ∀ o, (wo.alloc o).cell? ⟨(ad.add (k * 4)).block, (ad.add (k * 4)).off + 3, none⟩ = some (.slice A1 p.t.length c1) := fun o => (World.cell?_alloc_lt wo o ⟨(ad.add (k * 4)).block, (ad.add (k * 4)).off + 3, none⟩ (by show (ad.add (k * 4)).block < _; omega)).trans hf.2.2.2
      have Hf := Lib.hid hf
      clear htk hp hl1 hl2 hl3 hf
      go_wp2_with (at_builtin; refine wpList_app rfl (.tmp 24) (.tmp 29) rfl wo.heap.size _ [] rfl (Owns.bare wo _ (Nat.le_refl _)) w.heap.size _ _ _ p.t rfl rfl (hrd.alloc hs _) ?_ ?_ ?_)
      · first | omega | (simp; omega)
      · first | omega | simp
      intro v8 w2 hown8 hg8 _
      have hb8 : Below wo.heap.size wo w2 := ((Below.refl _ wo).alloc (Nat.le_refl _) _).grown hg8 (by simp) (fun k hk => by simp [Value.ownBlock] at hk; omega)
      have hT2 := hT.old hb8
      have hbw2 := hb.trans (hb8.mono hs)
      have hs2 := hb8.size
      have hbwS : w.heap.size < wo.heap.size := hT.wr.lt
      have hbvS : bv < wo.heap.size := hT.vr.lt
      have hf2 := Hf.out.below (hb8.mono hs) hab
      clear p3 hg8
      obtain ⟨A8, c8, rfl, -, -, -, hr8⟩ := hown8.form2
      obtain ⟨q0, q1, q2, q3⟩ := hf2
      have e0 : w2.drew.cell? (ad.add (k * 4)) = some (.int .i64 p.s) := q0
      have e1 : w2.drew.cell? ⟨(ad.add (k * 4)).block, (ad.add (k * 4)).off + 1, none⟩ = some (.int .i64 p.m) := q1
      have e2 : w2.drew.cell? ⟨(ad.add (k * 4)).block, (ad.add (k * 4)).off + 2, none⟩ = some (.int .u64 (p.x : Int)) := q2
      have hput := put_any w.heap.size r1 L p.s p.m p.x A8 p.t.length c8 p.t w2.drew hT2.wr hx rfl w2.heap.size (Nat.le_refl _) hr8 (fun a ea h0 => by
        obtain ⟨g, cap, e, -, hg, -⟩ := hown8.row h0
        injection e with e
        rw [ea] at e
        injection e with e
        rw [e]
        show g ≠ w.heap.size
        omega) (by omega)
      unfold part at hput
      have HPut := Lib.hid hput
      clear hput
      go_wp2_with fail
      go_still_tail 18, (by kernel_rfl)
      go_wp2_with fail
      refine HPut.out.mono ?_
      rintro e w3 ⟨rfl, r1', hw3, hf3⟩
      clear e0 e1 e2 q0 q1 q2 q3 HPut
      have hT3 := Trio.first (w := w2.drew) ⟨hT2.wr, hT2.vr, hT2.own, hT2.sep⟩ hw3 hf3
      have hbo3 : Below w.heap.size wo w3 := (hb8.mono hs).drew.trans (Trio.below1 (w := w2.drew) ⟨hT2.wr, hT2.vr, hT2.own, hT2.sep⟩ hf3)
      have hbw3 : Below w.heap.size w w3 := hb.trans hbo3
      have hr1' : ∀ g, r1' = some g → g < wo.heap.size ∨ w2.heap.size ≤ g := by
        intro g e
        rcases hf3.2.2.2.2.2 with e2 | ⟨g2, e2, h9⟩
        · exact .inl (hT.sep.h1 g (e2 ▸ e)).2.1
        · rw [e] at e2; injection e2 with e2; subst e2; exact .inr h9
      have hfar : ∀ g, (Value.slice A8 p.t.length c8).ownBlock = some g → wo.heap.size ≤ g ∧ g < w2.heap.size := hown8.lt
      have hown9 : Owns w3 wo.heap.size (.slice A8 p.t.length c8) p.t := Owns.stay (w := w2.drew) hown8 fun g e => hf3.2.2.2.2.1 g (hfar g e).2 (by have := (hfar g e).1; omega) (fun e2 => by have := (hT.sep.h1 g e2.symm).2.1; have := (hfar g e).1; omega)
      clear hf3 hw3 hT2 hr8 hown8
      go_wp2_with fail
      go_loopw [9] (fun i wx => ∃ j l', j ≤ p.t.length ∧ l'.length = p.t.length ∧ i = .int .i64 (j : Nat) ∧ Owns wx wo.heap.size (.slice A8 p.t.length c8) l' ∧ w3.grownBy wx (Value.slice A8 p.t.length c8).ownBlock) (fun i _ => p.t.length - (intOf i).toNat)
      case atStart => exact ⟨0, p.t, Nat.zero_le _, rfl, rfl, hown9, World.grownBy.refl _ _⟩
      case round =>
        obtain ⟨j, l', hj, hl', rfl, hown', hgx⟩ := hrel
        have Hl' := Lib.hid hl'
        clear hown9
        by_cases hjm : j < p.t.length
        · have hjl : j < l'.length := by rw [hl']; exact hjm
          obtain ⟨g, cap, e, -, -, -, -, -⟩ := hown'.row (by omega)
          injection e with e1 e2 e3
          subst e1 e3
          clear e2
          have hcell := hown'.cell j hjl
          have hfr := hown'.free (by omega) j
          generalize l'[j] = b at hcell
          clear hl' hjl
          have b0 := byte_lo8 b
          have b1 := byte_hi8 b
          go_wp2_with fail
          go_roundw
          case rel =>
            have hx := hown'
            rw [← Hl'.out] at hx
            obtain ⟨l'', h1, h2⟩ := hx.turned j _ (wrap_u8_lo _) (wrap_u8_hi _)
            rw [Hl'.out] at h1 h2
            exact ⟨j + 1, l'', by omega, h1, by go_num, h2, only_setCell (g := g) hgx (Or.inl rfl) _⟩
          case measure => simp [intOf]; omega
        · clear hl' Hl' hown'
          have hT4 := hT3.apart hgx (fun g e => by
            obtain ⟨h8, h9⟩ := hfar g e
            refine ⟨by omega, by omega, fun e2 => ?_, fun e2 => ?_, fun e2 => ?_⟩
            · rcases hr1' g e2 with h7 | h7 <;> omega
            · have := (hT.sep.h2 g e2).2.1; omega
            · have := (hT.sep.h3 g e2).2.1; omega)
          have hbo4 : Below w.heap.size wo wr := hbo3.grown hgx hbw3.size (fun g e => by have := (hfar g e).1; omega)
          have hb4 := hb.trans hbo4
          have hs4 := hb4.size
          have hf4 := Hf.out.below hbo4 hab
          have hrd4 := hrd.below hbo4
          have hput := put_any bv r2 L p.s p.m p.x A1 p.t.length c1 p.t wr hT4.vr hx rfl w.heap.size hs4 hrd4 (hrd4.apart (by have := hT4.sep.b2; omega)) (by omega)
          unfold part at hput
          have HPut := Lib.hid hput
          obtain ⟨q0, q1, q2, q3⟩ := hf4
          clear hput hgx hT3 hbo3 hbw3
          go_wp2_with fail
          refine HPut.out.mono ?_
          rintro e w5 ⟨rfl, r2', hw5, hf5⟩
          have hT5 := hT4.second hw5 hf5
          have hbo5 := hbo4.trans (hT4.below2 hf5)
          have hb5 := hb.trans hbo5
          have hf6 := Hf.out.below hbo5 hab
          have hrd5 := hrd.below hbo5
          have hput := putNil_any p.s p.m p.x A1 p.t.length c1 p.t w5 hx rfl w.heap.size hb5.size hrd5 (by omega)
          unfold part at hput
          have HPut := Lib.hid hput
          clear q0 q1 q2 q3 hput hf5 hw5 hT4 hbo4 hb4 hs4 hrd4
          obtain ⟨q0, q1, q2, q3⟩ := hf6
          go_wp2_with fail
          refine HPut.out.mono ?_
          rintro e w6 ⟨rfl, hb6'⟩
          have hT6 := hT5.old hb6'
          have hbo6 := hbo5.trans (hb6'.mono hb5.size)
          have hb6 := hb.trans hbo6
          have hf7 := Hf.out.below hbo6 hab
          have hrd6 := hrd.below hbo6
          have hput := doc_any p.s p.m p.x A1 p.t.length c1 p.t w6 hx rfl w.heap.size hb6.size hrd6 (by omega)
          unfold part at hput
          have HPut := Lib.hid hput
          clear q0 q1 q2 q3 hput hb6' hT5 hbo5 hb5 hrd5
          obtain ⟨q0, q1, q2, q3⟩ := hf7
          go_wp2_with fail
          refine HPut.out.mono ?_
          rintro e w7 ⟨A7, c7, rfl, hr7, hb7'⟩
          have hT7 := hT6.old hb7'
          have hb7 := hb6.trans (hb7'.mono hb6.size)
          have hpl := partBytes_len (p.s % 5) p.x p.t
          obtain ⟨L2, hL2⟩ : ∃ L2, L2 = L ++ partBytes (p.s % 5) p.x p.t := ⟨_, rfl⟩
          have HL2 := Lib.hid hL2
          have hL2l : L2.length ≤ 140737488355328 := by rw [hL2, List.length_append]; omega
          clear q0 q1 q2 q3 hb7' hT6 hbo6 hb6 hrd6 HPut hL2
          go_wp2_with (at_builtin; refine wpList_app rfl (.tmp 74) (.tmp 79) rfl w.heap.size _ L rfl hT7.own w7.heap.size _ _ _ _ rfl rfl hr7 ?_ ?_ ?_)
          · omega
          · exact hb7.size
          intro v8 w8 hown8 hg8 hat8
          have hT8 := hT7.third hown8 hg8 hat8
          have hb8 : Below w.heap.size w w8 := hb7.grown hg8 hb7.size (fun g e => (hT7.sep.h3 g e).1)
          rw [← HL2.out] at hT8
          clear hown8 hg8 hat8 hT7 hb7 hr7
          obtain ⟨A9, c9, e9, -, -, -⟩ := hT8.own.form
          subst e9
          go_wp2_with fail
          refine (wlen w.heap.size r1' L2 w8 hT8.wr).mono ?_
          rintro e w9 ⟨rfl, q, rfl⟩
          have hT9 : Trio w.heap.size (w8.drewN q) w.heap.size bv (.slice A9 L2.length c9) L2 L2 L2 r1' r2' := ⟨hT8.wr, hT8.vr, hT8.own, hT8.sep⟩
          have hb9 := below_drewN hb8 q
          rw [HL2.out, ← Htk.out] at hT9
          have HT9 := Lib.hid hT9
          clear hT8 hb8 hT9
          go_wp2_with fail
          go_roundw
          case rel => exact ⟨k + 1, r1', r2', by omega, by go_num, by have h := HT9.out; rw [Htk.out, ← HL2.out] at h ⊢; exact h, hb9⟩
          case measure => simp [intOf]; omega
    · obtain rfl : k = n := by omega
      rw [Hn.out, List.take_length] at hT
      have hWl := rowB_len ps
      generalize rowB ps = W at *
      obtain ⟨m, hm0⟩ : ∃ m, m = W.length := ⟨_, rfl⟩
      have Hm := Lib.hid hm0
      obtain ⟨A3, c3, e3, -, -, -⟩ := hT.own.form
      subst e3
      rw [← hm0] at hT ⊢
      have hms : m ≤ 60000 := by omega
      clear hm0 hWl
      go_wp2_with fail
      refine (wbytes w.heap.size r1 W wo hT.wr (by have := Hm.out; omega)).mono ?_
      rintro e w2 ⟨v10, rfl, hown10, hb10⟩
      have hT2 := hT.old hb10
      have hb2 := hb.trans (hb10.mono hs)
      have hbwS : w.heap.size < wo.heap.size := hT.wr.lt
      have hbvS : bv < wo.heap.size := hT.vr.lt
      obtain ⟨Ab, cb, e10, -, -, -⟩ := hown10.form
      subst e10
      rw [← Hm.out] at hown10 ⊢
      have hfar : ∀ g, (Value.slice Ab m cb).ownBlock = some g → wo.heap.size ≤ g ∧ g < w2.heap.size := hown10.lt
      have hout : ∀ g, (Value.slice Ab m cb).ownBlock = some g → g ≠ w.heap.size ∧ g ≠ bv ∧ r1 ≠ some g ∧ r2 ≠ some g ∧ (Value.slice A3 m c3).ownBlock ≠ some g := fun g e => by
        obtain ⟨h8, h9⟩ := hfar g e
        refine ⟨by omega, by omega, fun e2 => ?_, fun e2 => ?_, fun e2 => ?_⟩
        · have := (hT.sep.h1 g e2).2.1; omega
        · have := (hT.sep.h2 g e2).2.1; omega
        · have := (hT.sep.h3 g e2).2.1; omega
      have Hout := Lib.hid hout
      clear hout
      go_wp2_with fail
      go_loopw [11] (fun i wx => ∃ j l', j ≤ m ∧ l'.length = m ∧ i = .int .i64 (j : Nat) ∧ (∀ q, j ≤ q → l'[q]? = W[q]?) ∧ Owns wx wo.heap.size (.slice Ab m cb) l' ∧ w2.grownBy wx (Value.slice Ab m cb).ownBlock) (fun i _ => m - (intOf i).toNat)
      case atStart => exact ⟨0, W, Nat.zero_le _, Hm.out.symm, rfl, fun _ _ => rfl, hown10, World.grownBy.refl _ _⟩
      case round =>
        obtain ⟨j, l', hj, hl', rfl, hsame, hown', hgx⟩ := hrel
        have Hl' := Lib.hid hl'
        have Hsame := Lib.hid hsame
        have hTx := hT2.apart hgx Hout.out
        clear hown10
        by_cases hjm : j < m
        · have hjl : j < l'.length := by rw [hl']; exact hjm
          have hjW : j < W.length := by rw [← Hm.out]; exact hjm
          have hlj : l'[j] = W[j] := by
            have h := hsame j (Nat.le_refl _)
            rw [List.getElem?_eq_getElem hjl, List.getElem?_eq_getElem hjW] at h
            injection h
          obtain ⟨g, cap, e, -, -, -, -, -⟩ := hown'.row (by omega)
          injection e with e1 e2 e3
          subst e1 e3
          clear e2
          obtain ⟨g3, cap3, e, -, -, -, -, -⟩ := hTx.own.row (by omega)
          injection e with e1 e2 e3
          subst e1 e3
          clear e2
          have hcell := hown'.cell j hjl
          have hfr := hown'.free (by omega) j
          have hcell3 := hTx.own.cell j hjW
          rw [hlj] at hcell
          generalize W[j] = b at hcell hcell3
          clear hl' hjl hlj hsame hjW
          have b0 := byte_lo8 b
          have b1 := byte_hi8 b
          have i0 : (0 : Int) ≤ (j : Int) := by omega
          have i1 : (j : Int) < (m : Int) := by omega
          have i2 : (j : Int).toNat = j := by omega
          go_wp2_with fail
          go_quiet (fail)
          go_wp2_with fail
          go_roundw
          case rel =>
            have hx := hown'
            rw [← Hl'.out] at hx
            obtain ⟨b9, hb9⟩ : ∃ b9 : UInt8, ((b.toNat : Int) + 1) % 256 = (b9.toNat : Int) := ⟨UInt8.ofNat (b.toNat + 1), by rw [UInt8.toNat_ofNat']; omega⟩
            have h2 := hx.stored j b9
            rw [Hl'.out] at h2
            refine ⟨j + 1, l'.set j b9, by omega, by rw [List.length_set]; exact Hl'.out, by go_num, (fun q hq => by rw [List.getElem?_set_ne (by omega)]; exact Hsame.out q (by omega)), by rw [hb9]; exact h2, only_setCell (g := g) (only_drewN hgx _) (Or.inl rfl) _⟩
          case measure => simp [intOf]; omega
        · obtain rfl : j = m := by omega
          clear hsame Hsame hl' Hl' hown'
          have hs2 := hb2.size
          have hbx := hb2.grown hgx hs2 (fun g e => by have := (hfar g e).1; have := hb.size; omega)
          clear hgx hT2
          have hm' : W.length ≤ 140737488355328 := by have := Hm.out; omega
          obtain ⟨TB, hTB⟩ : ∃ TB : World → Prop, TB = fun w' => Trio w.heap.size w' w.heap.size bv (.slice A3 j c3) W W W r1 r2 ∧ Below w.heap.size w w' := ⟨_, rfl⟩
          have HTB := Lib.hid hTB
          have hS : ∀ w', TB w' → ((convert 27 9 (.slice A3 j c3)).run Tryd.prog w' = .ok (.string (str W)) w' ∧ TB w') := fun w' h => ⟨by rw [HTB.out] at h; exact h.1.own.conv, h⟩
          have hold : ∀ w1 w2, TB w1 → Below w1.heap.size w1 w2 → TB w2 := fun w1 w2 h hb => by
            rw [HTB.out] at h ⊢; exact ⟨h.1.old hb, h.2.trans (hb.mono h.2.size)⟩
          have hdrew : ∀ w1, TB w1 → TB w1.drew := fun w1 h => by
            rw [HTB.out] at h ⊢; exact ⟨⟨h.1.wr, h.1.vr, h.1.own, h.1.sep⟩, h.2.drew⟩
          have hW1 : ∀ w', TB w' → Calls Tryd.prog 20 #[.pointer (some ⟨w.heap.size, 0, none⟩)] w' (Gives w'.heap.size W w') := fun w' h => by
            rw [HTB.out] at h; exact wbytes w.heap.size r1 W w' h.1.wr hm'
          have hW2 : ∀ w', TB w' → Calls Tryd.prog 20 #[.pointer (some ⟨bv, 0, none⟩)] w' (Gives w'.heap.size W w') := fun w' h => by
            rw [HTB.out] at h; exact wbytes bv r2 W w' h.1.vr hm'
          have hfin : ∀ w', TB w' → Below w.heap.size w w' := fun w' h => by rw [HTB.out] at h; exact h.2
          have h0 : TB wr := by rw [HTB.out]; exact ⟨hTx, hbx⟩
          have HS := Lib.hid hS
          have HO := Lib.hid hold
          have HD := Lib.hid hdrew
          have HW1 := Lib.hid hW1
          have HW2 := Lib.hid hW2
          have HF := Lib.hid hfin
          have hS0 := hS wr h0
          clear hTx Hout hfar hT hb hs hb10 hb2 hs2 hbx hbwS hbvS hTB hS hold hdrew hW1 hW2 hfin
          go_wp2_with fail
          refine wp_region_held_drew (S := fun w' => (convert 27 9 (.slice A3 j c3)).run Tryd.prog w' = .ok (.string (str W)) w' ∧ TB w') (by kernel_rfl) (HS.out _ (HD.out _ h0)) (fun hHeld => ?_)
          clear hS0 h0
          refine wpAnyH_take (i := 0) (oi := _) (v := ?_) rfl (by kernel_rfl) (by kernel_rfl) (by kernel_rfl) (fun _ _ _ h => h) (Or.inl ⟨by rfl, ?_⟩) hHeld ?_
          rotate_left
          · intro w' hSw
            go_simp
            all_goals with_reducible rfl
          try simp only [List.getElem_toArray, List.getElem_cons_zero, Act.put, List.setIfInBounds_toArray, List.set_cons_zero, List.set_cons_succ]
          refine wpAnyH_take (i := 1) (oi := _) (v := ?_) rfl (by kernel_rfl) (by kernel_rfl) (by kernel_rfl) (fun _ _ _ h => h) (Or.inl ⟨by rfl, ?_⟩) hHeld ?_
          rotate_left
          · intro w' hSw
            go_simp
            all_goals with_reducible rfl
          try simp only [List.getElem_toArray, List.getElem_cons_zero, List.getElem_cons_succ, Act.put, List.setIfInBounds_toArray, List.set_cons_zero, List.set_cons_succ]
          refine wpAnyH_take (i := 2) (oi := _) (v := ?_) rfl (by kernel_rfl) (by kernel_rfl) (by kernel_rfl) (fun _ _ _ h => h) (Or.inl ⟨by rfl, ?_⟩) hHeld ?_
          rotate_left
          · intro w' hSw
            go_simp
            all_goals with_reducible rfl
          try simp only [List.getElem_toArray, List.getElem_cons_zero, List.getElem_cons_succ, Act.put, List.setIfInBounds_toArray, List.set_cons_zero, List.set_cons_succ]
          refine wpAnyH_take (i := 3) (oi := _) (v := ?_) rfl (by kernel_rfl) (by kernel_rfl) (by kernel_rfl) (fun _ _ _ h => h) (Or.inl ⟨by rfl, ?_⟩) hHeld ?_
          rotate_left
          · intro w' hSw
            go_simp
            all_goals with_reducible rfl
          try simp only [List.getElem_toArray, List.getElem_cons_zero, List.getElem_cons_succ, Act.put, List.setIfInBounds_toArray, List.set_cons_zero, List.set_cons_succ]
          refine wpAnyH_take (i := 4) (oi := _) (v := ?_) rfl (by kernel_rfl) (by kernel_rfl) (by kernel_rfl) (fun _ _ _ h => h) (Or.inl ⟨by rfl, ?_⟩) hHeld ?_
          rotate_left
          · intro w' hSw
            go_simp
            all_goals with_reducible rfl
          try simp only [List.getElem_toArray, List.getElem_cons_zero, List.getElem_cons_succ, Act.put, List.setIfInBounds_toArray, List.set_cons_zero, List.set_cons_succ]
          refine wpAnyH_take (i := 5) (oi := _) (v := ?_) rfl (by kernel_rfl) (by kernel_rfl) (by kernel_rfl) (fun _ _ _ h => h) (Or.inl ⟨by rfl, ?_⟩) hHeld ?_
          rotate_left
          · intro w' hSw
            go_simp
            all_goals with_reducible rfl
          try simp only [List.getElem_toArray, List.getElem_cons_zero, List.getElem_cons_succ, Act.put, List.setIfInBounds_toArray, List.set_cons_zero, List.set_cons_succ]
          refine wpAnyH_take (i := 6) (oi := _) (v := ?_) rfl (by kernel_rfl) (by kernel_rfl) (by kernel_rfl) (fun _ _ _ h => h) (Or.inl ⟨by rfl, ?_⟩) hHeld ?_
          rotate_left
          · intro w' hSw
            go_simp
            all_goals with_reducible rfl
          try simp only [List.getElem_toArray, List.getElem_cons_zero, List.getElem_cons_succ, Act.put, List.setIfInBounds_toArray, List.set_cons_zero, List.set_cons_succ]
          refine wpAnyH_take (i := 9) (oi := _) (v := ?_) rfl (by kernel_rfl) (by kernel_rfl) (by kernel_rfl) (fun _ _ _ h => h) (Or.inl ⟨by rfl, ?_⟩) hHeld ?_
          rotate_left
          · intro w' hSw
            go_simp
            all_goals with_reducible rfl
          try simp only [List.getElem_toArray, List.getElem_cons_zero, List.getElem_cons_succ, Act.put, List.setIfInBounds_toArray, List.set_cons_zero, List.set_cons_succ]
          refine wpAnyH_take (i := 10) (oi := _) (v := ?_) rfl (by kernel_rfl) (by kernel_rfl) (by kernel_rfl) (fun _ _ _ h => h) (Or.inl ⟨by rfl, ?_⟩) hHeld ?_
          rotate_left
          · intro w' hSw
            go_simp
            all_goals with_reducible rfl
          try simp only [List.getElem_toArray, List.getElem_cons_zero, List.getElem_cons_succ, Act.put, List.setIfInBounds_toArray, List.set_cons_zero, List.set_cons_succ]
          refine wpAnyH_ready (rs := [7]) (by kernel_rfl) (by simp) ?_
          refine AllReadyH.cons (o := _) rfl (fun K hK => ?_) AllReadyH.nil
          go_simp
          refine (HW1.out _ hHeld.2).mono ?_
          rintro e w21 ⟨v21, rfl, hown21, hb21⟩
          have D21 := hown21.conv
          go_wp2_with fail
          refine hK.out _ _ (HS.out _ (HO.out _ _ hHeld.2 hb21)) ?_
          clear hK K hHeld
          intro hHeld
          try simp only [List.getElem_toArray, List.getElem_cons_zero, List.getElem_cons_succ, Act.put, List.setIfInBounds_toArray, List.set_cons_zero, List.set_cons_succ]
          refine wpAnyH_ready (rs := [8]) (by kernel_rfl) (by simp) ?_
          refine AllReadyH.cons (o := _) rfl (fun K hK => ?_) AllReadyH.nil
          go_simp
          go_wp2_with fail
          refine hK.out _ _ hHeld ?_
          clear hK K hHeld
          intro hHeld
          try simp only [List.getElem_toArray, List.getElem_cons_zero, List.getElem_cons_succ, Act.put, List.setIfInBounds_toArray, List.set_cons_zero, List.set_cons_succ]
          clear D21 hown21 hb21
          refine wpAnyH_take (i := 11) (oi := _) (v := ?_) rfl (by kernel_rfl) (by kernel_rfl) (by kernel_rfl) (fun _ _ _ h => h) (Or.inl ⟨by rfl, ?_⟩) hHeld ?_
          rotate_left
          · intro w' hSw
            go_simp
            all_goals with_reducible rfl
          try simp only [List.getElem_toArray, List.getElem_cons_zero, List.getElem_cons_succ, Act.put, List.setIfInBounds_toArray, List.set_cons_zero, List.set_cons_succ]
          refine wpAnyH_take (i := 12) (oi := _) (v := ?_) rfl (by kernel_rfl) (by kernel_rfl) (by kernel_rfl) (fun _ _ _ h => h) (Or.inl ⟨by rfl, ?_⟩) hHeld ?_
          rotate_left
          · intro w' hSw
            go_simp
            all_goals with_reducible rfl
          try simp only [List.getElem_toArray, List.getElem_cons_zero, List.getElem_cons_succ, Act.put, List.setIfInBounds_toArray, List.set_cons_zero, List.set_cons_succ]
          refine wpAnyH_take (i := 13) (oi := _) (v := ?_) rfl (by kernel_rfl) (by kernel_rfl) (by kernel_rfl) (fun _ _ _ h => h) (Or.inl ⟨by rfl, ?_⟩) hHeld ?_
          rotate_left
          · intro w' hSw
            go_simp
            all_goals with_reducible rfl
          try simp only [List.getElem_toArray, List.getElem_cons_zero, List.getElem_cons_succ, Act.put, List.setIfInBounds_toArray, List.set_cons_zero, List.set_cons_succ]
          refine wpAnyH_take (i := 14) (oi := _) (v := ?_) rfl (by kernel_rfl) (by kernel_rfl) (by kernel_rfl) (fun _ _ _ h => h) (Or.inl ⟨by rfl, ?_⟩) hHeld ?_
          rotate_left
          · intro w' hSw
            go_simp
            all_goals with_reducible rfl
          try simp only [List.getElem_toArray, List.getElem_cons_zero, List.getElem_cons_succ, Act.put, List.setIfInBounds_toArray, List.set_cons_zero, List.set_cons_succ]
          refine wpAnyH_take (i := 17) (oi := _) (v := ?_) rfl (by kernel_rfl) (by kernel_rfl) (by kernel_rfl) (fun _ _ _ h => h) (Or.inl ⟨by rfl, ?_⟩) hHeld ?_
          rotate_left
          · intro w' hSw
            go_simp
            all_goals with_reducible rfl
          try simp only [List.getElem_toArray, List.getElem_cons_zero, List.getElem_cons_succ, Act.put, List.setIfInBounds_toArray, List.set_cons_zero, List.set_cons_succ]
          refine wpAnyH_take (i := 18) (oi := _) (v := ?_) rfl (by kernel_rfl) (by kernel_rfl) (by kernel_rfl) (fun _ _ _ h => h) (Or.inl ⟨by rfl, ?_⟩) hHeld ?_
          rotate_left
          · intro w' hSw
            go_simp
            all_goals with_reducible rfl
          try simp only [List.getElem_toArray, List.getElem_cons_zero, List.getElem_cons_succ, Act.put, List.setIfInBounds_toArray, List.set_cons_zero, List.set_cons_succ]
          refine wpAnyH_ready (rs := [15]) (by kernel_rfl) (by simp) ?_
          refine AllReadyH.cons (o := _) rfl (fun K hK => ?_) AllReadyH.nil
          go_simp
          refine (HW2.out _ hHeld.2).mono ?_
          rintro e w22 ⟨v22, rfl, hown22, hb22⟩
          have D22 := hown22.conv
          go_wp2_with fail
          refine hK.out _ _ (HS.out _ (HO.out _ _ hHeld.2 hb22)) ?_
          clear hK K hHeld
          intro hHeld
          try simp only [List.getElem_toArray, List.getElem_cons_zero, List.getElem_cons_succ, Act.put, List.setIfInBounds_toArray, List.set_cons_zero, List.set_cons_succ]
          refine wpAnyH_ready (rs := [16]) (by kernel_rfl) (by simp) ?_
          refine AllReadyH.cons (o := _) rfl (fun K hK => ?_) AllReadyH.nil
          go_simp
          go_wp2_with fail
          refine hK.out _ _ hHeld ?_
          clear hK K hHeld
          intro hHeld
          try simp only [List.getElem_toArray, List.getElem_cons_zero, List.getElem_cons_succ, Act.put, List.setIfInBounds_toArray, List.set_cons_zero, List.set_cons_succ]
          clear D22 hown22 hb22
          refine wpAnyH_take (i := 19) (oi := _) (v := ?_) rfl (by kernel_rfl) (by kernel_rfl) (by kernel_rfl) (fun _ _ _ h => h) (Or.inl ⟨by rfl, ?_⟩) hHeld ?_
          rotate_left
          · intro w' hSw
            go_simp
            all_goals with_reducible rfl
          try simp only [List.getElem_toArray, List.getElem_cons_zero, List.getElem_cons_succ, Act.put, List.setIfInBounds_toArray, List.set_cons_zero, List.set_cons_succ]
          refine wpAnyH_take (i := 20) (oi := _) (v := ?_) rfl (by kernel_rfl) (by kernel_rfl) (by kernel_rfl) (fun _ _ _ h => h) (Or.inl ⟨by rfl, ?_⟩) hHeld ?_
          rotate_left
          · intro w' hSw
            go_simp
            all_goals with_reducible rfl
          try simp only [List.getElem_toArray, List.getElem_cons_zero, List.getElem_cons_succ, Act.put, List.setIfInBounds_toArray, List.set_cons_zero, List.set_cons_succ]
          refine wpAnyH_take (i := 21) (oi := _) (v := ?_) rfl (by kernel_rfl) (by kernel_rfl) (by kernel_rfl) (fun _ _ _ h => h) (Or.inl ⟨by rfl, ?_⟩) hHeld ?_
          rotate_left
          · intro w' hSw
            go_simp
            all_goals with_reducible rfl
          try simp only [List.getElem_toArray, List.getElem_cons_zero, List.getElem_cons_succ, Act.put, List.setIfInBounds_toArray, List.set_cons_zero, List.set_cons_succ]
          refine wpAnyH_take (i := 22) (oi := _) (v := ?_) rfl (by kernel_rfl) (by kernel_rfl) (by kernel_rfl) (fun _ _ _ h => h) (Or.inl ⟨by rfl, ?_⟩) hHeld ?_
          rotate_left
          · intro w' hSw
            go_simp
            all_goals with_reducible rfl
          try simp only [List.getElem_toArray, List.getElem_cons_zero, List.getElem_cons_succ, Act.put, List.setIfInBounds_toArray, List.set_cons_zero, List.set_cons_succ]
          refine wpAnyH_ready (rs := [23]) (by kernel_rfl) (by simp) ?_
          refine AllReadyH.cons (o := _) rfl (fun K hK => ?_) AllReadyH.nil
          go_simp
          refine (wbytes_nil _).mono ?_
          rintro e w23 ⟨rfl, rfl⟩
          go_wp2_with fail
          refine hK.out _ _ hHeld ?_
          clear hK K hHeld
          intro hHeld
          try simp only [List.getElem_toArray, List.getElem_cons_zero, List.getElem_cons_succ, Act.put, List.setIfInBounds_toArray, List.set_cons_zero, List.set_cons_succ]
          refine wpAnyH_take (i := 24) (oi := _) (v := ?_) rfl (by kernel_rfl) (by kernel_rfl) (by kernel_rfl) (fun _ _ _ h => h) (Or.inl ⟨by rfl, ?_⟩) hHeld ?_
          rotate_left
          · intro w' hSw
            go_simp
            all_goals with_reducible rfl
          try simp only [List.getElem_toArray, List.getElem_cons_zero, List.getElem_cons_succ, Act.put, List.setIfInBounds_toArray, List.set_cons_zero, List.set_cons_succ]
          refine wpAnyH_take (i := 25) (oi := _) (v := ?_) rfl (by kernel_rfl) (by kernel_rfl) (by kernel_rfl) (fun _ _ _ h => h) (Or.inl ⟨by rfl, ?_⟩) hHeld ?_
          rotate_left
          · intro w' hSw
            go_simp
            all_goals with_reducible rfl
          try simp only [List.getElem_toArray, List.getElem_cons_zero, List.getElem_cons_succ, Act.put, List.setIfInBounds_toArray, List.set_cons_zero, List.set_cons_succ]
          refine wpAnyH_take (i := 26) (oi := _) (v := ?_) rfl (by kernel_rfl) (by kernel_rfl) (by kernel_rfl) (fun _ _ _ h => h) (Or.inl ⟨by rfl, ?_⟩) hHeld ?_
          rotate_left
          · intro w' hSw
            go_simp
            all_goals with_reducible rfl
          try simp only [List.getElem_toArray, List.getElem_cons_zero, List.getElem_cons_succ, Act.put, List.setIfInBounds_toArray, List.set_cons_zero, List.set_cons_succ]
          refine wpAnyH_take (i := 27) (oi := _) (v := ?_) rfl (by kernel_rfl) (by kernel_rfl) (by kernel_rfl) (fun _ _ _ h => h) (Or.inl ⟨by rfl, ?_⟩) hHeld ?_
          rotate_left
          · intro w' hSw
            go_simp
            all_goals with_reducible rfl
          try simp only [List.getElem_toArray, List.getElem_cons_zero, List.getElem_cons_succ, Act.put, List.setIfInBounds_toArray, List.set_cons_zero, List.set_cons_succ]
          refine wpAnyH_take (i := 28) (oi := _) (v := ?_) rfl (by kernel_rfl) (by kernel_rfl) (by kernel_rfl) (fun _ _ _ h => h) (Or.inl ⟨by rfl, ?_⟩) hHeld ?_
          rotate_left
          · intro w' hSw
            go_simp
            all_goals with_reducible rfl
          try simp only [List.getElem_toArray, List.getElem_cons_zero, List.getElem_cons_succ, Act.put, List.setIfInBounds_toArray, List.set_cons_zero, List.set_cons_succ]
          refine wpAnyH_ready (rs := [29]) (by kernel_rfl) (by simp) ?_
          refine AllReadyH.cons (o := _) rfl (fun K hK => ?_) AllReadyH.nil
          go_simp
          refine (wlen_nil _).mono ?_
          rintro e w24 ⟨rfl, rfl⟩
          go_wp2_with fail
          refine hK.out _ _ hHeld ?_
          clear hK K hHeld
          intro hHeld
          try simp only [List.getElem_toArray, List.getElem_cons_zero, List.getElem_cons_succ, Act.put, List.setIfInBounds_toArray, List.set_cons_zero, List.set_cons_succ]
          refine wpAnyH_take (i := 30) (oi := _) (v := ?_) rfl (by kernel_rfl) (by kernel_rfl) (by kernel_rfl) (fun _ _ _ h => h) (Or.inl ⟨by rfl, ?_⟩) hHeld ?_
          rotate_left
          · intro w' hSw
            go_simp
            all_goals with_reducible rfl
          try simp only [List.getElem_toArray, List.getElem_cons_zero, List.getElem_cons_succ, Act.put, List.setIfInBounds_toArray, List.set_cons_zero, List.set_cons_succ]
          refine wpAnyH_take (i := 31) (oi := _) (v := ?_) rfl (by kernel_rfl) (by kernel_rfl) (by kernel_rfl) (fun _ _ _ h => h) (Or.inl ⟨by rfl, ?_⟩) hHeld ?_
          rotate_left
          · intro w' hSw
            go_simp
            all_goals with_reducible rfl
          try simp only [List.getElem_toArray, List.getElem_cons_zero, List.getElem_cons_succ, Act.put, List.setIfInBounds_toArray, List.set_cons_zero, List.set_cons_succ]
          refine wpAnyH_take (i := 32) (oi := _) (v := ?_) rfl (by kernel_rfl) (by kernel_rfl) (by kernel_rfl) (fun _ _ _ h => h) (Or.inl ⟨by rfl, ?_⟩) hHeld ?_
          rotate_left
          · intro w' hSw
            go_simp
            all_goals with_reducible rfl
          try simp only [List.getElem_toArray, List.getElem_cons_zero, List.getElem_cons_succ, Act.put, List.setIfInBounds_toArray, List.set_cons_zero, List.set_cons_succ]
          refine wpAnyH_ready (rs := [33]) (by kernel_rfl) (by simp) ?_
          refine AllReadyH.cons (o := _) rfl (fun K hK => ?_) AllReadyH.nil
          go_simp
          refine (awake_any _).mono ?_
          rintro e w25 ⟨rfl, hb25⟩
          go_wp2_with fail
          refine hK.out _ _ (HS.out _ (HO.out _ _ hHeld.2 hb25)) ?_
          clear hK K hHeld
          intro hHeld
          try simp only [List.getElem_toArray, List.getElem_cons_zero, List.getElem_cons_succ, Act.put, List.setIfInBounds_toArray, List.set_cons_zero, List.set_cons_succ]
          refine wpAnyH_take (i := 34) (oi := _) (v := ?_) rfl (by kernel_rfl) (by kernel_rfl) (by kernel_rfl) (fun _ _ _ h => h) (Or.inl ⟨by rfl, ?_⟩) hHeld ?_
          rotate_left
          · intro w' hSw
            go_simp
            all_goals with_reducible rfl
          try simp only [List.getElem_toArray, List.getElem_cons_zero, List.getElem_cons_succ, Act.put, List.setIfInBounds_toArray, List.set_cons_zero, List.set_cons_succ]
          refine wpAnyH_take (i := 35) (oi := _) (v := ?_) rfl (by kernel_rfl) (by kernel_rfl) (by kernel_rfl) (fun _ _ _ h => h) (Or.inl ⟨by rfl, ?_⟩) hHeld ?_
          rotate_left
          · intro w' hSw
            go_simp
            all_goals with_reducible rfl
          try simp only [List.getElem_toArray, List.getElem_cons_zero, List.getElem_cons_succ, Act.put, List.setIfInBounds_toArray, List.set_cons_zero, List.set_cons_succ]
          refine wpAnyH_done (by kernel_rfl) ?_ _
          have hbe := HF.out _ hHeld.2
          clear hHeld
          go_wp2_with fail
          go_ret
          exact ⟨rfl, hbe⟩
end Go.Proofs.YtbbikkncobgabaaDoor
