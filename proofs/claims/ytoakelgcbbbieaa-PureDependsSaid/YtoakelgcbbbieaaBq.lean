/- The statement PureEvals, walked: for any expression, any values. -/
import Derived.Test.YtoakelgcbbbieaaBp
namespace Go.Proofs.Ytoakelgcbbbieaa
open Go.RowKit Go.Maps Go.Shelf Go.Proofs.YtoakelgcbbbieaaW.PrintWords Go.Proofs.YtoakelgcbbbieaaW.PrintLast Go.Proofs.YtoakelgcbbbieaaW.PrintMore
set_option linter.unusedVariables false
set_option linter.unusedSimpArgs false
set_option maxRecDepth 100000

/-- the cells of an expression's box, in a later world -/
structure BoxX (W : World) (b : Nat) (x : S58) (A : Option Addr) (c : Nat) : Prop where
  h0 : W.cell? ⟨b, 0, none⟩ = some (.int .i64 x.f0)
  h1 : W.cell? ⟨b, 1, none⟩ = some (.string x.f1.f0)
  h2 : W.cell? ⟨b, 2, none⟩ = some (.int .i64 x.f1.f1)
  h3 : W.cell? ⟨b, 3, none⟩ = some (.int .i64 x.f2)
  h4 : W.cell? ⟨b, 4, none⟩ = some (.int .i64 x.f3)
  h5 : W.cell? ⟨b, 5, none⟩ = some (.int .i64 x.f4)
  h6 : W.cell? ⟨b, 6, none⟩ = some (.slice A x.f5.length c)
theorem boxX {W : World} {b : Nat} {x : S58} {A : Option Addr} {c : Nat} (hb : W.heap[b]? = some (.cells (eX x A c) 58 (0, 0))) : BoxX W b x A c :=
  ⟨(cell_blk hb 0).trans rfl, (cell_blk hb 1).trans rfl, (cell_blk hb 2).trans rfl, (cell_blk hb 3).trans rfl, (cell_blk hb 4).trans rfl, (cell_blk hb 5).trans rfl, (cell_blk hb 6).trans rfl⟩

structure BoxY (W : World) (b : Nat) (x : S75) (A : Option Addr) (c : Nat) : Prop where
  h0 : W.cell? ⟨b, 0, none⟩ = some (.int .i64 x.f0)
  h1 : W.cell? ⟨b, 1, none⟩ = some (.string x.f1.f0)
  h2 : W.cell? ⟨b, 2, none⟩ = some (.int .i64 x.f1.f1)
  h3 : W.cell? ⟨b, 3, none⟩ = some (.int .i64 x.f2)
  h4 : W.cell? ⟨b, 4, none⟩ = some (.int .i64 x.f3)
  h5 : W.cell? ⟨b, 5, none⟩ = some (.int .i64 x.f4)
  h6 : W.cell? ⟨b, 6, none⟩ = some (.slice A x.f5.length c)
theorem boxY {W : World} {b : Nat} {x : S75} {A : Option Addr} {c : Nat} (hb : W.heap[b]? = some (.cells (eY x A c) 75 (0, 0))) : BoxY W b x A c :=
  ⟨(cell_blk hb 0).trans rfl, (cell_blk hb 1).trans rfl, (cell_blk hb 2).trans rfl, (cell_blk hb 3).trans rfl, (cell_blk hb 4).trans rfl, (cell_blk hb 5).trans rfl, (cell_blk hb 6).trans rfl⟩

set_option maxHeartbeats 4000000 in
theorem PureEvals_walk {w : World} {x : S58} {A6 A : Option Addr} {c6 c : Nat} {l : List S97} (hC : Kd.C k58 w A6 x.f5.length x.f5) (hc : x.f5.length ≤ c6) (hG : G58 x) (hL : Kd.C k97 w A l.length l) (hs : ∀ y ∈ l, y.f0.size ≤ maxLen) :
    Calls Try.prog 7 #[.agg (eX x A6 c6), .slice A l.length c] w fun e w' => e = .returned (.bool true) ∧ Below w.heap.size w w' := by
  have hE0 : ∀ w : World, (Op.equalIn 10000 67 (.agg #[.int .i64 0, .int .i64 0]) (.agg #[.int .i64 0, .int .i64 0])).run Try.prog w = .ok true w := fun w => by kernel_rfl
  have HC := Lib.hid hC
  have HG := Lib.hid hG
  have HL := Lib.hid hL
  have HS := Lib.hid hs
  have Hc := Lib.hid hc
  obtain ⟨W1, hW1⟩ : ∃ W1, W1 = w.alloc (.cells (eX x A6 c6) 58) := ⟨_, rfl⟩
  have HB1 := Lib.hid (show Below w.heap.size w W1 by rw [hW1]; exact (Below.refl _ _).alloc (Nat.le_refl _) _)
  have HX1 := Lib.hid (show W1.heap[w.heap.size]? = some (.cells (eX x A6 c6) 58 (0, 0)) by rw [hW1]; exact World.alloc_heap_new w _)
  have HS1 := Lib.hid (show W1.heap.size = w.heap.size + 1 by rw [hW1]; simp)
  have HW1 := Lib.hid hW1
  clear hC hG hL hs hc hW1
  go_enter Try.func7, Try.ntmps7
  go_wp2_with fail
  rw [← HW1.out]
  refine (alive27_calls W1).mono ?_
  rintro e w2 ⟨rfl, h2⟩
  have HB2 := Lib.hid (HB1.out.trans (h2.mono HB1.out.size))
  have HX2 := Lib.hid ((h2.block w.heap.size (by have := HS1.out; omega)).trans HX1.out)
  have hs2 : w.heap.size < w2.heap.size := by have := h2.size; have := HS1.out; omega
  obtain ⟨b0, b1, b2, b3, b4, b5, b6⟩ := boxX HX2.out
  clear h2
  go_wp2_with fail
  obtain ⟨b, hb, hlarge⟩ := large_calls (Kd.C_below HC.out HB2.out) Hc.out HG.out
  refine hlarge.mono ?_
  rintro e w3 ⟨rfl, h3⟩
  have HBb := Lib.hid hb
  have HB3 := Lib.hid (HB2.out.trans (h3.mono HB2.out.size))
  have HX3 := Lib.hid ((h3.block w.heap.size hs2).trans HX2.out)
  have hs3 : w.heap.size < w3.heap.size := by have := h3.size; omega
  clear h3 hlarge hb b0 b1 b2 b3 b4 b5 b6
  cases b
  case true =>
    go_wp2
    all_goals first
      | (rename_i hu1 hu2; cases hu1; done)
      | (refine ⟨trivial, ?_⟩
         go_wp2
         go_ret
         exact ⟨rfl, HB3.out⟩)
      | (go_ret; exact ⟨rfl, HB3.out⟩)
  case false =>
    by_cases h30 : (30 : Int) < (l.length : Int)
    · go_wp2
      all_goals (go_ret; exact ⟨rfl, HB3.out⟩)
    · have hfl := HBb.out rfl
      have HFL := Lib.hid hfl
      clear HBb hfl
      obtain ⟨b0, b1, b2, b3, b4, b5, b6⟩ := boxX HX3.out
      go_wp2_with fail
      refine (values_calls (Kd.C_below HL.out HB3.out) HS.out).mono ?_
      rintro e w4 ⟨ma, mb, rfl, hMa, hMb, hma, hmb, h4⟩
      have HMa := Lib.hid hMa
      have HMb := Lib.hid hMb
      have HB4 := Lib.hid (HB3.out.trans (h4.mono HB3.out.size))
      have HX4 := Lib.hid ((h4.block w.heap.size hs3).trans HX3.out)
      have hs4 : w.heap.size < w4.heap.size := by have := h4.size; omega
      clear h4 b0 b1 b2 b3 b4 b5 b6 hMa hMb
      obtain ⟨b0, b1, b2, b3, b4, b5, b6⟩ := boxX HX4.out
      go_wp2_with fail
      refine (Eval_calls (Kd.C_below HC.out HB4.out) HMa.out (gn_of HG.out)).mono ?_
      obtain ⟨⟨⟨pk, pn⟩, o⟩, hvo⟩ : ∃ r, r = evalP (toldF l) x := ⟨_, rfl⟩
      rw [← hvo]
      have HVO := Lib.hid hvo
      rintro e w5 ⟨rfl, h5⟩
      have HB5 := Lib.hid (HB4.out.trans (h5.mono HB4.out.size))
      have HX5 := Lib.hid ((h5.block w.heap.size hs4).trans HX4.out)
      have HMb5 := Lib.hid (HMb.out.below h5)
      have hs5 : w.heap.size < w5.heap.size := by have := h5.size; omega
      clear h5 b0 b1 b2 b3 b4 b5 b6 hvo
      obtain ⟨b0, b1, b2, b3, b4, b5, b6⟩ := boxX HX5.out
      dsimp only [encP]
      go_wp2_with fail
      obtain ⟨w6, hw6⟩ : ∃ w6, w6 = w5.alloc (.cells #[.int .i64 pk, .int .i64 pn] 67) := ⟨_, rfl⟩
      have h6 : Below w5.heap.size w5 w6 := by rw [hw6]; exact (Below.refl _ _).alloc (Nat.le_refl _) _
      have HB6 := Lib.hid (HB5.out.trans (h6.mono HB5.out.size))
      have HV6 := Lib.hid (show w6.heap[w5.heap.size]? = some (.cells #[.int .i64 pk, .int .i64 pn] 67 (0, 0)) by rw [hw6]; exact World.alloc_heap_new w5 _)
      have HMb6 := Lib.hid (HMb5.out.below h6)
      have hs6 : w5.heap.size < w6.heap.size := by rw [hw6]; simp
      rw [← hw6]
      clear h6 hw6 b0 b1 b2 b3 b4 b5 b6
      refine (Exp_calls (Kd.C_below HC.out HB6.out) Hc.out (by have := HFL.out; omega)).mono ?_
      rintro e w7 ⟨A7, d7, rfl, hd7, hC7, h7⟩
      have HC7 := Lib.hid hC7
      have Hd7 := Lib.hid hd7
      have HB7 := Lib.hid (HB6.out.trans (h7.mono HB6.out.size))
      have HV7 := Lib.hid ((h7.block _ hs6).trans HV6.out)
      have HMb7 := Lib.hid (HMb6.out.below h7)
      have hs7 : w5.heap.size < w7.heap.size := by have := h7.size; omega
      clear h7 hC7 hd7
      obtain ⟨y, hy⟩ : ∃ y, y = conv x := ⟨_, rfl⟩
      have HY := Lib.hid hy
      rw [← hy] at HC7 Hd7 ⊢
      clear hy
      go_wp2_with fail
      obtain ⟨w8, hw8⟩ : ∃ w8, w8 = w7.alloc (.cells (eY y A7 d7) 75) := ⟨_, rfl⟩
      have h8 : Below w7.heap.size w7 w8 := by rw [hw8]; exact (Below.refl _ _).alloc (Nat.le_refl _) _
      have HB8 := Lib.hid (HB7.out.trans (h8.mono HB7.out.size))
      have HY8 := Lib.hid (show w8.heap[w7.heap.size]? = some (.cells (eY y A7 d7) 75 (0, 0)) by rw [hw8]; exact World.alloc_heap_new w7 _)
      have HV8 := Lib.hid ((h8.block _ hs7).trans HV7.out)
      have HMb8 := Lib.hid (HMb7.out.below h8)
      have HC8 := Lib.hid (Kd.C_below HC7.out h8)
      have hs8 : w7.heap.size < w8.heap.size := by rw [hw8]; simp
      have HW8 := Lib.hid hw8
      clear h8 hw8
      rw [← HW8.out]
      have hSh := Shaped_calls (w := w8) (x := x) (A6 := A7) (c6 := d7) (by rw [← HY.out]; exact HC8.out) (by rw [← HY.out]; exact Hd7.out) (by have := HFL.out; omega)
      rw [← HY.out] at hSh
      refine hSh.mono ?_
      rintro e w9 ⟨rfl, h9⟩
      have HB9 := Lib.hid (HB8.out.trans (h9.mono HB8.out.size))
      have HV9 := Lib.hid ((h9.block _ (by omega)).trans HV8.out)
      have HY9 := Lib.hid ((h9.block _ hs8).trans HY8.out)
      have HMb9 := Lib.hid (HMb8.out.below h9)
      have HC9 := Lib.hid (Kd.C_below HC8.out h9)
      have hs9 : w7.heap.size < w9.heap.size := by have := h9.size; omega
      have v0 : w9.cell? ⟨w5.heap.size, 0, none⟩ = some (.int .i64 pk) := (cell_blk HV9.out 0).trans rfl
      have v1 : w9.cell? ⟨w5.heap.size, 1, none⟩ = some (.int .i64 pn) := (cell_blk HV9.out 1).trans rfl
      clear h9 hSh
      by_cases hsh : shapedB x = true
      · have hlaw := ev_law (toldF l) x hsh
        have hev : ∃ bad, namesakenum_Num.f o = some bad ∧ evR (toldF l) y = ((pk, pn), bad) := by
          have h1 := HVO.out
          unfold evalP at h1
          rw [if_pos hsh] at h1
          rw [HY.out]
          obtain ⟨g1, g2⟩ := hlaw
          by_cases he : (evP (toldF l) x 0).2 = 0
          · rw [if_pos he] at h1 g2
            injection h1 with h1 h2
            subst h2
            refine ⟨0, rfl, ?_⟩
            rw [h1, ← g2, ← he, ← g1]
          · rw [if_neg he] at h1 g2
            injection h1 with h1 h2
            subst h2
            refine ⟨(evP (toldF l) x 0).2, ?_, ?_⟩
            · show (if (some (evP (toldF l) x 0).2).isNone = true then some 0 else if (some (evP (toldF l) x 0).2).getD 0 = 0 then some (-1) else some ((some (evP (toldF l) x 0).2).getD 0)) = _
              rw [if_neg (by simp), if_neg (by simpa using he)]; rfl
            · rw [h1, ← g1, ← g2]
        obtain ⟨bad, hnum, hbad⟩ := hev
        have hEV := ev_ok (mb := mb) (m := toldF l) (shR_conv x hsh (gn_of HG.out))
        rw [← HY.out] at hEV
        rw [hsh]
        have HEV := Lib.hid hEV
        have HNUM := Lib.hid hnum
        have HBAD := Lib.hid hbad
        obtain ⟨y0, y1, y2, y3, y4, y5, y6⟩ : BoxY w9 w7.heap.size y A7 d7 := boxY HY9.out
        clear hEV hnum hbad hlaw hsh HVO HV8 HV7 HV6
        go_wp2_with fail
        refine (HEV.out A7 d7 w9 HC9.out HMb9.out).mono ?_
        rw [HBAD.out]
        rintro e w10 ⟨rfl, h10⟩
        have HB10 := Lib.hid (HB9.out.trans (h10.mono HB9.out.size))
        have hs10 : w5.heap.size < w10.heap.size := by have := h10.size; omega
        have v0' := cell_later h10 v0
        have v1' := cell_later h10 v1
        clear v0 v1 h10 y0 y1 y2 y3 y4 y5 y6
        dsimp only [encP]
        go_wp2_with (go_at_call 41; refine (namesakenum_Num.calls o bad _ HNUM.out).mono ?_; rintro e w11 ⟨rfl, ⟨nd, rfl⟩⟩)
        go_ret
        have h11 : Below w10.heap.size w10 (w10.alloc (.cells #[.int .i64 pk, .int .i64 pn] 81)) := (Below.refl _ _).alloc (Nat.le_refl _) _
        exact ⟨rfl, HB10.out.trans ((h11.trans ((below_drawn _ nd).mono h11.size)).mono HB10.out.size)⟩
      · have hsf : shapedB x = false := by simpa using hsh
        rw [hsf]
        have hev : ((pk, pn), o) = ((0, 0), some 13) := by rw [HVO.out]; unfold evalP; rw [if_neg hsh]
        injection hev with hev ho
        injection hev with hk hn
        subst hk hn ho
        have hIs := namesakenum_Is.calls (some 13) 13 true w9 rfl
        clear HVO HV8 HV7 HV6
        go_wp2_with fail
        refine hIs.mono ?_
        rintro e w10 ⟨rfl, ⟨nd, rfl⟩⟩
        have h10 := below_drawn w9 nd
        go_wp2
        go_ret
        exact ⟨rfl, HB9.out.trans (h10.mono HB9.out.size)⟩
end Go.Proofs.Ytoakelgcbbbieaa
