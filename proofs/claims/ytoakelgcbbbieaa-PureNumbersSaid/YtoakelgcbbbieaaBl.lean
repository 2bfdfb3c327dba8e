/- The value of any expression as the document reckons it: Eval at two numbers; at any expression. -/
import Derived.Test.YtoakelgcbbbieaaBk
namespace Go.Proofs.Ytoakelgcbbbieaa
open Go.RowKit Go.Maps Go.Shelf Go.Proofs.YtoakelgcbbbieaaW.PrintWords Go.Proofs.YtoakelgcbbbieaaW.PrintLast Go.Proofs.YtoakelgcbbbieaaW.PrintMore
set_option linter.unusedVariables false
set_option linter.unusedSimpArgs false
set_option maxRecDepth 100000

set_option maxHeartbeats 4000000 in
theorem ev_two {mb : Nat} {m : ByteArray → Option (Int × Int)} {k : Int} (hk : k = 17 ∨ k = 18 ∨ k = 19 ∨ k = 20) {f1 : S72} {f2 f3 f4 : Int} {a b : S75} (hE : EvOK mb m a) (hE2 : EvOK mb m b) : EvOK mb m ⟨k, f1, f2, f3, f4, [a, b]⟩ := by
  intro A6 c6 W hC hM
  have q25 : (k == 25) = false := by rcases hk with rfl | rfl | rfl | rfl <;> rfl
  have q26 : (k == 26) = false := by rcases hk with rfl | rfl | rfl | rfl <;> rfl
  have q27 : (k == 27) = false := by rcases hk with rfl | rfl | rfl | rfl <;> rfl
  have q28 : (k == 28) = false := by rcases hk with rfl | rfl | rfl | rfl <;> rfl
  have q29 : (k == 29) = false := by rcases hk with rfl | rfl | rfl | rfl <;> rfl
  have q21 : (k == 21) = false := by rcases hk with rfl | rfl | rfl | rfl <;> rfl
  have q16 : (k == 16) = false := by rcases hk with rfl | rfl | rfl | rfl <;> rfl
  obtain ⟨ad, B6, d6, B7, d7, rfl, hK, hCk, k2, hCk2⟩ := kidsY_two hC
  have hbl := cell_block hK.h0
  have K2 := Lib.hid k2
  obtain ⟨h0, h1, h2, h3, h4, h5, h6⟩ := hK
  obtain ⟨r, hr⟩ : ∃ r, r = ofR (evR m a) 1 := ⟨_, rfl⟩
  obtain ⟨r2, hr2⟩ : ∃ r2, r2 = ofR (evR m b) 1 := ⟨_, rfl⟩
  have HE0 : evR m ⟨k, f1, f2, f3, f4, [a, b]⟩ = if r.2 ≠ 0 then ((0, 0), r.2) else if r2.2 ≠ 0 then ((0, 0), r2.2) else (twoP k r.1 r2.1, 0) := by rw [evR_eq, hr, hr2]; rcases hk with rfl | rfl | rfl | rfl <;> rfl
  have HR := Lib.hid hr
  have HR2 := Lib.hid hr2
  obtain ⟨n, er⟩ := r
  obtain ⟨n2, er2⟩ := r2
  obtain ⟨W1, hW1⟩ : ∃ W1, W1 = (W.alloc (.cells (eY ⟨k, f1, f2, f3, f4, [a, b]⟩ (some ad) c6) 75)).alloc (.cells #[.int .i64 0, .int .i64 0] 81) := ⟨_, rfl⟩
  obtain ⟨hnew, hb1⟩ := two_allocs W (.cells (eY ⟨k, f1, f2, f3, f4, [a, b]⟩ (some ad) c6) 75) #[.int .i64 0, .int .i64 0] 81
  rw [← hW1] at hnew hb1
  have HX := Lib.hid (show W1.heap[W.heap.size]? = some (.cells (eY ⟨k, f1, f2, f3, f4, [a, b]⟩ (some ad) c6) 75 (0, 0)) by
    rw [hW1]
    exact (Below.heap_alloc _ _ _ (by simp)).trans (World.alloc_heap_new W _))
  have HO := Lib.hid (ofR_calls hE (c6 := d6) (Kd.C_below hCk hb1) (hM.below hb1) 1)
  have HO2 := Lib.hid (fun (w : World) (hb : Below W.heap.size W w) => ofR_calls hE2 (c6 := d7) (Kd.C_below hCk2 hb) (hM.below hb) 1)
  have HB1 := Lib.hid hb1
  have HN := Lib.hid hnew
  have HW1 := Lib.hid hW1
  have HS1 := Lib.hid (show W1.heap.size = W.heap.size + 2 by rw [hW1]; simp)
  clear hr hr2 hW1 hnew hb1 hC hM hCk hCk2 hE hE2 k2
  by_cases he : er = 0
  · subst he
    by_cases he2 : er2 = 0
    · subst he2
      have HE1 : evR m ⟨k, f1, f2, f3, f4, [a, b]⟩ = (twoP k n n2, 0) := by rw [HE0, if_neg (by simp), if_neg (by simp)]
      clear HE0
      rcases hk with rfl | rfl | rfl | rfl
      · have HE := Lib.hid (show evR m ⟨17, f1, f2, f3, f4, [a, b]⟩ = (truthP (decide (n < n2)), 0) from HE1)
        clear HE1
        go_enter Try.func40, Try.ntmps40
        go_wp2_with fail
        rw [← HW1.out]
        refine HO.out.mono ?_
        rw [← HR.out]
        rintro e w2 ⟨rfl, hd⟩
        have HD := Lib.hid hd
        have HK2 := Lib.hid ((hd.block (W.heap.size + 1) (by have := HS1.out; omega)).trans HN.out)
        have HX2 := Lib.hid ((hd.block W.heap.size (by have := HS1.out; omega)).trans HX.out)
        have HB2 := Lib.hid (HB1.out.trans (hd.mono HB1.out.size))
        clear hd h0 h1 h2 h3 h4 h5 h6 hbl
        have hc0 : w2.cell? ⟨W.heap.size + 1, 0, none⟩ = some (.int .i64 0) := (cell_blk HK2.out 0).trans rfl
        have hc1 : w2.cell? ⟨W.heap.size + 1, 1, none⟩ = some (.int .i64 0) := (cell_blk HK2.out 1).trans rfl
        have hf := frozen_blk HK2.out
        have hx5 : w2.cell? ⟨W.heap.size, 6, none⟩ = some (.slice (some ad) 2 c6) := (cell_blk HX2.out 6).trans rfl
        obtain ⟨h0, h1, h2, h3, h4, h5, h6⟩ := (K2.out.later HB2.out).second
        clear hc0 hc1 hf
        go_wp2_with (first
          | (go_at_call 72; refine (HO2.out _ HB2.out).mono ?_; rw [← HR2.out]; rintro e w4 ⟨rfl, hd4⟩; (have HK4 := Lib.hid ((hd4.block (W.heap.size + 1) (Array.getElem?_eq_some_iff.1 HK2.out).1).trans HK2.out)); (have HX4 := Lib.hid ((hd4.block W.heap.size (Array.getElem?_eq_some_iff.1 HX2.out).1).trans HX2.out)); (have HB4 := Lib.hid (HB2.out.trans (hd4.mono HB2.out.size))); clear hd4; (have g0 : w4.cell? ⟨W.heap.size, 0, none⟩ = some (.int .i64 17) := (cell_blk HX4.out 0).trans rfl); (have hc0 : w4.cell? ⟨W.heap.size + 1, 0, none⟩ = some (.int .i64 0) := (cell_blk HK4.out 0).trans rfl); (have hc1 : w4.cell? ⟨W.heap.size + 1, 1, none⟩ = some (.int .i64 0) := (cell_blk HK4.out 1).trans rfl); (have hf := frozen_blk HK4.out))
          | (go_at_call 71; refine (namesakeref27_truth.calls (decide (n < n2)) _ _ _ (rtruth_f _)).mono ?_; rintro e w5 ⟨rfl, hd5⟩; (have HD5 := Lib.hid hd5); (have HK5 := Lib.hid ((hd5.block _ (Array.getElem?_eq_some_iff.1 HK4.out).1).trans HK4.out)); clear hd5 hc0 hc1 hf; (have hc0 : w5.cell? ⟨W.heap.size + 1, 0, none⟩ = some (.int .i64 0) := (cell_blk HK5.out 0).trans rfl); (have hc1 : w5.cell? ⟨W.heap.size + 1, 1, none⟩ = some (.int .i64 0) := (cell_blk HK5.out 1).trans rfl); have hf := frozen_blk HK5.out))
        exact fin40 HE.out rfl rfl HK5.out (Nat.le_succ _) (HB4.out.trans (HD5.out.mono HB4.out.size))
      · have HE := Lib.hid (show evR m ⟨18, f1, f2, f3, f4, [a, b]⟩ = ((1, wrN (wrap64 (n + n2))), 0) from HE1)
        clear HE1
        go_enter Try.func40, Try.ntmps40
        go_wp2_with fail
        rw [← HW1.out]
        refine HO.out.mono ?_
        rw [← HR.out]
        rintro e w2 ⟨rfl, hd⟩
        have HD := Lib.hid hd
        have HK2 := Lib.hid ((hd.block (W.heap.size + 1) (by have := HS1.out; omega)).trans HN.out)
        have HX2 := Lib.hid ((hd.block W.heap.size (by have := HS1.out; omega)).trans HX.out)
        have HB2 := Lib.hid (HB1.out.trans (hd.mono HB1.out.size))
        clear hd h0 h1 h2 h3 h4 h5 h6 hbl
        have hc0 : w2.cell? ⟨W.heap.size + 1, 0, none⟩ = some (.int .i64 0) := (cell_blk HK2.out 0).trans rfl
        have hc1 : w2.cell? ⟨W.heap.size + 1, 1, none⟩ = some (.int .i64 0) := (cell_blk HK2.out 1).trans rfl
        have hf := frozen_blk HK2.out
        have hx5 : w2.cell? ⟨W.heap.size, 6, none⟩ = some (.slice (some ad) 2 c6) := (cell_blk HX2.out 6).trans rfl
        obtain ⟨h0, h1, h2, h3, h4, h5, h6⟩ := (K2.out.later HB2.out).second
        clear hc0 hc1 hf
        go_wp2_with (first
          | (go_at_call 72; refine (HO2.out _ HB2.out).mono ?_; rw [← HR2.out]; rintro e w4 ⟨rfl, hd4⟩; (have HK4 := Lib.hid ((hd4.block (W.heap.size + 1) (Array.getElem?_eq_some_iff.1 HK2.out).1).trans HK2.out)); (have HX4 := Lib.hid ((hd4.block W.heap.size (Array.getElem?_eq_some_iff.1 HX2.out).1).trans HX2.out)); (have HB4 := Lib.hid (HB2.out.trans (hd4.mono HB2.out.size))); clear hd4; (have g0 : w4.cell? ⟨W.heap.size, 0, none⟩ = some (.int .i64 18) := (cell_blk HX4.out 0).trans rfl); (have hc0 : w4.cell? ⟨W.heap.size + 1, 0, none⟩ = some (.int .i64 0) := (cell_blk HK4.out 0).trans rfl); (have hc1 : w4.cell? ⟨W.heap.size + 1, 1, none⟩ = some (.int .i64 0) := (cell_blk HK4.out 1).trans rfl); (have hf := frozen_blk HK4.out))
          | (go_at_call 45; refine (namesakeref27_Wrap.calls (wrap64 (n + n2)) (wrN (wrap64 (n + n2))) _ (wrapR _)).mono ?_; rintro e w5 ⟨rfl, ⟨nd, rfl⟩⟩; (have HD5 := Lib.hid (below_drawn w4 nd)); (have HK5 := Lib.hid ((HD5.out.block _ (Array.getElem?_eq_some_iff.1 HK4.out).1).trans HK4.out))))
        exact fin40 HE.out rfl rfl HK5.out (Nat.le_succ _) (HB4.out.trans (HD5.out.mono HB4.out.size))
      · have HE := Lib.hid (show evR m ⟨19, f1, f2, f3, f4, [a, b]⟩ = ((1, wrN (wrap64 (n - n2))), 0) from HE1)
        clear HE1
        go_enter Try.func40, Try.ntmps40
        go_wp2_with fail
        rw [← HW1.out]
        refine HO.out.mono ?_
        rw [← HR.out]
        rintro e w2 ⟨rfl, hd⟩
        have HD := Lib.hid hd
        have HK2 := Lib.hid ((hd.block (W.heap.size + 1) (by have := HS1.out; omega)).trans HN.out)
        have HX2 := Lib.hid ((hd.block W.heap.size (by have := HS1.out; omega)).trans HX.out)
        have HB2 := Lib.hid (HB1.out.trans (hd.mono HB1.out.size))
        clear hd h0 h1 h2 h3 h4 h5 h6 hbl
        have hc0 : w2.cell? ⟨W.heap.size + 1, 0, none⟩ = some (.int .i64 0) := (cell_blk HK2.out 0).trans rfl
        have hc1 : w2.cell? ⟨W.heap.size + 1, 1, none⟩ = some (.int .i64 0) := (cell_blk HK2.out 1).trans rfl
        have hf := frozen_blk HK2.out
        have hx5 : w2.cell? ⟨W.heap.size, 6, none⟩ = some (.slice (some ad) 2 c6) := (cell_blk HX2.out 6).trans rfl
        obtain ⟨h0, h1, h2, h3, h4, h5, h6⟩ := (K2.out.later HB2.out).second
        clear hc0 hc1 hf
        go_wp2_with (first
          | (go_at_call 72; refine (HO2.out _ HB2.out).mono ?_; rw [← HR2.out]; rintro e w4 ⟨rfl, hd4⟩; (have HK4 := Lib.hid ((hd4.block (W.heap.size + 1) (Array.getElem?_eq_some_iff.1 HK2.out).1).trans HK2.out)); (have HX4 := Lib.hid ((hd4.block W.heap.size (Array.getElem?_eq_some_iff.1 HX2.out).1).trans HX2.out)); (have HB4 := Lib.hid (HB2.out.trans (hd4.mono HB2.out.size))); clear hd4; (have g0 : w4.cell? ⟨W.heap.size, 0, none⟩ = some (.int .i64 19) := (cell_blk HX4.out 0).trans rfl); (have hc0 : w4.cell? ⟨W.heap.size + 1, 0, none⟩ = some (.int .i64 0) := (cell_blk HK4.out 0).trans rfl); (have hc1 : w4.cell? ⟨W.heap.size + 1, 1, none⟩ = some (.int .i64 0) := (cell_blk HK4.out 1).trans rfl); (have hf := frozen_blk HK4.out))
          | (go_at_call 45; refine (namesakeref27_Wrap.calls (wrap64 (n - n2)) (wrN (wrap64 (n - n2))) _ (wrapR _)).mono ?_; rintro e w5 ⟨rfl, ⟨nd, rfl⟩⟩; (have HD5 := Lib.hid (below_drawn w4 nd)); (have HK5 := Lib.hid ((HD5.out.block _ (Array.getElem?_eq_some_iff.1 HK4.out).1).trans HK4.out))))
        exact fin40 HE.out rfl rfl HK5.out (Nat.le_succ _) (HB4.out.trans (HD5.out.mono HB4.out.size))
      · have HE := Lib.hid (show evR m ⟨20, f1, f2, f3, f4, [a, b]⟩ = ((1, wrN (wrap64 (n * n2))), 0) from HE1)
        clear HE1
        go_enter Try.func40, Try.ntmps40
        go_wp2_with fail
        rw [← HW1.out]
        refine HO.out.mono ?_
        rw [← HR.out]
        rintro e w2 ⟨rfl, hd⟩
        have HD := Lib.hid hd
        have HK2 := Lib.hid ((hd.block (W.heap.size + 1) (by have := HS1.out; omega)).trans HN.out)
        have HX2 := Lib.hid ((hd.block W.heap.size (by have := HS1.out; omega)).trans HX.out)
        have HB2 := Lib.hid (HB1.out.trans (hd.mono HB1.out.size))
        clear hd h0 h1 h2 h3 h4 h5 h6 hbl
        have hc0 : w2.cell? ⟨W.heap.size + 1, 0, none⟩ = some (.int .i64 0) := (cell_blk HK2.out 0).trans rfl
        have hc1 : w2.cell? ⟨W.heap.size + 1, 1, none⟩ = some (.int .i64 0) := (cell_blk HK2.out 1).trans rfl
        have hf := frozen_blk HK2.out
        have hx5 : w2.cell? ⟨W.heap.size, 6, none⟩ = some (.slice (some ad) 2 c6) := (cell_blk HX2.out 6).trans rfl
        obtain ⟨h0, h1, h2, h3, h4, h5, h6⟩ := (K2.out.later HB2.out).second
        clear hc0 hc1 hf
        go_wp2_with (first
          | (go_at_call 72; refine (HO2.out _ HB2.out).mono ?_; rw [← HR2.out]; rintro e w4 ⟨rfl, hd4⟩; (have HK4 := Lib.hid ((hd4.block (W.heap.size + 1) (Array.getElem?_eq_some_iff.1 HK2.out).1).trans HK2.out)); (have HX4 := Lib.hid ((hd4.block W.heap.size (Array.getElem?_eq_some_iff.1 HX2.out).1).trans HX2.out)); (have HB4 := Lib.hid (HB2.out.trans (hd4.mono HB2.out.size))); clear hd4; (have g0 : w4.cell? ⟨W.heap.size, 0, none⟩ = some (.int .i64 20) := (cell_blk HX4.out 0).trans rfl); (have hc0 : w4.cell? ⟨W.heap.size + 1, 0, none⟩ = some (.int .i64 0) := (cell_blk HK4.out 0).trans rfl); (have hc1 : w4.cell? ⟨W.heap.size + 1, 1, none⟩ = some (.int .i64 0) := (cell_blk HK4.out 1).trans rfl); (have hf := frozen_blk HK4.out))
          | (go_at_call 45; refine (namesakeref27_Wrap.calls (wrap64 (n * n2)) (wrN (wrap64 (n * n2))) _ (wrapR _)).mono ?_; rintro e w5 ⟨rfl, ⟨nd, rfl⟩⟩; (have HD5 := Lib.hid (below_drawn w4 nd)); (have HK5 := Lib.hid ((HD5.out.block _ (Array.getElem?_eq_some_iff.1 HK4.out).1).trans HK4.out))))
        exact fin40 HE.out rfl rfl HK5.out (Nat.le_succ _) (HB4.out.trans (HD5.out.mono HB4.out.size))
    · have heb2 : (er2 != 0) = true := by simpa using he2
      have HE := Lib.hid (show evR m ⟨k, f1, f2, f3, f4, [a, b]⟩ = ((0, 0), er2) by rw [HE0, if_neg (by simp), if_pos he2])
      clear HE0 hk
      go_enter Try.func40, Try.ntmps40
      go_wp2_with fail
      rw [← HW1.out]
      refine HO.out.mono ?_
      rw [← HR.out]
      rintro e w2 ⟨rfl, hd⟩
      have HD := Lib.hid hd
      have HK2 := Lib.hid ((hd.block (W.heap.size + 1) (by have := HS1.out; omega)).trans HN.out)
      have HX2 := Lib.hid ((hd.block W.heap.size (by have := HS1.out; omega)).trans HX.out)
      have HB2 := Lib.hid (HB1.out.trans (hd.mono HB1.out.size))
      clear hd h0 h1 h2 h3 h4 h5 h6 hbl
      have hc0 : w2.cell? ⟨W.heap.size + 1, 0, none⟩ = some (.int .i64 0) := (cell_blk HK2.out 0).trans rfl
      have hc1 : w2.cell? ⟨W.heap.size + 1, 1, none⟩ = some (.int .i64 0) := (cell_blk HK2.out 1).trans rfl
      have hf := frozen_blk HK2.out
      have hx5 : w2.cell? ⟨W.heap.size, 6, none⟩ = some (.slice (some ad) 2 c6) := (cell_blk HX2.out 6).trans rfl
      obtain ⟨h0, h1, h2, h3, h4, h5, h6⟩ := (K2.out.later HB2.out).second
      clear hc0 hc1 hf
      go_wp2_with (go_at_call 72; refine (HO2.out _ HB2.out).mono ?_; rw [← HR2.out]; rintro e w4 ⟨rfl, hd4⟩; (have HK4 := Lib.hid ((hd4.block (W.heap.size + 1) (Array.getElem?_eq_some_iff.1 HK2.out).1).trans HK2.out)); (have HX4 := Lib.hid ((hd4.block W.heap.size (Array.getElem?_eq_some_iff.1 HX2.out).1).trans HX2.out)); (have HB4 := Lib.hid (HB2.out.trans (hd4.mono HB2.out.size))); clear hd4; (have g0 : w4.cell? ⟨W.heap.size, 0, none⟩ = some (.int .i64 k) := (cell_blk HX4.out 0).trans rfl); (have hc0 : w4.cell? ⟨W.heap.size + 1, 0, none⟩ = some (.int .i64 0) := (cell_blk HK4.out 0).trans rfl); (have hc1 : w4.cell? ⟨W.heap.size + 1, 1, none⟩ = some (.int .i64 0) := (cell_blk HK4.out 1).trans rfl); (have hf := frozen_blk HK4.out))
      exact fin40 (p := (0, 0)) HE.out rfl rfl HK4.out (Nat.le_succ _) HB4.out
  · have heb : (er != 0) = true := by simpa using he
    have HE := Lib.hid (show evR m ⟨k, f1, f2, f3, f4, [a, b]⟩ = ((0, 0), er) by rw [HE0, if_pos he])
    clear HE0
    go_enter Try.func40, Try.ntmps40
    go_wp2_with fail
    rw [← HW1.out]
    refine HO.out.mono ?_
    rw [← HR.out]
    rintro e w2 ⟨rfl, hd⟩
    have HD := Lib.hid hd
    have HK2 := Lib.hid ((hd.block (W.heap.size + 1) (by have := HS1.out; omega)).trans HN.out)
    have HX2 := Lib.hid ((hd.block W.heap.size (by have := HS1.out; omega)).trans HX.out)
    have HB2 := Lib.hid (HB1.out.trans (hd.mono HB1.out.size))
    clear hd h0 h1 h2 h3 h4 h5 h6 hbl
    have hc0 : w2.cell? ⟨W.heap.size + 1, 0, none⟩ = some (.int .i64 0) := (cell_blk HK2.out 0).trans rfl
    have hc1 : w2.cell? ⟨W.heap.size + 1, 1, none⟩ = some (.int .i64 0) := (cell_blk HK2.out 1).trans rfl
    have hf := frozen_blk HK2.out
    go_wp2
    all_goals first
      | (rename_i hu1 hu2; cases hu1; done)
      | (refine ⟨trivial, ?_⟩
         go_wp2
         exact fin40 (p := (0, 0)) HE.out rfl rfl HK2.out (Nat.le_succ _) HB2.out)
      | exact fin40 (p := (0, 0)) HE.out rfl rfl HK2.out (Nat.le_succ _) HB2.out

theorem ev_ok {mb : Nat} {m : ByteArray → Option (Int × Int)} {x : S75} (h : ShR x) : EvOK mb m x := by
  induction h with
  | mk x hm hn hk ih =>
    clear hk
    unfold manyI at hm
    split at hm
    · rename_i h
      exact ev_leaf (by omega) hn
    · split at hm
      · rename_i h1 h
        obtain ⟨f0, f1, f2, f3, f4, f5⟩ := x
        dsimp only at *
        subst h
        match f5, hm with
        | [a], _ => exact ev_not (ih a (by simp))
        | [], hm => simp at hm
        | a :: b :: r, hm => simp at hm; omega
      · split at hm
        · rename_i h1 h2 h
          obtain ⟨f0, f1, f2, f3, f4, f5⟩ := x
          dsimp only at *
          match f5, hm with
          | [a, b], _ =>
            by_cases h16 : f0 = 16
            · subst h16
              exact ev_and (ih a (by simp)) (ih b (by simp))
            · exact ev_two (by omega) (ih a (by simp)) (ih b (by simp))
          | [], hm => simp at hm
          | [a], hm => simp at hm
          | a :: b :: c :: r, hm => simp at hm; omega
        · omega
end Go.Proofs.Ytoakelgcbbbieaa
