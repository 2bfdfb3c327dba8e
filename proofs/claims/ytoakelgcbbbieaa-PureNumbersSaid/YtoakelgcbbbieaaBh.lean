/- An expression's value as the program reckons it: the asker's exp at two numbers; at any expression. -/
import Derived.Test.YtoakelgcbbbieaaBg
import Derived.Deep.RegionWith
namespace Go.Proofs.Ytoakelgcbbbieaa
open Go.RowKit Go.Maps Go.Shelf Go.Proofs.YtoakelgcbbbieaaW.PrintWords Go.Proofs.YtoakelgcbbbieaaW.PrintLast Go.Proofs.YtoakelgcbbbieaaW.PrintMore
set_option linter.unusedVariables false
set_option linter.unusedSimpArgs false
set_option maxRecDepth 100000

theorem drewB {w : World} {n : Nat} (h : n ≤ w.heap.size) : Below n w w.drew := (below_drawn w 1).mono h
theorem two_f (k x y : Int) : pure_two.f k x y = some ((twoP k x y).1, (twoP k x y).2) := by
  unfold pure_two.f twoP
  by_cases h17 : k = 17
  · rw [if_pos h17, if_pos h17, truth_f]; rfl
  · rw [if_neg h17, if_neg h17]
    by_cases h18 : k = 18
    · rw [if_pos h18, if_pos h18]; rfl
    · rw [if_neg h18, if_neg h18]
      by_cases h19 : k = 19
      · rw [if_pos h19, if_pos h19]; rfl
      · rw [if_neg h19, if_neg h19]; rfl

set_option maxHeartbeats 4000000 in
theorem exp_two {w0 : World} {ab mb : Nat} {m : ByteArray → Option (Int × Int)} (hab : w0.heap.size ≤ ab) {k : Int} (hk : k = 17 ∨ k = 18 ∨ k = 19 ∨ k = 20) {f1 : S55} {f2 f3 f4 : Int} {a b : S58} (hE : ExpOK w0 ab mb m a) (hE2 : ExpOK w0 ab mb m b) {A6 : Option Addr} {c6 : Nat} {W : World} (hC : Kd.C k58 w0 A6 2 [a, b]) (hW : Below w0.heap.size w0 W) (hA : AB W ab mb 0) :
    Calls Try.prog 70 #[.pointer (some ⟨ab, 0, none⟩), .agg (eX ⟨k, f1, f2, f3, f4, [a, b]⟩ A6 c6)] W fun e W' => e = .returned (encP (evP m ⟨k, f1, f2, f3, f4, [a, b]⟩ 0).1) ∧ AB W' ab mb (evP m ⟨k, f1, f2, f3, f4, [a, b]⟩ 0).2 ∧ But W.heap.size ab W W' := by
  have c1 : W.cell? ⟨ab, 1, none⟩ = some (.int .i64 0) := (cell_blk hA 1).trans rfl
  have hlt := hA.lt
  have q25 : (k == 25) = false := by rcases hk with rfl | rfl | rfl | rfl <;> rfl
  have q26 : (k == 26) = false := by rcases hk with rfl | rfl | rfl | rfl <;> rfl
  have q27 : (k == 27) = false := by rcases hk with rfl | rfl | rfl | rfl <;> rfl
  have q28 : (k == 28) = false := by rcases hk with rfl | rfl | rfl | rfl <;> rfl
  have q29 : (k == 29) = false := by rcases hk with rfl | rfl | rfl | rfl <;> rfl
  have q21 : (k == 21) = false := by rcases hk with rfl | rfl | rfl | rfl <;> rfl
  have q16 : (k == 16) = false := by rcases hk with rfl | rfl | rfl | rfl <;> rfl
  obtain ⟨ad, B6, d6, B7, d7, rfl, k1, hCk, k2, hCk2⟩ := kids_two hC
  have hbl := cell_block (k1.later hW).h0
  have K2 := Lib.hid k2
  obtain ⟨h0, h1, h2, h3, h4, h5, h6⟩ := k1.later hW
  have HA := Lib.hid hA
  have HW := Lib.hid hW
  have HCK := Lib.hid hCk
  have HCK2 := Lib.hid hCk2
  obtain ⟨r, hr⟩ : ∃ r, r = ofP (evP m a 0) 1 := ⟨_, rfl⟩
  have HR := Lib.hid hr
  obtain ⟨r2, hr2⟩ : ∃ r2, r2 = ofP (evP m b r.2) 1 := ⟨_, rfl⟩
  have HR2 := Lib.hid hr2
  have HE := Lib.hid (show evP m ⟨k, f1, f2, f3, f4, [a, b]⟩ 0 = (twoP k r.1 r2.1, r2.2) by
    rw [evP_eq, hr2, hr]
    rcases hk with rfl | rfl | rfl | rfl <;> rfl)
  clear hA hW hCk hCk2 hr hC k1 k2 hk hr2
  obtain ⟨n, er⟩ := r
  obtain ⟨n2, er2⟩ := r2
  obtain ⟨W1, hW1⟩ : ∃ W1, W1 = (W.alloc (.cells (eX ⟨k, f1, f2, f3, f4, [a, b]⟩ (some ad) c6) 58)).alloc (.cells #[.int .i64 0, .int .i64 0] 67) := ⟨_, rfl⟩
  have hb1 : Below W.heap.size W W1 := by rw [hW1]; exact ((Below.refl _ _).alloc (Nat.le_refl _) _).alloc (by simp) _
  have hnew : W1.heap[W.heap.size + 1]? = some (.cells #[.int .i64 0, .int .i64 0] 67 (0, 0)) := by
    rw [hW1]
    have := World.alloc_heap_new (W.alloc (.cells (eX ⟨k, f1, f2, f3, f4, [a, b]⟩ (some ad) c6) 58)) (.cells #[.int .i64 0, .int .i64 0] 67)
    rwa [World.size_alloc] at this
  have hbox : W1.heap[W.heap.size]? = some (.cells (eX ⟨k, f1, f2, f3, f4, [a, b]⟩ (some ad) c6) 58 (0, 0)) := by
    rw [hW1]
    exact (Below.heap_alloc _ _ _ (by simp)).trans (World.alloc_heap_new W _)
  have hs1 : W1.heap.size = W.heap.size + 2 := by rw [hW1]; simp
  have HB1 := Lib.hid hb1
  have HN := Lib.hid hnew
  have HX := Lib.hid hbox
  have HS1 := Lib.hid hs1
  have HW1 := Lib.hid hW1
  clear hb1 hnew hs1 hW1 hbox
  go_enter Try.func70, Try.ntmps70
  go_wp2_with fail
  rw [← HW1.out]
  refine (of_calls hE HCK.out (HW.out.trans (HB1.out.mono HW.out.size)) (HA.out.below HB1.out) 1).mono ?_
  rw [← HR.out]
  rintro e w2 ⟨rfl, hA2, hd⟩
  have HA2 := Lib.hid hA2
  have HD := Lib.hid hd
  clear hA2 hd h0 h1 h2 h3 h4 h5 h6 c1 hbl
  have HK2 := Lib.hid ((HD.out.block (W.heap.size + 1) (by have := HS1.out; omega) (by omega)).trans HN.out)
  have HX2 := Lib.hid ((HD.out.block W.heap.size (by have := HS1.out; omega) (by omega)).trans HX.out)
  have HW2 := Lib.hid (show Below w0.heap.size w0 w2 from (HW.out.trans (HB1.out.mono HW.out.size)).trans (HD.out.below (by have := HB1.out.size; have := HW.out.size; omega) hab))
  have hx5 : w2.cell? ⟨W.heap.size, 6, none⟩ = some (.slice (some ad) 2 c6) := (cell_blk HX2.out 6).trans rfl
  have hx0 : w2.cell? ⟨W.heap.size, 0, none⟩ = some (.int .i64 k) := (cell_blk HX2.out 0).trans rfl
  obtain ⟨h0, h1, h2, h3, h4, h5, h6⟩ := (K2.out.later HW2.out).second
  go_wp2_with fail
  go_region_with (first
    | (go_at_call 87; refine (of_calls (W := w2.drew) hE2 HCK2.out (HW2.out.trans (drewB HW2.out.size)) (HA2.out.below (drewB (Nat.le_refl _))) 1).mono ?_; rw [← HR2.out]; rintro e w4 ⟨rfl, hA4, hd4⟩; (have HA4 := Lib.hid hA4); (have HD4 := Lib.hid hd4); clear hA4 hd4; (have HK4 := Lib.hid ((HD4.out.block (W.heap.size + 1) (Array.getElem?_eq_some_iff.1 HK2.out).1 (by omega)).trans HK2.out)); (have hx04 : w4.cell? ⟨W.heap.size, 0, none⟩ = some (.int .i64 k) := (cell_blk ((HD4.out.block W.heap.size (Array.getElem?_eq_some_iff.1 HX2.out).1 (by omega)).trans HX2.out) 0).trans rfl))
    | (go_at_call 88; refine (pure_two.calls k n n2 _ _ _ (two_f _ _ _)).mono ?_; rintro e w3 ⟨rfl, hd3⟩; (have HD3 := Lib.hid hd3); (have HK3 := Lib.hid ((hd3.block _ (Array.getElem?_eq_some_iff.1 HK4.out).1).trans HK4.out)); clear hd3; (have hc0 : w3.cell? ⟨W.heap.size + 1, 0, none⟩ = some (.int .i64 0) := (cell_blk HK3.out 0).trans rfl); (have hc1 : w3.cell? ⟨W.heap.size + 1, 1, none⟩ = some (.int .i64 0) := (cell_blk HK3.out 1).trans rfl); have hf := frozen_blk HK3.out))
  all_goals
    go_wp2
    have e1 := HB1.out.size
    have e2 := HD.out.size
    have e3 := HD4.out.size
    have e4 : w2.drew.heap.size = w2.heap.size := rfl
    exact fin70 (w0 := w0) (er := er2) (by rw [HE.out]) rfl HK3.out (HA4.out.below HD3.out) (Nat.le_succ _) hlt (((((But.of_below HB1.out (Nat.le_refl _)).trans (HD.out.mono e1)).trans (But.of_below (drewB (Nat.le_refl _)) (by omega))).trans (HD4.out.mono (by omega))).trans (But.of_below HD3.out (by omega)))

theorem exp_ok {w0 : World} {ab mb : Nat} {m : ByteArray → Option (Int × Int)} (hM : MapV encP w0 mb m) (hab : w0.heap.size ≤ ab) (x : S58) : shapedB x = true → GN x → ExpOK w0 ab mb m x := by
  induction x using S58.ind with
  | _ x ih =>
  intro hs hg A6 c6 err W hC hW hA
  by_cases he : err = 0
  · subst he
    have hm := shaped_own hs
    have hkid : ∀ y ∈ x.f5, ExpOK w0 ab mb m y := fun y hy => ih y hy (shaped_kid hs hy) (hg.kid hy)
    have hn := hg.own
    clear ih hs hg
    unfold manyI at hm
    split at hm
    · rename_i h
      exact exp_leaf hM hab (by omega) hn hW hA
    · split at hm
      · rename_i h1 h
        obtain ⟨f0, f1, f2, f3, f4, f5⟩ := x
        dsimp only at *
        subst h
        match f5, hm with
        | [a], _ => exact exp_not hab (hkid a (by simp)) hC hW hA
        | [], hm => simp at hm
        | a :: b :: r, hm => simp at hm; omega
      · split at hm
        · rename_i h1 h2 h
          obtain ⟨f0, f1, f2, f3, f4, f5⟩ := x
          dsimp only at *
          match f5, hm with
          | [a, b], _ =>
            by_cases h16 : f0 = 16
            · subst h16
              exact exp_and hab (hkid a (by simp)) (hkid b (by simp)) hC hW hA
            · exact exp_two hab (by omega) (hkid a (by simp)) (hkid b (by simp)) hC hW hA
          | [], hm => simp at hm
          | [a], hm => simp at hm
          | a :: b :: c :: r, hm => simp at hm; omega
        · omega
  · exact exp_err (w0 := w0) hA he
end Go.Proofs.Ytoakelgcbbbieaa
