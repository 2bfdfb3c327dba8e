/- An expression's value as the program reckons it: the asker's exp at two kids; at any expression. -/
import Derived.Test.YtoakelgcbbbieaaBf
namespace Go.Proofs.Ytoakelgcbbbieaa
open Go.RowKit Go.Maps Go.Shelf Go.Proofs.YtoakelgcbbbieaaW.PrintWords Go.Proofs.YtoakelgcbbbieaaW.PrintLast Go.Proofs.YtoakelgcbbbieaaW.PrintMore
set_option linter.unusedVariables false
set_option linter.unusedSimpArgs false
set_option maxRecDepth 100000

/-- the cells of a kid of two, in a later world -/
structure Kid (W : World) (ad : Addr) (a : S58) (B6 : Option Addr) (d6 : Nat) : Prop where
  h0 : W.cell? ad = some (.int .i64 a.f0)
  h1 : W.cell? ⟨ad.block, ad.off + 1, none⟩ = some (.string a.f1.f0)
  h2 : W.cell? ⟨ad.block, ad.off + 2, none⟩ = some (.int .i64 a.f1.f1)
  h3 : W.cell? ⟨ad.block, ad.off + 3, none⟩ = some (.int .i64 a.f2)
  h4 : W.cell? ⟨ad.block, ad.off + 4, none⟩ = some (.int .i64 a.f3)
  h5 : W.cell? ⟨ad.block, ad.off + 5, none⟩ = some (.int .i64 a.f4)
  h6 : W.cell? ⟨ad.block, ad.off + 6, none⟩ = some (.slice B6 a.f5.length d6)
theorem Kid.later {W W' : World} {ad : Addr} {a : S58} {B6 : Option Addr} {d6 : Nat} (h : Kid W ad a B6 d6) (hb : Below W.heap.size W W') : Kid W' ad a B6 d6 :=
  ⟨cell_later hb h.h0, cell_later hb h.h1, cell_later hb h.h2, cell_later hb h.h3, cell_later hb h.h4, cell_later hb h.h5, cell_later hb h.h6⟩
/-- the same, as the walk spells the second kid's cells -/
theorem Kid.second {W : World} {ad : Addr} {a : S58} {B6 : Option Addr} {d6 : Nat} (h : Kid W (ad.add 7) a B6 d6) :
    W.cell? ⟨ad.block, ad.off + 7, none⟩ = some (.int .i64 a.f0) ∧ W.cell? ⟨ad.block, ad.off + 7 + 1, none⟩ = some (.string a.f1.f0) ∧ W.cell? ⟨ad.block, ad.off + 7 + 2, none⟩ = some (.int .i64 a.f1.f1) ∧ W.cell? ⟨ad.block, ad.off + 7 + 3, none⟩ = some (.int .i64 a.f2) ∧
    W.cell? ⟨ad.block, ad.off + 7 + 4, none⟩ = some (.int .i64 a.f3) ∧ W.cell? ⟨ad.block, ad.off + 7 + 5, none⟩ = some (.int .i64 a.f4) ∧ W.cell? ⟨ad.block, ad.off + 7 + 6, none⟩ = some (.slice B6 a.f5.length d6) :=
  ⟨h.h0, h.h1, h.h2, h.h3, h.h4, h.h5, h.h6⟩
theorem kids_two {w0 : World} {A : Option Addr} {a b : S58} (hC : Kd.C k58 w0 A 2 [a, b]) :
    ∃ ad B6 d6 B7 d7, A = some ad ∧ Kid w0 ad a B6 d6 ∧ Kd.C k58 w0 B6 a.f5.length a.f5 ∧ Kid w0 (ad.add 7) b B7 d7 ∧ Kd.C k58 w0 B7 b.f5.length b.f5 := by
  obtain ⟨ad, B6, d6, rfl, h0, h1, h2, h3, h4, h5, h6, h7, hCk⟩ := at_T58 hC 0 (by omega) (by omega)
  obtain ⟨ad', B7, d7, e, g0, g1, g2, g3, g4, g5, g6, g7, gCk⟩ := at_T58 hC 1 (by omega) (by omega)
  injection e with e
  subst e
  exact ⟨ad, B6, d6, B7, d7, rfl, ⟨h0, h1, h2, h3, h4, h5, h6⟩, hCk, ⟨g0, g1, g2, g3, g4, g5, g6⟩, gCk⟩

set_option maxHeartbeats 2000000 in
theorem exp_and {w0 : World} {ab mb : Nat} {m : ByteArray → Option (Int × Int)} (hab : w0.heap.size ≤ ab) {f1 : S55} {f2 f3 f4 : Int} {a b : S58} (hE : ExpOK w0 ab mb m a) (hE2 : ExpOK w0 ab mb m b) {A6 : Option Addr} {c6 : Nat} {W : World} (hC : Kd.C k58 w0 A6 2 [a, b]) (hW : Below w0.heap.size w0 W) (hA : AB W ab mb 0) :
    Calls Try.prog 70 #[.pointer (some ⟨ab, 0, none⟩), .agg (eX ⟨16, f1, f2, f3, f4, [a, b]⟩ A6 c6)] W fun e W' => e = .returned (encP (evP m ⟨16, f1, f2, f3, f4, [a, b]⟩ 0).1) ∧ AB W' ab mb (evP m ⟨16, f1, f2, f3, f4, [a, b]⟩ 0).2 ∧ But W.heap.size ab W W' := by
  have c1 : W.cell? ⟨ab, 1, none⟩ = some (.int .i64 0) := (cell_blk hA 1).trans rfl
  have hlt := hA.lt
  obtain ⟨ad, B6, d6, B7, d7, rfl, k1, hCk, k2, hCk2⟩ := kids_two hC
  have hbl := cell_block (k1.later hW).h0
  have K2 := Lib.hid k2
  obtain ⟨h0, h1, h2, h3, h4, h5, h6⟩ := k1.later hW
  have HA := Lib.hid hA
  have HW := Lib.hid hW
  have HCK := Lib.hid hCk
  have HCK2 := Lib.hid hCk2
  obtain ⟨r, hr⟩ : ∃ r, r = ofP (evP m a 0) 2 := ⟨_, rfl⟩
  have HR := Lib.hid hr
  have HE0 : evP m ⟨16, f1, f2, f3, f4, [a, b]⟩ 0 = if (r.1 == 0) = true then (truthP false, r.2) else (truthP ((ofP (evP m b r.2) 2).1 != 0), (ofP (evP m b r.2) 2).2) := by rw [evP_eq, hr]; rfl
  clear hA hW hCk hCk2 hr hC k1 k2
  obtain ⟨n, er⟩ := r
  obtain ⟨W1, hW1⟩ : ∃ W1, W1 = (W.alloc (.cells (eX ⟨16, f1, f2, f3, f4, [a, b]⟩ (some ad) c6) 58)).alloc (.cells #[.int .i64 0, .int .i64 0] 67) := ⟨_, rfl⟩
  have hb1 : Below W.heap.size W W1 := by rw [hW1]; exact ((Below.refl _ _).alloc (Nat.le_refl _) _).alloc (by simp) _
  have hnew : W1.heap[W.heap.size + 1]? = some (.cells #[.int .i64 0, .int .i64 0] 67 (0, 0)) := by
    rw [hW1]
    have := World.alloc_heap_new (W.alloc (.cells (eX ⟨16, f1, f2, f3, f4, [a, b]⟩ (some ad) c6) 58)) (.cells #[.int .i64 0, .int .i64 0] 67)
    rwa [World.size_alloc] at this
  have hbox : W1.heap[W.heap.size]? = some (.cells (eX ⟨16, f1, f2, f3, f4, [a, b]⟩ (some ad) c6) 58 (0, 0)) := by
    rw [hW1]
    exact (Below.heap_alloc _ _ _ (by simp)).trans (World.alloc_heap_new W _)
  have hs1 : W1.heap.size = W.heap.size + 2 := by rw [hW1]; simp
  have HB1 := Lib.hid hb1
  have HN := Lib.hid hnew
  have HX := Lib.hid hbox
  have HS1 := Lib.hid hs1
  have HW1 := Lib.hid hW1
  clear hb1 hnew hs1 hW1 hbox
  by_cases hn : n = 0
  · subst hn
    have HE := Lib.hid (show evP m ⟨16, f1, f2, f3, f4, [a, b]⟩ 0 = ((2, 0), er) by rw [HE0]; rfl)
    clear HE0
    go_enter Try.func70, Try.ntmps70
    go_wp2_with (first
      | (go_at_call 87; rw [← HW1.out]; refine (of_calls hE HCK.out (HW.out.trans (HB1.out.mono HW.out.size)) (HA.out.below HB1.out) 2).mono ?_; rw [← HR.out]; rintro e w2 ⟨rfl, hA2, hd⟩; (have HA2 := Lib.hid hA2); (have HD := Lib.hid hd); clear hA2 hd; (have HK2 := Lib.hid ((HD.out.block (W.heap.size + 1) (by have := HS1.out; omega) (by omega)).trans HN.out)))
      | (go_at_call 85; refine (pure_truth.calls false 2 0 _ rfl).mono ?_; rintro e w3 ⟨rfl, hd3⟩; (have HD3 := Lib.hid hd3); (have HK3 := Lib.hid ((hd3.block _ (Array.getElem?_eq_some_iff.1 HK2.out).1).trans HK2.out)); clear hd3; (have hc0 : w3.cell? ⟨W.heap.size + 1, 0, none⟩ = some (.int .i64 0) := (cell_blk HK3.out 0).trans rfl); (have hc1 : w3.cell? ⟨W.heap.size + 1, 1, none⟩ = some (.int .i64 0) := (cell_blk HK3.out 1).trans rfl); have hf := frozen_blk HK3.out))
    exact fin70 (w0 := w0) (p := (2, 0)) (er := er) (by rw [HE.out]) rfl HK3.out (HA2.out.below HD3.out) (Nat.le_succ _) hlt (((But.of_below HB1.out (Nat.le_refl _)).trans (HD.out.mono HB1.out.size)).trans (But.of_below HD3.out (by have := HD.out.size; have := HB1.out.size; omega)))
  · have hnb : (n == 0) = false := by simpa using hn
    obtain ⟨r2, hr2⟩ : ∃ r2, r2 = ofP (evP m b er) 2 := ⟨_, rfl⟩
    have HR2 := Lib.hid hr2
    have HE := Lib.hid (show evP m ⟨16, f1, f2, f3, f4, [a, b]⟩ 0 = (truthP (r2.1 != 0), r2.2) by rw [HE0, hr2, if_neg (by simpa using hn)])
    clear HE0 hr2
    obtain ⟨n2, er2⟩ := r2
    go_enter Try.func70, Try.ntmps70
    go_wp2_with fail
    rw [← HW1.out]
    refine (of_calls hE HCK.out (HW.out.trans (HB1.out.mono HW.out.size)) (HA.out.below HB1.out) 2).mono ?_
    rw [← HR.out]
    rintro e w2 ⟨rfl, hA2, hd⟩
    have HA2 := Lib.hid hA2
    have HD := Lib.hid hd
    clear hA2 hd h0 h1 h2 h3 h4 h5 h6 c1 hbl
    have HK2 := Lib.hid ((HD.out.block (W.heap.size + 1) (by have := HS1.out; omega) (by omega)).trans HN.out)
    have HW2 := Lib.hid (show Below w0.heap.size w0 w2 from (HW.out.trans (HB1.out.mono HW.out.size)).trans (HD.out.below (by have := HB1.out.size; have := HW.out.size; omega) hab))
    have hx5 : w2.cell? ⟨W.heap.size, 6, none⟩ = some (.slice (some ad) 2 c6) := (cell_blk ((HD.out.block W.heap.size (by have := HS1.out; omega) (by omega)).trans HX.out) 6).trans rfl
    obtain ⟨h0, h1, h2, h3, h4, h5, h6⟩ := (K2.out.later HW2.out).second
    go_wp2_with (first
      | (go_at_call 87; refine (of_calls hE2 HCK2.out HW2.out HA2.out 2).mono ?_; rw [← HR2.out]; rintro e w4 ⟨rfl, hA4, hd4⟩; (have HA4 := Lib.hid hA4); (have HD4 := Lib.hid hd4); clear hA4 hd4; (have HK4 := Lib.hid ((HD4.out.block (W.heap.size + 1) (Array.getElem?_eq_some_iff.1 HK2.out).1 (by omega)).trans HK2.out)))
      | (go_at_call 85; refine (pure_truth.calls (n2 != 0) _ _ _ (truth_f _)).mono ?_; rintro e w3 ⟨rfl, hd3⟩; (have HD3 := Lib.hid hd3); (have HK3 := Lib.hid ((hd3.block _ (Array.getElem?_eq_some_iff.1 HK4.out).1).trans HK4.out)); clear hd3; (have hc0 : w3.cell? ⟨W.heap.size + 1, 0, none⟩ = some (.int .i64 0) := (cell_blk HK3.out 0).trans rfl); (have hc1 : w3.cell? ⟨W.heap.size + 1, 1, none⟩ = some (.int .i64 0) := (cell_blk HK3.out 1).trans rfl); have hf := frozen_blk HK3.out))
    have e1 := HB1.out.size
    have e2 := HD.out.size
    have e3 := HD4.out.size
    exact fin70 (w0 := w0) (er := er2) (by rw [HE.out]) rfl HK3.out (HA4.out.below HD3.out) (Nat.le_succ _) hlt ((((But.of_below HB1.out (Nat.le_refl _)).trans (HD.out.mono e1)).trans (HD4.out.mono (by omega))).trans (But.of_below HD3.out (by omega)))
end Go.Proofs.Ytoakelgcbbbieaa
