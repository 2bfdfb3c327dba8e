/- The value of any expression as the document reckons it: Eval. -/
import Derived.Test.YtoakelgcbbbieaaBj
namespace Go.Proofs.Ytoakelgcbbbieaa
open Go.RowKit Go.Maps Go.Shelf Go.Proofs.YtoakelgcbbbieaaW.PrintWords Go.Proofs.YtoakelgcbbbieaaW.PrintLast Go.Proofs.YtoakelgcbbbieaaW.PrintMore
set_option linter.unusedVariables false
set_option linter.unusedSimpArgs false
set_option maxRecDepth 100000

/-- the cells of a kid -/
structure KidY (W : World) (ad : Addr) (a : S75) (B6 : Option Addr) (d6 : Nat) : Prop where
  h0 : W.cell? ad = some (.int .i64 a.f0)
  h1 : W.cell? ⟨ad.block, ad.off + 1, none⟩ = some (.string a.f1.f0)
  h2 : W.cell? ⟨ad.block, ad.off + 2, none⟩ = some (.int .i64 a.f1.f1)
  h3 : W.cell? ⟨ad.block, ad.off + 3, none⟩ = some (.int .i64 a.f2)
  h4 : W.cell? ⟨ad.block, ad.off + 4, none⟩ = some (.int .i64 a.f3)
  h5 : W.cell? ⟨ad.block, ad.off + 5, none⟩ = some (.int .i64 a.f4)
  h6 : W.cell? ⟨ad.block, ad.off + 6, none⟩ = some (.slice B6 a.f5.length d6)
theorem KidY.later {W W' : World} {ad : Addr} {a : S75} {B6 : Option Addr} {d6 : Nat} (h : KidY W ad a B6 d6) (hb : Below W.heap.size W W') : KidY W' ad a B6 d6 :=
  ⟨cell_later hb h.h0, cell_later hb h.h1, cell_later hb h.h2, cell_later hb h.h3, cell_later hb h.h4, cell_later hb h.h5, cell_later hb h.h6⟩
theorem KidY.second {W : World} {ad : Addr} {a : S75} {B6 : Option Addr} {d6 : Nat} (h : KidY W (ad.add 7) a B6 d6) :
    W.cell? ⟨ad.block, ad.off + 7, none⟩ = some (.int .i64 a.f0) ∧ W.cell? ⟨ad.block, ad.off + 7 + 1, none⟩ = some (.string a.f1.f0) ∧ W.cell? ⟨ad.block, ad.off + 7 + 2, none⟩ = some (.int .i64 a.f1.f1) ∧ W.cell? ⟨ad.block, ad.off + 7 + 3, none⟩ = some (.int .i64 a.f2) ∧
    W.cell? ⟨ad.block, ad.off + 7 + 4, none⟩ = some (.int .i64 a.f3) ∧ W.cell? ⟨ad.block, ad.off + 7 + 5, none⟩ = some (.int .i64 a.f4) ∧ W.cell? ⟨ad.block, ad.off + 7 + 6, none⟩ = some (.slice B6 a.f5.length d6) :=
  ⟨h.h0, h.h1, h.h2, h.h3, h.h4, h.h5, h.h6⟩
theorem kidY_one {w0 : World} {A : Option Addr} {a : S75} {n : Nat} {l : List S75} (hC : Kd.C k75 w0 A n (a :: l)) (hn : 0 < n) :
    ∃ ad B6 d6, A = some ad ∧ KidY w0 ad a B6 d6 ∧ Kd.C k75 w0 B6 a.f5.length a.f5 := by
  obtain ⟨ad, B6, d6, rfl, h0, h1, h2, h3, h4, h5, h6, h7, hCk⟩ := at_T75 hC 0 (by omega) (by omega)
  exact ⟨ad, B6, d6, rfl, ⟨h0, h1, h2, h3, h4, h5, h6⟩, hCk⟩
theorem kidsY_two {w0 : World} {A : Option Addr} {a b : S75} (hC : Kd.C k75 w0 A 2 [a, b]) :
    ∃ ad B6 d6 B7 d7, A = some ad ∧ KidY w0 ad a B6 d6 ∧ Kd.C k75 w0 B6 a.f5.length a.f5 ∧ KidY w0 (ad.add 7) b B7 d7 ∧ Kd.C k75 w0 B7 b.f5.length b.f5 := by
  obtain ⟨ad, B6, d6, rfl, h0, h1, h2, h3, h4, h5, h6, h7, hCk⟩ := at_T75 hC 0 (by omega) (by omega)
  obtain ⟨ad', B7, d7, e, g0, g1, g2, g3, g4, g5, g6, g7, gCk⟩ := at_T75 hC 1 (by omega) (by omega)
  injection e with e
  subst e
  exact ⟨ad, B6, d6, B7, d7, rfl, ⟨h0, h1, h2, h3, h4, h5, h6⟩, hCk, ⟨g0, g1, g2, g3, g4, g5, g6⟩, gCk⟩

set_option maxHeartbeats 2000000 in
theorem ev_not {mb : Nat} {m : ByteArray → Option (Int × Int)} {f1 : S72} {f2 f3 f4 : Int} {a : S75} (hE : EvOK mb m a) : EvOK mb m ⟨21, f1, f2, f3, f4, [a]⟩ := by
  intro A6 c6 W hC hM
  obtain ⟨ad, B6, d6, rfl, hK, hCk⟩ := kidY_one hC (by simp)
  have hbl := cell_block hK.h0
  obtain ⟨h0, h1, h2, h3, h4, h5, h6⟩ := hK
  obtain ⟨r, hr⟩ : ∃ r, r = ofR (evR m a) 2 := ⟨_, rfl⟩
  have HE0 : evR m ⟨21, f1, f2, f3, f4, [a]⟩ = if r.2 ≠ 0 then ((0, 0), r.2) else (truthP (r.1 == 0), 0) := by rw [evR_eq, hr]; rfl
  have HR := Lib.hid hr
  obtain ⟨n, er⟩ := r
  obtain ⟨W1, hW1⟩ : ∃ W1, W1 = (W.alloc (.cells (eY ⟨21, f1, f2, f3, f4, [a]⟩ (some ad) c6) 75)).alloc (.cells #[.int .i64 0, .int .i64 0] 81) := ⟨_, rfl⟩
  obtain ⟨hnew, hb1⟩ := two_allocs W (.cells (eY ⟨21, f1, f2, f3, f4, [a]⟩ (some ad) c6) 75) #[.int .i64 0, .int .i64 0] 81
  rw [← hW1] at hnew hb1
  have HO := Lib.hid (ofR_calls hE (c6 := d6) (Kd.C_below hCk hb1) (hM.below hb1) 2)
  have HB1 := Lib.hid hb1
  have HN := Lib.hid hnew
  have HW1 := Lib.hid hW1
  have HS1 := Lib.hid (show W1.heap.size = W.heap.size + 2 by rw [hW1]; simp)
  clear hr hW1 hnew hb1 hC hM hCk hE
  by_cases he : er = 0
  · subst he
    have HE := Lib.hid (show evR m ⟨21, f1, f2, f3, f4, [a]⟩ = (truthP (n == 0), 0) by rw [HE0]; rfl)
    clear HE0
    go_enter Try.func40, Try.ntmps40
    go_wp2_with (first
      | (go_at_call 72; rw [← HW1.out]; refine HO.out.mono ?_; rw [← HR.out]; rintro e w2 ⟨rfl, hd⟩; (have HD := Lib.hid hd); (have HK2 := Lib.hid ((hd.block (W.heap.size + 1) (by have := HS1.out; omega)).trans HN.out)); clear hd)
      | (go_at_call 71; refine (namesakeref27_truth.calls (n == 0) _ _ _ (rtruth_f _)).mono ?_; rintro e w3 ⟨rfl, hd3⟩; (have HD3 := Lib.hid hd3); (have HK3 := Lib.hid ((hd3.block _ (Array.getElem?_eq_some_iff.1 HK2.out).1).trans HK2.out)); clear hd3; (have hc0 : w3.cell? ⟨W.heap.size + 1, 0, none⟩ = some (.int .i64 0) := (cell_blk HK3.out 0).trans rfl); (have hc1 : w3.cell? ⟨W.heap.size + 1, 1, none⟩ = some (.int .i64 0) := (cell_blk HK3.out 1).trans rfl); have hf := frozen_blk HK3.out))
    have e1 := HB1.out.size
    have e2 := HD.out.size
    exact fin40 HE.out rfl rfl HK3.out (Nat.le_succ _) ((HB1.out.trans (HD.out.mono e1)).trans (HD3.out.mono (by omega)))
  · have heb : (er != 0) = true := by simpa using he
    have HE := Lib.hid (show evR m ⟨21, f1, f2, f3, f4, [a]⟩ = ((0, 0), er) by rw [HE0, if_pos he])
    clear HE0
    go_enter Try.func40, Try.ntmps40
    go_wp2_with (go_at_call 72; rw [← HW1.out]; refine HO.out.mono ?_; rw [← HR.out]; rintro e w3 ⟨rfl, hd⟩; (have HD := Lib.hid hd); (have HK3 := Lib.hid ((hd.block (W.heap.size + 1) (by have := HS1.out; omega)).trans HN.out)); clear hd; (have hc0 : w3.cell? ⟨W.heap.size + 1, 0, none⟩ = some (.int .i64 0) := (cell_blk HK3.out 0).trans rfl); (have hc1 : w3.cell? ⟨W.heap.size + 1, 1, none⟩ = some (.int .i64 0) := (cell_blk HK3.out 1).trans rfl); have hf := frozen_blk HK3.out)
    have e1 := HB1.out.size
    exact fin40 (p := (0, 0)) HE.out rfl rfl HK3.out (Nat.le_succ _) (HB1.out.trans (HD.out.mono e1))

set_option maxHeartbeats 4000000 in
theorem ev_and {mb : Nat} {m : ByteArray → Option (Int × Int)} {f1 : S72} {f2 f3 f4 : Int} {a b : S75} (hE : EvOK mb m a) (hE2 : EvOK mb m b) : EvOK mb m ⟨16, f1, f2, f3, f4, [a, b]⟩ := by
  intro A6 c6 W hC hM
  obtain ⟨ad, B6, d6, B7, d7, rfl, hK, hCk, k2, hCk2⟩ := kidsY_two hC
  have hbl := cell_block hK.h0
  have K2 := Lib.hid k2
  obtain ⟨h0, h1, h2, h3, h4, h5, h6⟩ := hK
  obtain ⟨r, hr⟩ : ∃ r, r = ofR (evR m a) 2 := ⟨_, rfl⟩
  obtain ⟨r2, hr2⟩ : ∃ r2, r2 = ofR (evR m b) 2 := ⟨_, rfl⟩
  have HE0 : evR m ⟨16, f1, f2, f3, f4, [a, b]⟩ = if r.2 ≠ 0 then ((0, 0), r.2) else if r.1 = 0 then (truthP false, 0) else if r2.2 ≠ 0 then ((0, 0), r2.2) else (truthP (r2.1 != 0), 0) := by rw [evR_eq, hr, hr2]; rfl
  have HR := Lib.hid hr
  have HR2 := Lib.hid hr2
  obtain ⟨n, er⟩ := r
  obtain ⟨n2, er2⟩ := r2
  obtain ⟨W1, hW1⟩ : ∃ W1, W1 = (W.alloc (.cells (eY ⟨16, f1, f2, f3, f4, [a, b]⟩ (some ad) c6) 75)).alloc (.cells #[.int .i64 0, .int .i64 0] 81) := ⟨_, rfl⟩
  obtain ⟨hnew, hb1⟩ := two_allocs W (.cells (eY ⟨16, f1, f2, f3, f4, [a, b]⟩ (some ad) c6) 75) #[.int .i64 0, .int .i64 0] 81
  rw [← hW1] at hnew hb1
  have HX := Lib.hid (show W1.heap[W.heap.size]? = some (.cells (eY ⟨16, f1, f2, f3, f4, [a, b]⟩ (some ad) c6) 75 (0, 0)) by
    rw [hW1]
    exact (Below.heap_alloc _ _ _ (by simp)).trans (World.alloc_heap_new W _))
  have HO := Lib.hid (ofR_calls hE (c6 := d6) (Kd.C_below hCk hb1) (hM.below hb1) 2)
  have HO2 := Lib.hid (fun (w : World) (hb : Below W.heap.size W w) => ofR_calls hE2 (c6 := d7) (Kd.C_below hCk2 hb) (hM.below hb) 2)
  have HB1 := Lib.hid hb1
  have HN := Lib.hid hnew
  have HW1 := Lib.hid hW1
  have HS1 := Lib.hid (show W1.heap.size = W.heap.size + 2 by rw [hW1]; simp)
  clear hr hr2 hW1 hnew hb1 hC hM hCk hCk2 hE hE2 k2
  by_cases he : er = 0
  · subst he
    by_cases hn : n = 0
    · subst hn
      have HE := Lib.hid (show evR m ⟨16, f1, f2, f3, f4, [a, b]⟩ = ((2, 0), 0) by rw [HE0]; rfl)
      clear HE0
      go_enter Try.func40, Try.ntmps40
      go_wp2_with fail
      rw [← HW1.out]
      refine HO.out.mono ?_
      rw [← HR.out]
      rintro e w2 ⟨rfl, hd⟩
      have HD := Lib.hid hd
      have HK2 := Lib.hid ((hd.block (W.heap.size + 1) (by have := HS1.out; omega)).trans HN.out)
      have HX2 := Lib.hid ((hd.block W.heap.size (by have := HS1.out; omega)).trans HX.out)
      have HB2 := Lib.hid (HB1.out.trans (hd.mono HB1.out.size))
      clear hd h0 h1 h2 h3 h4 h5 h6 hbl
      have hc0 : w2.cell? ⟨W.heap.size + 1, 0, none⟩ = some (.int .i64 0) := (cell_blk HK2.out 0).trans rfl
      have hc1 : w2.cell? ⟨W.heap.size + 1, 1, none⟩ = some (.int .i64 0) := (cell_blk HK2.out 1).trans rfl
      have hf := frozen_blk HK2.out
      clear hc0 hc1 hf
      go_wp2_with (go_at_call 71; refine (namesakeref27_truth.calls false 2 0 _ rfl).mono ?_; rintro e w3 ⟨rfl, hd3⟩; (have HD3 := Lib.hid hd3); (have HK3 := Lib.hid ((hd3.block _ (Array.getElem?_eq_some_iff.1 HK2.out).1).trans HK2.out)); clear hd3; (have hc0 : w3.cell? ⟨W.heap.size + 1, 0, none⟩ = some (.int .i64 0) := (cell_blk HK3.out 0).trans rfl); (have hc1 : w3.cell? ⟨W.heap.size + 1, 1, none⟩ = some (.int .i64 0) := (cell_blk HK3.out 1).trans rfl); have hf := frozen_blk HK3.out)
      exact fin40 (p := (2, 0)) HE.out rfl rfl HK3.out (Nat.le_succ _) (HB2.out.trans (HD3.out.mono HB2.out.size))
    · have hnb : (n == 0) = false := by simpa using hn
      by_cases he2 : er2 = 0
      · subst he2
        have HE := Lib.hid (show evR m ⟨16, f1, f2, f3, f4, [a, b]⟩ = (truthP (n2 != 0), 0) by rw [HE0, if_neg (by simp), if_neg hn, if_neg (by simp)])
        clear HE0
        go_enter Try.func40, Try.ntmps40
        go_wp2_with fail
        rw [← HW1.out]
        refine HO.out.mono ?_
        rw [← HR.out]
        rintro e w2 ⟨rfl, hd⟩
        have HD := Lib.hid hd
        have HK2 := Lib.hid ((hd.block (W.heap.size + 1) (by have := HS1.out; omega)).trans HN.out)
        have HX2 := Lib.hid ((hd.block W.heap.size (by have := HS1.out; omega)).trans HX.out)
        have HB2 := Lib.hid (HB1.out.trans (hd.mono HB1.out.size))
        clear hd h0 h1 h2 h3 h4 h5 h6 hbl
        have hc0 : w2.cell? ⟨W.heap.size + 1, 0, none⟩ = some (.int .i64 0) := (cell_blk HK2.out 0).trans rfl
        have hc1 : w2.cell? ⟨W.heap.size + 1, 1, none⟩ = some (.int .i64 0) := (cell_blk HK2.out 1).trans rfl
        have hf := frozen_blk HK2.out
        have hx5 : w2.cell? ⟨W.heap.size, 6, none⟩ = some (.slice (some ad) 2 c6) := (cell_blk HX2.out 6).trans rfl
        obtain ⟨h0, h1, h2, h3, h4, h5, h6⟩ := (K2.out.later HB2.out).second
        clear hc0 hc1 hf
        go_wp2_with (first
          | (go_at_call 72; refine (HO2.out _ HB2.out).mono ?_; rw [← HR2.out]; rintro e w4 ⟨rfl, hd4⟩; (have HK4 := Lib.hid ((hd4.block (W.heap.size + 1) (Array.getElem?_eq_some_iff.1 HK2.out).1).trans HK2.out)); (have HX4 := Lib.hid ((hd4.block W.heap.size (Array.getElem?_eq_some_iff.1 HX2.out).1).trans HX2.out)); (have HB4 := Lib.hid (HB2.out.trans (hd4.mono HB2.out.size))); clear hd4; (have g0 : w4.cell? ⟨W.heap.size, 0, none⟩ = some (.int .i64 16) := (cell_blk HX4.out 0).trans rfl); (have hc0 : w4.cell? ⟨W.heap.size + 1, 0, none⟩ = some (.int .i64 0) := (cell_blk HK4.out 0).trans rfl); (have hc1 : w4.cell? ⟨W.heap.size + 1, 1, none⟩ = some (.int .i64 0) := (cell_blk HK4.out 1).trans rfl); (have hf := frozen_blk HK4.out))
          | (go_at_call 71; refine (namesakeref27_truth.calls (n2 != 0) _ _ _ (rtruth_f _)).mono ?_; rintro e w5 ⟨rfl, hd5⟩; (have HD5 := Lib.hid hd5); (have HK5 := Lib.hid ((hd5.block _ (Array.getElem?_eq_some_iff.1 HK4.out).1).trans HK4.out)); clear hd5 hc0 hc1 hf; (have hc0 : w5.cell? ⟨W.heap.size + 1, 0, none⟩ = some (.int .i64 0) := (cell_blk HK5.out 0).trans rfl); (have hc1 : w5.cell? ⟨W.heap.size + 1, 1, none⟩ = some (.int .i64 0) := (cell_blk HK5.out 1).trans rfl); have hf := frozen_blk HK5.out))
        exact fin40 HE.out rfl rfl HK5.out (Nat.le_succ _) (HB4.out.trans (HD5.out.mono HB4.out.size))
      · have heb2 : (er2 != 0) = true := by simpa using he2
        have HE := Lib.hid (show evR m ⟨16, f1, f2, f3, f4, [a, b]⟩ = ((0, 0), er2) by rw [HE0, if_neg (by simp), if_neg hn, if_pos he2])
        clear HE0
        go_enter Try.func40, Try.ntmps40
        go_wp2_with fail
        rw [← HW1.out]
        refine HO.out.mono ?_
        rw [← HR.out]
        rintro e w2 ⟨rfl, hd⟩
        have HD := Lib.hid hd
        have HK2 := Lib.hid ((hd.block (W.heap.size + 1) (by have := HS1.out; omega)).trans HN.out)
        have HX2 := Lib.hid ((hd.block W.heap.size (by have := HS1.out; omega)).trans HX.out)
        have HB2 := Lib.hid (HB1.out.trans (hd.mono HB1.out.size))
        clear hd h0 h1 h2 h3 h4 h5 h6 hbl
        have hc0 : w2.cell? ⟨W.heap.size + 1, 0, none⟩ = some (.int .i64 0) := (cell_blk HK2.out 0).trans rfl
        have hc1 : w2.cell? ⟨W.heap.size + 1, 1, none⟩ = some (.int .i64 0) := (cell_blk HK2.out 1).trans rfl
        have hf := frozen_blk HK2.out
        have hx5 : w2.cell? ⟨W.heap.size, 6, none⟩ = some (.slice (some ad) 2 c6) := (cell_blk HX2.out 6).trans rfl
        obtain ⟨h0, h1, h2, h3, h4, h5, h6⟩ := (K2.out.later HB2.out).second
        clear hc0 hc1 hf
        go_wp2_with (go_at_call 72; refine (HO2.out _ HB2.out).mono ?_; rw [← HR2.out]; rintro e w4 ⟨rfl, hd4⟩; (have HK4 := Lib.hid ((hd4.block (W.heap.size + 1) (Array.getElem?_eq_some_iff.1 HK2.out).1).trans HK2.out)); (have HX4 := Lib.hid ((hd4.block W.heap.size (Array.getElem?_eq_some_iff.1 HX2.out).1).trans HX2.out)); (have HB4 := Lib.hid (HB2.out.trans (hd4.mono HB2.out.size))); clear hd4; (have g0 : w4.cell? ⟨W.heap.size, 0, none⟩ = some (.int .i64 16) := (cell_blk HX4.out 0).trans rfl); (have hc0 : w4.cell? ⟨W.heap.size + 1, 0, none⟩ = some (.int .i64 0) := (cell_blk HK4.out 0).trans rfl); (have hc1 : w4.cell? ⟨W.heap.size + 1, 1, none⟩ = some (.int .i64 0) := (cell_blk HK4.out 1).trans rfl); (have hf := frozen_blk HK4.out))
        exact fin40 (p := (0, 0)) HE.out rfl rfl HK4.out (Nat.le_succ _) HB4.out
  · have heb : (er != 0) = true := by simpa using he
    have HE := Lib.hid (show evR m ⟨16, f1, f2, f3, f4, [a, b]⟩ = ((0, 0), er) by rw [HE0, if_pos he])
    clear HE0
    go_enter Try.func40, Try.ntmps40
    go_wp2_with fail
    rw [← HW1.out]
    refine HO.out.mono ?_
    rw [← HR.out]
    rintro e w2 ⟨rfl, hd⟩
    have HD := Lib.hid hd
    have HK2 := Lib.hid ((hd.block (W.heap.size + 1) (by have := HS1.out; omega)).trans HN.out)
    have HX2 := Lib.hid ((hd.block W.heap.size (by have := HS1.out; omega)).trans HX.out)
    have HB2 := Lib.hid (HB1.out.trans (hd.mono HB1.out.size))
    clear hd h0 h1 h2 h3 h4 h5 h6 hbl
    have hc0 : w2.cell? ⟨W.heap.size + 1, 0, none⟩ = some (.int .i64 0) := (cell_blk HK2.out 0).trans rfl
    have hc1 : w2.cell? ⟨W.heap.size + 1, 1, none⟩ = some (.int .i64 0) := (cell_blk HK2.out 1).trans rfl
    have hf := frozen_blk HK2.out
    go_wp2
    all_goals first
      | (rename_i hu1 hu2; cases hu1; done)
      | (refine ⟨trivial, ?_⟩
         go_wp2
         exact fin40 (p := (0, 0)) HE.out rfl rfl HK2.out (Nat.le_succ _) HB2.out)
      | exact fin40 (p := (0, 0)) HE.out rfl rfl HK2.out (Nat.le_succ _) HB2.out
end Go.Proofs.Ytoakelgcbbbieaa
