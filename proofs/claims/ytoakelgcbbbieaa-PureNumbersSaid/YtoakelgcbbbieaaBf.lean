/- An expression's value as the program reckons it: the asker's exp. -/
import Derived.Test.YtoakelgcbbbieaaBe
namespace Go.Proofs.Ytoakelgcbbbieaa
open Go.RowKit Go.Maps Go.Shelf Go.Proofs.YtoakelgcbbbieaaW.PrintWords Go.Proofs.YtoakelgcbbbieaaW.PrintLast Go.Proofs.YtoakelgcbbbieaaW.PrintMore
set_option linter.unusedVariables false
set_option linter.unusedSimpArgs false
set_option maxRecDepth 100000

theorem res70 {tmps : Array Value} {W : World} {b : Nat} {p : Int × Int} (h : tmps.getD 4 undef = .pointer (some ⟨b, 0, none⟩)) (c0 : W.cell? ⟨b, 0, none⟩ = some (.int .i64 p.1)) (c1 : W.cell? ⟨b, 1, none⟩ = some (.int .i64 p.2)) : (results Try.f70 tmps).run Try.prog W = .ok (encP p) W := by
  have h' : tmps[4]?.getD undef = .pointer (some ⟨b, 0, none⟩) := by simpa using h
  simp [results, Try.results70, h', go_sem, c0, c1]

/-- names within are short -/
def GN (x : S58) : Prop := ∀ y ∈ flat x, y.f1.f0.size ≤ maxLen
theorem GN.own {x : S58} (h : GN x) : x.f1.f0.size ≤ maxLen := h x (by rw [flat_eq]; simp)
theorem GN.kid {x y : S58} (h : GN x) (hy : y ∈ x.f5) : GN y := fun z hz => h z (by rw [flat_eq]; exact List.mem_cons_of_mem _ (List.mem_flatMap.2 ⟨y, hy, hz⟩))
theorem shaped_kid {x y : S58} (h : shapedB x = true) (hy : y ∈ x.f5) : shapedB y = true := by
  unfold shapedB at h ⊢
  rw [List.all_eq_true] at h ⊢
  exact fun z hz => h z (by rw [flat_eq]; exact List.mem_cons_of_mem _ (List.mem_flatMap.2 ⟨y, hy, hz⟩))
theorem shaped_own {x : S58} (h : shapedB x = true) : manyI x.f0 = (x.f5.length : Int) := by
  unfold shapedB at h
  rw [List.all_eq_true] at h
  have := h x (by rw [flat_eq]; simp)
  unfold good1 at this
  simpa using this

/-- what the last store into the result leaves -/
theorem fin70 {w0 W W2 : World} {ab mb b : Nat} {m : ByteArray → Option (Int × Int)} {x : S58} {e0 er : Int} {p : Int × Int} {u v : Value} {tmps : Array Value}
    (hr : evP m x e0 = (p, er)) (h : tmps.getD 4 undef = .pointer (some ⟨b, 0, none⟩)) (hb : W2.heap[b]? = some (.cells #[u, v] 67 (0, 0))) (hA : AB W2 ab mb er) (hne : W.heap.size ≤ b) (hlt : ab < W.heap.size) (hB : But W.heap.size ab W W2) :
    bodyPost Try.prog Try.f70 (fun e W' => e = .returned (encP (evP m x e0).1) ∧ AB W' ab mb (evP m x e0).2 ∧ But W.heap.size ab W W') .ret { tmps := tmps, defers := [] } ((W2.setCell ⟨b, 0, none⟩ (.int .i64 p.1)).setCell ⟨b, 1, none⟩ (.int .i64 p.2)) := by
  have h2 := heap_setCell_same (heap_setCell_same hb 0 (.int .i64 p.1)) 1 (.int .i64 p.2)
  have hab : ab ≠ b := by omega
  refine bodyPost_ret (v := encP p) (res70 h ((cell_blk h2 0).trans rfl) ((cell_blk h2 1).trans rfl)) rfl ⟨by rw [hr], ?_, ?_⟩
  · rw [hr]
    exact (Below.heap_setCell _ _ _ ab hab).trans ((Below.heap_setCell _ _ _ ab hab).trans hA)
  · exact hB.trans (But.of_below (((Below.refl W.heap.size W2).setCell (p := ⟨b, 0, none⟩) hne _).setCell (p := ⟨b, 1, none⟩) hne _) (Nat.le_refl _))

theorem exp_err {w0 : World} {ab mb : Nat} {m : ByteArray → Option (Int × Int)} {x : S58} {A6 : Option Addr} {c6 : Nat} {err : Int} {W : World} (hA : AB W ab mb err) (he : err ≠ 0) :
    Calls Try.prog 70 #[.pointer (some ⟨ab, 0, none⟩), .agg (eX x A6 c6)] W fun e W' => e = .returned (encP (evP m x err).1) ∧ AB W' ab mb (evP m x err).2 ∧ But W.heap.size ab W W' := by
  have HE := Lib.hid (show evP m x err = ((0, 0), err) by rw [evP_eq]; unfold evNode; rw [if_pos he])
  have c1 : W.cell? ⟨ab, 1, none⟩ = some (.int .i64 err) := (cell_blk hA 1).trans rfl
  have hlt := hA.lt
  have HA := Lib.hid hA
  have heb : (err != 0) = true := by simpa using he
  clear hA
  go_enter Try.func70, Try.ntmps70
  go_wp2
  have hb1 : Below W.heap.size W (W.alloc (.cells (eX x A6 c6) 58)) := (Below.refl _ _).alloc (Nat.le_refl _) _
  have hb2 := hb1.alloc (o := .cells #[.int .i64 0, .int .i64 0] 67) hb1.size
  have hnew := World.alloc_heap_new (W.alloc (.cells (eX x A6 c6) 58)) (.cells #[.int .i64 0, .int .i64 0] 67)
  rw [World.size_alloc] at hnew
  refine bodyPost_ret (v := encP (0, 0)) (res70 rfl ((cell_blk hnew 0).trans rfl) ((cell_blk hnew 1).trans rfl)) rfl ⟨by rw [HE.out], by rw [HE.out]; exact HA.out.below hb2, But.of_below hb2 (Nat.le_refl _)⟩

set_option maxHeartbeats 1000000 in
theorem exp_leaf {w0 : World} {ab mb : Nat} {m : ByteArray → Option (Int × Int)} (hM : MapV encP w0 mb m) (hab : w0.heap.size ≤ ab) {x : S58} (hx : x.f0 = 25 ∨ x.f0 = 26 ∨ x.f0 = 27 ∨ x.f0 = 28 ∨ x.f0 = 29) (hn : x.f1.f0.size ≤ maxLen) {A6 : Option Addr} {c6 : Nat} {W : World} (hW : Below w0.heap.size w0 W) (hA : AB W ab mb 0) :
    Calls Try.prog 70 #[.pointer (some ⟨ab, 0, none⟩), .agg (eX x A6 c6)] W fun e W' => e = .returned (encP (evP m x 0).1) ∧ AB W' ab mb (evP m x 0).2 ∧ But W.heap.size ab W W' := by
  have c1 : W.cell? ⟨ab, 1, none⟩ = some (.int .i64 0) := (cell_blk hA 1).trans rfl
  have hlt := hA.lt
  have HA := Lib.hid hA
  have HW := Lib.hid hW
  have HM := Lib.hid hM
  have HE := Lib.hid (evP_eq m x)
  clear hA hW hM
  obtain ⟨f0, f1, f2, f3, f4, f5⟩ := x
  dsimp only at hx hn
  obtain ⟨W1, hW1⟩ : ∃ W1, W1 = (W.alloc (.cells (eX ⟨f0, f1, f2, f3, f4, f5⟩ A6 c6) 58)).alloc (.cells #[.int .i64 0, .int .i64 0] 67) := ⟨_, rfl⟩
  have hb1 : Below W.heap.size W W1 := by rw [hW1]; exact ((Below.refl _ _).alloc (Nat.le_refl _) _).alloc (by simp) _
  have hnew : W1.heap[W.heap.size + 1]? = some (.cells #[.int .i64 0, .int .i64 0] 67 (0, 0)) := by
    rw [hW1]
    have := World.alloc_heap_new (W.alloc (.cells (eX ⟨f0, f1, f2, f3, f4, f5⟩ A6 c6) 58)) (.cells #[.int .i64 0, .int .i64 0] 67)
    rwa [World.size_alloc] at this
  have hs1 : W1.heap.size = W.heap.size + 2 := by rw [hW1]; simp
  have HB1 := Lib.hid hb1
  have HN := Lib.hid hnew
  have HS1 := Lib.hid hs1
  have HW1 := Lib.hid hW1
  clear hb1 hnew hs1 hW1
  rcases hx with rfl | rfl | rfl | rfl | rfl
  · go_enter Try.func70, Try.ntmps70
    go_wp2_with (go_at_call 44; refine (pure_Wrap.calls f2 (wrN f2) _ rfl).mono ?_; rintro e w2 ⟨rfl, ⟨nd, rfl⟩⟩)
    rw [← HW1.out]
    have hd := below_drawn W1 nd
    exact fin70 (w0 := w0) (p := (1, wrN f2)) (er := 0) (by rw [HE.out]; simp [evNode]) rfl ((hd.block _ (by have := HS1.out; omega)).trans HN.out) ((HA.out.below HB1.out).below hd) (Nat.le_succ _) hlt ((But.of_below HB1.out (Nat.le_refl _)).trans (But.of_below hd (HB1.out.size)))
  · go_enter Try.func70, Try.ntmps70
    go_wp2_with (go_at_call 85; rw [← HW1.out]; refine (pure_truth.calls true 2 1 _ rfl).mono ?_; rintro e w2 ⟨rfl, hd⟩; have hc0 : w2.cell? ⟨W.heap.size + 1, 0, none⟩ = some (.int .i64 0) := cell_later hd ((cell_blk HN.out 0).trans rfl); have hc1 : w2.cell? ⟨W.heap.size + 1, 1, none⟩ = some (.int .i64 0) := cell_later hd ((cell_blk HN.out 1).trans rfl); have hf := frozen_blk ((hd.block _ (by have := HS1.out; omega)).trans HN.out))
    exact fin70 (w0 := w0) (p := (2, 1)) (er := 0) (by rw [HE.out]; rfl) rfl ((hd.block _ (by have := HS1.out; omega)).trans HN.out) ((HA.out.below HB1.out).below hd) (Nat.le_succ _) hlt ((But.of_below HB1.out (Nat.le_refl _)).trans (But.of_below hd (HB1.out.size)))
  · go_enter Try.func70, Try.ntmps70
    go_wp2_with (go_at_call 85; rw [← HW1.out]; refine (pure_truth.calls false 2 0 _ rfl).mono ?_; rintro e w2 ⟨rfl, hd⟩; have hc0 : w2.cell? ⟨W.heap.size + 1, 0, none⟩ = some (.int .i64 0) := cell_later hd ((cell_blk HN.out 0).trans rfl); have hc1 : w2.cell? ⟨W.heap.size + 1, 1, none⟩ = some (.int .i64 0) := cell_later hd ((cell_blk HN.out 1).trans rfl); have hf := frozen_blk ((hd.block _ (by have := HS1.out; omega)).trans HN.out))
    exact fin70 (w0 := w0) (p := (2, 0)) (er := 0) (by rw [HE.out]; rfl) rfl ((hd.block _ (by have := HS1.out; omega)).trans HN.out) ((HA.out.below HB1.out).below hd) (Nat.le_succ _) hlt ((But.of_below HB1.out (Nat.le_refl _)).trans (But.of_below hd (HB1.out.size)))
  · go_enter Try.func70, Try.ntmps70
    have hM1 := HM.out.later ((HW.out.trans (HB1.out.mono HW.out.size)).block mb HM.out.lt)
    go_wp2_with (go_at_call 86; rw [← HW1.out]; refine (name_calls (HA.out.below HB1.out) hM1 hn).mono ?_; rintro e w2 ⟨rfl, hA2, hd⟩; (have hk2 := (hd.block (W.heap.size + 1) (by have := HS1.out; omega) (by omega)).trans HN.out); (have hc0 : w2.cell? ⟨W.heap.size + 1, 0, none⟩ = some (.int .i64 0) := (cell_blk hk2 0).trans rfl); (have hc1 : w2.cell? ⟨W.heap.size + 1, 1, none⟩ = some (.int .i64 0) := (cell_blk hk2 1).trans rfl); have hf := frozen_blk hk2; dsimp only [encP])
    exact fin70 (w0 := w0) (er := (nameP (m f1.f0)).2) (by rw [HE.out]; rfl) rfl hk2 hA2 (Nat.le_succ _) hlt ((But.of_below HB1.out (Nat.le_refl _)).trans (hd.mono HB1.out.size))
  · go_enter Try.func70, Try.ntmps70
    go_wp2
    have hb1 : Below W.heap.size W (W.alloc (.cells (eX ⟨29, f1, f2, f3, f4, f5⟩ A6 c6) 58)) := (Below.refl _ _).alloc (Nat.le_refl _) _
    have hb2 := hb1.alloc (o := .cells #[.int .i64 3, .int .i64 0] 67) hb1.size
    have hnew := World.alloc_heap_new (W.alloc (.cells (eX ⟨29, f1, f2, f3, f4, f5⟩ A6 c6) 58)) (.cells #[.int .i64 3, .int .i64 0] 67)
    rw [World.size_alloc] at hnew
    have hE : evP m ⟨29, f1, f2, f3, f4, f5⟩ 0 = ((3, 0), 0) := by rw [HE.out]; rfl
    refine bodyPost_ret (v := encP (3, 0)) (res70 rfl ((cell_blk hnew 0).trans rfl) ((cell_blk hnew 1).trans rfl)) rfl ⟨by rw [hE], by rw [hE]; exact HA.out.below hb2, But.of_below hb2 (Nat.le_refl _)⟩

theorem truth_f (b : Bool) : pure_truth.f b = some ((truthP b).1, (truthP b).2) := by cases b <;> rfl

set_option maxHeartbeats 1000000 in
theorem exp_not {w0 : World} {ab mb : Nat} {m : ByteArray → Option (Int × Int)} (hab : w0.heap.size ≤ ab) {f1 : S55} {f2 f3 f4 : Int} {a : S58} (hE : ExpOK w0 ab mb m a) {A6 : Option Addr} {c6 : Nat} {W : World} (hC : Kd.C k58 w0 A6 1 [a]) (hW : Below w0.heap.size w0 W) (hA : AB W ab mb 0) :
    Calls Try.prog 70 #[.pointer (some ⟨ab, 0, none⟩), .agg (eX ⟨21, f1, f2, f3, f4, [a]⟩ A6 c6)] W fun e W' => e = .returned (encP (evP m ⟨21, f1, f2, f3, f4, [a]⟩ 0).1) ∧ AB W' ab mb (evP m ⟨21, f1, f2, f3, f4, [a]⟩ 0).2 ∧ But W.heap.size ab W W' := by
  have c1 : W.cell? ⟨ab, 1, none⟩ = some (.int .i64 0) := (cell_blk hA 1).trans rfl
  have hlt := hA.lt
  obtain ⟨ad, B6, d6, rfl, h0, h1, h2, h3, h4, h5, h6, h7, hCk⟩ := at_T58 hC 0 (by omega) (by omega)
  replace h0 := cell_later hW h0
  replace h1 := cell_later hW h1
  replace h2 := cell_later hW h2
  replace h3 := cell_later hW h3
  replace h4 := cell_later hW h4
  replace h5 := cell_later hW h5
  replace h6 := cell_later hW h6
  rw [show rd_T58 [a] 0 = a from rfl] at h0 h1 h2 h3 h4 h5 h6 hCk
  simp only [Int.toNat_zero, Nat.zero_mul, show ad.add 0 = ad from rfl] at h0 h1 h2 h3 h4 h5 h6
  have hbl := cell_block h0
  clear h7
  have HA := Lib.hid hA
  have HW := Lib.hid hW
  have HCK := Lib.hid hCk
  obtain ⟨r, hr⟩ : ∃ r, r = ofP (evP m a 0) 2 := ⟨_, rfl⟩
  have HE := Lib.hid (show evP m ⟨21, f1, f2, f3, f4, [a]⟩ 0 = (truthP (r.1 == 0), r.2) by rw [evP_eq, hr]; rfl)
  have HR := Lib.hid hr
  clear hA hW hCk hr hC
  obtain ⟨n, er⟩ := r
  obtain ⟨W1, hW1⟩ : ∃ W1, W1 = (W.alloc (.cells (eX ⟨21, f1, f2, f3, f4, [a]⟩ (some ad) c6) 58)).alloc (.cells #[.int .i64 0, .int .i64 0] 67) := ⟨_, rfl⟩
  have hb1 : Below W.heap.size W W1 := by rw [hW1]; exact ((Below.refl _ _).alloc (Nat.le_refl _) _).alloc (by simp) _
  have hnew : W1.heap[W.heap.size + 1]? = some (.cells #[.int .i64 0, .int .i64 0] 67 (0, 0)) := by
    rw [hW1]
    have := World.alloc_heap_new (W.alloc (.cells (eX ⟨21, f1, f2, f3, f4, [a]⟩ (some ad) c6) 58)) (.cells #[.int .i64 0, .int .i64 0] 67)
    rwa [World.size_alloc] at this
  have hs1 : W1.heap.size = W.heap.size + 2 := by rw [hW1]; simp
  have HB1 := Lib.hid hb1
  have HN := Lib.hid hnew
  have HS1 := Lib.hid hs1
  have HW1 := Lib.hid hW1
  clear hb1 hnew hs1 hW1
  go_enter Try.func70, Try.ntmps70
  go_wp2_with (first
    | (go_at_call 87; rw [← HW1.out]; refine (of_calls hE HCK.out (HW.out.trans (HB1.out.mono HW.out.size)) (HA.out.below HB1.out) 2).mono ?_; rw [← HR.out]; rintro e w2 ⟨rfl, hA2, hd⟩; (have HA2 := Lib.hid hA2); (have HD := Lib.hid hd); clear hA2 hd; (have HK2 := Lib.hid ((HD.out.block (W.heap.size + 1) (by have := HS1.out; omega) (by omega)).trans HN.out)))
    | (go_at_call 85; refine (pure_truth.calls (n == 0) _ _ _ (truth_f _)).mono ?_; rintro e w3 ⟨rfl, hd3⟩; (have HD3 := Lib.hid hd3); (have HK3 := Lib.hid ((hd3.block _ (Array.getElem?_eq_some_iff.1 HK2.out).1).trans HK2.out)); clear hd3; (have hc0 : w3.cell? ⟨W.heap.size + 1, 0, none⟩ = some (.int .i64 0) := (cell_blk HK3.out 0).trans rfl); (have hc1 : w3.cell? ⟨W.heap.size + 1, 1, none⟩ = some (.int .i64 0) := (cell_blk HK3.out 1).trans rfl); have hf := frozen_blk HK3.out))
  exact fin70 (w0 := w0) (er := er) (by rw [HE.out]) rfl HK3.out (HA2.out.below HD3.out) (Nat.le_succ _) hlt (((But.of_below HB1.out (Nat.le_refl _)).trans (HD.out.mono HB1.out.size)).trans (But.of_below HD3.out (by have := HD.out.size; have := HB1.out.size; omega)))
end Go.Proofs.Ytoakelgcbbbieaa
