/- The value of any expression, as the program tells it: Eval. -/
import Derived.Test.YtoakelgcbbbieaaBh
import Derived.Shelf.RegionOpenPlain
namespace Go.Proofs.Ytoakelgcbbbieaa
open Go.RowKit Go.Maps Go.Shelf Go.Proofs.YtoakelgcbbbieaaW.PrintWords Go.Proofs.YtoakelgcbbbieaaW.PrintLast Go.Proofs.YtoakelgcbbbieaaW.PrintMore
set_option linter.unusedVariables false
set_option linter.unusedSimpArgs false
set_option maxRecDepth 100000

/-- value and error -/
def evalP (m : ByteArray → Option (Int × Int)) (x : S58) : (Int × Int) × Option Int :=
  if shapedB x = true then (if (evP m x 0).2 = 0 then ((evP m x 0).1, none) else ((0, 0), some (evP m x 0).2)) else ((0, 0), some 13)

theorem res36 {tmps : Array Value} {W : World} {b : Nat} {p : Int × Int} {o : Option Int} (h : tmps.getD 4 undef = .pointer (some ⟨b, 0, none⟩)) (h5 : tmps.getD 5 undef = errW o) (c0 : W.cell? ⟨b, 0, none⟩ = some (.int .i64 p.1)) (c1 : W.cell? ⟨b, 1, none⟩ = some (.int .i64 p.2)) : (results Try.f36 tmps).run Try.prog W = .ok (.tuple #[encP p, errW o]) W := by
  have h' : tmps[4]?.getD undef = .pointer (some ⟨b, 0, none⟩) := by simpa using h
  have h5' : tmps[5]?.getD undef = errW o := by simpa using h5
  simp [results, Try.results36, h', h5', go_sem, c0, c1]

theorem fin36 {w W2 V : World} {b : Nat} {p : Int × Int} {o : Option Int} {r : (Int × Int) × Option Int} {u v : Value} {tmps : Array Value} (hr : r = (p, o))
    (h : tmps.getD 4 undef = .pointer (some ⟨b, 0, none⟩)) (h5 : tmps.getD 5 undef = errW o) (hb : W2.heap[b]? = some (.cells #[u, v] 67 (0, 0))) (hne : w.heap.size ≤ b) (hB : Below w.heap.size w W2)
    (hV : Below ((W2.setCell ⟨b, 0, none⟩ (.int .i64 p.1)).setCell ⟨b, 1, none⟩ (.int .i64 p.2)).heap.size ((W2.setCell ⟨b, 0, none⟩ (.int .i64 p.1)).setCell ⟨b, 1, none⟩ (.int .i64 p.2)) V) :
    bodyPost Try.prog Try.f36 (fun e w' => e = .returned (.tuple #[encP r.1, errW r.2]) ∧ Below w.heap.size w w') .ret { tmps := tmps, defers := [] } V := by
  have h2 := heap_setCell_same (heap_setCell_same hb 0 (.int .i64 p.1)) 1 (.int .i64 p.2)
  have h3 := (hV.block b (Array.getElem?_eq_some_iff.1 h2).1).trans h2
  refine bodyPost_ret (v := .tuple #[encP p, errW o]) (res36 h h5 ((cell_blk h3 0).trans rfl) ((cell_blk h3 1).trans rfl)) rfl ⟨by rw [hr], ?_⟩
  have hb2 := (hB.setCell (p := ⟨b, 0, none⟩) hne (.int .i64 p.1)).setCell (p := ⟨b, 1, none⟩) hne (.int .i64 p.2)
  exact hb2.trans (hV.mono hb2.size)

set_option maxHeartbeats 2000000 in
theorem Eval_calls {w : World} {x : S58} {A6 : Option Addr} {c6 mb : Nat} {m : ByteArray → Option (Int × Int)} (hC : Kd.C k58 w A6 x.f5.length x.f5) (hM : MapV encP w mb m) (hg : GN x) :
    Calls Try.prog 36 #[.agg (eX x A6 c6), .map (some mb)] w fun e w' => e = .returned (.tuple #[encP (evalP m x).1, errW (evalP m x).2]) ∧ Below w.heap.size w w' := by
  obtain ⟨W1, hW1⟩ : ∃ W1, W1 = (w.alloc (.cells (eX x A6 c6) 58)).alloc (.cells #[.int .i64 0, .int .i64 0] 67) := ⟨_, rfl⟩
  have hb1 : Below w.heap.size w W1 := by rw [hW1]; exact ((Below.refl _ _).alloc (Nat.le_refl _) _).alloc (by simp) _
  have hnew : W1.heap[w.heap.size + 1]? = some (.cells #[.int .i64 0, .int .i64 0] 67 (0, 0)) := by
    rw [hW1]
    have := World.alloc_heap_new (w.alloc (.cells (eX x A6 c6) 58)) (.cells #[.int .i64 0, .int .i64 0] 67)
    rwa [World.size_alloc] at this
  have hbox : W1.heap[w.heap.size]? = some (.cells (eX x A6 c6) 58 (0, 0)) := by
    rw [hW1]
    exact (Below.heap_alloc _ _ _ (by simp)).trans (World.alloc_heap_new w _)
  have hs1 : W1.heap.size = w.heap.size + 2 := by rw [hW1]; simp
  have HB1 := Lib.hid hb1
  have HN := Lib.hid hnew
  have HX := Lib.hid hbox
  have HS1 := Lib.hid hs1
  have HW1 := Lib.hid hW1
  have HC := Lib.hid hC
  have HM := Lib.hid hM
  have HG := Lib.hid hg
  clear hb1 hnew hs1 hW1 hbox hC hM hg
  by_cases hsh : shapedB x = true
  · have HSH := Lib.hid hsh
    have HE : evalP m x = if (evP m x 0).2 = 0 then ((evP m x 0).1, none) else ((0, 0), some (evP m x 0).2) := by unfold evalP; rw [if_pos hsh]
    clear hsh
    go_enter Try.func36, Try.ntmps36
    go_wp2_with fail
    rw [← HW1.out]
    refine (shaped_calls (Kd.C_below HC.out HB1.out)).mono ?_
    rw [HSH.out]
    rintro e w2 ⟨rfl, hd⟩
    have HD := Lib.hid hd
    have hs2 : w.heap.size + 2 ≤ w2.heap.size := by have := hd.size; have := HS1.out; omega
    have hlt2 : w.heap.size < w2.heap.size := by omega
    clear hd
    have HK2 := Lib.hid ((HD.out.block (w.heap.size + 1) (by have := HS1.out; omega)).trans HN.out)
    have HX2 := Lib.hid ((HD.out.block w.heap.size (by have := HS1.out; omega)).trans HX.out)
    have HW2 := Lib.hid (show Below w.heap.size w w2 from HB1.out.trans (HD.out.mono HB1.out.size))
    have h0 : w2.cell? ⟨w.heap.size, 0, none⟩ = some (.int .i64 x.f0) := (cell_blk HX2.out 0).trans rfl
    have h1 : w2.cell? ⟨w.heap.size, 1, none⟩ = some (.string x.f1.f0) := (cell_blk HX2.out 1).trans rfl
    have h2 : w2.cell? ⟨w.heap.size, 2, none⟩ = some (.int .i64 x.f1.f1) := (cell_blk HX2.out 2).trans rfl
    have h3 : w2.cell? ⟨w.heap.size, 3, none⟩ = some (.int .i64 x.f2) := (cell_blk HX2.out 3).trans rfl
    have h4 : w2.cell? ⟨w.heap.size, 4, none⟩ = some (.int .i64 x.f3) := (cell_blk HX2.out 4).trans rfl
    have h5 : w2.cell? ⟨w.heap.size, 5, none⟩ = some (.int .i64 x.f4) := (cell_blk HX2.out 5).trans rfl
    have h6 : w2.cell? ⟨w.heap.size, 6, none⟩ = some (.slice A6 x.f5.length c6) := (cell_blk HX2.out 6).trans rfl
    obtain ⟨w3, hw3⟩ : ∃ w3, w3 = w2.alloc (.cells #[.map (some mb), .int .i64 0] 154) := ⟨_, rfl⟩
    have HB3 := Lib.hid (show Below w2.heap.size w2 w3 by rw [hw3]; exact (Below.refl _ _).alloc (Nat.le_refl _) _)
    have HA3 := Lib.hid (show AB w3 w2.heap.size mb 0 by rw [hw3]; exact World.alloc_heap_new w2 _)
    have HS3 := Lib.hid (show w3.heap.size = w2.heap.size + 1 by rw [hw3]; simp)
    have HW3 := Lib.hid hw3
    clear hw3
    go_wp2_with fail
    rw [← HW3.out]
    refine (exp_ok HM.out (by omega) x HSH.out HG.out A6 c6 0 w3 HC.out (HW2.out.trans (HB3.out.mono HW2.out.size)) HA3.out).mono ?_
    rintro e w4 ⟨rfl, hA4, hd4⟩
    obtain ⟨⟨⟨k, n⟩, er⟩, hr⟩ : ∃ r, r = evP m x 0 := ⟨_, rfl⟩
    rw [← hr] at HE hA4 ⊢
    have HA4 := Lib.hid hA4
    have HD4 := Lib.hid hd4
    have hs3 := HS3.out
    have hs4 := hd4.size
    have c1 : w4.cell? ⟨w2.heap.size, 1, none⟩ = some (.int .i64 er) := (cell_blk hA4 1).trans rfl
    have HK4 := Lib.hid ((hd4.block (w.heap.size + 1) (by omega) (by omega)).trans ((HB3.out.block _ (by omega)).trans HK2.out))
    have hc0 : w4.cell? ⟨w.heap.size + 1, 0, none⟩ = some (.int .i64 0) := (cell_blk HK4.out 0).trans rfl
    have hc1 : w4.cell? ⟨w.heap.size + 1, 1, none⟩ = some (.int .i64 0) := (cell_blk HK4.out 1).trans rfl
    have hf := frozen_blk HK4.out
    have HW4 := Lib.hid (show Below w.heap.size w w4 from (HW2.out.trans (HB3.out.mono HW2.out.size)).trans (hd4.below (by omega) (by omega)))
    have hlt4 : w2.heap.size < w4.heap.size := by omega
    have hlt5 : w.heap.size + 1 < w4.heap.size := by omega
    clear hA4 hd4 hr h0 h1 h2 h3 h4 h5 h6
    dsimp only [encP]
    by_cases he : er = 0
    · subst he
      have HE' := Lib.hid (show evalP m x = ((k, n), none) by rw [HE]; rfl)
      clear HE
      go_wp2
      exact fin36 (p := (k, n)) (o := none) HE'.out rfl rfl HK4.out (Nat.le_succ _) HW4.out ((Below.refl _ _).alloc (Nat.le_refl _) _)
    · have heb : (er != 0) = true := by simpa using he
      have HE' := Lib.hid (show evalP m x = ((0, 0), some er) by rw [HE]; simp [he])
      clear HE
      go_wp2
      have mixed : Try.prog.follows .mixedOrders = true := by kernel_rfl
      go_region_o
      all_goals go_wp2
      all_goals exact fin36 (p := (0, 0)) (o := some er) HE'.out rfl rfl HK4.out (Nat.le_succ _) HW4.out (((Below.refl _ _).alloc (Nat.le_refl _) _).trans (drewB (Below.size ((Below.refl _ _).alloc (Nat.le_refl _) _))))
  · have HSH := Lib.hid (show shapedB x = false by simpa using hsh)
    have HE := Lib.hid (show evalP m x = ((0, 0), some 13) by unfold evalP; rw [if_neg hsh])
    clear hsh
    go_enter Try.func36, Try.ntmps36
    go_wp2_with fail
    rw [← HW1.out]
    refine (shaped_calls (Kd.C_below HC.out HB1.out)).mono ?_
    rw [HSH.out]
    rintro e w2 ⟨rfl, hd⟩
    have HK2 := Lib.hid ((hd.block (w.heap.size + 1) (by have := HS1.out; omega)).trans HN.out)
    have HW2 := Lib.hid (show Below w.heap.size w w2 from HB1.out.trans (hd.mono HB1.out.size))
    have hc0 : w2.cell? ⟨w.heap.size + 1, 0, none⟩ = some (.int .i64 0) := (cell_blk HK2.out 0).trans rfl
    have hc1 : w2.cell? ⟨w.heap.size + 1, 1, none⟩ = some (.int .i64 0) := (cell_blk HK2.out 1).trans rfl
    have hf := frozen_blk HK2.out
    clear hd
    go_wp2
    exact fin36 (p := (0, 0)) (o := some 13) HE.out rfl rfl HK2.out (Nat.le_succ _) HW2.out (Below.refl _ _)
end Go.Proofs.Ytoakelgcbbbieaa
