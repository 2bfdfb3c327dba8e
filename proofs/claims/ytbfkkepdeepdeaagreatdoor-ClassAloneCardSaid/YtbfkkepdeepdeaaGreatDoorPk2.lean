/- A part of the proof: The row of ClassAlone: for every input the statement returns true; and its card. -/
import Derived.Shelf.Abstract
import Derived.Test.YtbfkkepdeepdeaaGreatDoorPk1
section
namespace Go.Proofs.YtbfkkepdeepdeaaGreatDoor
open Go.RowKit Go.Proofs.YtbfkkepdeepdeaaGreatDoorW.PrintWords Go.Proofs.YtbfkkepdeepdeaaGreatDoorW.PrintLast Go.Proofs.YtbfkkepdeepdeaaGreatDoorW.PrintMore
set_option linter.unusedVariables false
set_option linter.unusedSimpArgs false
set_option maxRecDepth 100000
section
variable {w w' : World} {cb : Nat} {s : ByteArray} {A : Option Addr} {c : Nat} {L : List Tok} {u : Cu} {H : List Nat}
theorem leaf_C (H : List Nat) (W : World) {n : Nd} (h : n.kids = []) : kNd.C (hole H W) none n.kids.length n.kids := by rw [h]; exact Kd.C_nil _ _
theorem Keep.lst {H0 : List Nat} {w W w1 : World} {base : Nat} {H' : List Nat} {v : Value} {l : List Nd} (k : Keep H0 w W) (h : Lst base H W H' v l) (hg : W.grownBy w1 v.ownBlock) (hb : w.heap.size ≤ base) : Keep H0 w w1 :=
  k.row hg (fun b e => Nat.le_trans hb (h.base b e))
set_option maxHeartbeats 1000000 in
theorem within_calls {inner : Cu → List Nd × Cu} {fv : FuncId} (hF : ∀ args W, (callFunc fv args).run Tryz.prog W = .ok (.enter fv args) W) (o e : ByteArray) (hI : ∀ W u2 H2, RdP W cb s A c L u2 → u2.deep = u.deep + 1 → Good H2 cb W → Calls Tryz.prog fv #[rdV cb] W (LsRes W cb s A c L H2 (inner u2))) (hlen : ∀ u2, (inner u2).1.length ≤ 100000) (R : RdP w cb s A c L u) (G : Good H cb w) :
    Calls Tryz.prog 266 #[rdV cb, .string o, .string e, .func (.func fv) #[rdV cb] #[]] w (LsRes w cb s A c L H (within s L inner o e u)) := by
  have hcb := R.lt
  have hA1 : Below w.heap.size w (w.alloc (.cells #[.pointer (some ⟨cb, 0, none⟩)] 300)) := (Below.refl _ _).alloc (Nat.le_refl _) _
  have HR1 := Lib.hid (R.below hA1)
  have HX1 := Lib.hid (World.alloc_heap_new w (.cells #[.pointer (some ⟨cb, 0, none⟩)] 300))
  have HA1 := Lib.hid (Keep.of_below (H := [cb]) hA1)
  have HG := Lib.hid G
  have HI := Lib.hid hI
  have HLEN := Lib.hid hlen
  clear R hA1 G hI hlen
  cases hd : down s L u with
  | mk b u1 =>
    have HD := Lib.hid hd
    clear hd
    cases b with
    | false =>
      have HW := Lib.hid (show within s L inner o e u = ([], u1) by unfold within; rw [HD.out])
      go_enter Tryz.func266, Tryz.ntmps266
      go_wp2_with fail
      refine (Down_calls HR1.out).mono ?_
      rw [HD.out]
      rintro e1 w1 ⟨rfl, R1, k1⟩
      go_wp2_with fail
      go_ret
      exact ⟨⟨_, H, rfl, by rw [HW.out]; exact Lst.nil _ (HG.out.later (HA1.out.trans k1).size).all⟩, by rw [HW.out]; exact R1, HA1.out.trans k1⟩
    | true =>
      have HW := Lib.hid (show within s L inner o e u = ((want s L u1 o).1 :: ((inner (want s L u1 o).2).1 ++ [(want s L (inner (want s L u1 o).2).2 e).1]), up (want s L (inner (want s L u1 o).2).2 e).2) by unfold within; rw [HD.out])
      have hu1 : (want s L u1 o).2.deep = u.deep + 1 := by rw [(want_adv u1 o).deep, (down_true HD.out).2.2]
      have HU1 := Lib.hid hu1
      obtain ⟨r1, hr1⟩ : ∃ r1, r1 = want s L u1 o := ⟨_, rfl⟩
      obtain ⟨r2, hr2⟩ : ∃ r2, r2 = inner r1.2 := ⟨_, rfl⟩
      obtain ⟨r3, hr3⟩ : ∃ r3, r3 = want s L r2.2 e := ⟨_, rfl⟩
      rw [← hr1] at HW HU1
      rw [← hr2] at HW
      rw [← hr3] at HW
      have HR1' := Lib.hid hr1
      have HR2' := Lib.hid hr2
      have HR3' := Lib.hid hr3
      clear hr1 hr2 hr3 hu1
      go_enter Tryz.func266, Tryz.ntmps266
      go_wp2_with fail
      refine (Down_calls HR1.out).mono ?_
      rw [HD.out]
      rintro e1 w1 ⟨rfl, R1, k1⟩
      have hx1 := (k1.block w.heap.size (by simp) (by simp; omega)).trans HX1.out
      have x0 := (cell_blk hx1 0).trans rfl
      have HX2 := Lib.hid hx1
      have HK1 := Lib.hid (HA1.out.trans k1)
      have HR2 := Lib.hid R1
      clear hx1 R1 k1
      go_wp2_with fail
      refine (Want_calls HR2.out o).mono ?_
      rw [← HR1'.out]
      rintro e2 w2 ⟨rfl, hk2, R2, k2⟩
      have hz2 := k2.size
      have hz1 : w.heap.size < w1.heap.size := (Array.getElem?_eq_some_iff.1 HX2.out).1
      have hx2 := (k2.block w.heap.size hz1 (by simp; omega)).trans HX2.out
      have HK2 := Lib.hid (HK1.out.trans k2)
      have g2 := HG.out.later HK2.out.size
      have HL3 := Lib.hid (Lst.lit (H := H) (base := w.heap.size + 1) (n := r1.1) (A' := none) (c' := 0) g2.all (by omega) (by rw [hk2]; exact Nat.le_refl _) (leaf_C H w2 hk2))
      have HR3 := Lib.hid (R2.below ((Below.refl _ _).alloc (Nat.le_refl _) (.cells (aNd r1.1 none 0) 122)))
      have HX3 := Lib.hid ((Below.heap_alloc w2 (.cells (aNd r1.1 none 0) 122) w.heap.size (by omega)).trans hx2)
      have HK3 := Lib.hid (HK2.out.trans (Keep.alloc w2 (.cells (aNd r1.1 none 0) 122)))
      have HC3 := Lib.hid (HI.out _ _ _ HR3.out HU1.out (HL3.out.good HG.out.cb))
      have x0' := (cell_blk hx2 0).trans rfl
      clear x0 R2 k2 hx2 g2 hk2
      go_wp2_with fail
      refine HC3.out.mono ?_
      rw [← HR2'.out]
      rintro e3 w4 ⟨⟨v4, H4, rfl, hL4⟩, R4, k4⟩
      obtain ⟨A4, c4, rfl, hl4, hC4⟩ := hL4.reads HL3.out.lt
      clear hL4
      have hw3 : (w2.alloc (.cells (aNd r1.1 none 0) 122)).heap.size = w2.heap.size + 1 := by simp
      have HL4 := Lib.hid (HL3.out.keep k4 HG.out.cb (by omega))
      have HX4 := Lib.hid ((k4.block w.heap.size (by omega) (by simp; omega)).trans HX3.out)
      have HK4 := Lib.hid (HK3.out.trans k4)
      have HR4 := Lib.hid R4
      have HC4 := Lib.hid hC4
      have HN4 := Lib.hid (show [r1.1].length + r2.1.length ≤ 1000000 by have := HLEN.out r1.2; rw [← HR2'.out] at this; simp; omega)
      have hw4 : w.heap.size < w4.heap.size := (Array.getElem?_eq_some_iff.1 HX4.out).1
      have HB4 := Lib.hid (show w.heap.size + 1 ≤ w4.heap.size from hw4)
      have HNE := Lib.hid (show some w.heap.size ≠ (Value.slice (some ⟨w2.heap.size, 0, none⟩) 1 1).ownBlock from fun e => by have := HL4.out.base _ e.symm; omega)
      clear R4 k4 hC4 x0'
      go_wp2_with ((with_reducible refine gate_builtin (b := .append) (xs := #[.tmp 19, .tmp 21]) rfl ?_); at_builtin; refine Lst.appendRow HL4.out rfl (.tmp 19) (.tmp 21) rfl rfl rfl HC4.out HB4.out HN4.out ?_; intro v5 w5 H5 hL5 hs5 hg5; (obtain ⟨A5, c5, rfl, -⟩ := hL5.row.slice_); have hx5 := (hg5.block w.heap.size hw4 HNE.out).trans HX4.out; have x5 := (cell_blk hx5 0).trans rfl; have HX5 := Lib.hid hx5; have HL5 := Lib.hid hL5; have HG5 := Lib.hid hg5; clear hL5 hg5 hx5)
      have HK5 := Lib.hid (HK4.out.lst HL4.out HG5.out (by omega))
      have hcb4 := HR4.out.lt
      have HR5 := Lib.hid (HR4.out.move (HG5.out.block cb hcb4 (fun e => by have := HL4.out.base _ e.symm; omega)) (fun k hk => HG5.out.block k (by omega) (fun e => by have := HL4.out.base _ e.symm; omega)))
      refine (Want_calls HR5.out e).mono ?_
      rw [← HR3'.out]
      rintro e5 w6 ⟨rfl, hk6, R6, k6⟩
      have hw5 := HG5.out.size
      have HKD := Lib.hid hk6
      have HL6 := Lib.hid (HL5.out.keep k6 HG.out.cb (by omega))
      have HX6 := Lib.hid ((k6.block w.heap.size (by omega) (by simp; omega)).trans HX5.out)
      have HK6 := Lib.hid (HK5.out.trans k6)
      have HR6 := Lib.hid R6
      have HN6 := Lib.hid (show ([r1.1] ++ r2.1).length + 1 ≤ 1000000 by have := HLEN.out r1.2; rw [← HR2'.out] at this; simp; omega)
      have hw6 : w.heap.size < w6.heap.size := (Array.getElem?_eq_some_iff.1 HX6.out).1
      have HB6 := Lib.hid (show w.heap.size + 1 ≤ w6.heap.size from hw6)
      have HNE6 := Lib.hid (show some w.heap.size ≠ (Value.slice A5 ([r1.1] ++ r2.1).length c5).ownBlock from fun e => by have := HL6.out.base _ e.symm; omega)
      clear R6 k6 hk6 x5
      go_wp2_with ((with_reducible refine gate_builtin (b := .append) (xs := #[.tmp 23, .tmp 28]) rfl ?_); at_builtin; refine Lst.appendOne HL6.out rfl (.tmp 23) (.tmp 28) rfl rfl rfl (by rw [HKD.out]; exact Nat.le_refl _) (leaf_C _ _ HKD.out) HB6.out HN6.out ?_; intro v7 w7 H7 hL7 hs7 hg7; (obtain ⟨A7, c7, rfl, -⟩ := hL7.row.slice_); have x7 := (cell_blk ((hg7.block w.heap.size hw6 HNE6.out).trans HX6.out) 0).trans rfl; have HL7 := Lib.hid hL7; have HG7 := Lib.hid hg7; clear hL7 hg7)
      have HK7 := Lib.hid (HK6.out.lst HL6.out HG7.out (by omega))
      have hcb6 := HR6.out.lt
      have HR7 := Lib.hid (HR6.out.move (HG7.out.block cb hcb6 (fun e => by have := HL6.out.base _ e.symm; omega)) (fun k hk => HG7.out.block k (by omega) (fun e => by have := HL6.out.base _ e.symm; omega)))
      refine (Up_calls HR7.out).mono ?_
      rintro e8 w8 ⟨rfl, R8, k8⟩
      have hL8 := HL7.out.keep k8 HG.out.cb (by omega)
      have HL8 := Lib.hid (hL8.lower (base' := w.heap.size) (by omega))
      have HK8 := Lib.hid (HK7.out.trans k8)
      have HWE := Lib.hid (show (within s L inner o e u).1 = [r1.1] ++ r2.1 ++ [r3.1] by rw [HW.out]; simp)
      clear hL8 k8
      go_wp2_with fail
      go_ret
      have hle : r2.1.length + 1 + 1 = ([r1.1] ++ r2.1 ++ [r3.1]).length := by simp
      exact ⟨⟨.slice A7 (r2.1.length + 1 + 1) c7, H7, rfl, by rw [HWE.out, hle]; exact HL8.out⟩, by rw [HW.out]; exact R8, HK8.out⟩
end
end Go.Proofs.YtbfkkepdeepdeaaGreatDoor
end
section
namespace Go.Proofs.YtbfkkepdeepdeaaGreatDoor
open Go.RowKit Go.Proofs.YtbfkkepdeepdeaaGreatDoorW.PrintWords Go.Proofs.YtbfkkepdeepdeaaGreatDoorW.PrintLast Go.Proofs.YtbfkkepdeepdeaaGreatDoorW.PrintMore
set_option linter.unusedVariables false
set_option linter.unusedSimpArgs false
set_option maxRecDepth 100000
def leftW (cb n : Nat) (w : World) : Nat := match w.cell? ⟨cb, 6, none⟩, w.cell? ⟨cb, 2, none⟩ with
  | some (.int _ e), some (.int _ k) => if e = 0 then n - k.toNat else 0
  | _, _ => 0
section
variable {w w' : World} {cb : Nat} {s : ByteArray} {A : Option Addr} {c : Nat} {L : List Tok} {u : Cu} {H : List Nat}
theorem RdP.leftW (R : RdP w cb s A c L u) : leftW cb L.length w = left L u := by
  unfold YtbfkkepdeepdeaaGreatDoor.leftW left
  rw [R.c6, R.c2]; simp
theorem argLoop_end {exp : Cu → Nd × Cu} {f : Nat} {l : List Nd} {c : Cu} (h : isB s L c 0 wComma = false) : argLoop s L exp f l c = (l, c) := by
  cases f with
  | zero => rfl
  | succ f => unfold argLoop; rw [if_neg (by rw [h]; simp)]
set_option maxHeartbeats 1000000 in
theorem args_calls {exp : Cu → Nd × Cu} (hE : ∀ W u2 H2, RdP W cb s A c L u2 → u2.deep = u.deep → Good H2 cb W → Calls Tryz.prog 189 #[rdV cb, .int .i64 0] W (NdRes W cb s A c L H2 (exp u2))) (hA : ∀ u, Adv L u (exp u).2) (R : RdP w cb s A c L u) (G : Good H cb w) :
    Calls Tryz.prog 282 #[rdV cb] w (LsRes w cb s A c L H (argsE s L exp u)) := by
  have hcb := R.lt
  have hll := R.fit.len
  have hA1 : Below w.heap.size w (w.alloc (.cells #[.pointer (some ⟨cb, 0, none⟩)] 300)) := (Below.refl _ _).alloc (Nat.le_refl _) _
  have HR1 := Lib.hid (R.below hA1)
  have HX1 := Lib.hid (World.alloc_heap_new w (.cells #[.pointer (some ⟨cb, 0, none⟩)] 300))
  have HA1 := Lib.hid (Keep.of_below (H := [cb]) hA1)
  have HG := Lib.hid G
  have HE := Lib.hid hE
  have HAD := Lib.hid hA
  clear R hA1 G hE hA
  cases hb : isB s L u 0 wRP with
  | true =>
    have HB := Lib.hid hb
    have HW := Lib.hid (show argsE s L exp u = ([], u) by unfold argsE; rw [if_pos hb])
    clear hb
    go_enter Tryz.func282, Tryz.ntmps282
    go_wp2_with fail
    refine (Is_calls HR1.out 0 (by decide) wRP).mono ?_
    rw [HB.out]
    rintro e w1 ⟨rfl, h1⟩
    have HR2 := Lib.hid (HR1.out.below h1)
    have HK := Lib.hid (HA1.out.trans (Keep.of_below h1))
    clear h1
    go_wp2_with fail
    go_ret
    exact ⟨⟨_, H, rfl, by rw [HW.out]; exact Lst.nil _ (HG.out.later HK.out.size).all⟩, by rw [HW.out]; exact HR2.out, HK.out⟩
  | false =>
    have HB := Lib.hid hb
    have HW := Lib.hid (show argsE s L exp u = argLoop s L exp (L.length + 1) [(exp u).1] (exp u).2 by unfold argsE; rw [if_neg (by rw [hb]; simp)])
    clear hb
    go_enter Tryz.func282, Tryz.ntmps282
    go_wp2_with fail
    refine (Is_calls HR1.out 0 (by decide) wRP).mono ?_
    rw [HB.out]
    rintro e w1 ⟨rfl, h1⟩
    have hx1 := (h1.block w.heap.size (by simp)).trans HX1.out
    have x0 := (cell_blk hx1 0).trans rfl
    have HX2 := Lib.hid hx1
    have HR2 := Lib.hid (HR1.out.below h1)
    have HK := Lib.hid (HA1.out.trans (Keep.of_below h1))
    clear h1 hx1
    go_wp2_with fail
    refine (one_calls (exp := exp) (fun W u2 H2 a b c => HE.out W u2 H2 a b c) HR2.out (HG.out.later HK.out.size)).mono ?_
    rintro e w2 ⟨⟨v2, H2, rfl, hL2⟩, R2, k2⟩
    have hw1 : w.heap.size < w1.heap.size := (Array.getElem?_eq_some_iff.1 HX2.out).1
    have HL2 := Lib.hid (hL2.lower (base' := w.heap.size + 1) hw1)
    have HX3 := Lib.hid ((k2.block w.heap.size hw1 (by simp; omega)).trans HX2.out)
    have HK2 := Lib.hid (HK.out.trans k2)
    have HR3 := Lib.hid R2
    clear hL2 R2 k2 x0
    go_wp2_with fail
    go_loopw [3] (fun v wr => ∃ (f : Nat) (l : List Nd) (u2 : Cu) (H2 : List Nat), left L u2 ≤ f ∧ l.length + 2 * f ≤ 2 * L.length + 3 ∧ Hid (argLoop s L exp (L.length + 1) [(exp u).1] (exp u).2 = argLoop s L exp f l u2) ∧ Hid (u2.deep = u.deep) ∧ Hid (Lst (w.heap.size + 1) H wr H2 v l) ∧ Hid (RdP wr cb s A c L u2) ∧ Hid (Keep [cb] w wr) ∧ Hid (wr.heap[w.heap.size]? = some (.cells #[.pointer (some ⟨cb, 0, none⟩)] 300 (0, 0)))) (fun v wr => leftW cb L.length wr)
    case atStart =>
      have h0 : left L (exp u).2 ≤ L.length + 1 := by unfold left; split <;> omega
      exact ⟨L.length + 1, [(exp u).1], (exp u).2, H2, h0, by simp; omega, Lib.hid rfl, Lib.hid (HAD.out u).deep, HL2, HR3, HK2, HX3⟩
    case round =>
      obtain ⟨f, l, u2, H3, hf, hlen, hq, hdp, hL, hR, hK, hX⟩ := hrel
      have x0 := (cell_blk hX.out 0).trans rfl
      have hwr : w.heap.size < wr.heap.size := (Array.getElem?_eq_some_iff.1 hX.out).1
      cases hb : isB s L u2 0 wComma with
      | false =>
        have HB2 := Lib.hid hb
        have HQ := Lib.hid (show argsE s L exp u = (l, u2) by rw [HW.out, hq.out, argLoop_end hb])
        clear hb
        go_wp2_with fail
        refine (Is_calls hR.out 0 (by decide) wComma).mono ?_
        rw [HB2.out]
        rintro e w3 ⟨rfl, h3⟩
        have HR4 := Lib.hid (hR.out.below h3)
        have HL4 := Lib.hid ((hL.out.keep (Keep.of_below h3) HG.out.cb (by omega)).lower (base' := w.heap.size) (by omega))
        have HK4 := Lib.hid (hK.out.trans (Keep.of_below h3))
        clear h3
        go_wp2_with fail
        go_ret
        exact ⟨⟨_, _, rfl, by rw [HQ.out]; exact HL4.out⟩, by rw [HQ.out]; exact HR4.out, HK4.out⟩
      | true =>
        have hpos : 0 < f := by
          have := want_left hb; omega
        obtain ⟨g, rfl⟩ : ∃ g, f = g + 1 := ⟨f - 1, by omega⟩
        have HB2 := Lib.hid hb
        have hwl := want_left hb
        have hal := (HAD.out (want s L u2 wComma).2).leftLe
        have HQ := Lib.hid (show argLoop s L exp (L.length + 1) [(exp u).1] (exp u).2 = argLoop s L exp g (l ++ [(want s L u2 wComma).1] ++ [(exp (want s L u2 wComma).2).1]) (exp (want s L u2 wComma).2).2 by rw [hq.out]; conv => lhs; unfold argLoop; rw [if_pos hb])
        have HD2 := Lib.hid ((want_adv (s := s) (L := L) u2 wComma).deep.trans hdp.out)
        have HD3 := Lib.hid ((HAD.out (want s L u2 wComma).2).deep.trans HD2.out)
        obtain ⟨r1, hr1⟩ : ∃ r1, r1 = want s L u2 wComma := ⟨_, rfl⟩
        rw [← hr1] at hwl hal HQ HD2 HD3
        obtain ⟨r2, hr2⟩ : ∃ r2, r2 = exp r1.2 := ⟨_, rfl⟩
        rw [← hr2] at hal HQ HD3
        have HR1' := Lib.hid hr1
        have HR2' := Lib.hid hr2
        clear hb hr1 hr2
        go_wp2_with fail
        refine (Is_calls hR.out 0 (by decide) wComma).mono ?_
        rw [HB2.out]
        rintro e w3 ⟨rfl, h3⟩
        have HR4 := Lib.hid (hR.out.below h3)
        have HL4 := Lib.hid (hL.out.keep (Keep.of_below h3) HG.out.cb (by omega))
        have HK4 := Lib.hid (hK.out.trans (Keep.of_below h3))
        have HX4 := Lib.hid ((h3.block w.heap.size hwr).trans hX.out)
        have x4 := (cell_blk HX4.out 0).trans rfl
        obtain ⟨A4, c4, rfl, -⟩ := hL.out.row.slice_
        clear h3 x0
        go_wp2_with fail
        refine (Want_calls HR4.out wComma).mono ?_
        rw [← HR1'.out]
        rintro e5 w5 ⟨rfl, hk5, R5, k5⟩
        have hw3 : w.heap.size < w3.heap.size := (Array.getElem?_eq_some_iff.1 HX4.out).1
        have HKD := Lib.hid hk5
        have HL5 := Lib.hid (HL4.out.keep k5 HG.out.cb (by omega))
        have HX5 := Lib.hid ((k5.block w.heap.size hw3 (by simp; omega)).trans HX4.out)
        have HK5 := Lib.hid (HK4.out.trans k5)
        have HR5 := Lib.hid R5
        have hw5 : w.heap.size < w5.heap.size := (Array.getElem?_eq_some_iff.1 HX5.out).1
        have HB5 := Lib.hid (show w.heap.size + 1 ≤ w5.heap.size from hw5)
        have HN5 := Lib.hid (show l.length + 1 ≤ 1000000 by omega)
        have HNE5 := Lib.hid (show some w.heap.size ≠ (Value.slice A4 l.length c4).ownBlock from fun e => by have := HL5.out.base _ e.symm; omega)
        clear R5 k5 hk5 x4
        go_wp2_with ((with_reducible refine gate_builtin (b := .append) (xs := #[.tmp 12, .tmp 16]) rfl ?_); at_builtin; refine Lst.appendOne HL5.out rfl (.tmp 12) (.tmp 16) rfl rfl rfl (by rw [HKD.out]; exact Nat.le_refl _) (leaf_C _ _ HKD.out) HB5.out HN5.out ?_; intro v6 w6 H6 hL6 hs6 hg6; (obtain ⟨A6, c6, rfl, -⟩ := hL6.row.slice_); have hx6 := (hg6.block w.heap.size hw5 HNE5.out).trans HX5.out; have x6 := (cell_blk hx6 0).trans rfl; have HX6 := Lib.hid hx6; have HL6 := Lib.hid hL6; have HG6 := Lib.hid hg6; clear hL6 hg6 hx6)
        have HK6 := Lib.hid (HK5.out.lst HL5.out HG6.out (by omega))
        have hcb5 := HR5.out.lt
        have HR6 := Lib.hid (HR5.out.move (HG6.out.block cb hcb5 (fun e => by have := HL5.out.base _ e.symm; omega)) (fun k hk => HG6.out.block k (by omega) (fun e => by have := HL5.out.base _ e.symm; omega)))
        refine (HE.out _ _ _ HR6.out HD2.out (HL6.out.good HG.out.cb)).mono ?_
        rw [← HR2'.out]
        rintro e7 w7 ⟨⟨A7, c7, rfl, hl7, hC7⟩, R7, k7⟩
        have hw6 : w.heap.size < w6.heap.size := (Array.getElem?_eq_some_iff.1 HX6.out).1
        have HL7 := Lib.hid (HL6.out.keep k7 HG.out.cb (by omega))
        have HX7 := Lib.hid ((k7.block w.heap.size hw6 (by simp; omega)).trans HX6.out)
        have HK7 := Lib.hid (HK6.out.trans k7)
        have HR7 := Lib.hid R7
        have HC7 := Lib.hid hC7
        have Hl7 := Lib.hid hl7
        have hw7 : w.heap.size < w7.heap.size := (Array.getElem?_eq_some_iff.1 HX7.out).1
        have HB7 := Lib.hid (show w.heap.size + 1 ≤ w7.heap.size from hw7)
        have HN7 := Lib.hid (show (l ++ [r1.1]).length + 1 ≤ 1000000 by simp; omega)
        have HNE7 := Lib.hid (show some w.heap.size ≠ (Value.slice A6 (l ++ [r1.1]).length c6).ownBlock from fun e => by have := HL7.out.base _ e.symm; omega)
        clear R7 k7 hC7 hl7 x6
        go_wp2_with ((with_reducible refine gate_builtin (b := .append) (xs := #[.tmp 18, .tmp 21]) rfl ?_); at_builtin; refine Lst.appendOne HL7.out rfl (.tmp 18) (.tmp 21) rfl (by show Value.slice _ _ _ = _; simp) rfl Hl7.out HC7.out HB7.out HN7.out ?_; intro v8 w8 H8 hL8 hs8 hg8; (obtain ⟨A8, c8, rfl, -⟩ := hL8.row.slice_); have HX8 := Lib.hid ((hg8.block w.heap.size hw7 HNE7.out).trans HX7.out); have HL8 := Lib.hid hL8; have HG8 := Lib.hid hg8; clear hL8 hg8)
        have HK8 := Lib.hid (HK7.out.lst HL7.out HG8.out (by omega))
        have hcb7 := HR7.out.lt
        have HR8 := Lib.hid (HR7.out.move (HG8.out.block cb hcb7 (fun e => by have := HL7.out.base _ e.symm; omega)) (fun k hk => HG8.out.block k (by omega) (fun e => by have := HL7.out.base _ e.symm; omega)))
        have hlm : (l ++ [r1.1] ++ [r2.1]).length + 2 * g ≤ 2 * L.length + 3 := by simp; omega
        have hlf : left L r2.2 ≤ g := by omega
        have hmeas : leftW cb L.length w8 < leftW cb L.length wr := by rw [HR8.out.leftW, hR.out.leftW]; omega
        have e8 : l.length + 1 + 1 = (l ++ [r1.1] ++ [r2.1]).length := by simp
        have HRel := Lib.hid (show ∃ (f : Nat) (l' : List Nd) (u2 : Cu) (H2 : List Nat), left L u2 ≤ f ∧ l'.length + 2 * f ≤ 2 * L.length + 3 ∧ Hid (argLoop s L exp (L.length + 1) [(exp u).1] (exp u).2 = argLoop s L exp f l' u2) ∧ Hid (u2.deep = u.deep) ∧ Hid (Lst (w.heap.size + 1) H w8 H2 (.slice A8 (l.length + 1 + 1) c8) l') ∧ Hid (RdP w8 cb s A c L u2) ∧ Hid (Keep [cb] w w8) ∧ Hid (w8.heap[w.heap.size]? = some (.cells #[.pointer (some ⟨cb, 0, none⟩)] 300 (0, 0))) from
          ⟨g, _, _, H8, hlf, hlm, HQ, HD3, by rw [e8]; exact HL8, HR8, HK8, HX8⟩)
        clear e8 hlm hlf
        go_roundw
        case rel => exact HRel.out
        case measure => exact hmeas
end
end Go.Proofs.YtbfkkepdeepdeaaGreatDoor
end
section
namespace Go.Proofs.YtbfkkepdeepdeaaGreatDoor
open Go.RowKit Go.Proofs.YtbfkkepdeepdeaaGreatDoorW.PrintWords Go.Proofs.YtbfkkepdeepdeaaGreatDoorW.PrintLast Go.Proofs.YtbfkkepdeepdeaaGreatDoorW.PrintMore
set_option linter.unusedVariables false
set_option linter.unusedSimpArgs false
set_option maxRecDepth 100000
theorem beq_lists (p t : ByteArray) : (p.toList == t.toList) = decide (p = t) := by
  by_cases e : p = t
  · subst e; simp
  · rw [decide_eq_false e, beq_eq_false_iff_ne]; exact fun h => e (toList_inj.1 h)
theorem beq_wTrue (t : ByteArray) : (t.toList == [116, 114, 117, 101]) = decide (t = wTrue) := by
  rw [← beq_lists, show wTrue.toList = [116, 114, 117, 101] by kernel_rfl]
theorem beq_wFalse (t : ByteArray) : (t.toList == [102, 97, 108, 115, 101]) = decide (t = wFalse) := by
  rw [← beq_lists, show wFalse.toList = [102, 97, 108, 115, 101] by kernel_rfl]
theorem beq_wThis (t : ByteArray) : (t.toList == [116, 104, 105, 115]) = decide (t = wThis) := by
  rw [← beq_lists, show wThis.toList = [116, 104, 105, 115] by kernel_rfl]
theorem beq_wAnd (t : ByteArray) : (t.toList == [38, 38]) = decide (t = wAnd) := by
  rw [← beq_lists, show wAnd.toList = [38, 38] by kernel_rfl]
theorem beq_wLt (t : ByteArray) : (t.toList == [60]) = decide (t = wLt) := by
  rw [← beq_lists, show wLt.toList = [60] by kernel_rfl]
theorem beq_wPlus (t : ByteArray) : (t.toList == [43]) = decide (t = wPlus) := by
  rw [← beq_lists, show wPlus.toList = [43] by kernel_rfl]
theorem beq_wMinus (t : ByteArray) : (t.toList == [45]) = decide (t = wMinus) := by
  rw [← beq_lists, show wMinus.toList = [45] by kernel_rfl]
theorem beq_wStar (t : ByteArray) : (t.toList == [42]) = decide (t = wStar) := by
  rw [← beq_lists, show wStar.toList = [42] by kernel_rfl]
theorem single_calls (w : World) (k : Int) (t : ByteArray) :
    Calls Tryz.prog 269 #[.int .i64 k, .string t] w fun e w' => e = .returned (.int .i64 (single k t)) ∧ Below w.heap.size w w' := by
  go_enter Tryz.func269, Tryz.ntmps269
  go_wp2_with fail
  all_goals
    go_ret
    refine ⟨?_, Below.refl _ _⟩
    unfold single
    simp_all [beq_wTrue, beq_wFalse, beq_wThis]
theorem res_pair {F : Func} {i j : Nat} {tmps : Array Value} {W : World} (hF : F.results = #[.tmp i, .tmp j]) : (results F tmps).run Tryz.prog W = .ok (.tuple #[tmps.getD i undef, tmps.getD j undef]) W := by
  simp [results, hF, go_sem]
theorem sign_calls (w : World) (lvl : Nat) (hl : lvl ≤ 3) (t : ByteArray) :
    Calls Tryz.prog 222 #[.int .i64 lvl, .string t] w fun e w' => e = .returned (.tuple #[.int .i64 (opKind lvl t), .bool (decide (opKind lvl t ≠ 0))]) ∧ Below w.heap.size w w' := by
  go_enter Tryz.func222, Tryz.ntmps222
  go_wp2_with fail
  all_goals
    refine bodyPost_ret (res_pair Tryz.results222) rfl ⟨?_, Below.refl _ _⟩
    have : lvl = 0 ∨ lvl = 1 ∨ lvl = 2 ∨ lvl = 3 := by omega
    unfold opKind
    rcases this with h | h | h | h <;> subst h <;> simp_all [beq_wAnd, beq_wLt, beq_wPlus, beq_wMinus, beq_wStar]
end Go.Proofs.YtbfkkepdeepdeaaGreatDoor
end
section
namespace Go.Proofs.YtbfkkepdeepdeaaGreatDoor
open Go Go.RowKit Go.Proofs.YtbfkkepdeepdeaaGreatDoorW.PrintWords Go.Proofs.YtbfkkepdeepdeaaGreatDoorW.PrintLast Go.Proofs.YtbfkkepdeepdeaaGreatDoorW.PrintMore
set_option linter.unusedVariables false
set_option linter.unusedSimpArgs false
set_option maxRecDepth 100000
section
variable {w w1 W W' : World} {cb : Nat} {s : ByteArray} {A : Option Addr} {c : Nat} {L : List Tok} {u u' : Cu} {H H' H2 : List Nat} {v v' : Value} {l l' : List Nd}
structure Mid (w1 W : World) (H : List Nat) (cb : Nat) (s : ByteArray) (A : Option Addr) (c : Nat) (L : List Tok) (u : Cu) (H' : List Nat) (v : Value) (l : List Nd) : Prop where
  keep : Keep [cb] w1 W
  rd : RdP W cb s A c L u
  lst : Lst w1.heap.size H W H' v l
  mem : cb ∈ H
  lt : cb < w1.heap.size
theorem Mid.start (R : RdP w1 cb s A c L u) (hc : cb ∈ H) (hH : ∀ k, k ∈ H → k < w1.heap.size) : Mid w1 w1 H cb s A c L u H (.slice none 0 0) [] :=
  ⟨Keep.refl _ _, R, Lst.nil _ hH, hc, R.lt⟩
theorem Mid.call (m : Mid w1 W H cb s A c L u H' v l) (R : RdP W' cb s A c L u') (k : Keep [cb] W W') : Mid w1 W' H cb s A c L u' H' v l :=
  ⟨m.keep.trans k, R, m.lst.keep k m.mem m.lt, m.mem, m.lt⟩
theorem Mid.calm (m : Mid w1 W H cb s A c L u H' v l) (h : Below W.heap.size W W') : Mid w1 W' H cb s A c L u H' v l :=
  m.call (m.rd.below h) (Keep.of_below h)
theorem Mid.grow (m : Mid w1 W H cb s A c L u H' v l) (h : Lst w1.heap.size H W' H2 v' l') (g : W.grownBy W' v.ownBlock) : Mid w1 W' H cb s A c L u H2 v' l' :=
  have hne : ∀ k, k < w1.heap.size → some k ≠ v.ownBlock := fun k hk e => by have := m.lst.base _ e.symm; omega
  ⟨m.keep.lst m.lst g (Nat.le_refl _), m.rd.move (g.block cb m.rd.lt (hne cb m.lt)) (fun k hk => g.block k (by have := m.rd.lt; omega) (hne k (by have := m.lt; omega))), h, m.mem, m.lt⟩
theorem Mid.good (m : Mid w1 W H cb s A c L u H' v l) : Good H' cb W := m.lst.good m.mem
theorem Mid.lit {n : Nd} {A' : Option Addr} {c' : Nat} (m : Mid w1 W H cb s A c L u H' v l) (hl : n.kids.length ≤ c') (hC : kNd.C (hole H W) A' n.kids.length n.kids) :
    Mid w1 (W.alloc (.cells (aNd n A' c') 122)) H cb s A c L u (W.heap.size :: H) (.slice (some ⟨W.heap.size, 0, none⟩) 1 1) [n] :=
  have h1 : Below W.heap.size W (W.alloc (.cells (aNd n A' c') 122)) := (Below.refl _ _).alloc (Nat.le_refl _) _
  ⟨m.keep.trans (Keep.of_below h1), m.rd.below h1, Lst.lit (fun k hk => m.lst.lt k (m.lst.sup k hk)) m.keep.size hl hC, m.mem, m.lt⟩
theorem Mid.box {b : Nat} (m : Mid w1 W H cb s A c L u H' v l) (hb : b ≠ cb) (hk : b < w1.heap.size) : W.heap[b]? = w1.heap[b]? := m.keep.block b hk (by simpa using hb)
section
variable {ops : Array Oper} {o : Oper} {rest : List Oper} {a : Act} {Q : Exit → Act → World → Prop}
theorem Mid.appendOne {n : Nd} {A' : Option Addr} {c' : Nat} (m : Mid w1 W H cb s A c L u H' v l) (hgd : o.guard = none) (sl x : Operand)
    (ho : o.op = .call { callee := .builtin .append, args := #[sl, x], argTypes := #[120, 120] }) (hs : a.eval sl = v) (hx : a.eval x = .slice (some ⟨W.heap.size, 0, none⟩) 1 1) (hl : n.kids.length ≤ c') (hC : kNd.C (hole H' W) A' n.kids.length n.kids) (hlen : l.length + 1 ≤ 1000000)
    (K : ∀ A1 k1 c1 W2 H2, k1 = (l ++ [n]).length → Mid w1 W2 H cb s A c L u H2 (.slice A1 k1 c1) (l ++ [n]) → wpList Tryz.prog ops Q rest (a.put o.dst (.slice A1 k1 c1)) W2) : wpList Tryz.prog ops Q (o :: rest) a (W.alloc (.cells (aNd n A' c') 122)) := by
  refine Lst.appendOne m.lst hgd sl x ho hs hx hl hC m.keep.size hlen ?_
  intro v1 W2 H2 h1 h2 h3
  obtain ⟨A1, c1, rfl, -⟩ := h1.row.slice_
  exact K A1 _ c1 W2 H2 rfl (m.grow h1 h3)
theorem Mid.appendRow {qs : List Nd} {A2 : Option Addr} {k c2 : Nat} (m : Mid w1 W H cb s A c L u H' v l) (hgd : o.guard = none) (sl x : Operand)
    (ho : o.op = .call { callee := .builtin .append, args := #[sl, x], argTypes := #[120, 120] }) (hs : a.eval sl = v) (hx : a.eval x = .slice A2 k c2) (hC : kNd.C (hole H' W) A2 k qs) (hlen : l.length + k ≤ 1000000)
    (K : ∀ A1 k1 c1 W2 H2, k1 = (l ++ qs).length → Mid w1 W2 H cb s A c L u H2 (.slice A1 k1 c1) (l ++ qs) → wpList Tryz.prog ops Q rest (a.put o.dst (.slice A1 k1 c1)) W2) : wpList Tryz.prog ops Q (o :: rest) a W := by
  refine Lst.appendRow m.lst hgd sl x ho hs hx hC m.keep.size hlen ?_
  intro v1 W2 H2 h1 h2 h3
  obtain ⟨A1, c1, rfl, -⟩ := h1.row.slice_
  exact K A1 _ c1 W2 H2 rfl (m.grow h1 h3)
theorem Mid.reads {A1 : Option Addr} {k1 c1 : Nat} (m : Mid w1 W H cb s A c L u H' (.slice A1 k1 c1) l) (hH : ∀ k, k ∈ H → k < w1.heap.size) : k1 = l.length ∧ l.length ≤ c1 ∧ kNd.C (hole H W) A1 l.length l := by
  obtain ⟨A2, c2, e, h1, h2⟩ := m.lst.reads hH
  injection e with e1 e2 e3
  subst e1 e2 e3
  exact ⟨rfl, h1, h2⟩
end
theorem nd_end {F : Func} {i b : Nat} {tmps : Array Value} {r : Nd × Cu} {n : Nd} {A' : Option Addr} {c' : Nat} {a0 a1 a2 a3 a4 : Value} (hF : F.results = #[.cell i 122]) (hi : tmps.getD i undef = .pointer (some ⟨b, 0, none⟩))
    (hX : W.heap[b]? = some (.cells #[a0, a1, a2, a3, a4] 122 (0, 0))) (hl : n.kids.length ≤ c') (hC : kNd.C (hole (b :: H) W) A' n.kids.length n.kids) (hb : w.heap.size ≤ b) (hcb : cb < w.heap.size) (R : RdP W cb s A c L u) (hr : r = (n, u)) (K : Keep [cb] w W) :
    bodyPost Tryz.prog F (NdRes w cb s A c L H r) .ret { tmps := tmps, defers := [] } (((((W.setCell ⟨b, 0, none⟩ (.int .i64 n.kind)).setCell ⟨b, 1, none⟩ (.string n.gap)).setCell ⟨b, 2, none⟩ (.string n.text)).setCell ⟨b, 3, none⟩ (.int .i64 n.pos)).setCell ⟨b, 4, none⟩ (.slice A' n.kids.length c')) := by
  subst hr
  refine bodyPost_ret (resNd (x := n) (A := A') (c := c') (b := b) hF hi (set5 hX _ _ _ _ _)) rfl ⟨⟨A', c', rfl, hl, ?_⟩, R.set5 (by omega) _ _ _ _ _, keep5 K hb _ _ _ _ _⟩
  refine up_C up_kNd (w := hole (b :: H) W) (fun a v h => ?_) hC
  obtain ⟨n1, n2⟩ := hole_cell_iff.1 h
  refine hole_cell_iff.2 ⟨fun e => n1 (List.mem_cons_of_mem _ e), ?_⟩
  have hne : a.block ≠ b := fun e => n1 (by rw [e]; exact List.mem_cons_self)
  exact (World.cell?_of_block (a := a) (by
    rw [Below.heap_setCell _ _ _ _ hne, Below.heap_setCell _ _ _ _ hne, Below.heap_setCell _ _ _ _ hne, Below.heap_setCell _ _ _ _ hne, Below.heap_setCell _ _ _ _ hne])).trans n2
end
end Go.Proofs.YtbfkkepdeepdeaaGreatDoor
end
section
namespace Go.Proofs.YtbfkkepdeepdeaaGreatDoor
open Go Go.RowKit Go.Proofs.YtbfkkepdeepdeaaGreatDoorW.PrintWords Go.Proofs.YtbfkkepdeepdeaaGreatDoorW.PrintLast Go.Proofs.YtbfkkepdeepdeaaGreatDoorW.PrintMore
set_option linter.unusedVariables false
set_option linter.unusedSimpArgs false
set_option maxRecDepth 100000
section
variable {w w1 W W' : World} {cb : Nat} {s : ByteArray} {A : Option Addr} {c : Nat} {L : List Tok} {u u' : Cu} {H H' H2 : List Nat} {v v' : Value} {l l' : List Nd}
theorem within_one (exp : Cu → Nd × Cu) (o e : ByteArray) (u : Cu) : (within s L (oneE exp) o e u).1.length ≤ 3 := by
  unfold within
  split <;> simp [oneE]
set_option maxHeartbeats 1000000 in
theorem fresh_calls {exp : Cu → Nd × Cu} (hE : ∀ W u2 H2, RdP W cb s A c L u2 → u2.deep = u.deep + 1 → Good H2 cb W → Calls Tryz.prog 189 #[rdV cb, .int .i64 0] W (NdRes W cb s A c L H2 (exp u2))) (R : RdP w cb s A c L u) (G : Good H cb w) :
    Calls Tryz.prog 270 #[rdV cb] w (NdRes w cb s A c L H (fresh s L exp u)) := by
  have hcb := R.lt
  obtain ⟨w1, hw1⟩ : ∃ w1, w1 = (w.alloc (.cells #[.pointer (some ⟨cb, 0, none⟩)] 300)).alloc (.cells (aNd zN none 0) 122) := ⟨_, rfl⟩
  have hA1 : Below w.heap.size w w1 := by rw [hw1]; exact ((Below.refl _ _).alloc (Nat.le_refl _) _).alloc (by simp) _
  have hz1 : w1.heap.size = w.heap.size + 2 := by rw [hw1]; simp
  have hx : w1.heap[w.heap.size]? = some (.cells #[.pointer (some ⟨cb, 0, none⟩)] 300 (0, 0)) := by
    rw [hw1]; exact (Below.heap_alloc _ _ _ (by simp)).trans (World.alloc_heap_new w _)
  have hy : w1.heap[w.heap.size + 1]? = some (.cells (aNd zN none 0) 122 (0, 0)) := by
    rw [hw1]; have := World.alloc_heap_new (w.alloc (.cells #[.pointer (some ⟨cb, 0, none⟩)] 300)) (.cells (aNd zN none 0) 122); simpa using this
  have HX := Lib.hid hx
  have HY := Lib.hid hy
  have HA := Lib.hid (Keep.of_below (H := [cb]) hA1)
  have M1 := Lib.hid (Mid.start (H := (w.heap.size + 1) :: H) (R.below hA1) (List.mem_cons_of_mem _ G.cb) (fun k hk => by
    rcases List.mem_cons.1 hk with e | e
    · omega
    · have := G.all k e; omega))
  have HE := Lib.hid hE
  clear R hA1 G hE hx hy
  have x0 := (cell_blk HX.out 0).trans rfl
  go_enter Tryz.func270, Tryz.ntmps270
  go_wp2_with fail
  obtain ⟨r1, hr1⟩ : ∃ r1, r1 = want s L u wNew := ⟨_, rfl⟩
  have HR1 := Lib.hid hr1
  have hd1 : r1.2.deep = u.deep := by rw [hr1]; exact (want_adv u wNew).deep
  have Rz := M1.out.rd
  rw [hw1] at Rz
  refine (Want_calls Rz wNew).mono ?_
  rw [← HR1.out]
  rintro e w2 ⟨rfl, hk2, R2, k2⟩
  rw [← hw1] at k2
  have M2 := Lib.hid ((M1.out.call R2 k2).lit (n := r1.1) (A' := none) (c' := 0) (by rw [hk2]; exact Nat.le_refl _) (leaf_C _ _ hk2))
  have HX2 := Lib.hid ((M2.out.box (b := w.heap.size) (by omega) (by omega)).trans HX.out)
  clear x0 Rz R2 k2 hk2 hr1 hw1
  have x0 := (cell_blk HX2.out 0).trans rfl
  cases hb : isB s L r1.2 0 wInt with
  | true =>
    have HB := Lib.hid hb
    clear hb
    go_wp2_with fail
    refine (Is_calls M2.out.rd 0 (by decide) wInt).mono ?_
    rw [HB.out]
    rintro e w3 ⟨rfl, h3⟩
    have M3 := Lib.hid (M2.out.calm h3)
    have HX3 := Lib.hid ((M3.out.box (b := w.heap.size) (by omega) (by omega)).trans HX.out)
    clear h3 x0
    have x0 := (cell_blk HX3.out 0).trans rfl
    obtain ⟨r2, hr2⟩ : ∃ r2, r2 = want s L r1.2 wInt := ⟨_, rfl⟩
    have HR2 := Lib.hid hr2
    have hd2 : r2.2.deep = u.deep := by rw [hr2, (want_adv r1.2 wInt).deep, hd1]
    go_wp2_with fail
    refine (Want_calls M3.out.rd wInt).mono ?_
    rw [← HR2.out]
    rintro e w4 ⟨rfl, hk4, R4, k4⟩
    have M4 := Lib.hid (M3.out.call R4 k4)
    have HK4 := Lib.hid hk4
    clear R4 k4 hk4 hr2 x0
    go_wp2_with ((with_reducible refine gate_builtin (b := .append) (xs := #[.tmp 11, .tmp 15]) rfl ?_); at_builtin; refine M4.out.appendOne rfl (.tmp 11) (.tmp 15) rfl rfl rfl (by rw [HK4.out]; exact Nat.le_refl _) (leaf_C _ _ HK4.out) (by simp) ?_; intro A5 q5 c5 w5 H5 e5 m5; have E5 := Lib.hid e5; clear e5; have M5 := Lib.hid m5; have HX5 := Lib.hid ((m5.box (b := w.heap.size) (by omega) (by omega)).trans HX.out); have x0 := (cell_blk HX5.out 0).trans rfl; clear m5)
    refine (within_calls (inner := oneE exp) (enters_of Tryz.func267 (by kernel_rfl) rfl) wLB wRB (fun W u3 H3 a b g => one_calls (fun W2 u4 H4 a2 b2 g2 => HE.out W2 u4 H4 a2 (by rw [b2, b, hd2]) g2) a g) (fun _ => by simp [oneE]) M5.out.rd M5.out.good).mono ?_
    obtain ⟨r3, hr3⟩ : ∃ r3, r3 = within s L (oneE exp) wLB wRB r2.2 := ⟨_, rfl⟩
    rw [← hr3]
    have HR3 := Lib.hid hr3
    rintro e w6 ⟨⟨v6, H6, rfl, hL6⟩, R6, k6⟩
    obtain ⟨A6, c6, rfl, hl6, hC6⟩ := hL6.reads M5.out.good.all
    have M6 := Lib.hid (M5.out.call R6 k6)
    have HC6 := Lib.hid hC6
    clear hL6 R6 k6 hr3 x0 hC6
    go_wp2_with ((with_reducible refine gate_builtin (b := .append) (xs := #[.tmp 17, .tmp 21]) rfl ?_); at_builtin; refine M6.out.appendRow rfl (.tmp 17) (.tmp 21) rfl rfl rfl HC6.out (by have := within_one (s := s) (L := L) exp wLB wRB r2.2; rw [← HR3.out] at this; simp; omega) ?_; intro A7 q7 c7 w7 H7 e7 m7; have E7 := Lib.hid e7; have M7 := Lib.hid m7; clear e7 m7)
    obtain ⟨hq, hl7, hC7⟩ := M7.out.reads (fun k hk => M1.out.lst.lt k hk)
    rw [hq]
    refine (Make_calls 30 ((w.heap.size + 1) :: H) (fun k hk => M7.out.lst.lt k (M7.out.lst.sup k hk)) hC7 (by have := within_one (s := s) (L := L) exp wLB wRB r2.2; rw [← HR3.out] at this; simp; omega)).mono ?_
    rintro e w8 ⟨A8, c8, rfl, hl8, hC8, h8⟩
    have M8 := Lib.hid (M7.out.calm h8)
    have hy8 := (M8.out.box (b := w.heap.size + 1) (by omega) (by omega)).trans HY.out
    obtain ⟨⟨b0, b1, b2, b3, b4⟩, f0, f1, f2, f3, f4⟩ := (Box5.mk hy8).all
    have HY8 := Lib.hid hy8
    have HC8 := Lib.hid hC8
    clear hy8 hC8 hC7
    go_wp2_with fail
    exact nd_end Tryz.results270 rfl HY8.out hl8 HC8.out (Nat.le_succ _) hcb M8.out.rd (by unfold fresh; rw [← HR1.out]; simp only []; rw [if_pos HB.out, ← HR2.out, ← HR3.out]; rfl) (HA.out.trans M8.out.keep)
  | false =>
    have HB := Lib.hid (show ¬ isB s L r1.2 0 wInt = true by rw [hb]; simp)
    have HB0 := Lib.hid hb
    clear hb
    go_wp2_with fail
    refine (Is_calls M2.out.rd 0 (by decide) wInt).mono ?_
    rw [HB0.out]
    rintro e w3 ⟨rfl, h3⟩
    have M3 := Lib.hid (M2.out.calm h3)
    have HX3 := Lib.hid ((M3.out.box (b := w.heap.size) (by omega) (by omega)).trans HX.out)
    clear h3 x0
    have x0 := (cell_blk HX3.out 0).trans rfl
    obtain ⟨r2, hr2⟩ : ∃ r2, r2 = anyK s L r1.2 4 := ⟨_, rfl⟩
    have HR2 := Lib.hid hr2
    clear hr2
    go_wp2_with fail
    refine (Any_calls M3.out.rd 4).mono ?_
    rw [← HR2.out]
    rintro e w4 ⟨rfl, hk4, R4, k4⟩
    have M4 := Lib.hid (M3.out.call R4 k4)
    have HK4 := Lib.hid hk4
    clear R4 k4 hk4 x0
    go_wp2_with ((with_reducible refine gate_builtin (b := .append) (xs := #[.tmp 24, .tmp 28]) rfl ?_); at_builtin; refine M4.out.appendOne rfl (.tmp 24) (.tmp 28) rfl rfl rfl (by rw [HK4.out]; exact Nat.le_refl _) (leaf_C _ _ HK4.out) (by simp) ?_; intro A5 q5 c5 w5 H5 e5 m5; have E5 := Lib.hid e5; have M5 := Lib.hid m5; have HX5 := Lib.hid ((m5.box (b := w.heap.size) (by omega) (by omega)).trans HX.out); have x0 := (cell_blk HX5.out 0).trans rfl; clear e5 m5)
    obtain ⟨r3, hr3⟩ : ∃ r3, r3 = want s L r2.2 wLP := ⟨_, rfl⟩
    have HR3 := Lib.hid hr3
    clear hr3
    refine (Want_calls M5.out.rd wLP).mono ?_
    rw [← HR3.out]
    rintro e w6 ⟨rfl, hk6, R6, k6⟩
    have M6 := Lib.hid (M5.out.call R6 k6)
    have HK6 := Lib.hid hk6
    clear R6 k6 hk6 x0
    go_wp2_with ((with_reducible refine gate_builtin (b := .append) (xs := #[.tmp 30, .tmp 34]) rfl ?_); at_builtin; refine M6.out.appendOne rfl (.tmp 30) (.tmp 34) rfl rfl rfl (by rw [HK6.out]; exact Nat.le_refl _) (leaf_C _ _ HK6.out) (by simp) ?_; intro A7 q7 c7 w7 H7 e7 m7; have E7 := Lib.hid e7; have M7 := Lib.hid m7; have HX7 := Lib.hid ((m7.box (b := w.heap.size) (by omega) (by omega)).trans HX.out); have x0 := (cell_blk HX7.out 0).trans rfl; clear e7 m7)
    obtain ⟨r4, hr4⟩ : ∃ r4, r4 = want s L r3.2 wRP := ⟨_, rfl⟩
    have HR4 := Lib.hid hr4
    clear hr4
    refine (Want_calls M7.out.rd wRP).mono ?_
    rw [← HR4.out]
    rintro e w8 ⟨rfl, hk8, R8, k8⟩
    have M8 := Lib.hid (M7.out.call R8 k8)
    have HK8 := Lib.hid hk8
    clear R8 k8 hk8 x0
    go_wp2_with ((with_reducible refine gate_builtin (b := .append) (xs := #[.tmp 36, .tmp 40]) rfl ?_); at_builtin; refine M8.out.appendOne rfl (.tmp 36) (.tmp 40) rfl rfl rfl (by rw [HK8.out]; exact Nat.le_refl _) (leaf_C _ _ HK8.out) (by simp) ?_; intro A9 q9 c9 w9 H9 e9 m9; have E9 := Lib.hid e9; have M9 := Lib.hid m9; have HX9 := Lib.hid ((m9.box (b := w.heap.size) (by omega) (by omega)).trans HX.out); have x0 := (cell_blk HX9.out 0).trans rfl; clear e9 m9)
    obtain ⟨hq, hl9, hC9⟩ := M9.out.reads (fun k hk => M1.out.lst.lt k hk)
    rw [hq]
    refine (Make_calls 31 ((w.heap.size + 1) :: H) (fun k hk => M9.out.lst.lt k (M9.out.lst.sup k hk)) hC9 (by simp)).mono ?_
    rintro e w10 ⟨A10, c10, rfl, hl10, hC10, h10⟩
    have M10 := Lib.hid (M9.out.calm h10)
    have hy10 := (M10.out.box (b := w.heap.size + 1) (by omega) (by omega)).trans HY.out
    obtain ⟨⟨b0, b1, b2, b3, b4⟩, f0, f1, f2, f3, f4⟩ := (Box5.mk hy10).all
    have HY10 := Lib.hid hy10
    have HC10 := Lib.hid hC10
    clear hy10 hC10 hC9
    go_wp2_with fail
    exact nd_end Tryz.results270 rfl HY10.out hl10 HC10.out (Nat.le_succ _) hcb M10.out.rd (by unfold fresh; rw [← HR1.out]; simp only []; rw [if_neg HB.out, ← HR2.out, ← HR3.out, ← HR4.out]) (HA.out.trans M10.out.keep)
end
end Go.Proofs.YtbfkkepdeepdeaaGreatDoor
end
section
namespace Go.Proofs.YtbfkkepdeepdeaaGreatDoor
open Go Go.RowKit Go.Proofs.YtbfkkepdeepdeaaGreatDoorW.PrintWords Go.Proofs.YtbfkkepdeepdeaaGreatDoorW.PrintLast Go.Proofs.YtbfkkepdeepdeaaGreatDoorW.PrintMore
set_option linter.unusedVariables false
set_option linter.unusedSimpArgs false
set_option maxRecDepth 100000
section
variable {w w1 W W' : World} {cb : Nat} {s : ByteArray} {A : Option Addr} {c : Nat} {L : List Tok} {u u' : Cu} {H H' H2 : List Nat} {v v' : Value} {l l' : List Nd}
set_option maxHeartbeats 1000000 in
theorem operand_calls {exp : Cu → Nd × Cu} (hE : ∀ W u2 H2, RdP W cb s A c L u2 → u2.deep = u.deep + 1 → Good H2 cb W → Calls Tryz.prog 189 #[rdV cb, .int .i64 0] W (NdRes W cb s A c L H2 (exp u2))) (R : RdP w cb s A c L u) (G : Good H cb w) :
    Calls Tryz.prog 250 #[rdV cb] w (NdRes w cb s A c L H (operand s L exp u)) := by
  have hcb := R.lt
  obtain ⟨w1, hw1⟩ : ∃ w1, w1 = (w.alloc (.cells #[.pointer (some ⟨cb, 0, none⟩)] 300)).alloc (.cells (aNd zN none 0) 122) := ⟨_, rfl⟩
  have hA1 : Below w.heap.size w w1 := by rw [hw1]; exact ((Below.refl _ _).alloc (Nat.le_refl _) _).alloc (by simp) _
  have hz1 : w1.heap.size = w.heap.size + 2 := by rw [hw1]; simp
  have hx : w1.heap[w.heap.size]? = some (.cells #[.pointer (some ⟨cb, 0, none⟩)] 300 (0, 0)) := by
    rw [hw1]; exact (Below.heap_alloc _ _ _ (by simp)).trans (World.alloc_heap_new w _)
  have hy : w1.heap[w.heap.size + 1]? = some (.cells (aNd zN none 0) 122 (0, 0)) := by
    rw [hw1]; have := World.alloc_heap_new (w.alloc (.cells #[.pointer (some ⟨cb, 0, none⟩)] 300)) (.cells (aNd zN none 0) 122); simpa using this
  have HX := Lib.hid hx
  have HY := Lib.hid hy
  have HA := Lib.hid (Keep.of_below (H := [cb]) hA1)
  have M1 := Lib.hid (Mid.start (H := (w.heap.size + 1) :: H) (R.below hA1) (List.mem_cons_of_mem _ G.cb) (fun k hk => by
    rcases List.mem_cons.1 hk with e | e
    · omega
    · have := G.all k e; omega))
  have HE := Lib.hid hE
  clear R hA1 G hE hx hy
  have x0 := (cell_blk HX.out 0).trans rfl
  go_enter Tryz.func250, Tryz.ntmps250
  go_wp2_with fail
  obtain ⟨p, hp⟩ : ∃ p, p = peek s L u 0 := ⟨_, rfl⟩
  have HP := Lib.hid hp
  have Rz := M1.out.rd
  rw [hw1] at Rz
  refine (Peek_calls Rz 0 (by decide)).mono ?_
  rw [← HP.out]
  rintro e w2 ⟨rfl, h2⟩
  rw [← hw1] at h2
  have M2 := Lib.hid (M1.out.calm h2)
  have HX2 := Lib.hid ((M2.out.box (b := w.heap.size) (by omega) (by omega)).trans HX.out)
  have HY2 := Lib.hid ((M2.out.box (b := w.heap.size + 1) (by omega) (by omega)).trans HY.out)
  clear x0 Rz h2 hw1 hp
  have x0 := (cell_blk HX2.out 0).trans rfl
  go_wp2_with fail
  refine (single_calls _ p.1 p.2).mono ?_
  rintro e w3 ⟨rfl, h3⟩
  have M3 := Lib.hid (M2.out.calm h3)
  have HX3 := Lib.hid ((M3.out.box (b := w.heap.size) (by omega) (by omega)).trans HX.out)
  have HY3 := Lib.hid ((M3.out.box (b := w.heap.size + 1) (by omega) (by omega)).trans HY.out)
  clear x0 h3
  have x0 := (cell_blk HX3.out 0).trans rfl
  cases hs : (single p.1 p.2 == 0) with
  | false =>
    have HS := Lib.hid (show single (peek s L u 0).1 (peek s L u 0).2 ≠ 0 by rw [← HP.out]; simpa using hs)
    have hs2 : (single p.1 p.2 != 0) = true := by simp [bne, hs]
    go_wp2_with fail
    obtain ⟨r1, hr1⟩ : ∃ r1, r1 = anyK s L u p.1 := ⟨_, rfl⟩
    have HR1 := Lib.hid hr1
    refine (Any_calls M3.out.rd p.1).mono ?_
    rw [← HR1.out]
    rintro e w4 ⟨rfl, hk4, R4, k4⟩
    have M4 := Lib.hid ((M3.out.call R4 k4).lit (n := r1.1) (A' := none) (c' := 0) (by rw [hk4]; exact Nat.le_refl _) (leaf_C _ _ hk4))
    clear R4 k4 hk4 hr1 x0 hs hs2
    go_wp2_with fail
    obtain ⟨hq, hl9, hC9⟩ := M4.out.reads (fun k hk => M1.out.lst.lt k hk)
    refine (Make_calls (single p.1 p.2) ((w.heap.size + 1) :: H) (fun k hk => M4.out.lst.lt k (M4.out.lst.sup k hk)) hC9 (by simp)).mono ?_
    rintro e w10 ⟨A10, c10, rfl, hl10, hC10, h10⟩
    have M10 := Lib.hid (M4.out.calm h10)
    clear hq hl9 hC9 h10
    have hy10 := (M10.out.box (b := w.heap.size + 1) (by omega) (by omega)).trans HY.out
    obtain ⟨⟨b0, b1, b2, b3, b4⟩, f0, f1, f2, f3, f4⟩ := (Box5.mk hy10).all
    have HY10 := Lib.hid hy10
    have HC10 := Lib.hid hC10
    clear hy10 hC10
    go_wp2_with fail
    exact nd_end Tryz.results250 rfl HY10.out hl10 HC10.out (Nat.le_succ _) hcb M10.out.rd (by unfold operand; rw [if_pos HS.out, ← HP.out, ← HR1.out]) (HA.out.trans M10.out.keep)
  | true =>
    have HS := Lib.hid (show ¬ single (peek s L u 0).1 (peek s L u 0).2 ≠ 0 by rw [← HP.out]; simpa using hs)
    have hs2 : (single p.1 p.2 != 0) = false := by simp [bne, hs]
    cases hb : isB s L u 0 wNew with
    | true =>
      have HB := Lib.hid hb
      clear hb
      go_wp2_with fail
      refine (Is_calls M3.out.rd 0 (by decide) wNew).mono ?_
      rw [HB.out]
      rintro e w4 ⟨rfl, h4⟩
      have M4 := Lib.hid (M3.out.calm h4)
      have HX4 := Lib.hid ((M4.out.box (b := w.heap.size) (by omega) (by omega)).trans HX.out)
      clear x0 h4 hs hs2
      have x0 := (cell_blk HX4.out 0).trans rfl
      go_wp2_with fail
      refine (fresh_calls HE.out M4.out.rd M4.out.good).mono ?_
      rintro e w10 ⟨⟨A10, c10, rfl, hl10, hC10⟩, R10, k10⟩
      have M10 := Lib.hid (M4.out.call R10 k10)
      clear R10 k10 x0
      have hy10 := (M10.out.box (b := w.heap.size + 1) (by omega) (by omega)).trans HY.out
      obtain ⟨⟨b0, b1, b2, b3, b4⟩, f0, f1, f2, f3, f4⟩ := (Box5.mk hy10).all
      have HY10 := Lib.hid hy10
      have HC10 := Lib.hid hC10
      clear hy10 hC10
      go_wp2_with fail
      exact nd_end Tryz.results250 rfl HY10.out hl10 HC10.out (Nat.le_succ _) hcb M10.out.rd (by unfold operand; rw [if_neg HS.out, if_pos HB.out]) (HA.out.trans M10.out.keep)
    | false =>
      have HB := Lib.hid (show ¬ isB s L u 0 wNew = true by rw [hb]; simp)
      have HB0 := Lib.hid hb
      clear hb
      go_wp2_with fail
      refine (Is_calls M3.out.rd 0 (by decide) wNew).mono ?_
      rw [HB0.out]
      rintro e w4 ⟨rfl, h4⟩
      have M4 := Lib.hid (M3.out.calm h4)
      have HX4 := Lib.hid ((M4.out.box (b := w.heap.size) (by omega) (by omega)).trans HX.out)
      clear x0 h4 hs hs2
      have x0 := (cell_blk HX4.out 0).trans rfl
      cases hb : isB s L u 0 wLP with
      | true =>
        have HBP := Lib.hid hb
        clear hb
        go_wp2_with fail
        refine (Is_calls M4.out.rd 0 (by decide) wLP).mono ?_
        rw [HBP.out]
        rintro e w5 ⟨rfl, h5⟩
        have M5 := Lib.hid (M4.out.calm h5)
        have HX5 := Lib.hid ((M5.out.box (b := w.heap.size) (by omega) (by omega)).trans HX.out)
        clear x0 h5
        have x0 := (cell_blk HX5.out 0).trans rfl
        go_wp2_with fail
        refine (within_calls (inner := oneE exp) (enters_of Tryz.func267 (by kernel_rfl) rfl) wLP wRP (fun W u3 H3 a b g => one_calls (fun W2 u4 H4 a2 b2 g2 => HE.out W2 u4 H4 a2 (by rw [b2, b]) g2) a g) (fun _ => by simp [oneE]) M5.out.rd M5.out.good).mono ?_
        have hwl := within_one (s := s) (L := L) exp wLP wRP u
        obtain ⟨r3, hr3⟩ : ∃ r3, r3 = within s L (oneE exp) wLP wRP u := ⟨_, rfl⟩
        rw [← hr3] at hwl ⊢
        have HR3 := Lib.hid hr3
        rintro e w6 ⟨⟨v6, H6, rfl, hL6⟩, R6, k6⟩
        obtain ⟨A6, c6, rfl, hl6, hC6⟩ := hL6.reads M5.out.good.all
        have M6 := Lib.hid (M5.out.call R6 k6)
        have HC6 := Lib.hid hC6
        clear hL6 R6 k6 hr3 x0 hC6
        go_wp2_with fail
        refine (Make_calls 32 ((w.heap.size + 1) :: H) (fun k hk => M6.out.lst.lt k (M6.out.lst.sup k hk)) HC6.out (by omega)).mono ?_
        rintro e w10 ⟨A10, c10, rfl, hl10, hC10, h10⟩
        have M10 := Lib.hid (M6.out.calm h10)
        clear h10 hwl hl6
        have hy10 := (M10.out.box (b := w.heap.size + 1) (by omega) (by omega)).trans HY.out
        obtain ⟨⟨b0, b1, b2, b3, b4⟩, f0, f1, f2, f3, f4⟩ := (Box5.mk hy10).all
        have HY10 := Lib.hid hy10
        have HC10 := Lib.hid hC10
        clear hy10 hC10
        go_wp2_with fail
        exact nd_end Tryz.results250 rfl HY10.out hl10 HC10.out (Nat.le_succ _) hcb M10.out.rd (by unfold operand; rw [if_neg HS.out, if_neg HB.out, if_pos HBP.out, ← HR3.out]) (HA.out.trans M10.out.keep)
      | false =>
        have HBP := Lib.hid (show ¬ isB s L u 0 wLP = true by rw [hb]; simp)
        have HBP0 := Lib.hid hb
        clear hb
        go_wp2_with fail
        refine (Is_calls M4.out.rd 0 (by decide) wLP).mono ?_
        rw [HBP0.out]
        rintro e w5 ⟨rfl, h5⟩
        have M5 := Lib.hid (M4.out.calm h5)
        have HX5 := Lib.hid ((M5.out.box (b := w.heap.size) (by omega) (by omega)).trans HX.out)
        clear x0 h5
        have x0 := (cell_blk HX5.out 0).trans rfl
        go_wp2_with fail
        refine (Fail_calls M5.out.rd 2 (by decide) (by decide)).mono ?_
        rintro e w10 ⟨rfl, R10, k10⟩
        have M10 := Lib.hid (M5.out.call R10 k10)
        have hl10 : zN.kids.length ≤ 0 := Nat.le_refl 0
        have hC10 : kNd.C (hole ((w.heap.size + 1) :: H) w10) none zN.kids.length zN.kids := leaf_C _ _ rfl
        clear R10 k10 x0
        have hy10 := (M10.out.box (b := w.heap.size + 1) (by omega) (by omega)).trans HY.out
        obtain ⟨⟨b0, b1, b2, b3, b4⟩, f0, f1, f2, f3, f4⟩ := (Box5.mk hy10).all
        have HY10 := Lib.hid hy10
        have HC10 := Lib.hid hC10
        clear hy10 hC10
        go_wp2_with fail
        exact nd_end (n := zN) (A' := none) (c' := 0) (u := failB s L u 2) (b := w.heap.size + 1) (a0 := .int .i64 0) (a1 := .string ⟨#[]⟩) (a2 := .string ⟨#[]⟩) (a3 := .int .i64 0) (a4 := .slice none 0 0) Tryz.results250 rfl HY10.out hl10 HC10.out (Nat.le_succ _) hcb M10.out.rd (by unfold operand; rw [if_neg HS.out, if_neg HB.out, if_neg HBP.out]) (HA.out.trans M10.out.keep)
end
end Go.Proofs.YtbfkkepdeepdeaaGreatDoor
end
section
namespace Go.Proofs.YtbfkkepdeepdeaaGreatDoor
open Go Go.RowKit Go.Proofs.YtbfkkepdeepdeaaGreatDoorW.PrintWords Go.Proofs.YtbfkkepdeepdeaaGreatDoorW.PrintLast Go.Proofs.YtbfkkepdeepdeaaGreatDoorW.PrintMore
set_option linter.unusedVariables false
set_option linter.unusedSimpArgs false
set_option maxRecDepth 100000
section
variable {w w1 W W' : World} {cb : Nat} {s : ByteArray} {A : Option Addr} {c : Nat} {L : List Tok} {u u' : Cu} {H H' H2 : List Nat} {v v' : Value} {l l' : List Nd}
theorem Lst.lit3 {base : Nat} {W : World} {n1 n2 n3 : Nd} {A1 A2 A3 : Option Addr} {c1 c2 c3 : Nat} (hH : ∀ k, k ∈ H → k < W.heap.size) (hb : base ≤ W.heap.size) (hl1 : n1.kids.length ≤ c1) (hC1 : kNd.C (hole H W) A1 n1.kids.length n1.kids) (hl2 : n2.kids.length ≤ c2) (hC2 : kNd.C (hole H W) A2 n2.kids.length n2.kids) (hl3 : n3.kids.length ≤ c3) (hC3 : kNd.C (hole H W) A3 n3.kids.length n3.kids) :
    Lst base H (W.alloc (.cells (aNd n1 A1 c1 ++ aNd n2 A2 c2 ++ aNd n3 A3 c3) 122)) (W.heap.size :: H) (.slice (some ⟨W.heap.size, 0, none⟩) 3 3) [n1, n2, n3] := by
  have hb1 : Below W.heap.size W (W.alloc (.cells (aNd n1 A1 c1 ++ aNd n2 A2 c2 ++ aNd n3 A3 c3) 122)) := (Below.refl _ _).alloc (Nat.le_refl _) _
  have up : ∀ {x : Nd} {cs : List Value}, kNd.K (hole H W) x cs → kNd.K (hole (W.heap.size :: H) (W.alloc (.cells (aNd n1 A1 c1 ++ aNd n2 A2 c2 ++ aNd n3 A3 c3) 122))) x cs := fun h => up_kNd (hole_more (Keep.of_below (H := []) hb1) (H := H) (H' := W.heap.size :: H) (fun k hk => (List.mem_cons.1 hk).elim (fun e => .inr (by omega)) .inl)) h
  have h1 := up (kNd_mk (hole H W) n1 hl1 hC1)
  have h2 := up (kNd_mk (hole H W) n2 hl2 hC2)
  have h3 := up (kNd_mk (hole H W) n3 hl3 hC3)
  refine ⟨fun _ h => List.mem_cons_of_mem _ h, fun k hk => ?_, fun b hb => ?_, ?_⟩
  · simp only [World.size_alloc]
    rcases List.mem_cons.1 hk with h | h
    · omega
    · have := hH k h; omega
  · simp [Value.ownBlock] at hb; rw [← hb]; exact List.mem_cons_self
  · exact OwnRow.lit (e := 122) (size := 5) W base (inner := cNd n1 A1 c1 ++ cNd n2 A2 c2 ++ cNd n3 A3 c3) ((((Reps.none _ 5).snoc h1 rfl).snoc h2 rfl).snoc h3 rfl) hb (by simp)
theorem Mid.lit3 {n1 n2 n3 : Nd} {A1 A2 A3 : Option Addr} {c1 c2 c3 : Nat} (m : Mid w1 W H cb s A c L u H' v l) (hl1 : n1.kids.length ≤ c1) (hC1 : kNd.C (hole H W) A1 n1.kids.length n1.kids) (hl2 : n2.kids.length ≤ c2) (hC2 : kNd.C (hole H W) A2 n2.kids.length n2.kids) (hl3 : n3.kids.length ≤ c3) (hC3 : kNd.C (hole H W) A3 n3.kids.length n3.kids) :
    Mid w1 (W.alloc (.cells (aNd n1 A1 c1 ++ aNd n2 A2 c2 ++ aNd n3 A3 c3) 122)) H cb s A c L u (W.heap.size :: H) (.slice (some ⟨W.heap.size, 0, none⟩) 3 3) [n1, n2, n3] :=
  have h1 : Below W.heap.size W (W.alloc (.cells (aNd n1 A1 c1 ++ aNd n2 A2 c2 ++ aNd n3 A3 c3) 122)) := (Below.refl _ _).alloc (Nat.le_refl _) _
  ⟨m.keep.trans (Keep.of_below h1), m.rd.below h1, Lst.lit3 (fun k hk => m.lst.lt k (m.lst.sup k hk)) m.keep.size hl1 hC1 hl2 hC2 hl3 hC3, m.mem, m.lt⟩
theorem argLoop_len (exp : Cu → Nd × Cu) : ∀ (f : Nat) (l : List Nd) (u : Cu), (argLoop s L exp f l u).1.length ≤ l.length + 2 * f
  | 0, l, u => Nat.le_refl _
  | f + 1, l, u => by
    unfold argLoop
    split
    · refine Nat.le_trans (argLoop_len exp f _ _) ?_
      simp only [List.length_append, List.length_singleton]; omega
    · show l.length ≤ _; omega
theorem args_len (exp : Cu → Nd × Cu) (u : Cu) : (argsE s L exp u).1.length ≤ 2 * L.length + 3 := by
  unfold argsE
  split
  · simp
  · refine Nat.le_trans (argLoop_len exp _ _ _) ?_
    simp only [List.length_singleton]; omega
theorem within_len (inner : Cu → List Nd × Cu) {n : Nat} (h : ∀ u, (inner u).1.length ≤ n) (o e : ByteArray) (u : Cu) : (within s L inner o e u).1.length ≤ n + 2 := by
  unfold within
  split
  · simp
  · rename_i c1 _
    have := h (want s L c1 o).2
    simp only [List.length_append, List.length_cons, List.length_nil]; omega
theorem Mid.lit3X {n1 n2 n3 : Nd} {A1 A2 A3 : Option Addr} {c1 c2 c3 : Nat} {X : Array Value} (m : Mid w1 W H cb s A c L u H' v l) (hl1 : n1.kids.length ≤ c1) (hC1 : kNd.C (hole H W) A1 n1.kids.length n1.kids) (hl2 : n2.kids.length ≤ c2) (hC2 : kNd.C (hole H W) A2 n2.kids.length n2.kids) (hl3 : n3.kids.length ≤ c3) (hC3 : kNd.C (hole H W) A3 n3.kids.length n3.kids) (hX : X = aNd n1 A1 c1 ++ aNd n2 A2 c2 ++ aNd n3 A3 c3) :
    Mid w1 (W.alloc (.cells X 122)) H cb s A c L u (W.heap.size :: H) (.slice (some ⟨W.heap.size, 0, none⟩) 3 3) [n1, n2, n3] := by
  subst hX
  exact m.lit3 hl1 hC1 hl2 hC2 hl3 hC3
theorem make3_calls {n1 n2 n3 : Nd} {A1 A2 A3 : Option Addr} {c1 c2 c3 : Nat} {X : Array Value} (k : Int) (m : Mid w1 W H cb s A c L u H' v l) (hH : ∀ k, k ∈ H → k < w1.heap.size) (hl1 : n1.kids.length ≤ c1) (hC1 : kNd.C (hole H W) A1 n1.kids.length n1.kids) (hl2 : n2.kids.length ≤ c2) (hC2 : kNd.C (hole H W) A2 n2.kids.length n2.kids) (hl3 : n3.kids.length ≤ c3) (hC3 : kNd.C (hole H W) A3 n3.kids.length n3.kids) (hX : X = aNd n1 A1 c1 ++ aNd n2 A2 c2 ++ aNd n3 A3 c3) :
    Calls Tryz.prog 77 #[.int .i64 k, .slice (some ⟨W.heap.size, 0, none⟩) 3 3] (W.alloc (.cells X 122)) fun e w' => ∃ A' c' q, Hid (q = mk k [n1, n2, n3]) ∧ e = .returned (.agg (aNd q A' c')) ∧ q.kids.length ≤ c' ∧ kNd.C (hole H w') A' q.kids.length q.kids ∧ Mid w1 w' H cb s A c L u (W.heap.size :: H) (.slice (some ⟨W.heap.size, 0, none⟩) 3 3) [n1, n2, n3] ∧ Keep [cb] (W.alloc (.cells X 122)) w' := by
  subst hX
  have L5 := m.lit3 hl1 hC1 hl2 hC2 hl3 hC3
  obtain ⟨hq, hl9, hC9⟩ := L5.reads hH
  refine (Make_calls k H (fun k hk => L5.lst.lt k (L5.lst.sup k hk)) hC9 (by simp)).mono ?_
  rintro e w' ⟨A', c', rfl, h1, h2, h3⟩
  exact ⟨A', c', _, Lib.hid rfl, rfl, h1, h2, L5.calm h3, Keep.of_below h3⟩
theorem keep_cell {W W' : World} {a : Addr} {v : Value} (k : Keep [cb] W W') (h : a.block ≠ cb) (hc : W.cell? a = some v) : W'.cell? a = some v :=
  (World.cell?_of_block (a := a) (k.block _ (cell_block hc) (by simpa using h))).trans hc
theorem held11 {W W' : World} {a b d : Nat} {v0 v1 v2 v3 v4 y0 y1 y2 y3 y4 x0 : Value} (k : Keep [cb] W W') (ha : a ≠ cb) (hb : b ≠ cb) (hd : d ≠ cb)
    (h : (W.cell? ⟨a, 0, none⟩ = some v0 ∧ W.cell? ⟨a, 1, none⟩ = some v1 ∧ W.cell? ⟨a, 2, none⟩ = some v2 ∧ W.cell? ⟨a, 3, none⟩ = some v3 ∧ W.cell? ⟨a, 4, none⟩ = some v4) ∧ (W.cell? ⟨b, 0, none⟩ = some y0 ∧ W.cell? ⟨b, 1, none⟩ = some y1 ∧ W.cell? ⟨b, 2, none⟩ = some y2 ∧ W.cell? ⟨b, 3, none⟩ = some y3 ∧ W.cell? ⟨b, 4, none⟩ = some y4) ∧ W.cell? ⟨d, 0, none⟩ = some x0) :
    (W'.cell? ⟨a, 0, none⟩ = some v0 ∧ W'.cell? ⟨a, 1, none⟩ = some v1 ∧ W'.cell? ⟨a, 2, none⟩ = some v2 ∧ W'.cell? ⟨a, 3, none⟩ = some v3 ∧ W'.cell? ⟨a, 4, none⟩ = some v4) ∧ (W'.cell? ⟨b, 0, none⟩ = some y0 ∧ W'.cell? ⟨b, 1, none⟩ = some y1 ∧ W'.cell? ⟨b, 2, none⟩ = some y2 ∧ W'.cell? ⟨b, 3, none⟩ = some y3 ∧ W'.cell? ⟨b, 4, none⟩ = some y4) ∧ W'.cell? ⟨d, 0, none⟩ = some x0 := by
  obtain ⟨⟨h0, h1, h2, h3, h4⟩, ⟨g0, g1, g2, g3, g4⟩, e0⟩ := h
  exact ⟨⟨keep_cell k ha h0, keep_cell k ha h1, keep_cell k ha h2, keep_cell k ha h3, keep_cell k ha h4⟩, ⟨keep_cell k hb g0, keep_cell k hb g1, keep_cell k hb g2, keep_cell k hb g3, keep_cell k hb g4⟩, keep_cell k hd e0⟩
set_option maxHeartbeats 1000000 in
theorem point_calls {exp : Cu → Nd × Cu} {n : Nd} {An : Option Addr} {cn : Nat} (hE : ∀ W u2 H2, RdP W cb s A c L u2 → u2.deep = u.deep + 1 → Good H2 cb W → Calls Tryz.prog 189 #[rdV cb, .int .i64 0] W (NdRes W cb s A c L H2 (exp u2))) (R : RdP w cb s A c L u) (G : Good H cb w) (hA : ∀ u, Adv L u (exp u).2) (hn : n.kids.length ≤ cn) (hN : kNd.C (hole H w) An n.kids.length n.kids) :
    Calls Tryz.prog 268 #[rdV cb, .agg (aNd n An cn)] w (NdRes w cb s A c L H (point s L exp n u)) := by
  have hcb := R.lt
  obtain ⟨w1, hw1⟩ : ∃ w1, w1 = ((w.alloc (.cells #[.pointer (some ⟨cb, 0, none⟩)] 300)).alloc (.cells (aNd n An cn) 122)).alloc (.cells (aNd zN none 0) 122) := ⟨_, rfl⟩
  have hA1 : Below w.heap.size w w1 := by rw [hw1]; exact (((Below.refl _ _).alloc (Nat.le_refl _) _).alloc (by simp) _).alloc (by simp; omega) _
  have hz1 : w1.heap.size = w.heap.size + 3 := by rw [hw1]; simp
  have hx : w1.heap[w.heap.size]? = some (.cells #[.pointer (some ⟨cb, 0, none⟩)] 300 (0, 0)) := by
    rw [hw1]; exact (Below.heap_alloc _ _ _ (by simp; omega)).trans ((Below.heap_alloc _ _ _ (by simp)).trans (World.alloc_heap_new w _))
  have hv : w1.heap[w.heap.size + 1]? = some (.cells (aNd n An cn) 122 (0, 0)) := by
    rw [hw1]; have := World.alloc_heap_new (w.alloc (.cells #[.pointer (some ⟨cb, 0, none⟩)] 300)) (.cells (aNd n An cn) 122); exact (Below.heap_alloc _ _ _ (by simp)).trans (by simpa using this)
  have hy : w1.heap[w.heap.size + 2]? = some (.cells (aNd zN none 0) 122 (0, 0)) := by
    rw [hw1]; have := World.alloc_heap_new ((w.alloc (.cells #[.pointer (some ⟨cb, 0, none⟩)] 300)).alloc (.cells (aNd n An cn) 122)) (.cells (aNd zN none 0) 122); simpa using this
  have HX := Lib.hid hx
  have HV := Lib.hid hv
  have HY := Lib.hid hy
  have HA := Lib.hid (Keep.of_below (H := [cb]) hA1)
  have M1 := Lib.hid (Mid.start (H := (w.heap.size + 2) :: H) (R.below hA1) (List.mem_cons_of_mem _ G.cb) (fun k hk => by
    rcases List.mem_cons.1 hk with e | e
    · omega
    · have := G.all k e; omega))
  have HN1 := Lib.hid (up_C up_kNd (hole_more (H' := (w.heap.size + 2) :: H) (Keep.of_below (H := []) hA1) (fun k hk => (List.mem_cons.1 hk).elim (fun e => .inr (by omega)) .inl)) hN)
  have HE := Lib.hid hE
  clear R hA1 G hE hx hy hv hN
  have x0 := (cell_blk HX.out 0).trans rfl
  go_enter Tryz.func268, Tryz.ntmps268
  go_wp2_with fail
  obtain ⟨r1, hr1⟩ : ∃ r1, r1 = want s L u wDot := ⟨_, rfl⟩
  have HR1 := Lib.hid hr1
  have hd1 : r1.2.deep = u.deep := by rw [hr1]; exact (want_adv u wDot).deep
  have Rz := M1.out.rd
  rw [hw1] at Rz
  refine (Want_calls Rz wDot).mono ?_
  rw [← HR1.out]
  rintro e w2 ⟨rfl, hk2, R2, k2⟩
  rw [← hw1] at k2
  have M2 := Lib.hid (M1.out.call R2 k2)
  have HK2 := Lib.hid hk2
  clear x0 Rz R2 k2 hk2 hr1 hw1
  have M3 := Lib.hid (M2.out.calm (W' := w2.alloc (.cells #[.int .i64 r1.1.kind, .string r1.1.gap, .string r1.1.text, .int .i64 r1.1.pos, .slice none r1.1.kids.length 0] 122)) ((Below.refl _ _).alloc (Nat.le_refl _) _))
  have HX2 := Lib.hid ((M3.out.box (b := w.heap.size) (by omega) (by omega)).trans HX.out)
  have x0 := (cell_blk HX2.out 0).trans rfl
  cases hb : isB s L r1.2 0 wLength with
  | true =>
    have HB := Lib.hid hb
    clear hb
    go_wp2_with fail
    refine (Is_calls M3.out.rd 0 (by decide) wLength).mono ?_
    rw [HB.out]
    rintro e w4 ⟨rfl, h4⟩
    have HZ := Lib.hid ((h4.block w2.heap.size (by simp)).trans (World.alloc_heap_new w2 _))
    have M4 := Lib.hid (M3.out.calm h4)
    have HX4 := Lib.hid ((M4.out.box (b := w.heap.size) (by omega) (by omega)).trans HX.out)
    clear x0 h4
    have x0 := (cell_blk HX4.out 0).trans rfl
    obtain ⟨⟨n0, n1, n2, n3, n4⟩, g0, g1, g2, g3, g4⟩ := (Box5.mk ((M4.out.box (b := w.heap.size + 1) (by omega) (by omega)).trans HV.out)).all
    obtain ⟨⟨z0, z1, z2, z3, z4⟩, y0, y1, y2, y3, y4⟩ := (Box5.mk HZ.out).all
    have hz2 := M2.out.keep.size
    go_upto_region 3 with (fail)
    have S0 := held11 (Keep.drew (H := [cb]) w4) (by omega) (by omega) (by omega) ⟨⟨n0, n1, n2, n3, n4⟩, ⟨z0, z1, z2, z3, z4⟩, x0⟩
    refine wp_region_ord (fun w' => (w'.cell? ⟨w.heap.size + 1, 0, none⟩ = some (.int .i64 n.kind) ∧ w'.cell? ⟨w.heap.size + 1, 1, none⟩ = some (.string n.gap) ∧ w'.cell? ⟨w.heap.size + 1, 2, none⟩ = some (.string n.text) ∧ w'.cell? ⟨w.heap.size + 1, 3, none⟩ = some (.int .i64 n.pos) ∧ w'.cell? ⟨w.heap.size + 1, 4, none⟩ = some (.slice An n.kids.length cn)) ∧ (w'.cell? ⟨w2.heap.size, 0, none⟩ = some (.int .i64 r1.1.kind) ∧ w'.cell? ⟨w2.heap.size, 1, none⟩ = some (.string r1.1.gap) ∧ w'.cell? ⟨w2.heap.size, 2, none⟩ = some (.string r1.1.text) ∧ w'.cell? ⟨w2.heap.size, 3, none⟩ = some (.int .i64 r1.1.pos) ∧ w'.cell? ⟨w2.heap.size, 4, none⟩ = some (.slice none r1.1.kids.length 0)) ∧ w'.cell? ⟨w.heap.size, 0, none⟩ = some (.pointer (some ⟨cb, 0, none⟩))) [(0, false), (1, false), (2, true), (3, false)] [4] [5, 6, 7] (by kernel_rfl) (by kernel_rfl) (fun _ _ _ _ h => h) S0 (fun K hK => ?_)
    simp only [pickHead, List.getElem?_cons_succ, List.getElem?_cons_zero]
    repeat (first
      | (refine ordHead_pure rfl rfl ?_; apply Exists.intro; refine ⟨fun w' => ?_, ?_⟩; (go_simp; with_reducible rfl); apply Exists.intro; refine ⟨?_, ?_⟩; (simp only [Act.put, List.setIfInBounds_toArray, List.set_cons_zero, List.set_cons_succ]; rfl))
      | (refine ordHead_read rfl rfl ?_; apply Exists.intro; refine ⟨?_, ?_⟩; (rintro w' ⟨⟨z0, z1, z2, z3, z4⟩, ⟨z5, z6, z7, z8, z9⟩, z10⟩; go_simp; with_reducible rfl); apply Exists.intro; refine ⟨?_, ?_⟩; (simp only [Act.put, List.setIfInBounds_toArray, List.set_cons_zero, List.set_cons_succ]; rfl)))
    refine ordHead_nil (hK _ ?_)
    simp only [pickOps, ordTail, List.getElem?_cons_succ, List.getElem?_cons_zero]
    go_wp2_with fail
    refine (Want_calls (M4.out.rd.below (below_drew1 _)) wLength).mono ?_
    obtain ⟨r2, hr2⟩ : ∃ r2, r2 = want s L r1.2 wLength := ⟨_, rfl⟩
    rw [← hr2]
    have HR2 := Lib.hid hr2
    clear hr2 z0 z1 z2 z3 z4 n0 n1 n2 n3 n4 x0 g0 g1 g2 g3 g4 y0 y1 y2 y3 y4
    rintro e w5 ⟨rfl, hk5, R5, k5⟩
    have M5 := Lib.hid (M4.out.call R5 ((Keep.drew w4).trans k5))
    have HC5 := Lib.hid (up_C up_kNd (M5.out.keep.sub (H2 := (w.heap.size + 2) :: H) (fun k hk => by rw [List.mem_singleton.1 hk]; exact M5.out.mem)) HN1.out)
    have HK5 := Lib.hid hk5
    have S5 := held11 k5 (by omega) (by omega) (by omega) S0
    clear R5 hk5 S0
    go_wp2_with fail
    refine (make3_calls 23 M5.out (fun k hk => M1.out.lst.lt k hk) hn HC5.out (by rw [HK2.out]; exact Nat.le_refl _) (leaf_C _ _ HK2.out) (n2 := r1.1) (A2 := none) (c2 := 0) (n3 := r2.1) (A3 := none) (c3 := 0) (by rw [HK5.out]; exact Nat.le_refl _) (leaf_C _ _ HK5.out) (by simp [aNd])).mono ?_
    rintro e w8 ⟨A8, c8, q8, hq8, rfl, hl8, hC8, M8, k8⟩
    have M8 := Lib.hid M8
    have hy8 := (M8.out.box (b := w.heap.size + 2) (by omega) (by omega)).trans HY.out
    obtain ⟨⟨b0, b1, b2, b3, b4⟩, f0, f1, f2, f3, f4⟩ := (Box5.mk hy8).all
    have HY8 := Lib.hid hy8
    have HC8 := Lib.hid hC8
    clear hy8 hC8 k8 k5 S5
    go_wp2_with fail
    exact nd_end Tryz.results268 rfl HY8.out hl8 HC8.out (by omega) hcb M8.out.rd (by unfold point; rw [← HR1.out]; simp only []; rw [if_pos HB.out, ← HR2.out, hq8.out]) (HA.out.trans M8.out.keep)
  | false =>
    have HB := Lib.hid (show ¬ isB s L r1.2 0 wLength = true by rw [hb]; simp)
    have HB0 := Lib.hid hb
    clear hb
    go_wp2_with fail
    refine (Is_calls M3.out.rd 0 (by decide) wLength).mono ?_
    rw [HB0.out]
    rintro e w4 ⟨rfl, h4⟩
    have HZ := Lib.hid ((h4.block w2.heap.size (by simp)).trans (World.alloc_heap_new w2 _))
    have M4 := Lib.hid (M3.out.calm h4)
    have HX4 := Lib.hid ((M4.out.box (b := w.heap.size) (by omega) (by omega)).trans HX.out)
    clear x0 h4
    have x0 := (cell_blk HX4.out 0).trans rfl
    obtain ⟨⟨n0, n1, n2, n3, n4⟩, g0, g1, g2, g3, g4⟩ := (Box5.mk ((M4.out.box (b := w.heap.size + 1) (by omega) (by omega)).trans HV.out)).all
    obtain ⟨⟨z0, z1, z2, z3, z4⟩, y0, y1, y2, y3, y4⟩ := (Box5.mk HZ.out).all
    have hz2 := M2.out.keep.size
    go_upto_region 4 with (fail)
    have S0 := held11 (Keep.drew (H := [cb]) w4) (by omega) (by omega) (by omega) ⟨⟨n0, n1, n2, n3, n4⟩, ⟨z0, z1, z2, z3, z4⟩, x0⟩
    refine wp_region_ord (fun w' => (w'.cell? ⟨w.heap.size + 1, 0, none⟩ = some (.int .i64 n.kind) ∧ w'.cell? ⟨w.heap.size + 1, 1, none⟩ = some (.string n.gap) ∧ w'.cell? ⟨w.heap.size + 1, 2, none⟩ = some (.string n.text) ∧ w'.cell? ⟨w.heap.size + 1, 3, none⟩ = some (.int .i64 n.pos) ∧ w'.cell? ⟨w.heap.size + 1, 4, none⟩ = some (.slice An n.kids.length cn)) ∧ (w'.cell? ⟨w2.heap.size, 0, none⟩ = some (.int .i64 r1.1.kind) ∧ w'.cell? ⟨w2.heap.size, 1, none⟩ = some (.string r1.1.gap) ∧ w'.cell? ⟨w2.heap.size, 2, none⟩ = some (.string r1.1.text) ∧ w'.cell? ⟨w2.heap.size, 3, none⟩ = some (.int .i64 r1.1.pos) ∧ w'.cell? ⟨w2.heap.size, 4, none⟩ = some (.slice none r1.1.kids.length 0)) ∧ w'.cell? ⟨w.heap.size, 0, none⟩ = some (.pointer (some ⟨cb, 0, none⟩))) [(0, false), (1, false), (2, true), (3, false)] [4] [5, 6] (by kernel_rfl) (by kernel_rfl) (fun _ _ _ _ h => h) S0 (fun K hK => ?_)
    simp only [pickHead, List.getElem?_cons_succ, List.getElem?_cons_zero]
    repeat (first
      | (refine ordHead_pure rfl rfl ?_; apply Exists.intro; refine ⟨fun w' => ?_, ?_⟩; (go_simp; with_reducible rfl); apply Exists.intro; refine ⟨?_, ?_⟩; (simp only [Act.put, List.setIfInBounds_toArray, List.set_cons_zero, List.set_cons_succ]; rfl))
      | (refine ordHead_read rfl rfl ?_; apply Exists.intro; refine ⟨?_, ?_⟩; (rintro w' ⟨⟨z0, z1, z2, z3, z4⟩, ⟨z5, z6, z7, z8, z9⟩, z10⟩; go_simp; with_reducible rfl); apply Exists.intro; refine ⟨?_, ?_⟩; (simp only [Act.put, List.setIfInBounds_toArray, List.set_cons_zero, List.set_cons_succ]; rfl)))
    refine ordHead_nil (hK _ ?_)
    simp only [pickOps, ordTail, List.getElem?_cons_succ, List.getElem?_cons_zero]
    go_wp2_with fail
    refine (Any_calls (M4.out.rd.below (below_drew1 _)) 4).mono ?_
    obtain ⟨r2, hr2⟩ : ∃ r2, r2 = anyK s L r1.2 4 := ⟨_, rfl⟩
    rw [← hr2]
    have HR2 := Lib.hid hr2
    have hd2 : r2.2.deep = u.deep := by rw [hr2, (any_adv r1.2 4).deep, hd1]
    clear hr2 z0 z1 z2 z3 z4 n0 n1 n2 n3 n4 x0 g0 g1 g2 g3 g4 y0 y1 y2 y3 y4
    rintro e w5 ⟨rfl, hk5, R5, k5⟩
    have M5 := Lib.hid (M4.out.call R5 ((Keep.drew w4).trans k5))
    have HC5 := Lib.hid (up_C up_kNd (M5.out.keep.sub (H2 := (w.heap.size + 2) :: H) (fun k hk => by rw [List.mem_singleton.1 hk]; exact M5.out.mem)) HN1.out)
    have HK5 := Lib.hid hk5
    have S5 := held11 k5 (by omega) (by omega) (by omega) S0
    have M6 := Lib.hid (M5.out.lit3X (X := #[.int .i64 n.kind, .string n.gap, .string n.text, .int .i64 n.pos, .slice An n.kids.length cn, .int .i64 r1.1.kind, .string r1.1.gap, .string r1.1.text, .int .i64 r1.1.pos, .slice none r1.1.kids.length 0, .int .i64 r2.1.kind, .string r2.1.gap, .string r2.1.text, .int .i64 r2.1.pos, .slice none r2.1.kids.length 0]) hn HC5.out (by rw [HK2.out]; exact Nat.le_refl _) (leaf_C _ _ HK2.out) (n2 := r1.1) (A2 := none) (c2 := 0) (n3 := r2.1) (A3 := none) (c3 := 0) (by rw [HK5.out]; exact Nat.le_refl _) (leaf_C _ _ HK5.out) (by simp [aNd]))
    have HX6 := Lib.hid ((M6.out.box (b := w.heap.size) (by omega) (by omega)).trans HX.out)
    clear R5 hk5 S0
    have x0 := (cell_blk HX6.out 0).trans rfl
    go_wp2_with fail
    refine (within_calls (inner := argsE s L exp) (enters_of Tryz.func282 (by kernel_rfl) rfl) wLP wRP (fun W u3 H3 a b g => args_calls (fun W2 u4 H4 a2 b2 g2 => HE.out W2 u4 H4 a2 (by rw [b2, b, hd2]) g2) hA a g) (fun u => by have := args_len (s := s) (L := L) exp u; have := M6.out.rd.fit.len; omega) M6.out.rd M6.out.good).mono ?_
    have hwl : (within s L (argsE s L exp) wLP wRP r2.2).1.length ≤ 900000 := by have := within_len (s := s) (L := L) _ (args_len (s := s) (L := L) exp) wLP wRP r2.2; have := M6.out.rd.fit.len; omega
    obtain ⟨r3, hr3⟩ : ∃ r3, r3 = within s L (argsE s L exp) wLP wRP r2.2 := ⟨_, rfl⟩
    rw [← hr3] at hwl ⊢
    have HR3 := Lib.hid hr3
    rintro e w6 ⟨⟨v6, H6, rfl, hL6⟩, R6, k6⟩
    obtain ⟨A6, c6, rfl, hl6, hC6⟩ := hL6.reads M6.out.good.all
    have M7 := Lib.hid (M6.out.call R6 k6)
    have HC6 := Lib.hid hC6
    have HW := Lib.hid hwl
    clear hL6 R6 k6 hr3 x0 hC6 S5 k5 hwl
    go_wp2_with ((with_reducible refine gate_builtin (b := .append) (xs := #[.tmp 26, .tmp 30]) rfl ?_); at_builtin; refine M7.out.appendRow rfl (.tmp 26) (.tmp 30) rfl rfl rfl HC6.out (by have := HW.out; simp; omega) ?_; intro A7 q7 c7 w7 H7 e7 m7; have E7 := Lib.hid e7; have M8 := Lib.hid m7; clear e7 m7)
    obtain ⟨hq, hl8, hC8⟩ := M8.out.reads (fun k hk => M1.out.lst.lt k hk)
    rw [hq]
    refine (Make_calls 24 ((w.heap.size + 2) :: H) (fun k hk => M8.out.lst.lt k (M8.out.lst.sup k hk)) hC8 (by have := HW.out; simp; omega)).mono ?_
    rintro e w9 ⟨A9, c9, rfl, hl9, hC9, h9⟩
    have M9 := Lib.hid (M8.out.calm h9)
    have hy9 := (M9.out.box (b := w.heap.size + 2) (by omega) (by omega)).trans HY.out
    obtain ⟨⟨b0, b1, b2, b3, b4⟩, f0, f1, f2, f3, f4⟩ := (Box5.mk hy9).all
    have HY9 := Lib.hid hy9
    have HC9 := Lib.hid hC9
    clear hy9 hC9 hC8 h9
    go_wp2_with fail
    exact nd_end Tryz.results268 rfl HY9.out hl9 HC9.out (by omega) hcb M9.out.rd (by unfold point; rw [← HR1.out]; simp only []; rw [if_neg HB.out, ← HR2.out, ← HR3.out]; rfl) (HA.out.trans M9.out.keep)
end
end Go.Proofs.YtbfkkepdeepdeaaGreatDoor
end
section
namespace Go.Proofs.YtbfkkepdeepdeaaGreatDoor
open Go Go.RowKit Go.Proofs.YtbfkkepdeepdeaaGreatDoorW.PrintWords Go.Proofs.YtbfkkepdeepdeaaGreatDoorW.PrintLast Go.Proofs.YtbfkkepdeepdeaaGreatDoorW.PrintMore
set_option linter.unusedVariables false
set_option linter.unusedSimpArgs false
set_option maxRecDepth 100000
section
variable {w w1 W W' : World} {cb : Nat} {s : ByteArray} {A : Option Addr} {c : Nat} {L : List Tok} {u u' : Cu} {H H' H2 : List Nat} {v v' : Value} {l l' : List Nd}
theorem within_left {inner : Cu → List Nd × Cu} (hi : ∀ c, Adv L c (inner c).2) {o e : ByteArray} {c : Cu} (h : isB s L c 0 o = true) : left L (within s L inner o e c).2 < left L c := by
  unfold within
  split
  · rename_i c1 hd
    obtain ⟨t, ht, -⟩ := isB_tok h
    obtain ⟨e0, hn⟩ := tokAt_zero ht
    have hp := left_pos ht
    unfold down at hd
    rw [if_pos e0] at hd
    split at hd
    · cases hd
    · injection hd with _ hd
      subst hd
      show left L (failB s L c 3) < _
      have : left L (failB s L c 3) = 0 := by unfold failB left; rw [if_pos e0]; rfl
      omega
  · rename_i c1 hd
    obtain ⟨e0, hdp, rfl⟩ := down_true hd
    have h1 := want_left (s := s) (L := L) (c := { c with deep := c.deep + 1 }) (t := o) h
    have h2 := (hi (want s L { c with deep := c.deep + 1 } o).2).leftLe
    have h3 := (want_adv (s := s) (L := L) (inner (want s L { c with deep := c.deep + 1 } o).2).2 e).leftLe
    exact Nat.lt_of_le_of_lt (Nat.le_trans h3 h2) h1
theorem point_left {exp : Cu → Nd × Cu} (he : ∀ c, Adv L c (exp c).2) (n : Nd) {c : Cu} (h : isB s L c 0 wDot = true) : left L (point s L exp n c).2 < left L c := by
  refine Nat.lt_of_le_of_lt ?_ (want_left h)
  unfold point
  simp only []
  split
  · exact (want_adv _ _).leftLe
  · exact ((any_adv _ _).trans (within_adv (args_adv he) _ _ _)).leftLe
theorem held6 {W W' : World} {a d : Nat} {v0 v1 v2 v3 v4 x0 : Value} (k : Keep [cb] W W') (ha : a ≠ cb) (hd : d ≠ cb)
    (h : (W.cell? ⟨a, 0, none⟩ = some v0 ∧ W.cell? ⟨a, 1, none⟩ = some v1 ∧ W.cell? ⟨a, 2, none⟩ = some v2 ∧ W.cell? ⟨a, 3, none⟩ = some v3 ∧ W.cell? ⟨a, 4, none⟩ = some v4) ∧ W.cell? ⟨d, 0, none⟩ = some x0) :
    (W'.cell? ⟨a, 0, none⟩ = some v0 ∧ W'.cell? ⟨a, 1, none⟩ = some v1 ∧ W'.cell? ⟨a, 2, none⟩ = some v2 ∧ W'.cell? ⟨a, 3, none⟩ = some v3 ∧ W'.cell? ⟨a, 4, none⟩ = some v4) ∧ W'.cell? ⟨d, 0, none⟩ = some x0 :=
  ⟨⟨keep_cell k ha h.1.1, keep_cell k ha h.1.2.1, keep_cell k ha h.1.2.2.1, keep_cell k ha h.1.2.2.2.1, keep_cell k ha h.1.2.2.2.2⟩, keep_cell k hd h.2⟩
structure Beh (w : World) (cb : Nat) (s : ByteArray) (A : Option Addr) (c : Nat) (L : List Tok) (H : List Nat) (d : Nat) (n : Nd) (u2 : Cu) (An : Option Addr) (cn : Nat) (nb rb : Nat) (W : World) : Prop where
  deep : u2.deep = d
  rd : RdP W cb s A c L u2
  keep : Keep [cb] w W
  xb : W.heap[w.heap.size]? = some (.cells #[.pointer (some ⟨cb, 0, none⟩)] 300 (0, 0))
  nbx : W.heap[nb]? = some (.cells (aNd n An cn) 122 (0, 0))
  rbx : W.heap[rb]? = some (.cells (aNd zN none 0) 122 (0, 0))
  len : n.kids.length ≤ cn
  kids : kNd.C (hole (nb :: rb :: H) W) An n.kids.length n.kids
theorem hole_set5 {W : World} {b : Nat} {v0 v1 v2 v3 v4 : Value} (hb : b ∈ H) : Sub (hole H W) (hole H (((((W.setCell ⟨b, 0, none⟩ v0).setCell ⟨b, 1, none⟩ v1).setCell ⟨b, 2, none⟩ v2).setCell ⟨b, 3, none⟩ v3).setCell ⟨b, 4, none⟩ v4)) := fun a v h => by
  obtain ⟨n1, n2⟩ := hole_cell_iff.1 h
  refine hole_cell_iff.2 ⟨n1, ?_⟩
  have hne : a.block ≠ b := fun e => n1 (by rw [e]; exact hb)
  exact (World.cell?_of_block (a := a) (by
    rw [Below.heap_setCell _ _ _ _ hne, Below.heap_setCell _ _ _ _ hne, Below.heap_setCell _ _ _ _ hne, Below.heap_setCell _ _ _ _ hne, Below.heap_setCell _ _ _ _ hne])).trans n2
theorem heap_set5 {W : World} {b k : Nat} {v0 v1 v2 v3 v4 : Value} (h : k ≠ b) : (((((W.setCell ⟨b, 0, none⟩ v0).setCell ⟨b, 1, none⟩ v1).setCell ⟨b, 2, none⟩ v2).setCell ⟨b, 3, none⟩ v3).setCell ⟨b, 4, none⟩ v4).heap[k]? = W.heap[k]? := by
  rw [Below.heap_setCell _ _ _ _ h, Below.heap_setCell _ _ _ _ h, Below.heap_setCell _ _ _ _ h, Below.heap_setCell _ _ _ _ h, Below.heap_setCell _ _ _ _ h]
theorem Beh.store {d : Nat} {n n' : Nd} {u2 u3 : Cu} {An A' : Option Addr} {cn c' nb rb : Nat} (B : Beh w cb s A c L H d n u2 An cn nb rb W) (hcb : cb < w.heap.size) (h1 : w.heap.size < nb) (h2 : w.heap.size < rb) (h3 : rb ≠ nb) (hd : u3.deep = d) (R : RdP W' cb s A c L u3) (K : Keep [cb] W W') (hl : n'.kids.length ≤ c') (hC : kNd.C (hole (nb :: rb :: H) W') A' n'.kids.length n'.kids) :
    Beh w cb s A c L H d n' u3 A' c' nb rb (((((W'.setCell ⟨nb, 0, none⟩ (.int .i64 n'.kind)).setCell ⟨nb, 1, none⟩ (.string n'.gap)).setCell ⟨nb, 2, none⟩ (.string n'.text)).setCell ⟨nb, 3, none⟩ (.int .i64 n'.pos)).setCell ⟨nb, 4, none⟩ (.slice A' n'.kids.length c')) := by
  have hx := (Array.getElem?_eq_some_iff.1 B.xb).1
  have hn := (Array.getElem?_eq_some_iff.1 B.nbx).1
  have hr := (Array.getElem?_eq_some_iff.1 B.rbx).1
  have x1 := (K.block _ hx (by simp; omega)).trans B.xb
  have n1 := (K.block _ hn (by simp; omega)).trans B.nbx
  have r1 := (K.block _ hr (by simp; omega)).trans B.rbx
  exact ⟨hd, R.set5 (by omega) _ _ _ _ _, keep5 (B.keep.trans K) (by omega) _ _ _ _ _, (heap_set5 (by omega)).trans x1, set5 n1 _ _ _ _ _, (heap_set5 h3).trans r1, hl, up_C up_kNd (hole_set5 List.mem_cons_self) hC⟩
theorem Beh.mid {d : Nat} {n : Nd} {u2 : Cu} {An : Option Addr} {cn nb rb : Nat} (B : Beh w cb s A c L H d n u2 An cn nb rb W) (G : Good H cb w) : Mid W W (nb :: rb :: H) cb s A c L u2 (nb :: rb :: H) (.slice none 0 0) [] := by
  have hn := (Array.getElem?_eq_some_iff.1 B.nbx).1
  have hr := (Array.getElem?_eq_some_iff.1 B.rbx).1
  have hs := B.keep.size
  refine Mid.start B.rd (List.mem_cons_of_mem _ (List.mem_cons_of_mem _ G.cb)) (fun k hk => ?_)
  rcases List.mem_cons.1 hk with e | e
  · omega
  · rcases List.mem_cons.1 e with e | e
    · omega
    · have := G.all k e; omega
theorem behind_end {exp : Cu → Nd × Cu} {f : Nat} {n : Nd} {c : Cu} (h : isB s L c 0 wLB = false) (h2 : isB s L c 0 wDot = false) : behind s L exp f n c = (n, c) := by
  cases f with
  | zero => rfl
  | succ f => unfold behind; rw [if_neg (by rw [h]; simp), if_neg (by rw [h2]; simp)]
set_option maxHeartbeats 1000000 in
theorem behind_calls {exp : Cu → Nd × Cu} {n0 : Nd} {An0 : Option Addr} {cn0 : Nat} (hE : ∀ W u2 H2, RdP W cb s A c L u2 → u2.deep = u.deep + 1 → Good H2 cb W → Calls Tryz.prog 189 #[rdV cb, .int .i64 0] W (NdRes W cb s A c L H2 (exp u2))) (R : RdP w cb s A c L u) (G : Good H cb w) (hA : ∀ u, Adv L u (exp u).2) (hn : n0.kids.length ≤ cn0) (hN : kNd.C (hole H w) An0 n0.kids.length n0.kids) :
    Calls Tryz.prog 249 #[rdV cb, .agg (aNd n0 An0 cn0)] w (NdRes w cb s A c L H (behind s L exp (L.length + 1) n0 u)) := by
  have hcb := R.lt
  obtain ⟨w1, hw1⟩ : ∃ w1, w1 = ((w.alloc (.cells #[.pointer (some ⟨cb, 0, none⟩)] 300)).alloc (.cells (aNd n0 An0 cn0) 122)).alloc (.cells (aNd zN none 0) 122) := ⟨_, rfl⟩
  have hA1 : Below w.heap.size w w1 := by rw [hw1]; exact (((Below.refl _ _).alloc (Nat.le_refl _) _).alloc (by simp) _).alloc (by simp; omega) _
  have hx : w1.heap[w.heap.size]? = some (.cells #[.pointer (some ⟨cb, 0, none⟩)] 300 (0, 0)) := by
    rw [hw1]; exact (Below.heap_alloc _ _ _ (by simp; omega)).trans ((Below.heap_alloc _ _ _ (by simp)).trans (World.alloc_heap_new w _))
  have hv : w1.heap[w.heap.size + 1]? = some (.cells (aNd n0 An0 cn0) 122 (0, 0)) := by
    rw [hw1]; have := World.alloc_heap_new (w.alloc (.cells #[.pointer (some ⟨cb, 0, none⟩)] 300)) (.cells (aNd n0 An0 cn0) 122); exact (Below.heap_alloc _ _ _ (by simp)).trans (by simpa using this)
  have hy : w1.heap[w.heap.size + 2]? = some (.cells (aNd zN none 0) 122 (0, 0)) := by
    rw [hw1]; have := World.alloc_heap_new ((w.alloc (.cells #[.pointer (some ⟨cb, 0, none⟩)] 300)).alloc (.cells (aNd n0 An0 cn0) 122)) (.cells (aNd zN none 0) 122); simpa using this
  have B1 : Beh w cb s A c L H u.deep n0 u An0 cn0 (w.heap.size + 1) (w.heap.size + 2) w1 := ⟨rfl, R.below hA1, Keep.of_below hA1, hx, hv, hy, hn, up_C up_kNd (hole_more (Keep.of_below (H := []) hA1) (fun k hk => by
    rcases List.mem_cons.1 hk with e | e
    · exact .inr (by omega)
    · rcases List.mem_cons.1 e with e | e
      · exact .inr (by omega)
      · exact .inl e)) hN⟩
  have h0 : left L u ≤ L.length + 1 := by unfold left; split <;> omega
  have HG := Lib.hid G
  have HE := Lib.hid hE
  have HAD := Lib.hid hA
  clear R hA1 G hE hx hy hv hN hA hn
  go_enter Tryz.func249, Tryz.ntmps249
  go_wp2_with fail
  rw [show ((w.alloc (.cells #[.pointer (some ⟨cb, 0, none⟩)] 300)).alloc (.cells (aNd n0 An0 cn0) 122)).alloc (.cells #[.int .i64 0, .string ⟨#[]⟩, .string ⟨#[]⟩, .int .i64 0, .slice none 0 0] 122) = w1 from hw1.symm]
  clear hw1
  have HCB := Lib.hid hcb
  go_loopw [] (fun wr => ∃ (f : Nat) (n : Nd) (u2 : Cu) (An : Option Addr) (cn : Nat), left L u2 ≤ f ∧ Hid (behind s L exp (L.length + 1) n0 u = behind s L exp f n u2) ∧ Beh w cb s A c L H u.deep n u2 An cn (w.heap.size + 1) (w.heap.size + 2) wr) (fun wr => leftW cb L.length wr)
  case atStart => exact ⟨L.length + 1, n0, u, An0, cn0, h0, Lib.hid rfl, B1⟩
  case round =>
    clear B1 h0
    obtain ⟨f, n, u2, An, cn, hf, hq, B⟩ := hrel
    have HM := Lib.hid (B.mid HG.out)
    have x0 := (cell_blk B.xb 0).trans rfl
    have hwz : w.heap.size + 2 < wr.heap.size := (Array.getElem?_eq_some_iff.1 B.rbx).1
    cases hb : isB s L u2 0 wLB with
    | true =>
      have hwl := within_left (s := s) (L := L) (inner := oneE exp) (fun c => HAD.out c) (e := wRB) hb
      have hpos : 0 < f := by omega
      obtain ⟨g, rfl⟩ : ∃ g, f = g + 1 := ⟨f - 1, by omega⟩
      have HQ := Lib.hid (show behind s L exp (L.length + 1) n0 u = behind s L exp g (mk 22 ([n] ++ (within s L (oneE exp) wLB wRB u2).1)) (within s L (oneE exp) wLB wRB u2).2 by rw [hq.out]; conv => lhs; unfold behind; rw [if_pos hb])
      have HB := Lib.hid hb
      clear hb hq
      go_wp2_with fail
      refine (Is_calls B.rd 0 (by decide) wLB).mono ?_
      rw [HB.out]
      rintro e w3 ⟨rfl, h3⟩
      have M3 := Lib.hid (HM.out.calm h3)
      clear x0 h3
      have HX3 := Lib.hid ((M3.out.box (b := w.heap.size) (by omega) (by omega)).trans B.xb)
      have x0 := (cell_blk HX3.out 0).trans rfl
      obtain ⟨⟨n0, n1, n2, n3, n4⟩, g0, g1, g2, g3, g4⟩ := (Box5.mk ((M3.out.box (b := w.heap.size + 1) (by omega) (by omega)).trans B.nbx)).all
      clear g0 g1 g2 g3 g4
      go_upto_region 3 with (fail)
      have S0 := held6 (Keep.drew (H := [cb]) w3) (by omega) (by omega) ⟨⟨n0, n1, n2, n3, n4⟩, x0⟩
      have M4 := Lib.hid (M3.out.calm (below_drew1 w3))
      have HC4 := Lib.hid (up_C up_kNd (M4.out.keep.sub (H2 := (w.heap.size + 1) :: (w.heap.size + 2) :: H) (fun k hk => by rw [List.mem_singleton.1 hk]; exact M4.out.mem)) B.kids)
      have hd3 := (within_adv (s := s) (L := L) (inner := oneE exp) (fun c => HAD.out c) wLB wRB u2).deep.trans B.deep
      have hwl1 := within_one (s := s) (L := L) exp wLB wRB u2
      obtain ⟨r3, hr3⟩ : ∃ r3, r3 = within s L (oneE exp) wLB wRB u2 := ⟨_, rfl⟩
      rw [← hr3] at hwl1 hwl HQ hd3
      have HR3 := Lib.hid hr3
      have HW1 := Lib.hid hwl1
      clear hr3 hwl1
      obtain ⟨w4, hw4⟩ : ∃ w4, w4 = w3.drew := ⟨_, rfl⟩
      clear n0 n1 n2 n3 n4 x0
      refine wp_region_ordT (fun w' => (w'.cell? ⟨w.heap.size + 1, 0, none⟩ = some (.int .i64 n.kind) ∧ w'.cell? ⟨w.heap.size + 1, 1, none⟩ = some (.string n.gap) ∧ w'.cell? ⟨w.heap.size + 1, 2, none⟩ = some (.string n.text) ∧ w'.cell? ⟨w.heap.size + 1, 3, none⟩ = some (.int .i64 n.pos) ∧ w'.cell? ⟨w.heap.size + 1, 4, none⟩ = some (.slice An n.kids.length cn)) ∧ w'.cell? ⟨w.heap.size, 0, none⟩ = some (.pointer (some ⟨cb, 0, none⟩))) [(0, false), (2, false), (3, false), (4, true)] 2 [6, 7, 8] #[true, false, true, true, true, false, false, false, false] (by kernel_rfl) (by kernel_rfl) (by kernel_rfl) (by kernel_rfl) (fun _ _ _ _ h => h) S0 (fun K hK => ?_)
      rw [← hw4] at hK S0 M4 HC4
      clear hw4
      simp only [pickHead, List.getElem?_cons_succ, List.getElem?_cons_zero]
      repeat (first
        | (refine ordHead_pure rfl rfl ?_; apply Exists.intro; refine ⟨fun w' => ?_, ?_⟩; (go_simp; with_reducible rfl); apply Exists.intro; refine ⟨?_, ?_⟩; (simp only [Act.put, List.setIfInBounds_toArray, List.set_cons_zero, List.set_cons_succ]; rfl))
        | (refine ordHead_read rfl rfl ?_; apply Exists.intro; refine ⟨?_, ?_⟩; (rintro w' ⟨⟨z0, z1, z2, z3, z4⟩, z10⟩; go_simp; with_reducible rfl); apply Exists.intro; refine ⟨?_, ?_⟩; (simp only [Act.put, List.setIfInBounds_toArray, List.set_cons_zero, List.set_cons_succ]; rfl)))
      refine ordHead_nil (hK _ ?_)
      refine ordT_two 1 5 (by kernel_rfl) rfl rfl ?fst ?snd
      case' fst =>
        go_wp2_with fail
        have M5 := Lib.hid (show Mid wr (w4.alloc (.cells #[.int .i64 n.kind, .string n.gap, .string n.text, .int .i64 n.pos, .slice An n.kids.length cn] 122)) ((w.heap.size + 1) :: (w.heap.size + 2) :: H) cb s A c L u2 (w4.heap.size :: (w.heap.size + 1) :: (w.heap.size + 2) :: H) (.slice (some ⟨w4.heap.size, 0, none⟩) 1 1) [n] from M4.out.lit B.len HC4.out)
        have S5 := held6 (Keep.of_below (H := [cb]) ((Below.refl _ w4).alloc (Nat.le_refl _) (.cells #[.int .i64 n.kind, .string n.gap, .string n.text, .int .i64 n.pos, .slice An n.kids.length cn] 122))) (by omega) (by omega) S0
        refine ⟨S5, ?_⟩
        refine ordT_one 5 (by kernel_rfl) rfl ?_
        go_wp2_with fail
        refine (within_calls (inner := oneE exp) (enters_of Tryz.func267 (by kernel_rfl) rfl) wLB wRB (fun W u3 H3 a b g => one_calls (fun W2 u4 H4 a2 b2 g2 => HE.out W2 u4 H4 a2 (by rw [b2, b, B.deep]) g2) a g) (fun _ => by simp [oneE]) M5.out.rd M5.out.good).mono ?_
        rw [← HR3.out]
        rintro e w6 ⟨⟨v6, H6, rfl, hL6⟩, R6, k6⟩
        obtain ⟨A6, c6, rfl, hl6, hC6⟩ := hL6.reads M5.out.good.all
        have M7 := Lib.hid (M5.out.call R6 k6)
        have HC7 := Lib.hid hC6
        have S6 := held6 k6 (by omega) (by omega) S5
        clear hL6 R6 k6 hC6 S5 S0
        go_wp2_with fail
        refine ordT_rest (by kernel_rfl) ?_
        simp only [pickOps, List.getElem?_cons_succ, List.getElem?_cons_zero]
        clear S6
      case' snd =>
        go_wp2_with fail
        refine (within_calls (inner := oneE exp) (enters_of Tryz.func267 (by kernel_rfl) rfl) wLB wRB (fun W u3 H3 a b g => one_calls (fun W2 u4 H4 a2 b2 g2 => HE.out W2 u4 H4 a2 (by rw [b2, b, B.deep]) g2) a g) (fun _ => by simp [oneE]) M4.out.rd M4.out.good).mono ?_
        rw [← HR3.out]
        rintro e w6 ⟨⟨v6, H6, rfl, hL6⟩, R6, k6⟩
        obtain ⟨A6, c6, rfl, hl6, hC6⟩ := hL6.reads M4.out.good.all
        have M5 := Lib.hid (M4.out.call R6 k6)
        have S5 := held6 k6 (by omega) (by omega) S0
        have hC5 := up_C up_kNd (M5.out.keep.sub (H2 := (w.heap.size + 1) :: (w.heap.size + 2) :: H) (fun k hk => by rw [List.mem_singleton.1 hk]; exact M5.out.mem)) B.kids
        have M7 := Lib.hid (show Mid wr (w6.alloc (.cells #[.int .i64 n.kind, .string n.gap, .string n.text, .int .i64 n.pos, .slice An n.kids.length cn] 122)) ((w.heap.size + 1) :: (w.heap.size + 2) :: H) cb s A c L r3.2 (w6.heap.size :: (w.heap.size + 1) :: (w.heap.size + 2) :: H) (.slice (some ⟨w6.heap.size, 0, none⟩) 1 1) [n] from M5.out.lit B.len hC5)
        have HC7 := Lib.hid (up_C up_kNd (hole_more (H := (w.heap.size + 1) :: (w.heap.size + 2) :: H) (H' := w6.heap.size :: (w.heap.size + 1) :: (w.heap.size + 2) :: H) (Keep.of_below (H := []) ((Below.refl _ w6).alloc (Nat.le_refl _) (.cells #[.int .i64 n.kind, .string n.gap, .string n.text, .int .i64 n.pos, .slice An n.kids.length cn] 122))) (fun k hk => (List.mem_cons.1 hk).elim (fun e => .inr (by omega)) .inl)) hC6)
        have S6 := held6 (Keep.of_below (H := [cb]) ((Below.refl _ w6).alloc (Nat.le_refl _) (.cells #[.int .i64 n.kind, .string n.gap, .string n.text, .int .i64 n.pos, .slice An n.kids.length cn] 122))) (by omega) (by omega) S5
        clear hL6 R6 k6 hC6 S0 hC5
        go_wp2_with fail
        refine ordT_one 1 (by kernel_rfl) rfl ?_
        clear S5
        go_wp2_with fail
        refine ordT_rest (by kernel_rfl) ?_
        simp only [pickOps, List.getElem?_cons_succ, List.getElem?_cons_zero]
        clear S6
      all_goals
        have HY7 := Lib.hid ((M7.out.box (b := w.heap.size + 1) (by omega) (by omega)).trans B.nbx)
        go_wp2_with ((with_reducible refine gate_builtin (b := .append) (xs := #[.tmp 11, .tmp 15]) rfl ?_); at_builtin; refine M7.out.appendRow rfl (.tmp 11) (.tmp 15) rfl rfl rfl HC7.out (by have := HW1.out; simp; omega) ?_; intro A8 q8 c8 w8 H8 e8 m8; have E8 := Lib.hid e8; have M8 := Lib.hid m8; clear e8 m8)
        obtain ⟨hq, hl8, hC8⟩ := M8.out.reads (fun k hk => HM.out.lst.lt k hk)
        rw [hq]
        refine (Make_calls 22 ((w.heap.size + 1) :: (w.heap.size + 2) :: H) (fun k hk => M8.out.lst.lt k (M8.out.lst.sup k hk)) hC8 (by have := HW1.out; simp; omega)).mono ?_
        rintro e w9 ⟨A9, c9, rfl, hl9, hC9, h9⟩
        have M9 := Lib.hid (M8.out.calm h9)
        have hy9 := (M9.out.box (b := w.heap.size + 1) (by omega) (by omega)).trans B.nbx
        obtain ⟨⟨b0, b1, b2, b3, b4⟩, f0, f1, f2, f3, f4⟩ := (Box5.mk hy9).all
        have HC9 := Lib.hid hC9
        clear hy9 hC9 hC8 h9
        go_wp2_with fail
        have BN := B.store hcb (by omega) (by omega) (by omega) hd3 M9.out.rd M9.out.keep (n' := mk 22 (n :: r3.1)) hl9 HC9.out
        refine ⟨⟨g, mk 22 (n :: r3.1), r3.2, A9, c9, by omega, HQ, BN⟩, ?_⟩
        rw [BN.rd.leftW, B.rd.leftW]; exact hwl
    | false =>
      cases hd : isB s L u2 0 wDot with
      | true =>
        have hwl := point_left (s := s) (L := L) HAD.out n hd
        have hpos : 0 < f := by omega
        obtain ⟨g, rfl⟩ : ∃ g, f = g + 1 := ⟨f - 1, by omega⟩
        have HQ := Lib.hid (show behind s L exp (L.length + 1) n0 u = behind s L exp g (point s L exp n u2).1 (point s L exp n u2).2 by rw [hq.out]; conv => lhs; unfold behind; rw [if_neg (by rw [hb]; simp), if_pos hd])
        have hd3 := (point_adv (s := s) (L := L) HAD.out n u2).deep.trans B.deep
        have HB := Lib.hid hb
        have HD := Lib.hid hd
        clear hb hq hd
        obtain ⟨r3, hr3⟩ : ∃ r3, r3 = point s L exp n u2 := ⟨_, rfl⟩
        rw [← hr3] at hwl HQ hd3
        have HR3 := Lib.hid hr3
        clear hr3
        go_wp2_with fail
        refine (Is_calls B.rd 0 (by decide) wLB).mono ?_
        rw [HB.out]
        rintro e w3 ⟨rfl, h3⟩
        have M3 := Lib.hid (HM.out.calm h3)
        clear x0 h3
        have HX3 := Lib.hid ((M3.out.box (b := w.heap.size) (by omega) (by omega)).trans B.xb)
        have x0 := (cell_blk HX3.out 0).trans rfl
        go_wp2_with fail
        refine (Is_calls M3.out.rd 0 (by decide) wDot).mono ?_
        rw [HD.out]
        rintro e w4 ⟨rfl, h4⟩
        have M4 := Lib.hid (M3.out.calm h4)
        clear x0 h4
        have HX4 := Lib.hid ((M4.out.box (b := w.heap.size) (by omega) (by omega)).trans B.xb)
        have x0 := (cell_blk HX4.out 0).trans rfl
        obtain ⟨⟨n0, n1, n2, n3, n4⟩, g0, g1, g2, g3, g4⟩ := (Box5.mk ((M4.out.box (b := w.heap.size + 1) (by omega) (by omega)).trans B.nbx)).all
        clear g0 g1 g2 g3 g4
        have HC4 := Lib.hid (up_C up_kNd (M4.out.keep.sub (H2 := (w.heap.size + 1) :: (w.heap.size + 2) :: H) (fun k hk => by rw [List.mem_singleton.1 hk]; exact M4.out.mem)) B.kids)
        go_wp2_with fail
        refine (point_calls (fun W2 u4 H4 a2 b2 g2 => HE.out W2 u4 H4 a2 (by rw [b2, B.deep]) g2) M4.out.rd M4.out.good HAD.out B.len HC4.out).mono ?_
        rw [← HR3.out]
        rintro e w9 ⟨⟨A9, c9, rfl, hl9, hC9⟩, R9, k9⟩
        have M9 := Lib.hid (M4.out.call R9 k9)
        clear R9 k9 x0 n0 n1 n2 n3 n4
        have hy9 := (M9.out.box (b := w.heap.size + 1) (by omega) (by omega)).trans B.nbx
        obtain ⟨⟨b0, b1, b2, b3, b4⟩, f0, f1, f2, f3, f4⟩ := (Box5.mk hy9).all
        have HC9 := Lib.hid hC9
        clear hy9 hC9
        go_wp2_with fail
        have BN := B.store hcb (by omega) (by omega) (by omega) hd3 M9.out.rd M9.out.keep (n' := r3.1) hl9 HC9.out
        refine ⟨⟨g, r3.1, r3.2, A9, c9, by omega, HQ, BN⟩, ?_⟩
        rw [BN.rd.leftW, B.rd.leftW]; exact hwl
      | false =>
        have HQ := Lib.hid (show behind s L exp (L.length + 1) n0 u = (n, u2) by rw [hq.out, behind_end hb hd])
        have HB := Lib.hid hb
        have HD := Lib.hid hd
        clear hb hq hd
        go_wp2_with fail
        refine (Is_calls B.rd 0 (by decide) wLB).mono ?_
        rw [HB.out]
        rintro e w3 ⟨rfl, h3⟩
        have M3 := Lib.hid (HM.out.calm h3)
        clear x0 h3
        have HX3 := Lib.hid ((M3.out.box (b := w.heap.size) (by omega) (by omega)).trans B.xb)
        have x0 := (cell_blk HX3.out 0).trans rfl
        go_wp2_with fail
        refine (Is_calls M3.out.rd 0 (by decide) wDot).mono ?_
        rw [HD.out]
        rintro e w4 ⟨rfl, h4⟩
        have M4 := Lib.hid (M3.out.calm h4)
        clear x0 h4
        obtain ⟨⟨n0, n1, n2, n3, n4⟩, g0, g1, g2, g3, g4⟩ := (Box5.mk ((M4.out.box (b := w.heap.size + 1) (by omega) (by omega)).trans B.nbx)).all
        clear g0 g1 g2 g3 g4
        have hy4 := (M4.out.box (b := w.heap.size + 2) (by omega) (by omega)).trans B.rbx
        obtain ⟨⟨b0, b1, b2, b3, b4⟩, f0, f1, f2, f3, f4⟩ := (Box5.mk hy4).all
        have HY4 := Lib.hid hy4
        have HC4 := Lib.hid (up_C up_kNd (hole_less (H' := (w.heap.size + 2) :: H) w4 (fun k hk => List.mem_cons_of_mem _ hk)) (up_C up_kNd (M4.out.keep.sub (H2 := (w.heap.size + 1) :: (w.heap.size + 2) :: H) (fun k hk => by rw [List.mem_singleton.1 hk]; exact M4.out.mem)) B.kids))
        clear hy4
        go_wp2_with fail
        exact nd_end (n := n) (A' := An) (c' := cn) (u := u2) (b := w.heap.size + 2) Tryz.results249 rfl HY4.out B.len HC4.out (by omega) hcb M4.out.rd HQ.out (B.keep.trans M4.out.keep)
end
end Go.Proofs.YtbfkkepdeepdeaaGreatDoor
end
section
namespace Go.Proofs.YtbfkkepdeepdeaaGreatDoor
open Go Go.RowKit Go.Proofs.YtbfkkepdeepdeaaGreatDoorW.PrintWords Go.Proofs.YtbfkkepdeepdeaaGreatDoorW.PrintLast Go.Proofs.YtbfkkepdeepdeaaGreatDoorW.PrintMore
set_option linter.unusedVariables false
set_option linter.unusedSimpArgs false
set_option maxRecDepth 100000
section
variable {w w1 W W' : World} {cb : Nat} {s : ByteArray} {A : Option Addr} {c : Nat} {L : List Tok} {u u' : Cu} {H H' H2 : List Nat} {v v' : Value} {l l' : List Nd}
theorem Lst.lit2 {base : Nat} {W : World} {n1 n2 : Nd} {A1 A2 : Option Addr} {c1 c2 : Nat} (hH : ∀ k, k ∈ H → k < W.heap.size) (hb : base ≤ W.heap.size) (hl1 : n1.kids.length ≤ c1) (hC1 : kNd.C (hole H W) A1 n1.kids.length n1.kids) (hl2 : n2.kids.length ≤ c2) (hC2 : kNd.C (hole H W) A2 n2.kids.length n2.kids) :
    Lst base H (W.alloc (.cells (aNd n1 A1 c1 ++ aNd n2 A2 c2) 122)) (W.heap.size :: H) (.slice (some ⟨W.heap.size, 0, none⟩) 2 2) [n1, n2] := by
  have hb1 : Below W.heap.size W (W.alloc (.cells (aNd n1 A1 c1 ++ aNd n2 A2 c2) 122)) := (Below.refl _ _).alloc (Nat.le_refl _) _
  have up : ∀ {x : Nd} {cs : List Value}, kNd.K (hole H W) x cs → kNd.K (hole (W.heap.size :: H) (W.alloc (.cells (aNd n1 A1 c1 ++ aNd n2 A2 c2) 122))) x cs := fun h => up_kNd (hole_more (Keep.of_below (H := []) hb1) (H := H) (H' := W.heap.size :: H) (fun k hk => (List.mem_cons.1 hk).elim (fun e => .inr (by omega)) .inl)) h
  have h1 := up (kNd_mk (hole H W) n1 hl1 hC1)
  have h2 := up (kNd_mk (hole H W) n2 hl2 hC2)
  refine ⟨fun _ h => List.mem_cons_of_mem _ h, fun k hk => ?_, fun b hb => ?_, ?_⟩
  · simp only [World.size_alloc]
    rcases List.mem_cons.1 hk with h | h
    · omega
    · have := hH k h; omega
  · simp [Value.ownBlock] at hb; rw [← hb]; exact List.mem_cons_self
  · exact OwnRow.lit (e := 122) (size := 5) W base (inner := cNd n1 A1 c1 ++ cNd n2 A2 c2) (((Reps.none _ 5).snoc h1 rfl).snoc h2 rfl) hb (by simp)
theorem Mid.lit2X {n1 n2 : Nd} {A1 A2 : Option Addr} {c1 c2 : Nat} {X : Array Value} (m : Mid w1 W H cb s A c L u H' v l) (hl1 : n1.kids.length ≤ c1) (hC1 : kNd.C (hole H W) A1 n1.kids.length n1.kids) (hl2 : n2.kids.length ≤ c2) (hC2 : kNd.C (hole H W) A2 n2.kids.length n2.kids) (hX : X = aNd n1 A1 c1 ++ aNd n2 A2 c2) :
    Mid w1 (W.alloc (.cells X 122)) H cb s A c L u (W.heap.size :: H) (.slice (some ⟨W.heap.size, 0, none⟩) 2 2) [n1, n2] := by
  subst hX
  have h1 : Below W.heap.size W (W.alloc (.cells (aNd n1 A1 c1 ++ aNd n2 A2 c2) 122)) := (Below.refl _ _).alloc (Nat.le_refl _) _
  exact ⟨m.keep.trans (Keep.of_below h1), m.rd.below h1, Lst.lit2 (fun k hk => m.lst.lt k (m.lst.sup k hk)) m.keep.size hl1 hC1 hl2 hC2, m.mem, m.lt⟩
def BoxNd (W0 : World) (cb : Nat) (s : ByteArray) (A : Option Addr) (c : Nat) (L : List Tok) (H : List Nat) (q : Nd) (u' : Cu) (b : Nat) (A9 : Option Addr) (c9 : Nat) (wx : World) : Prop :=
  wx.heap[b]? = some (.cells (aNd q A9 c9) 122 (0, 0)) ∧ W0.heap.size ≤ b ∧ q.kids.length ≤ c9 ∧ kNd.C (hole H wx) A9 q.kids.length q.kids ∧ RdP wx cb s A c L u' ∧ Keep [cb] W0 wx
theorem hole_put {W : World} {b : Nat} {v0 v1 v2 v3 v4 : Value} : Sub (hole (b :: H) W) (hole H (((((W.setCell ⟨b, 0, none⟩ v0).setCell ⟨b, 1, none⟩ v1).setCell ⟨b, 2, none⟩ v2).setCell ⟨b, 3, none⟩ v3).setCell ⟨b, 4, none⟩ v4)) := fun a v h => by
  obtain ⟨n1, n2⟩ := hole_cell_iff.1 h
  refine hole_cell_iff.2 ⟨fun e => n1 (List.mem_cons_of_mem _ e), ?_⟩
  have hne : a.block ≠ b := fun e => n1 (by rw [e]; exact List.mem_cons_self)
  exact (World.cell?_of_block (a := a) (by
    rw [Below.heap_setCell _ _ _ _ hne, Below.heap_setCell _ _ _ _ hne, Below.heap_setCell _ _ _ _ hne, Below.heap_setCell _ _ _ _ hne, Below.heap_setCell _ _ _ _ hne])).trans n2
theorem BoxNd.of {W0 : World} {q : Nd} {b : Nat} {A9 : Option Addr} {c9 : Nat} {a0 a1 a2 a3 a4 : Value} (hX : W.heap[b]? = some (.cells #[a0, a1, a2, a3, a4] 122 (0, 0))) (hb : W0.heap.size ≤ b) (hcb : cb < W0.heap.size) (hl : q.kids.length ≤ c9) (hC : kNd.C (hole (b :: H) W) A9 q.kids.length q.kids) (R : RdP W cb s A c L u') (K : Keep [cb] W0 W) :
    BoxNd W0 cb s A c L H q u' b A9 c9 (((((W.setCell ⟨b, 0, none⟩ (.int .i64 q.kind)).setCell ⟨b, 1, none⟩ (.string q.gap)).setCell ⟨b, 2, none⟩ (.string q.text)).setCell ⟨b, 3, none⟩ (.int .i64 q.pos)).setCell ⟨b, 4, none⟩ (.slice A9 q.kids.length c9)) :=
  ⟨set5 hX _ _ _ _ _, hb, hl, up_C up_kNd hole_put hC, R.set5 (by omega) _ _ _ _ _, keep5 K hb _ _ _ _ _⟩
theorem BoxNd.new {W0 : World} {q : Nd} {A9 : Option Addr} {c9 : Nat} {X : Array Value} (hb : W0.heap.size ≤ W.heap.size) (hl : q.kids.length ≤ c9) (hC : kNd.C (hole H W) A9 q.kids.length q.kids) (R : RdP W cb s A c L u') (K : Keep [cb] W0 W) (hX : X = aNd q A9 c9) :
    BoxNd W0 cb s A c L H q u' W.heap.size A9 c9 (W.alloc (.cells X 122)) := by
  subst hX
  have h : Below W.heap.size W (W.alloc (.cells (aNd q A9 c9) 122)) := (Below.refl _ _).alloc (Nat.le_refl _) _
  exact ⟨World.alloc_heap_new _ _, hb, hl, up_C up_kNd (hole_more (Keep.of_below (H := []) h) (fun k hk => .inl hk)) hC, R.below h, K.trans (Keep.of_below h)⟩
set_option maxHeartbeats 1000000 in
theorem factor_calls {exp fac : Cu → Nd × Cu} (hE : ∀ W u2 H2, RdP W cb s A c L u2 → u2.deep = u.deep + 1 → Good H2 cb W → Calls Tryz.prog 189 #[rdV cb, .int .i64 0] W (NdRes W cb s A c L H2 (exp u2))) (hF : ∀ W u2 H2, RdP W cb s A c L u2 → u2.deep = u.deep + 1 → Good H2 cb W → Calls Tryz.prog 221 #[rdV cb] W (NdRes W cb s A c L H2 (fac u2))) (hA : ∀ u, Adv L u (exp u).2) (R : RdP w cb s A c L u) (G : Good H cb w) :
    Calls Tryz.prog 221 #[rdV cb] w (NdRes w cb s A c L H (factorF s L exp fac u)) := by
  have hcb := R.lt
  obtain ⟨w1, hw1⟩ : ∃ w1, w1 = (w.alloc (.cells #[.pointer (some ⟨cb, 0, none⟩)] 300)).alloc (.cells (aNd zN none 0) 122) := ⟨_, rfl⟩
  have hA1 : Below w.heap.size w w1 := by rw [hw1]; exact ((Below.refl _ _).alloc (Nat.le_refl _) _).alloc (by simp) _
  have hz1 : w1.heap.size = w.heap.size + 2 := by rw [hw1]; simp
  have hx : w1.heap[w.heap.size]? = some (.cells #[.pointer (some ⟨cb, 0, none⟩)] 300 (0, 0)) := by
    rw [hw1]; exact (Below.heap_alloc _ _ _ (by simp)).trans (World.alloc_heap_new w _)
  have hy : w1.heap[w.heap.size + 1]? = some (.cells (aNd zN none 0) 122 (0, 0)) := by
    rw [hw1]; have := World.alloc_heap_new (w.alloc (.cells #[.pointer (some ⟨cb, 0, none⟩)] 300)) (.cells (aNd zN none 0) 122); simpa using this
  have HX := Lib.hid hx
  have HY := Lib.hid hy
  have HA := Lib.hid (Keep.of_below (H := [cb]) hA1)
  have M1 := Lib.hid (Mid.start (H := (w.heap.size + 1) :: H) (R.below hA1) (List.mem_cons_of_mem _ G.cb) (fun k hk => by
    rcases List.mem_cons.1 hk with e | e
    · omega
    · have := G.all k e; omega))
  have HE := Lib.hid hE
  have HF := Lib.hid hF
  have HAD := Lib.hid hA
  clear R hA1 G hE hx hy hF hA
  have x0 := (cell_blk HX.out 0).trans rfl
  cases hb : isB s L u 0 wBang with
  | false =>
    have HB := Lib.hid hb
    have HQ := Lib.hid (show factorF s L exp fac u = behind s L exp (L.length + 1) (operand s L exp u).1 (operand s L exp u).2 by unfold factorF; rw [if_neg (by rw [hb]; simp)])
    clear hb
    go_enter Tryz.func221, Tryz.ntmps221
    go_wp2_with fail
    have Rz := M1.out.rd
    rw [hw1] at Rz
    refine (Is_calls Rz 0 (by decide) wBang).mono ?_
    rw [HB.out]
    rintro e w2 ⟨rfl, h2⟩
    rw [← hw1] at h2
    have M2 := Lib.hid (M1.out.calm h2)
    have HX2 := Lib.hid ((M2.out.box (b := w.heap.size) (by omega) (by omega)).trans HX.out)
    clear x0 Rz h2 hw1
    have x0 := (cell_blk HX2.out 0).trans rfl
    go_upto_region 2 with (fail)
    have S0 : w2.drew.cell? ⟨w.heap.size, 0, none⟩ = some (.pointer (some ⟨cb, 0, none⟩)) := cell_later (below_drew1 _) x0
    have M3 := Lib.hid (M2.out.calm (below_drew1 w2))
    clear x0
    obtain ⟨w3, hw3⟩ : ∃ w3, w3 = w2.drew := ⟨_, rfl⟩
    refine wp_region_ord (fun w' => w'.cell? ⟨w.heap.size, 0, none⟩ = some (.pointer (some ⟨cb, 0, none⟩))) [(0, false), (1, false)] [2] [3, 4] (by kernel_rfl) (by kernel_rfl) (fun _ _ _ _ h => h) S0 (fun K hK => ?_)
    rw [← hw3] at hK S0 M3
    clear hw3
    simp only [pickHead, List.getElem?_cons_succ, List.getElem?_cons_zero]
    repeat (first
      | (refine ordHead_pure rfl rfl ?_; apply Exists.intro; refine ⟨fun w' => ?_, ?_⟩; (go_simp; with_reducible rfl); apply Exists.intro; refine ⟨?_, ?_⟩; (simp only [Act.put, List.setIfInBounds_toArray, List.set_cons_zero, List.set_cons_succ]; rfl))
      | (refine ordHead_read rfl rfl ?_; apply Exists.intro; refine ⟨?_, ?_⟩; (rintro w' z0; go_simp; with_reducible rfl); apply Exists.intro; refine ⟨?_, ?_⟩; (simp only [Act.put, List.setIfInBounds_toArray, List.set_cons_zero, List.set_cons_succ]; rfl)))
    refine ordHead_nil (hK _ ?_)
    simp only [pickOps, ordTail, List.getElem?_cons_succ, List.getElem?_cons_zero]
    go_wp2_with fail
    refine (operand_calls HE.out M3.out.rd M3.out.good).mono ?_
    have ho := (operand_adv (s := s) (L := L) HAD.out u).deep
    obtain ⟨r1, hr1⟩ : ∃ r1, r1 = operand s L exp u := ⟨_, rfl⟩
    rw [← hr1] at ho HQ ⊢
    have HR1 := Lib.hid hr1
    clear hr1
    rintro e w4 ⟨⟨A4, c4, rfl, hl4, hC4⟩, R4, k4⟩
    have M4 := Lib.hid (M3.out.call R4 k4)
    have HC4 := Lib.hid hC4
    have S4 := keep_cell k4 (show (⟨w.heap.size, 0, none⟩ : Addr).block ≠ cb by show w.heap.size ≠ cb; omega) S0
    clear R4 k4 hC4 S0
    go_wp2_with fail
    refine (behind_calls (fun W2 u4 H4 a2 b2 g2 => HE.out W2 u4 H4 a2 (by rw [b2, ho]) g2) M4.out.rd M4.out.good HAD.out hl4 HC4.out).mono ?_
    obtain ⟨r2, hr2⟩ : ∃ r2, r2 = behind s L exp (L.length + 1) r1.1 r1.2 := ⟨_, rfl⟩
    rw [← hr2] at HQ ⊢
    rintro e w10 ⟨⟨A10, c10, rfl, hl10, hC10⟩, R10, k10⟩
    have M10 := Lib.hid (M4.out.call R10 k10)
    clear R10 k10 S4 hr2
    have hy10 := (M10.out.box (b := w.heap.size + 1) (by omega) (by omega)).trans HY.out
    obtain ⟨⟨b0, b1, b2, b3, b4⟩, f0, f1, f2, f3, f4⟩ := (Box5.mk hy10).all
    have HY10 := Lib.hid hy10
    have HC10 := Lib.hid hC10
    clear hy10 hC10
    go_wp2_with fail
    exact nd_end Tryz.results221 rfl HY10.out hl10 HC10.out (Nat.le_succ _) hcb M10.out.rd HQ.out (HA.out.trans M10.out.keep)
  | true =>
    have HB := Lib.hid hb
    clear hb
    go_enter Tryz.func221, Tryz.ntmps221
    go_wp2_with fail
    have Rz := M1.out.rd
    rw [hw1] at Rz
    refine (Is_calls Rz 0 (by decide) wBang).mono ?_
    rw [HB.out]
    rintro e w2 ⟨rfl, h2⟩
    rw [← hw1] at h2
    have M2 := Lib.hid (M1.out.calm h2)
    have HX2 := Lib.hid ((M2.out.box (b := w.heap.size) (by omega) (by omega)).trans HX.out)
    clear x0 Rz h2 hw1
    have x0 := (cell_blk HX2.out 0).trans rfl
    cases hd : down s L u with
    | mk bd u1 =>
    have HD := Lib.hid hd
    clear hd
    go_wp2_with fail
    refine (Down_calls M2.out.rd).mono ?_
    rw [HD.out]
    cases bd with
    | false =>
      have HQ := Lib.hid (show factorF s L exp fac u = (zN, u1) by unfold factorF; rw [if_pos HB.out, HD.out])
      rintro e w10 ⟨rfl, R10, k10⟩
      have M10 := Lib.hid (M2.out.call R10 k10)
      have hl10 : zN.kids.length ≤ 0 := Nat.le_refl 0
      have hC10 : kNd.C (hole ((w.heap.size + 1) :: H) w10) none zN.kids.length zN.kids := leaf_C _ _ rfl
      clear R10 k10 x0
      have hy10 := (M10.out.box (b := w.heap.size + 1) (by omega) (by omega)).trans HY.out
      obtain ⟨⟨b0, b1, b2, b3, b4⟩, f0, f1, f2, f3, f4⟩ := (Box5.mk hy10).all
      have HY10 := Lib.hid hy10
      have HC10 := Lib.hid hC10
      clear hy10 hC10
      go_wp2_with fail
      exact nd_end (n := zN) (A' := none) (c' := 0) (u := u1) (b := w.heap.size + 1) (a0 := .int .i64 0) (a1 := .string ⟨#[]⟩) (a2 := .string ⟨#[]⟩) (a3 := .int .i64 0) (a4 := .slice none 0 0) Tryz.results221 rfl HY10.out hl10 HC10.out (Nat.le_succ _) hcb M10.out.rd HQ.out (HA.out.trans M10.out.keep)
    | true =>
      have HQ := Lib.hid (show factorF s L exp fac u = (mk 21 [(want s L u1 wBang).1, (fac (want s L u1 wBang).2).1], up (fac (want s L u1 wBang).2).2) by unfold factorF; rw [if_pos HB.out, HD.out])
      have hu1 : (want s L u1 wBang).2.deep = u.deep + 1 := by rw [(want_adv u1 wBang).deep, (down_true HD.out).2.2]
      obtain ⟨r1, hr1⟩ : ∃ r1, r1 = want s L u1 wBang := ⟨_, rfl⟩
      obtain ⟨r2, hr2⟩ : ∃ r2, r2 = fac r1.2 := ⟨_, rfl⟩
      rw [← hr1] at HQ hu1
      rw [← hr2] at HQ
      have HR1 := Lib.hid hr1
      have HR2 := Lib.hid hr2
      clear hr1 hr2
      rintro e w3 ⟨rfl, R3, k3⟩
      have M3 := Lib.hid (M2.out.call R3 k3)
      clear R3 k3 x0
      have HX3 := Lib.hid ((M3.out.box (b := w.heap.size) (by omega) (by omega)).trans HX.out)
      have x0 := (cell_blk HX3.out 0).trans rfl
      go_wp2_with fail
      refine (Want_calls M3.out.rd wBang).mono ?_
      rw [← HR1.out]
      rintro e w4 ⟨rfl, hk4, R4, k4⟩
      have M4 := Lib.hid (M3.out.call R4 k4)
      have HK4 := Lib.hid hk4
      clear R4 k4 hk4 x0
      go_upto_region 6 with (fail)
      have hz4 := M4.out.keep.size
      have h5 : Below w4.heap.size w4 (w4.alloc (.cells #[.int .i64 r1.1.kind, .string r1.1.gap, .string r1.1.text, .int .i64 r1.1.pos, .slice none r1.1.kids.length 0] 122)).drew := ((Below.refl _ _).alloc (Nat.le_refl _) _).drew
      have M5 := Lib.hid (M4.out.calm h5)
      have hz5 := World.alloc_heap_new w4 (.cells #[.int .i64 r1.1.kind, .string r1.1.gap, .string r1.1.text, .int .i64 r1.1.pos, .slice none r1.1.kids.length 0] 122)
      have HZ5 := Lib.hid (show (w4.alloc (.cells #[.int .i64 r1.1.kind, .string r1.1.gap, .string r1.1.text, .int .i64 r1.1.pos, .slice none r1.1.kids.length 0] 122)).drew.heap[w4.heap.size]? = _ from hz5)
      obtain ⟨⟨n0, n1, n2, n3, n4⟩, g0, g1, g2, g3, g4⟩ := (Box5.mk HZ5.out).all
      have HX5 := Lib.hid ((M5.out.box (b := w.heap.size) (by omega) (by omega)).trans HX.out)
      have S5 : ((fun w' => (w'.cell? ⟨w4.heap.size, 0, none⟩ = some (.int .i64 r1.1.kind) ∧ w'.cell? ⟨w4.heap.size, 1, none⟩ = some (.string r1.1.gap) ∧ w'.cell? ⟨w4.heap.size, 2, none⟩ = some (.string r1.1.text) ∧ w'.cell? ⟨w4.heap.size, 3, none⟩ = some (.int .i64 r1.1.pos) ∧ w'.cell? ⟨w4.heap.size, 4, none⟩ = some (.slice none r1.1.kids.length 0)) ∧ w'.cell? ⟨w.heap.size, 0, none⟩ = some (.pointer (some ⟨cb, 0, none⟩))) (w4.alloc (.cells #[.int .i64 r1.1.kind, .string r1.1.gap, .string r1.1.text, .int .i64 r1.1.pos, .slice none r1.1.kids.length 0] 122)).drew) := ⟨⟨n0, n1, n2, n3, n4⟩, (cell_blk HX5.out 0).trans rfl⟩
      have hz5 : w4.heap.size < (w4.alloc (.cells #[.int .i64 r1.1.kind, .string r1.1.gap, .string r1.1.text, .int .i64 r1.1.pos, .slice none r1.1.kids.length 0] 122)).drew.heap.size := by simp
      go_cut [4] (fun v4 wx => ∃ b A9 c9, v4 = .pointer (some ⟨b, 0, none⟩) ∧ Hid (BoxNd w1 cb s A c L ((w.heap.size + 1) :: H) (mk 21 [r1.1, r2.1]) r2.2 b A9 c9 wx))
      case first =>
        clear n0 n1 n2 n3 n4 g0 g1 g2 g3 g4
        obtain ⟨w5, hw5⟩ : ∃ w5, w5 = (w4.alloc (.cells #[.int .i64 r1.1.kind, .string r1.1.gap, .string r1.1.text, .int .i64 r1.1.pos, .slice none r1.1.kids.length 0] 122)).drew := ⟨_, rfl⟩
        refine wp_region_ordT (fun w' => (w'.cell? ⟨w4.heap.size, 0, none⟩ = some (.int .i64 r1.1.kind) ∧ w'.cell? ⟨w4.heap.size, 1, none⟩ = some (.string r1.1.gap) ∧ w'.cell? ⟨w4.heap.size, 2, none⟩ = some (.string r1.1.text) ∧ w'.cell? ⟨w4.heap.size, 3, none⟩ = some (.int .i64 r1.1.pos) ∧ w'.cell? ⟨w4.heap.size, 4, none⟩ = some (.slice none r1.1.kids.length 0)) ∧ w'.cell? ⟨w.heap.size, 0, none⟩ = some (.pointer (some ⟨cb, 0, none⟩))) [(0, false), (1, false)] 4 [6] #[true, true, false, false, false, false, false] (by kernel_rfl) (by kernel_rfl) (by kernel_rfl) (by kernel_rfl) (fun _ _ _ _ h => h) S5 (fun K hK => ?_)
        rw [← hw5] at hK S5 M5 HX5 HZ5 hz5
        clear hw5 h5
        simp only [pickHead, List.getElem?_cons_succ, List.getElem?_cons_zero]
        repeat (first
          | (refine ordHead_pure rfl rfl ?_; apply Exists.intro; refine ⟨fun w' => ?_, ?_⟩; (go_simp; with_reducible rfl); apply Exists.intro; refine ⟨?_, ?_⟩; (simp only [Act.put, List.setIfInBounds_toArray, List.set_cons_zero, List.set_cons_succ]; rfl))
          | (refine ordHead_read rfl rfl ?_; apply Exists.intro; refine ⟨?_, ?_⟩; (rintro w' ⟨⟨z0, z1, z2, z3, z4⟩, z10⟩; go_simp; with_reducible rfl); apply Exists.intro; refine ⟨?_, ?_⟩; (simp only [Act.put, List.setIfInBounds_toArray, List.set_cons_zero, List.set_cons_succ]; rfl)))
        refine ordHead_nil (hK _ ?_)
        refine ordT_two 2 5 (by kernel_rfl) rfl rfl ?_ ?_
        · go_wp2_with fail
          refine (HF.out _ _ _ M5.out.rd hu1 M5.out.good).mono ?_
          rw [← HR2.out]
          rintro e w6 ⟨⟨A6, c6, rfl, hl6, hC6⟩, R6, k6⟩
          have M6 := Lib.hid (M5.out.call R6 k6)
          have HC6 := Lib.hid hC6
          have S6 := held6 k6 (by omega) (by omega) S5
          have hz6 := k6.size
          clear R6 k6 hC6 S5
          go_wp2_with fail
          refine ordT_two 3 5 (by kernel_rfl) rfl rfl ?_ ?_
          · go_wp2_with fail
            have M7 := Lib.hid (M6.out.lit2X (X := #[.int .i64 r1.1.kind, .string r1.1.gap, .string r1.1.text, .int .i64 r1.1.pos, .slice none r1.1.kids.length 0, .int .i64 r2.1.kind, .string r2.1.gap, .string r2.1.text, .int .i64 r2.1.pos, .slice A6 r2.1.kids.length c6]) (n1 := r1.1) (A1 := none) (c1 := 0) (by rw [HK4.out]; exact Nat.le_refl _) (leaf_C _ _ HK4.out) hl6 HC6.out (by simp [aNd]))
            have S7 := held6 (Keep.of_below (H := [cb]) ((Below.refl _ w6).alloc (Nat.le_refl _) (.cells #[.int .i64 r1.1.kind, .string r1.1.gap, .string r1.1.text, .int .i64 r1.1.pos, .slice none r1.1.kids.length 0, .int .i64 r2.1.kind, .string r2.1.gap, .string r2.1.text, .int .i64 r2.1.pos, .slice A6 r2.1.kids.length c6] 122))) (by omega) (by omega) S6
            first | refine ⟨S7, ?_⟩ | refine ⟨S7.2, ?_⟩ | skip
            clear S6
            obtain ⟨hq, hl7, hC7⟩ := M7.out.reads (fun k hk => M1.out.lst.lt k hk)
            have HC7 := Lib.hid hC7
            have hz7 := M7.out.keep.size
            obtain ⟨w7, hw7⟩ : ∃ w7, w7 = (w6.alloc (.cells #[.int .i64 r1.1.kind, .string r1.1.gap, .string r1.1.text, .int .i64 r1.1.pos, .slice none r1.1.kids.length 0, .int .i64 r2.1.kind, .string r2.1.gap, .string r2.1.text, .int .i64 r2.1.pos, .slice A6 r2.1.kids.length c6] 122)) := ⟨_, rfl⟩
            rw [← hw7] at S7 M7 HC7 hz7 ⊢
            clear hC7 hq hw7
            refine ordT_two 4 5 (by kernel_rfl) rfl rfl ?_ ?_
            · go_wp2_with fail
              refine (Make_calls 21 ((w.heap.size + 1) :: H) (fun k hk => M7.out.lst.lt k (M7.out.lst.sup k hk)) HC7.out (by simp)).mono ?_
              rintro e w9 ⟨A9, c9, rfl, hl9, hC9, h9⟩
              have M9 := Lib.hid (M7.out.calm h9)
              have S9 := held6 (Keep.of_below (H := [cb]) h9) (by omega) (by omega) S7
              have HC9 := Lib.hid hC9
              clear h9 hC9 S7
              go_wp2_with fail
              refine ordT_one 5 (by kernel_rfl) rfl ?_
              go_wp2_with fail
              have SF := held6 (Keep.of_below (H := [cb]) ((Below.refl _ w9).alloc (Nat.le_refl _) (.cells #[.int .i64 0, .string ⟨#[]⟩, .string ⟨#[]⟩, .int .i64 0, .slice none 0 0] 122))) (by omega) (by omega) S9
              refine ⟨SF, ?_⟩
              clear SF S9
              refine ordT_rest (by kernel_rfl) ?_
              simp only [pickOps, List.getElem?_cons_succ, List.getElem?_cons_zero]
              go_wp2_with fail
              go_meet
              exact ⟨_, _, _, rfl, BoxNd.new (q := mk 21 [r1.1, r2.1]) M9.out.keep.size hl9 HC9.out M9.out.rd M9.out.keep rfl⟩
            · go_wp2_with fail
              have h8 : Below w7.heap.size w7 (w7.alloc (.cells #[.int .i64 0, .string ⟨#[]⟩, .string ⟨#[]⟩, .int .i64 0, .slice none 0 0] 122)) := (Below.refl _ _).alloc (Nat.le_refl _) _
              have HZ8 := Lib.hid (World.alloc_heap_new w7 (.cells #[.int .i64 0, .string ⟨#[]⟩, .string ⟨#[]⟩, .int .i64 0, .slice none 0 0] 122))
              have S8 := held6 (Keep.of_below (H := [cb]) h8) (by omega) (by omega) S7
              first | refine ⟨S8, ?_⟩ | refine ⟨S8.2, ?_⟩ | skip
              have M8 := Lib.hid (M7.out.calm h8)
              have HC8 := Lib.hid (up_C up_kNd (hole_more (H' := w7.heap.size :: (w.heap.size + 1) :: H) (Keep.of_below (H := []) h8) (fun k hk => (List.mem_cons.1 hk).elim (fun e => .inr (by omega)) .inl)) HC7.out)
              have hbF := M7.out.keep.size
              clear h8 S7
              refine ordT_one 4 (by kernel_rfl) rfl ?_
              go_wp2_with fail
              refine (Make_calls 21 (w7.heap.size :: (w.heap.size + 1) :: H) (fun k hk => (List.mem_cons.1 hk).elim (fun e => by rw [e]; simp) (fun e => M8.out.lst.lt k (M8.out.lst.sup k e))) HC8.out (by simp)).mono ?_
              rintro e w9 ⟨A9, c9, rfl, hl9, hC9, h9⟩
              have M9 := Lib.hid (M8.out.calm h9)
              have HYF := Lib.hid ((h9.block w7.heap.size (by simp)).trans HZ8.out)
              have S9 := held6 (Keep.of_below (H := [cb]) h9) (by omega) (by omega) S8
              have HCF := Lib.hid hC9
              have RF := Lib.hid M9.out.rd
              have KF := Lib.hid M9.out.keep
              clear h9 hC9 S8
              go_wp2_with fail
              clear S9
              refine ordT_rest (by kernel_rfl) ?_
              simp only [pickOps, List.getElem?_cons_succ, List.getElem?_cons_zero]
              obtain ⟨⟨b0, b1, b2, b3, b4⟩, f0, f1, f2, f3, f4⟩ := (Box5.mk HYF.out).all
              go_wp2_with fail
              go_meet
              exact ⟨_, _, _, rfl, BoxNd.of (q := mk 21 [r1.1, r2.1]) HYF.out hbF M1.out.lt hl9 HCF.out RF.out KF.out⟩
          · go_wp2_with fail
            have h7 : Below w6.heap.size w6 (w6.alloc (.cells #[.int .i64 0, .string ⟨#[]⟩, .string ⟨#[]⟩, .int .i64 0, .slice none 0 0] 122)) := (Below.refl _ _).alloc (Nat.le_refl _) _
            have HZ7 := Lib.hid (World.alloc_heap_new w6 (.cells #[.int .i64 0, .string ⟨#[]⟩, .string ⟨#[]⟩, .int .i64 0, .slice none 0 0] 122))
            have S7 := held6 (Keep.of_below (H := [cb]) h7) (by omega) (by omega) S6
            first | refine ⟨S7, ?_⟩ | refine ⟨S7.2, ?_⟩ | skip
            have M7 := Lib.hid (Mid.start (H := w6.heap.size :: (w.heap.size + 1) :: H) (M6.out.rd.below h7) (List.mem_cons_of_mem _ M6.out.mem) (fun k hk => (List.mem_cons.1 hk).elim (fun e => by rw [e]; simp) (fun e => by have := M6.out.lst.lt k (M6.out.lst.sup k e); simp only [World.size_alloc]; omega)))
            have HC7 := Lib.hid (up_C up_kNd (hole_more (H' := w6.heap.size :: (w.heap.size + 1) :: H) (Keep.of_below (H := []) h7) (fun k hk => (List.mem_cons.1 hk).elim (fun e => .inr (by omega)) .inl)) HC6.out)
            have K7 := Lib.hid (M6.out.keep.trans (Keep.of_below (H := [cb]) h7))
            have hbF := M6.out.keep.size
            have hz7 : w6.heap.size < (w6.alloc (.cells #[.int .i64 0, .string ⟨#[]⟩, .string ⟨#[]⟩, .int .i64 0, .slice none 0 0] 122)).heap.size := by simp
            obtain ⟨w7, hw7⟩ : ∃ w7, w7 = (w6.alloc (.cells #[.int .i64 0, .string ⟨#[]⟩, .string ⟨#[]⟩, .int .i64 0, .slice none 0 0] 122)) := ⟨_, rfl⟩
            rw [← hw7] at S7 M7 HC7 K7 HZ7 hz7 ⊢
            clear h7 S6 hw7
            refine ordT_one 3 (by kernel_rfl) rfl ?_
            go_wp2_with fail
            have M8 := Lib.hid (M7.out.lit2X (X := #[.int .i64 r1.1.kind, .string r1.1.gap, .string r1.1.text, .int .i64 r1.1.pos, .slice none r1.1.kids.length 0, .int .i64 r2.1.kind, .string r2.1.gap, .string r2.1.text, .int .i64 r2.1.pos, .slice A6 r2.1.kids.length c6]) (n1 := r1.1) (A1 := none) (c1 := 0) (by rw [HK4.out]; exact Nat.le_refl _) (leaf_C _ _ HK4.out) hl6 HC7.out (by simp [aNd]))
            have S8 := held6 (Keep.of_below (H := [cb]) ((Below.refl _ w7).alloc (Nat.le_refl _) (.cells #[.int .i64 r1.1.kind, .string r1.1.gap, .string r1.1.text, .int .i64 r1.1.pos, .slice none r1.1.kids.length 0, .int .i64 r2.1.kind, .string r2.1.gap, .string r2.1.text, .int .i64 r2.1.pos, .slice A6 r2.1.kids.length c6] 122))) (by omega) (by omega) S7
            first | refine ⟨S8, ?_⟩ | refine ⟨S8.2, ?_⟩ | skip
            clear S7
            obtain ⟨hq, hl8, hC8⟩ := M8.out.reads (fun k hk => M7.out.lst.lt k hk)
            have HC8 := Lib.hid hC8
            clear hC8 hq
            refine ordT_one 4 (by kernel_rfl) rfl ?_
            go_wp2_with fail
            refine (Make_calls 21 (w6.heap.size :: (w.heap.size + 1) :: H) (fun k hk => M8.out.lst.lt k (M8.out.lst.sup k hk)) HC8.out (by simp)).mono ?_
            rintro e w9 ⟨A9, c9, rfl, hl9, hC9, h9⟩
            have M9 := Lib.hid (M8.out.calm h9)
            have HYF := Lib.hid ((M9.out.box (b := w6.heap.size) (by omega) hz7).trans HZ7.out)
            have S9 := held6 (Keep.of_below (H := [cb]) h9) (by omega) (by omega) S8
            have HCF := Lib.hid hC9
            have RF := Lib.hid M9.out.rd
            have KF := Lib.hid (K7.out.trans M9.out.keep)
            clear h9 hC9 S8
            go_wp2_with fail
            clear S9
            refine ordT_rest (by kernel_rfl) ?_
            simp only [pickOps, List.getElem?_cons_succ, List.getElem?_cons_zero]
            obtain ⟨⟨b0, b1, b2, b3, b4⟩, f0, f1, f2, f3, f4⟩ := (Box5.mk HYF.out).all
            go_wp2_with fail
            go_meet
            exact ⟨_, _, _, rfl, BoxNd.of (q := mk 21 [r1.1, r2.1]) HYF.out hbF M1.out.lt hl9 HCF.out RF.out KF.out⟩
        · go_wp2_with fail
          have h7 : Below w5.heap.size w5 (w5.alloc (.cells #[.int .i64 0, .string ⟨#[]⟩, .string ⟨#[]⟩, .int .i64 0, .slice none 0 0] 122)) := (Below.refl _ _).alloc (Nat.le_refl _) _
          have HZ7 := Lib.hid (World.alloc_heap_new w5 (.cells #[.int .i64 0, .string ⟨#[]⟩, .string ⟨#[]⟩, .int .i64 0, .slice none 0 0] 122))
          have S7 := held6 (Keep.of_below (H := [cb]) h7) (by omega) (by omega) S5
          first | refine ⟨S7, ?_⟩ | refine ⟨S7.2, ?_⟩ | skip
          have M7 := Lib.hid (Mid.start (H := w5.heap.size :: (w.heap.size + 1) :: H) (M5.out.rd.below h7) (List.mem_cons_of_mem _ M5.out.mem) (fun k hk => (List.mem_cons.1 hk).elim (fun e => by rw [e]; simp) (fun e => by have := M5.out.lst.lt k (M5.out.lst.sup k e); simp only [World.size_alloc]; omega)))
          have K7 := Lib.hid (M5.out.keep.trans (Keep.of_below (H := [cb]) h7))
          have hbF := M5.out.keep.size
          have hz7 : w5.heap.size < (w5.alloc (.cells #[.int .i64 0, .string ⟨#[]⟩, .string ⟨#[]⟩, .int .i64 0, .slice none 0 0] 122)).heap.size := by simp
          obtain ⟨w7, hw7⟩ : ∃ w7, w7 = (w5.alloc (.cells #[.int .i64 0, .string ⟨#[]⟩, .string ⟨#[]⟩, .int .i64 0, .slice none 0 0] 122)) := ⟨_, rfl⟩
          rw [← hw7] at S7 M7 K7 HZ7 hz7 ⊢
          clear h7 S5 hw7
          refine ordT_one 2 (by kernel_rfl) rfl ?_
          go_wp2_with fail
          refine (HF.out _ _ _ M7.out.rd hu1 M7.out.good).mono ?_
          rw [← HR2.out]
          rintro e w6 ⟨⟨A6, c6, rfl, hl6, hC6⟩, R6, k6⟩
          have M6 := Lib.hid (M7.out.call R6 k6)
          have HC6 := Lib.hid hC6
          have S6 := held6 k6 (by omega) (by omega) S7
          have hz6 := k6.size
          clear R6 k6 hC6 S7
          go_wp2_with fail
          refine ordT_one 3 (by kernel_rfl) rfl ?_
          go_wp2_with fail
          have M8 := Lib.hid (M6.out.lit2X (X := #[.int .i64 r1.1.kind, .string r1.1.gap, .string r1.1.text, .int .i64 r1.1.pos, .slice none r1.1.kids.length 0, .int .i64 r2.1.kind, .string r2.1.gap, .string r2.1.text, .int .i64 r2.1.pos, .slice A6 r2.1.kids.length c6]) (n1 := r1.1) (A1 := none) (c1 := 0) (by rw [HK4.out]; exact Nat.le_refl _) (leaf_C _ _ HK4.out) hl6 HC6.out (by simp [aNd]))
          have S8 := held6 (Keep.of_below (H := [cb]) ((Below.refl _ w6).alloc (Nat.le_refl _) (.cells #[.int .i64 r1.1.kind, .string r1.1.gap, .string r1.1.text, .int .i64 r1.1.pos, .slice none r1.1.kids.length 0, .int .i64 r2.1.kind, .string r2.1.gap, .string r2.1.text, .int .i64 r2.1.pos, .slice A6 r2.1.kids.length c6] 122))) (by omega) (by omega) S6
          first | refine ⟨S8, ?_⟩ | refine ⟨S8.2, ?_⟩ | skip
          clear S6
          obtain ⟨hq, hl8, hC8⟩ := M8.out.reads (fun k hk => M7.out.lst.lt k hk)
          have HC8 := Lib.hid hC8
          clear hC8 hq
          refine ordT_one 4 (by kernel_rfl) rfl ?_
          go_wp2_with fail
          refine (Make_calls 21 (w5.heap.size :: (w.heap.size + 1) :: H) (fun k hk => M8.out.lst.lt k (M8.out.lst.sup k hk)) HC8.out (by simp)).mono ?_
          rintro e w9 ⟨A9, c9, rfl, hl9, hC9, h9⟩
          have M9 := Lib.hid (M8.out.calm h9)
          have HYF := Lib.hid ((M9.out.box (b := w5.heap.size) (by omega) hz7).trans HZ7.out)
          have S9 := held6 (Keep.of_below (H := [cb]) h9) (by omega) (by omega) S8
          have HCF := Lib.hid hC9
          have RF := Lib.hid M9.out.rd
          have KF := Lib.hid (K7.out.trans M9.out.keep)
          clear h9 hC9 S8
          go_wp2_with fail
          clear S9
          refine ordT_rest (by kernel_rfl) ?_
          simp only [pickOps, List.getElem?_cons_succ, List.getElem?_cons_zero]
          obtain ⟨⟨b0, b1, b2, b3, b4⟩, f0, f1, f2, f3, f4⟩ := (Box5.mk HYF.out).all
          go_wp2_with fail
          go_meet
          exact ⟨_, _, _, rfl, BoxNd.of (q := mk 21 [r1.1, r2.1]) HYF.out hbF M1.out.lt hl9 HCF.out RF.out KF.out⟩
      case rest =>
        obtain ⟨b, A9, c9, rfl, HBX⟩ := hcut
        obtain ⟨hbx, hbb, hl9, hC9, R9, k9⟩ := HBX.out
        clear n0 n1 n2 n3 n4 g0 g1 g2 g3 g4 S5 HZ5
        have HX9 := Lib.hid ((k9.block w.heap.size (by omega) (by simp; omega)).trans HX.out)
        have HB9 := Lib.hid hbx
        have HR9 := Lib.hid R9
        have HK9 := Lib.hid k9
        have HC9 := Lib.hid hC9
        have x9 := (cell_blk HX9.out 0).trans rfl
        clear R9 k9 hC9 hbx
        go_wp2_with fail
        refine (Up_calls HR9.out).mono ?_
        rintro e w10 ⟨rfl, R10, k10⟩
        have hz9 := HK9.out.size
        have hbz := (Array.getElem?_eq_some_iff.1 HB9.out).1
        obtain ⟨⟨n0, n1, n2, n3, n4⟩, g0, g1, g2, g3, g4⟩ := (Box5.mk ((k10.block b hbz (by simp; omega)).trans HB9.out)).all
        clear g0 g1 g2 g3 g4 x9
        have HK10 := Lib.hid (HK9.out.trans k10)
        have hy10 := (HK10.out.block (w.heap.size + 1) (by omega) (by simp; omega)).trans HY.out
        obtain ⟨⟨b0, b1, b2, b3, b4⟩, f0, f1, f2, f3, f4⟩ := (Box5.mk hy10).all
        have HY10 := Lib.hid hy10
        have HR10 := Lib.hid R10
        have HC10 := Lib.hid (up_C up_kNd (k10.sub (H2 := (w.heap.size + 1) :: H) (fun k hk => by rw [List.mem_singleton.1 hk]; exact M1.out.mem)) HC9.out)
        clear hy10 R10 k10
        go_wp2_with fail
        exact nd_end (n := mk 21 [r1.1, r2.1]) (A' := A9) (c' := c9) Tryz.results221 rfl HY10.out hl9 HC10.out (Nat.le_succ _) hcb HR10.out HQ.out (HA.out.trans HK10.out)
end
end Go.Proofs.YtbfkkepdeepdeaaGreatDoor
end
section
namespace Go.Proofs.YtbfkkepdeepdeaaGreatDoor
open Go Go.RowKit Go.Proofs.YtbfkkepdeepdeaaGreatDoorW.PrintWords Go.Proofs.YtbfkkepdeepdeaaGreatDoorW.PrintLast Go.Proofs.YtbfkkepdeepdeaaGreatDoorW.PrintMore
set_option linter.unusedVariables false
set_option linter.unusedSimpArgs false
set_option maxRecDepth 100000
section
variable {w w1 W W' : World} {cb : Nat} {s : ByteArray} {A : Option Addr} {c : Nat} {L : List Tok} {u u' : Cu} {H H' H2 : List Nat} {v v' : Value} {l l' : List Nd}
theorem binLoop_end {lvl : Nat} {sub : Cu → Nd × Cu} {f : Nat} {n : Nd} {c : Cu} (h : ¬ (opKind lvl (peek s L c 0).2 ≠ 0 ∧ isB s L c 0 (peek s L c 0).2 = true)) : binLoop s L lvl sub f n c = (n, c) := by
  cases f with
  | zero => rfl
  | succ f => unfold binLoop; rw [if_neg h]
set_option maxHeartbeats 1000000 in
theorem at4_calls {fac : Cu → Nd × Cu} (hF : ∀ W H2, RdP W cb s A c L u → Good H2 cb W → Calls Tryz.prog 221 #[rdV cb] W (NdRes W cb s A c L H2 (fac u))) (R : RdP w cb s A c L u) (G : Good H cb w) :
    Calls Tryz.prog 189 #[rdV cb, .int .i64 4] w (NdRes w cb s A c L H (fac u)) := by
  have hcb := R.lt
  obtain ⟨w1, hw1⟩ : ∃ w1, w1 = (w.alloc (.cells #[.pointer (some ⟨cb, 0, none⟩)] 300)).alloc (.cells (aNd zN none 0) 122) := ⟨_, rfl⟩
  have hA1 : Below w.heap.size w w1 := by rw [hw1]; exact ((Below.refl _ _).alloc (Nat.le_refl _) _).alloc (by simp) _
  have hz1 : w1.heap.size = w.heap.size + 2 := by rw [hw1]; simp
  have hy : w1.heap[w.heap.size + 1]? = some (.cells (aNd zN none 0) 122 (0, 0)) := by
    rw [hw1]; have := World.alloc_heap_new (w.alloc (.cells #[.pointer (some ⟨cb, 0, none⟩)] 300)) (.cells (aNd zN none 0) 122); simpa using this
  have HY := Lib.hid hy
  have HA := Lib.hid (Keep.of_below (H := [cb]) hA1)
  have M1 := Lib.hid (Mid.start (H := (w.heap.size + 1) :: H) (R.below hA1) (List.mem_cons_of_mem _ G.cb) (fun k hk => by
    rcases List.mem_cons.1 hk with e | e
    · omega
    · have := G.all k e; omega))
  have HF := Lib.hid hF
  clear R hA1 G hy hF
  go_enter Tryz.func189, Tryz.ntmps189
  go_wp2_with fail
  have Rz := M1.out.rd
  have Gz := M1.out.good
  rw [hw1] at Rz Gz
  refine (HF.out _ _ Rz Gz).mono ?_
  rintro e w10 ⟨⟨A10, c10, rfl, hl10, hC10⟩, R10, k10⟩
  rw [← hw1] at k10
  have M10 := Lib.hid (M1.out.call R10 k10)
  clear R10 k10 Rz Gz hw1
  have hy10 := (M10.out.box (b := w.heap.size + 1) (by omega) (by omega)).trans HY.out
  obtain ⟨⟨b0, b1, b2, b3, b4⟩, f0, f1, f2, f3, f4⟩ := (Box5.mk hy10).all
  have HY10 := Lib.hid hy10
  have HC10 := Lib.hid hC10
  clear hy10 hC10
  go_wp2_with fail
  exact nd_end Tryz.results189 rfl HY10.out hl10 HC10.out (Nat.le_succ _) hcb M10.out.rd rfl (HA.out.trans M10.out.keep)
set_option maxHeartbeats 1000000 in
theorem at_calls (lvl : Nat) (hl : lvl ≤ 3) {sub : Cu → Nd × Cu} (hS : ∀ W u2 H2, RdP W cb s A c L u2 → u2.deep = u.deep → Good H2 cb W → Calls Tryz.prog 189 #[rdV cb, .int .i64 ((lvl : Int) + 1)] W (NdRes W cb s A c L H2 (sub u2))) (hA : ∀ u, Adv L u (sub u).2) (R : RdP w cb s A c L u) (G : Good H cb w) :
    Calls Tryz.prog 189 #[rdV cb, .int .i64 lvl] w (NdRes w cb s A c L H (bin s L lvl sub u)) := by
  have hcb := R.lt
  obtain ⟨w1, hw1⟩ : ∃ w1, w1 = (w.alloc (.cells #[.pointer (some ⟨cb, 0, none⟩)] 300)).alloc (.cells (aNd zN none 0) 122) := ⟨_, rfl⟩
  have hA1 : Below w.heap.size w w1 := by rw [hw1]; exact ((Below.refl _ _).alloc (Nat.le_refl _) _).alloc (by simp) _
  have hz1 : w1.heap.size = w.heap.size + 2 := by rw [hw1]; simp
  have hx : w1.heap[w.heap.size]? = some (.cells #[.pointer (some ⟨cb, 0, none⟩)] 300 (0, 0)) := by
    rw [hw1]; exact (Below.heap_alloc _ _ _ (by simp)).trans (World.alloc_heap_new w _)
  have hy : w1.heap[w.heap.size + 1]? = some (.cells (aNd zN none 0) 122 (0, 0)) := by
    rw [hw1]; have := World.alloc_heap_new (w.alloc (.cells #[.pointer (some ⟨cb, 0, none⟩)] 300)) (.cells (aNd zN none 0) 122); simpa using this
  have HX := Lib.hid hx
  have HY := Lib.hid hy
  have HA := Lib.hid (Keep.of_below (H := [cb]) hA1)
  have M1 := Lib.hid (Mid.start (H := (w.heap.size + 1) :: H) (R.below hA1) (List.mem_cons_of_mem _ G.cb) (fun k hk => by
    rcases List.mem_cons.1 hk with e | e
    · omega
    · have := G.all k e; omega))
  have HS := Lib.hid hS
  have HAD := Lib.hid hA
  have HG := Lib.hid G
  clear R hA1 G hx hy hS hA
  have hl4 : (lvl : Int) ≠ 4 := by omega
  have hl5 : (lvl : Int) + 1 ≤ 4 := by omega
  have hl6 : 0 ≤ (lvl : Int) := by omega
  go_enter Tryz.func189, Tryz.ntmps189
  go_wp2_with fail
  have Rz := M1.out.rd
  have Gz := M1.out.good
  rw [hw1] at Rz Gz
  refine (HS.out _ _ _ Rz rfl Gz).mono ?_
  obtain ⟨r0, hr0⟩ : ∃ r0, r0 = sub u := ⟨_, rfl⟩
  rw [← hr0]
  have HR0 := Lib.hid hr0
  clear hr0
  rintro e w2 ⟨⟨A2, c2, rfl, hl2, hC2⟩, R2, k2⟩
  rw [← hw1] at k2
  have M2 := Lib.hid (M1.out.call R2 k2)
  have HC2 := Lib.hid hC2
  clear R2 k2 Rz Gz hw1 hC2
  go_wp2_with fail
  have hb2 : Below w2.heap.size w2 (w2.alloc (.cells #[.int .i64 r0.1.kind, .string r0.1.gap, .string r0.1.text, .int .i64 r0.1.pos, .slice A2 r0.1.kids.length c2] 122)) := (Below.refl _ _).alloc (Nat.le_refl _) _
  have hx3 := (hb2.block w.heap.size (by have := M2.out.keep.size; omega)).trans ((M2.out.box (b := w.heap.size) (by omega) (by omega)).trans HX.out)
  have hy3 := (hb2.block (w.heap.size + 1) (by have := M2.out.keep.size; omega)).trans ((M2.out.box (b := w.heap.size + 1) (by omega) (by omega)).trans HY.out)
  have hd0 : r0.2.deep = u.deep := by rw [HR0.out]; exact (HAD.out u).deep
  have hz2 := M2.out.keep.size
  have B1 : Beh w cb s A c L H u.deep r0.1 r0.2 A2 c2 w2.heap.size (w.heap.size + 1) (w2.alloc (.cells #[.int .i64 r0.1.kind, .string r0.1.gap, .string r0.1.text, .int .i64 r0.1.pos, .slice A2 r0.1.kids.length c2] 122)) :=
    ⟨hd0, M2.out.rd.below hb2, (HA.out.trans M2.out.keep).trans (Keep.of_below hb2), hx3, World.alloc_heap_new _ _, hy3, hl2, up_C up_kNd (hole_more (H := (w.heap.size + 1) :: H) (Keep.of_below (H := []) hb2) (fun k hk => (List.mem_cons.1 hk).elim (fun e => .inr (by omega)) .inl)) HC2.out⟩
  have h0 : left L r0.2 ≤ L.length + 1 := by unfold left; split <;> omega
  have hQ0 : bin s L lvl sub u = binLoop s L lvl sub (L.length + 1) r0.1 r0.2 := by rw [HR0.out]; rfl
  have HQ0 := Lib.hid hQ0
  obtain ⟨w3, hw3⟩ : ∃ w3, w3 = w2.alloc (.cells #[.int .i64 r0.1.kind, .string r0.1.gap, .string r0.1.text, .int .i64 r0.1.pos, .slice A2 r0.1.kids.length c2] 122) := ⟨_, rfl⟩
  rw [← hw3] at B1 ⊢
  clear hb2 hx3 hy3 hw3 hQ0 hl2 hd0
  go_loopw [] (fun wr => ∃ (f : Nat) (n : Nd) (u2 : Cu) (An : Option Addr) (cn : Nat), left L u2 ≤ f ∧ Hid (bin s L lvl sub u = binLoop s L lvl sub f n u2) ∧ Beh w cb s A c L H u.deep n u2 An cn w2.heap.size (w.heap.size + 1) wr) (fun wr => leftW cb L.length wr)
  case atStart => exact ⟨L.length + 1, r0.1, r0.2, A2, c2, h0, HQ0, B1⟩
  case round =>
    clear B1 h0
    obtain ⟨f, n, u2, An, cn, hf, hq, B⟩ := hrel
    have HM := Lib.hid (B.mid HG.out)
    have x0 := (cell_blk B.xb 0).trans rfl
    have hwz : w2.heap.size < wr.heap.size := (Array.getElem?_eq_some_iff.1 B.nbx).1
    obtain ⟨p, hp⟩ : ∃ p, p = peek s L u2 0 := ⟨_, rfl⟩
    have HP := Lib.hid hp
    clear hp
    go_wp2_with fail
    refine (Peek_calls B.rd 0 (by decide)).mono ?_
    rw [← HP.out]
    rintro e w4 ⟨rfl, h4⟩
    have M4 := Lib.hid (HM.out.calm h4)
    clear x0 h4
    have HX4 := Lib.hid ((M4.out.box (b := w.heap.size) (by omega) (by omega)).trans B.xb)
    have x0 := (cell_blk HX4.out 0).trans rfl
    go_wp2_with fail
    refine (sign_calls _ lvl hl p.2).mono ?_
    rintro e w5 ⟨rfl, h5⟩
    have M5 := Lib.hid (M4.out.calm h5)
    clear x0 h5
    have HX5 := Lib.hid ((M5.out.box (b := w.heap.size) (by omega) (by omega)).trans B.xb)
    have x0 := (cell_blk HX5.out 0).trans rfl
    obtain ⟨kk, hkk⟩ : ∃ kk, kk = opKind lvl p.2 := ⟨_, rfl⟩
    rw [← hkk]
    have HKK := Lib.hid hkk
    clear hkk
    cases hz : decide (kk ≠ 0) with
    | false =>
      have HE := Lib.hid (show bin s L lvl sub u = (n, u2) by rw [hq.out, binLoop_end (by rw [← HP.out, ← HKK.out]; exact fun h => by simp at hz; exact h.1 hz)])
      clear hq hz
      obtain ⟨⟨n0, n1, n2, n3, n4⟩, g0, g1, g2, g3, g4⟩ := (Box5.mk ((M5.out.box (b := w2.heap.size) (by omega) (by omega)).trans B.nbx)).all
      clear g0 g1 g2 g3 g4
      have hy5 := (M5.out.box (b := w.heap.size + 1) (by omega) (by omega)).trans B.rbx
      obtain ⟨⟨b0, b1, b2, b3, b4⟩, f0, f1, f2, f3, f4⟩ := (Box5.mk hy5).all
      have HY5 := Lib.hid hy5
      have HC5 := Lib.hid (up_C up_kNd (hole_less (H' := (w.heap.size + 1) :: H) w5 (fun k hk => List.mem_cons_of_mem _ hk)) (up_C up_kNd (M5.out.keep.sub (H2 := w2.heap.size :: (w.heap.size + 1) :: H) (fun k hk => by rw [List.mem_singleton.1 hk]; exact M5.out.mem)) B.kids))
      clear hy5
      go_wp2_with fail
      exact nd_end (n := n) (A' := An) (c' := cn) (u := u2) (b := w.heap.size + 1) Tryz.results189 rfl HY5.out B.len HC5.out (Nat.le_succ _) hcb M5.out.rd HE.out (B.keep.trans M5.out.keep)
    | true =>
      have hk0 : kk ≠ 0 := by simpa using hz
      have HK0 := Lib.hid hk0
      clear hz hk0
      cases hb : isB s L u2 0 p.2 with
      | false =>
        have HE := Lib.hid (show bin s L lvl sub u = (n, u2) by rw [hq.out, binLoop_end (by rw [← HP.out]; exact fun h => by rw [hb] at h; cases h.2)])
        have HB := Lib.hid hb
        clear hb hq
        go_wp2_with fail
        refine (Is_calls M5.out.rd 0 (by decide) p.2).mono ?_
        rw [HB.out]
        rintro e w6 ⟨rfl, h6⟩
        have M6 := Lib.hid (M5.out.calm h6)
        clear x0 h6
        obtain ⟨⟨n0, n1, n2, n3, n4⟩, g0, g1, g2, g3, g4⟩ := (Box5.mk ((M6.out.box (b := w2.heap.size) (by omega) (by omega)).trans B.nbx)).all
        clear g0 g1 g2 g3 g4
        have hy5 := (M6.out.box (b := w.heap.size + 1) (by omega) (by omega)).trans B.rbx
        obtain ⟨⟨b0, b1, b2, b3, b4⟩, f0, f1, f2, f3, f4⟩ := (Box5.mk hy5).all
        have HY5 := Lib.hid hy5
        have HC5 := Lib.hid (up_C up_kNd (hole_less (H' := (w.heap.size + 1) :: H) w6 (fun k hk => List.mem_cons_of_mem _ hk)) (up_C up_kNd (M6.out.keep.sub (H2 := w2.heap.size :: (w.heap.size + 1) :: H) (fun k hk => by rw [List.mem_singleton.1 hk]; exact M6.out.mem)) B.kids))
        clear hy5
        go_wp2_with fail
        exact nd_end (n := n) (A' := An) (c' := cn) (u := u2) (b := w.heap.size + 1) Tryz.results189 rfl HY5.out B.len HC5.out (Nat.le_succ _) hcb M6.out.rd HE.out (B.keep.trans M6.out.keep)
      | true =>
        have hwl := want_left hb
        have hal := (HAD.out (want s L u2 p.2).2).leftLe
        have hpos : 0 < f := by omega
        obtain ⟨g, rfl⟩ : ∃ g, f = g + 1 := ⟨f - 1, by omega⟩
        have HQ := Lib.hid (show bin s L lvl sub u = binLoop s L lvl sub g (mk kk [n, (want s L u2 p.2).1, (sub (want s L u2 p.2).2).1]) (sub (want s L u2 p.2).2).2 by
          rw [hq.out]; conv => lhs; unfold binLoop
          rw [← HP.out, ← HKK.out, if_pos ⟨HK0.out, hb⟩])
        have hd1 := (want_adv (s := s) (L := L) u2 p.2).deep.trans B.deep
        have hd2 := (HAD.out (want s L u2 p.2).2).deep.trans hd1
        obtain ⟨r1, hr1⟩ : ∃ r1, r1 = want s L u2 p.2 := ⟨_, rfl⟩
        rw [← hr1] at hwl hal HQ hd1 hd2
        obtain ⟨r2, hr2⟩ : ∃ r2, r2 = sub r1.2 := ⟨_, rfl⟩
        rw [← hr2] at hal HQ hd2
        have HR1 := Lib.hid hr1
        have HR2 := Lib.hid hr2
        have HB := Lib.hid hb
        clear hb hr1 hr2 hq
        go_wp2_with fail
        refine (Is_calls M5.out.rd 0 (by decide) p.2).mono ?_
        rw [HB.out]
        rintro e w6 ⟨rfl, h6⟩
        have M6 := Lib.hid (M5.out.calm h6)
        clear x0 h6
        have HX6 := Lib.hid ((M6.out.box (b := w.heap.size) (by omega) (by omega)).trans B.xb)
        have x0 := (cell_blk HX6.out 0).trans rfl
        go_wp2_with fail
        refine (Want_calls M6.out.rd p.2).mono ?_
        rw [← HR1.out]
        rintro e w7 ⟨rfl, hk7, R7, k7⟩
        have M7 := Lib.hid (M6.out.call R7 k7)
        have HK7 := Lib.hid hk7
        clear R7 k7 hk7 x0
        go_upto_region 9 with (fail)
        have hz7 := M7.out.keep.size
        have h8 : Below w7.heap.size w7 (w7.alloc (.cells #[.int .i64 r1.1.kind, .string r1.1.gap, .string r1.1.text, .int .i64 r1.1.pos, .slice none r1.1.kids.length 0] 122)).drew := ((Below.refl _ _).alloc (Nat.le_refl _) _).drew
        have M8 := Lib.hid (M7.out.calm h8)
        have hz8 := World.alloc_heap_new w7 (.cells #[.int .i64 r1.1.kind, .string r1.1.gap, .string r1.1.text, .int .i64 r1.1.pos, .slice none r1.1.kids.length 0] 122)
        have HZ8 := Lib.hid (show (w7.alloc (.cells #[.int .i64 r1.1.kind, .string r1.1.gap, .string r1.1.text, .int .i64 r1.1.pos, .slice none r1.1.kids.length 0] 122)).drew.heap[w7.heap.size]? = _ from hz8)
        have S8 : ((fun w' => (w'.cell? ⟨w2.heap.size, 0, none⟩ = some (.int .i64 n.kind) ∧ w'.cell? ⟨w2.heap.size, 1, none⟩ = some (.string n.gap) ∧ w'.cell? ⟨w2.heap.size, 2, none⟩ = some (.string n.text) ∧ w'.cell? ⟨w2.heap.size, 3, none⟩ = some (.int .i64 n.pos) ∧ w'.cell? ⟨w2.heap.size, 4, none⟩ = some (.slice An n.kids.length cn)) ∧ (w'.cell? ⟨w7.heap.size, 0, none⟩ = some (.int .i64 r1.1.kind) ∧ w'.cell? ⟨w7.heap.size, 1, none⟩ = some (.string r1.1.gap) ∧ w'.cell? ⟨w7.heap.size, 2, none⟩ = some (.string r1.1.text) ∧ w'.cell? ⟨w7.heap.size, 3, none⟩ = some (.int .i64 r1.1.pos) ∧ w'.cell? ⟨w7.heap.size, 4, none⟩ = some (.slice none r1.1.kids.length 0)) ∧ w'.cell? ⟨w.heap.size, 0, none⟩ = some (.pointer (some ⟨cb, 0, none⟩))) (w7.alloc (.cells #[.int .i64 r1.1.kind, .string r1.1.gap, .string r1.1.text, .int .i64 r1.1.pos, .slice none r1.1.kids.length 0] 122)).drew) := ⟨(Box5.mk ((M8.out.box (b := w2.heap.size) (by omega) (by omega)).trans B.nbx)).all.1, (Box5.mk HZ8.out).all.1, (cell_blk ((M8.out.box (b := w.heap.size) (by omega) (by omega)).trans B.xb) 0).trans rfl⟩
        obtain ⟨w8, hw8⟩ : ∃ w8, w8 = (w7.alloc (.cells #[.int .i64 r1.1.kind, .string r1.1.gap, .string r1.1.text, .int .i64 r1.1.pos, .slice none r1.1.kids.length 0] 122)).drew := ⟨_, rfl⟩
        refine wp_region_ord (fun w' => (w'.cell? ⟨w2.heap.size, 0, none⟩ = some (.int .i64 n.kind) ∧ w'.cell? ⟨w2.heap.size, 1, none⟩ = some (.string n.gap) ∧ w'.cell? ⟨w2.heap.size, 2, none⟩ = some (.string n.text) ∧ w'.cell? ⟨w2.heap.size, 3, none⟩ = some (.int .i64 n.pos) ∧ w'.cell? ⟨w2.heap.size, 4, none⟩ = some (.slice An n.kids.length cn)) ∧ (w'.cell? ⟨w7.heap.size, 0, none⟩ = some (.int .i64 r1.1.kind) ∧ w'.cell? ⟨w7.heap.size, 1, none⟩ = some (.string r1.1.gap) ∧ w'.cell? ⟨w7.heap.size, 2, none⟩ = some (.string r1.1.text) ∧ w'.cell? ⟨w7.heap.size, 3, none⟩ = some (.int .i64 r1.1.pos) ∧ w'.cell? ⟨w7.heap.size, 4, none⟩ = some (.slice none r1.1.kids.length 0)) ∧ w'.cell? ⟨w.heap.size, 0, none⟩ = some (.pointer (some ⟨cb, 0, none⟩))) [(0, true), (1, false), (2, false), (3, false), (4, true), (5, true)] [6] [7, 8, 9] (by kernel_rfl) (by kernel_rfl) (fun _ _ _ _ h => h) S8 (fun K hK => ?_)
        rw [← hw8] at hK S8 M8 HZ8
        clear hw8 h8 hz8
        simp only [pickHead, List.getElem?_cons_succ, List.getElem?_cons_zero]
        repeat (first
          | (refine ordHead_pure rfl rfl ?_; apply Exists.intro; refine ⟨fun w' => ?_, ?_⟩; (go_simp; with_reducible rfl); apply Exists.intro; refine ⟨?_, ?_⟩; (simp only [Act.put, List.setIfInBounds_toArray, List.set_cons_zero, List.set_cons_succ]; rfl))
          | (refine ordHead_read rfl rfl ?_; apply Exists.intro; refine ⟨?_, ?_⟩; (rintro w' ⟨⟨z0, z1, z2, z3, z4⟩, ⟨z5, z6, z7, z8, z9⟩, z10⟩; go_simp; with_reducible rfl); apply Exists.intro; refine ⟨?_, ?_⟩; (simp only [Act.put, List.setIfInBounds_toArray, List.set_cons_zero, List.set_cons_succ]; rfl)))
        refine ordHead_nil (hK _ ?_)
        simp only [pickOps, ordTail, List.getElem?_cons_succ, List.getElem?_cons_zero]
        go_wp2_with fail
        refine (HS.out _ _ _ M8.out.rd hd1 M8.out.good).mono ?_
        rw [← HR2.out]
        rintro e w9 ⟨⟨A9, c9, rfl, hl9, hC9⟩, R9, k9⟩
        have M9 := Lib.hid (M8.out.call R9 k9)
        have HC9 := Lib.hid hC9
        have HCN := Lib.hid (up_C up_kNd (M9.out.keep.sub (H2 := w2.heap.size :: (w.heap.size + 1) :: H) (fun k hk => by rw [List.mem_singleton.1 hk]; exact M9.out.mem)) B.kids)
        have S9 := held11 k9 (by omega) (by omega) (by omega) S8
        clear R9 k9 hC9 S8
        go_wp2_with fail
        refine (make3_calls kk M9.out (fun k hk => HM.out.lst.lt k hk) B.len HCN.out (by rw [HK7.out]; exact Nat.le_refl _) (leaf_C _ _ HK7.out) (n2 := r1.1) (A2 := none) (c2 := 0) (n3 := r2.1) hl9 HC9.out (by simp [aNd])).mono ?_
        rintro e w10 ⟨A10, c10, q, hqq, rfl, hl10, hC10, M10, k10⟩
        have M10 := Lib.hid M10
        have hy10 := (M10.out.box (b := w2.heap.size) (by omega) (by omega)).trans B.nbx
        obtain ⟨⟨b0, b1, b2, b3, b4⟩, f0, f1, f2, f3, f4⟩ := (Box5.mk hy10).all
        have HC10 := Lib.hid hC10
        clear hy10 hC10 k10 S9
        go_wp2_with fail
        have BN := B.store hcb (by omega) (by omega) (by omega) hd2 M10.out.rd M10.out.keep (n' := q) hl10 HC10.out
        refine ⟨⟨g, q, r2.2, A10, c10, by omega, by rw [hqq.out]; exact HQ, BN⟩, ?_⟩
        rw [BN.rd.leftW, B.rd.leftW]; omega
end
end Go.Proofs.YtbfkkepdeepdeaaGreatDoor
end
section
namespace Go.Proofs.YtbfkkepdeepdeaaGreatDoor
open Go Go.RowKit Go.Proofs.YtbfkkepdeepdeaaGreatDoorW.PrintWords Go.Proofs.YtbfkkepdeepdeaaGreatDoorW.PrintLast Go.Proofs.YtbfkkepdeepdeaaGreatDoorW.PrintMore
set_option linter.unusedVariables false
set_option linter.unusedSimpArgs false
set_option maxRecDepth 100000
section
variable {w w1 W W' : World} {cb : Nat} {s : ByteArray} {A : Option Addr} {c : Nat} {L : List Tok} {u u' : Cu} {H H' H2 : List Nat} {v v' : Value} {l l' : List Nd}
def FacOK (cb : Nat) (s : ByteArray) (A : Option Addr) (c : Nat) (L : List Tok) (d : Nat) : Prop :=
  ∀ W u H, RdP W cb s A c L u → u.deep + d = 200 → Good H cb W → Calls Tryz.prog 221 #[rdV cb] W (NdRes W cb s A c L H (facD s L d u))
def ExpOK (cb : Nat) (s : ByteArray) (A : Option Addr) (c : Nat) (L : List Tok) (d : Nat) : Prop :=
  ∀ W u H, RdP W cb s A c L u → u.deep + d = 200 → Good H cb W → Calls Tryz.prog 189 #[rdV cb, .int .i64 0] W (NdRes W cb s A c L H (expD s L d u))
theorem exp_of_fac {d : Nat} (h : FacOK cb s A c L d) : ExpOK cb s A c L d := by
  intro W u H R hd G
  have hf := facD_adv (s := s) (L := L) d
  refine at_calls 0 (by decide) (fun W1 u1 H1 R1 e1 G1 => ?_) (bin_adv (bin_adv (bin_adv hf))) R G
  refine at_calls 1 (by decide) (fun W2 u2 H2 R2 e2 G2 => ?_) (bin_adv (bin_adv hf)) R1 G1
  refine at_calls 2 (by decide) (fun W3 u3 H3 R3 e3 G3 => ?_) (bin_adv hf) R2 G2
  refine at_calls 3 (by decide) (fun W4 u4 H4 R4 e4 G4 => ?_) hf R3 G3
  exact at4_calls (fun W5 H5 R5 G5 => h W5 u4 H5 R5 (by omega) G5) R4 G4
theorem fac_ok : ∀ d, FacOK cb s A c L d
  | 0 => fun W u H R hd G => by
    refine factor_calls (exp := fun c => (zN, c)) (fac := fun c => (zN, c)) (fun W2 u2 H2 R2 e2 G2 => ?_) (fun W2 u2 H2 R2 e2 G2 => ?_) (fun c => Adv.refl c) R G
    · have := R2.deep; omega
    · have := R2.deep; omega
  | d + 1 => fun W u H R hd G =>
    factor_calls (fun W2 u2 H2 R2 e2 G2 => exp_of_fac (fac_ok d) W2 u2 H2 R2 (by omega) G2) (fun W2 u2 H2 R2 e2 G2 => fac_ok d W2 u2 H2 R2 (by omega) G2) (fun c => expOf_adv (facD_adv d) c) R G
set_option maxHeartbeats 1000000 in
theorem Parse_calls {d : Nat} (R : RdP w cb s A c L u) (hd : u.deep + d = 200) (G : Good H cb w) :
    Calls Tryz.prog 155 #[.pointer (some ⟨cb, 0, none⟩)] w (NdRes w cb s A c L H (exprD s L d u)) := by
  have hcb := R.lt
  obtain ⟨w1, hw1⟩ : ∃ w1, w1 = w.alloc (.cells (aNd zN none 0) 122) := ⟨_, rfl⟩
  have hA1 : Below w.heap.size w w1 := by rw [hw1]; exact (Below.refl _ _).alloc (Nat.le_refl _) _
  have hz1 : w1.heap.size = w.heap.size + 1 := by rw [hw1]; simp
  have hy : w1.heap[w.heap.size]? = some (.cells (aNd zN none 0) 122 (0, 0)) := by
    rw [hw1]; exact World.alloc_heap_new w _
  have HY := Lib.hid hy
  have HA := Lib.hid (Keep.of_below (H := [cb]) hA1)
  have M1 := Lib.hid (Mid.start (H := w.heap.size :: H) (R.below hA1) (List.mem_cons_of_mem _ G.cb) (fun k hk => by
    rcases List.mem_cons.1 hk with e | e
    · omega
    · have := G.all k e; omega))
  clear R hA1 G hy
  go_enter Tryz.func155, Tryz.ntmps155
  go_wp2_with fail
  have Rz := M1.out.rd
  have Gz := M1.out.good
  rw [hw1] at Rz Gz
  refine (exp_of_fac (fac_ok d) _ _ _ Rz hd Gz).mono ?_
  obtain ⟨r1, hr1⟩ : ∃ r1, r1 = expD s L d u := ⟨_, rfl⟩
  rw [← hr1]
  have HR1 := Lib.hid hr1
  clear hr1
  rintro e w2 ⟨⟨A2, c2, rfl, hl2, hC2⟩, R2, k2⟩
  rw [← hw1] at k2
  have M2 := Lib.hid (M1.out.call R2 k2)
  have HC2 := Lib.hid hC2
  clear R2 k2 Rz Gz hw1 hC2
  go_wp2_with fail
  have h3 : Below w2.heap.size w2 (w2.alloc (.cells #[.int .i64 r1.1.kind, .string r1.1.gap, .string r1.1.text, .int .i64 r1.1.pos, .slice A2 r1.1.kids.length c2] 122)) := (Below.refl _ _).alloc (Nat.le_refl _) _
  have M3 := Lib.hid (M2.out.calm h3)
  have HZ3 := Lib.hid (World.alloc_heap_new w2 (.cells #[.int .i64 r1.1.kind, .string r1.1.gap, .string r1.1.text, .int .i64 r1.1.pos, .slice A2 r1.1.kids.length c2] 122))
  have HC3 := Lib.hid (up_C up_kNd (hole_more (H' := w.heap.size :: H) (Keep.of_below (H := []) h3) (fun k hk => .inl hk)) HC2.out)
  clear h3
  refine (Failed_calls M3.out.rd).mono ?_
  rintro e w4 ⟨pp, rfl, -, h4⟩
  have M4 := Lib.hid (M3.out.calm h4)
  have hy4 := (M4.out.box (b := w.heap.size) (by omega) (by omega)).trans HY.out
  obtain ⟨⟨b0, b1, b2, b3, b4⟩, f0, f1, f2, f3, f4⟩ := (Box5.mk hy4).all
  have HY4 := Lib.hid hy4
  by_cases e0 : r1.2.err = 0
  · have HQ := Lib.hid (show exprD s L d u = (r1.1, r1.2) by unfold exprD; rw [← HR1.out, if_pos e0])
    rw [show errV r1.2.err = .nilIface by unfold errV; rw [if_pos e0]]
    obtain ⟨⟨n0, n1, n2, n3, n4⟩, g0, g1, g2, g3, g4⟩ := (Box5.mk ((h4.block w2.heap.size (by simp)).trans HZ3.out)).all
    have HC4 := Lib.hid (up_C up_kNd (hole_more (H' := w.heap.size :: H) (Keep.of_below (H := []) h4) (fun k hk => .inl hk)) HC3.out)
    clear hy4 h4 e0 g0 g1 g2 g3 g4
    go_wp2_with fail
    exact nd_end (n := r1.1) (A' := A2) (c' := c2) (u := r1.2) (b := w.heap.size) Tryz.results155 rfl HY4.out hl2 HC4.out (Nat.le_refl _) hcb M4.out.rd HQ.out (HA.out.trans M4.out.keep)
  · have HQ := Lib.hid (show exprD s L d u = (zN, r1.2) by unfold exprD; rw [← HR1.out, if_neg e0])
    rw [show errV r1.2.err = .iface 77 (.int .i64 r1.2.err) by unfold errV; rw [if_neg e0]]
    have hC4 : kNd.C (hole (w.heap.size :: H) w4) none zN.kids.length zN.kids := leaf_C _ _ rfl
    have HC4 := Lib.hid hC4
    clear hy4 h4 e0 hC4
    go_wp2_with fail
    exact nd_end (n := zN) (A' := none) (c' := 0) (u := r1.2) (b := w.heap.size) (a0 := .int .i64 0) (a1 := .string ⟨#[]⟩) (a2 := .string ⟨#[]⟩) (a3 := .int .i64 0) (a4 := .slice none 0 0) Tryz.results155 rfl HY4.out (Nat.le_refl _) HC4.out (Nat.le_refl _) hcb M4.out.rd HQ.out (HA.out.trans M4.out.keep)
end
end Go.Proofs.YtbfkkepdeepdeaaGreatDoor
end
section
namespace Go.Proofs.YtbfkkepdeepdeaaGreatDoor
open Go Go.RowKit Go.Proofs.YtbfkkepdeepdeaaGreatDoorW.PrintWords Go.Proofs.YtbfkkepdeepdeaaGreatDoorW.PrintLast Go.Proofs.YtbfkkepdeepdeaaGreatDoorW.PrintMore
set_option linter.unusedVariables false
set_option linter.unusedSimpArgs false
section
variable {P : Program} {Q : Exit → Act → World → Prop} {S : World → Prop} {ds : List Nat}
theorem one_mono {ops : Array Oper} {K1 K2 : Act → World → Prop} {o : Oper} {a : Act} {w : World} (hk : ∀ a w, K1 a w → K2 a w)
    (hw : wpList P ops (fun e a' w' => match e with | .normal => K1 a' w' | e => Q e a' w') [o] a w) : wpList P ops (fun e a' w' => match e with | .normal => K2 a' w' | e => Q e a' w') [o] a w := by
  simp only [wpList] at hw ⊢
  split
  · rename_i hg
    rw [if_pos hg] at hw
    rcases hw with hw | ⟨hw, hw'⟩
    · refine .inl (Oper.wp_mono hk (wp_exit ?_ ?_ hw))
      · exact fun _ _ _ h => h
      · exact fun _ _ h => h
    · exact .inr ⟨hw, by obtain ⟨a', w', h''⟩ := hw'; exact ⟨a', w', h''⟩⟩
  · rename_i hg
    rw [if_neg hg] at hw
    exact hk _ _ hw
def ordG (P : Program) (md : Region.Mode) (l : List Oper) (Q : Exit → Act → World → Prop) (S : World → Prop) (ds : List Nat) (m : Nat) : Nat → Array Bool → Act → World → Prop
  | 0, listed, a, w => wpAnyLast P md l.toArray Q S ds m listed a w
  | n + 1, listed, a, w => Region.ready md l.toArray listed ≠ [] ∧ ∀ i ∈ Region.ready md l.toArray listed, ∃ o, l[i]? = some o ∧ wpList P l.toArray (fun e a' w' => match e with | .normal => (i ∉ ds → S w') ∧ ordG P md l Q S ds m n (listed.setIfInBounds i true) a' w' | e => Q e a' w') [o] a w
section
variable {md : Region.Mode} {l : List Oper} {m n : Nat} {listed : Array Bool} {a : Act} {w : World}
theorem ordG_one (i : Nat) {o : Oper} (h : Region.ready md l.toArray listed = [i]) (ho : l[i]? = some o)
    (hw : wpList P l.toArray (fun e a' w' => match e with | .normal => S w' ∧ ordG P md l Q S ds m n (listed.setIfInBounds i true) a' w' | e => Q e a' w') [o] a w) : ordG P md l Q S ds m (n + 1) listed a w :=
  ⟨by rw [h]; simp, fun j hj => by
    rw [h] at hj; rw [List.mem_singleton.1 hj]
    exact ⟨o, ho, one_mono (fun _ _ h' => ⟨fun _ => h'.1, h'.2⟩) hw⟩⟩
theorem ordG_two (i1 i2 : Nat) {o1 o2 : Oper} (h : Region.ready md l.toArray listed = [i1, i2]) (ho1 : l[i1]? = some o1) (ho2 : l[i2]? = some o2)
    (hw1 : wpList P l.toArray (fun e a' w' => match e with | .normal => S w' ∧ ordG P md l Q S ds m n (listed.setIfInBounds i1 true) a' w' | e => Q e a' w') [o1] a w)
    (hw2 : wpList P l.toArray (fun e a' w' => match e with | .normal => S w' ∧ ordG P md l Q S ds m n (listed.setIfInBounds i2 true) a' w' | e => Q e a' w') [o2] a w) : ordG P md l Q S ds m (n + 1) listed a w :=
  ⟨by rw [h]; simp, fun j hj => by
    rw [h] at hj
    rcases List.mem_cons.1 hj with e | e
    · rw [e]; exact ⟨o1, ho1, one_mono (fun _ _ h' => ⟨fun _ => h'.1, h'.2⟩) hw1⟩
    · rw [List.mem_singleton.1 e]; exact ⟨o2, ho2, one_mono (fun _ _ h' => ⟨fun _ => h'.1, h'.2⟩) hw2⟩⟩
theorem ordG_oneD (i : Nat) {o : Oper} (h : Region.ready md l.toArray listed = [i]) (hd : ds.contains i = true) (ho : l[i]? = some o)
    (hw : wpList P l.toArray (fun e a' w' => match e with | .normal => ordG P md l Q S ds m n (listed.setIfInBounds i true) a' w' | e => Q e a' w') [o] a w) : ordG P md l Q S ds m (n + 1) listed a w :=
  ⟨by rw [h]; simp, fun j hj => by
    rw [h] at hj; rw [List.mem_singleton.1 hj]
    exact ⟨o, ho, one_mono (fun _ _ h' => ⟨fun hn => absurd (by simpa using hd) hn, h'⟩) hw⟩⟩
theorem ordG_twoD (i1 i2 : Nat) {o1 o2 : Oper} (h : Region.ready md l.toArray listed = [i1, i2]) (hd1 : ds.contains i1 = true) (hd2 : ds.contains i2 = true) (ho1 : l[i1]? = some o1) (ho2 : l[i2]? = some o2)
    (hw1 : wpList P l.toArray (fun e a' w' => match e with | .normal => ordG P md l Q S ds m n (listed.setIfInBounds i1 true) a' w' | e => Q e a' w') [o1] a w)
    (hw2 : wpList P l.toArray (fun e a' w' => match e with | .normal => ordG P md l Q S ds m n (listed.setIfInBounds i2 true) a' w' | e => Q e a' w') [o2] a w) : ordG P md l Q S ds m (n + 1) listed a w :=
  ⟨by rw [h]; simp, fun j hj => by
    rw [h] at hj
    rcases List.mem_cons.1 hj with e | e
    · rw [e]; exact ⟨o1, ho1, one_mono (fun _ _ h' => ⟨fun hn => absurd (by simpa using hd1) hn, h'⟩) hw1⟩
    · rw [List.mem_singleton.1 e]; exact ⟨o2, ho2, one_mono (fun _ _ h' => ⟨fun hn => absurd (by simpa using hd2) hn, h'⟩) hw2⟩⟩
theorem ordG_end (hr : Region.ready md l.toArray listed = []) (h : wpList P l.toArray Q [] a w) : ordG P md l Q S ds 0 0 listed a w := ⟨hr, h⟩
theorem ordG_last : ∀ (n : Nat) (listed : Array Bool) (a : Act) (w : World), ordG P md l Q S ds m n listed a w → wpAnyLast P md l.toArray Q S ds (n + m) listed a w
  | 0, listed, a, w, h => by rw [Nat.zero_add]; exact h
  | n + 1, listed, a, w, h => by
    rw [show n + 1 + m = (n + m) + 1 by omega]
    refine ⟨fun h0 => absurd h0 h.1, fun i hi => ?_⟩
    obtain ⟨o, ho, hw⟩ := h.2 i hi
    have ho2 : l.toArray[i]? = some o := by simpa using ho
    unfold wpOp
    simp only [ho2]
    simp only [wpList] at hw
    split
    · rename_i hg
      rw [if_pos hg] at hw
      rcases hw with hw | ⟨hw, hw'⟩
      · refine .inl (Oper.wp_mono (fun a' w' h' => ⟨fun hn _ => h'.1 hn, ordG_last n _ _ _ h'.2⟩) (wp_exit ?_ ?_ hw))
        · exact fun _ _ _ h => h
        · exact fun _ _ h => h
      · exact .inr ⟨hw, by obtain ⟨a', w', h''⟩ := hw'; exact ⟨a', w', h''⟩⟩
    · rename_i hg
      rw [if_neg hg] at hw
      exact ⟨fun hn _ => hw.1 hn, ordG_last n _ _ _ hw.2⟩
theorem ordG_head {m2 n2 : Nat} (H : List (Nat × Bool)) (l' : Array Bool) (hs : Region.noSelect l.toArray = true) (hm : m = H.length + (n2 + m2)) (hh : headB md l.toArray ds H listed = some l') (hQ : ∀ c (a : Act) t w, Q (.panic c) { a with tmps := t } w → Q (.panic c) a w) (hS : S w)
    (h : ∀ K : Act → Prop, (∀ a', ordG P md l Q S ds m2 n2 l' a' w → K a') → ordHead P l.toArray S K (pickHead l H) a) : ordG P md l Q S ds m 0 listed a w := by
  subst hm
  exact ordHead1 hs hQ hS H _ _ a hh (fun a' ha' => ordG_last n2 _ _ _ ha') (h _ (fun a' ha' => ha'))
theorem wp_region_ordG {id : Nat} (S : World → Prop) (ds : List Nat) (H : List (Nat × Bool)) (n m : Nat) (listed : Array Bool) (hm : P.follows .mixedOrders = true) (hs : Region.noSelect l.toArray = true) (hz : l.toArray.size = H.length + (n + m))
    (hh : headB .any l.toArray ds H (Array.replicate l.toArray.size false) = some listed) (hQ : ∀ c (a : Act) t w, Q (.panic c) { a with tmps := t } w → Q (.panic c) a w) (hS : S w.drew)
    (h : ∀ K : Act → Prop, (∀ a', ordG P .any l Q S ds m n listed a' w.drew → K a') → ordHead P l.toArray S K (pickHead l H) a) : (Code.region id l.toArray true).wp P Q a w := by
  refine wp_region_last (S := S) (ds := ds) hm ?_
  rw [hz] at hh ⊢
  exact ordHead1 (w := w.drew) hs hQ hS H _ _ a hh (fun a' ha' => ordG_last n _ _ _ ha') (h _ (fun a' ha' => ha'))
end
end
theorem five_of {xs : List Value} (h : xs.length = 5) : ∃ a b c d e, xs = [a, b, c, d, e] := by
  match xs, h with
  | [a, b, c, d, e], _ => exact ⟨a, b, c, d, e, rfl⟩
theorem set_tail {xs : List Value} {o : Nat} (h : xs.length = o + 5) (a0 a1 a2 a3 a4 : Value) : ((((xs.set o a0).set (o + 1) a1).set (o + 2) a2).set (o + 3) a3).set (o + 4) a4 = xs.take o ++ [a0, a1, a2, a3, a4] := by
  obtain ⟨a, b, c, d, e, hd⟩ := five_of (xs := xs.drop o) (by simp [h])
  have hx : xs = xs.take o ++ [a, b, c, d, e] := by rw [← hd, List.take_append_drop]
  have hl : (xs.take o).length = o := by simp [h]
  generalize hp : xs.take o = p at *
  rw [hx]
  subst hl
  simp [List.set_append]
def put5 (W : World) (g o : Nat) (n : Nd) : World := ((((W.setCell ⟨g, o, none⟩ (.int .i64 n.kind)).setCell ⟨g, o + 1, none⟩ (.string n.gap)).setCell ⟨g, o + 2, none⟩ (.string n.text)).setCell ⟨g, o + 3, none⟩ (.int .i64 n.pos)).setCell ⟨g, o + 4, none⟩ (.slice none n.kids.length 0)
theorem put5_else {W : World} {g o k : Nat} {n : Nd} (h : k ≠ g) : (put5 W g o n).heap[k]? = W.heap[k]? := by
  unfold put5
  rw [Below.heap_setCell _ _ _ _ h, Below.heap_setCell _ _ _ _ h, Below.heap_setCell _ _ _ _ h, Below.heap_setCell _ _ _ _ h, Below.heap_setCell _ _ _ _ h]
section
variable {H H' : List Nat} {W : World} {base : Nat} {l : List Nd} {z n : Nd} {g k cap : Nat}
theorem Lst.putLast (h : Lst base H W H' (.slice (some ⟨g, 0, none⟩) k cap) (l ++ [z])) (hn : n.kids = []) : Lst base H (put5 W g (l.length * 5) n) H' (.slice (some ⟨g, 0, none⟩) k cap) (l ++ [n]) := by
  have hgm : g ∈ H' := h.own g rfl
  have hsz : (put5 W g (l.length * 5) n).heap.size = W.heap.size := by unfold put5; simp
  have hsub : Sub (hole H' W) (hole H' (put5 W g (l.length * 5) n)) := fun a v hc => by
    obtain ⟨n1, n2⟩ := hole_cell_iff.1 hc
    exact hole_cell_iff.2 ⟨n1, (World.cell?_of_block (a := a) (put5_else (fun e => n1 (by rw [e]; exact hgm)))).trans n2⟩
  obtain ⟨inner, ho, hr⟩ := h.row
  obtain ⟨hlen, hc⟩ := ho
  rcases hc with ⟨e, -⟩ | ⟨g2, cap2, cur, e, hb, hg, hle, hcm, hcs, htk⟩
  · cases e
  · simp only [Value.slice.injEq, Option.some.injEq, Addr.mk.injEq] at e
    obtain ⟨⟨rfl, -⟩, e2, rfl⟩ := e
    have hk : k = l.length + 1 := by simpa using e2
    have hcap : l.length + 1 ≤ cap := by simpa using hle
    have hil : inner.length = l.length * 5 + 5 := by rw [hlen]; simp [Nat.add_mul]
    refine ⟨h.sup, fun j hj => by rw [hsz]; exact h.lt j hj, h.own, ⟨inner.take (l.length * 5) ++ cNd n none 0, ⟨?_, .inr ⟨g, cap, _, ?_, hb, heap_setCell_same (heap_setCell_same (heap_setCell_same (heap_setCell_same (heap_setCell_same hg _ _) _ _) _ _) _ _) _ _, ?_, hcm, ?_, ?_⟩⟩, ?_⟩⟩
    · simp [hil, Nat.add_mul]
    · rw [hk]; simp
    · simpa using hcap
    · simpa using hcs
    · have h5 : (l ++ [n]).length * 5 = l.length * 5 + 5 := by simp [Nat.add_mul]
      have h6 : (l ++ [z]).length * 5 = l.length * 5 + 5 := by simp [Nat.add_mul]
      rw [h6] at htk
      rw [h5]
      have hset : (((((cur.setIfInBounds (l.length * 5) (.int .i64 n.kind)).setIfInBounds (l.length * 5 + 1) (.string n.gap)).setIfInBounds (l.length * 5 + 2) (.string n.text)).setIfInBounds (l.length * 5 + 3) (.int .i64 n.pos)).setIfInBounds (l.length * 5 + 4) (.slice none n.kids.length 0)).toList = ((((cur.toList.set (l.length * 5) (.int .i64 n.kind)).set (l.length * 5 + 1) (.string n.gap)).set (l.length * 5 + 2) (.string n.text)).set (l.length * 5 + 3) (.int .i64 n.pos)).set (l.length * 5 + 4) (.slice none n.kids.length 0) := by simp
      rw [hset, List.take_set, List.take_set, List.take_set, List.take_set, List.take_set, htk, set_tail hil]
    · refine Reps.snoc ?_ (kNd_mk _ n (by rw [hn]; exact Nat.zero_le _) (leaf_C _ _ hn)) rfl
      refine ⟨by simp [hil], fun j p hj => up_kNd hsub ?_⟩
      have hjl := (List.getElem?_eq_some_iff.1 hj).1
      have h1 := hr.2 j p (by rw [List.getElem?_append_left hjl]; exact hj)
      have hle5 : j * 5 + 5 ≤ l.length * 5 := by omega
      rw [show (List.drop (j * 5) (inner.take (l.length * 5))).take 5 = (inner.drop (j * 5)).take 5 by
        rw [List.drop_take, List.take_take, Nat.min_eq_left (by omega)]]
      exact h1
theorem Lst.lastCells (h : Lst base H W H' (.slice (some ⟨g, 0, none⟩) k cap) (l ++ [z])) : (∃ v0 v1 v2 v3 v4, W.cell? ⟨g, l.length * 5, none⟩ = some v0 ∧ W.cell? ⟨g, l.length * 5 + 1, none⟩ = some v1 ∧ W.cell? ⟨g, l.length * 5 + 2, none⟩ = some v2 ∧ W.cell? ⟨g, l.length * 5 + 3, none⟩ = some v3 ∧ W.cell? ⟨g, l.length * 5 + 4, none⟩ = some v4) ∧ ∀ i, i < 5 → W.frozen? ⟨g, l.length * 5 + i, none⟩ = false := by
  obtain ⟨inner, ho, hr⟩ := h.row
  obtain ⟨hlen, hc⟩ := ho
  rcases hc with ⟨e, -⟩ | ⟨g2, cap2, cur, e, hb, hg, hle, hcm, hcs, htk⟩
  · cases e
  · simp only [Value.slice.injEq, Option.some.injEq, Addr.mk.injEq] at e
    obtain ⟨⟨rfl, -⟩, e2, rfl⟩ := e
    have hcap : l.length + 1 ≤ cap := by simpa using hle
    have hc : l.length * 5 + 5 ≤ cur.size := by rw [hcs]; omega
    have at_ : ∀ i, (hi : i < 5) → W.cell? ⟨g, l.length * 5 + i, none⟩ = some (cur[l.length * 5 + i]'(by omega)) := fun i hi => by
      rw [cell_blk hg]; exact Array.getElem?_eq_getElem (by omega)
    exact ⟨⟨_, _, _, _, _, at_ 0 (by decide), at_ 1 (by decide), at_ 2 (by decide), at_ 3 (by decide), at_ 4 (by decide)⟩, fun i hi => frozen_blk hg _⟩
end
end Go.Proofs.YtbfkkepdeepdeaaGreatDoor
end
section
namespace Go.Proofs.YtbfkkepdeepdeaaGreatDoor
open Go Go.RowKit Go.Proofs.YtbfkkepdeepdeaaGreatDoorW.PrintWords Go.Proofs.YtbfkkepdeepdeaaGreatDoorW.PrintLast Go.Proofs.YtbfkkepdeepdeaaGreatDoorW.PrintMore
set_option linter.unusedVariables false
set_option linter.unusedSimpArgs false
set_option maxRecDepth 100000
theorem Keep.wide {a b : Nat} {w w' : World} (h : Keep [a] w w') : Keep [a, b] w w' := h.mono (fun k hk _ => by rw [List.mem_singleton.1 hk]; exact List.mem_cons_self)
structure Rdr (w1 : World) (rb : Nat) (H : List Nat) (cb : Nat) (s : ByteArray) (A : Option Addr) (c : Nat) (L : List Tok) (W : World) (u : Cu) (l : List Nd) (H' : List Nat) (v : Value) : Prop where
  keep : Keep [cb, rb] w1 W
  rd : RdP W cb s A c L u
  box : W.heap[rb]? = some (.cells #[.pointer (some ⟨cb, 0, none⟩), v] 296 (0, 0))
  lst : Lst w1.heap.size H W H' v l
  mc : cb ∈ H
  mr : rb ∈ H
  lt : cb < rb
  lr : rb < w1.heap.size
  hH : ∀ k, k ∈ H → k < w1.heap.size
section
variable {w w1 W W' : World} {cb rb : Nat} {s : ByteArray} {A : Option Addr} {c : Nat} {L : List Tok} {u u' : Cu} {H H' H2 : List Nat} {v v' : Value} {l l' : List Nd}
theorem Rdr.call (r : Rdr w1 rb H cb s A c L W u l H' v) (R : RdP W' cb s A c L u') (k : Keep [cb] W W') : Rdr w1 rb H cb s A c L W' u' l H' v :=
  ⟨r.keep.trans k.wide, R, (k.block rb (Array.getElem?_eq_some_iff.1 r.box).1 (by have := r.lt; simp; omega)).trans r.box, r.lst.keep k r.mc (Nat.lt_trans r.lt r.lr), r.mc, r.mr, r.lt, r.lr, r.hH⟩
theorem Rdr.calm (r : Rdr w1 rb H cb s A c L W u l H' v) (h : Below W.heap.size W W') : Rdr w1 rb H cb s A c L W' u l H' v :=
  r.call (r.rd.below h) (Keep.of_below h)
theorem Rdr.good (r : Rdr w1 rb H cb s A c L W u l H' v) : Good H' cb W := r.lst.good r.mc
theorem Rdr.grow (r : Rdr w1 rb H cb s A c L W u l H' v) (h : Lst w1.heap.size H W' H2 v' l') (g : W.grownBy W' v.ownBlock) : Rdr w1 rb H cb s A c L (W'.setCell ⟨rb, 1, none⟩ v') u l' H2 v' := by
  have hne : ∀ k, k < w1.heap.size → some k ≠ v.ownBlock := fun k hk e => by have := r.lst.base _ e.symm; omega
  have hrb := (Array.getElem?_eq_some_iff.1 r.box).1
  have h1 := r.lt
  have h2 := r.lr
  have hb1 := (g.block rb hrb (hne rb h2)).trans r.box
  have R1 : RdP W' cb s A c L u := r.rd.move (g.block cb r.rd.lt (hne cb (by omega))) (fun k hk => g.block k (by have := r.rd.lt; omega) (hne k (by omega)))
  exact ⟨(r.keep.row g (fun b e => by have := r.lst.base b e; omega)).trans (Keep.set _ _ (List.mem_cons_of_mem _ List.mem_cons_self)), R1.set _ r.lt, heap_setCell_same hb1 1 v', h.keep (Keep.set _ _ List.mem_cons_self) r.mr r.lr, r.mc, r.mr, r.lt, r.lr, r.hH⟩
set_option maxHeartbeats 1000000 in
theorem put_calls {qs : List Nd} {A2 : Option Addr} {k c2 : Nat} (r : Rdr w1 rb H cb s A c L W u l H' v) (hC : kNd.C (hole H' W) A2 k qs) (hlen : l.length + k ≤ 1000000) :
    Calls Tryz.prog 219 #[.pointer (some ⟨rb, 0, none⟩), .slice A2 k c2] W fun e W' => e = .returned (.pointer (some ⟨rb, 0, none⟩)) ∧ ∃ H2 v2, Rdr w1 rb H cb s A c L W' u (l ++ qs) H2 v2 := by
  have HR := Lib.hid r
  have HC := Lib.hid hC
  have HL := Lib.hid hlen
  have x1 := (cell_blk r.box 1).trans rfl
  clear r hC hlen
  go_enter Tryz.func219, Tryz.ntmps219
  go_wp2_with ((with_reducible refine gate_builtin (b := .append) (xs := #[.tmp 9, .tmp 10]) rfl ?_); at_builtin; refine Lst.appendRow HR.out.lst rfl (.tmp 9) (.tmp 10) rfl rfl rfl HC.out HR.out.keep.size HL.out ?_; intro v5 w5 H5 hL5 hs5 hg5; (obtain ⟨A5, c5, e5, -⟩ := hL5.row.slice_); (obtain ⟨q5, hq5⟩ : ∃ q, q = (l ++ qs).length := ⟨_, rfl⟩); rw [← hq5] at e5; clear hq5; subst e5; have hx := (hg5.block rb (Array.getElem?_eq_some_iff.1 HR.out.box).1 (fun e => by have := HR.out.lst.base _ e.symm; have := HR.out.lr; omega)).trans HR.out.box; have x2 := (cell_blk hx 1).trans rfl; have f2 := frozen_blk hx 1; have HN := Lib.hid (HR.out.grow hL5 hg5); clear hL5 hg5 hx)
  go_ret
  exact ⟨rfl, _, _, HN.out⟩
theorem one_row {n : Nd} {A' : Option Addr} {c' : Nat} (hH : ∀ k, k ∈ H → k < W.heap.size) (hl : n.kids.length ≤ c') (hC : kNd.C (hole H W) A' n.kids.length n.kids) : kNd.C (hole H (W.alloc (.cells (aNd n A' c') 122))) (some ⟨W.heap.size, 0, none⟩) 1 [n] := by
  obtain ⟨A1, c1, e, -, h⟩ := (Lst.lit (base := W.heap.size) hH (Nat.le_refl _) hl hC).reads hH
  simp only [Value.slice.injEq] at e
  obtain ⟨rfl, -, -⟩ := e
  exact h
set_option maxHeartbeats 1000000 in
theorem name_calls  (r : Rdr w1 rb H cb s A c L W u l H' v) (hlen : l.length + 1 ≤ 1000000) :
    Calls Tryz.prog 184 #[.pointer (some ⟨rb, 0, none⟩)] W fun e W' => e = .returned (.pointer (some ⟨rb, 0, none⟩)) ∧ ∃ H2 v2, Rdr w1 rb H cb s A c L W' (anyK s L u 4).2 (l ++ [(anyK s L u 4).1]) H2 v2 := by
  have HR := Lib.hid r
  have HL := Lib.hid hlen
  have x0 := (cell_blk r.box 0).trans rfl
  clear r hlen
  go_enter Tryz.func184, Tryz.ntmps184
  go_wp2_with fail
  refine (Any_calls HR.out.rd 4).mono ?_
  obtain ⟨q, hq⟩ : ∃ q, q = anyK s L u 4 := ⟨_, rfl⟩
  rw [← hq]
  have HQ := Lib.hid hq
  clear hq
  rintro e w2 ⟨rfl, hk, R2, k2⟩
  have hl : q.1.kids.length ≤ 0 := by rw [hk]; exact Nat.le_refl _
  have hC : kNd.C (hole H' w2) none q.1.kids.length q.1.kids := leaf_C _ _ hk
  clear hk
  have HR2 := Lib.hid (HR.out.call R2 k2)
  have HC2 := Lib.hid (one_row (H := H') HR2.out.good.all hl hC)
  clear R2 k2 hC x0
  go_wp2_with fail
  refine (put_calls (HR2.out.calm ((Below.refl _ _).alloc (Nat.le_refl _) _)) HC2.out HL.out).mono ?_
  rintro e w3 ⟨rfl, H3, v3, r3⟩
  have HR3 := Lib.hid r3
  clear r3
  go_wp2_with fail
  go_ret
  exact ⟨rfl, _, _, by rw [← HQ.out]; exact HR3.out⟩
set_option maxHeartbeats 1000000 in
theorem exp_calls {d : Nat} (hd : u.deep + d = 200) (r : Rdr w1 rb H cb s A c L W u l H' v) (hlen : l.length + 1 ≤ 1000000) :
    Calls Tryz.prog 246 #[.pointer (some ⟨rb, 0, none⟩)] W fun e W' => e = .returned (.pointer (some ⟨rb, 0, none⟩)) ∧ ∃ H2 v2, Rdr w1 rb H cb s A c L W' (exprD s L d u).2 (l ++ [(exprD s L d u).1]) H2 v2 := by
  have HR := Lib.hid r
  have HL := Lib.hid hlen
  have x0 := (cell_blk r.box 0).trans rfl
  clear r hlen
  go_enter Tryz.func246, Tryz.ntmps246
  go_wp2_with fail
  refine (Parse_calls HR.out.rd hd HR.out.good).mono ?_
  obtain ⟨q, hq⟩ : ∃ q, q = exprD s L d u := ⟨_, rfl⟩
  rw [← hq]
  have HQ := Lib.hid hq
  clear hq
  rintro e w2 ⟨⟨A2, c2, rfl, hl, hC⟩, R2, k2⟩
  have HR2 := Lib.hid (HR.out.call R2 k2)
  have HC2 := Lib.hid (one_row (H := H') HR2.out.good.all hl hC)
  clear R2 k2 hC x0
  go_wp2_with fail
  refine (put_calls (HR2.out.calm ((Below.refl _ _).alloc (Nat.le_refl _) _)) HC2.out HL.out).mono ?_
  rintro e w3 ⟨rfl, H3, v3, r3⟩
  have HR3 := Lib.hid r3
  clear r3
  go_wp2_with fail
  go_ret
  exact ⟨rfl, _, _, by rw [← HQ.out]; exact HR3.out⟩
set_option maxHeartbeats 1000000 in
theorem inner_calls {st : Cu → Nd × Cu} (hS : ∀ W H2, RdP W cb s A c L u → Good H2 cb W → Calls Tryz.prog 179 #[.pointer (some ⟨cb, 0, none⟩)] W (NdRes W cb s A c L H2 (st u))) (r : Rdr w1 rb H cb s A c L W u l H' v) (hlen : l.length + 1 ≤ 1000000) :
    Calls Tryz.prog 247 #[.pointer (some ⟨rb, 0, none⟩)] W fun e W' => e = .returned (.pointer (some ⟨rb, 0, none⟩)) ∧ ∃ H2 v2, Rdr w1 rb H cb s A c L W' (st u).2 (l ++ [(st u).1]) H2 v2 := by
  have HR := Lib.hid r
  have HL := Lib.hid hlen
  have x0 := (cell_blk r.box 0).trans rfl
  clear r hlen
  go_enter Tryz.func247, Tryz.ntmps247
  go_wp2_with fail
  refine (hS _ _ HR.out.rd HR.out.good).mono ?_
  obtain ⟨q, hq⟩ : ∃ q, q = st u := ⟨_, rfl⟩
  rw [← hq]
  have HQ := Lib.hid hq
  clear hq
  rintro e w2 ⟨⟨A2, c2, rfl, hl, hC⟩, R2, k2⟩
  have HR2 := Lib.hid (HR.out.call R2 k2)
  have HC2 := Lib.hid (one_row (H := H') HR2.out.good.all hl hC)
  clear R2 k2 hC x0
  go_wp2_with fail
  refine (put_calls (HR2.out.calm ((Below.refl _ _).alloc (Nat.le_refl _) _)) HC2.out HL.out).mono ?_
  rintro e w3 ⟨rfl, H3, v3, r3⟩
  have HR3 := Lib.hid r3
  clear r3
  go_wp2_with fail
  go_ret
  exact ⟨rfl, _, _, by rw [← HQ.out]; exact HR3.out⟩
theorem failed_calls (r : Rdr w1 rb H cb s A c L W u l H' v) :
    Calls Tryz.prog 220 #[.pointer (some ⟨rb, 0, none⟩)] W fun e W' => e = .returned (.bool (decide (u.err ≠ 0))) ∧ Below W.heap.size W W' := by
  have HR := Lib.hid r
  have x0 := (cell_blk r.box 0).trans rfl
  clear r
  go_enter Tryz.func220, Tryz.ntmps220
  go_wp2_with fail
  refine (Failed_calls HR.out.rd).mono ?_
  rintro e w4 ⟨pp, rfl, -, h4⟩
  have H4 := Lib.hid h4
  by_cases e0 : u.err = 0
  · rw [show errV u.err = .nilIface by unfold errV; rw [if_pos e0]]
    have hd : decide (u.err ≠ 0) = false := by simp [e0]
    have HD := Lib.hid hd
    clear h4 e0 hd
    go_wp2_with fail
    go_ret
    exact ⟨by rw [HD.out]; rfl, H4.out⟩
  · rw [show errV u.err = .iface 77 (.int .i64 u.err) by unfold errV; rw [if_neg e0]]
    have hd : decide (u.err ≠ 0) = true := by simp [e0]
    have HD := Lib.hid hd
    clear h4 e0 hd
    go_wp2_with fail
    go_ret
    exact ⟨by rw [HD.out]; rfl, H4.out⟩
set_option maxHeartbeats 1000000 in
theorem as_calls (k : Int) (r : Rdr w1 rb H cb s A c L W u l H' v) (hlen : l.length ≤ 1000000) :
    Calls Tryz.prog 185 #[.pointer (some ⟨rb, 0, none⟩), .int .i64 k] W (NdRes W cb s A c L H (asN k l u, u)) := by
  have hcb := r.rd.lt
  obtain ⟨w2, hw2⟩ : ∃ w2, w2 = W.alloc (.cells (aNd zN none 0) 122) := ⟨_, rfl⟩
  have hA1 : Below W.heap.size W w2 := by rw [hw2]; exact (Below.refl _ _).alloc (Nat.le_refl _) _
  have HY := Lib.hid (show w2.heap[W.heap.size]? = some (.cells (aNd zN none 0) 122 (0, 0)) by rw [hw2]; exact World.alloc_heap_new W _)
  have HA := Lib.hid (Keep.of_below (H := [cb]) hA1)
  have hzs : w2.heap.size = W.heap.size + 1 := by rw [hw2]; simp
  have HR2 := Lib.hid (r.calm hA1)
  obtain ⟨A1, c1, e1, hl1, hC1⟩ := r.lst.reads r.hH
  subst e1
  have HC2 := Lib.hid (up_C up_kNd (hole_more (H' := W.heap.size :: H) (Keep.of_below (H := []) hA1) (fun k hk => (List.mem_cons.1 hk).elim (fun e => .inr (by omega)) .inl)) hC1)
  have HH := Lib.hid (show ∀ k, k ∈ W.heap.size :: H → k < w2.heap.size from fun k hk => (List.mem_cons.1 hk).elim (fun e => by omega) (fun e => by have := r.hH k e; have := r.keep.size; omega))
  clear r hA1 hC1
  go_enter Tryz.func185, Tryz.ntmps185
  go_wp2_with fail
  have Rz := HR2.out
  rw [hw2] at Rz
  refine (failed_calls Rz).mono ?_
  rintro e w4 ⟨rfl, h4⟩
  rw [← hw2] at h4
  clear Rz hw2
  have HR4 := Lib.hid (HR2.out.calm h4)
  have hy4 := (h4.block W.heap.size (by omega)).trans HY.out
  have HK4 := Lib.hid (HA.out.trans (Keep.of_below h4))
  have HC4 := Lib.hid (up_C up_kNd (hole_more (H' := W.heap.size :: H) (Keep.of_below (H := []) h4) (fun k hk => .inl hk)) HC2.out)
  have HS4 := Lib.hid h4.size
  by_cases e0 : u.err = 0
  · have HQ := Lib.hid (show (asN k l u, u) = (mk k l, u) by unfold asN; rw [if_pos e0])
    have hd : decide (u.err ≠ 0) = false := by simp [e0]
    rw [hd]
    have x1 := (cell_blk HR4.out.box 1).trans rfl
    have HY4 := Lib.hid hy4
    clear e0 hd h4 hy4
    go_wp2_with fail
    refine (Make_calls k (W.heap.size :: H) (fun j hj => Nat.lt_of_lt_of_le (HH.out j hj) HS4.out) HC4.out hlen).mono ?_
    rintro e w9 ⟨A9, c9, rfl, hl9, hC9, h9⟩
    have hy9 := (h9.block W.heap.size (by have := HS4.out; omega)).trans HY4.out
    obtain ⟨⟨b0, b1, b2, b3, b4⟩, f0, f1, f2, f3, f4⟩ := (Box5.mk hy9).all
    have HY9 := Lib.hid hy9
    have HC9 := Lib.hid hC9
    have HR9 := Lib.hid (HR4.out.calm h9)
    have HK9 := Lib.hid (HK4.out.trans (Keep.of_below h9))
    clear hy9 hC9 h9 x1
    go_wp2_with fail
    exact nd_end (n := mk k l) (A' := A9) (c' := c9) Tryz.results185 rfl HY9.out hl9 HC9.out (Nat.le_refl _) hcb HR9.out.rd HQ.out HK9.out
  · have HQ := Lib.hid (show (asN k l u, u) = (zN, u) by unfold asN; rw [if_neg e0])
    have hd : decide (u.err ≠ 0) = true := by simp [e0]
    rw [hd]
    obtain ⟨⟨b0, b1, b2, b3, b4⟩, f0, f1, f2, f3, f4⟩ := (Box5.mk hy4).all
    have HY4 := Lib.hid hy4
    have hC9 : kNd.C (hole (W.heap.size :: H) w4) none zN.kids.length zN.kids := leaf_C _ _ rfl
    have HC9 := Lib.hid hC9
    clear e0 hd h4 hy4 hC9
    go_wp2_with fail
    exact nd_end (n := zN) (A' := none) (c' := 0) (u := u) (b := W.heap.size) (a0 := .int .i64 0) (a1 := .string ⟨#[]⟩) (a2 := .string ⟨#[]⟩) (a3 := .int .i64 0) (a4 := .slice none 0 0) Tryz.results185 rfl HY4.out (Nat.le_refl _) HC9.out (Nat.le_refl _) hcb HR4.out.rd HQ.out HK4.out
end
end Go.Proofs.YtbfkkepdeepdeaaGreatDoor
end
section
namespace Go.Proofs.YtbfkkepdeepdeaaGreatDoor
open Go Go.RowKit Go.Proofs.YtbfkkepdeepdeaaGreatDoorW.PrintWords Go.Proofs.YtbfkkepdeepdeaaGreatDoorW.PrintLast Go.Proofs.YtbfkkepdeepdeaaGreatDoorW.PrintMore
set_option linter.unusedVariables false
set_option linter.unusedSimpArgs false
set_option maxRecDepth 100000
section
variable {w w1 W W' : World} {cb rb : Nat} {s : ByteArray} {A : Option Addr} {c : Nat} {L : List Tok} {u u' : Cu} {H H' H2 : List Nat} {v v' : Value} {l l' : List Nd}
theorem Lst.grown2 {base : Nat} {W w1 : World} {H' : List Nat} {v v1 : Value} {l l1 : List Nd} (h : Lst base H W H' v l) (hO : OwnRow (kNd.K (hole H' W)) 122 5 w1 base v1 l1) (hg : W.grownBy w1 v.ownBlock) (hat : v1.ownBlock = v.ownBlock ∨ ∃ b, v1.ownBlock = some b ∧ W.heap.size ≤ b) :
    ∃ H2, Lst base H w1 H2 v1 l1 ∧ ∀ k, k ∈ H2 → k ∈ H' ∨ W.heap.size ≤ k := by
  have hsub : ∀ {H2 : List Nat}, (∀ k, k ∈ H2 → k ∈ H' ∨ W.heap.size ≤ k) → Sub (hole H' W) (hole H2 w1) := fun {H2} hh a v hc => by
    obtain ⟨n1, n2⟩ := hole_cell_iff.1 hc
    have hb := cell_block n2
    exact hole_cell_iff.2 ⟨fun e => (hh _ e).elim n1 (fun k => by omega), (World.cell?_of_block (a := a) (hg.block _ hb (fun e => n1 (h.own _ e.symm)))).trans n2⟩
  rcases hat with e | ⟨b, e, hb⟩
  · exact ⟨H', ⟨h.sup, fun k hk => Nat.lt_of_lt_of_le (h.lt k hk) hg.size, fun b hb => h.own b (by rw [← e]; exact hb), OwnRow.up up_kNd hO (hsub (fun k hk => .inl hk))⟩, fun _ h => .inl h⟩
  · have hbnd : ∀ k, k ∈ b :: H' → k ∈ H' ∨ W.heap.size ≤ k := fun k hk => (List.mem_cons.1 hk).elim (fun e => .inr (by omega)) .inl
    refine ⟨b :: H', ⟨fun k hk => List.mem_cons_of_mem _ (h.sup k hk), fun k hk => ?_, fun b2 h2 => ?_, OwnRow.up up_kNd hO (hsub hbnd)⟩, hbnd⟩
    · rcases List.mem_cons.1 hk with e2 | e2
      · obtain ⟨inner, ho, -⟩ := hO; rw [e2]; exact own_lt ho b e
      · exact Nat.lt_of_lt_of_le (h.lt k e2) hg.size
    · rw [e] at h2; injection h2 with h2; rw [← h2]; exact List.mem_cons_self
structure Grew (base : Nat) (H H' : List Nat) (W w1 : World) (v : Value) (g k cap : Nat) (l1 : List Nd) (H2 : List Nat) : Prop where
  lst : Lst base H w1 H2 (.slice (some ⟨g, 0, none⟩) k cap) l1
  bnd : ∀ k, k ∈ H2 → k ∈ H' ∨ W.heap.size ≤ k
  grew : W.grownBy w1 v.ownBlock
  at_ : some g = v.ownBlock ∨ W.heap.size ≤ g
section
variable {ops : Array Oper} {o : Oper} {rest : List Oper} {a : Act} {Q : Exit → Act → World → Prop}
theorem Lst.appendOne2 {base : Nat} {W : World} {H' : List Nat} {v : Value} {l : List Nd} {z : Nd} {A2 : Option Addr} {c2 : Nat} (h : Lst base H W H' v l) (hgd : o.guard = none) (s x : Operand)
    (ho : o.op = .call { callee := .builtin .append, args := #[s, x], argTypes := #[120, 120] }) (hs : a.eval s = v) (hx : a.eval x = .slice A2 1 c2) (hC : kNd.C (hole H' W) A2 1 [z]) (hb : base ≤ W.heap.size) (hlen : l.length + 1 ≤ 1000000)
    (K : ∀ g cap w1 H2, Grew base H H' W w1 v g (l.length + 1) cap (l ++ [z]) H2 → wpList Tryz.prog ops Q rest (a.put o.dst (.slice (some ⟨g, 0, none⟩) (l.length + 1) cap)) w1) : wpList Tryz.prog ops Q (o :: rest) a W :=
  Kd.R_append_rows (Kd.fixed kNd (hole H' W)) (Rr := kNd.K (hole H' W)) (w0 := W) base hgd s x 120 122 zNdV 72 ho Tryz.underlying120 infoNd rfl (show 0 < 5 by decide) (by decide) v l [z] A2 1 c2 (fun _ => True) (fun _ => False) hs hx
    ⟨fun _ _ => trivial, h.row⟩ (row_now hC) (fun _ _ hk => hk) (fun _ hk => hk.elim) (fun _ _ => trivial) (Below.refl _ _) hb (by omega)
    (fun v1 w1 hR _ hg hat => by
      obtain ⟨H2, h2, h3⟩ := h.grown2 (v1 := v1) (l1 := l ++ [z]) hR.2 hg hat
      obtain ⟨inner, ho, hr⟩ := h2.row
      obtain ⟨hlen, hc⟩ := ho
      rcases hc with ⟨-, e⟩ | ⟨g, cap, cur, e, hb, hg2, hle, hcm, hcs, htk⟩
      · simp at e
      · have e2 : (l ++ [z]).length = l.length + 1 := by simp
        rw [e2] at e
        subst e
        exact K g cap w1 H2 ⟨h2, h3, hg, by
          rcases hat with e | ⟨b, e, hb⟩
          · exact .inl e
          · simp only [Value.ownBlock, Option.some.injEq] at e
            exact .inr (by omega)⟩)
end
theorem put5_size {g o : Nat} {n : Nd} : (put5 W g o n).heap.size = W.heap.size := by unfold put5; simp
theorem put5_flat {g o : Nat} {n : Nd} : (put5 W g o n).os = W.os ∧ (put5 W g o n).tape = W.tape ∧ (put5 W g o n).output = W.output := by unfold put5; simp only [World.setCell, and_self]
theorem grown_put5 {r : Option Nat} {g o : Nat} {n : Nd} (h : W.grownBy W' r) (ha : some g = r ∨ W.heap.size ≤ g) : W.grownBy (put5 W' g o n) r :=
  ⟨put5_flat.1.trans h.os, put5_flat.2.1.trans h.tape, put5_flat.2.2.trans h.output, by rw [put5_size]; exact h.size, fun k hk hn => (put5_else (fun e => by
    rcases ha with e2 | e2
    · exact hn (by rw [e]; exact e2)
    · omega)).trans (h.block k hk hn)⟩
theorem Rdr.fillA {g cap q : Nat} {z n : Nd} (r : Rdr w1 rb H cb s A c L W u l H' v) (hq : q = l.length) (G : Grew w1.heap.size H H' W W' v g (q + 1) cap (l ++ [z]) H2) (hn : n.kids = []) :
    Rdr w1 rb H cb s A c L ((put5 W' g (q * 5) n).setCell ⟨rb, 1, none⟩ (.slice (some ⟨g, 0, none⟩) (q + 1) cap)) u (l ++ [n]) H2 (.slice (some ⟨g, 0, none⟩) (q + 1) cap) :=
  by subst hq; exact r.grow (G.lst.putLast hn) (grown_put5 G.grew G.at_)
theorem Grew.base {base : Nat} {g k cap : Nat} {l1 : List Nd} (G : Grew base H H' W W' v g k cap l1 H2) : base ≤ g := G.lst.base g rfl
theorem Rdr.fillB {g cap q : Nat} {z n : Nd} (r : Rdr w1 rb H cb s A c L W u l H' v) (hq : q = l.length) (G : Grew w1.heap.size H H' W W' v g (q + 1) cap (l ++ [z]) H2) (hn : n.kids = []) :
    Rdr w1 rb H cb s A c L (put5 (W'.setCell ⟨rb, 1, none⟩ (.slice (some ⟨g, 0, none⟩) (q + 1) cap)) g (q * 5) n) u (l ++ [n]) H2 (.slice (some ⟨g, 0, none⟩) (q + 1) cap) := by
  subst hq
  have r2 := r.grow G.lst G.grew
  have hb := G.base
  have h1 := r.lt
  have h2 := r.lr
  exact ⟨((((r2.keep.setNew _ hb).setNew _ hb).setNew _ hb).setNew _ hb).setNew _ hb, ((((r2.rd.set _ (by omega)).set _ (by omega)).set _ (by omega)).set _ (by omega)).set _ (by omega), (put5_else (by omega)).trans r2.box, r2.lst.putLast hn, r.mc, r.mr, r.lt, r.lr, r.hH⟩
theorem held2 {a : Nat} {v0 v1 : Value} (k : Keep [cb] W W') (ha : a ≠ cb) (h : W.cell? ⟨a, 0, none⟩ = some v0 ∧ W.cell? ⟨a, 1, none⟩ = some v1) : W'.cell? ⟨a, 0, none⟩ = some v0 ∧ W'.cell? ⟨a, 1, none⟩ = some v1 :=
  ⟨keep_cell k ha h.1, keep_cell k ha h.2⟩
set_option maxHeartbeats 1000000 in
theorem rwant_calls {texts : List ByteArray} {tb : Nat} (r : Rdr w1 rb H cb s A c L W u l H' v) (htb : tb ∉ H') (hT : ∀ i t, texts[i]? = some t → W.cell? ⟨tb, i, none⟩ = some (.string t)) (hlen : l.length + texts.length ≤ 100000) :
    Calls Tryz.prog 183 #[.pointer (some ⟨rb, 0, none⟩), .slice (some ⟨tb, 0, none⟩) texts.length texts.length] W fun e W' => e = .returned (.pointer (some ⟨rb, 0, none⟩)) ∧ ∃ H2 v2, Rdr w1 rb H cb s A c L W' (wants s L texts u).2 (l ++ (wants s L texts u).1) H2 v2 := by
  obtain ⟨n, hn⟩ : ∃ n, n = texts.length := ⟨_, rfl⟩
  rw [← hn] at hlen ⊢
  have HN := Lib.hid hn
  have HR := Lib.hid r
  have HT := Lib.hid hT
  have HTB := Lib.hid htb
  clear r hT hn htb
  go_enter Tryz.func183, Tryz.ntmps183
  go_wp2_with fail
  go_loopw [9] (fun v9 wr => ∃ (k : Nat) (done : List Nd) (u2 : Cu) (H3 : List Nat) (v3 : Value), v9 = .int .i64 k ∧ k ≤ n ∧ Hid (wants s L texts u = (done ++ (wants s L (texts.drop k) u2).1, (wants s L (texts.drop k) u2).2)) ∧ Hid (done.length = k) ∧ Hid (Rdr w1 rb H cb s A c L wr u2 (l ++ done) H3 v3) ∧ Hid (tb ∉ H3) ∧ Hid (∀ i t, texts[i]? = some t → wr.cell? ⟨tb, i, none⟩ = some (.string t))) (fun v9 wr => match v9 with | .int _ k => n - k.toNat | _ => 0)
  case atStart => exact ⟨0, [], u, H', v, rfl, Nat.zero_le _, Lib.hid (by simp), Lib.hid rfl, by rw [List.append_nil]; exact HR, HTB, HT⟩
  case round =>
    obtain ⟨k, done, u2, H3, v3, rfl, hk, hq, hdl, hr, htb, ht⟩ := hrel
    by_cases hlt : k < n
    · obtain ⟨t, ht0⟩ : ∃ t, texts[k]? = some t := ⟨texts[k]'(by rw [← HN.out]; exact hlt), List.getElem?_eq_getElem _⟩
      have xt := ht.out k t ht0
      obtain ⟨r1, hr1⟩ : ∃ r1, r1 = want s L u2 t := ⟨_, rfl⟩
      have hq2 : wants s L texts u = ((done ++ [r1.1]) ++ (wants s L (texts.drop (k + 1)) r1.2).1, (wants s L (texts.drop (k + 1)) r1.2).2) := by
        rw [hq.out, List.drop_eq_getElem_cons (by rw [← HN.out]; exact hlt)]
        have e : texts[k]'(by rw [← HN.out]; exact hlt) = t := by have := (List.getElem?_eq_some_iff.1 ht0).2; exact this
        rw [e, hr1]
        simp [wants]
      have HQ2 := Lib.hid hq2
      have HR1 := Lib.hid hr1
      have HT0 := Lib.hid ht0
      have hki : (k : Int) < (n : Int) := by omega
      have hz3 := hr.out.keep.size
      obtain ⟨A3, c3, e3, -⟩ := hr.out.lst.row.slice_
      have hdl3 : (l ++ done).length = l.length + k := by rw [List.length_append, hdl.out]
      obtain ⟨q3, hq3⟩ : ∃ q3, q3 = (l ++ done).length := ⟨_, rfl⟩
      rw [← hq3] at e3 hdl3
      subst e3
      have HQ3 := Lib.hid hq3
      have HD3 := Lib.hid hdl3
      clear hq hr1 ht0 hq2 hq3 hdl3
      go_upto_region 4 with (fail)
      have x0 := (cell_blk hr.out.box 0).trans rfl
      have x1 := (cell_blk hr.out.box 1).trans rfl
      have hrc : rb ≠ cb := by have := hr.out.lt; omega
      have S4 : ((fun w' => w'.cell? ⟨rb, 0, none⟩ = some (.pointer (some ⟨cb, 0, none⟩)) ∧ w'.cell? ⟨rb, 1, none⟩ = some (.slice A3 q3 c3)) wr.drew) := ⟨cell_later (below_drew1 _) x0, cell_later (below_drew1 _) x1⟩
      have HR4 := Lib.hid (hr.out.calm (below_drew1 wr))
      have HT4 := Lib.hid (show ∀ i t, texts[i]? = some t → wr.drew.cell? ⟨tb, i, none⟩ = some (.string t) from fun i t h => cell_later (below_drew1 _) (ht.out i t h))
      clear x0 x1 xt
      obtain ⟨w4, hw4⟩ : ∃ w4, w4 = wr.drew := ⟨_, rfl⟩
      refine wp_region_ordG (fun w' => w'.cell? ⟨rb, 0, none⟩ = some (.pointer (some ⟨cb, 0, none⟩)) ∧ w'.cell? ⟨rb, 1, none⟩ = some (.slice A3 q3 c3)) [14, 17] [(0, true), (1, true), (2, true), (3, false), (4, true), (5, true), (6, true), (7, false), (8, true), (10, true)] 3 5 #[true, true, true, true, true, true, true, true, true, false, true, false, false, false, false, false, false, false] (by kernel_rfl) (by kernel_rfl) (by kernel_rfl) (by kernel_rfl) (fun _ _ _ _ h => h) S4 (fun K hK => ?_)
      rw [← hw4] at hK S4 HR4 HT4
      clear hw4
      simp only [pickHead, List.getElem?_cons_succ, List.getElem?_cons_zero]
      repeat (first
        | (refine ordHead_pure rfl rfl ?_; apply Exists.intro; refine ⟨fun w' => ?_, ?_⟩; (go_simp; with_reducible rfl); apply Exists.intro; refine ⟨?_, ?_⟩; (simp only [Act.put, List.setIfInBounds_toArray, List.set_cons_zero, List.set_cons_succ]; rfl))
        | (refine ordHead_read rfl rfl ?_; apply Exists.intro; refine ⟨?_, ?_⟩; (rintro w' ⟨z0, z1⟩; go_simp; with_reducible rfl); apply Exists.intro; refine ⟨?_, ?_⟩; (simp only [Act.put, List.setIfInBounds_toArray, List.set_cons_zero, List.set_cons_succ]; rfl)))
      refine ordHead_nil (hK _ ?_)
      refine ordG_two 9 11 (by kernel_rfl) rfl rfl ?fst ?snd
      case' fst =>
        go_wp2_with fail
        refine (Want_calls HR4.out.rd t).mono ?_
        rw [← HR1.out]
        rintro e w5 ⟨rfl, hk5, R5, k5⟩
        have HR5 := Lib.hid (HR4.out.call R5 k5)
        have HK5 := Lib.hid hk5
        have S5 := held2 k5 hrc S4
        have HT5 := Lib.hid (show ∀ i t, texts[i]? = some t → w5.cell? ⟨tb, i, none⟩ = some (.string t) from fun i t h => keep_cell k5 (by show tb ≠ cb; intro e; exact htb.out (e ▸ HR4.out.lst.sup _ HR4.out.mc)) (HT4.out i t h))
        clear R5 k5 hk5 S4
        go_wp2_with fail
        refine ordG_one 11 (by kernel_rfl) rfl ?_
        go_wp2_with fail
        have h6 : Below w5.heap.size w5 (w5.alloc (.cells #[.int .i64 0, .string ⟨#[]⟩, .string ⟨#[]⟩, .int .i64 0, .slice none 0 0] 122)) := (Below.refl _ _).alloc (Nat.le_refl _) _
        have S6 := held2 (Keep.of_below (H := [cb]) h6) hrc S5
        first | refine ⟨S6, ?_⟩ | refine ⟨S6.2, ?_⟩ | skip
        have HR6 := Lib.hid (HR5.out.calm h6)
        have HT6 := Lib.hid (show ∀ i t, texts[i]? = some t → (w5.alloc (.cells #[.int .i64 0, .string ⟨#[]⟩, .string ⟨#[]⟩, .int .i64 0, .slice none 0 0] 122)).cell? ⟨tb, i, none⟩ = some (.string t) from fun i t h => cell_later h6 (HT5.out i t h))
        have HZ6 := Lib.hid (show kNd.C (hole H3 (w5.alloc (.cells #[.int .i64 0, .string ⟨#[]⟩, .string ⟨#[]⟩, .int .i64 0, .slice none 0 0] 122))) (some ⟨w5.heap.size, 0, none⟩) 1 [zN] from one_row (n := zN) (A' := none) (c' := 0) HR5.out.good.all (Nat.le_refl _) (leaf_C _ _ rfl))
        obtain ⟨w6, hw6⟩ : ∃ w6, w6 = w5.alloc (.cells #[.int .i64 0, .string ⟨#[]⟩, .string ⟨#[]⟩, .int .i64 0, .slice none 0 0] 122) := ⟨_, rfl⟩
        rw [← hw6] at S6 HR6 HT6 HZ6 ⊢
        clear hw6 h6 S5
      case' snd =>
        go_wp2_with fail
        have h5 : Below w4.heap.size w4 (w4.alloc (.cells #[.int .i64 0, .string ⟨#[]⟩, .string ⟨#[]⟩, .int .i64 0, .slice none 0 0] 122)) := (Below.refl _ _).alloc (Nat.le_refl _) _
        have S5 := held2 (Keep.of_below (H := [cb]) h5) hrc S4
        first | refine ⟨S5, ?_⟩ | refine ⟨S5.2, ?_⟩ | skip
        have HR5 := Lib.hid (HR4.out.calm h5)
        have HT5 := Lib.hid (show ∀ i t, texts[i]? = some t → (w4.alloc (.cells #[.int .i64 0, .string ⟨#[]⟩, .string ⟨#[]⟩, .int .i64 0, .slice none 0 0] 122)).cell? ⟨tb, i, none⟩ = some (.string t) from fun i t h => cell_later h5 (HT4.out i t h))
        have HZ5 := Lib.hid (show kNd.C (hole H3 (w4.alloc (.cells #[.int .i64 0, .string ⟨#[]⟩, .string ⟨#[]⟩, .int .i64 0, .slice none 0 0] 122))) (some ⟨w4.heap.size, 0, none⟩) 1 [zN] from one_row (n := zN) (A' := none) (c' := 0) HR4.out.good.all (Nat.le_refl _) (leaf_C _ _ rfl))
        obtain ⟨w5, hw5⟩ : ∃ w5, w5 = w4.alloc (.cells #[.int .i64 0, .string ⟨#[]⟩, .string ⟨#[]⟩, .int .i64 0, .slice none 0 0] 122) := ⟨_, rfl⟩
        rw [← hw5] at S5 HR5 HT5 HZ5 ⊢
        clear hw5 h5 S4
        refine ordG_one 9 (by kernel_rfl) rfl ?_
        go_wp2_with fail
        refine (Want_calls HR5.out.rd t).mono ?_
        rw [← HR1.out]
        rintro e w6 ⟨rfl, hk5, R6, k6⟩
        have HR6 := Lib.hid (HR5.out.call R6 k6)
        have HK5 := Lib.hid hk5
        have S6 := held2 k6 hrc S5
        have HT6 := Lib.hid (show ∀ i t, texts[i]? = some t → w6.cell? ⟨tb, i, none⟩ = some (.string t) from fun i t h => keep_cell k6 (by show tb ≠ cb; intro e; exact htb.out (e ▸ HR4.out.lst.sup _ HR4.out.mc)) (HT5.out i t h))
        have HZ6 := Lib.hid (up_C up_kNd (k6.sub (H2 := H3) (fun k hk => by rw [List.mem_singleton.1 hk]; exact HR4.out.lst.sup _ HR4.out.mc)) HZ5.out)
        clear R6 k6 hk5 S5
        go_wp2_with fail
      all_goals
        refine ordG_one 12 (by kernel_rfl) rfl ?_
        refine Lst.appendOne2 HR6.out.lst rfl (.tmp 16) (.tmp 24) rfl rfl rfl HZ6.out HR6.out.keep.size (by rw [← HQ3.out, HD3.out]; omega) ?_
        intro g cap w7 H7 g7
        have hne7 : ∀ k, k < w1.heap.size → some k ≠ (Value.slice A3 q3 c3).ownBlock := fun k hk e => by have := HR6.out.lst.base _ e.symm; omega
        have S7 : w7.cell? ⟨rb, 0, none⟩ = some (.pointer (some ⟨cb, 0, none⟩)) ∧ w7.cell? ⟨rb, 1, none⟩ = some (.slice A3 q3 c3) := ⟨g7.grew.cell S6.1 (hne7 rb HR6.out.lr), g7.grew.cell S6.2 (hne7 rb HR6.out.lr)⟩
        have HT7 := Lib.hid (show ∀ i t, texts[i]? = some t → w7.cell? ⟨tb, i, none⟩ = some (.string t) from fun i t h => g7.grew.cell (HT6.out i t h) (fun e => htb.out (HR6.out.lst.own tb e.symm)))
        rw [← HQ3.out] at g7 ⊢
        have G7 := Lib.hid g7
        clear g7 hne7 S6
        refine ⟨S7, ?_⟩
        refine ordG_head (n2 := 2) (m2 := 0) [(13, true), (15, true), (16, true)] #[true, true, true, true, true, true, true, true, true, true, true, true, true, true, false, true, true, false] (by kernel_rfl) rfl (by kernel_rfl) (fun _ _ _ _ h => h) S7 (fun K2 hK2 => ?_)
        simp only [pickHead, List.getElem?_cons_succ, List.getElem?_cons_zero]
        have hq31 : (q3 : Int) < (q3 : Int) + 1 := by omega
        repeat (first
          | (refine ordHead_pure rfl rfl ?_; apply Exists.intro; refine ⟨fun w' => ?_, ?_⟩; (go_simp; with_reducible rfl); apply Exists.intro; refine ⟨?_, ?_⟩; (simp only [Act.put, List.setIfInBounds_toArray, List.set_cons_zero, List.set_cons_succ]; rfl)))
        refine ordHead_nil (hK2 _ ?_)
        have hgr : rb ≠ g := by have := G7.out.base; have := HR6.out.lr; omega
        have hgr2 : g ≠ rb := fun e => hgr e.symm
        have LC := G7.out.lst.lastCells
        rw [← HQ3.out] at LC
        obtain ⟨⟨o0, o1, o2, o3, o4, e0, e1, e2, e3, e4⟩, ef⟩ := LC
        have f0 := ef 0 (by decide)
        have f1 := ef 1 (by decide)
        have f2 := ef 2 (by decide)
        have f3 := ef 3 (by decide)
        have f4 := ef 4 (by decide)
        rw [Nat.add_zero] at f0
        have fr := frozen_blk ((G7.out.grew.block rb (Array.getElem?_eq_some_iff.1 HR6.out.box).1 (fun e => by have := HR6.out.lst.base _ e.symm; have := HR6.out.lr; omega)).trans HR6.out.box) 1
        have hg7 : tb ≠ g := fun e => (G7.out.bnd g (G7.out.lst.own g rfl)).elim (fun h => htb.out (e ▸ h)) (fun h => by have := cell_block (HT6.out k t HT0.out); simp only at this; omega)
        have htr : tb ≠ rb := fun e => htb.out (e ▸ HR6.out.lst.sup _ HR6.out.mr)
        have HTB7 := Lib.hid (show tb ∉ H7 from fun h => (G7.out.bnd tb h).elim htb.out (fun h => by have := cell_block (HT6.out k t HT0.out); simp only at this; omega))
        have HTA := Lib.hid (show ∀ i t, texts[i]? = some t → ((put5 w7 g (q3 * 5) r1.1).setCell ⟨rb, 1, none⟩ (.slice (some ⟨g, 0, none⟩) (q3 + 1) cap)).cell? ⟨tb, i, none⟩ = some (.string t) from fun i t h => (World.cell?_of_block (a := ⟨tb, i, none⟩) ((Below.heap_setCell _ _ _ tb htr).trans (put5_else hg7))).trans (HT7.out i t h))
        have HTBB := Lib.hid (show ∀ i t, texts[i]? = some t → (put5 (w7.setCell ⟨rb, 1, none⟩ (.slice (some ⟨g, 0, none⟩) (q3 + 1) cap)) g (q3 * 5) r1.1).cell? ⟨tb, i, none⟩ = some (.string t) from fun i t h => (World.cell?_of_block (a := ⟨tb, i, none⟩) ((put5_else hg7).trans (Below.heap_setCell _ _ _ tb htr))).trans (HT7.out i t h))
        have RA := HR6.out.fillA HQ3.out G7.out HK5.out
        have RB := HR6.out.fillB HQ3.out G7.out HK5.out
        rw [List.append_assoc] at RA RB
        have HRA := Lib.hid RA
        have HRB := Lib.hid RB
        clear RA RB ef
        obtain ⟨s0, s1⟩ := S7
        have HDL := Lib.hid (show (done ++ [r1.1]).length = k + 1 by rw [List.length_append, hdl.out]; rfl)
        refine ordG_twoD 14 17 (by kernel_rfl) (by kernel_rfl) (by kernel_rfl) rfl rfl ?_ ?_
        · go_wp2_with fail
          refine ordG_oneD 17 (by kernel_rfl) (by kernel_rfl) rfl ?_
          go_wp2_with fail
          refine ordG_end (by kernel_rfl) ?_
          go_wp2_with fail
          refine ⟨⟨k + 1, done ++ [r1.1], r1.2, H7, _, by simp, hlt, HQ2, HDL, HRA, HTB7, HTA⟩, ?_⟩
          simp only [Int.toNat_natCast]
          omega
        · go_wp2_with fail
          refine ordG_oneD 14 (by kernel_rfl) (by kernel_rfl) rfl ?_
          go_wp2_with fail
          refine ordG_end (by kernel_rfl) ?_
          go_wp2_with fail
          refine ⟨⟨k + 1, done ++ [r1.1], r1.2, H7, _, by simp, hlt, HQ2, HDL, HRB, HTB7, HTBB⟩, ?_⟩
          simp only [Int.toNat_natCast]
          omega
    · have he : k = n := by omega
      have hge : ((k : Int) < (n : Int)) = False := by simp; omega
      have HE := Lib.hid (show wants s L texts u = (done, u2) by rw [hq.out, List.drop_eq_nil_of_le (by rw [← HN.out]; omega)]; simp [wants])
      clear he hq
      go_wp2_with fail
      go_ret
      exact ⟨rfl, H3, v3, by rw [HE.out]; exact hr.out⟩
end
end Go.Proofs.YtbfkkepdeepdeaaGreatDoor
end
section
namespace Go.Proofs.YtbfkkepdeepdeaaGreatDoor
open Go Go.RowKit Go.Proofs.YtbfkkepdeepdeaaGreatDoorW.PrintWords Go.Proofs.YtbfkkepdeepdeaaGreatDoorW.PrintLast Go.Proofs.YtbfkkepdeepdeaaGreatDoorW.PrintMore
set_option linter.unusedVariables false
set_option linter.unusedSimpArgs false
set_option maxRecDepth 100000
section
variable {w w1 W W' : World} {cb rb : Nat} {s : ByteArray} {A : Option Addr} {c : Nat} {L : List Tok} {u u' : Cu} {H H' H2 : List Nat} {v v' : Value} {l l' : List Nd}
theorem begin_calls (cb : Nat) (w : World) : Calls Tryz.prog 182 #[.pointer (some ⟨cb, 0, none⟩)] w fun e w' => e = .returned (.pointer (some ⟨w.heap.size, 0, none⟩)) ∧ w' = w.alloc (.cells #[.pointer (some ⟨cb, 0, none⟩), .slice none 0 0] 296) := by
  go_enter Tryz.func182, Tryz.ntmps182
  go_wp2_with fail
  go_ret
  exact ⟨rfl, rfl⟩
theorem Rdr.start (R : RdP w cb s A c L u) (G : Good H cb w) : Rdr (w.alloc (.cells #[.pointer (some ⟨cb, 0, none⟩), .slice none 0 0] 296)) w.heap.size (w.heap.size :: H) cb s A c L (w.alloc (.cells #[.pointer (some ⟨cb, 0, none⟩), .slice none 0 0] 296)) u [] (w.heap.size :: H) (.slice none 0 0) := by
  have h : Below w.heap.size w (w.alloc (.cells #[.pointer (some ⟨cb, 0, none⟩), .slice none 0 0] 296)) := (Below.refl _ _).alloc (Nat.le_refl _) _
  have hH : ∀ k, k ∈ w.heap.size :: H → k < (w.alloc (.cells #[.pointer (some ⟨cb, 0, none⟩), .slice none 0 0] 296)).heap.size := fun k hk => by
    simp only [World.size_alloc]
    rcases List.mem_cons.1 hk with e | e
    · omega
    · have := G.all k e; omega
  exact ⟨Keep.refl _ _, R.below h, World.alloc_heap_new _ _, Lst.nil _ hH, List.mem_cons_of_mem _ G.cb, List.mem_cons_self, R.lt, by simp, hH⟩
theorem named_calls (R : RdP w cb s A c L u) (k : Nat) (hk : k ≤ 10) : Calls Tryz.prog 213 #[.pointer (some ⟨cb, 0, none⟩), .int .i64 k] w fun e w' => e = .returned (.bool (named s L u k)) ∧ Below w.heap.size w w' := by
  have HR := Lib.hid R
  clear R
  go_enter Tryz.func213, Tryz.ntmps213
  go_wp2_with fail
  refine (Peek_calls HR.out k hk).mono ?_
  rintro e w2 ⟨rfl, h2⟩
  have H2 := Lib.hid h2
  clear h2
  go_wp2_with fail
  all_goals go_ret
  all_goals exact ⟨by unfold named; simp_all, H2.out⟩
theorem wantX_calls (ts : List ByteArray) {X : Array Value} {n : Nat} (r : Rdr w1 rb H cb s A c L W u l H' v) (hX : X = (ts.map Value.string).toArray) (hn : n = ts.length) (hlen : l.length + n ≤ 100000) :
    Calls Tryz.prog 183 #[.pointer (some ⟨rb, 0, none⟩), .slice (some ⟨W.heap.size, 0, none⟩) n n] (W.alloc (.cells X 9)) fun e W' => e = .returned (.pointer (some ⟨rb, 0, none⟩)) ∧ ∃ H2 v2, Rdr w1 rb H cb s A c L W' (wants s L ts u).2 (l ++ (wants s L ts u).1) H2 v2 := by
  subst hX hn
  refine rwant_calls (r.calm ((Below.refl _ _).alloc (Nat.le_refl _) _)) (fun h => by have := r.lst.lt _ h; omega) (fun i t h => ?_) hlen
  rw [cell_blk (World.alloc_heap_new W (.cells (ts.map Value.string).toArray 9))]
  simp [h]
theorem Keep.unwide {a b : Nat} {w w' : World} (h : Keep [a, b] w w') (hb : w.heap.size ≤ b) : Keep [a] w w' :=
  h.mono (fun k hk hl => by
    rcases List.mem_cons.1 hk with e | e
    · rw [e]; exact List.mem_cons_self
    · rw [List.mem_singleton.1 e] at hl; omega)
theorem wants_len : ∀ (ts : List ByteArray) (u : Cu), (wants s L ts u).1.length = ts.length
  | [], u => rfl
  | t :: r, u => by unfold wants; simp [wants_len r]
set_option maxHeartbeats 1000000 in
theorem Type_calls (R : RdP w cb s A c L u) (G : Good H cb w) : Calls Tryz.prog 152 #[.pointer (some ⟨cb, 0, none⟩)] w (NdRes w cb s A c L H (typ s L u)) := by
  have hcb := R.lt
  obtain ⟨w1, hw1⟩ : ∃ w1, w1 = w.alloc (.cells (aNd zN none 0) 122) := ⟨_, rfl⟩
  have hA1 : Below w.heap.size w w1 := by rw [hw1]; exact (Below.refl _ _).alloc (Nat.le_refl _) _
  have hz1 : w1.heap.size = w.heap.size + 1 := by rw [hw1]; simp
  have HY := Lib.hid (show w1.heap[w.heap.size]? = some (.cells (aNd zN none 0) 122 (0, 0)) by rw [hw1]; exact World.alloc_heap_new w _)
  have HA := Lib.hid (Keep.of_below (H := [cb]) hA1)
  obtain ⟨w2, hw2⟩ : ∃ w2, w2 = w1.alloc (.cells #[.pointer (some ⟨cb, 0, none⟩), .slice none 0 0] 296) := ⟨_, rfl⟩
  have r2 := Rdr.start (R.below hA1) (G.later hA1.size |>.push (b := w.heap.size) (by omega))
  rw [← hw2, hz1] at r2
  have hK2 : Keep [cb] w1 w2 := by rw [hw2]; exact Keep.alloc _ _
  have HK2 := Lib.hid (HA.out.trans hK2)
  have HY2 := Lib.hid ((hK2.block w.heap.size (by omega) (by simp; omega)).trans HY.out)
  have hz2 : w2.heap.size = w.heap.size + 2 := by rw [hw2]; simp [hz1]
  have HR2 := Lib.hid r2
  have x0 := (cell_blk r2.box 0).trans rfl
  clear r2 hA1 R G hK2
  go_enter Tryz.func152, Tryz.ntmps152
  go_wp2_with fail
  refine (begin_calls cb _).mono ?_
  rintro e w2' ⟨rfl, rfl⟩
  rw [show w.alloc (.cells #[.int .i64 0, .string ⟨#[]⟩, .string ⟨#[]⟩, .int .i64 0, .slice none 0 0] 122) = w1 from hw1.symm, ← hw2, hz1]
  clear hw1 hw2
  go_wp2_with fail
  cases hi : isB s L u 0 wInt with
  | true =>
    have HI := Lib.hid hi
    clear hi
    refine (Is_calls HR2.out.rd 0 (by decide) wInt).mono ?_
    rw [HI.out]
    rintro e w3 ⟨rfl, hb3⟩
    have HR3 := Lib.hid (HR2.out.calm hb3)
    clear x0 hb3
    have x0 := (cell_blk HR3.out.box 0).trans rfl
    go_wp2_with fail
    cases hb : isB s L u 1 wLB with
    | true =>
      have HB := Lib.hid hb
      clear hb
      refine (Is_calls HR3.out.rd 1 (by decide) wLB).mono ?_
      rw [HB.out]
      rintro e w4 ⟨rfl, hb4⟩
      have HR4 := Lib.hid (HR3.out.calm hb4)
      clear x0 hb4
      have x0 := (cell_blk HR4.out.box 0).trans rfl
      go_wp2_with fail
      refine (wantX_calls [wInt, wLB, wRB] HR4.out rfl rfl (by  simp <;> omega)).mono ?_
      obtain ⟨r1, hr1⟩ : ∃ r1, r1 = wants s L [wInt, wLB, wRB] u := ⟨_, rfl⟩
      have HE1 := Lib.hid hr1
      have HD1 := Lib.hid (show r1.2.deep = u.deep by rw [hr1]; exact (wants_adv [wInt, wLB, wRB] u).deep)
      have HL1 := Lib.hid (show r1.1.length = 3 by rw [hr1]; exact wants_len _ _)
      rw [← hr1]
      clear hr1 x0
      rintro e w5 ⟨rfl, H5, v5, rr5⟩
      have HR5 := Lib.hid rr5
      clear rr5
      have x0 := (cell_blk HR5.out.box 0).trans rfl
      go_wp2_with fail
      refine (as_calls 9 HR5.out (by have := HL1.out; simp <;> omega)).mono ?_
      obtain ⟨q, hq⟩ : ∃ q : Nd × Cu, q = (asN 9 ([] ++ r1.1) r1.2, r1.2) := ⟨_, rfl⟩
      rw [← hq]
      have HQ := Lib.hid (show typ s L u = q by rw [hq]; unfold typ; rw [if_pos (Or.inl HI.out), show typW s L u = [wInt, wLB, wRB] by unfold typW; rw [if_pos HI.out, if_pos HB.out], HE1.out]; simp)
      clear hq x0
      rintro e w6 ⟨⟨A6, c6, rfl, hl6, hC6⟩, R6, k6⟩
      have hy6 := (k6.block w.heap.size (by have := HR5.out.keep.size; omega) (by simp; omega)).trans ((HR5.out.keep.block w.heap.size (by omega) (by simp; omega)).trans HY2.out)
      obtain ⟨⟨b0, b1, b2, b3, b4⟩, f0, f1, f2, f3, f4⟩ := (Box5.mk hy6).all
      have HYF := Lib.hid hy6
      have HCF := Lib.hid (up_C up_kNd (hole_less (H' := w.heap.size :: H) w6 (fun k hk => List.mem_cons_of_mem _ hk)) hC6)
      have HRF := Lib.hid R6
      have HKF := Lib.hid ((Keep.unwide ((Keep.wide HK2.out).trans HR5.out.keep) (by omega)).trans k6)
      clear hy6 hC6 R6 k6
      go_wp2_with fail
      exact nd_end (n := q.1) (A' := A6) (c' := c6) (u := q.2) (b := w.heap.size) Tryz.results152 rfl HYF.out hl6 HCF.out (Nat.le_refl _) hcb HRF.out HQ.out HKF.out
    | false =>
      have HB := Lib.hid hb
      clear hb
      refine (Is_calls HR3.out.rd 1 (by decide) wLB).mono ?_
      rw [HB.out]
      rintro e w4 ⟨rfl, hb4⟩
      have HR4 := Lib.hid (HR3.out.calm hb4)
      clear x0 hb4
      have x0 := (cell_blk HR4.out.box 0).trans rfl
      go_wp2_with fail
      refine (Is_calls HR4.out.rd 0 (by decide) wInt).mono ?_
      rw [HI.out]
      rintro e w5 ⟨rfl, hb5⟩
      have HR5 := Lib.hid (HR4.out.calm hb5)
      clear x0 hb5
      have x0 := (cell_blk HR5.out.box 0).trans rfl
      go_wp2_with fail
      refine (wantX_calls [wInt] HR5.out rfl rfl (by  simp <;> omega)).mono ?_
      obtain ⟨r1, hr1⟩ : ∃ r1, r1 = wants s L [wInt] u := ⟨_, rfl⟩
      have HE1 := Lib.hid hr1
      have HD1 := Lib.hid (show r1.2.deep = u.deep by rw [hr1]; exact (wants_adv [wInt] u).deep)
      have HL1 := Lib.hid (show r1.1.length = 1 by rw [hr1]; exact wants_len _ _)
      rw [← hr1]
      clear hr1 x0
      rintro e w6 ⟨rfl, H6, v6, rr6⟩
      have HR6 := Lib.hid rr6
      clear rr6
      have x0 := (cell_blk HR6.out.box 0).trans rfl
      go_wp2_with fail
      refine (as_calls 9 HR6.out (by have := HL1.out; simp <;> omega)).mono ?_
      obtain ⟨q, hq⟩ : ∃ q : Nd × Cu, q = (asN 9 ([] ++ r1.1) r1.2, r1.2) := ⟨_, rfl⟩
      rw [← hq]
      have HQ := Lib.hid (show typ s L u = q by rw [hq]; unfold typ; rw [if_pos (Or.inl HI.out), show typW s L u = [wInt] by unfold typW; rw [if_pos HI.out, if_neg (by rw [HB.out]; simp)], HE1.out]; simp)
      clear hq x0
      rintro e w7 ⟨⟨A7, c7, rfl, hl7, hC7⟩, R7, k7⟩
      have hy7 := (k7.block w.heap.size (by have := HR6.out.keep.size; omega) (by simp; omega)).trans ((HR6.out.keep.block w.heap.size (by omega) (by simp; omega)).trans HY2.out)
      obtain ⟨⟨b0, b1, b2, b3, b4⟩, f0, f1, f2, f3, f4⟩ := (Box5.mk hy7).all
      have HYF := Lib.hid hy7
      have HCF := Lib.hid (up_C up_kNd (hole_less (H' := w.heap.size :: H) w7 (fun k hk => List.mem_cons_of_mem _ hk)) hC7)
      have HRF := Lib.hid R7
      have HKF := Lib.hid ((Keep.unwide ((Keep.wide HK2.out).trans HR6.out.keep) (by omega)).trans k7)
      clear hy7 hC7 R7 k7
      go_wp2_with fail
      exact nd_end (n := q.1) (A' := A7) (c' := c7) (u := q.2) (b := w.heap.size) Tryz.results152 rfl HYF.out hl7 HCF.out (Nat.le_refl _) hcb HRF.out HQ.out HKF.out
  | false =>
    have HI := Lib.hid hi
    have HN := Lib.hid (show ¬ isB s L u 0 wInt = true by rw [hi]; simp)
    clear hi
    cases hb : isB s L u 0 wBoolean with
    | true =>
      have HB := Lib.hid hb
      clear hb
      refine (Is_calls HR2.out.rd 0 (by decide) wInt).mono ?_
      rw [HI.out]
      rintro e w3 ⟨rfl, hb3⟩
      have HR3 := Lib.hid (HR2.out.calm hb3)
      clear x0 hb3
      have x0 := (cell_blk HR3.out.box 0).trans rfl
      go_wp2_with fail
      refine (Is_calls HR3.out.rd 0 (by decide) wInt).mono ?_
      rw [HI.out]
      rintro e w4 ⟨rfl, hb4⟩
      have HR4 := Lib.hid (HR3.out.calm hb4)
      clear x0 hb4
      have x0 := (cell_blk HR4.out.box 0).trans rfl
      go_wp2_with fail
      refine (Is_calls HR4.out.rd 0 (by decide) wBoolean).mono ?_
      rw [HB.out]
      rintro e w5 ⟨rfl, hb5⟩
      have HR5 := Lib.hid (HR4.out.calm hb5)
      clear x0 hb5
      have x0 := (cell_blk HR5.out.box 0).trans rfl
      go_wp2_with fail
      refine (wantX_calls [wBoolean] HR5.out rfl rfl (by  simp <;> omega)).mono ?_
      obtain ⟨r1, hr1⟩ : ∃ r1, r1 = wants s L [wBoolean] u := ⟨_, rfl⟩
      have HE1 := Lib.hid hr1
      have HD1 := Lib.hid (show r1.2.deep = u.deep by rw [hr1]; exact (wants_adv [wBoolean] u).deep)
      have HL1 := Lib.hid (show r1.1.length = 1 by rw [hr1]; exact wants_len _ _)
      rw [← hr1]
      clear hr1 x0
      rintro e w6 ⟨rfl, H6, v6, rr6⟩
      have HR6 := Lib.hid rr6
      clear rr6
      have x0 := (cell_blk HR6.out.box 0).trans rfl
      go_wp2_with fail
      refine (as_calls 9 HR6.out (by have := HL1.out; simp <;> omega)).mono ?_
      obtain ⟨q, hq⟩ : ∃ q : Nd × Cu, q = (asN 9 ([] ++ r1.1) r1.2, r1.2) := ⟨_, rfl⟩
      rw [← hq]
      have HQ := Lib.hid (show typ s L u = q by rw [hq]; unfold typ; rw [if_pos (Or.inr HB.out), show typW s L u = [wBoolean] by unfold typW; rw [if_neg HN.out], HE1.out]; simp)
      clear hq x0
      rintro e w7 ⟨⟨A7, c7, rfl, hl7, hC7⟩, R7, k7⟩
      have hy7 := (k7.block w.heap.size (by have := HR6.out.keep.size; omega) (by simp; omega)).trans ((HR6.out.keep.block w.heap.size (by omega) (by simp; omega)).trans HY2.out)
      obtain ⟨⟨b0, b1, b2, b3, b4⟩, f0, f1, f2, f3, f4⟩ := (Box5.mk hy7).all
      have HYF := Lib.hid hy7
      have HCF := Lib.hid (up_C up_kNd (hole_less (H' := w.heap.size :: H) w7 (fun k hk => List.mem_cons_of_mem _ hk)) hC7)
      have HRF := Lib.hid R7
      have HKF := Lib.hid ((Keep.unwide ((Keep.wide HK2.out).trans HR6.out.keep) (by omega)).trans k7)
      clear hy7 hC7 R7 k7
      go_wp2_with fail
      exact nd_end (n := q.1) (A' := A7) (c' := c7) (u := q.2) (b := w.heap.size) Tryz.results152 rfl HYF.out hl7 HCF.out (Nat.le_refl _) hcb HRF.out HQ.out HKF.out
    | false =>
      have HB := Lib.hid hb
      have HM := Lib.hid (show ¬ (isB s L u 0 wInt = true ∨ isB s L u 0 wBoolean = true) by rw [hb, HI.out]; simp)
      clear hb
      refine (Is_calls HR2.out.rd 0 (by decide) wInt).mono ?_
      rw [HI.out]
      rintro e w3 ⟨rfl, hb3⟩
      have HR3 := Lib.hid (HR2.out.calm hb3)
      clear x0 hb3
      have x0 := (cell_blk HR3.out.box 0).trans rfl
      go_wp2_with fail
      refine (Is_calls HR3.out.rd 0 (by decide) wInt).mono ?_
      rw [HI.out]
      rintro e w4 ⟨rfl, hb4⟩
      have HR4 := Lib.hid (HR3.out.calm hb4)
      clear x0 hb4
      have x0 := (cell_blk HR4.out.box 0).trans rfl
      go_wp2_with fail
      refine (Is_calls HR4.out.rd 0 (by decide) wBoolean).mono ?_
      rw [HB.out]
      rintro e w5 ⟨rfl, hb5⟩
      have HR5 := Lib.hid (HR4.out.calm hb5)
      clear x0 hb5
      have x0 := (cell_blk HR5.out.box 0).trans rfl
      go_wp2_with fail
      refine (name_calls HR5.out (by  simp <;> omega)).mono ?_
      obtain ⟨r1, hr1⟩ : ∃ r1, r1 = anyK s L u 4 := ⟨_, rfl⟩
      have HE1 := Lib.hid hr1
      have HD1 := Lib.hid (show r1.2.deep = u.deep by rw [hr1]; exact (any_adv u 4).deep)
      rw [← hr1]
      clear hr1 x0
      rintro e w6 ⟨rfl, H6, v6, rr6⟩
      have HR6 := Lib.hid rr6
      clear rr6
      have x0 := (cell_blk HR6.out.box 0).trans rfl
      go_wp2_with fail
      refine (as_calls 9 HR6.out (by  simp <;> omega)).mono ?_
      obtain ⟨q, hq⟩ : ∃ q : Nd × Cu, q = (asN 9 ([] ++ [r1.1]) r1.2, r1.2) := ⟨_, rfl⟩
      rw [← hq]
      have HQ := Lib.hid (show typ s L u = q by rw [hq]; unfold typ; rw [if_neg HM.out, HE1.out]; rfl)
      clear hq x0
      rintro e w7 ⟨⟨A7, c7, rfl, hl7, hC7⟩, R7, k7⟩
      have hy7 := (k7.block w.heap.size (by have := HR6.out.keep.size; omega) (by simp; omega)).trans ((HR6.out.keep.block w.heap.size (by omega) (by simp; omega)).trans HY2.out)
      obtain ⟨⟨b0, b1, b2, b3, b4⟩, f0, f1, f2, f3, f4⟩ := (Box5.mk hy7).all
      have HYF := Lib.hid hy7
      have HCF := Lib.hid (up_C up_kNd (hole_less (H' := w.heap.size :: H) w7 (fun k hk => List.mem_cons_of_mem _ hk)) hC7)
      have HRF := Lib.hid R7
      have HKF := Lib.hid ((Keep.unwide ((Keep.wide HK2.out).trans HR6.out.keep) (by omega)).trans k7)
      clear hy7 hC7 R7 k7
      go_wp2_with fail
      exact nd_end (n := q.1) (A' := A7) (c' := c7) (u := q.2) (b := w.heap.size) Tryz.results152 rfl HYF.out hl7 HCF.out (Nat.le_refl _) hcb HRF.out HQ.out HKF.out
set_option maxHeartbeats 1000000 in
theorem Var_calls (R : RdP w cb s A c L u) (G : Good H cb w) : Calls Tryz.prog 188 #[.pointer (some ⟨cb, 0, none⟩)] w (NdRes w cb s A c L H (var s L u)) := by
  have hcb := R.lt
  obtain ⟨w1, hw1⟩ : ∃ w1, w1 = w.alloc (.cells (aNd zN none 0) 122) := ⟨_, rfl⟩
  have hA1 : Below w.heap.size w w1 := by rw [hw1]; exact (Below.refl _ _).alloc (Nat.le_refl _) _
  have hz1 : w1.heap.size = w.heap.size + 1 := by rw [hw1]; simp
  have HY := Lib.hid (show w1.heap[w.heap.size]? = some (.cells (aNd zN none 0) 122 (0, 0)) by rw [hw1]; exact World.alloc_heap_new w _)
  have HA := Lib.hid (Keep.of_below (H := [cb]) hA1)
  obtain ⟨w2, hw2⟩ : ∃ w2, w2 = w1.alloc (.cells #[.pointer (some ⟨cb, 0, none⟩), .slice none 0 0] 296) := ⟨_, rfl⟩
  have r2 := Rdr.start (R.below hA1) (G.later hA1.size |>.push (b := w.heap.size) (by omega))
  rw [← hw2, hz1] at r2
  have hK2 : Keep [cb] w1 w2 := by rw [hw2]; exact Keep.alloc _ _
  have HK2 := Lib.hid (HA.out.trans hK2)
  have HY2 := Lib.hid ((hK2.block w.heap.size (by omega) (by simp; omega)).trans HY.out)
  have hz2 : w2.heap.size = w.heap.size + 2 := by rw [hw2]; simp [hz1]
  have HR2 := Lib.hid r2
  have x0 := (cell_blk r2.box 0).trans rfl
  clear r2 hA1 R G hK2
  go_enter Tryz.func188, Tryz.ntmps188
  go_wp2_with fail
  refine (begin_calls cb _).mono ?_
  rintro e w2' ⟨rfl, rfl⟩
  rw [show w.alloc (.cells #[.int .i64 0, .string ⟨#[]⟩, .string ⟨#[]⟩, .int .i64 0, .slice none 0 0] 122) = w1 from hw1.symm, ← hw2, hz1]
  clear hw1 hw2
  go_wp2_with fail
  refine (Type_calls HR2.out.rd HR2.out.good).mono ?_
  obtain ⟨r1, hr1⟩ : ∃ r1, r1 = typ s L u := ⟨_, rfl⟩
  have HE1 := Lib.hid hr1
  have HD1 := Lib.hid (show r1.2.deep = u.deep by rw [hr1]; exact (typ_adv u).deep)
  rw [← hr1]
  clear hr1 x0
  rintro e w3 ⟨⟨A3, c3, rfl, hl3, hC3⟩, R3, k3⟩
  have HR3 := Lib.hid (HR2.out.call R3 k3)
  have HC3 := Lib.hid (one_row HR3.out.good.all hl3 hC3)
  clear R3 k3 hC3 hl3
  go_wp2_with fail
  refine (put_calls (HR3.out.calm ((Below.refl _ _).alloc (Nat.le_refl _) _)) HC3.out (by  simp <;> omega)).mono ?_
  rintro e w4 ⟨rfl, H4, v4, rr4⟩
  have HR4 := Lib.hid rr4
  clear rr4
  have x0 := (cell_blk HR4.out.box 0).trans rfl
  go_wp2_with fail
  refine (name_calls HR4.out (by  simp <;> omega)).mono ?_
  obtain ⟨r2, hr2⟩ : ∃ r2, r2 = anyK s L r1.2 4 := ⟨_, rfl⟩
  have HE2 := Lib.hid hr2
  have HD2 := Lib.hid (show r2.2.deep = u.deep by rw [hr2]; exact ((any_adv r1.2 4).deep.trans HD1.out))
  rw [← hr2]
  clear hr2 x0
  rintro e w5 ⟨rfl, H5, v5, rr5⟩
  have HR5 := Lib.hid rr5
  clear rr5
  have x0 := (cell_blk HR5.out.box 0).trans rfl
  go_wp2_with fail
  refine (wantX_calls [wSemi] HR5.out rfl rfl (by  simp <;> omega)).mono ?_
  obtain ⟨r3, hr3⟩ : ∃ r3, r3 = wants s L [wSemi] r2.2 := ⟨_, rfl⟩
  have HE3 := Lib.hid hr3
  have HD3 := Lib.hid (show r3.2.deep = u.deep by rw [hr3]; exact ((wants_adv [wSemi] r2.2).deep.trans HD2.out))
  have HL3 := Lib.hid (show r3.1.length = 1 by rw [hr3]; exact wants_len _ _)
  rw [← hr3]
  clear hr3 x0
  rintro e w6 ⟨rfl, H6, v6, rr6⟩
  have HR6 := Lib.hid rr6
  clear rr6
  have x0 := (cell_blk HR6.out.box 0).trans rfl
  go_wp2_with fail
  refine (as_calls 8 HR6.out (by have := HL3.out; simp <;> omega)).mono ?_
  obtain ⟨q, hq⟩ : ∃ q : Nd × Cu, q = (asN 8 ((([] ++ [r1.1]) ++ [r2.1]) ++ r3.1) r3.2, r3.2) := ⟨_, rfl⟩
  rw [← hq]
  have HQ := Lib.hid (show var s L u = q by rw [hq]; rw [HE3.out, HE2.out, HE1.out]; unfold var; simp [wants])
  clear hq x0
  rintro e w7 ⟨⟨A7, c7, rfl, hl7, hC7⟩, R7, k7⟩
  have hy7 := (k7.block w.heap.size (by have := HR6.out.keep.size; omega) (by simp; omega)).trans ((HR6.out.keep.block w.heap.size (by omega) (by simp; omega)).trans HY2.out)
  obtain ⟨⟨b0, b1, b2, b3, b4⟩, f0, f1, f2, f3, f4⟩ := (Box5.mk hy7).all
  have HYF := Lib.hid hy7
  have HCF := Lib.hid (up_C up_kNd (hole_less (H' := w.heap.size :: H) w7 (fun k hk => List.mem_cons_of_mem _ hk)) hC7)
  have HRF := Lib.hid R7
  have HKF := Lib.hid ((Keep.unwide ((Keep.wide HK2.out).trans HR6.out.keep) (by omega)).trans k7)
  clear hy7 hC7 R7 k7
  go_wp2_with fail
  exact nd_end (n := q.1) (A' := A7) (c' := c7) (u := q.2) (b := w.heap.size) Tryz.results188 rfl HYF.out hl7 HCF.out (Nat.le_refl _) hcb HRF.out HQ.out HKF.out
end
end Go.Proofs.YtbfkkepdeepdeaaGreatDoor
end
section
namespace Go.Proofs.YtbfkkepdeepdeaaGreatDoor
open Go Go.RowKit Go.Proofs.YtbfkkepdeepdeaaGreatDoorW.PrintWords Go.Proofs.YtbfkkepdeepdeaaGreatDoorW.PrintLast Go.Proofs.YtbfkkepdeepdeaaGreatDoorW.PrintMore
set_option linter.unusedVariables false
set_option linter.unusedSimpArgs false
set_option maxRecDepth 100000
section
variable {w w1 W W' : World} {cb rb : Nat} {s : ByteArray} {A : Option Addr} {c : Nat} {L : List Tok} {u u' : Cu} {H H' H2 : List Nat} {v v' : Value} {l l' : List Nd}
set_option maxHeartbeats 1000000 in
theorem variable_calls (R : RdP w cb s A c L u) : Calls Tryz.prog 187 #[.pointer (some ⟨cb, 0, none⟩)] w fun e w' => e = .returned (.bool (varB s L u)) ∧ Below w.heap.size w w' := by
  have HR0 := Lib.hid R
  have HK0 := Lib.hid (Below.refl w.heap.size w)
  clear R
  cases h0 : isB s L u 0 wInt with
  | true =>
    have HC0 := Lib.hid h0
    clear h0
    have HV := Lib.hid (show varB s L u = true by unfold varB; simp [HC0.out])
    go_enter Tryz.func187, Tryz.ntmps187
    go_wp2_with fail
    refine (Is_calls HR0.out 0 (by decide) wInt).mono ?_
    rw [HC0.out]
    rintro e w1 ⟨rfl, hb1⟩
    have HR1 := Lib.hid (HR0.out.below hb1)
    have HK1 := Lib.hid (below_step HK0.out hb1)
    clear hb1
    go_wp2_with fail
    go_ret
    exact ⟨by rw [HV.out]; rfl, HK1.out⟩
  | false =>
    have HC0 := Lib.hid h0
    clear h0
    cases h1 : isB s L u 0 wBoolean with
    | true =>
      have HC1 := Lib.hid h1
      clear h1
      have HV := Lib.hid (show varB s L u = true by unfold varB; simp [HC0.out, HC1.out])
      go_enter Tryz.func187, Tryz.ntmps187
      go_wp2_with fail
      refine (Is_calls HR0.out 0 (by decide) wInt).mono ?_
      rw [HC0.out]
      rintro e w1 ⟨rfl, hb1⟩
      have HR1 := Lib.hid (HR0.out.below hb1)
      have HK1 := Lib.hid (below_step HK0.out hb1)
      clear hb1
      go_wp2_with fail
      refine (Is_calls HR1.out 0 (by decide) wBoolean).mono ?_
      rw [HC1.out]
      rintro e w2 ⟨rfl, hb2⟩
      have HR2 := Lib.hid (HR1.out.below hb2)
      have HK2 := Lib.hid (below_step HK1.out hb2)
      clear hb2
      go_wp2_with fail
      go_ret
      exact ⟨by rw [HV.out]; rfl, HK2.out⟩
    | false =>
      have HC1 := Lib.hid h1
      clear h1
      cases h2 : named s L u 0 with
      | false =>
        have HC2 := Lib.hid h2
        clear h2
        have HV := Lib.hid (show varB s L u = false by unfold varB; simp [HC0.out, HC1.out, HC2.out])
        go_enter Tryz.func187, Tryz.ntmps187
        go_wp2_with fail
        refine (Is_calls HR0.out 0 (by decide) wInt).mono ?_
        rw [HC0.out]
        rintro e w1 ⟨rfl, hb1⟩
        have HR1 := Lib.hid (HR0.out.below hb1)
        have HK1 := Lib.hid (below_step HK0.out hb1)
        clear hb1
        go_wp2_with fail
        refine (Is_calls HR1.out 0 (by decide) wBoolean).mono ?_
        rw [HC1.out]
        rintro e w2 ⟨rfl, hb2⟩
        have HR2 := Lib.hid (HR1.out.below hb2)
        have HK2 := Lib.hid (below_step HK1.out hb2)
        clear hb2
        go_wp2_with fail
        refine (named_calls HR2.out 0 (by decide)).mono ?_
        rw [HC2.out]
        rintro e w3 ⟨rfl, hb3⟩
        have HR3 := Lib.hid (HR2.out.below hb3)
        have HK3 := Lib.hid (below_step HK2.out hb3)
        clear hb3
        go_wp2_with fail
        go_ret
        exact ⟨by rw [HV.out]; rfl, HK3.out⟩
      | true =>
        have HC2 := Lib.hid h2
        clear h2
        cases h3 : named s L u 1 with
        | false =>
          have HC3 := Lib.hid h3
          clear h3
          have HV := Lib.hid (show varB s L u = false by unfold varB; simp [HC0.out, HC1.out, HC2.out, HC3.out])
          go_enter Tryz.func187, Tryz.ntmps187
          go_wp2_with fail
          refine (Is_calls HR0.out 0 (by decide) wInt).mono ?_
          rw [HC0.out]
          rintro e w1 ⟨rfl, hb1⟩
          have HR1 := Lib.hid (HR0.out.below hb1)
          have HK1 := Lib.hid (below_step HK0.out hb1)
          clear hb1
          go_wp2_with fail
          refine (Is_calls HR1.out 0 (by decide) wBoolean).mono ?_
          rw [HC1.out]
          rintro e w2 ⟨rfl, hb2⟩
          have HR2 := Lib.hid (HR1.out.below hb2)
          have HK2 := Lib.hid (below_step HK1.out hb2)
          clear hb2
          go_wp2_with fail
          refine (named_calls HR2.out 0 (by decide)).mono ?_
          rw [HC2.out]
          rintro e w3 ⟨rfl, hb3⟩
          have HR3 := Lib.hid (HR2.out.below hb3)
          have HK3 := Lib.hid (below_step HK2.out hb3)
          clear hb3
          go_wp2_with fail
          refine (named_calls HR3.out 1 (by decide)).mono ?_
          rw [HC3.out]
          rintro e w4 ⟨rfl, hb4⟩
          have HR4 := Lib.hid (HR3.out.below hb4)
          have HK4 := Lib.hid (below_step HK3.out hb4)
          clear hb4
          go_wp2_with fail
          go_ret
          exact ⟨by rw [HV.out]; rfl, HK4.out⟩
        | true =>
          have HC3 := Lib.hid h3
          clear h3
          have HV := Lib.hid (show varB s L u = true by unfold varB; simp [HC0.out, HC1.out, HC2.out, HC3.out])
          go_enter Tryz.func187, Tryz.ntmps187
          go_wp2_with fail
          refine (Is_calls HR0.out 0 (by decide) wInt).mono ?_
          rw [HC0.out]
          rintro e w1 ⟨rfl, hb1⟩
          have HR1 := Lib.hid (HR0.out.below hb1)
          have HK1 := Lib.hid (below_step HK0.out hb1)
          clear hb1
          go_wp2_with fail
          refine (Is_calls HR1.out 0 (by decide) wBoolean).mono ?_
          rw [HC1.out]
          rintro e w2 ⟨rfl, hb2⟩
          have HR2 := Lib.hid (HR1.out.below hb2)
          have HK2 := Lib.hid (below_step HK1.out hb2)
          clear hb2
          go_wp2_with fail
          refine (named_calls HR2.out 0 (by decide)).mono ?_
          rw [HC2.out]
          rintro e w3 ⟨rfl, hb3⟩
          have HR3 := Lib.hid (HR2.out.below hb3)
          have HK3 := Lib.hid (below_step HK2.out hb3)
          clear hb3
          go_wp2_with fail
          refine (named_calls HR3.out 1 (by decide)).mono ?_
          rw [HC3.out]
          rintro e w4 ⟨rfl, hb4⟩
          have HR4 := Lib.hid (HR3.out.below hb4)
          have HK4 := Lib.hid (below_step HK3.out hb4)
          clear hb4
          go_wp2_with fail
          go_ret
          exact ⟨by rw [HV.out]; rfl, HK4.out⟩
set_option maxHeartbeats 1000000 in
theorem statement_calls (R : RdP w cb s A c L u) : Calls Tryz.prog 178 #[.pointer (some ⟨cb, 0, none⟩)] w fun e w' => e = .returned (.bool (stmtB s L u)) ∧ Below w.heap.size w w' := by
  have HR0 := Lib.hid R
  have HK0 := Lib.hid (Below.refl w.heap.size w)
  clear R
  cases h0 : isB s L u 0 wLC with
  | true =>
    have HC0 := Lib.hid h0
    clear h0
    have HV := Lib.hid (show stmtB s L u = true by unfold stmtB; simp [HC0.out])
    go_enter Tryz.func178, Tryz.ntmps178
    go_wp2_with fail
    refine (Is_calls HR0.out 0 (by decide) wLC).mono ?_
    rw [HC0.out]
    rintro e w1 ⟨rfl, hb1⟩
    have HR1 := Lib.hid (HR0.out.below hb1)
    have HK1 := Lib.hid (below_step HK0.out hb1)
    clear hb1
    go_wp2_with fail
    go_ret
    exact ⟨by rw [HV.out]; rfl, HK1.out⟩
  | false =>
    have HC0 := Lib.hid h0
    clear h0
    cases h1 : isB s L u 0 wIf with
    | true =>
      have HC1 := Lib.hid h1
      clear h1
      have HV := Lib.hid (show stmtB s L u = true by unfold stmtB; simp [HC0.out, HC1.out])
      go_enter Tryz.func178, Tryz.ntmps178
      go_wp2_with fail
      refine (Is_calls HR0.out 0 (by decide) wLC).mono ?_
      rw [HC0.out]
      rintro e w1 ⟨rfl, hb1⟩
      have HR1 := Lib.hid (HR0.out.below hb1)
      have HK1 := Lib.hid (below_step HK0.out hb1)
      clear hb1
      go_wp2_with fail
      refine (Is_calls HR1.out 0 (by decide) wIf).mono ?_
      rw [HC1.out]
      rintro e w2 ⟨rfl, hb2⟩
      have HR2 := Lib.hid (HR1.out.below hb2)
      have HK2 := Lib.hid (below_step HK1.out hb2)
      clear hb2
      go_wp2_with fail
      go_ret
      exact ⟨by rw [HV.out]; rfl, HK2.out⟩
    | false =>
      have HC1 := Lib.hid h1
      clear h1
      cases h2 : isB s L u 0 wWhile with
      | true =>
        have HC2 := Lib.hid h2
        clear h2
        have HV := Lib.hid (show stmtB s L u = true by unfold stmtB; simp [HC0.out, HC1.out, HC2.out])
        go_enter Tryz.func178, Tryz.ntmps178
        go_wp2_with fail
        refine (Is_calls HR0.out 0 (by decide) wLC).mono ?_
        rw [HC0.out]
        rintro e w1 ⟨rfl, hb1⟩
        have HR1 := Lib.hid (HR0.out.below hb1)
        have HK1 := Lib.hid (below_step HK0.out hb1)
        clear hb1
        go_wp2_with fail
        refine (Is_calls HR1.out 0 (by decide) wIf).mono ?_
        rw [HC1.out]
        rintro e w2 ⟨rfl, hb2⟩
        have HR2 := Lib.hid (HR1.out.below hb2)
        have HK2 := Lib.hid (below_step HK1.out hb2)
        clear hb2
        go_wp2_with fail
        refine (Is_calls HR2.out 0 (by decide) wWhile).mono ?_
        rw [HC2.out]
        rintro e w3 ⟨rfl, hb3⟩
        have HR3 := Lib.hid (HR2.out.below hb3)
        have HK3 := Lib.hid (below_step HK2.out hb3)
        clear hb3
        go_wp2_with fail
        go_ret
        exact ⟨by rw [HV.out]; rfl, HK3.out⟩
      | false =>
        have HC2 := Lib.hid h2
        clear h2
        cases h3 : isB s L u 0 wPrint with
        | true =>
          have HC3 := Lib.hid h3
          clear h3
          have HV := Lib.hid (show stmtB s L u = true by unfold stmtB; simp [HC0.out, HC1.out, HC2.out, HC3.out])
          go_enter Tryz.func178, Tryz.ntmps178
          go_wp2_with fail
          refine (Is_calls HR0.out 0 (by decide) wLC).mono ?_
          rw [HC0.out]
          rintro e w1 ⟨rfl, hb1⟩
          have HR1 := Lib.hid (HR0.out.below hb1)
          have HK1 := Lib.hid (below_step HK0.out hb1)
          clear hb1
          go_wp2_with fail
          refine (Is_calls HR1.out 0 (by decide) wIf).mono ?_
          rw [HC1.out]
          rintro e w2 ⟨rfl, hb2⟩
          have HR2 := Lib.hid (HR1.out.below hb2)
          have HK2 := Lib.hid (below_step HK1.out hb2)
          clear hb2
          go_wp2_with fail
          refine (Is_calls HR2.out 0 (by decide) wWhile).mono ?_
          rw [HC2.out]
          rintro e w3 ⟨rfl, hb3⟩
          have HR3 := Lib.hid (HR2.out.below hb3)
          have HK3 := Lib.hid (below_step HK2.out hb3)
          clear hb3
          go_wp2_with fail
          refine (Is_calls HR3.out 0 (by decide) wPrint).mono ?_
          rw [HC3.out]
          rintro e w4 ⟨rfl, hb4⟩
          have HR4 := Lib.hid (HR3.out.below hb4)
          have HK4 := Lib.hid (below_step HK3.out hb4)
          clear hb4
          go_wp2_with fail
          go_ret
          exact ⟨by rw [HV.out]; rfl, HK4.out⟩
        | false =>
          have HC3 := Lib.hid h3
          clear h3
          cases h4 : named s L u 0 with
          | true =>
            have HC4 := Lib.hid h4
            clear h4
            have HV := Lib.hid (show stmtB s L u = true by unfold stmtB; simp [HC0.out, HC1.out, HC2.out, HC3.out, HC4.out])
            go_enter Tryz.func178, Tryz.ntmps178
            go_wp2_with fail
            refine (Is_calls HR0.out 0 (by decide) wLC).mono ?_
            rw [HC0.out]
            rintro e w1 ⟨rfl, hb1⟩
            have HR1 := Lib.hid (HR0.out.below hb1)
            have HK1 := Lib.hid (below_step HK0.out hb1)
            clear hb1
            go_wp2_with fail
            refine (Is_calls HR1.out 0 (by decide) wIf).mono ?_
            rw [HC1.out]
            rintro e w2 ⟨rfl, hb2⟩
            have HR2 := Lib.hid (HR1.out.below hb2)
            have HK2 := Lib.hid (below_step HK1.out hb2)
            clear hb2
            go_wp2_with fail
            refine (Is_calls HR2.out 0 (by decide) wWhile).mono ?_
            rw [HC2.out]
            rintro e w3 ⟨rfl, hb3⟩
            have HR3 := Lib.hid (HR2.out.below hb3)
            have HK3 := Lib.hid (below_step HK2.out hb3)
            clear hb3
            go_wp2_with fail
            refine (Is_calls HR3.out 0 (by decide) wPrint).mono ?_
            rw [HC3.out]
            rintro e w4 ⟨rfl, hb4⟩
            have HR4 := Lib.hid (HR3.out.below hb4)
            have HK4 := Lib.hid (below_step HK3.out hb4)
            clear hb4
            go_wp2_with fail
            refine (named_calls HR4.out 0 (by decide)).mono ?_
            rw [HC4.out]
            rintro e w5 ⟨rfl, hb5⟩
            have HR5 := Lib.hid (HR4.out.below hb5)
            have HK5 := Lib.hid (below_step HK4.out hb5)
            clear hb5
            go_wp2_with fail
            go_ret
            exact ⟨by rw [HV.out]; rfl, HK5.out⟩
          | false =>
            have HC4 := Lib.hid h4
            clear h4
            have HV := Lib.hid (show stmtB s L u = false by unfold stmtB; simp [HC0.out, HC1.out, HC2.out, HC3.out, HC4.out])
            go_enter Tryz.func178, Tryz.ntmps178
            go_wp2_with fail
            refine (Is_calls HR0.out 0 (by decide) wLC).mono ?_
            rw [HC0.out]
            rintro e w1 ⟨rfl, hb1⟩
            have HR1 := Lib.hid (HR0.out.below hb1)
            have HK1 := Lib.hid (below_step HK0.out hb1)
            clear hb1
            go_wp2_with fail
            refine (Is_calls HR1.out 0 (by decide) wIf).mono ?_
            rw [HC1.out]
            rintro e w2 ⟨rfl, hb2⟩
            have HR2 := Lib.hid (HR1.out.below hb2)
            have HK2 := Lib.hid (below_step HK1.out hb2)
            clear hb2
            go_wp2_with fail
            refine (Is_calls HR2.out 0 (by decide) wWhile).mono ?_
            rw [HC2.out]
            rintro e w3 ⟨rfl, hb3⟩
            have HR3 := Lib.hid (HR2.out.below hb3)
            have HK3 := Lib.hid (below_step HK2.out hb3)
            clear hb3
            go_wp2_with fail
            refine (Is_calls HR3.out 0 (by decide) wPrint).mono ?_
            rw [HC3.out]
            rintro e w4 ⟨rfl, hb4⟩
            have HR4 := Lib.hid (HR3.out.below hb4)
            have HK4 := Lib.hid (below_step HK3.out hb4)
            clear hb4
            go_wp2_with fail
            refine (named_calls HR4.out 0 (by decide)).mono ?_
            rw [HC4.out]
            rintro e w5 ⟨rfl, hb5⟩
            have HR5 := Lib.hid (HR4.out.below hb5)
            have HK5 := Lib.hid (below_step HK4.out hb5)
            clear hb5
            go_wp2_with fail
            go_ret
            exact ⟨by rw [HV.out]; rfl, HK5.out⟩
end
end Go.Proofs.YtbfkkepdeepdeaaGreatDoor
end
section
namespace Go.Proofs.YtbfkkepdeepdeaaGreatDoor
open Go Go.RowKit Go.Proofs.YtbfkkepdeepdeaaGreatDoorW.PrintWords Go.Proofs.YtbfkkepdeepdeaaGreatDoorW.PrintLast Go.Proofs.YtbfkkepdeepdeaaGreatDoorW.PrintMore
set_option linter.unusedVariables false
set_option linter.unusedSimpArgs false
set_option maxRecDepth 100000
section
variable {w w1 W W' : World} {cb rb : Nat} {s : ByteArray} {A : Option Addr} {c : Nat} {L : List Tok} {u u' : Cu} {H H' H2 : List Nat} {v v' : Value} {l l' : List Nd}
theorem failB_left (u : Cu) (e : Int) (he : e ≠ 0) : left L (failB s L u e) = 0 := by
  unfold failB
  split
  · unfold left; rw [if_neg he]
  · rename_i h; unfold left; rw [if_neg h]
theorem left_tok {u : Cu} (h : 0 < left L u) : ∃ t, tokAt L u 0 = some t := by
  unfold left at h
  split at h
  · rename_i e
    refine ⟨L[u.next]'(by omega), ?_⟩
    unfold tokAt; rw [if_pos e]; exact List.getElem?_eq_getElem _
  · omega
theorem take_left {u : Cu} (b : Bool) (h : 0 < left L u) : left L (take s L u b).2 < left L u := by
  obtain ⟨t, ht⟩ := left_tok h
  unfold take
  rw [ht]
  cases b with
  | false => show left L (failB s L u 2) < _; rw [failB_left _ _ (by decide)]; exact h
  | true =>
    obtain ⟨e, hn⟩ := tokAt_zero ht
    show left L { u with next := u.next + 1 } < left L u
    show (if u.err = 0 then L.length - (u.next + 1) else 0) < (if u.err = 0 then L.length - u.next else 0)
    rw [if_pos e, if_pos e]; omega
theorem wants_left (t : ByteArray) (r : List ByteArray) (u : Cu) (h : 0 < left L u) : left L (wants s L (t :: r) u).2 < left L u := by
  unfold wants
  exact Nat.lt_of_le_of_lt (wants_adv r _).leftLe (take_left _ h)
theorem typ_left (u : Cu) (h : 0 < left L u) : left L (typ s L u).2 < left L u := by
  unfold typ
  split
  · have : ∃ t r, typW s L u = t :: r := by
      unfold typW; split
      · split <;> exact ⟨_, _, rfl⟩
      · exact ⟨_, _, rfl⟩
    obtain ⟨t, r, e⟩ := this
    rw [e]; exact wants_left t r u h
  · exact take_left _ h
theorem var_left (u : Cu) (h : 0 < left L u) : left L (var s L u).2 < left L u :=
  Nat.lt_of_le_of_lt ((any_adv _ _).trans (want_adv _ _)).leftLe (typ_left u h)
theorem isB_pos {u : Cu} {t : ByteArray} (h : isB s L u 0 t = true) : 0 < left L u := by
  rcases Nat.eq_zero_or_pos (left L u) with e | e
  · rw [isB_left e] at h; cases h
  · exact e
theorem named_pos {u : Cu} (h : named s L u 0 = true) : 0 < left L u := by
  rcases Nat.eq_zero_or_pos (left L u) with e | e
  · unfold named peek at h
    cases ht : tokAt L u 0 with
    | none => rw [ht] at h; cases h
    | some t => exact left_pos ht
  · exact e
theorem varB_pos {u : Cu} (h : varB s L u = true) : 0 < left L u := by
  unfold varB at h
  simp only [Bool.or_eq_true, Bool.and_eq_true] at h
  rcases h with h | h | h
  · exact isB_pos h
  · exact isB_pos h
  · exact named_pos h.1
theorem stmtB_pos {u : Cu} (h : stmtB s L u = true) : 0 < left L u := by
  unfold stmtB at h
  simp only [Bool.or_eq_true] at h
  rcases h with h | h | h | h | h
  · exact isB_pos h
  · exact isB_pos h
  · exact isB_pos h
  · exact isB_pos h
  · exact named_pos h
theorem sevLoop_end {b : Cu → Bool} {rd : Cu → Nd × Cu} {f : Nat} {l : List Nd} {u : Cu} (h : b u = false) : sevLoop b rd f l u = (l, u) := by
  cases f with
  | zero => rfl
  | succ f => unfold sevLoop; rw [if_neg (by rw [h]; simp)]
set_option maxHeartbeats 1000000 in
theorem several_calls {b : Cu → Bool} {rd : Cu → Nd × Cu} {fb fr : FuncId} (hFb : ∀ args W, (callFunc fb args).run Tryz.prog W = .ok (.enter fb args) W) (hFr : ∀ args W, (callFunc fr args).run Tryz.prog W = .ok (.enter fr args) W)
    (hB : ∀ W u2, RdP W cb s A c L u2 → Calls Tryz.prog fb #[.pointer (some ⟨cb, 0, none⟩)] W fun e w' => e = .returned (.bool (b u2)) ∧ Below W.heap.size W w')
    (hR : ∀ W u2 H2, RdP W cb s A c L u2 → u2.deep = u.deep → Good H2 cb W → Calls Tryz.prog fr #[.pointer (some ⟨cb, 0, none⟩)] W (NdRes W cb s A c L H2 (rd u2)))
    (hA : ∀ u, Adv L u (rd u).2) (hP : ∀ u, b u = true → left L (rd u).2 < left L u) (R : RdP w cb s A c L u) (G : Good H cb w) :
    Calls Tryz.prog 177 #[.pointer (some ⟨cb, 0, none⟩), .func (.func fb) #[] #[], .func (.func fr) #[] #[]] w (LsRes w cb s A c L H (several L b rd u)) := by
  have hcb := R.lt
  have hll := R.fit.len
  have HB := Lib.hid hB
  have HR := Lib.hid hR
  have HAD := Lib.hid hA
  have HP := Lib.hid hP
  have HG := Lib.hid G
  have HR0 := Lib.hid R
  clear hB hR hA hP G R
  go_enter Tryz.func177, Tryz.ntmps177
  go_wp2_with fail
  go_loopw [7] (fun v wr => ∃ (f : Nat) (l : List Nd) (u2 : Cu) (H2 : List Nat), left L u2 ≤ f ∧ l.length + f ≤ L.length + 1 ∧ Hid (sevLoop b rd (L.length + 1) [] u = sevLoop b rd f l u2) ∧ Hid (u2.deep = u.deep) ∧ Hid (Lst w.heap.size H wr H2 v l) ∧ Hid (RdP wr cb s A c L u2) ∧ Hid (Keep [cb] w wr)) (fun v wr => leftW cb L.length wr)
  case atStart =>
    have h0 : left L u ≤ L.length + 1 := by unfold left; split <;> omega
    exact ⟨L.length + 1, [], u, H, h0, by simp, Lib.hid rfl, Lib.hid rfl, Lib.hid (Lst.nil _ HG.out.all), HR0, Lib.hid (Keep.refl _ _)⟩
  case round =>
    obtain ⟨f, l, u2, H2, hf, hlen, hq, hdp, hL, hR, hK⟩ := hrel
    cases hb : b u2 with
    | false =>
      have HBV := Lib.hid hb
      have HQ := Lib.hid (show sevLoop b rd (L.length + 1) [] u = (l, u2) by rw [hq.out, sevLoop_end hb])
      clear hb hq
      go_wp2_with fail
      refine (HB.out _ _ hR.out).mono ?_
      rw [HBV.out]
      rintro e w3 ⟨rfl, h3⟩
      have HR3 := Lib.hid (hR.out.below h3)
      have HL3 := Lib.hid (hL.out.keep (Keep.of_below h3) HG.out.cb (by omega))
      have HK3 := Lib.hid (hK.out.trans (Keep.of_below h3))
      clear h3
      go_wp2_with fail
      refine (Failed_calls HR3.out).mono ?_
      rintro e w4 ⟨pp, rfl, -, h4⟩
      have HR4 := Lib.hid (HR3.out.below h4)
      have HL4 := Lib.hid (HL3.out.keep (Keep.of_below h4) HG.out.cb (by omega))
      have HK4 := Lib.hid (HK3.out.trans (Keep.of_below h4))
      clear h4
      by_cases e0 : u2.err = 0
      · have HS := Lib.hid (show several L b rd u = (l, u2) by unfold several; rw [HQ.out, if_pos e0])
        rw [show errV u2.err = .nilIface by unfold errV; rw [if_pos e0]]
        clear e0
        go_wp2_with fail
        go_ret
        exact ⟨⟨_, _, rfl, by rw [HS.out]; exact HL4.out⟩, by rw [HS.out]; exact HR4.out, HK4.out⟩
      · have HS := Lib.hid (show several L b rd u = ([], u2) by unfold several; rw [HQ.out, if_neg e0])
        rw [show errV u2.err = .iface 77 (.int .i64 u2.err) by unfold errV; rw [if_neg e0]]
        clear e0
        go_wp2_with fail
        go_ret
        exact ⟨⟨_, H, rfl, by rw [HS.out]; exact Lst.nil _ (HG.out.later HK4.out.size).all⟩, by rw [HS.out]; exact HR4.out, HK4.out⟩
    | true =>
      have hp := HP.out u2 hb
      have hpos : 0 < f := by omega
      obtain ⟨g, rfl⟩ : ∃ g, f = g + 1 := ⟨f - 1, by omega⟩
      have HBV := Lib.hid hb
      have HQ := Lib.hid (show sevLoop b rd (L.length + 1) [] u = sevLoop b rd g (l ++ [(rd u2).1]) (rd u2).2 by rw [hq.out]; conv => lhs; unfold sevLoop; rw [if_pos hb])
      have HD2 := Lib.hid ((HAD.out u2).deep.trans hdp.out)
      obtain ⟨r1, hr1⟩ : ∃ r1, r1 = rd u2 := ⟨_, rfl⟩
      rw [← hr1] at hp HQ HD2
      have HR1 := Lib.hid hr1
      obtain ⟨A4, c4, e4, -⟩ := hL.out.row.slice_
      subst e4
      clear hb hq hr1
      go_wp2_with fail
      refine (HB.out _ _ hR.out).mono ?_
      rw [HBV.out]
      rintro e w3 ⟨rfl, h3⟩
      have HR3 := Lib.hid (hR.out.below h3)
      have HL3 := Lib.hid (hL.out.keep (Keep.of_below h3) HG.out.cb (by omega))
      have HK3 := Lib.hid (hK.out.trans (Keep.of_below h3))
      clear h3
      go_wp2_with fail
      refine (HR.out _ _ _ HR3.out hdp.out (HL3.out.good HG.out.cb)).mono ?_
      rw [← HR1.out]
      rintro e w5 ⟨⟨A5, c5, rfl, hl5, hC5⟩, R5, k5⟩
      have HL5 := Lib.hid (HL3.out.keep k5 HG.out.cb (by omega))
      have HK5 := Lib.hid (HK3.out.trans k5)
      have HR5 := Lib.hid R5
      have HC5 := Lib.hid hC5
      have Hl5 := Lib.hid hl5
      have HB5 := Lib.hid HK5.out.size
      have HN5 := Lib.hid (show l.length + 1 ≤ 1000000 by omega)
      clear R5 k5 hC5 hl5
      go_wp2_with ((with_reducible refine gate_builtin (b := .append) (xs := #[.tmp 13, .tmp 17]) rfl ?_); at_builtin; refine Lst.appendOne HL5.out rfl (.tmp 13) (.tmp 17) rfl rfl rfl Hl5.out HC5.out HB5.out HN5.out ?_; intro v6 w6 H6 hL6 hs6 hg6; (obtain ⟨A6, c6, e6, -⟩ := hL6.row.slice_); (obtain ⟨q6, hq6⟩ : ∃ q, q = (l ++ [r1.1]).length := ⟨_, rfl⟩); rw [← hq6] at e6; clear hq6; subst e6; have HL6 := Lib.hid hL6; have HG6 := Lib.hid hg6; have HR6 := Lib.hid (HR5.out.move (hg6.block cb HR5.out.lt (fun e => by have := HL5.out.base _ e.symm; omega)) (fun k hk => hg6.block k (by have := HR5.out.lt; omega) (fun e => by have := HL5.out.base _ e.symm; omega))); clear hL6 hg6)
      have HK6 := Lib.hid (HK5.out.lst HL5.out HG6.out (Nat.le_refl _))
      have hlm : (l ++ [r1.1]).length + g ≤ L.length + 1 := by simp; omega
      have hlf : left L r1.2 ≤ g := by omega
      refine ⟨⟨g, l ++ [r1.1], r1.2, H6, hlf, hlm, HQ, HD2, HL6, HR6, HK6⟩, ?_⟩
      rw [HR6.out.leftW, hR.out.leftW]; exact hp
theorem Vars_calls (R : RdP w cb s A c L u) (G : Good H cb w) : Calls Tryz.prog 154 #[.pointer (some ⟨cb, 0, none⟩)] w (LsRes w cb s A c L H (vars s L u)) := by
  have HR0 := Lib.hid R
  have HG := Lib.hid G
  clear R G
  go_enter Tryz.func154, Tryz.ntmps154
  go_wp2_with fail
  refine (several_calls (b := varB s L) (rd := var s L) (enters_of Tryz.func187 (by kernel_rfl) rfl) (enters_of Tryz.func188 (by kernel_rfl) rfl) (fun W u2 R2 => variable_calls R2) (fun W u2 H2 R2 _ G2 => Var_calls R2 G2) (fun u => var_adv u) (fun u h => var_left u (varB_pos h)) HR0.out HG.out).mono ?_
  rintro e w3 ⟨⟨v3, H3, rfl, hL3⟩, R3, k3⟩
  have HL3 := Lib.hid hL3
  have HR3 := Lib.hid R3
  have HK3 := Lib.hid k3
  clear hL3 R3 k3
  go_wp2_with fail
  go_ret
  exact ⟨⟨_, _, rfl, HL3.out⟩, HR3.out, HK3.out⟩
end
end Go.Proofs.YtbfkkepdeepdeaaGreatDoor
end
