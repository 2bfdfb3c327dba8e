/- A part of the proof: The row of ClassAlone: for every input the statement returns true; and its card. -/
import Derived.Shelf.Abstract
import Derived.Shelf.Small.Bits
import Derived.Shelf.Small.Strs
import Derived.Shelf.Small.Wraps
import Derived.Shelf.Strconv.Atoi
import Derived.Shelf.Strconv.Itoa0
import Derived.Shelf.Strconv.Itoa1
import Derived.Shelf.LaysM
import Derived.Shelf.Strconv.Itoa2
import Derived.Shelf.Strconv.Itoa3
import Derived.Shelf.Strconv.AtoiErrFast
import Derived.Shelf.Strconv.ParseIntEmpty
import Derived.Shelf.Strconv.AtoiFail
import Derived.Shelf.Strconv.Clone
import Derived.Shelf.Strconv.SyntaxError
import Derived.Shelf.LaysC
import Derived.Shelf.Strconv.ToError
import Derived.Shelf.Strconv.Lower
import Derived.Shelf.Strconv.ParseUint10
import Derived.Shelf.Strconv.ParseUint10Empty
import Derived.Shelf.Strconv.ParseUint10Any
import Derived.Shelf.Strconv.ParseInt10
import Derived.Shelf.Strconv.AtoiLong
import Derived.Shelf.Strconv.AtoiInnerAll
import Derived.Shelf.Strconv.RangeError
import Derived.Shelf.Strconv.ToErrorRange
import Derived.Shelf.Strconv.AtoiAll
import Derived.Shelf.Strconv.ErrVarAll
import Derived.Shelf.Strings.Search1
import Derived.Shelf.Strings.Search2
import Derived.Shelf.Strings.Search3
import Derived.Shelf.Strings.Cut
import Derived.Shelf.Strings.Shaped
import Derived.Shelf.GgClosure.StringsIndexFunc
import Derived.Ground.GgwProg
import Derived.Shelf.GgClosure.StringsIndexFuncTop
import Derived.Shelf.GgClosure.StringsRunes
import Derived.Shelf.Strings.Prefix
import Derived.Shelf.Slices.Turned
import Derived.Test.YtbfkkepdeepdeaaGreatDoorProg
import Derived.RangeFuncNested
import Derived.RangeFuncBound
import Derived.RangeFuncCalls
import Derived.RangeFuncLeaves
import Derived.Shelf.RegionOpen
import Derived.WalkKit
import Derived.OwnWalkIn
import Derived.TacticsInMore
import Derived.LoopNIn
import Derived.LoopIn
import Derived.Test.YtbfkkepdeepdeaaGreatDoorPk2
section
namespace Go.Proofs.YtbfkkepdeepdeaaGreatDoor
open Go Go.RowKit Go.Proofs.YtbfkkepdeepdeaaGreatDoorW.PrintWords Go.Proofs.YtbfkkepdeepdeaaGreatDoorW.PrintLast Go.Proofs.YtbfkkepdeepdeaaGreatDoorW.PrintMore
set_option linter.unusedVariables false
set_option linter.unusedSimpArgs false
set_option maxRecDepth 100000
section
variable {w w1 W W' : World} {cb rb : Nat} {s : ByteArray} {A : Option Addr} {c : Nat} {L : List Tok} {u u' : Cu} {H H' H2 : List Nat} {v v' : Value} {l l' : List Nd}
theorem sevLoop_len (b : Cu → Bool) (rd : Cu → Nd × Cu) : ∀ (f : Nat) (l : List Nd) (u : Cu), (sevLoop b rd f l u).1.length ≤ l.length + f
  | 0, l, u => Nat.le_refl _
  | f + 1, l, u => by
    unfold sevLoop
    split
    · refine Nat.le_trans (sevLoop_len b rd f _ _) ?_
      simp only [List.length_append, List.length_singleton]; omega
    · show l.length ≤ _; omega
theorem several_len (b : Cu → Bool) (rd : Cu → Nd × Cu) (hL : L.length ≤ 4000) (u : Cu) : (several L b rd u).1.length ≤ 4001 := by
  unfold several
  show (if _ then (sevLoop b rd (L.length + 1) [] u).1 else []).length ≤ 4001
  split
  · refine Nat.le_trans (sevLoop_len b rd _ _ _) ?_
    simp; omega
  · simp
theorem Stmts_calls {st : Cu → Nd × Cu} (hS : ∀ W u2 H2, RdP W cb s A c L u2 → u2.deep = u.deep → Good H2 cb W → Calls Tryz.prog 179 #[.pointer (some ⟨cb, 0, none⟩)] W (NdRes W cb s A c L H2 (st u2))) (hA : ∀ u, Adv L u (st u).2) (hP : ∀ u, 0 < left L u → left L (st u).2 < left L u) (R : RdP w cb s A c L u) (G : Good H cb w) : Calls Tryz.prog 148 #[.pointer (some ⟨cb, 0, none⟩)] w (LsRes w cb s A c L H (stmtsF s L st u)) := by
  have HR0 := Lib.hid R
  have HG := Lib.hid G
  have HS := Lib.hid hS
  have HA := Lib.hid hA
  have HP := Lib.hid hP
  clear R G hS hA hP
  go_enter Tryz.func148, Tryz.ntmps148
  go_wp2_with fail
  refine (several_calls (b := stmtB s L) (rd := st) (enters_of Tryz.func178 (by kernel_rfl) rfl) (enters_of Tryz.func179 (by kernel_rfl) rfl) (fun W u2 R2 => statement_calls R2) HS.out HA.out (fun u h => HP.out u (stmtB_pos h)) HR0.out HG.out).mono ?_
  rintro e w3 ⟨⟨v3, H3, rfl, hL3⟩, R3, k3⟩
  have HL3 := Lib.hid hL3
  have HR3 := Lib.hid R3
  have HK3 := Lib.hid k3
  clear hL3 R3 k3
  go_wp2_with fail
  go_ret
  exact ⟨⟨_, _, rfl, HL3.out⟩, HR3.out, HK3.out⟩
set_option maxHeartbeats 4000000 in
theorem sone_calls {st : Cu → Nd × Cu} {d : Nat} (hd : u.deep + d = 200) (hS : ∀ W u2 H2, RdP W cb s A c L u2 → u2.deep = u.deep → Good H2 cb W → Calls Tryz.prog 179 #[.pointer (some ⟨cb, 0, none⟩)] W (NdRes W cb s A c L H2 (st u2))) (hA : ∀ u, Adv L u (st u).2) (hP : ∀ u, 0 < left L u → left L (st u).2 < left L u) (R : RdP w cb s A c L u) (G : Good H cb w) : Calls Tryz.prog 215 #[.pointer (some ⟨cb, 0, none⟩)] w (NdRes w cb s A c L H (oneF s L st (exprD s L d) u)) := by
  have hcb := R.lt
  obtain ⟨w1, hw1⟩ : ∃ w1, w1 = w.alloc (.cells (aNd zN none 0) 122) := ⟨_, rfl⟩
  have hA1 : Below w.heap.size w w1 := by rw [hw1]; exact (Below.refl _ _).alloc (Nat.le_refl _) _
  have hz1 : w1.heap.size = w.heap.size + 1 := by rw [hw1]; simp
  have HY := Lib.hid (show w1.heap[w.heap.size]? = some (.cells (aNd zN none 0) 122 (0, 0)) by rw [hw1]; exact World.alloc_heap_new w _)
  have HA := Lib.hid (Keep.of_below (H := [cb]) hA1)
  obtain ⟨w2, hw2⟩ : ∃ w2, w2 = w1.alloc (.cells #[.pointer (some ⟨cb, 0, none⟩), .slice none 0 0] 296) := ⟨_, rfl⟩
  have r2 := Rdr.start (R.below hA1) (G.later hA1.size |>.push (b := w.heap.size) (by omega))
  rw [← hw2, hz1] at r2
  have hK2 : Keep [cb] w1 w2 := by rw [hw2]; exact Keep.alloc _ _
  have HK2 := Lib.hid (HA.out.trans hK2)
  have HY2 := Lib.hid ((hK2.block w.heap.size (by omega) (by simp; omega)).trans HY.out)
  have hz2 : w2.heap.size = w.heap.size + 2 := by rw [hw2]; simp [hz1]
  have HR2 := Lib.hid r2
  have x0 := (cell_blk r2.box 0).trans rfl
  have HDD := Lib.hid hd
  have HS := Lib.hid hS
  have HAD := Lib.hid hA
  have HP := Lib.hid hP
  have HDzero := Lib.hid (show u.deep = u.deep from rfl)
  have HLL := Lib.hid R.fit.len
  clear hd hS hA hP
  clear r2 hA1 R G hK2
  go_enter Tryz.func215, Tryz.ntmps215
  go_wp2_with fail
  refine (begin_calls cb _).mono ?_
  rintro e w2' ⟨rfl, rfl⟩
  rw [show w.alloc (.cells #[.int .i64 0, .string ⟨#[]⟩, .string ⟨#[]⟩, .int .i64 0, .slice none 0 0] 122) = w1 from hw1.symm, ← hw2, hz1]
  clear hw1 hw2
  go_wp2_with fail
  cases h1 : isB s L u 0 wLC with
  | true =>
    have C1 := Lib.hid h1
    clear h1
    refine (Is_calls HR2.out.rd 0 (by decide) wLC).mono ?_
    rw [C1.out]
    rintro e w3 ⟨rfl, hb3⟩
    have HR3 := Lib.hid (HR2.out.calm hb3)
    clear x0 hb3
    have x0 := (cell_blk HR3.out.box 0).trans rfl
    go_wp2_with fail
    refine (wantX_calls [wLC] HR3.out rfl rfl (by  simp <;> omega)).mono ?_
    obtain ⟨r1, hr1⟩ : ∃ r1, r1 = wants s L [wLC] u := ⟨_, rfl⟩
    have HE1 := Lib.hid hr1
    have HD1 := Lib.hid (show r1.2.deep = u.deep by rw [hr1]; exact (wants_adv [wLC] u).deep)
    have HL1 := Lib.hid (show r1.1.length = 1 by rw [hr1]; exact wants_len _ _)
    rw [← hr1]
    clear hr1 x0
    rintro e w4 ⟨rfl, H4, v4, rr4⟩
    have HR4 := Lib.hid rr4
    clear rr4
    have x0 := (cell_blk HR4.out.box 0).trans rfl
    go_wp2_with fail
    refine (Stmts_calls (st := st) (fun W u2 H2 a b g => HS.out W u2 H2 a (by rw [b, HD1.out]) g) HAD.out HP.out HR4.out.rd HR4.out.good).mono ?_
    obtain ⟨r2, hr2⟩ : ∃ r2, r2 = stmtsF s L st r1.2 := ⟨_, rfl⟩
    have HE2 := Lib.hid hr2
    have HD2 := Lib.hid (show r2.2.deep = u.deep by rw [hr2]; exact ((stmtsF_adv HAD.out r1.2).deep.trans HD1.out))
    have HL2 := Lib.hid (show r2.1.length ≤ 4001 by rw [hr2]; exact several_len _ _ HLL.out _)
    rw [← hr2]
    clear hr2 x0
    rintro e w5 ⟨⟨vv5, HH5, rfl, hL5⟩, R5, k5⟩
    obtain ⟨A5, c5, rfl, -, hC5⟩ := hL5.reads HR4.out.good.all
    have HR5 := Lib.hid (HR4.out.call R5 k5)
    have HC5 := Lib.hid hC5
    clear R5 k5 hC5 hL5
    go_wp2_with fail
    refine (put_calls HR5.out HC5.out (by have := HL1.out; have := HL2.out; simp <;> omega)).mono ?_
    rintro e w6 ⟨rfl, H6, v6, rr6⟩
    have HR6 := Lib.hid rr6
    clear rr6
    have x0 := (cell_blk HR6.out.box 0).trans rfl
    go_wp2_with fail
    refine (wantX_calls [wRC] HR6.out rfl rfl (by have := HL1.out; have := HL2.out; simp <;> omega)).mono ?_
    obtain ⟨r3, hr3⟩ : ∃ r3, r3 = wants s L [wRC] r2.2 := ⟨_, rfl⟩
    have HE3 := Lib.hid hr3
    have HD3 := Lib.hid (show r3.2.deep = u.deep by rw [hr3]; exact ((wants_adv [wRC] r2.2).deep.trans HD2.out))
    have HL3 := Lib.hid (show r3.1.length = 1 by rw [hr3]; exact wants_len _ _)
    rw [← hr3]
    clear hr3 x0
    rintro e w7 ⟨rfl, H7, v7, rr7⟩
    have HR7 := Lib.hid rr7
    clear rr7
    have x0 := (cell_blk HR7.out.box 0).trans rfl
    go_wp2_with fail
    refine (as_calls 10 HR7.out (by have := HL1.out; have := HL2.out; have := HL3.out; simp <;> omega)).mono ?_
    obtain ⟨q, hq⟩ : ∃ q : Nd × Cu, q = (asN 10 ((([] ++ r1.1) ++ r2.1) ++ r3.1) r3.2, r3.2) := ⟨_, rfl⟩
    rw [← hq]
    have HQ := Lib.hid (show oneF s L st (exprD s L d) u = q by rw [hq]; rw [HE3.out, HE2.out, HE1.out]; unfold oneF; rw [if_pos C1.out]; simp [wants])
    clear hq x0
    rintro e w8 ⟨⟨A8, c8, rfl, hl8, hC8⟩, R8, k8⟩
    have hy8 := (k8.block w.heap.size (by have := HR7.out.keep.size; omega) (by simp; omega)).trans ((HR7.out.keep.block w.heap.size (by omega) (by simp; omega)).trans HY2.out)
    obtain ⟨⟨b0, b1, b2, b3, b4⟩, f0, f1, f2, f3, f4⟩ := (Box5.mk hy8).all
    have HYF := Lib.hid hy8
    have HCF := Lib.hid (up_C up_kNd (hole_less (H' := w.heap.size :: H) w8 (fun k hk => List.mem_cons_of_mem _ hk)) hC8)
    have HRF := Lib.hid R8
    have HKF := Lib.hid ((Keep.unwide ((Keep.wide HK2.out).trans HR7.out.keep) (by omega)).trans k8)
    clear hy8 hC8 R8 k8
    go_wp2_with fail
    exact nd_end (n := q.1) (A' := A8) (c' := c8) (u := q.2) (b := w.heap.size) Tryz.results215 rfl HYF.out hl8 HCF.out (Nat.le_refl _) hcb HRF.out HQ.out HKF.out
  | false =>
    have C1 := Lib.hid h1
    clear h1
    refine (Is_calls HR2.out.rd 0 (by decide) wLC).mono ?_
    rw [C1.out]
    rintro e w3 ⟨rfl, hb3⟩
    have HR3 := Lib.hid (HR2.out.calm hb3)
    clear x0 hb3
    have x0 := (cell_blk HR3.out.box 0).trans rfl
    go_wp2_with fail
    cases h2 : isB s L u 0 wIf with
    | true =>
      have C2 := Lib.hid h2
      clear h2
      refine (Is_calls HR3.out.rd 0 (by decide) wIf).mono ?_
      rw [C2.out]
      rintro e w4 ⟨rfl, hb4⟩
      have HR4 := Lib.hid (HR3.out.calm hb4)
      clear x0 hb4
      have x0 := (cell_blk HR4.out.box 0).trans rfl
      go_wp2_with fail
      refine (wantX_calls [wIf, wLP] HR4.out rfl rfl (by  simp <;> omega)).mono ?_
      obtain ⟨r1, hr1⟩ : ∃ r1, r1 = wants s L [wIf, wLP] u := ⟨_, rfl⟩
      have HE1 := Lib.hid hr1
      have HD1 := Lib.hid (show r1.2.deep = u.deep by rw [hr1]; exact (wants_adv [wIf, wLP] u).deep)
      have HL1 := Lib.hid (show r1.1.length = 2 by rw [hr1]; exact wants_len _ _)
      rw [← hr1]
      clear hr1 x0
      rintro e w5 ⟨rfl, H5, v5, rr5⟩
      have HR5 := Lib.hid rr5
      clear rr5
      have x0 := (cell_blk HR5.out.box 0).trans rfl
      go_wp2_with fail
      refine (exp_calls (d := d) (by rw [HD1.out]; exact HDD.out) HR5.out (by have := HL1.out; simp <;> omega)).mono ?_
      obtain ⟨r2, hr2⟩ : ∃ r2, r2 = exprD s L d r1.2 := ⟨_, rfl⟩
      have HE2 := Lib.hid hr2
      have HD2 := Lib.hid (show r2.2.deep = u.deep by rw [hr2]; exact ((exprD_adv d r1.2).deep.trans HD1.out))
      rw [← hr2]
      clear hr2 x0
      rintro e w6 ⟨rfl, H6, v6, rr6⟩
      have HR6 := Lib.hid rr6
      clear rr6
      have x0 := (cell_blk HR6.out.box 0).trans rfl
      go_wp2_with fail
      refine (wantX_calls [wRP] HR6.out rfl rfl (by have := HL1.out; simp <;> omega)).mono ?_
      obtain ⟨r3, hr3⟩ : ∃ r3, r3 = wants s L [wRP] r2.2 := ⟨_, rfl⟩
      have HE3 := Lib.hid hr3
      have HD3 := Lib.hid (show r3.2.deep = u.deep by rw [hr3]; exact ((wants_adv [wRP] r2.2).deep.trans HD2.out))
      have HL3 := Lib.hid (show r3.1.length = 1 by rw [hr3]; exact wants_len _ _)
      rw [← hr3]
      clear hr3 x0
      rintro e w7 ⟨rfl, H7, v7, rr7⟩
      have HR7 := Lib.hid rr7
      clear rr7
      have x0 := (cell_blk HR7.out.box 0).trans rfl
      go_wp2_with fail
      refine (inner_calls (fun W H2 a g => HS.out W _ H2 a HD3.out g) HR7.out (by have := HL1.out; have := HL3.out; simp <;> omega)).mono ?_
      obtain ⟨r4, hr4⟩ : ∃ r4, r4 = st r3.2 := ⟨_, rfl⟩
      have HE4 := Lib.hid hr4
      have HD4 := Lib.hid (show r4.2.deep = u.deep by rw [hr4]; exact ((HAD.out r3.2).deep.trans HD3.out))
      rw [← hr4]
      clear hr4 x0
      rintro e w8 ⟨rfl, H8, v8, rr8⟩
      have HR8 := Lib.hid rr8
      clear rr8
      have x0 := (cell_blk HR8.out.box 0).trans rfl
      go_wp2_with fail
      refine (wantX_calls [wElse] HR8.out rfl rfl (by have := HL1.out; have := HL3.out; simp <;> omega)).mono ?_
      obtain ⟨r5, hr5⟩ : ∃ r5, r5 = wants s L [wElse] r4.2 := ⟨_, rfl⟩
      have HE5 := Lib.hid hr5
      have HD5 := Lib.hid (show r5.2.deep = u.deep by rw [hr5]; exact ((wants_adv [wElse] r4.2).deep.trans HD4.out))
      have HL5 := Lib.hid (show r5.1.length = 1 by rw [hr5]; exact wants_len _ _)
      rw [← hr5]
      clear hr5 x0
      rintro e w9 ⟨rfl, H9, v9, rr9⟩
      have HR9 := Lib.hid rr9
      clear rr9
      have x0 := (cell_blk HR9.out.box 0).trans rfl
      go_wp2_with fail
      refine (inner_calls (fun W H2 a g => HS.out W _ H2 a HD5.out g) HR9.out (by have := HL1.out; have := HL3.out; have := HL5.out; simp <;> omega)).mono ?_
      obtain ⟨r6, hr6⟩ : ∃ r6, r6 = st r5.2 := ⟨_, rfl⟩
      have HE6 := Lib.hid hr6
      have HD6 := Lib.hid (show r6.2.deep = u.deep by rw [hr6]; exact ((HAD.out r5.2).deep.trans HD5.out))
      rw [← hr6]
      clear hr6 x0
      rintro e w10 ⟨rfl, H10, v10, rr10⟩
      have HR10 := Lib.hid rr10
      clear rr10
      have x0 := (cell_blk HR10.out.box 0).trans rfl
      go_wp2_with fail
      refine (as_calls 11 HR10.out (by have := HL1.out; have := HL3.out; have := HL5.out; simp <;> omega)).mono ?_
      obtain ⟨q, hq⟩ : ∃ q : Nd × Cu, q = (asN 11 (((((([] ++ r1.1) ++ [r2.1]) ++ r3.1) ++ [r4.1]) ++ r5.1) ++ [r6.1]) r6.2, r6.2) := ⟨_, rfl⟩
      rw [← hq]
      have HQ := Lib.hid (show oneF s L st (exprD s L d) u = q by rw [hq]; rw [HE6.out, HE5.out, HE4.out, HE3.out, HE2.out, HE1.out]; unfold oneF; rw [if_neg (by rw [C1.out]; simp), if_pos C2.out]; simp [wants])
      clear hq x0
      rintro e w11 ⟨⟨A11, c11, rfl, hl11, hC11⟩, R11, k11⟩
      have hy11 := (k11.block w.heap.size (by have := HR10.out.keep.size; omega) (by simp; omega)).trans ((HR10.out.keep.block w.heap.size (by omega) (by simp; omega)).trans HY2.out)
      obtain ⟨⟨b0, b1, b2, b3, b4⟩, f0, f1, f2, f3, f4⟩ := (Box5.mk hy11).all
      have HYF := Lib.hid hy11
      have HCF := Lib.hid (up_C up_kNd (hole_less (H' := w.heap.size :: H) w11 (fun k hk => List.mem_cons_of_mem _ hk)) hC11)
      have HRF := Lib.hid R11
      have HKF := Lib.hid ((Keep.unwide ((Keep.wide HK2.out).trans HR10.out.keep) (by omega)).trans k11)
      clear hy11 hC11 R11 k11
      go_wp2_with fail
      exact nd_end (n := q.1) (A' := A11) (c' := c11) (u := q.2) (b := w.heap.size) Tryz.results215 rfl HYF.out hl11 HCF.out (Nat.le_refl _) hcb HRF.out HQ.out HKF.out
    | false =>
      have C2 := Lib.hid h2
      clear h2
      refine (Is_calls HR3.out.rd 0 (by decide) wIf).mono ?_
      rw [C2.out]
      rintro e w4 ⟨rfl, hb4⟩
      have HR4 := Lib.hid (HR3.out.calm hb4)
      clear x0 hb4
      have x0 := (cell_blk HR4.out.box 0).trans rfl
      go_wp2_with fail
      cases h3 : isB s L u 0 wWhile with
      | true =>
        have C3 := Lib.hid h3
        clear h3
        refine (Is_calls HR4.out.rd 0 (by decide) wWhile).mono ?_
        rw [C3.out]
        rintro e w5 ⟨rfl, hb5⟩
        have HR5 := Lib.hid (HR4.out.calm hb5)
        clear x0 hb5
        have x0 := (cell_blk HR5.out.box 0).trans rfl
        go_wp2_with fail
        refine (wantX_calls [wWhile, wLP] HR5.out rfl rfl (by  simp <;> omega)).mono ?_
        obtain ⟨r1, hr1⟩ : ∃ r1, r1 = wants s L [wWhile, wLP] u := ⟨_, rfl⟩
        have HE1 := Lib.hid hr1
        have HD1 := Lib.hid (show r1.2.deep = u.deep by rw [hr1]; exact (wants_adv [wWhile, wLP] u).deep)
        have HL1 := Lib.hid (show r1.1.length = 2 by rw [hr1]; exact wants_len _ _)
        rw [← hr1]
        clear hr1 x0
        rintro e w6 ⟨rfl, H6, v6, rr6⟩
        have HR6 := Lib.hid rr6
        clear rr6
        have x0 := (cell_blk HR6.out.box 0).trans rfl
        go_wp2_with fail
        refine (exp_calls (d := d) (by rw [HD1.out]; exact HDD.out) HR6.out (by have := HL1.out; simp <;> omega)).mono ?_
        obtain ⟨r2, hr2⟩ : ∃ r2, r2 = exprD s L d r1.2 := ⟨_, rfl⟩
        have HE2 := Lib.hid hr2
        have HD2 := Lib.hid (show r2.2.deep = u.deep by rw [hr2]; exact ((exprD_adv d r1.2).deep.trans HD1.out))
        rw [← hr2]
        clear hr2 x0
        rintro e w7 ⟨rfl, H7, v7, rr7⟩
        have HR7 := Lib.hid rr7
        clear rr7
        have x0 := (cell_blk HR7.out.box 0).trans rfl
        go_wp2_with fail
        refine (wantX_calls [wRP] HR7.out rfl rfl (by have := HL1.out; simp <;> omega)).mono ?_
        obtain ⟨r3, hr3⟩ : ∃ r3, r3 = wants s L [wRP] r2.2 := ⟨_, rfl⟩
        have HE3 := Lib.hid hr3
        have HD3 := Lib.hid (show r3.2.deep = u.deep by rw [hr3]; exact ((wants_adv [wRP] r2.2).deep.trans HD2.out))
        have HL3 := Lib.hid (show r3.1.length = 1 by rw [hr3]; exact wants_len _ _)
        rw [← hr3]
        clear hr3 x0
        rintro e w8 ⟨rfl, H8, v8, rr8⟩
        have HR8 := Lib.hid rr8
        clear rr8
        have x0 := (cell_blk HR8.out.box 0).trans rfl
        go_wp2_with fail
        refine (inner_calls (fun W H2 a g => HS.out W _ H2 a HD3.out g) HR8.out (by have := HL1.out; have := HL3.out; simp <;> omega)).mono ?_
        obtain ⟨r4, hr4⟩ : ∃ r4, r4 = st r3.2 := ⟨_, rfl⟩
        have HE4 := Lib.hid hr4
        have HD4 := Lib.hid (show r4.2.deep = u.deep by rw [hr4]; exact ((HAD.out r3.2).deep.trans HD3.out))
        rw [← hr4]
        clear hr4 x0
        rintro e w9 ⟨rfl, H9, v9, rr9⟩
        have HR9 := Lib.hid rr9
        clear rr9
        have x0 := (cell_blk HR9.out.box 0).trans rfl
        go_wp2_with fail
        refine (as_calls 12 HR9.out (by have := HL1.out; have := HL3.out; simp <;> omega)).mono ?_
        obtain ⟨q, hq⟩ : ∃ q : Nd × Cu, q = (asN 12 (((([] ++ r1.1) ++ [r2.1]) ++ r3.1) ++ [r4.1]) r4.2, r4.2) := ⟨_, rfl⟩
        rw [← hq]
        have HQ := Lib.hid (show oneF s L st (exprD s L d) u = q by rw [hq]; rw [HE4.out, HE3.out, HE2.out, HE1.out]; unfold oneF; rw [if_neg (by rw [C1.out]; simp), if_neg (by rw [C2.out]; simp), if_pos C3.out]; simp [wants])
        clear hq x0
        rintro e w10 ⟨⟨A10, c10, rfl, hl10, hC10⟩, R10, k10⟩
        have hy10 := (k10.block w.heap.size (by have := HR9.out.keep.size; omega) (by simp; omega)).trans ((HR9.out.keep.block w.heap.size (by omega) (by simp; omega)).trans HY2.out)
        obtain ⟨⟨b0, b1, b2, b3, b4⟩, f0, f1, f2, f3, f4⟩ := (Box5.mk hy10).all
        have HYF := Lib.hid hy10
        have HCF := Lib.hid (up_C up_kNd (hole_less (H' := w.heap.size :: H) w10 (fun k hk => List.mem_cons_of_mem _ hk)) hC10)
        have HRF := Lib.hid R10
        have HKF := Lib.hid ((Keep.unwide ((Keep.wide HK2.out).trans HR9.out.keep) (by omega)).trans k10)
        clear hy10 hC10 R10 k10
        go_wp2_with fail
        exact nd_end (n := q.1) (A' := A10) (c' := c10) (u := q.2) (b := w.heap.size) Tryz.results215 rfl HYF.out hl10 HCF.out (Nat.le_refl _) hcb HRF.out HQ.out HKF.out
      | false =>
        have C3 := Lib.hid h3
        clear h3
        refine (Is_calls HR4.out.rd 0 (by decide) wWhile).mono ?_
        rw [C3.out]
        rintro e w5 ⟨rfl, hb5⟩
        have HR5 := Lib.hid (HR4.out.calm hb5)
        clear x0 hb5
        have x0 := (cell_blk HR5.out.box 0).trans rfl
        go_wp2_with fail
        cases h4 : isB s L u 0 wPrint with
        | true =>
          have C4 := Lib.hid h4
          clear h4
          refine (Is_calls HR5.out.rd 0 (by decide) wPrint).mono ?_
          rw [C4.out]
          rintro e w6 ⟨rfl, hb6⟩
          have HR6 := Lib.hid (HR5.out.calm hb6)
          clear x0 hb6
          have x0 := (cell_blk HR6.out.box 0).trans rfl
          go_wp2_with fail
          refine (wantX_calls [wPrint, wLP] HR6.out rfl rfl (by  simp <;> omega)).mono ?_
          obtain ⟨r1, hr1⟩ : ∃ r1, r1 = wants s L [wPrint, wLP] u := ⟨_, rfl⟩
          have HE1 := Lib.hid hr1
          have HD1 := Lib.hid (show r1.2.deep = u.deep by rw [hr1]; exact (wants_adv [wPrint, wLP] u).deep)
          have HL1 := Lib.hid (show r1.1.length = 2 by rw [hr1]; exact wants_len _ _)
          rw [← hr1]
          clear hr1 x0
          rintro e w7 ⟨rfl, H7, v7, rr7⟩
          have HR7 := Lib.hid rr7
          clear rr7
          have x0 := (cell_blk HR7.out.box 0).trans rfl
          go_wp2_with fail
          refine (exp_calls (d := d) (by rw [HD1.out]; exact HDD.out) HR7.out (by have := HL1.out; simp <;> omega)).mono ?_
          obtain ⟨r2, hr2⟩ : ∃ r2, r2 = exprD s L d r1.2 := ⟨_, rfl⟩
          have HE2 := Lib.hid hr2
          have HD2 := Lib.hid (show r2.2.deep = u.deep by rw [hr2]; exact ((exprD_adv d r1.2).deep.trans HD1.out))
          rw [← hr2]
          clear hr2 x0
          rintro e w8 ⟨rfl, H8, v8, rr8⟩
          have HR8 := Lib.hid rr8
          clear rr8
          have x0 := (cell_blk HR8.out.box 0).trans rfl
          go_wp2_with fail
          refine (wantX_calls [wRP, wSemi] HR8.out rfl rfl (by have := HL1.out; simp <;> omega)).mono ?_
          obtain ⟨r3, hr3⟩ : ∃ r3, r3 = wants s L [wRP, wSemi] r2.2 := ⟨_, rfl⟩
          have HE3 := Lib.hid hr3
          have HD3 := Lib.hid (show r3.2.deep = u.deep by rw [hr3]; exact ((wants_adv [wRP, wSemi] r2.2).deep.trans HD2.out))
          have HL3 := Lib.hid (show r3.1.length = 2 by rw [hr3]; exact wants_len _ _)
          rw [← hr3]
          clear hr3 x0
          rintro e w9 ⟨rfl, H9, v9, rr9⟩
          have HR9 := Lib.hid rr9
          clear rr9
          have x0 := (cell_blk HR9.out.box 0).trans rfl
          go_wp2_with fail
          refine (as_calls 13 HR9.out (by have := HL1.out; have := HL3.out; simp <;> omega)).mono ?_
          obtain ⟨q, hq⟩ : ∃ q : Nd × Cu, q = (asN 13 ((([] ++ r1.1) ++ [r2.1]) ++ r3.1) r3.2, r3.2) := ⟨_, rfl⟩
          rw [← hq]
          have HQ := Lib.hid (show oneF s L st (exprD s L d) u = q by rw [hq]; rw [HE3.out, HE2.out, HE1.out]; unfold oneF; rw [if_neg (by rw [C1.out]; simp), if_neg (by rw [C2.out]; simp), if_neg (by rw [C3.out]; simp), if_pos C4.out]; simp [wants])
          clear hq x0
          rintro e w10 ⟨⟨A10, c10, rfl, hl10, hC10⟩, R10, k10⟩
          have hy10 := (k10.block w.heap.size (by have := HR9.out.keep.size; omega) (by simp; omega)).trans ((HR9.out.keep.block w.heap.size (by omega) (by simp; omega)).trans HY2.out)
          obtain ⟨⟨b0, b1, b2, b3, b4⟩, f0, f1, f2, f3, f4⟩ := (Box5.mk hy10).all
          have HYF := Lib.hid hy10
          have HCF := Lib.hid (up_C up_kNd (hole_less (H' := w.heap.size :: H) w10 (fun k hk => List.mem_cons_of_mem _ hk)) hC10)
          have HRF := Lib.hid R10
          have HKF := Lib.hid ((Keep.unwide ((Keep.wide HK2.out).trans HR9.out.keep) (by omega)).trans k10)
          clear hy10 hC10 R10 k10
          go_wp2_with fail
          exact nd_end (n := q.1) (A' := A10) (c' := c10) (u := q.2) (b := w.heap.size) Tryz.results215 rfl HYF.out hl10 HCF.out (Nat.le_refl _) hcb HRF.out HQ.out HKF.out
        | false =>
          have C4 := Lib.hid h4
          clear h4
          refine (Is_calls HR5.out.rd 0 (by decide) wPrint).mono ?_
          rw [C4.out]
          rintro e w6 ⟨rfl, hb6⟩
          have HR6 := Lib.hid (HR5.out.calm hb6)
          clear x0 hb6
          have x0 := (cell_blk HR6.out.box 0).trans rfl
          go_wp2_with fail
          cases h5 : named s L u 0 with
          | false =>
            have C5 := Lib.hid h5
            clear h5
            refine (named_calls HR6.out.rd 0 (by decide)).mono ?_
            rw [C5.out]
            rintro e w7 ⟨rfl, hb7⟩
            have HR7 := Lib.hid (HR6.out.calm hb7)
            clear x0 hb7
            have x0 := (cell_blk HR7.out.box 0).trans rfl
            go_wp2_with fail
            refine (Fail_calls HR7.out.rd 2 (by decide) (by decide)).mono ?_
            obtain ⟨q, hq⟩ : ∃ q : Nd × Cu, q = (zN, failB s L u 2) := ⟨_, rfl⟩
            have HQ := Lib.hid (show oneF s L st (exprD s L d) u = q by rw [hq]; unfold oneF; rw [if_neg (by rw [C1.out]; simp), if_neg (by rw [C2.out]; simp), if_neg (by rw [C3.out]; simp), if_neg (by rw [C4.out]; simp), if_pos C5.out])
            have hqz := congrArg Prod.fst hq
            rw [show failB s L u 2 = q.2 by rw [hq]]
            have HQZ := Lib.hid (show q.1 = zN by rw [hq])
            clear hq hqz x0
            rintro e w8 ⟨rfl, R8, k8⟩
            have hy8 := (k8.block w.heap.size (by have := HR7.out.keep.size; omega) (by simp; omega)).trans ((HR7.out.keep.block w.heap.size (by omega) (by simp; omega)).trans HY2.out)
            obtain ⟨⟨b0, b1, b2, b3, b4⟩, f0, f1, f2, f3, f4⟩ := (Box5.mk hy8).all
            have HYF := Lib.hid hy8
            have hC8 : kNd.C (hole (w.heap.size :: H) w8) none zN.kids.length zN.kids := leaf_C _ _ rfl
            have HCF := Lib.hid hC8
            have HRF := Lib.hid R8
            have HKF := Lib.hid ((Keep.unwide ((Keep.wide HK2.out).trans HR7.out.keep) (by omega)).trans k8)
            clear hy8 hC8 R8 k8
            go_wp2_with fail
            exact nd_end (n := zN) (A' := none) (c' := 0) (u := q.2) (b := w.heap.size) (a0 := .int .i64 0) (a1 := .string ⟨#[]⟩) (a2 := .string ⟨#[]⟩) (a3 := .int .i64 0) (a4 := .slice none 0 0) Tryz.results215 rfl HYF.out (Nat.le_refl 0) HCF.out (Nat.le_refl _) hcb HRF.out (by rw [HQ.out, ← HQZ.out]) HKF.out
          | true =>
            have C5 := Lib.hid h5
            clear h5
            refine (named_calls HR6.out.rd 0 (by decide)).mono ?_
            rw [C5.out]
            rintro e w7 ⟨rfl, hb7⟩
            have HR7 := Lib.hid (HR6.out.calm hb7)
            clear x0 hb7
            have x0 := (cell_blk HR7.out.box 0).trans rfl
            go_wp2_with fail
            cases h6 : isB s L u 1 wLB with
            | true =>
              have C6 := Lib.hid h6
              clear h6
              refine (Is_calls HR7.out.rd 1 (by decide) wLB).mono ?_
              rw [C6.out]
              rintro e w8 ⟨rfl, hb8⟩
              have HR8 := Lib.hid (HR7.out.calm hb8)
              clear x0 hb8
              have x0 := (cell_blk HR8.out.box 0).trans rfl
              go_wp2_with fail
              refine (name_calls HR8.out (by  simp <;> omega)).mono ?_
              obtain ⟨r1, hr1⟩ : ∃ r1, r1 = anyK s L u 4 := ⟨_, rfl⟩
              have HE1 := Lib.hid hr1
              have HD1 := Lib.hid (show r1.2.deep = u.deep by rw [hr1]; exact (any_adv u 4).deep)
              rw [← hr1]
              clear hr1 x0
              rintro e w9 ⟨rfl, H9, v9, rr9⟩
              have HR9 := Lib.hid rr9
              clear rr9
              have x0 := (cell_blk HR9.out.box 0).trans rfl
              go_wp2_with fail
              refine (wantX_calls [wLB] HR9.out rfl rfl (by  simp <;> omega)).mono ?_
              obtain ⟨r2, hr2⟩ : ∃ r2, r2 = wants s L [wLB] r1.2 := ⟨_, rfl⟩
              have HE2 := Lib.hid hr2
              have HD2 := Lib.hid (show r2.2.deep = u.deep by rw [hr2]; exact ((wants_adv [wLB] r1.2).deep.trans HD1.out))
              have HL2 := Lib.hid (show r2.1.length = 1 by rw [hr2]; exact wants_len _ _)
              rw [← hr2]
              clear hr2 x0
              rintro e w10 ⟨rfl, H10, v10, rr10⟩
              have HR10 := Lib.hid rr10
              clear rr10
              have x0 := (cell_blk HR10.out.box 0).trans rfl
              go_wp2_with fail
              refine (exp_calls (d := d) (by rw [HD2.out]; exact HDD.out) HR10.out (by have := HL2.out; simp <;> omega)).mono ?_
              obtain ⟨r3, hr3⟩ : ∃ r3, r3 = exprD s L d r2.2 := ⟨_, rfl⟩
              have HE3 := Lib.hid hr3
              have HD3 := Lib.hid (show r3.2.deep = u.deep by rw [hr3]; exact ((exprD_adv d r2.2).deep.trans HD2.out))
              rw [← hr3]
              clear hr3 x0
              rintro e w11 ⟨rfl, H11, v11, rr11⟩
              have HR11 := Lib.hid rr11
              clear rr11
              have x0 := (cell_blk HR11.out.box 0).trans rfl
              go_wp2_with fail
              refine (wantX_calls [wRB, wEq] HR11.out rfl rfl (by have := HL2.out; simp <;> omega)).mono ?_
              obtain ⟨r4, hr4⟩ : ∃ r4, r4 = wants s L [wRB, wEq] r3.2 := ⟨_, rfl⟩
              have HE4 := Lib.hid hr4
              have HD4 := Lib.hid (show r4.2.deep = u.deep by rw [hr4]; exact ((wants_adv [wRB, wEq] r3.2).deep.trans HD3.out))
              have HL4 := Lib.hid (show r4.1.length = 2 by rw [hr4]; exact wants_len _ _)
              rw [← hr4]
              clear hr4 x0
              rintro e w12 ⟨rfl, H12, v12, rr12⟩
              have HR12 := Lib.hid rr12
              clear rr12
              have x0 := (cell_blk HR12.out.box 0).trans rfl
              go_wp2_with fail
              refine (exp_calls (d := d) (by rw [HD4.out]; exact HDD.out) HR12.out (by have := HL2.out; have := HL4.out; simp <;> omega)).mono ?_
              obtain ⟨r5, hr5⟩ : ∃ r5, r5 = exprD s L d r4.2 := ⟨_, rfl⟩
              have HE5 := Lib.hid hr5
              have HD5 := Lib.hid (show r5.2.deep = u.deep by rw [hr5]; exact ((exprD_adv d r4.2).deep.trans HD4.out))
              rw [← hr5]
              clear hr5 x0
              rintro e w13 ⟨rfl, H13, v13, rr13⟩
              have HR13 := Lib.hid rr13
              clear rr13
              have x0 := (cell_blk HR13.out.box 0).trans rfl
              go_wp2_with fail
              refine (wantX_calls [wSemi] HR13.out rfl rfl (by have := HL2.out; have := HL4.out; simp <;> omega)).mono ?_
              obtain ⟨r6, hr6⟩ : ∃ r6, r6 = wants s L [wSemi] r5.2 := ⟨_, rfl⟩
              have HE6 := Lib.hid hr6
              have HD6 := Lib.hid (show r6.2.deep = u.deep by rw [hr6]; exact ((wants_adv [wSemi] r5.2).deep.trans HD5.out))
              have HL6 := Lib.hid (show r6.1.length = 1 by rw [hr6]; exact wants_len _ _)
              rw [← hr6]
              clear hr6 x0
              rintro e w14 ⟨rfl, H14, v14, rr14⟩
              have HR14 := Lib.hid rr14
              clear rr14
              have x0 := (cell_blk HR14.out.box 0).trans rfl
              go_wp2_with fail
              refine (as_calls 15 HR14.out (by have := HL2.out; have := HL4.out; have := HL6.out; simp <;> omega)).mono ?_
              obtain ⟨q, hq⟩ : ∃ q : Nd × Cu, q = (asN 15 (((((([] ++ [r1.1]) ++ r2.1) ++ [r3.1]) ++ r4.1) ++ [r5.1]) ++ r6.1) r6.2, r6.2) := ⟨_, rfl⟩
              rw [← hq]
              have HQ := Lib.hid (show oneF s L st (exprD s L d) u = q by rw [hq]; rw [HE6.out, HE5.out, HE4.out, HE3.out, HE2.out, HE1.out]; unfold oneF; rw [if_neg (by rw [C1.out]; simp), if_neg (by rw [C2.out]; simp), if_neg (by rw [C3.out]; simp), if_neg (by rw [C4.out]; simp), if_neg (by rw [C5.out]; simp), if_pos C6.out]; simp [wants])
              clear hq x0
              rintro e w15 ⟨⟨A15, c15, rfl, hl15, hC15⟩, R15, k15⟩
              have hy15 := (k15.block w.heap.size (by have := HR14.out.keep.size; omega) (by simp; omega)).trans ((HR14.out.keep.block w.heap.size (by omega) (by simp; omega)).trans HY2.out)
              obtain ⟨⟨b0, b1, b2, b3, b4⟩, f0, f1, f2, f3, f4⟩ := (Box5.mk hy15).all
              have HYF := Lib.hid hy15
              have HCF := Lib.hid (up_C up_kNd (hole_less (H' := w.heap.size :: H) w15 (fun k hk => List.mem_cons_of_mem _ hk)) hC15)
              have HRF := Lib.hid R15
              have HKF := Lib.hid ((Keep.unwide ((Keep.wide HK2.out).trans HR14.out.keep) (by omega)).trans k15)
              clear hy15 hC15 R15 k15
              go_wp2_with fail
              exact nd_end (n := q.1) (A' := A15) (c' := c15) (u := q.2) (b := w.heap.size) Tryz.results215 rfl HYF.out hl15 HCF.out (Nat.le_refl _) hcb HRF.out HQ.out HKF.out
            | false =>
              have C6 := Lib.hid h6
              clear h6
              refine (Is_calls HR7.out.rd 1 (by decide) wLB).mono ?_
              rw [C6.out]
              rintro e w8 ⟨rfl, hb8⟩
              have HR8 := Lib.hid (HR7.out.calm hb8)
              clear x0 hb8
              have x0 := (cell_blk HR8.out.box 0).trans rfl
              go_wp2_with fail
              refine (name_calls HR8.out (by  simp <;> omega)).mono ?_
              obtain ⟨r1, hr1⟩ : ∃ r1, r1 = anyK s L u 4 := ⟨_, rfl⟩
              have HE1 := Lib.hid hr1
              have HD1 := Lib.hid (show r1.2.deep = u.deep by rw [hr1]; exact (any_adv u 4).deep)
              rw [← hr1]
              clear hr1 x0
              rintro e w9 ⟨rfl, H9, v9, rr9⟩
              have HR9 := Lib.hid rr9
              clear rr9
              have x0 := (cell_blk HR9.out.box 0).trans rfl
              go_wp2_with fail
              refine (wantX_calls [wEq] HR9.out rfl rfl (by  simp <;> omega)).mono ?_
              obtain ⟨r2, hr2⟩ : ∃ r2, r2 = wants s L [wEq] r1.2 := ⟨_, rfl⟩
              have HE2 := Lib.hid hr2
              have HD2 := Lib.hid (show r2.2.deep = u.deep by rw [hr2]; exact ((wants_adv [wEq] r1.2).deep.trans HD1.out))
              have HL2 := Lib.hid (show r2.1.length = 1 by rw [hr2]; exact wants_len _ _)
              rw [← hr2]
              clear hr2 x0
              rintro e w10 ⟨rfl, H10, v10, rr10⟩
              have HR10 := Lib.hid rr10
              clear rr10
              have x0 := (cell_blk HR10.out.box 0).trans rfl
              go_wp2_with fail
              refine (exp_calls (d := d) (by rw [HD2.out]; exact HDD.out) HR10.out (by have := HL2.out; simp <;> omega)).mono ?_
              obtain ⟨r3, hr3⟩ : ∃ r3, r3 = exprD s L d r2.2 := ⟨_, rfl⟩
              have HE3 := Lib.hid hr3
              have HD3 := Lib.hid (show r3.2.deep = u.deep by rw [hr3]; exact ((exprD_adv d r2.2).deep.trans HD2.out))
              rw [← hr3]
              clear hr3 x0
              rintro e w11 ⟨rfl, H11, v11, rr11⟩
              have HR11 := Lib.hid rr11
              clear rr11
              have x0 := (cell_blk HR11.out.box 0).trans rfl
              go_wp2_with fail
              refine (wantX_calls [wSemi] HR11.out rfl rfl (by have := HL2.out; simp <;> omega)).mono ?_
              obtain ⟨r4, hr4⟩ : ∃ r4, r4 = wants s L [wSemi] r3.2 := ⟨_, rfl⟩
              have HE4 := Lib.hid hr4
              have HD4 := Lib.hid (show r4.2.deep = u.deep by rw [hr4]; exact ((wants_adv [wSemi] r3.2).deep.trans HD3.out))
              have HL4 := Lib.hid (show r4.1.length = 1 by rw [hr4]; exact wants_len _ _)
              rw [← hr4]
              clear hr4 x0
              rintro e w12 ⟨rfl, H12, v12, rr12⟩
              have HR12 := Lib.hid rr12
              clear rr12
              have x0 := (cell_blk HR12.out.box 0).trans rfl
              go_wp2_with fail
              refine (as_calls 14 HR12.out (by have := HL2.out; have := HL4.out; simp <;> omega)).mono ?_
              obtain ⟨q, hq⟩ : ∃ q : Nd × Cu, q = (asN 14 (((([] ++ [r1.1]) ++ r2.1) ++ [r3.1]) ++ r4.1) r4.2, r4.2) := ⟨_, rfl⟩
              rw [← hq]
              have HQ := Lib.hid (show oneF s L st (exprD s L d) u = q by rw [hq]; rw [HE4.out, HE3.out, HE2.out, HE1.out]; unfold oneF; rw [if_neg (by rw [C1.out]; simp), if_neg (by rw [C2.out]; simp), if_neg (by rw [C3.out]; simp), if_neg (by rw [C4.out]; simp), if_neg (by rw [C5.out]; simp), if_neg (by rw [C6.out]; simp)]; simp [wants])
              clear hq x0
              rintro e w13 ⟨⟨A13, c13, rfl, hl13, hC13⟩, R13, k13⟩
              have hy13 := (k13.block w.heap.size (by have := HR12.out.keep.size; omega) (by simp; omega)).trans ((HR12.out.keep.block w.heap.size (by omega) (by simp; omega)).trans HY2.out)
              obtain ⟨⟨b0, b1, b2, b3, b4⟩, f0, f1, f2, f3, f4⟩ := (Box5.mk hy13).all
              have HYF := Lib.hid hy13
              have HCF := Lib.hid (up_C up_kNd (hole_less (H' := w.heap.size :: H) w13 (fun k hk => List.mem_cons_of_mem _ hk)) hC13)
              have HRF := Lib.hid R13
              have HKF := Lib.hid ((Keep.unwide ((Keep.wide HK2.out).trans HR12.out.keep) (by omega)).trans k13)
              clear hy13 hC13 R13 k13
              go_wp2_with fail
              exact nd_end (n := q.1) (A' := A13) (c' := c13) (u := q.2) (b := w.heap.size) Tryz.results215 rfl HYF.out hl13 HCF.out (Nat.le_refl _) hcb HRF.out HQ.out HKF.out
end
end Go.Proofs.YtbfkkepdeepdeaaGreatDoor
end
section
namespace Go.Proofs.YtbfkkepdeepdeaaGreatDoor
open Go Go.RowKit Go.Proofs.YtbfkkepdeepdeaaGreatDoorW.PrintWords Go.Proofs.YtbfkkepdeepdeaaGreatDoorW.PrintLast Go.Proofs.YtbfkkepdeepdeaaGreatDoorW.PrintMore
set_option linter.unusedVariables false
set_option linter.unusedSimpArgs false
set_option maxRecDepth 100000
section
variable {w w1 W W' : World} {cb rb : Nat} {s : ByteArray} {A : Option Addr} {c : Nat} {L : List Tok} {u u' : Cu} {H H' H2 : List Nat} {v v' : Value} {l l' : List Nd}
theorem oneF_left {st ex : Cu → Nd × Cu} (hs : ∀ c, Adv L c (st c).2) (he : ∀ c, Adv L c (ex c).2) (u : Cu) (h : 0 < left L u) : left L (oneF s L st ex u).2 < left L u := by
  unfold oneF
  split
  · exact Nat.lt_of_le_of_lt ((stmtsF_adv hs _).trans (want_adv _ _)).leftLe (take_left _ h)
  · split
    · exact Nat.lt_of_le_of_lt (((((he _).trans (want_adv _ _)).trans (hs _)).trans (want_adv _ _)).trans (hs _)).leftLe (wants_left _ _ _ h)
    · split
      · exact Nat.lt_of_le_of_lt (((he _).trans (want_adv _ _)).trans (hs _)).leftLe (wants_left _ _ _ h)
      · split
        · exact Nat.lt_of_le_of_lt ((he _).trans (wants_adv _ _)).leftLe (wants_left _ _ _ h)
        · split
          · show left L (failB s L u 2) < _; rw [failB_left _ _ (by decide)]; exact h
          · split
            · exact Nat.lt_of_le_of_lt (((((want_adv _ _).trans (he _)).trans (wants_adv _ _)).trans (he _)).trans (want_adv _ _)).leftLe (take_left _ h)
            · exact Nat.lt_of_le_of_lt (((want_adv _ _).trans (he _)).trans (want_adv _ _)).leftLe (take_left _ h)
theorem stmtF_left {st ex : Cu → Nd × Cu} (hs : ∀ c, Adv L c (st c).2) (he : ∀ c, Adv L c (ex c).2) (u : Cu) (h : 0 < left L u) : left L (stmtF s L st ex u).2 < left L u := by
  unfold stmtF
  cases hd : down s L u with
  | mk b u1 =>
    cases b with
    | false =>
      obtain ⟨t, ht⟩ := left_tok h
      obtain ⟨e0, hn⟩ := tokAt_zero ht
      unfold down at hd
      rw [if_pos e0] at hd
      split at hd
      · cases hd
      · injection hd with _ hd
        subst hd
        show left L (failB s L u 3) < _
        rw [failB_left _ _ (by decide)]; exact h
    | true =>
      obtain ⟨e0, hdp, rfl⟩ := down_true hd
      exact oneF_left hs he { u with deep := u.deep + 1 } h
theorem stmtD_left (d : Nat) (u : Cu) (h : 0 < left L u) : left L (stmtD s L d u).2 < left L u := by
  cases d with
  | zero => exact stmtF_left (fun c => Adv.refl c) (fun c => Adv.refl c) u h
  | succ d => exact stmtF_left (stmtD_adv d) (exprD_adv d) u h
set_option maxHeartbeats 1000000 in
theorem Stmt_walk {st ex : Cu → Nd × Cu} (hO : ∀ W u2 H2, RdP W cb s A c L u2 → u2.deep = u.deep + 1 → u.deep < 200 → Good H2 cb W → Calls Tryz.prog 215 #[.pointer (some ⟨cb, 0, none⟩)] W (NdRes W cb s A c L H2 (oneF s L st ex u2))) (R : RdP w cb s A c L u) (G : Good H cb w) :
    Calls Tryz.prog 179 #[.pointer (some ⟨cb, 0, none⟩)] w (NdRes w cb s A c L H (stmtF s L st ex u)) := by
  have hcb := R.lt
  obtain ⟨w1, hw1⟩ : ∃ w1, w1 = w.alloc (.cells (aNd zN none 0) 122) := ⟨_, rfl⟩
  have hA1 : Below w.heap.size w w1 := by rw [hw1]; exact (Below.refl _ _).alloc (Nat.le_refl _) _
  have hz1 : w1.heap.size = w.heap.size + 1 := by rw [hw1]; simp
  have HY := Lib.hid (show w1.heap[w.heap.size]? = some (.cells (aNd zN none 0) 122 (0, 0)) by rw [hw1]; exact World.alloc_heap_new w _)
  have HA := Lib.hid (Keep.of_below (H := [cb]) hA1)
  have M1 := Lib.hid (Mid.start (H := w.heap.size :: H) (R.below hA1) (List.mem_cons_of_mem _ G.cb) (fun k hk => by
    rcases List.mem_cons.1 hk with e | e
    · omega
    · have := G.all k e; omega))
  have HO := Lib.hid hO
  clear R hA1 G hO
  go_enter Tryz.func179, Tryz.ntmps179
  go_wp2_with fail
  have Rz := M1.out.rd
  rw [hw1] at Rz
  refine (Down_calls Rz).mono ?_
  cases hd : down s L u with
  | mk b u1 =>
  have HD := Lib.hid hd
  clear hd
  cases b with
  | false =>
    have HQ := Lib.hid (show stmtF s L st ex u = (zN, u1) by unfold stmtF; rw [HD.out])
    rintro e w3 ⟨rfl, R3, k3⟩
    rw [← hw1] at k3
    have M3 := Lib.hid (M1.out.call R3 k3)
    have hy3 := (M3.out.box (b := w.heap.size) (by omega) (by omega)).trans HY.out
    obtain ⟨⟨b0, b1, b2, b3, b4⟩, f0, f1, f2, f3, f4⟩ := (Box5.mk hy3).all
    have HY3 := Lib.hid hy3
    have hC3 : kNd.C (hole (w.heap.size :: H) w3) none zN.kids.length zN.kids := leaf_C _ _ rfl
    have HC3 := Lib.hid hC3
    clear R3 k3 Rz hw1 hy3 hC3
    go_wp2_with fail
    exact nd_end (n := zN) (A' := none) (c' := 0) (u := u1) (b := w.heap.size) (a0 := .int .i64 0) (a1 := .string ⟨#[]⟩) (a2 := .string ⟨#[]⟩) (a3 := .int .i64 0) (a4 := .slice none 0 0) Tryz.results179 rfl HY3.out (Nat.le_refl 0) HC3.out (Nat.le_refl _) hcb M3.out.rd HQ.out (HA.out.trans M3.out.keep)
  | true =>
    have hdt := down_true HD.out
    have HQ := Lib.hid (show stmtF s L st ex u = ((oneF s L st ex u1).1, up (oneF s L st ex u1).2) by unfold stmtF; rw [HD.out])
    have HU := Lib.hid (show u1.deep = u.deep + 1 by rw [hdt.2.2])
    have HT := Lib.hid hdt.2.1
    obtain ⟨r1, hr1⟩ : ∃ r1, r1 = oneF s L st ex u1 := ⟨_, rfl⟩
    rw [← hr1] at HQ
    have HR1 := Lib.hid hr1
    clear hdt hr1
    rintro e w3 ⟨rfl, R3, k3⟩
    rw [← hw1] at k3
    have M3 := Lib.hid (M1.out.call R3 k3)
    clear R3 k3 Rz hw1
    go_wp2_with fail
    refine (HO.out _ _ _ M3.out.rd HU.out HT.out M3.out.good).mono ?_
    rw [← HR1.out]
    rintro e w4 ⟨⟨A4, c4, rfl, hl4, hC4⟩, R4, k4⟩
    have M4 := Lib.hid (M3.out.call R4 k4)
    have HC4 := Lib.hid hC4
    clear R4 k4 hC4
    go_wp2_with fail
    have h5 : Below w4.heap.size w4 (w4.alloc (.cells (aNd r1.1 A4 c4) 122)) := (Below.refl _ _).alloc (Nat.le_refl _) _
    have M5 := Lib.hid (M4.out.calm h5)
    have HZ5 := Lib.hid (World.alloc_heap_new w4 (.cells (aNd r1.1 A4 c4) 122))
    have HC5 := Lib.hid (up_C up_kNd (hole_more (H' := w.heap.size :: H) (Keep.of_below (H := []) h5) (fun k hk => .inl hk)) HC4.out)
    clear h5
    refine (Up_calls M5.out.rd).mono ?_
    rintro e w6 ⟨rfl, R6, k6⟩
    have M6 := Lib.hid (M5.out.call R6 k6)
    obtain ⟨⟨n0, n1, n2, n3, n4⟩, g0, g1, g2, g3, g4⟩ := (Box5.mk ((k6.block w4.heap.size (by simp) (by simp; have := M4.out.lst.lt _ (M4.out.lst.sup _ M4.out.mem); omega)).trans HZ5.out)).all
    have hy6 := (M6.out.box (b := w.heap.size) (by omega) (by omega)).trans HY.out
    obtain ⟨⟨b0, b1, b2, b3, b4⟩, f0, f1, f2, f3, f4⟩ := (Box5.mk hy6).all
    have HY6 := Lib.hid hy6
    have HC6 := Lib.hid (up_C up_kNd (k6.sub (H2 := w.heap.size :: H) (fun k hk => by rw [List.mem_singleton.1 hk]; exact M1.out.mem)) HC5.out)
    clear g0 g1 g2 g3 g4 hy6 R6 k6
    go_wp2_with fail
    exact nd_end (n := r1.1) (A' := A4) (c' := c4) (u := up r1.2) (b := w.heap.size) Tryz.results179 rfl HY6.out hl4 HC6.out (Nat.le_refl _) hcb M6.out.rd HQ.out (HA.out.trans M6.out.keep)
theorem Stmt_calls : ∀ (d : Nat) {w : World} {u : Cu} {H : List Nat} (_ : u.deep + d = 200) (_ : RdP w cb s A c L u) (_ : Good H cb w), Calls Tryz.prog 179 #[.pointer (some ⟨cb, 0, none⟩)] w (NdRes w cb s A c L H (stmtD s L d u))
  | 0, w, u, H, hd, R, G => Stmt_walk (fun W u2 H2 R2 e2 h2 G2 => absurd h2 (by omega)) R G
  | d + 1, w, u, H, hd, R, G => Stmt_walk (fun W u2 H2 R2 e2 h2 G2 => sone_calls (d := d) (by omega) (fun W3 u3 H3 R3 e3 G3 => Stmt_calls d (by omega) R3 G3) (stmtD_adv d) (stmtD_left d) R2 G2) R G
theorem Stmts_top {d : Nat} (hd : u.deep + d = 200) (R : RdP w cb s A c L u) (G : Good H cb w) : Calls Tryz.prog 148 #[.pointer (some ⟨cb, 0, none⟩)] w (LsRes w cb s A c L H (stmtsF s L (stmtD s L d) u)) :=
  Stmts_calls (fun W u2 H2 R2 e2 G2 => Stmt_calls d (by omega) R2 G2) (stmtD_adv d) (stmtD_left d) R G
end
end Go.Proofs.YtbfkkepdeepdeaaGreatDoor
end
section
namespace Go.Proofs.YtbfkkepdeepdeaaGreatDoor
open Go Go.RowKit Go.Proofs.YtbfkkepdeepdeaaGreatDoorW.PrintWords Go.Proofs.YtbfkkepdeepdeaaGreatDoorW.PrintLast Go.Proofs.YtbfkkepdeepdeaaGreatDoorW.PrintMore
set_option linter.unusedVariables false
set_option linter.unusedSimpArgs false
set_option maxRecDepth 100000
structure Prt (w1 : World) (rb : Nat) (H : List Nat) (cb : Nat) (s : ByteArray) (A : Option Addr) (c : Nat) (L : List Tok) (W : World) (u : Cu) (l : List Nd) (H' : List Nat) (v : Value) : Prop where
  keep : Keep [cb, rb] w1 W
  rd : RdP W cb s A c L u
  box : W.heap[rb]? = some (.cells #[.pointer (some ⟨cb, 0, none⟩), v] 227 (0, 0))
  lst : Lst w1.heap.size H W H' v l
  mc : cb ∈ H
  mr : rb ∈ H
  lt : cb < rb
  lr : rb < w1.heap.size
  hH : ∀ k, k ∈ H → k < w1.heap.size
section
variable {w w1 W W' : World} {cb rb : Nat} {s : ByteArray} {A : Option Addr} {c : Nat} {L : List Tok} {u u' : Cu} {H H' H2 : List Nat} {v v' : Value} {l l' : List Nd}
theorem Prt.call (r : Prt w1 rb H cb s A c L W u l H' v) (R : RdP W' cb s A c L u') (k : Keep [cb] W W') : Prt w1 rb H cb s A c L W' u' l H' v :=
  ⟨r.keep.trans k.wide, R, (k.block rb (Array.getElem?_eq_some_iff.1 r.box).1 (by have := r.lt; simp; omega)).trans r.box, r.lst.keep k r.mc (Nat.lt_trans r.lt r.lr), r.mc, r.mr, r.lt, r.lr, r.hH⟩
theorem Prt.calm (r : Prt w1 rb H cb s A c L W u l H' v) (h : Below W.heap.size W W') : Prt w1 rb H cb s A c L W' u l H' v :=
  r.call (r.rd.below h) (Keep.of_below h)
theorem Prt.good (r : Prt w1 rb H cb s A c L W u l H' v) : Good H' cb W := r.lst.good r.mc
theorem Prt.grow (r : Prt w1 rb H cb s A c L W u l H' v) (h : Lst w1.heap.size H W' H2 v' l') (g : W.grownBy W' v.ownBlock) : Prt w1 rb H cb s A c L (W'.setCell ⟨rb, 1, none⟩ v') u l' H2 v' := by
  have hne : ∀ k, k < w1.heap.size → some k ≠ v.ownBlock := fun k hk e => by have := r.lst.base _ e.symm; omega
  have hrb := (Array.getElem?_eq_some_iff.1 r.box).1
  have h1 := r.lt
  have h2 := r.lr
  have hb1 := (g.block rb hrb (hne rb h2)).trans r.box
  have R1 : RdP W' cb s A c L u := r.rd.move (g.block cb r.rd.lt (hne cb (by omega))) (fun k hk => g.block k (by have := r.rd.lt; omega) (hne k (by omega)))
  exact ⟨(r.keep.row g (fun b e => by have := r.lst.base b e; omega)).trans (Keep.set _ _ (List.mem_cons_of_mem _ List.mem_cons_self)), R1.set _ r.lt, heap_setCell_same hb1 1 v', h.keep (Keep.set _ _ List.mem_cons_self) r.mr r.lr, r.mc, r.mr, r.lt, r.lr, r.hH⟩
theorem Lst.appendRow2 {base : Nat} {W : World} {H' : List Nat} {v : Value} {l qs : List Nd} {A2 : Option Addr} {m c2 : Nat} {ops : Array Oper} {o : Oper} {rest : List Oper} {a : Act} {Q : Exit → Act → World → Prop} (h : Lst base H W H' v l) (hgd : o.guard = none) (s x : Operand)
    (ho : o.op = .call { callee := .builtin .append, args := #[s, x], argTypes := #[120, 120] }) (hs : a.eval s = v) (hx : a.eval x = .slice A2 m c2) (hC : kNd.C (hole H' W) A2 m qs) (hb : base ≤ W.heap.size) (hlen : l.length + m ≤ 1000000)
    (K : ∀ v1 w1 H2, Lst base H w1 H2 v1 (l ++ qs) → (∀ k, k ∈ H2 → k ∈ H' ∨ W.heap.size ≤ k) → W.grownBy w1 v.ownBlock → wpList Tryz.prog ops Q rest (a.put o.dst v1) w1) : wpList Tryz.prog ops Q (o :: rest) a W :=
  Kd.R_append_rows (Kd.fixed kNd (hole H' W)) (Rr := kNd.K (hole H' W)) (w0 := W) base hgd s x 120 122 zNdV 72 ho Tryz.underlying120 infoNd rfl (show 0 < 5 by decide) (by decide) v l qs A2 m c2 (fun _ => True) (fun _ => False) hs hx
    ⟨fun _ _ => trivial, h.row⟩ (row_now hC) (fun _ _ hk => hk) (fun _ hk => hk.elim) (fun _ _ => trivial) (Below.refl _ _) hb (by omega)
    (fun v1 w1 hR _ hg hat => by
      obtain ⟨H2, h2, h3⟩ := h.grown2 (v1 := v1) (l1 := l ++ qs) hR.2 hg hat
      exact K v1 w1 H2 h2 h3 hg)
structure Kept (H' : List Nat) (rb : Nat) (v : Value) (W W' : World) (H2 : List Nat) : Prop where
  bnd : ∀ k, k ∈ H2 → k ∈ H' ∨ W.heap.size ≤ k
  blk : ∀ k, k < W.heap.size → k ≠ rb → some k ≠ v.ownBlock → W'.heap[k]? = W.heap[k]?
  size : W.heap.size ≤ W'.heap.size
set_option maxHeartbeats 1000000 in
theorem keep_calls {qs : List Nd} {A2 : Option Addr} {k c2 : Nat} (r : Prt w1 rb H cb s A c L W u l H' v) (hC : kNd.C (hole H' W) A2 k qs) (hlen : l.length + k ≤ 1000000) :
    Calls Tryz.prog 115 #[.pointer (some ⟨rb, 0, none⟩), .slice A2 k c2] W fun e W' => e = .returned (.tuple #[]) ∧ ∃ H2 v2, Prt w1 rb H cb s A c L W' u (l ++ qs) H2 v2 ∧ Kept H' rb v W W' H2 := by
  have HR := Lib.hid r
  have HC := Lib.hid hC
  have HL := Lib.hid hlen
  have x1 := (cell_blk r.box 1).trans rfl
  clear r hC hlen
  go_enter Tryz.func115, Tryz.ntmps115
  go_wp2_with ((with_reducible refine gate_builtin (b := .append) (xs := #[.tmp 8, .tmp 9]) rfl ?_); at_builtin; refine Lst.appendRow2 HR.out.lst rfl (.tmp 8) (.tmp 9) rfl rfl rfl HC.out HR.out.keep.size HL.out ?_; intro v5 w5 H5 hL5 hs5 hg5; (obtain ⟨A5, c5, e5, -⟩ := hL5.row.slice_); (obtain ⟨q5, hq5⟩ : ∃ q, q = (l ++ qs).length := ⟨_, rfl⟩); rw [← hq5] at e5; clear hq5; subst e5; have hx := (hg5.block rb (Array.getElem?_eq_some_iff.1 HR.out.box).1 (fun e => by have := HR.out.lst.base _ e.symm; have := HR.out.lr; omega)).trans HR.out.box; have x2 := (cell_blk hx 1).trans rfl; have f2 := frozen_blk hx 1; have HN := Lib.hid (HR.out.grow hL5 hg5); have HG5 := Lib.hid hg5; have HS5 := Lib.hid hs5; clear hL5 hg5 hx hs5)
  go_end0
  exact ⟨rfl, _, _, HN.out, HS5.out, fun k hk h1 h2 => (Below.heap_setCell _ _ _ k h1).trans (HG5.out.block k hk h2), by simpa using HG5.out.size⟩
set_option maxHeartbeats 1000000 in
theorem node_calls (k : Int) (r : Prt w1 rb H cb s A c L W u l H' v) (hlen : l.length ≤ 1000000) :
    Calls Tryz.prog 118 #[.pointer (some ⟨rb, 0, none⟩), .int .i64 k] W (NdRes W cb s A c L H (asN k l u, u)) := by
  have hcb := r.rd.lt
  obtain ⟨w2, hw2⟩ : ∃ w2, w2 = W.alloc (.cells (aNd zN none 0) 122) := ⟨_, rfl⟩
  have hA1 : Below W.heap.size W w2 := by rw [hw2]; exact (Below.refl _ _).alloc (Nat.le_refl _) _
  have HY := Lib.hid (show w2.heap[W.heap.size]? = some (.cells (aNd zN none 0) 122 (0, 0)) by rw [hw2]; exact World.alloc_heap_new W _)
  have HA := Lib.hid (Keep.of_below (H := [cb]) hA1)
  have hzs : w2.heap.size = W.heap.size + 1 := by rw [hw2]; simp
  have HR2 := Lib.hid (r.calm hA1)
  obtain ⟨A1, c1, e1, hl1, hC1⟩ := r.lst.reads r.hH
  subst e1
  have HC2 := Lib.hid (up_C up_kNd (hole_more (H' := W.heap.size :: H) (Keep.of_below (H := []) hA1) (fun k hk => (List.mem_cons.1 hk).elim (fun e => .inr (by omega)) .inl)) hC1)
  have HH := Lib.hid (show ∀ k, k ∈ W.heap.size :: H → k < w2.heap.size from fun k hk => (List.mem_cons.1 hk).elim (fun e => by omega) (fun e => by have := r.hH k e; have := r.keep.size; omega))
  have x0 := cell_later ((Below.refl _ W).alloc (Nat.le_refl _) (.cells #[.int .i64 0, .string ⟨#[]⟩, .string ⟨#[]⟩, .int .i64 0, .slice none 0 0] 122)) ((cell_blk r.box 0).trans rfl)
  clear r hA1 hC1
  go_enter Tryz.func118, Tryz.ntmps118
  go_wp2_with fail
  have Rz := HR2.out
  rw [hw2] at Rz
  refine (Failed_calls Rz.rd).mono ?_
  rintro e w4 ⟨pp, rfl, -, h4⟩
  rw [← hw2] at h4
  clear Rz hw2 x0
  have HR4 := Lib.hid (HR2.out.calm h4)
  have hy4 := (h4.block W.heap.size (by omega)).trans HY.out
  have HK4 := Lib.hid (HA.out.trans (Keep.of_below h4))
  have HC4 := Lib.hid (up_C up_kNd (hole_more (H' := W.heap.size :: H) (Keep.of_below (H := []) h4) (fun k hk => .inl hk)) HC2.out)
  have HS4 := Lib.hid h4.size
  by_cases e0 : u.err = 0
  · have HQ := Lib.hid (show (asN k l u, u) = (mk k l, u) by unfold asN; rw [if_pos e0])
    rw [show errV u.err = .nilIface by unfold errV; rw [if_pos e0]]
    have x1 := (cell_blk HR4.out.box 1).trans rfl
    have HY4 := Lib.hid hy4
    clear e0 h4 hy4
    go_wp2_with fail
    refine (Make_calls k (W.heap.size :: H) (fun j hj => Nat.lt_of_lt_of_le (HH.out j hj) HS4.out) HC4.out hlen).mono ?_
    rintro e w9 ⟨A9, c9, rfl, hl9, hC9, h9⟩
    have hy9 := (h9.block W.heap.size (by have := HS4.out; omega)).trans HY4.out
    obtain ⟨⟨b0, b1, b2, b3, b4⟩, f0, f1, f2, f3, f4⟩ := (Box5.mk hy9).all
    have HY9 := Lib.hid hy9
    have HC9 := Lib.hid hC9
    have HR9 := Lib.hid (HR4.out.calm h9)
    have HK9 := Lib.hid (HK4.out.trans (Keep.of_below h9))
    clear hy9 hC9 h9 x1
    go_wp2_with fail
    exact nd_end (n := mk k l) (A' := A9) (c' := c9) Tryz.results118 rfl HY9.out hl9 HC9.out (Nat.le_refl _) hcb HR9.out.rd HQ.out HK9.out
  · have HQ := Lib.hid (show (asN k l u, u) = (zN, u) by unfold asN; rw [if_neg e0])
    rw [show errV u.err = .iface 77 (.int .i64 u.err) by unfold errV; rw [if_neg e0]]
    obtain ⟨⟨b0, b1, b2, b3, b4⟩, f0, f1, f2, f3, f4⟩ := (Box5.mk hy4).all
    have HY4 := Lib.hid hy4
    have hC9 : kNd.C (hole (W.heap.size :: H) w4) none zN.kids.length zN.kids := leaf_C _ _ rfl
    have HC9 := Lib.hid hC9
    clear e0 h4 hy4 hC9
    go_wp2_with fail
    exact nd_end (n := zN) (A' := none) (c' := 0) (u := u) (b := W.heap.size) (a0 := .int .i64 0) (a1 := .string ⟨#[]⟩) (a2 := .string ⟨#[]⟩) (a3 := .int .i64 0) (a4 := .slice none 0 0) Tryz.results118 rfl HY4.out (Nat.le_refl _) HC9.out (Nat.le_refl _) hcb HR4.out.rd HQ.out HK4.out
theorem Prt.start (R : RdP w cb s A c L u) (G : Good H cb w) : Prt (w.alloc (.cells #[.pointer (some ⟨cb, 0, none⟩), .slice none 0 0] 227)) w.heap.size (w.heap.size :: H) cb s A c L (w.alloc (.cells #[.pointer (some ⟨cb, 0, none⟩), .slice none 0 0] 227)) u [] (w.heap.size :: H) (.slice none 0 0) := by
  have h : Below w.heap.size w (w.alloc (.cells #[.pointer (some ⟨cb, 0, none⟩), .slice none 0 0] 227)) := (Below.refl _ _).alloc (Nat.le_refl _) _
  have hH : ∀ k, k ∈ w.heap.size :: H → k < (w.alloc (.cells #[.pointer (some ⟨cb, 0, none⟩), .slice none 0 0] 227)).heap.size := fun k hk => by
    simp only [World.size_alloc]
    rcases List.mem_cons.1 hk with e | e
    · omega
    · have := G.all k e; omega
  exact ⟨Keep.refl _ _, R.below h, World.alloc_heap_new _ _, Lst.nil _ hH, List.mem_cons_of_mem _ G.cb, List.mem_cons_self, R.lt, by simp, hH⟩
end
end Go.Proofs.YtbfkkepdeepdeaaGreatDoor
end
section
namespace Go.Proofs.YtbfkkepdeepdeaaGreatDoor
open Go Go.RowKit Go.Proofs.YtbfkkepdeepdeaaGreatDoorW.PrintWords Go.Proofs.YtbfkkepdeepdeaaGreatDoorW.PrintLast Go.Proofs.YtbfkkepdeepdeaaGreatDoorW.PrintMore
set_option linter.unusedVariables false
set_option linter.unusedSimpArgs false
set_option maxRecDepth 100000
def word (s : ByteArray) (L : List Tok) (t : ByteArray) (c : Cu) : Nd × Cu := if t = noB then anyK s L c 4 else want s L c t
def words (s : ByteArray) (L : List Tok) : List ByteArray → Cu → List Nd × Cu
  | [], c => ([], c)
  | t :: r, c => ((word s L t c).1 :: (words s L r (word s L t c).2).1, (words s L r (word s L t c).2).2)
section
variable {w w1 W W' : World} {cb rb : Nat} {s : ByteArray} {A : Option Addr} {c : Nat} {L : List Tok} {u u' : Cu} {H H' H2 : List Nat} {v v' : Value} {l l' : List Nd}
theorem word_adv (t : ByteArray) (u : Cu) : Adv L u (word s L t u).2 := by
  unfold word; split
  · exact any_adv _ _
  · exact want_adv _ _
theorem words_adv : ∀ (ts : List ByteArray) (u : Cu), Adv L u (words s L ts u).2
  | [], u => Adv.refl u
  | t :: r, u => (word_adv t u).trans (words_adv r _)
theorem words_len : ∀ (ts : List ByteArray) (u : Cu), (words s L ts u).1.length = ts.length
  | [], u => rfl
  | t :: r, u => by unfold words; simp [words_len r]
set_option maxHeartbeats 1000000 in
theorem words_calls {texts : List ByteArray} {tb : Nat} (r : Prt w1 rb H cb s A c L W u l H' v) (htb : tb ∉ H') (hT : ∀ i t, texts[i]? = some t → W.cell? ⟨tb, i, none⟩ = some (.string t)) (hlen : l.length + texts.length ≤ 100000) :
    Calls Tryz.prog 113 #[.pointer (some ⟨rb, 0, none⟩), .slice (some ⟨tb, 0, none⟩) texts.length texts.length] W fun e W' => e = .returned (.tuple #[]) ∧ ∃ H2 v2, Prt w1 rb H cb s A c L W' (words s L texts u).2 (l ++ (words s L texts u).1) H2 v2 := by
  obtain ⟨n, hn⟩ : ∃ n, n = texts.length := ⟨_, rfl⟩
  rw [← hn] at hlen ⊢
  have HN := Lib.hid hn
  have HR := Lib.hid r
  have HT := Lib.hid hT
  have HTB := Lib.hid htb
  clear r hT hn htb
  go_enter Tryz.func113, Tryz.ntmps113
  go_wp2_with fail
  go_loopw [8] (fun v9 wr => ∃ (k : Nat) (done : List Nd) (u2 : Cu) (H3 : List Nat) (v3 : Value), v9 = .int .i64 k ∧ k ≤ n ∧ Hid (words s L texts u = (done ++ (words s L (texts.drop k) u2).1, (words s L (texts.drop k) u2).2)) ∧ Hid (done.length = k) ∧ Hid (Prt w1 rb H cb s A c L wr u2 (l ++ done) H3 v3) ∧ Hid (tb ∉ H3) ∧ Hid (∀ i t, texts[i]? = some t → wr.cell? ⟨tb, i, none⟩ = some (.string t))) (fun v9 wr => match v9 with | .int _ k => n - k.toNat | _ => 0)
  case atStart => exact ⟨0, [], u, H', v, rfl, Nat.zero_le _, Lib.hid (by simp), Lib.hid rfl, by rw [List.append_nil]; exact HR, HTB, HT⟩
  case round =>
    obtain ⟨k, done, u2, H3, v3, rfl, hk, hq, hdl, hr, htb, ht⟩ := hrel
    by_cases hlt : k < n
    · obtain ⟨t, ht0⟩ : ∃ t, texts[k]? = some t := ⟨texts[k]'(by rw [← HN.out]; exact hlt), List.getElem?_eq_getElem _⟩
      have xt := ht.out k t ht0
      obtain ⟨r1, hr1⟩ : ∃ r1, r1 = word s L t u2 := ⟨_, rfl⟩
      have hq2 : words s L texts u = ((done ++ [r1.1]) ++ (words s L (texts.drop (k + 1)) r1.2).1, (words s L (texts.drop (k + 1)) r1.2).2) := by
        rw [hq.out, List.drop_eq_getElem_cons (by rw [← HN.out]; exact hlt)]
        have e : texts[k]'(by rw [← HN.out]; exact hlt) = t := by have := (List.getElem?_eq_some_iff.1 ht0).2; exact this
        rw [e, hr1]
        simp [words]
      have HQ2 := Lib.hid hq2
      have HR1 := Lib.hid hr1
      have HT0 := Lib.hid ht0
      have hki : (k : Int) < (n : Int) := by omega
      have HLN := Lib.hid (show (l ++ done).length + 1 ≤ 1000000 by rw [List.length_append, hdl.out]; omega)
      have HDL := Lib.hid (show (done ++ [r1.1]).length = k + 1 by rw [List.length_append, hdl.out]; rfl)
      have x0 := (cell_blk hr.out.box 0).trans rfl
      have htr : tb ≠ rb := fun e => htb.out (e ▸ hr.out.lst.sup _ hr.out.mr)
      have htc : tb ≠ cb := fun e => htb.out (e ▸ hr.out.lst.sup _ hr.out.mc)
      have HTR := Lib.hid htr
      have HTC := Lib.hid htc
      clear hq hr1 ht0 hq2 htr htc
      by_cases htn : t = noB
      · have HE := Lib.hid (show r1 = anyK s L u2 4 by rw [HR1.out, htn]; rfl)
        subst htn
        go_wp2_with fail
        refine (Any_calls hr.out.rd 4).mono ?_
        rw [← HE.out]
        rintro e w5 ⟨rfl, hk5, R5, k5⟩
        have HR5 := Lib.hid (hr.out.call R5 k5)
        have HT5 := Lib.hid (show ∀ i t, texts[i]? = some t → w5.cell? ⟨tb, i, none⟩ = some (.string t) from fun i t h => keep_cell k5 HTC.out (ht.out i t h))
        have HC5 := Lib.hid (one_row (n := r1.1) (A' := none) (c' := 0) HR5.out.good.all (by rw [hk5]; exact Nat.le_refl _) (leaf_C _ _ hk5))
        have h6 : Below w5.heap.size w5 (w5.alloc (.cells (aNd r1.1 none 0) 122)) := (Below.refl _ _).alloc (Nat.le_refl _) _
        have HR6 := Lib.hid (HR5.out.calm h6)
        have HT6 := Lib.hid (show ∀ i t, texts[i]? = some t → (w5.alloc (.cells (aNd r1.1 none 0) 122)).cell? ⟨tb, i, none⟩ = some (.string t) from fun i t h => cell_later h6 (HT5.out i t h))
        clear R5 k5 hk5 x0 h6 xt
        go_wp2_with fail
        refine (keep_calls HR6.out HC5.out HLN.out).mono ?_
        rintro e w7 ⟨rfl, H7, v7, r7, kp7⟩
        have htb7 := cell_block (HT6.out k _ HT0.out)
        have HTB7 := Lib.hid (show tb ∉ H7 from fun h => (kp7.bnd tb h).elim htb.out (fun h => by simp only at htb7; omega))
        have HT7 := Lib.hid (show ∀ i t, texts[i]? = some t → w7.cell? ⟨tb, i, none⟩ = some (.string t) from fun i t h => (World.cell?_of_block (a := ⟨tb, i, none⟩) (kp7.blk tb htb7 HTR.out (fun e => htb.out (HR6.out.lst.own tb e.symm)))).trans (HT6.out i t h))
        have HR7 := Lib.hid (show Prt w1 rb H cb s A c L w7 r1.2 (l ++ (done ++ [r1.1])) H7 v7 by rw [← List.append_assoc]; exact r7)
        clear r7 kp7 htb7
        go_wp2_with fail
        refine ⟨⟨k + 1, done ++ [r1.1], r1.2, H7, v7, by simp, hlt, HQ2, HDL, HR7, HTB7, HT7⟩, ?_⟩
        simp only [Int.toNat_natCast]
        omega
      · have HE := Lib.hid (show r1 = want s L u2 t by rw [HR1.out]; unfold word; rw [if_neg htn])
        have hle : t.toList.isEmpty = false := by
          cases e : t.toList.isEmpty with
          | false => rfl
          | true => exact absurd (toList_inj.1 ((List.isEmpty_iff.1 e).trans (show ([] : List UInt8) = noB.toList by kernel_rfl))) htn
        clear htn
        go_wp2_with fail
        refine (Want_calls hr.out.rd t).mono ?_
        rw [← HE.out]
        rintro e w5 ⟨rfl, hk5, R5, k5⟩
        have HR5 := Lib.hid (hr.out.call R5 k5)
        have HT5 := Lib.hid (show ∀ i t, texts[i]? = some t → w5.cell? ⟨tb, i, none⟩ = some (.string t) from fun i t h => keep_cell k5 HTC.out (ht.out i t h))
        have HC5 := Lib.hid (one_row (n := r1.1) (A' := none) (c' := 0) HR5.out.good.all (by rw [hk5]; exact Nat.le_refl _) (leaf_C _ _ hk5))
        have h6 : Below w5.heap.size w5 (w5.alloc (.cells (aNd r1.1 none 0) 122)) := (Below.refl _ _).alloc (Nat.le_refl _) _
        have HR6 := Lib.hid (HR5.out.calm h6)
        have HT6 := Lib.hid (show ∀ i t, texts[i]? = some t → (w5.alloc (.cells (aNd r1.1 none 0) 122)).cell? ⟨tb, i, none⟩ = some (.string t) from fun i t h => cell_later h6 (HT5.out i t h))
        clear R5 k5 hk5 x0 h6 xt
        go_wp2_with fail
        refine (keep_calls HR6.out HC5.out HLN.out).mono ?_
        rintro e w7 ⟨rfl, H7, v7, r7, kp7⟩
        have htb7 := cell_block (HT6.out k _ HT0.out)
        have HTB7 := Lib.hid (show tb ∉ H7 from fun h => (kp7.bnd tb h).elim htb.out (fun h => by simp only at htb7; omega))
        have HT7 := Lib.hid (show ∀ i t, texts[i]? = some t → w7.cell? ⟨tb, i, none⟩ = some (.string t) from fun i t h => (World.cell?_of_block (a := ⟨tb, i, none⟩) (kp7.blk tb htb7 HTR.out (fun e => htb.out (HR6.out.lst.own tb e.symm)))).trans (HT6.out i t h))
        have HR7 := Lib.hid (show Prt w1 rb H cb s A c L w7 r1.2 (l ++ (done ++ [r1.1])) H7 v7 by rw [← List.append_assoc]; exact r7)
        clear r7 kp7 htb7
        go_wp2_with fail
        refine ⟨⟨k + 1, done ++ [r1.1], r1.2, H7, v7, by simp, hlt, HQ2, HDL, HR7, HTB7, HT7⟩, ?_⟩
        simp only [Int.toNat_natCast]
        omega
    · have he : k = n := by omega
      have hge : ((k : Int) < (n : Int)) = False := by simp; omega
      have HE := Lib.hid (show words s L texts u = (done, u2) by rw [hq.out, List.drop_eq_nil_of_le (by rw [← HN.out]; omega)]; simp [words])
      clear he hq
      go_wp2_with fail
      go_end0
      exact ⟨rfl, H3, v3, by rw [HE.out]; exact hr.out⟩
end
end Go.Proofs.YtbfkkepdeepdeaaGreatDoor
end
section
namespace Go.Proofs.YtbfkkepdeepdeaaGreatDoor
open Go Go.RowKit Go.Proofs.YtbfkkepdeepdeaaGreatDoorW.PrintWords Go.Proofs.YtbfkkepdeepdeaaGreatDoorW.PrintLast Go.Proofs.YtbfkkepdeepdeaaGreatDoorW.PrintMore
set_option linter.unusedVariables false
set_option linter.unusedSimpArgs false
set_option maxRecDepth 100000
section
variable {w w1 W W' : World} {cb rb : Nat} {s : ByteArray} {A : Option Addr} {c : Nat} {L : List Tok} {u u' : Cu} {H H' H2 : List Nat} {v v' : Value} {l l' : List Nd}
theorem wordsX_calls (ts : List ByteArray) {X : Array Value} {n tb : Nat} (r : Prt w1 rb H cb s A c L W u l H' v) (hX : X = (ts.map Value.string).toArray) (htb : tb = W.heap.size) (hn : n = ts.length) (hlen : l.length + n ≤ 100000) :
    Calls Tryz.prog 113 #[.pointer (some ⟨rb, 0, none⟩), .slice (some ⟨tb, 0, none⟩) n n] (W.alloc (.cells X 9)) fun e W' => e = .returned (.tuple #[]) ∧ ∃ H2 v2, Prt w1 rb H cb s A c L W' (words s L ts u).2 (l ++ (words s L ts u).1) H2 v2 := by
  subst hX hn htb
  refine words_calls (r.calm ((Below.refl _ _).alloc (Nat.le_refl _) _)) (fun h => by have := r.lst.lt _ h; omega) (fun i t h => ?_) hlen
  rw [cell_blk (World.alloc_heap_new W (.cells (ts.map Value.string).toArray 9))]
  simp [h]
theorem wordN (u : Cu) : word s L noB u = anyK s L u 4 := by unfold word; rw [if_pos rfl]
theorem wordW {t : ByteArray} (h : t.size ≠ 0) (u : Cu) : word s L t u = want s L u t := by
  unfold word; rw [if_neg (fun e => h (by rw [e]; rfl))]
set_option maxHeartbeats 1000000 in
theorem param_calls (R : RdP w cb s A c L u) (G : Good H cb w) : Calls Tryz.prog 186 #[.pointer (some ⟨cb, 0, none⟩)] w (NdRes w cb s A c L H (named2 s L 7 u)) := by
  have hcb := R.lt
  obtain ⟨w1, hw1⟩ : ∃ w1, w1 = w.alloc (.cells (aNd zN none 0) 122) := ⟨_, rfl⟩
  have hA1 : Below w.heap.size w w1 := by rw [hw1]; exact (Below.refl _ _).alloc (Nat.le_refl _) _
  have hz1 : w1.heap.size = w.heap.size + 1 := by rw [hw1]; simp
  have HY := Lib.hid (show w1.heap[w.heap.size]? = some (.cells (aNd zN none 0) 122 (0, 0)) by rw [hw1]; exact World.alloc_heap_new w _)
  have HA := Lib.hid (Keep.of_below (H := [cb]) hA1)
  obtain ⟨w2, hw2⟩ : ∃ w2, w2 = w1.alloc (.cells #[.pointer (some ⟨cb, 0, none⟩), .slice none 0 0] 227) := ⟨_, rfl⟩
  have r2 := Prt.start (R.below hA1) (G.later hA1.size |>.push (b := w.heap.size) (by omega))
  rw [← hw2, hz1] at r2
  have hK2 : Keep [cb] w1 w2 := by rw [hw2]; exact Keep.alloc _ _
  have HK2 := Lib.hid (HA.out.trans hK2)
  have HY2 := Lib.hid ((hK2.block w.heap.size (by omega) (by simp; omega)).trans HY.out)
  have hz2 : w2.heap.size = w.heap.size + 1 + 1 := by rw [hw2]; simp [hz1]
  have HR2 := Lib.hid r2
  clear r2 hA1 R G hK2
  go_enter Tryz.func186, Tryz.ntmps186
  go_upto_region 2 with (fail)
  rw [show (w.alloc (.cells #[.int .i64 0, .string ⟨#[]⟩, .string ⟨#[]⟩, .int .i64 0, .slice none 0 0] 122)).alloc (.cells #[.pointer (some ⟨cb, 0, none⟩), .slice none 0 0] 227) = w2 from by rw [hw2, hw1]; rfl]
  clear hw1 hw2
  go_wp2_with fail
  refine (Type_calls HR2.out.rd HR2.out.good).mono ?_
  obtain ⟨r1, hr1⟩ : ∃ r1, r1 = typ s L u := ⟨_, rfl⟩
  have HE1 := Lib.hid hr1
  have HD1 := Lib.hid (show r1.2.deep = u.deep by rw [hr1]; exact (typ_adv u).deep)
  rw [← hr1]
  clear hr1
  rintro e w3 ⟨⟨A3, c3, rfl, hl3, hC3⟩, R3, k3⟩
  have HR3 := Lib.hid (HR2.out.call R3 k3)
  have HC3 := Lib.hid (one_row HR3.out.good.all hl3 hC3)
  clear R3 k3 hC3 hl3
  go_wp2_with fail
  refine (keep_calls (HR3.out.calm ((Below.refl _ _).alloc (Nat.le_refl _) _)) HC3.out (by  simp <;> omega)).mono ?_
  rintro e w4 ⟨rfl, H4, v4, rr4, -⟩
  have HR4 := Lib.hid rr4
  clear rr4
  go_wp2_with fail
  refine Calls.mono (wordsX_calls (X := #[.string noB]) (n := 1) [noB] HR4.out (by rfl) rfl (by rfl) (by  simp <;> omega)) ?_
  obtain ⟨r2, hr2⟩ : ∃ r2, r2 = words s L [noB] r1.2 := ⟨_, rfl⟩
  have HE2 := Lib.hid hr2
  have HD2 := Lib.hid (show r2.2.deep = u.deep by rw [hr2]; exact ((words_adv [noB] r1.2).deep.trans HD1.out))
  have HL2 := Lib.hid (show r2.1.length = 1 by rw [hr2]; exact words_len _ _)
  rw [← hr2]
  clear hr2
  rintro e w5 ⟨rfl, H5, v5, rr5⟩
  have HR5 := Lib.hid rr5
  clear rr5
  go_wp2_with fail
  refine (node_calls 7 HR5.out (by have := HL2.out; simp <;> omega)).mono ?_
  obtain ⟨q, hq⟩ : ∃ q : Nd × Cu, q = (asN 7 (([] ++ [r1.1]) ++ r2.1) r2.2, r2.2) := ⟨_, rfl⟩
  rw [← hq]
  have HQ := Lib.hid (show named2 s L 7 u = q by rw [hq]; rw [HE2.out, HE1.out]; unfold named2; simp [words, wordN, wordW (t := wSemi) (by decide)])
  clear hq
  rintro e w6 ⟨⟨A6, c6, rfl, hl6, hC6⟩, R6, k6⟩
  have hy6 := (k6.block w.heap.size (by have := HR5.out.keep.size; omega) (by simp; omega)).trans ((HR5.out.keep.block w.heap.size (by omega) (by simp; omega)).trans HY2.out)
  obtain ⟨⟨b0, b1, b2, b3, b4⟩, f0, f1, f2, f3, f4⟩ := (Box5.mk hy6).all
  have HYF := Lib.hid hy6
  have HCF := Lib.hid (up_C up_kNd (hole_less (H' := w.heap.size :: H) w6 (fun k hk => List.mem_cons_of_mem _ hk)) hC6)
  have HRF := Lib.hid R6
  have HKF := Lib.hid ((Keep.unwide ((Keep.wide HK2.out).trans HR5.out.keep) (by omega)).trans k6)
  clear hy6 hC6 R6 k6
  go_wp2_with fail
  exact nd_end (n := q.1) (A' := A6) (c' := c6) (u := q.2) (b := w.heap.size) Tryz.results186 rfl HYF.out hl6 HCF.out (Nat.le_refl _) hcb HRF.out HQ.out HKF.out
set_option maxHeartbeats 1000000 in
theorem field_calls (R : RdP w cb s A c L u) (G : Good H cb w) : Calls Tryz.prog 116 #[.pointer (some ⟨cb, 0, none⟩)] w (NdRes w cb s A c L H (field s L u)) := by
  have hcb := R.lt
  obtain ⟨w1, hw1⟩ : ∃ w1, w1 = w.alloc (.cells (aNd zN none 0) 122) := ⟨_, rfl⟩
  have hA1 : Below w.heap.size w w1 := by rw [hw1]; exact (Below.refl _ _).alloc (Nat.le_refl _) _
  have hz1 : w1.heap.size = w.heap.size + 1 := by rw [hw1]; simp
  have HY := Lib.hid (show w1.heap[w.heap.size]? = some (.cells (aNd zN none 0) 122 (0, 0)) by rw [hw1]; exact World.alloc_heap_new w _)
  have HA := Lib.hid (Keep.of_below (H := [cb]) hA1)
  obtain ⟨w2, hw2⟩ : ∃ w2, w2 = w1.alloc (.cells #[.pointer (some ⟨cb, 0, none⟩), .slice none 0 0] 227) := ⟨_, rfl⟩
  have r2 := Prt.start (R.below hA1) (G.later hA1.size |>.push (b := w.heap.size) (by omega))
  rw [← hw2, hz1] at r2
  have hK2 : Keep [cb] w1 w2 := by rw [hw2]; exact Keep.alloc _ _
  have HK2 := Lib.hid (HA.out.trans hK2)
  have HY2 := Lib.hid ((hK2.block w.heap.size (by omega) (by simp; omega)).trans HY.out)
  have hz2 : w2.heap.size = w.heap.size + 1 + 1 := by rw [hw2]; simp [hz1]
  have HR2 := Lib.hid r2
  clear r2 hA1 R G hK2
  go_enter Tryz.func116, Tryz.ntmps116
  go_upto_region 2 with (fail)
  rw [show (w.alloc (.cells #[.int .i64 0, .string ⟨#[]⟩, .string ⟨#[]⟩, .int .i64 0, .slice none 0 0] 122)).alloc (.cells #[.pointer (some ⟨cb, 0, none⟩), .slice none 0 0] 227) = w2 from by rw [hw2, hw1]; rfl]
  clear hw1 hw2
  go_wp2_with fail
  refine (Type_calls HR2.out.rd HR2.out.good).mono ?_
  obtain ⟨r1, hr1⟩ : ∃ r1, r1 = typ s L u := ⟨_, rfl⟩
  have HE1 := Lib.hid hr1
  have HD1 := Lib.hid (show r1.2.deep = u.deep by rw [hr1]; exact (typ_adv u).deep)
  rw [← hr1]
  clear hr1
  rintro e w3 ⟨⟨A3, c3, rfl, hl3, hC3⟩, R3, k3⟩
  have HR3 := Lib.hid (HR2.out.call R3 k3)
  have HC3 := Lib.hid (one_row HR3.out.good.all hl3 hC3)
  clear R3 k3 hC3 hl3
  go_wp2_with fail
  refine (keep_calls (HR3.out.calm ((Below.refl _ _).alloc (Nat.le_refl _) _)) HC3.out (by  simp <;> omega)).mono ?_
  rintro e w4 ⟨rfl, H4, v4, rr4, -⟩
  have HR4 := Lib.hid rr4
  clear rr4
  go_wp2_with fail
  refine Calls.mono (wordsX_calls (X := #[.string noB, .string wSemi]) (n := 2) [noB, wSemi] HR4.out (by rfl) rfl (by rfl) (by  simp <;> omega)) ?_
  obtain ⟨r2, hr2⟩ : ∃ r2, r2 = words s L [noB, wSemi] r1.2 := ⟨_, rfl⟩
  have HE2 := Lib.hid hr2
  have HD2 := Lib.hid (show r2.2.deep = u.deep by rw [hr2]; exact ((words_adv [noB, wSemi] r1.2).deep.trans HD1.out))
  have HL2 := Lib.hid (show r2.1.length = 2 by rw [hr2]; exact words_len _ _)
  rw [← hr2]
  clear hr2
  rintro e w5 ⟨rfl, H5, v5, rr5⟩
  have HR5 := Lib.hid rr5
  clear rr5
  go_wp2_with fail
  refine (node_calls 5 HR5.out (by have := HL2.out; simp <;> omega)).mono ?_
  obtain ⟨q, hq⟩ : ∃ q : Nd × Cu, q = (asN 5 (([] ++ [r1.1]) ++ r2.1) r2.2, r2.2) := ⟨_, rfl⟩
  rw [← hq]
  have HQ := Lib.hid (show field s L u = q by rw [hq]; rw [HE2.out, HE1.out]; unfold field; simp [words, wordN, wordW (t := wSemi) (by decide)])
  clear hq
  rintro e w6 ⟨⟨A6, c6, rfl, hl6, hC6⟩, R6, k6⟩
  have hy6 := (k6.block w.heap.size (by have := HR5.out.keep.size; omega) (by simp; omega)).trans ((HR5.out.keep.block w.heap.size (by omega) (by simp; omega)).trans HY2.out)
  obtain ⟨⟨b0, b1, b2, b3, b4⟩, f0, f1, f2, f3, f4⟩ := (Box5.mk hy6).all
  have HYF := Lib.hid hy6
  have HCF := Lib.hid (up_C up_kNd (hole_less (H' := w.heap.size :: H) w6 (fun k hk => List.mem_cons_of_mem _ hk)) hC6)
  have HRF := Lib.hid R6
  have HKF := Lib.hid ((Keep.unwide ((Keep.wide HK2.out).trans HR5.out.keep) (by omega)).trans k6)
  clear hy6 hC6 R6 k6
  go_wp2_with fail
  exact nd_end (n := q.1) (A' := A6) (c' := c6) (u := q.2) (b := w.heap.size) Tryz.results116 rfl HYF.out hl6 HCF.out (Nat.le_refl _) hcb HRF.out HQ.out HKF.out
set_option maxHeartbeats 1000000 in
theorem starts_calls (R : RdP w cb s A c L u) : Calls Tryz.prog 111 #[.pointer (some ⟨cb, 0, none⟩)] w fun e w' => e = .returned (.bool (mainB s L u)) ∧ Below w.heap.size w w' := by
  have HR0 := Lib.hid R
  have HK0 := Lib.hid (Below.refl w.heap.size w)
  clear R
  cases h0 : isB s L u 2 wLC with
  | false =>
    have HC0 := Lib.hid h0
    clear h0
    have HV := Lib.hid (show mainB s L u = false by unfold mainB; simp [HC0.out])
    go_enter Tryz.func111, Tryz.ntmps111
    go_wp2_with fail
    refine (Is_calls HR0.out 2 (by decide) wLC).mono ?_
    rw [HC0.out]
    rintro e w1 ⟨rfl, hb1⟩
    have HR1 := Lib.hid (HR0.out.below hb1)
    have HK1 := Lib.hid (below_step HK0.out hb1)
    clear hb1
    go_wp2_with fail
    go_ret
    exact ⟨by rw [HV.out]; rfl, HK1.out⟩
  | true =>
    have HC0 := Lib.hid h0
    clear h0
    cases h1 : isB s L u 3 wPublic with
    | false =>
      have HC1 := Lib.hid h1
      clear h1
      have HV := Lib.hid (show mainB s L u = false by unfold mainB; simp [HC0.out, HC1.out])
      go_enter Tryz.func111, Tryz.ntmps111
      go_wp2_with fail
      refine (Is_calls HR0.out 2 (by decide) wLC).mono ?_
      rw [HC0.out]
      rintro e w1 ⟨rfl, hb1⟩
      have HR1 := Lib.hid (HR0.out.below hb1)
      have HK1 := Lib.hid (below_step HK0.out hb1)
      clear hb1
      go_wp2_with fail
      refine (Is_calls HR1.out 3 (by decide) wPublic).mono ?_
      rw [HC1.out]
      rintro e w2 ⟨rfl, hb2⟩
      have HR2 := Lib.hid (HR1.out.below hb2)
      have HK2 := Lib.hid (below_step HK1.out hb2)
      clear hb2
      go_wp2_with fail
      go_ret
      exact ⟨by rw [HV.out]; rfl, HK2.out⟩
    | true =>
      have HC1 := Lib.hid h1
      clear h1
      cases h2 : isB s L u 4 wStatic with
      | false =>
        have HC2 := Lib.hid h2
        clear h2
        have HV := Lib.hid (show mainB s L u = false by unfold mainB; simp [HC0.out, HC1.out, HC2.out])
        go_enter Tryz.func111, Tryz.ntmps111
        go_wp2_with fail
        refine (Is_calls HR0.out 2 (by decide) wLC).mono ?_
        rw [HC0.out]
        rintro e w1 ⟨rfl, hb1⟩
        have HR1 := Lib.hid (HR0.out.below hb1)
        have HK1 := Lib.hid (below_step HK0.out hb1)
        clear hb1
        go_wp2_with fail
        refine (Is_calls HR1.out 3 (by decide) wPublic).mono ?_
        rw [HC1.out]
        rintro e w2 ⟨rfl, hb2⟩
        have HR2 := Lib.hid (HR1.out.below hb2)
        have HK2 := Lib.hid (below_step HK1.out hb2)
        clear hb2
        go_wp2_with fail
        refine (Is_calls HR2.out 4 (by decide) wStatic).mono ?_
        rw [HC2.out]
        rintro e w3 ⟨rfl, hb3⟩
        have HR3 := Lib.hid (HR2.out.below hb3)
        have HK3 := Lib.hid (below_step HK2.out hb3)
        clear hb3
        go_wp2_with fail
        go_ret
        exact ⟨by rw [HV.out]; rfl, HK3.out⟩
      | true =>
        have HC2 := Lib.hid h2
        clear h2
        have HV := Lib.hid (show mainB s L u = true by unfold mainB; simp [HC0.out, HC1.out, HC2.out])
        go_enter Tryz.func111, Tryz.ntmps111
        go_wp2_with fail
        refine (Is_calls HR0.out 2 (by decide) wLC).mono ?_
        rw [HC0.out]
        rintro e w1 ⟨rfl, hb1⟩
        have HR1 := Lib.hid (HR0.out.below hb1)
        have HK1 := Lib.hid (below_step HK0.out hb1)
        clear hb1
        go_wp2_with fail
        refine (Is_calls HR1.out 3 (by decide) wPublic).mono ?_
        rw [HC1.out]
        rintro e w2 ⟨rfl, hb2⟩
        have HR2 := Lib.hid (HR1.out.below hb2)
        have HK2 := Lib.hid (below_step HK1.out hb2)
        clear hb2
        go_wp2_with fail
        refine (Is_calls HR2.out 4 (by decide) wStatic).mono ?_
        rw [HC2.out]
        rintro e w3 ⟨rfl, hb3⟩
        have HR3 := Lib.hid (HR2.out.below hb3)
        have HK3 := Lib.hid (below_step HK2.out hb3)
        clear hb3
        go_wp2_with fail
        go_ret
        exact ⟨by rw [HV.out]; rfl, HK3.out⟩
end
end Go.Proofs.YtbfkkepdeepdeaaGreatDoor
end
section
namespace Go.Proofs.YtbfkkepdeepdeaaGreatDoor
open Go Go.RowKit Go.Proofs.YtbfkkepdeepdeaaGreatDoorW.PrintWords Go.Proofs.YtbfkkepdeepdeaaGreatDoorW.PrintLast Go.Proofs.YtbfkkepdeepdeaaGreatDoorW.PrintMore
set_option linter.unusedVariables false
set_option linter.unusedSimpArgs false
set_option maxRecDepth 100000
section
variable {w w1 W W' : World} {cb rb : Nat} {s : ByteArray} {A : Option Addr} {c : Nat} {L : List Tok} {u u' : Cu} {H H' H2 : List Nat} {v v' : Value} {l l' : List Nd}
theorem parLoop_end {f : Nat} {l : List Nd} {u : Cu} (h : isB s L u 0 wComma = false) : parLoop s L f l u = (l, u) := by
  cases f with
  | zero => rfl
  | succ f => unfold parLoop; rw [if_neg (by rw [h]; simp)]
theorem parLoop_len : ∀ (f : Nat) (l : List Nd) (u : Cu), (parLoop s L f l u).1.length ≤ l.length + 2 * f
  | 0, l, u => Nat.le_refl _
  | f + 1, l, u => by
    unfold parLoop
    split
    · refine Nat.le_trans (parLoop_len f _ _) ?_
      simp only [List.length_append, List.length_singleton]; omega
    · show l.length ≤ _; omega
theorem params_len (l : List Nd) (u : Cu) (hL : L.length ≤ 4000) : (params s L l u).1.length ≤ l.length + 9000 := by
  unfold params
  split
  · show l.length ≤ _; omega
  · refine Nat.le_trans (parLoop_len _ _ _) ?_
    simp only [List.length_append, List.length_singleton]; omega
set_option maxHeartbeats 1000000 in
theorem params_calls (r : Prt w1 rb H cb s A c L W u l H' v) (hlen : l.length ≤ 10000) :
    Calls Tryz.prog 153 #[.pointer (some ⟨rb, 0, none⟩)] W fun e W' => e = .returned (.tuple #[]) ∧ ∃ H2 v2, Prt w1 rb H cb s A c L W' (params s L l u).2 (params s L l u).1 H2 v2 := by
  have hll := r.rd.fit.len
  have HR := Lib.hid r
  have x0 := (cell_blk r.box 0).trans rfl
  clear r
  cases hb : isB s L u 0 wRP with
  | true =>
    have HB := Lib.hid hb
    have HQ := Lib.hid (show params s L l u = (l, u) by unfold params; rw [if_pos hb])
    clear hb
    go_enter Tryz.func153, Tryz.ntmps153
    go_wp2_with fail
    refine (Is_calls HR.out.rd 0 (by decide) wRP).mono ?_
    rw [HB.out]
    rintro e w2 ⟨rfl, h2⟩
    have HR2 := Lib.hid (HR.out.calm h2)
    clear h2 x0
    go_wp2_with fail
    (try simp only [Exit.inBlock, Exit.then])
    refine bodyPost_ret (results_none rfl _ _ _) rfl ?_
    exact ⟨rfl, H', v, by rw [HQ.out]; exact HR2.out⟩
  | false =>
    have HB := Lib.hid hb
    have HQ := Lib.hid (show params s L l u = parLoop s L (L.length + 1) (l ++ [(named2 s L 7 u).1]) (named2 s L 7 u).2 by unfold params; rw [if_neg (by rw [hb]; simp)])
    clear hb
    obtain ⟨r1, hr1⟩ : ∃ r1, r1 = named2 s L 7 u := ⟨_, rfl⟩
    rw [← hr1] at HQ
    have HR1 := Lib.hid hr1
    clear hr1
    go_enter Tryz.func153, Tryz.ntmps153
    go_wp2_with fail
    refine (Is_calls HR.out.rd 0 (by decide) wRP).mono ?_
    rw [HB.out]
    rintro e w2 ⟨rfl, h2⟩
    have HR2 := Lib.hid (HR.out.calm h2)
    clear h2 x0
    have x0 := (cell_blk HR2.out.box 0).trans rfl
    go_wp2_with fail
    refine (param_calls HR2.out.rd HR2.out.good).mono ?_
    rw [← HR1.out]
    rintro e w3 ⟨⟨A3, c3, rfl, hl3, hC3⟩, R3, k3⟩
    have HR3 := Lib.hid (HR2.out.call R3 k3)
    have HC3 := Lib.hid (one_row HR3.out.good.all hl3 hC3)
    clear R3 k3 hl3 hC3 x0
    go_wp2_with fail
    refine (keep_calls (HR3.out.calm ((Below.refl _ _).alloc (Nat.le_refl _) _)) HC3.out (by omega)).mono ?_
    rintro e w4 ⟨rfl, H4, v4, r4, -⟩
    have HR4 := Lib.hid r4
    clear r4
    go_wp2_with fail
    go_loopw [] (fun wr => ∃ (f : Nat) (l2 : List Nd) (u2 : Cu) (H3 : List Nat) (v3 : Value), left L u2 ≤ f ∧ l2.length + 2 * f ≤ l.length + 1 + 2 * (L.length + 1) ∧ Hid (params s L l u = parLoop s L f l2 u2) ∧ Hid (Prt w1 rb H cb s A c L wr u2 l2 H3 v3)) (fun wr => leftW cb L.length wr)
    case atStart =>
      have h0 : left L r1.2 ≤ L.length + 1 := by unfold left; split <;> omega
      exact ⟨L.length + 1, l ++ [r1.1], r1.2, H4, v4, h0, by simp, HQ, HR4⟩
    case round =>
      obtain ⟨f, l2, u2, H5, v5, hf, hl2, hq, hr⟩ := hrel
      have x0 := (cell_blk hr.out.box 0).trans rfl
      cases hb : isB s L u2 0 wComma with
      | false =>
        have HB2 := Lib.hid hb
        have HE := Lib.hid (show params s L l u = (l2, u2) by rw [hq.out, parLoop_end hb])
        clear hb hq
        go_wp2_with fail
        refine (Is_calls hr.out.rd 0 (by decide) wComma).mono ?_
        rw [HB2.out]
        rintro e w6 ⟨rfl, h6⟩
        have HR6 := Lib.hid (hr.out.calm h6)
        clear h6 x0
        go_wp2_with fail
        go_end0
        exact ⟨rfl, H5, v5, by rw [HE.out]; exact HR6.out⟩
      | true =>
        have hwl := want_left hb
        have hal := (named2_adv (s := s) (L := L) 7 (want s L u2 wComma).2).leftLe
        have hpos : 0 < f := by omega
        obtain ⟨g, rfl⟩ : ∃ g, f = g + 1 := ⟨f - 1, by omega⟩
        have HE := Lib.hid (show params s L l u = parLoop s L g (l2 ++ [(want s L u2 wComma).1] ++ [(named2 s L 7 (want s L u2 wComma).2).1]) (named2 s L 7 (want s L u2 wComma).2).2 by rw [hq.out]; conv => lhs; unfold parLoop; rw [if_pos hb])
        have HB2 := Lib.hid hb
        obtain ⟨q1, hq1⟩ : ∃ q1, q1 = want s L u2 wComma := ⟨_, rfl⟩
        rw [← hq1] at hwl hal HE
        obtain ⟨q2, hq2⟩ : ∃ q2, q2 = named2 s L 7 q1.2 := ⟨_, rfl⟩
        rw [← hq2] at hal HE
        have HW1 := Lib.hid (show words s L [wComma] u2 = ([q1.1], q1.2) by rw [hq1]; simp [words, wordW (t := wComma) (by decide)])
        have HQ2 := Lib.hid hq2
        clear hb hq hq1 hq2
        go_wp2_with fail
        refine (Is_calls hr.out.rd 0 (by decide) wComma).mono ?_
        rw [HB2.out]
        rintro e w6 ⟨rfl, h6⟩
        have HR6 := Lib.hid (hr.out.calm h6)
        clear h6 x0
        go_wp2_with fail
        refine (wordsX_calls [wComma] HR6.out rfl rfl rfl (by simp; omega)).mono ?_
        rw [HW1.out]
        rintro e w7 ⟨rfl, H7, v7, r7⟩
        have HR7 := Lib.hid r7
        clear r7
        have x0 := (cell_blk HR7.out.box 0).trans rfl
        go_wp2_with fail
        refine (param_calls HR7.out.rd HR7.out.good).mono ?_
        rw [← HQ2.out]
        rintro e w8 ⟨⟨A8, c8, rfl, hl8, hC8⟩, R8, k8⟩
        have HR8 := Lib.hid (HR7.out.call R8 k8)
        have HC8 := Lib.hid (one_row HR8.out.good.all hl8 hC8)
        clear R8 k8 hl8 hC8 x0
        go_wp2_with fail
        refine (keep_calls (HR8.out.calm ((Below.refl _ _).alloc (Nat.le_refl _) _)) HC8.out (by simp; omega)).mono ?_
        rintro e w9 ⟨rfl, H9, v9, r9, -⟩
        have HR9 := Lib.hid r9
        clear r9
        go_wp2_with fail
        refine ⟨⟨g, l2 ++ [q1.1] ++ [q2.1], q2.2, H9, v9, by omega, by simp; omega, HE, HR9⟩, ?_⟩
        rw [HR9.out.rd.leftW, hr.out.rd.leftW]; omega
theorem main_eq (d : Nat) (u : Cu) (hd : u.deep + d = 200) : main s L u = (asN 3 ([] ++ (words s L [wClass, noB, wLC, wPublic, wStatic, wVoid, wMain, wLP, wStr, wLB, wRB, noB, wRP, wLC] u).1 ++ (stmtsF s L (stmtD s L d) (words s L [wClass, noB, wLC, wPublic, wStatic, wVoid, wMain, wLP, wStr, wLB, wRB, noB, wRP, wLC] u).2).1 ++ (words s L [wRC, wRC] (stmtsF s L (stmtD s L d) (words s L [wClass, noB, wLC, wPublic, wStatic, wVoid, wMain, wLP, wStr, wLB, wRB, noB, wRP, wLC] u).2).2).1) (words s L [wRC, wRC] (stmtsF s L (stmtD s L d) (words s L [wClass, noB, wLC, wPublic, wStatic, wVoid, wMain, wLP, wStr, wLB, wRB, noB, wRP, wLC] u).2).2).2, (words s L [wRC, wRC] (stmtsF s L (stmtD s L d) (words s L [wClass, noB, wLC, wPublic, wStatic, wVoid, wMain, wLP, wStr, wLB, wRB, noB, wRP, wLC] u).2).2).2) := by
  have hst : ∀ u2 : Cu, u2.deep = u.deep → stmts s L u2 = stmtsF s L (stmtD s L d) u2 := fun u2 h => by unfold stmts; rw [h, show 200 - u.deep = d by omega]
  have hw := (words_adv (s := s) (L := L) [wClass, noB, wLC, wPublic, wStatic, wVoid, wMain, wLP, wStr, wLB, wRB, noB, wRP, wLC] u).deep
  rw [← hst _ hw]
  unfold main
  simp [words, wants, wordN, wordW (t := wClass) (by decide), wordW (t := wLC) (by decide), wordW (t := wPublic) (by decide), wordW (t := wStatic) (by decide), wordW (t := wVoid) (by decide), wordW (t := wMain) (by decide), wordW (t := wLP) (by decide), wordW (t := wStr) (by decide), wordW (t := wLB) (by decide), wordW (t := wRB) (by decide), wordW (t := wRP) (by decide), wordW (t := wRC) (by decide)]
set_option maxHeartbeats 2000000 in
theorem program_calls {d : Nat} (hd : u.deep + d = 200) (R : RdP w cb s A c L u) (G : Good H cb w) : Calls Tryz.prog 112 #[.pointer (some ⟨cb, 0, none⟩)] w (NdRes w cb s A c L H (main s L u)) := by
  have hcb := R.lt
  obtain ⟨w1, hw1⟩ : ∃ w1, w1 = w.alloc (.cells (aNd zN none 0) 122) := ⟨_, rfl⟩
  have hA1 : Below w.heap.size w w1 := by rw [hw1]; exact (Below.refl _ _).alloc (Nat.le_refl _) _
  have hz1 : w1.heap.size = w.heap.size + 1 := by rw [hw1]; simp
  have HY := Lib.hid (show w1.heap[w.heap.size]? = some (.cells (aNd zN none 0) 122 (0, 0)) by rw [hw1]; exact World.alloc_heap_new w _)
  have HA := Lib.hid (Keep.of_below (H := [cb]) hA1)
  obtain ⟨w2, hw2⟩ : ∃ w2, w2 = w1.alloc (.cells #[.pointer (some ⟨cb, 0, none⟩), .slice none 0 0] 227) := ⟨_, rfl⟩
  have r2 := Prt.start (R.below hA1) (G.later hA1.size |>.push (b := w.heap.size) (by omega))
  rw [← hw2, hz1] at r2
  have hK2 : Keep [cb] w1 w2 := by rw [hw2]; exact Keep.alloc _ _
  have HK2 := Lib.hid (HA.out.trans hK2)
  have HY2 := Lib.hid ((hK2.block w.heap.size (by omega) (by simp; omega)).trans HY.out)
  have hz2 : w2.heap.size = w.heap.size + 1 + 1 := by rw [hw2]; simp [hz1]
  have HR2 := Lib.hid r2
  have HLL := Lib.hid R.fit.len
  have HDD := Lib.hid hd
  clear hd
  clear r2 hA1 R G hK2
  go_enter Tryz.func112, Tryz.ntmps112
  go_upto_region 2 with (fail)
  rw [show (w.alloc (.cells #[.int .i64 0, .string ⟨#[]⟩, .string ⟨#[]⟩, .int .i64 0, .slice none 0 0] 122)).alloc (.cells #[.pointer (some ⟨cb, 0, none⟩), .slice none 0 0] 227) = w2 from by rw [hw2, hw1]; rfl]
  clear hw1 hw2
  go_wp2_with fail
  refine Calls.mono (wordsX_calls (X := #[.string wClass, .string noB, .string wLC, .string wPublic, .string wStatic, .string wVoid, .string wMain, .string wLP, .string wStr, .string wLB, .string wRB, .string noB, .string wRP, .string wLC]) (n := 14) [wClass, noB, wLC, wPublic, wStatic, wVoid, wMain, wLP, wStr, wLB, wRB, noB, wRP, wLC] HR2.out (by rfl) hz2.symm (by rfl) (by  simp <;> omega)) ?_
  obtain ⟨r1, hr1⟩ : ∃ r1, r1 = words s L [wClass, noB, wLC, wPublic, wStatic, wVoid, wMain, wLP, wStr, wLB, wRB, noB, wRP, wLC] u := ⟨_, rfl⟩
  have HE1 := Lib.hid hr1
  have HD1 := Lib.hid (show r1.2.deep = u.deep by rw [hr1]; exact (words_adv [wClass, noB, wLC, wPublic, wStatic, wVoid, wMain, wLP, wStr, wLB, wRB, noB, wRP, wLC] u).deep)
  have HL1 := Lib.hid (show r1.1.length = 14 by rw [hr1]; exact words_len _ _)
  rw [← hr1]
  clear hr1
  rintro e w3 ⟨rfl, H3, v3, rr3⟩
  have HR3 := Lib.hid rr3
  clear rr3
  go_wp2_with fail
  refine (Stmts_top (d := d) (by rw [HD1.out]; exact HDD.out) HR3.out.rd HR3.out.good).mono ?_
  obtain ⟨r2, hr2⟩ : ∃ r2, r2 = stmtsF s L (stmtD s L d) r1.2 := ⟨_, rfl⟩
  have HE2 := Lib.hid hr2
  have HD2 := Lib.hid (show r2.2.deep = u.deep by rw [hr2]; exact ((stmtsF_adv (stmtD_adv d) r1.2).deep.trans HD1.out))
  have HL2 := Lib.hid (show r2.1.length ≤ 4001 by rw [hr2]; exact several_len _ _ HLL.out _)
  rw [← hr2]
  clear hr2
  rintro e w4 ⟨⟨vv4, HH4, rfl, hL4⟩, R4, k4⟩
  obtain ⟨A4, c4, rfl, -, hC4⟩ := hL4.reads HR3.out.good.all
  have HR4 := Lib.hid (HR3.out.call R4 k4)
  have HC4 := Lib.hid hC4
  clear R4 k4 hC4 hL4
  go_wp2_with fail
  refine (keep_calls HR4.out HC4.out (by have := HL1.out; have := HL2.out; simp <;> omega)).mono ?_
  rintro e w5 ⟨rfl, H5, v5, rr5, -⟩
  have HR5 := Lib.hid rr5
  clear rr5
  go_wp2_with fail
  refine Calls.mono (wordsX_calls (X := #[.string wRC, .string wRC]) (n := 2) [wRC, wRC] HR5.out (by rfl) rfl (by rfl) (by have := HL1.out; have := HL2.out; simp <;> omega)) ?_
  obtain ⟨r3, hr3⟩ : ∃ r3, r3 = words s L [wRC, wRC] r2.2 := ⟨_, rfl⟩
  have HE3 := Lib.hid hr3
  have HD3 := Lib.hid (show r3.2.deep = u.deep by rw [hr3]; exact ((words_adv [wRC, wRC] r2.2).deep.trans HD2.out))
  have HL3 := Lib.hid (show r3.1.length = 2 by rw [hr3]; exact words_len _ _)
  rw [← hr3]
  clear hr3
  rintro e w6 ⟨rfl, H6, v6, rr6⟩
  have HR6 := Lib.hid rr6
  clear rr6
  go_wp2_with fail
  refine (node_calls 3 HR6.out (by have := HL1.out; have := HL2.out; have := HL3.out; simp <;> omega)).mono ?_
  obtain ⟨q, hq⟩ : ∃ q : Nd × Cu, q = (asN 3 ((([] ++ r1.1) ++ r2.1) ++ r3.1) r3.2, r3.2) := ⟨_, rfl⟩
  rw [← hq]
  have HQ := Lib.hid (show main s L u = q by rw [hq]; rw [HE3.out, HE2.out, HE1.out]; exact main_eq d u HDD.out)
  clear hq
  rintro e w7 ⟨⟨A7, c7, rfl, hl7, hC7⟩, R7, k7⟩
  have hy7 := (k7.block w.heap.size (by have := HR6.out.keep.size; omega) (by simp; omega)).trans ((HR6.out.keep.block w.heap.size (by omega) (by simp; omega)).trans HY2.out)
  obtain ⟨⟨b0, b1, b2, b3, b4⟩, f0, f1, f2, f3, f4⟩ := (Box5.mk hy7).all
  have HYF := Lib.hid hy7
  have HCF := Lib.hid (up_C up_kNd (hole_less (H' := w.heap.size :: H) w7 (fun k hk => List.mem_cons_of_mem _ hk)) hC7)
  have HRF := Lib.hid R7
  have HKF := Lib.hid ((Keep.unwide ((Keep.wide HK2.out).trans HR6.out.keep) (by omega)).trans k7)
  clear hy7 hC7 R7 k7
  go_wp2_with fail
  exact nd_end (n := q.1) (A' := A7) (c' := c7) (u := q.2) (b := w.heap.size) Tryz.results112 rfl HYF.out hl7 HCF.out (Nat.le_refl _) hcb HRF.out HQ.out HKF.out
theorem Parse_with {d : Nat} (hd : u.deep + d = 200) (R : RdP w cb s A c L u) (G : Good H cb w) : Calls Tryz.prog 155 #[.pointer (some ⟨cb, 0, none⟩)] w (NdRes w cb s A c L H (exprD s L d u)) := Parse_calls R hd G
theorem want_deep (u : Cu) (t : ByteArray) : (want s L u t).2.deep = u.deep := (want_adv u t).deep
theorem any_deep (u : Cu) (k : Int) : (anyK s L u k).2.deep = u.deep := (any_adv u k).deep
theorem typ_deep (u : Cu) : (typ s L u).2.deep = u.deep := (typ_adv u).deep
theorem params_deep (l : List Nd) (u : Cu) : (params s L l u).2.deep = u.deep := (params_adv l u).deep
theorem vars_deep (u : Cu) : (vars s L u).2.deep = u.deep := (vars_adv u).deep
theorem stmtsF_deep (d : Nat) (u : Cu) : (stmtsF s L (stmtD s L d) u).2.deep = u.deep := (stmtsF_adv (stmtD_adv d) u).deep
theorem method_eq (d : Nat) (u : Cu) (hd : u.deep + d = 200) : method s L u = (asN 6 ((params s L ([] ++ (words s L [wPublic] u).1 ++ [(typ s L (words s L [wPublic] u).2).1] ++ (words s L [noB, wLP] (typ s L (words s L [wPublic] u).2).2).1) (words s L [noB, wLP] (typ s L (words s L [wPublic] u).2).2).2).1 ++ (words s L [wRP, wLC] (params s L ([] ++ (words s L [wPublic] u).1 ++ [(typ s L (words s L [wPublic] u).2).1] ++ (words s L [noB, wLP] (typ s L (words s L [wPublic] u).2).2).1) (words s L [noB, wLP] (typ s L (words s L [wPublic] u).2).2).2).2).1 ++ (vars s L (words s L [wRP, wLC] (params s L ([] ++ (words s L [wPublic] u).1 ++ [(typ s L (words s L [wPublic] u).2).1] ++ (words s L [noB, wLP] (typ s L (words s L [wPublic] u).2).2).1) (words s L [noB, wLP] (typ s L (words s L [wPublic] u).2).2).2).2).2).1 ++ (stmtsF s L (stmtD s L d) (vars s L (words s L [wRP, wLC] (params s L ([] ++ (words s L [wPublic] u).1 ++ [(typ s L (words s L [wPublic] u).2).1] ++ (words s L [noB, wLP] (typ s L (words s L [wPublic] u).2).2).1) (words s L [noB, wLP] (typ s L (words s L [wPublic] u).2).2).2).2).2).2).1 ++ (words s L [wReturn] (stmtsF s L (stmtD s L d) (vars s L (words s L [wRP, wLC] (params s L ([] ++ (words s L [wPublic] u).1 ++ [(typ s L (words s L [wPublic] u).2).1] ++ (words s L [noB, wLP] (typ s L (words s L [wPublic] u).2).2).1) (words s L [noB, wLP] (typ s L (words s L [wPublic] u).2).2).2).2).2).2).2).1 ++ [(exprD s L d (words s L [wReturn] (stmtsF s L (stmtD s L d) (vars s L (words s L [wRP, wLC] (params s L ([] ++ (words s L [wPublic] u).1 ++ [(typ s L (words s L [wPublic] u).2).1] ++ (words s L [noB, wLP] (typ s L (words s L [wPublic] u).2).2).1) (words s L [noB, wLP] (typ s L (words s L [wPublic] u).2).2).2).2).2).2).2).2).1] ++ (words s L [wSemi, wRC] (exprD s L d (words s L [wReturn] (stmtsF s L (stmtD s L d) (vars s L (words s L [wRP, wLC] (params s L ([] ++ (words s L [wPublic] u).1 ++ [(typ s L (words s L [wPublic] u).2).1] ++ (words s L [noB, wLP] (typ s L (words s L [wPublic] u).2).2).1) (words s L [noB, wLP] (typ s L (words s L [wPublic] u).2).2).2).2).2).2).2).2).2).1) (words s L [wSemi, wRC] (exprD s L d (words s L [wReturn] (stmtsF s L (stmtD s L d) (vars s L (words s L [wRP, wLC] (params s L ([] ++ (words s L [wPublic] u).1 ++ [(typ s L (words s L [wPublic] u).2).1] ++ (words s L [noB, wLP] (typ s L (words s L [wPublic] u).2).2).1) (words s L [noB, wLP] (typ s L (words s L [wPublic] u).2).2).2).2).2).2).2).2).2).2, (words s L [wSemi, wRC] (exprD s L d (words s L [wReturn] (stmtsF s L (stmtD s L d) (vars s L (words s L [wRP, wLC] (params s L ([] ++ (words s L [wPublic] u).1 ++ [(typ s L (words s L [wPublic] u).2).1] ++ (words s L [noB, wLP] (typ s L (words s L [wPublic] u).2).2).1) (words s L [noB, wLP] (typ s L (words s L [wPublic] u).2).2).2).2).2).2).2).2).2).2) := by
  have hst : ∀ u2 : Cu, u2.deep = u.deep → stmts s L u2 = stmtsF s L (stmtD s L d) u2 := fun u2 h => by unfold stmts; rw [h, show 200 - u.deep = d by omega]
  have hex : ∀ u2 : Cu, u2.deep = u.deep → expr s L u2 = exprD s L d u2 := fun u2 h => by unfold expr; rw [h, show 200 - u.deep = d by omega]
  unfold method
  simp [words, wants, hst, hex, want_deep, any_deep, typ_deep, params_deep, vars_deep, stmtsF_deep, wordN, wordW (t := wPublic) (by decide), wordW (t := wLP) (by decide), wordW (t := wRP) (by decide), wordW (t := wLC) (by decide), wordW (t := wReturn) (by decide), wordW (t := wSemi) (by decide), wordW (t := wRC) (by decide)]
set_option maxHeartbeats 2000000 in
theorem method_calls {d : Nat} (hd : u.deep + d = 200) (R : RdP w cb s A c L u) (G : Good H cb w) : Calls Tryz.prog 117 #[.pointer (some ⟨cb, 0, none⟩)] w (NdRes w cb s A c L H (method s L u)) := by
  have hcb := R.lt
  obtain ⟨w1, hw1⟩ : ∃ w1, w1 = w.alloc (.cells (aNd zN none 0) 122) := ⟨_, rfl⟩
  have hA1 : Below w.heap.size w w1 := by rw [hw1]; exact (Below.refl _ _).alloc (Nat.le_refl _) _
  have hz1 : w1.heap.size = w.heap.size + 1 := by rw [hw1]; simp
  have HY := Lib.hid (show w1.heap[w.heap.size]? = some (.cells (aNd zN none 0) 122 (0, 0)) by rw [hw1]; exact World.alloc_heap_new w _)
  have HA := Lib.hid (Keep.of_below (H := [cb]) hA1)
  obtain ⟨w2, hw2⟩ : ∃ w2, w2 = w1.alloc (.cells #[.pointer (some ⟨cb, 0, none⟩), .slice none 0 0] 227) := ⟨_, rfl⟩
  have r2 := Prt.start (R.below hA1) (G.later hA1.size |>.push (b := w.heap.size) (by omega))
  rw [← hw2, hz1] at r2
  have hK2 : Keep [cb] w1 w2 := by rw [hw2]; exact Keep.alloc _ _
  have HK2 := Lib.hid (HA.out.trans hK2)
  have HY2 := Lib.hid ((hK2.block w.heap.size (by omega) (by simp; omega)).trans HY.out)
  have hz2 : w2.heap.size = w.heap.size + 1 + 1 := by rw [hw2]; simp [hz1]
  have HR2 := Lib.hid r2
  have HLL := Lib.hid R.fit.len
  have HDD := Lib.hid hd
  clear hd
  clear r2 hA1 R G hK2
  go_enter Tryz.func117, Tryz.ntmps117
  go_upto_region 2 with (fail)
  rw [show (w.alloc (.cells #[.int .i64 0, .string ⟨#[]⟩, .string ⟨#[]⟩, .int .i64 0, .slice none 0 0] 122)).alloc (.cells #[.pointer (some ⟨cb, 0, none⟩), .slice none 0 0] 227) = w2 from by rw [hw2, hw1]; rfl]
  clear hw1 hw2
  go_wp2_with fail
  refine Calls.mono (wordsX_calls (X := #[.string wPublic]) (n := 1) [wPublic] HR2.out (by rfl) hz2.symm (by rfl) (by  simp <;> omega)) ?_
  obtain ⟨r1, hr1⟩ : ∃ r1, r1 = words s L [wPublic] u := ⟨_, rfl⟩
  have HE1 := Lib.hid hr1
  have HD1 := Lib.hid (show r1.2.deep = u.deep by rw [hr1]; exact (words_adv [wPublic] u).deep)
  have HL1 := Lib.hid (show r1.1.length = 1 by rw [hr1]; exact words_len _ _)
  rw [← hr1]
  clear hr1
  rintro e w3 ⟨rfl, H3, v3, rr3⟩
  have HR3 := Lib.hid rr3
  clear rr3
  go_wp2_with fail
  refine (Type_calls HR3.out.rd HR3.out.good).mono ?_
  obtain ⟨r2, hr2⟩ : ∃ r2, r2 = typ s L r1.2 := ⟨_, rfl⟩
  have HE2 := Lib.hid hr2
  have HD2 := Lib.hid (show r2.2.deep = u.deep by rw [hr2]; exact ((typ_adv r1.2).deep.trans HD1.out))
  rw [← hr2]
  clear hr2
  rintro e w4 ⟨⟨A4, c4, rfl, hl4, hC4⟩, R4, k4⟩
  have HR4 := Lib.hid (HR3.out.call R4 k4)
  have HC4 := Lib.hid (one_row HR4.out.good.all hl4 hC4)
  clear R4 k4 hC4 hl4
  go_wp2_with fail
  refine (keep_calls (HR4.out.calm ((Below.refl _ _).alloc (Nat.le_refl _) _)) HC4.out (by have := HL1.out; simp <;> omega)).mono ?_
  rintro e w5 ⟨rfl, H5, v5, rr5, -⟩
  have HR5 := Lib.hid rr5
  clear rr5
  go_wp2_with fail
  refine Calls.mono (wordsX_calls (X := #[.string noB, .string wLP]) (n := 2) [noB, wLP] HR5.out (by rfl) rfl (by rfl) (by have := HL1.out; simp <;> omega)) ?_
  obtain ⟨r3, hr3⟩ : ∃ r3, r3 = words s L [noB, wLP] r2.2 := ⟨_, rfl⟩
  have HE3 := Lib.hid hr3
  have HD3 := Lib.hid (show r3.2.deep = u.deep by rw [hr3]; exact ((words_adv [noB, wLP] r2.2).deep.trans HD2.out))
  have HL3 := Lib.hid (show r3.1.length = 2 by rw [hr3]; exact words_len _ _)
  rw [← hr3]
  clear hr3
  rintro e w6 ⟨rfl, H6, v6, rr6⟩
  have HR6 := Lib.hid rr6
  clear rr6
  go_wp2_with fail
  refine (params_calls HR6.out (by have := HL1.out; have := HL3.out; simp <;> omega)).mono ?_
  obtain ⟨r4, hr4⟩ : ∃ r4, r4 = params s L ((([] ++ r1.1) ++ [r2.1]) ++ r3.1) r3.2 := ⟨_, rfl⟩
  have HE4 := Lib.hid hr4
  have HD4 := Lib.hid (show r4.2.deep = u.deep by rw [hr4]; exact ((params_adv ((([] ++ r1.1) ++ [r2.1]) ++ r3.1) r3.2).deep.trans HD3.out))
  have HL4 := Lib.hid (show r4.1.length ≤ 10000 by rw [hr4]; exact Nat.le_trans (params_len _ _ HLL.out) (by have := HL1.out; have := HL3.out; simp <;> omega))
  rw [← hr4]
  clear hr4
  rintro e w7 ⟨rfl, H7, v7, rr7⟩
  have HR7 := Lib.hid rr7
  clear rr7
  go_wp2_with fail
  refine Calls.mono (wordsX_calls (X := #[.string wRP, .string wLC]) (n := 2) [wRP, wLC] HR7.out (by rfl) rfl (by rfl) (by have := HL4.out; simp <;> omega)) ?_
  obtain ⟨r5, hr5⟩ : ∃ r5, r5 = words s L [wRP, wLC] r4.2 := ⟨_, rfl⟩
  have HE5 := Lib.hid hr5
  have HD5 := Lib.hid (show r5.2.deep = u.deep by rw [hr5]; exact ((words_adv [wRP, wLC] r4.2).deep.trans HD4.out))
  have HL5 := Lib.hid (show r5.1.length = 2 by rw [hr5]; exact words_len _ _)
  rw [← hr5]
  clear hr5
  rintro e w8 ⟨rfl, H8, v8, rr8⟩
  have HR8 := Lib.hid rr8
  clear rr8
  go_wp2_with fail
  refine (Vars_calls HR8.out.rd HR8.out.good).mono ?_
  obtain ⟨r6, hr6⟩ : ∃ r6, r6 = vars s L r5.2 := ⟨_, rfl⟩
  have HE6 := Lib.hid hr6
  have HD6 := Lib.hid (show r6.2.deep = u.deep by rw [hr6]; exact ((vars_adv r5.2).deep.trans HD5.out))
  have HL6 := Lib.hid (show r6.1.length ≤ 4001 by rw [hr6]; exact several_len _ _ HLL.out _)
  rw [← hr6]
  clear hr6
  rintro e w9 ⟨⟨vv9, HH9, rfl, hL9⟩, R9, k9⟩
  obtain ⟨A9, c9, rfl, -, hC9⟩ := hL9.reads HR8.out.good.all
  have HR9 := Lib.hid (HR8.out.call R9 k9)
  have HC9 := Lib.hid hC9
  clear R9 k9 hC9 hL9
  go_wp2_with fail
  refine (keep_calls HR9.out HC9.out (by have := HL4.out; have := HL5.out; have := HL6.out; simp <;> omega)).mono ?_
  rintro e w10 ⟨rfl, H10, v10, rr10, -⟩
  have HR10 := Lib.hid rr10
  clear rr10
  go_wp2_with fail
  refine (Stmts_top (d := d) (by rw [HD6.out]; exact HDD.out) HR10.out.rd HR10.out.good).mono ?_
  obtain ⟨r7, hr7⟩ : ∃ r7, r7 = stmtsF s L (stmtD s L d) r6.2 := ⟨_, rfl⟩
  have HE7 := Lib.hid hr7
  have HD7 := Lib.hid (show r7.2.deep = u.deep by rw [hr7]; exact ((stmtsF_adv (stmtD_adv d) r6.2).deep.trans HD6.out))
  have HL7 := Lib.hid (show r7.1.length ≤ 4001 by rw [hr7]; exact several_len _ _ HLL.out _)
  rw [← hr7]
  clear hr7
  rintro e w11 ⟨⟨vv11, HH11, rfl, hL11⟩, R11, k11⟩
  obtain ⟨A11, c11, rfl, -, hC11⟩ := hL11.reads HR10.out.good.all
  have HR11 := Lib.hid (HR10.out.call R11 k11)
  have HC11 := Lib.hid hC11
  clear R11 k11 hC11 hL11
  go_wp2_with fail
  refine (keep_calls HR11.out HC11.out (by have := HL4.out; have := HL5.out; have := HL6.out; have := HL7.out; simp <;> omega)).mono ?_
  rintro e w12 ⟨rfl, H12, v12, rr12, -⟩
  have HR12 := Lib.hid rr12
  clear rr12
  go_wp2_with fail
  refine Calls.mono (wordsX_calls (X := #[.string wReturn]) (n := 1) [wReturn] HR12.out (by rfl) rfl (by rfl) (by have := HL4.out; have := HL5.out; have := HL6.out; have := HL7.out; simp <;> omega)) ?_
  obtain ⟨r8, hr8⟩ : ∃ r8, r8 = words s L [wReturn] r7.2 := ⟨_, rfl⟩
  have HE8 := Lib.hid hr8
  have HD8 := Lib.hid (show r8.2.deep = u.deep by rw [hr8]; exact ((words_adv [wReturn] r7.2).deep.trans HD7.out))
  have HL8 := Lib.hid (show r8.1.length = 1 by rw [hr8]; exact words_len _ _)
  rw [← hr8]
  clear hr8
  rintro e w13 ⟨rfl, H13, v13, rr13⟩
  have HR13 := Lib.hid rr13
  clear rr13
  go_wp2_with fail
  refine (Parse_with (d := d) (by rw [HD8.out]; exact HDD.out) HR13.out.rd HR13.out.good).mono ?_
  obtain ⟨r9, hr9⟩ : ∃ r9, r9 = exprD s L d r8.2 := ⟨_, rfl⟩
  have HE9 := Lib.hid hr9
  have HD9 := Lib.hid (show r9.2.deep = u.deep by rw [hr9]; exact ((exprD_adv d r8.2).deep.trans HD8.out))
  rw [← hr9]
  clear hr9
  rintro e w14 ⟨⟨A14, c14, rfl, hl14, hC14⟩, R14, k14⟩
  have HR14 := Lib.hid (HR13.out.call R14 k14)
  have HC14 := Lib.hid (one_row HR14.out.good.all hl14 hC14)
  clear R14 k14 hC14 hl14
  go_wp2_with fail
  refine (keep_calls (HR14.out.calm ((Below.refl _ _).alloc (Nat.le_refl _) _)) HC14.out (by have := HL4.out; have := HL5.out; have := HL6.out; have := HL7.out; have := HL8.out; simp <;> omega)).mono ?_
  rintro e w15 ⟨rfl, H15, v15, rr15, -⟩
  have HR15 := Lib.hid rr15
  clear rr15
  go_wp2_with fail
  refine Calls.mono (wordsX_calls (X := #[.string wSemi, .string wRC]) (n := 2) [wSemi, wRC] HR15.out (by rfl) rfl (by rfl) (by have := HL4.out; have := HL5.out; have := HL6.out; have := HL7.out; have := HL8.out; simp <;> omega)) ?_
  obtain ⟨r10, hr10⟩ : ∃ r10, r10 = words s L [wSemi, wRC] r9.2 := ⟨_, rfl⟩
  have HE10 := Lib.hid hr10
  have HD10 := Lib.hid (show r10.2.deep = u.deep by rw [hr10]; exact ((words_adv [wSemi, wRC] r9.2).deep.trans HD9.out))
  have HL10 := Lib.hid (show r10.1.length = 2 by rw [hr10]; exact words_len _ _)
  rw [← hr10]
  clear hr10
  rintro e w16 ⟨rfl, H16, v16, rr16⟩
  have HR16 := Lib.hid rr16
  clear rr16
  go_wp2_with fail
  refine (node_calls 6 HR16.out (by have := HL4.out; have := HL5.out; have := HL6.out; have := HL7.out; have := HL8.out; have := HL10.out; simp <;> omega)).mono ?_
  obtain ⟨q, hq⟩ : ∃ q : Nd × Cu, q = (asN 6 ((((((r4.1 ++ r5.1) ++ r6.1) ++ r7.1) ++ r8.1) ++ [r9.1]) ++ r10.1) r10.2, r10.2) := ⟨_, rfl⟩
  rw [← hq]
  have HQ := Lib.hid (show method s L u = q by rw [hq]; rw [HE10.out, HE9.out, HE8.out, HE7.out, HE6.out, HE5.out, HE4.out, HE3.out, HE2.out, HE1.out]; exact method_eq d u HDD.out)
  clear hq
  rintro e w17 ⟨⟨A17, c17, rfl, hl17, hC17⟩, R17, k17⟩
  have hy17 := (k17.block w.heap.size (by have := HR16.out.keep.size; omega) (by simp; omega)).trans ((HR16.out.keep.block w.heap.size (by omega) (by simp; omega)).trans HY2.out)
  obtain ⟨⟨b0, b1, b2, b3, b4⟩, f0, f1, f2, f3, f4⟩ := (Box5.mk hy17).all
  have HYF := Lib.hid hy17
  have HCF := Lib.hid (up_C up_kNd (hole_less (H' := w.heap.size :: H) w17 (fun k hk => List.mem_cons_of_mem _ hk)) hC17)
  have HRF := Lib.hid R17
  have HKF := Lib.hid ((Keep.unwide ((Keep.wide HK2.out).trans HR16.out.keep) (by omega)).trans k17)
  clear hy17 hC17 R17 k17
  go_wp2_with fail
  exact nd_end (n := q.1) (A' := A17) (c' := c17) (u := q.2) (b := w.heap.size) Tryz.results117 rfl HYF.out hl17 HCF.out (Nat.le_refl _) hcb HRF.out HQ.out HKF.out
end
end Go.Proofs.YtbfkkepdeepdeaaGreatDoor
end
section
namespace Go.Proofs.YtbfkkepdeepdeaaGreatDoor
open Go Go.RowKit Go.Proofs.YtbfkkepdeepdeaaGreatDoorW.PrintWords Go.Proofs.YtbfkkepdeepdeaaGreatDoorW.PrintLast Go.Proofs.YtbfkkepdeepdeaaGreatDoorW.PrintMore
set_option linter.unusedVariables false
set_option linter.unusedSimpArgs false
set_option maxRecDepth 100000
section
variable {w w1 W W' : World} {cb rb : Nat} {s : ByteArray} {A : Option Addr} {c : Nat} {L : List Tok} {u u' : Cu} {H H' H2 : List Nat} {v v' : Value} {l l' : List Nd}
def clsTail (s : ByteArray) (L : List Tok) (l : List Nd) (u : Cu) : Nd × Cu :=
  let r5 := sevLoop (fieldB s L) (field s L) (L.length + 1) l u
  let r6 := sevLoop (fun c => isB s L c 0 wPublic) (method s L) (L.length + 1) r5.1 r5.2
  let r7 := want s L r6.2 wRC
  (asN 4 (r6.1 ++ [r7.1]) r7.2, r7.2)
theorem field_left (u : Cu) (h : 0 < left L u) : left L (field s L u).2 < left L u :=
  Nat.lt_of_le_of_lt ((any_adv _ _).trans (want_adv _ _)).leftLe (typ_left u h)
theorem method_left (u : Cu) (h : 0 < left L u) : left L (method s L u).2 < left L u :=
  Nat.lt_of_le_of_lt ((((((((((typ_adv _).trans (any_adv _ _)).trans (want_adv _ _)).trans (params_adv _ _)).trans (wants_adv _ _)).trans (vars_adv _)).trans (stmts_adv _)).trans (want_adv _ _)).trans (expr_adv _)).trans (wants_adv _ _)).leftLe (take_left _ h)
theorem fieldB_pos {u : Cu} (h : fieldB s L u = true) : 0 < left L u := by
  unfold fieldB at h
  simp only [Bool.and_eq_true, decide_eq_true_eq] at h
  exact h.1
set_option maxHeartbeats 4000000 in
theorem Class_calls {d : Nat} (hd : u.deep + d = 200) (R : RdP w cb s A c L u) (G : Good H cb w) : Calls Tryz.prog 75 #[.pointer (some ⟨cb, 0, none⟩)] w (NdRes w cb s A c L H (cls s L u)) := by
  have hcb := R.lt
  have HLL := Lib.hid R.fit.len
  have HDD := Lib.hid hd
  obtain ⟨w1, hw1⟩ : ∃ w1, w1 = w.alloc (.cells (aNd zN none 0) 122) := ⟨_, rfl⟩
  have hA1 : Below w.heap.size w w1 := by rw [hw1]; exact (Below.refl _ _).alloc (Nat.le_refl _) _
  have hz1 : w1.heap.size = w.heap.size + 1 := by rw [hw1]; simp
  have HY := Lib.hid (show w1.heap[w.heap.size]? = some (.cells (aNd zN none 0) 122 (0, 0)) by rw [hw1]; exact World.alloc_heap_new w _)
  have HA := Lib.hid (Keep.of_below (H := [cb]) hA1)
  have HR1 := Lib.hid (R.below hA1)
  have HG1 := Lib.hid ((G.later hA1.size).push (b := w.heap.size) (by omega))
  clear R G hA1 hd
  cases hm : mainB s L u with
  | true =>
    have HM := Lib.hid hm
    have HQ := Lib.hid (show cls s L u = main s L u by unfold cls; rw [if_pos hm])
    clear hm
    go_enter Tryz.func75, Tryz.ntmps75
    go_wp2_with fail
    have Rz := HR1.out
    rw [hw1] at Rz
    refine (starts_calls Rz).mono ?_
    rw [HM.out]
    rintro e w2 ⟨rfl, h2⟩
    rw [← hw1] at h2
    have HR2 := Lib.hid (HR1.out.below h2)
    have HG2 := Lib.hid (HG1.out.later h2.size)
    have HK2 := Lib.hid (HA.out.trans (Keep.of_below h2))
    have HY2 := Lib.hid ((h2.block w.heap.size (by omega)).trans HY.out)
    have hz2 := h2.size
    clear Rz h2 hw1
    go_wp2_with fail
    refine (program_calls HDD.out HR2.out HG2.out).mono ?_
    obtain ⟨q, hq⟩ : ∃ q, q = main s L u := ⟨_, rfl⟩
    rw [← hq] at HQ ⊢
    clear hq
    rintro e w9 ⟨⟨A9, c9, rfl, hl9, hC9⟩, R9, k9⟩
    have hy9 := (k9.block w.heap.size (by omega) (by simp; omega)).trans HY2.out
    obtain ⟨⟨b0, b1, b2, b3, b4⟩, f0, f1, f2, f3, f4⟩ := (Box5.mk hy9).all
    have HYF := Lib.hid hy9
    have HCF := Lib.hid hC9
    have HRF := Lib.hid R9
    have HKF := Lib.hid (HK2.out.trans k9)
    clear hy9 hC9 R9 k9
    go_wp2_with fail
    exact nd_end (n := q.1) (A' := A9) (c' := c9) (u := q.2) (b := w.heap.size) Tryz.results75 rfl HYF.out hl9 HCF.out (Nat.le_refl _) hcb HRF.out HQ.out HKF.out
  | false =>
    have HM := Lib.hid hm
    have HNM := Lib.hid (show ¬ mainB s L u = true by rw [hm]; simp)
    clear hm
    go_enter Tryz.func75, Tryz.ntmps75
    go_wp2_with fail
    have Rz := HR1.out
    rw [hw1] at Rz
    refine (starts_calls Rz).mono ?_
    rw [HM.out]
    rintro e w2 ⟨rfl, h2⟩
    rw [← hw1] at h2
    have HR2 := Lib.hid (HR1.out.below h2)
    have HG2 := Lib.hid (HG1.out.later h2.size)
    have HY2 := Lib.hid ((h2.block w.heap.size (by omega)).trans HY.out)
    have hz2 := h2.size
    have HK2 := Lib.hid (HA.out.trans (Keep.of_below h2))
    clear Rz h2 hw1
    go_upto_region 4 with (fail)
    obtain ⟨w3, hw3⟩ : ∃ w3, w3 = w2.alloc (.cells #[.pointer (some ⟨cb, 0, none⟩), .slice none 0 0] 227) := ⟨_, rfl⟩
    have r3 := Prt.start HR2.out HG2.out
    have hK3 : Keep [cb] w2 w3 := by rw [hw3]; exact Keep.alloc _ _
    rw [← hw3] at r3 ⊢
    have hz3 : w3.heap.size = w2.heap.size + 1 := by rw [hw3]; simp
    have HY3 := Lib.hid ((hK3.block w.heap.size (by omega) (by simp; omega)).trans HY2.out)
    have HK3 := Lib.hid (HK2.out.trans hK3)
    obtain ⟨rb, hrb⟩ : ∃ rb, rb = w2.heap.size := ⟨_, rfl⟩
    rw [← hrb] at r3 hz3 hz2 ⊢
    have HR3 := Lib.hid r3
    clear hw3 r3 hK3 hrb
    go_wp2_with fail
    obtain ⟨r1, hr1⟩ : ∃ r1, r1 = words s L [wClass, noB] u := ⟨_, rfl⟩
    have HE1 := Lib.hid hr1
    have HD1 := Lib.hid (show r1.2.deep = u.deep by rw [hr1]; exact (words_adv _ _).deep)
    have HL1 := Lib.hid (show r1.1.length = 2 by rw [hr1]; exact words_len _ _)
    refine Calls.mono (wordsX_calls (X := #[.string wClass, .string noB]) (n := 2) [wClass, noB] HR3.out (by rfl) hz3.symm (by rfl) (by simp)) ?_
    rw [← hr1]
    clear hr1
    rintro e w4 ⟨rfl, H4, v4, r4⟩
    have HR4 := Lib.hid r4
    clear r4
    go_wp2_with fail
    cases hx : isB s L r1.2 0 wExtends with
    | true =>
      have HX := Lib.hid hx
      clear hx
      refine (Is_calls HR4.out.rd 0 (by decide) wExtends).mono ?_
      rw [HX.out]
      rintro e w5 ⟨rfl, h5⟩
      have HR5 := Lib.hid (HR4.out.calm h5)
      clear h5
      go_wp2_with fail
      obtain ⟨r2, hr2⟩ : ∃ r2, r2 = words s L [wExtends, noB] r1.2 := ⟨_, rfl⟩
      have HE2 := Lib.hid hr2
      have HD2 := Lib.hid (show r2.2.deep = u.deep by rw [hr2]; exact (words_adv _ _).deep.trans HD1.out)
      have HL2 := Lib.hid (show r2.1.length = 2 by rw [hr2]; exact words_len _ _)
      refine Calls.mono (wordsX_calls (X := #[.string wExtends, .string noB]) (n := 2) [wExtends, noB] HR5.out (by rfl) rfl (by rfl) (by have := HL1.out; simp <;> omega)) ?_
      rw [← hr2]
      clear hr2
      rintro e w6 ⟨rfl, H6, v6, r6⟩
      have HR6 := Lib.hid r6
      clear r6
      go_wp2_with fail
      obtain ⟨r3, hr3⟩ : ∃ r3, r3 = words s L [wLC] r2.2 := ⟨_, rfl⟩
      have HE3 := Lib.hid hr3
      have HD0 := Lib.hid (show r3.2.deep = u.deep by rw [hr3]; exact (words_adv _ _).deep.trans HD2.out)
      have HL3 := Lib.hid (show r3.1.length = 1 by rw [hr3]; exact words_len _ _)
      refine Calls.mono (wordsX_calls (X := #[.string wLC]) (n := 1) [wLC] HR6.out (by rfl) rfl (by rfl) (by have := HL1.out; have := HL2.out; simp <;> omega)) ?_
      rw [← hr3]
      clear hr3
      rintro e wa ⟨rfl, Ha, va, ra⟩
      obtain ⟨l0, hl0⟩ : ∃ l0, l0 = [] ++ r1.1 ++ r2.1 ++ r3.1 := ⟨_, rfl⟩
      have HL0 := Lib.hid (show l0.length ≤ 6 by have := HL1.out; have := HL2.out; have := HL3.out; rw [hl0]; simp <;> omega)
      have HEQ := Lib.hid (show cls s L u = clsTail s L l0 r3.2 by
        rw [hl0]
        unfold cls clsTail
        rw [if_neg HNM.out]
        have hx := HX.out
        have e1 := HE1.out
        have e2 := HE2.out
        have e3 := HE3.out
        simp [words, wordN, wordW (t := wClass) (by decide)] at e1
        simp [words, wordN, wordW (t := wExtends) (by decide)] at e2
        simp [words, wordN, wordW (t := wLC) (by decide)] at e3
        rw [e3, e2, e1]
        rw [e1] at hx
        simp only [super, if_pos hx]
        simp)
      rw [← hl0] at ra
      have HRa := Lib.hid ra
      clear hl0 ra
      obtain ⟨u0, hu0⟩ : ∃ u0, u0 = r3.2 := ⟨_, rfl⟩
      rw [← hu0] at HRa HEQ HD0
      clear hu0
      go_wp2_with fail
      go_loopw [] (fun wr => ∃ (f : Nat) (l2 : List Nd) (u2 : Cu) (H5 : List Nat) (v5 : Value), left L u2 ≤ f ∧ l2.length + f ≤ 4007 ∧ Hid (sevLoop (fieldB s L) (field s L) (L.length + 1) l0 u0 = sevLoop (fieldB s L) (field s L) f l2 u2) ∧ Hid (u2.deep = u.deep) ∧ Hid (Prt w3 rb (rb :: w.heap.size :: H) cb s A c L wr u2 l2 H5 v5)) (fun wr => leftW cb L.length wr)
      case atStart =>
        have h0 : left L u0 ≤ L.length + 1 := by unfold left; split <;> omega
        have := HLL.out
        have := HL0.out
        exact ⟨L.length + 1, l0, u0, Ha, va, h0, by omega, Lib.hid rfl, HD0, HRa⟩
      case round =>
        obtain ⟨f, l2, u2, H5, v5, hf, hl2, hq, hd2, hr⟩ := hrel
        go_upto_region 8 with (fail)
        go_cut [34] (fun v34 wx => v34 = .bool (fieldB s L u2) ∧ Hid (Below wr.heap.size wr wx))
        case first =>
          go_wp2_with fail
          refine (Left_calls hr.out.rd).mono ?_
          rintro e w6 ⟨rfl, h6⟩
          have HR6 := Lib.hid (hr.out.calm h6)
          have HB6 := Lib.hid h6
          clear h6
          rcases Nat.eq_zero_or_pos (left L u2) with hz | hp
          · have HV := Lib.hid (show fieldB s L u2 = false by unfold fieldB; rw [hz]; rfl)
            rw [hz]
            clear hz hf
            go_wp2_with fail
            all_goals go_meet
            all_goals exact ⟨by rw [HV.out], HB6⟩
          · obtain ⟨lf, hlf⟩ : ∃ lf, lf = left L u2 := ⟨_, rfl⟩
            have hp2 : (0 : Int) < (lf : Int) := by omega
            rw [← hlf]
            have HP := Lib.hid hp
            clear hlf hp hf
            cases hb : isB s L u2 0 wPublic with
            | true =>
              have HB := Lib.hid hb
              have HV := Lib.hid (show fieldB s L u2 = false by unfold fieldB; rw [hb]; simp)
              clear hb
              go_wp2_with fail
              refine (Is_calls HR6.out.rd 0 (by decide) wPublic).mono ?_
              rw [HB.out]
              rintro e w7 ⟨rfl, h7⟩
              have HB7 := Lib.hid (below_step HB6.out h7)
              clear h7
              go_wp2_with fail
              go_meet
              exact ⟨by rw [HV.out], HB7⟩
            | false =>
              have HB := Lib.hid hb
              clear hb
              cases hb : isB s L u2 0 wRC with
              | true =>
                have HBC := Lib.hid hb
                have HV := Lib.hid (show fieldB s L u2 = false by unfold fieldB; rw [hb]; simp)
                clear hb
                go_wp2_with fail
                refine (Is_calls HR6.out.rd 0 (by decide) wPublic).mono ?_
                rw [HB.out]
                rintro e w7 ⟨rfl, h7⟩
                have HB7 := Lib.hid (below_step HB6.out h7)
                have HR7 := Lib.hid (HR6.out.calm h7)
                clear h7
                go_wp2_with fail
                refine (Is_calls HR7.out.rd 0 (by decide) wRC).mono ?_
                rw [HBC.out]
                rintro e w8 ⟨rfl, h8⟩
                have HB8 := Lib.hid (below_step HB7.out h8)
                clear h8
                go_wp2_with fail
                go_meet
                exact ⟨by rw [HV.out], HB8⟩
              | false =>
                have HBC := Lib.hid hb
                have HV := Lib.hid (show fieldB s L u2 = true by unfold fieldB; rw [hb, HB.out, decide_eq_true HP.out]; rfl)
                clear hb
                go_wp2_with fail
                refine (Is_calls HR6.out.rd 0 (by decide) wPublic).mono ?_
                rw [HB.out]
                rintro e w7 ⟨rfl, h7⟩
                have HB7 := Lib.hid (below_step HB6.out h7)
                have HR7 := Lib.hid (HR6.out.calm h7)
                clear h7
                go_wp2_with fail
                refine (Is_calls HR7.out.rd 0 (by decide) wRC).mono ?_
                rw [HBC.out]
                rintro e w8 ⟨rfl, h8⟩
                have HB8 := Lib.hid (below_step HB7.out h8)
                clear h8
                go_wp2_with fail
                go_meet
                exact ⟨by rw [HV.out], HB8⟩
        case rest =>
          obtain ⟨rfl, HWB⟩ := hcut
          have HR6 := Lib.hid (hr.out.calm HWB.out)
          have HR0 := hr
          cases hb : fieldB s L u2 with
          | true =>
            have hp := fieldB_pos hb
            have hlt := field_left (s := s) u2 hp
            have hpos : 0 < f := by omega
            obtain ⟨g, rfl⟩ : ∃ g, f = g + 1 := ⟨f - 1, by omega⟩
            have HE := Lib.hid (show sevLoop (fieldB s L) (field s L) (L.length + 1) l0 u0 = sevLoop (fieldB s L) (field s L) g (l2 ++ [(field s L u2).1]) (field s L u2).2 by rw [hq.out]; conv => lhs; unfold sevLoop; rw [if_pos hb])
            have HDN := Lib.hid ((field_adv (s := s) (L := L) u2).deep.trans hd2.out)
            obtain ⟨q1, hq1⟩ : ∃ q1, q1 = field s L u2 := ⟨_, rfl⟩
            rw [← hq1] at hlt HE HDN
            have HQ1 := Lib.hid hq1
            clear hb hq hq1 hp
            go_wp2_with fail
            refine (field_calls HR6.out.rd HR6.out.good).mono ?_
            rw [← HQ1.out]
            rintro e w8 ⟨⟨A8, c8, rfl, hl8, hC8⟩, R8, k8⟩
            have HR8 := Lib.hid (HR6.out.call R8 k8)
            have HC8 := Lib.hid (one_row HR8.out.good.all hl8 hC8)
            clear R8 k8 hl8 hC8
            go_wp2_with fail
            refine (keep_calls (HR8.out.calm ((Below.refl _ _).alloc (Nat.le_refl _) _)) HC8.out (by omega)).mono ?_
            rintro e w9 ⟨rfl, H9, v9, r9, -⟩
            have HR9 := Lib.hid r9
            clear r9
            go_wp2_with fail
            refine ⟨⟨g, l2 ++ [q1.1], q1.2, H9, v9, by omega, by simp; omega, HE, HDN, HR9⟩, ?_⟩
            rw [HR9.out.rd.leftW, HR0.out.rd.leftW]; exact hlt
          | false =>
            have HE1 := Lib.hid (show sevLoop (fieldB s L) (field s L) (L.length + 1) l0 u0 = (l2, u2) by rw [hq.out, sevLoop_end hb])
            have hl2b : l2.length ≤ 4007 := by omega
            clear hb hq hf hl2
            go_wp2_with fail
            go_loopw [] (fun wr => ∃ (f : Nat) (l3 : List Nd) (u3 : Cu) (H5 : List Nat) (v5 : Value), left L u3 ≤ f ∧ l3.length + f ≤ 8010 ∧ Hid (sevLoop (fun c => isB s L c 0 wPublic) (method s L) (L.length + 1) l2 u2 = sevLoop (fun c => isB s L c 0 wPublic) (method s L) f l3 u3) ∧ Hid (u3.deep = u.deep) ∧ Hid (Prt w3 rb (rb :: w.heap.size :: H) cb s A c L wr u3 l3 H5 v5)) (fun wr => leftW cb L.length wr)
            case atStart =>
              have h0 : left L u2 ≤ L.length + 1 := by unfold left; split <;> omega
              have := HLL.out
              exact ⟨L.length + 1, l2, u2, H5, v5, h0, by omega, Lib.hid rfl, hd2, HR6⟩
            case round =>
              clear HR6 hr HR0 HWB
              obtain ⟨f, l3, u3, H6, v6, hf, hl3, hq, hd3, hr⟩ := hrel
              cases hb : isB s L u3 0 wPublic with
              | true =>
                have hlt := method_left (s := s) u3 (isB_pos hb)
                have hpos : 0 < f := by omega
                obtain ⟨g, rfl⟩ : ∃ g, f = g + 1 := ⟨f - 1, by omega⟩
                have HE := Lib.hid (show sevLoop (fun c => isB s L c 0 wPublic) (method s L) (L.length + 1) l2 u2 = sevLoop (fun c => isB s L c 0 wPublic) (method s L) g (l3 ++ [(method s L u3).1]) (method s L u3).2 by rw [hq.out]; conv => lhs; unfold sevLoop; rw [if_pos hb])
                have HDN := Lib.hid ((method_adv (s := s) (L := L) u3).deep.trans hd3.out)
                have HMD := Lib.hid (show u3.deep + d = 200 by rw [hd3.out]; exact HDD.out)
                obtain ⟨q1, hq1⟩ : ∃ q1, q1 = method s L u3 := ⟨_, rfl⟩
                rw [← hq1] at hlt HE HDN
                have HQ1 := Lib.hid hq1
                have HB := Lib.hid hb
                clear hb hq hq1
                go_wp2_with fail
                refine (Is_calls hr.out.rd 0 (by decide) wPublic).mono ?_
                rw [HB.out]
                rintro e w7 ⟨rfl, h7⟩
                have HR7 := Lib.hid (hr.out.calm h7)
                clear h7
                go_wp2_with fail
                refine (method_calls HMD.out HR7.out.rd HR7.out.good).mono ?_
                rw [← HQ1.out]
                rintro e w8 ⟨⟨A8, c8, rfl, hl8, hC8⟩, R8, k8⟩
                have HR8 := Lib.hid (HR7.out.call R8 k8)
                have HC8 := Lib.hid (one_row HR8.out.good.all hl8 hC8)
                clear R8 k8 hl8 hC8
                go_wp2_with fail
                refine (keep_calls (HR8.out.calm ((Below.refl _ _).alloc (Nat.le_refl _) _)) HC8.out (by omega)).mono ?_
                rintro e w9 ⟨rfl, H9, v9, r9, -⟩
                have HR9 := Lib.hid r9
                clear r9
                go_wp2_with fail
                refine ⟨⟨g, l3 ++ [q1.1], q1.2, H9, v9, by omega, by simp; omega, HE, HDN, HR9⟩, ?_⟩
                rw [HR9.out.rd.leftW, hr.out.rd.leftW]; exact hlt
              | false =>
                have HE2 := Lib.hid (show sevLoop (fun c => isB s L c 0 wPublic) (method s L) (L.length + 1) l2 u2 = (l3, u3) by rw [hq.out]; exact sevLoop_end hb)
                have hl3b : l3.length ≤ 8010 := by omega
                have HB := Lib.hid hb
                clear hb hq hf hl3
                go_wp2_with fail
                refine (Is_calls hr.out.rd 0 (by decide) wPublic).mono ?_
                rw [HB.out]
                rintro e w7 ⟨rfl, h7⟩
                have HR7 := Lib.hid (hr.out.calm h7)
                clear h7
                obtain ⟨q7, hq7⟩ : ∃ q7, q7 = want s L u3 wRC := ⟨_, rfl⟩
                have HW7 := Lib.hid (show words s L [wRC] u3 = ([q7.1], q7.2) by rw [hq7]; simp [words, wordW (t := wRC) (by decide)])
                have HQ7 := Lib.hid hq7
                clear hq7
                go_wp2_with fail
                refine Calls.mono (wordsX_calls (X := #[.string wRC]) (n := 1) [wRC] HR7.out (by rfl) rfl (by rfl) (by omega)) ?_
                rw [HW7.out]
                rintro e w8 ⟨rfl, H8, v8, r8⟩
                have HR8 := Lib.hid r8
                clear r8
                go_wp2_with fail
                refine (node_calls 4 HR8.out (by simp; omega)).mono ?_
                obtain ⟨q, hq⟩ : ∃ q : Nd × Cu, q = (asN 4 (l3 ++ [q7.1]) q7.2, q7.2) := ⟨_, rfl⟩
                rw [← hq]
                have HQ := Lib.hid (show cls s L u = q by rw [hq, HEQ.out]; unfold clsTail; simp only [HE1.out, HE2.out, ← HQ7.out])
                clear hq
                rintro e w9 ⟨⟨A9, c9, rfl, hl9, hC9⟩, R9, k9⟩
                have hy9 := (k9.block w.heap.size (by have := HR8.out.keep.size; omega) (by simp; omega)).trans ((HR8.out.keep.block w.heap.size (by omega) (by simp; omega)).trans HY3.out)
                obtain ⟨⟨b0, b1, b2, b3, b4⟩, f0, f1, f2, f3, f4⟩ := (Box5.mk hy9).all
                have HYF := Lib.hid hy9
                have HCF := Lib.hid (up_C up_kNd (hole_less (H' := w.heap.size :: H) w9 (fun k hk => List.mem_cons_of_mem _ hk)) hC9)
                have HRF := Lib.hid R9
                have HKF := Lib.hid ((Keep.unwide ((Keep.wide HK3.out).trans HR8.out.keep) (by omega)).trans k9)
                clear hy9 hC9 R9 k9
                go_wp2_with fail
                exact nd_end (n := q.1) (A' := A9) (c' := c9) (u := q.2) (b := w.heap.size) Tryz.results75 rfl HYF.out hl9 HCF.out (Nat.le_refl _) hcb HRF.out HQ.out HKF.out
    | false =>
      have HX := Lib.hid hx
      clear hx
      refine (Is_calls HR4.out.rd 0 (by decide) wExtends).mono ?_
      rw [HX.out]
      rintro e w5 ⟨rfl, h5⟩
      have HR5 := Lib.hid (HR4.out.calm h5)
      clear h5
      go_wp2_with fail
      obtain ⟨r3, hr3⟩ : ∃ r3, r3 = words s L [wLC] r1.2 := ⟨_, rfl⟩
      have HE3 := Lib.hid hr3
      have HD0 := Lib.hid (show r3.2.deep = u.deep by rw [hr3]; exact (words_adv _ _).deep.trans HD1.out)
      have HL3 := Lib.hid (show r3.1.length = 1 by rw [hr3]; exact words_len _ _)
      refine Calls.mono (wordsX_calls (X := #[.string wLC]) (n := 1) [wLC] HR5.out (by rfl) rfl (by rfl) (by have := HL1.out; simp <;> omega)) ?_
      rw [← hr3]
      clear hr3
      rintro e wa ⟨rfl, Ha, va, ra⟩
      obtain ⟨l0, hl0⟩ : ∃ l0, l0 = [] ++ r1.1 ++ r3.1 := ⟨_, rfl⟩
      have HL0 := Lib.hid (show l0.length ≤ 6 by have := HL1.out; have := HL3.out; rw [hl0]; simp <;> omega)
      have HEQ := Lib.hid (show cls s L u = clsTail s L l0 r3.2 by
        rw [hl0]
        unfold cls clsTail
        rw [if_neg HNM.out]
        have hx := HX.out
        have e1 := HE1.out
        have e3 := HE3.out
        simp [words, wordN, wordW (t := wClass) (by decide)] at e1
        simp [words, wordN, wordW (t := wLC) (by decide)] at e3
        have hs : super s L r1.2 = ([], r1.2) := by unfold super; rw [if_neg (by rw [hx]; simp)]
        rw [e3, e1]
        rw [e1] at hs
        simp only at hs
        simp [hs])
      rw [← hl0] at ra
      have HRa := Lib.hid ra
      clear hl0 ra
      obtain ⟨u0, hu0⟩ : ∃ u0, u0 = r3.2 := ⟨_, rfl⟩
      rw [← hu0] at HRa HEQ HD0
      clear hu0
      go_wp2_with fail
      go_loopw [] (fun wr => ∃ (f : Nat) (l2 : List Nd) (u2 : Cu) (H5 : List Nat) (v5 : Value), left L u2 ≤ f ∧ l2.length + f ≤ 4007 ∧ Hid (sevLoop (fieldB s L) (field s L) (L.length + 1) l0 u0 = sevLoop (fieldB s L) (field s L) f l2 u2) ∧ Hid (u2.deep = u.deep) ∧ Hid (Prt w3 rb (rb :: w.heap.size :: H) cb s A c L wr u2 l2 H5 v5)) (fun wr => leftW cb L.length wr)
      case atStart =>
        have h0 : left L u0 ≤ L.length + 1 := by unfold left; split <;> omega
        have := HLL.out
        have := HL0.out
        exact ⟨L.length + 1, l0, u0, Ha, va, h0, by omega, Lib.hid rfl, HD0, HRa⟩
      case round =>
        obtain ⟨f, l2, u2, H5, v5, hf, hl2, hq, hd2, hr⟩ := hrel
        go_upto_region 8 with (fail)
        go_cut [34] (fun v34 wx => v34 = .bool (fieldB s L u2) ∧ Hid (Below wr.heap.size wr wx))
        case first =>
          go_wp2_with fail
          refine (Left_calls hr.out.rd).mono ?_
          rintro e w6 ⟨rfl, h6⟩
          have HR6 := Lib.hid (hr.out.calm h6)
          have HB6 := Lib.hid h6
          clear h6
          rcases Nat.eq_zero_or_pos (left L u2) with hz | hp
          · have HV := Lib.hid (show fieldB s L u2 = false by unfold fieldB; rw [hz]; rfl)
            rw [hz]
            clear hz hf
            go_wp2_with fail
            all_goals go_meet
            all_goals exact ⟨by rw [HV.out], HB6⟩
          · obtain ⟨lf, hlf⟩ : ∃ lf, lf = left L u2 := ⟨_, rfl⟩
            have hp2 : (0 : Int) < (lf : Int) := by omega
            rw [← hlf]
            have HP := Lib.hid hp
            clear hlf hp hf
            cases hb : isB s L u2 0 wPublic with
            | true =>
              have HB := Lib.hid hb
              have HV := Lib.hid (show fieldB s L u2 = false by unfold fieldB; rw [hb]; simp)
              clear hb
              go_wp2_with fail
              refine (Is_calls HR6.out.rd 0 (by decide) wPublic).mono ?_
              rw [HB.out]
              rintro e w7 ⟨rfl, h7⟩
              have HB7 := Lib.hid (below_step HB6.out h7)
              clear h7
              go_wp2_with fail
              go_meet
              exact ⟨by rw [HV.out], HB7⟩
            | false =>
              have HB := Lib.hid hb
              clear hb
              cases hb : isB s L u2 0 wRC with
              | true =>
                have HBC := Lib.hid hb
                have HV := Lib.hid (show fieldB s L u2 = false by unfold fieldB; rw [hb]; simp)
                clear hb
                go_wp2_with fail
                refine (Is_calls HR6.out.rd 0 (by decide) wPublic).mono ?_
                rw [HB.out]
                rintro e w7 ⟨rfl, h7⟩
                have HB7 := Lib.hid (below_step HB6.out h7)
                have HR7 := Lib.hid (HR6.out.calm h7)
                clear h7
                go_wp2_with fail
                refine (Is_calls HR7.out.rd 0 (by decide) wRC).mono ?_
                rw [HBC.out]
                rintro e w8 ⟨rfl, h8⟩
                have HB8 := Lib.hid (below_step HB7.out h8)
                clear h8
                go_wp2_with fail
                go_meet
                exact ⟨by rw [HV.out], HB8⟩
              | false =>
                have HBC := Lib.hid hb
                have HV := Lib.hid (show fieldB s L u2 = true by unfold fieldB; rw [hb, HB.out, decide_eq_true HP.out]; rfl)
                clear hb
                go_wp2_with fail
                refine (Is_calls HR6.out.rd 0 (by decide) wPublic).mono ?_
                rw [HB.out]
                rintro e w7 ⟨rfl, h7⟩
                have HB7 := Lib.hid (below_step HB6.out h7)
                have HR7 := Lib.hid (HR6.out.calm h7)
                clear h7
                go_wp2_with fail
                refine (Is_calls HR7.out.rd 0 (by decide) wRC).mono ?_
                rw [HBC.out]
                rintro e w8 ⟨rfl, h8⟩
                have HB8 := Lib.hid (below_step HB7.out h8)
                clear h8
                go_wp2_with fail
                go_meet
                exact ⟨by rw [HV.out], HB8⟩
        case rest =>
          obtain ⟨rfl, HWB⟩ := hcut
          have HR6 := Lib.hid (hr.out.calm HWB.out)
          have HR0 := hr
          cases hb : fieldB s L u2 with
          | true =>
            have hp := fieldB_pos hb
            have hlt := field_left (s := s) u2 hp
            have hpos : 0 < f := by omega
            obtain ⟨g, rfl⟩ : ∃ g, f = g + 1 := ⟨f - 1, by omega⟩
            have HE := Lib.hid (show sevLoop (fieldB s L) (field s L) (L.length + 1) l0 u0 = sevLoop (fieldB s L) (field s L) g (l2 ++ [(field s L u2).1]) (field s L u2).2 by rw [hq.out]; conv => lhs; unfold sevLoop; rw [if_pos hb])
            have HDN := Lib.hid ((field_adv (s := s) (L := L) u2).deep.trans hd2.out)
            obtain ⟨q1, hq1⟩ : ∃ q1, q1 = field s L u2 := ⟨_, rfl⟩
            rw [← hq1] at hlt HE HDN
            have HQ1 := Lib.hid hq1
            clear hb hq hq1 hp
            go_wp2_with fail
            refine (field_calls HR6.out.rd HR6.out.good).mono ?_
            rw [← HQ1.out]
            rintro e w8 ⟨⟨A8, c8, rfl, hl8, hC8⟩, R8, k8⟩
            have HR8 := Lib.hid (HR6.out.call R8 k8)
            have HC8 := Lib.hid (one_row HR8.out.good.all hl8 hC8)
            clear R8 k8 hl8 hC8
            go_wp2_with fail
            refine (keep_calls (HR8.out.calm ((Below.refl _ _).alloc (Nat.le_refl _) _)) HC8.out (by omega)).mono ?_
            rintro e w9 ⟨rfl, H9, v9, r9, -⟩
            have HR9 := Lib.hid r9
            clear r9
            go_wp2_with fail
            refine ⟨⟨g, l2 ++ [q1.1], q1.2, H9, v9, by omega, by simp; omega, HE, HDN, HR9⟩, ?_⟩
            rw [HR9.out.rd.leftW, HR0.out.rd.leftW]; exact hlt
          | false =>
            have HE1 := Lib.hid (show sevLoop (fieldB s L) (field s L) (L.length + 1) l0 u0 = (l2, u2) by rw [hq.out, sevLoop_end hb])
            have hl2b : l2.length ≤ 4007 := by omega
            clear hb hq hf hl2
            go_wp2_with fail
            go_loopw [] (fun wr => ∃ (f : Nat) (l3 : List Nd) (u3 : Cu) (H5 : List Nat) (v5 : Value), left L u3 ≤ f ∧ l3.length + f ≤ 8010 ∧ Hid (sevLoop (fun c => isB s L c 0 wPublic) (method s L) (L.length + 1) l2 u2 = sevLoop (fun c => isB s L c 0 wPublic) (method s L) f l3 u3) ∧ Hid (u3.deep = u.deep) ∧ Hid (Prt w3 rb (rb :: w.heap.size :: H) cb s A c L wr u3 l3 H5 v5)) (fun wr => leftW cb L.length wr)
            case atStart =>
              have h0 : left L u2 ≤ L.length + 1 := by unfold left; split <;> omega
              have := HLL.out
              exact ⟨L.length + 1, l2, u2, H5, v5, h0, by omega, Lib.hid rfl, hd2, HR6⟩
            case round =>
              clear HR6 hr HR0 HWB
              obtain ⟨f, l3, u3, H6, v6, hf, hl3, hq, hd3, hr⟩ := hrel
              cases hb : isB s L u3 0 wPublic with
              | true =>
                have hlt := method_left (s := s) u3 (isB_pos hb)
                have hpos : 0 < f := by omega
                obtain ⟨g, rfl⟩ : ∃ g, f = g + 1 := ⟨f - 1, by omega⟩
                have HE := Lib.hid (show sevLoop (fun c => isB s L c 0 wPublic) (method s L) (L.length + 1) l2 u2 = sevLoop (fun c => isB s L c 0 wPublic) (method s L) g (l3 ++ [(method s L u3).1]) (method s L u3).2 by rw [hq.out]; conv => lhs; unfold sevLoop; rw [if_pos hb])
                have HDN := Lib.hid ((method_adv (s := s) (L := L) u3).deep.trans hd3.out)
                have HMD := Lib.hid (show u3.deep + d = 200 by rw [hd3.out]; exact HDD.out)
                obtain ⟨q1, hq1⟩ : ∃ q1, q1 = method s L u3 := ⟨_, rfl⟩
                rw [← hq1] at hlt HE HDN
                have HQ1 := Lib.hid hq1
                have HB := Lib.hid hb
                clear hb hq hq1
                go_wp2_with fail
                refine (Is_calls hr.out.rd 0 (by decide) wPublic).mono ?_
                rw [HB.out]
                rintro e w7 ⟨rfl, h7⟩
                have HR7 := Lib.hid (hr.out.calm h7)
                clear h7
                go_wp2_with fail
                refine (method_calls HMD.out HR7.out.rd HR7.out.good).mono ?_
                rw [← HQ1.out]
                rintro e w8 ⟨⟨A8, c8, rfl, hl8, hC8⟩, R8, k8⟩
                have HR8 := Lib.hid (HR7.out.call R8 k8)
                have HC8 := Lib.hid (one_row HR8.out.good.all hl8 hC8)
                clear R8 k8 hl8 hC8
                go_wp2_with fail
                refine (keep_calls (HR8.out.calm ((Below.refl _ _).alloc (Nat.le_refl _) _)) HC8.out (by omega)).mono ?_
                rintro e w9 ⟨rfl, H9, v9, r9, -⟩
                have HR9 := Lib.hid r9
                clear r9
                go_wp2_with fail
                refine ⟨⟨g, l3 ++ [q1.1], q1.2, H9, v9, by omega, by simp; omega, HE, HDN, HR9⟩, ?_⟩
                rw [HR9.out.rd.leftW, hr.out.rd.leftW]; exact hlt
              | false =>
                have HE2 := Lib.hid (show sevLoop (fun c => isB s L c 0 wPublic) (method s L) (L.length + 1) l2 u2 = (l3, u3) by rw [hq.out]; exact sevLoop_end hb)
                have hl3b : l3.length ≤ 8010 := by omega
                have HB := Lib.hid hb
                clear hb hq hf hl3
                go_wp2_with fail
                refine (Is_calls hr.out.rd 0 (by decide) wPublic).mono ?_
                rw [HB.out]
                rintro e w7 ⟨rfl, h7⟩
                have HR7 := Lib.hid (hr.out.calm h7)
                clear h7
                obtain ⟨q7, hq7⟩ : ∃ q7, q7 = want s L u3 wRC := ⟨_, rfl⟩
                have HW7 := Lib.hid (show words s L [wRC] u3 = ([q7.1], q7.2) by rw [hq7]; simp [words, wordW (t := wRC) (by decide)])
                have HQ7 := Lib.hid hq7
                clear hq7
                go_wp2_with fail
                refine Calls.mono (wordsX_calls (X := #[.string wRC]) (n := 1) [wRC] HR7.out (by rfl) rfl (by rfl) (by omega)) ?_
                rw [HW7.out]
                rintro e w8 ⟨rfl, H8, v8, r8⟩
                have HR8 := Lib.hid r8
                clear r8
                go_wp2_with fail
                refine (node_calls 4 HR8.out (by simp; omega)).mono ?_
                obtain ⟨q, hq⟩ : ∃ q : Nd × Cu, q = (asN 4 (l3 ++ [q7.1]) q7.2, q7.2) := ⟨_, rfl⟩
                rw [← hq]
                have HQ := Lib.hid (show cls s L u = q by rw [hq, HEQ.out]; unfold clsTail; simp only [HE1.out, HE2.out, ← HQ7.out])
                clear hq
                rintro e w9 ⟨⟨A9, c9, rfl, hl9, hC9⟩, R9, k9⟩
                have hy9 := (k9.block w.heap.size (by have := HR8.out.keep.size; omega) (by simp; omega)).trans ((HR8.out.keep.block w.heap.size (by omega) (by simp; omega)).trans HY3.out)
                obtain ⟨⟨b0, b1, b2, b3, b4⟩, f0, f1, f2, f3, f4⟩ := (Box5.mk hy9).all
                have HYF := Lib.hid hy9
                have HCF := Lib.hid (up_C up_kNd (hole_less (H' := w.heap.size :: H) w9 (fun k hk => List.mem_cons_of_mem _ hk)) hC9)
                have HRF := Lib.hid R9
                have HKF := Lib.hid ((Keep.unwide ((Keep.wide HK3.out).trans HR8.out.keep) (by omega)).trans k9)
                clear hy9 hC9 R9 k9
                go_wp2_with fail
                exact nd_end (n := q.1) (A' := A9) (c' := c9) (u := q.2) (b := w.heap.size) Tryz.results75 rfl HYF.out hl9 HCF.out (Nat.le_refl _) hcb HRF.out HQ.out HKF.out
end
end Go.Proofs.YtbfkkepdeepdeaaGreatDoor
end
section
namespace Go.Proofs.YtbfkkepdeepdeaaGreatDoor
open Go.Shelf
def Tryz.lays137_ren : Go.Shelf.Ren := ⟨fun | 137 => 212 | 217 => 245 | 266 => 265 | n => n, fun | 9 => 9 | 5 => 5 | 3 => 3 | n => n, fun | n => n⟩
theorem Tryz.lays137 : Go.Proofs.Lays.n137 Tryz.prog Tryz.lays137_ren := {
  mixed := by kernel_rfl
  f137 := Tryz.func212.trans (congrArg some (by kernel_rfl))
  f217 := Tryz.func245.trans (congrArg some (by kernel_rfl))
  f266 := Tryz.func265.trans (congrArg some (by kernel_rfl))
  t3 := Tryz.underlying3
  a3 := Tryz.isAgg3
  z3 := Tryz.sizeOf3
  v3 := Tryz.zeroValue3
  t5 := Tryz.underlying5
  a5 := Tryz.isAgg5
  z5 := Tryz.sizeOf5
  v5 := Tryz.zeroValue5
  t9 := Tryz.underlying9
  a9 := Tryz.isAgg9
  z9 := Tryz.sizeOf9
  v9 := Tryz.zeroValue9 }
open Go.RowKit in
theorem Tryz.strings_IndexByte (s : ByteArray) (c : Int) (w : World) :
    Calls Tryz.prog 212 #[.string s, .int .u8 c] w fun e w' => e = .returned (.int .i64 (Lib.indexByte s.data.toList c.toNat.toUInt8)) ∧ w' = w := Any.strings_IndexByte Tryz.lays137 s c w
def Tryz.lays103_ren : Go.Shelf.Ren := ⟨fun | 103 => 240 | 210 => 262 | 206 => 237 | n => n, fun | 9 => 9 | 4 => 4 | 24 => 335 | 3 => 3 | n => n, fun | n => n⟩
theorem Tryz.lays103 : Go.Proofs.Lays.n103 Tryz.prog Tryz.lays103_ren := {
  mixed := by kernel_rfl
  f103 := Tryz.func240.trans (congrArg some (by kernel_rfl))
  f206 := Tryz.func237.trans (congrArg some (by kernel_rfl))
  f210 := Tryz.func262.trans (congrArg some (by kernel_rfl))
  t3 := Tryz.underlying3
  a3 := Tryz.isAgg3
  z3 := Tryz.sizeOf3
  v3 := Tryz.zeroValue3
  t4 := Tryz.underlying4
  a4 := Tryz.isAgg4
  z4 := Tryz.sizeOf4
  v4 := Tryz.zeroValue4
  t9 := Tryz.underlying9
  a9 := Tryz.isAgg9
  z9 := Tryz.sizeOf9
  v9 := Tryz.zeroValue9
  t24 := Tryz.underlying335
  a24 := Tryz.isAgg335
  z24 := Tryz.sizeOf335
  v24 := Tryz.zeroValue335 }
open Go.RowKit in
theorem Tryz.strings_CutPrefix (s p : ByteArray) (w : World) :
    Calls Tryz.prog 240 #[.string s, .string p] w fun e w' => e = .returned (.tuple #[.string ⟨(Lib.trimPrefix s.data.toList p.data.toList).toArray⟩, .bool (Lib.hasPrefix s.data.toList p.data.toList)]) ∧ w' = w := Any.strings_CutPrefix Tryz.lays103 s p w
def Tryz.laysM171_ren : Go.Shelf.Ren := ⟨fun | 171 => 193 | 243 => 229 | 246 => 257 | 283 => 275 | 284 => 276 | 285 => 277 | 286 => 278 | 129 => 104 | 317 => 285 | 318 => 286 | 319 => 287 | 320 => 288 | 337 => 296 | 338 => 297 | n => n, fun | 3 => 3 | 9 => 9 | 2 => 2 | 4 => 4 | 171 => 363 | 0 => 0 | 53 => 214 | 37 => 345 | 5 => 5 | 173 => 365 | 212 => 375 | 51 => 212 | 20 => 20 | 213 => 376 | 46 => 75 | 232 => 382 | 233 => 383 | n => n, fun | 17 => 4 | 18 => 5 | 19 => 6 | n => n⟩
theorem Tryz.laysM171 : Go.Proofs.LaysM.n171 Tryz.prog Tryz.laysM171_ren := {
  mixed := by kernel_rfl
  f129 := Tryz.func104.trans (congrArg some (by kernel_rfl))
  f171 := Tryz.func193.trans (congrArg some (by kernel_rfl))
  f243 := Tryz.func229.trans (congrArg some (by kernel_rfl))
  f246 := Tryz.func257.trans (congrArg some (by kernel_rfl))
  f283 := Tryz.func275.trans (congrArg some (by kernel_rfl))
  f284 := Tryz.func276.trans (congrArg some (by kernel_rfl))
  f285 := Tryz.func277.trans (congrArg some (by kernel_rfl))
  f286 := Tryz.func278.trans (congrArg some (by kernel_rfl))
  f317 := Tryz.func285.trans (congrArg some (by kernel_rfl))
  f318 := Tryz.func286.trans (congrArg some (by kernel_rfl))
  f319 := Tryz.func287.trans (congrArg some (by kernel_rfl))
  f320 := Tryz.func288.trans (congrArg some (by kernel_rfl))
  f337 := Tryz.func296.trans (congrArg some (by kernel_rfl))
  f338 := Tryz.func297.trans (congrArg some (by kernel_rfl))
  t0 := Tryz.underlying0
  a0 := Tryz.isAgg0
  z0 := Tryz.sizeOf0
  v0 := Tryz.zeroValue0
  t2 := Tryz.underlying2
  a2 := Tryz.isAgg2
  z2 := Tryz.sizeOf2
  v2 := Tryz.zeroValue2
  t3 := Tryz.underlying3
  a3 := Tryz.isAgg3
  z3 := Tryz.sizeOf3
  v3 := Tryz.zeroValue3
  t4 := Tryz.underlying4
  a4 := Tryz.isAgg4
  z4 := Tryz.sizeOf4
  v4 := Tryz.zeroValue4
  t5 := Tryz.underlying5
  a5 := Tryz.isAgg5
  z5 := Tryz.sizeOf5
  v5 := Tryz.zeroValue5
  t9 := Tryz.underlying9
  a9 := Tryz.isAgg9
  z9 := Tryz.sizeOf9
  v9 := Tryz.zeroValue9
  t20 := Tryz.underlying20
  a20 := Tryz.isAgg20
  z20 := Tryz.sizeOf20
  v20 := Tryz.zeroValue20
  t37 := Tryz.underlying345
  a37 := Tryz.isAgg345
  z37 := Tryz.sizeOf345
  v37 := Tryz.zeroValue345
  t46 := Tryz.underlying75
  a46 := Tryz.isAgg75
  z46 := Tryz.sizeOf75
  v46 := Tryz.zeroValue75
  t51 := Tryz.underlying212
  a51 := Tryz.isAgg212
  z51 := Tryz.sizeOf212
  v51 := Tryz.zeroValue212
  t53 := Tryz.underlying214
  a53 := Tryz.isAgg214
  z53 := Tryz.sizeOf214
  v53 := Tryz.zeroValue214
  t171 := Tryz.underlying363
  a171 := Tryz.isAgg363
  z171 := Tryz.sizeOf363
  v171 := Tryz.zeroValue363
  t173 := Tryz.underlying365
  a173 := Tryz.isAgg365
  z173 := Tryz.sizeOf365
  v173 := Tryz.zeroValue365
  t212 := Tryz.underlying375
  a212 := Tryz.isAgg375
  z212 := Tryz.sizeOf375
  v212 := Tryz.zeroValue375
  t213 := Tryz.underlying376
  a213 := Tryz.isAgg376
  z213 := Tryz.sizeOf376
  t232 := Tryz.underlying382
  a232 := Tryz.isAgg382
  z232 := Tryz.sizeOf382
  v232 := Tryz.zeroValue382
  t233 := Tryz.underlying383
  a233 := Tryz.isAgg383
  z233 := Tryz.sizeOf383
  v233 := Tryz.zeroValue383
  g17 := by kernel_rfl
  g18 := by kernel_rfl
  g19 := by kernel_rfl
  i0 := by kernel_rfl
  i2 := by kernel_rfl
  i3 := by kernel_rfl
  i4 := by kernel_rfl
  i5 := by kernel_rfl
  i9 := by kernel_rfl
  i20 := by kernel_rfl
  i37 := by kernel_rfl
  i46 := by kernel_rfl
  i51 := by kernel_rfl
  i53 := by kernel_rfl
  i171 := by kernel_rfl
  i173 := by kernel_rfl
  i212 := by kernel_rfl
  i232 := by kernel_rfl
  i233 := by kernel_rfl
  m17 := by kernel_rfl
  m18 := by kernel_rfl
  m19 := by kernel_rfl }
open Go.RowKit Go.Sort Go.Lib in
theorem Tryz.strconv_Itoa (n : Int) (h0 : -9223372036854775808 ≤ n) (h1 : n ≤ 9223372036854775807) (w : World) (htab : Lib.TabIs Tryz.prog w "internal/strconv.uint64pow10" .u64 Lib.pow10Tab) :
    Calls Tryz.prog 193 #[.int .i64 n] w fun e w' => e = .returned (.string ⟨(Lib.itoa n).toArray⟩) ∧ ∃ k os, w' = grow (w.drewN k) os := Any.strconv_Itoa Tryz.laysM171 n h0 h1 w htab
def Tryz.laysC172_ren : Go.Shelf.Ren := ⟨fun | 172 => 192 | 244 => 227 | 245 => 228 | 247 => 252 | 279 => 253 | 280 => 254 | 281 => 255 | 282 => 256 | 287 => 272 | 316 => 273 | 171 => 193 | 205 => 274 | 321 => 283 | 322 => 284 | 243 => 229 | 246 => 257 | 283 => 275 | 284 => 276 | 285 => 277 | 286 => 278 | 129 => 104 | 317 => 285 | 318 => 286 | 319 => 287 | 320 => 288 | 337 => 296 | 338 => 297 | n => n, fun | 9 => 9 | 3 => 3 | 75 => 48 | 76 => 180 | 4 => 4 | 5 => 5 | 167 => 344 | 37 => 345 | 0 => 0 | 85 => 346 | 2 => 2 | 168 => 348 | 53 => 214 | 175 => 358 | 46 => 75 | 210 => 361 | 127 => 369 | 145 => 372 | 143 => 370 | 21 => 21 | 171 => 363 | 173 => 365 | 212 => 375 | 51 => 212 | 20 => 20 | 213 => 376 | 232 => 382 | 233 => 383 | 80 => 183 | n => n, fun | 15 => 1 | 16 => 2 | 17 => 4 | 18 => 5 | 19 => 6 | n => n⟩
theorem Tryz.laysC172 : Go.Proofs.LaysC.n172 Tryz.prog Tryz.laysC172_ren := {
  mixed := by kernel_rfl
  f129 := Tryz.func104.trans (congrArg some (by kernel_rfl))
  f171 := Tryz.func193.trans (congrArg some (by kernel_rfl))
  f172 := Tryz.func192.trans (congrArg some (by kernel_rfl))
  f205 := Tryz.func274.trans (congrArg some (by kernel_rfl))
  f243 := Tryz.func229.trans (congrArg some (by kernel_rfl))
  f244 := Tryz.func227.trans (congrArg some (by kernel_rfl))
  f245 := Tryz.func228.trans (congrArg some (by kernel_rfl))
  f246 := Tryz.func257.trans (congrArg some (by kernel_rfl))
  f247 := Tryz.func252.trans (congrArg some (by kernel_rfl))
  f279 := Tryz.func253.trans (congrArg some (by kernel_rfl))
  f280 := Tryz.func254.trans (congrArg some (by kernel_rfl))
  f281 := Tryz.func255.trans (congrArg some (by kernel_rfl))
  f282 := Tryz.func256.trans (congrArg some (by kernel_rfl))
  f283 := Tryz.func275.trans (congrArg some (by kernel_rfl))
  f284 := Tryz.func276.trans (congrArg some (by kernel_rfl))
  f285 := Tryz.func277.trans (congrArg some (by kernel_rfl))
  f286 := Tryz.func278.trans (congrArg some (by kernel_rfl))
  f287 := Tryz.func272.trans (congrArg some (by kernel_rfl))
  f316 := Tryz.func273.trans (congrArg some (by kernel_rfl))
  f317 := Tryz.func285.trans (congrArg some (by kernel_rfl))
  f318 := Tryz.func286.trans (congrArg some (by kernel_rfl))
  f319 := Tryz.func287.trans (congrArg some (by kernel_rfl))
  f320 := Tryz.func288.trans (congrArg some (by kernel_rfl))
  f321 := Tryz.func283.trans (congrArg some (by kernel_rfl))
  f322 := Tryz.func284.trans (congrArg some (by kernel_rfl))
  f337 := Tryz.func296.trans (congrArg some (by kernel_rfl))
  f338 := Tryz.func297.trans (congrArg some (by kernel_rfl))
  t0 := Tryz.underlying0
  a0 := Tryz.isAgg0
  z0 := Tryz.sizeOf0
  v0 := Tryz.zeroValue0
  t2 := Tryz.underlying2
  a2 := Tryz.isAgg2
  z2 := Tryz.sizeOf2
  v2 := Tryz.zeroValue2
  t3 := Tryz.underlying3
  a3 := Tryz.isAgg3
  z3 := Tryz.sizeOf3
  v3 := Tryz.zeroValue3
  t4 := Tryz.underlying4
  a4 := Tryz.isAgg4
  z4 := Tryz.sizeOf4
  v4 := Tryz.zeroValue4
  t5 := Tryz.underlying5
  a5 := Tryz.isAgg5
  z5 := Tryz.sizeOf5
  v5 := Tryz.zeroValue5
  t9 := Tryz.underlying9
  a9 := Tryz.isAgg9
  z9 := Tryz.sizeOf9
  v9 := Tryz.zeroValue9
  t20 := Tryz.underlying20
  a20 := Tryz.isAgg20
  z20 := Tryz.sizeOf20
  v20 := Tryz.zeroValue20
  t21 := Tryz.underlying21
  a21 := Tryz.isAgg21
  z21 := Tryz.sizeOf21
  v21 := Tryz.zeroValue21
  t37 := Tryz.underlying345
  a37 := Tryz.isAgg345
  z37 := Tryz.sizeOf345
  v37 := Tryz.zeroValue345
  t46 := Tryz.underlying75
  a46 := Tryz.isAgg75
  z46 := Tryz.sizeOf75
  v46 := Tryz.zeroValue75
  t51 := Tryz.underlying212
  a51 := Tryz.isAgg212
  z51 := Tryz.sizeOf212
  v51 := Tryz.zeroValue212
  t53 := Tryz.underlying214
  a53 := Tryz.isAgg214
  z53 := Tryz.sizeOf214
  v53 := Tryz.zeroValue214
  t75 := Tryz.underlying48
  a75 := Tryz.isAgg48
  z75 := Tryz.sizeOf48
  v75 := Tryz.zeroValue48
  t76 := Tryz.underlying180
  a76 := Tryz.isAgg180
  z76 := Tryz.sizeOf180
  v76 := Tryz.zeroValue180
  t85 := Tryz.underlying346
  a85 := Tryz.isAgg346
  z85 := Tryz.sizeOf346
  v85 := Tryz.zeroValue346
  t127 := Tryz.underlying369
  a127 := Tryz.isAgg369
  z127 := Tryz.sizeOf369
  v127 := Tryz.zeroValue369
  t143 := Tryz.underlying370
  a143 := Tryz.isAgg370
  z143 := Tryz.sizeOf370
  v143 := Tryz.zeroValue370
  t145 := Tryz.underlying372
  a145 := Tryz.isAgg372
  z145 := Tryz.sizeOf372
  v145 := Tryz.zeroValue372
  t167 := Tryz.underlying344
  a167 := Tryz.isAgg344
  z167 := Tryz.sizeOf344
  v167 := Tryz.zeroValue344
  t168 := Tryz.underlying348
  a168 := Tryz.isAgg348
  z168 := Tryz.sizeOf348
  v168 := Tryz.zeroValue348
  t171 := Tryz.underlying363
  a171 := Tryz.isAgg363
  z171 := Tryz.sizeOf363
  v171 := Tryz.zeroValue363
  t173 := Tryz.underlying365
  a173 := Tryz.isAgg365
  z173 := Tryz.sizeOf365
  v173 := Tryz.zeroValue365
  t175 := Tryz.underlying358
  a175 := Tryz.isAgg358
  z175 := Tryz.sizeOf358
  v175 := Tryz.zeroValue358
  t210 := Tryz.underlying361
  a210 := Tryz.isAgg361
  z210 := Tryz.sizeOf361
  v210 := Tryz.zeroValue361
  t212 := Tryz.underlying375
  a212 := Tryz.isAgg375
  z212 := Tryz.sizeOf375
  v212 := Tryz.zeroValue375
  t213 := Tryz.underlying376
  a213 := Tryz.isAgg376
  z213 := Tryz.sizeOf376
  t232 := Tryz.underlying382
  a232 := Tryz.isAgg382
  z232 := Tryz.sizeOf382
  v232 := Tryz.zeroValue382
  t233 := Tryz.underlying383
  a233 := Tryz.isAgg383
  z233 := Tryz.sizeOf383
  v233 := Tryz.zeroValue383
  g15 := by kernel_rfl
  g16 := by kernel_rfl
  g17 := by kernel_rfl
  g18 := by kernel_rfl
  g19 := by kernel_rfl
  t80 := Tryz.underlying183
  a80 := Tryz.isAgg183
  z80 := Tryz.sizeOf183
  v80 := Tryz.zeroValue183
  i0 := by kernel_rfl
  i2 := by kernel_rfl
  i3 := by kernel_rfl
  i4 := by kernel_rfl
  i5 := by kernel_rfl
  i9 := by kernel_rfl
  i20 := by kernel_rfl
  i21 := by kernel_rfl
  i37 := by kernel_rfl
  i46 := by kernel_rfl
  i51 := by kernel_rfl
  i53 := by kernel_rfl
  i75 := by kernel_rfl
  i76 := by kernel_rfl
  i80 := by kernel_rfl
  i85 := by kernel_rfl
  i127 := by kernel_rfl
  i143 := by kernel_rfl
  i145 := by kernel_rfl
  i167 := by kernel_rfl
  i168 := by kernel_rfl
  i171 := by kernel_rfl
  i173 := by kernel_rfl
  i175 := by kernel_rfl
  i210 := by kernel_rfl
  i212 := by kernel_rfl
  i232 := by kernel_rfl
  i233 := by kernel_rfl
  m15 := by kernel_rfl
  m16 := by kernel_rfl
  m17 := by kernel_rfl
  m18 := by kernel_rfl
  m19 := by kernel_rfl
  c0 := by kernel_rfl
  c2 := by kernel_rfl
  c3 := by kernel_rfl
  c4 := by kernel_rfl
  c5 := by kernel_rfl
  c9 := by kernel_rfl
  c20 := by kernel_rfl
  c21 := by kernel_rfl
  c37 := by kernel_rfl
  c46 := by kernel_rfl
  c51 := by kernel_rfl
  c53 := by kernel_rfl
  c75 := by kernel_rfl
  c76 := by kernel_rfl
  c80 := by kernel_rfl
  c85 := by kernel_rfl
  c127 := by kernel_rfl
  c143 := by kernel_rfl
  c145 := by kernel_rfl
  c167 := by kernel_rfl
  c168 := by kernel_rfl
  c171 := by kernel_rfl
  c173 := by kernel_rfl
  c175 := by kernel_rfl
  c210 := by kernel_rfl
  c212 := by kernel_rfl
  c213 := by kernel_rfl
  c232 := by kernel_rfl
  c233 := by kernel_rfl }
open Go.RowKit in
theorem Tryz.strconv_Atoi_ok (s : ByteArray) (hmax : s.size ≤ 9223372036854775806) (v : Int) (h : Lib.atoiAll s.data.toList = .ok v) (w : World) :
    Calls Tryz.prog 192 #[.string s] w fun e w' => e = .returned (.tuple #[.int .i64 v, .nilIface]) ∧ (w' = w ∨ ∃ t, w' = Lib.bytesWorld w 5 t) := Any.strconv_Atoi_ok Tryz.laysC172 s hmax v h w
open Go.RowKit in
theorem Tryz.strconv_Atoi_syntax (s : ByteArray) (hlim : s.size ≤ 281474976710656) (h : Lib.atoiAll s.data.toList = Lib.NumEnd.syntax) (ev : Value) (w : World) (hv : w.cell? ⟨1, 0, none⟩ = some ev) (hev : ev = .nilIface ∨ ∃ te pe, ev = .iface te pe) :
    Calls Tryz.prog 192 #[.string s] w fun e w' => ∃ N, e = .returned (.tuple #[.int .i64 (0), .iface 348 (.pointer (some ⟨N, 0, none⟩))]) ∧ w.heap.size ≤ N ∧ w'.heap[N]? = some (.cells #[.string ⟨#[65, 116, 111, 105]⟩, .string s, ev] 361 (0, 0)) ∧ Below w.heap.size w w' := Any.strconv_Atoi_syntax Tryz.laysC172 s hlim h ev w hv hev
open Go.RowKit in
theorem Tryz.strconv_Atoi_range (s : ByteArray) (hlim : s.size ≤ 281474976710656) (h : Lib.atoiAll s.data.toList = .range) (ev : Value) (w : World) (hv : w.cell? ⟨2, 0, none⟩ = some ev) (hev : ev = .nilIface ∨ ∃ te pe, ev = .iface te pe) :
    Calls Tryz.prog 192 #[.string s] w fun e w' => ∃ N, e = .returned (.tuple #[.int .i64 (Lib.atoiSat s.data.toList), .iface 348 (.pointer (some ⟨N, 0, none⟩))]) ∧ w.heap.size ≤ N ∧ w'.heap[N]? = some (.cells #[.string ⟨#[65, 116, 111, 105]⟩, .string s, ev] 361 (0, 0)) ∧ Below w.heap.size w w' := Any.strconv_Atoi_range Tryz.laysC172 s hlim h ev w hv hev
def Tryz.lays143_ren : Go.Shelf.Ren := ⟨fun | 143 => 261 | 219 => 280 | 217 => 245 | 225 => 293 | 224 => 294 | 267 => 295 | 266 => 265 | 314 => 298 | n => n, fun | 9 => 9 | 3 => 3 | 4 => 4 | 5 => 5 | 46 => 75 | 146 => 380 | 51 => 212 | n => n, fun | 1 => 3 | n => n⟩
theorem Tryz.lays143 : Go.Proofs.Lays.n143 Tryz.prog Tryz.lays143_ren := {
  mixed := by kernel_rfl
  f143 := Tryz.func261.trans (congrArg some (by kernel_rfl))
  f217 := Tryz.func245.trans (congrArg some (by kernel_rfl))
  f219 := Tryz.func280.trans (congrArg some (by kernel_rfl))
  f224 := Tryz.func294.trans (congrArg some (by kernel_rfl))
  f225 := Tryz.func293.trans (congrArg some (by kernel_rfl))
  f266 := Tryz.func265.trans (congrArg some (by kernel_rfl))
  f267 := Tryz.func295.trans (congrArg some (by kernel_rfl))
  f314 := Tryz.func298.trans (congrArg some (by kernel_rfl))
  t3 := Tryz.underlying3
  a3 := Tryz.isAgg3
  z3 := Tryz.sizeOf3
  v3 := Tryz.zeroValue3
  t4 := Tryz.underlying4
  a4 := Tryz.isAgg4
  z4 := Tryz.sizeOf4
  v4 := Tryz.zeroValue4
  t5 := Tryz.underlying5
  a5 := Tryz.isAgg5
  z5 := Tryz.sizeOf5
  v5 := Tryz.zeroValue5
  t9 := Tryz.underlying9
  a9 := Tryz.isAgg9
  z9 := Tryz.sizeOf9
  v9 := Tryz.zeroValue9
  t46 := Tryz.underlying75
  a46 := Tryz.isAgg75
  z46 := Tryz.sizeOf75
  v46 := Tryz.zeroValue75
  t51 := Tryz.underlying212
  a51 := Tryz.isAgg212
  z51 := Tryz.sizeOf212
  v51 := Tryz.zeroValue212
  t146 := Tryz.underlying380
  a146 := Tryz.isAgg380
  z146 := Tryz.sizeOf380
  v146 := Tryz.zeroValue380
  g1 := by kernel_rfl }
open Go.RowKit Go.Lib in
theorem Tryz.strings_Index (s sub : ByteArray) (m : Int) (w : World) (hs : s.size < 4294967281) (hm : w.cell? ⟨3, 0, none⟩ = some (.int .i64 m)) :
    Calls Tryz.prog 261 #[.string s, .string sub] w fun e w' => e = .returned (.int .i64 (Lib.index s.data.toList sub.data.toList)) ∧ w' = w := Any.strings_Index Tryz.lays143 s sub m w hs hm
def Tryz.lays145_ren : Go.Shelf.Ren := ⟨fun | 145 => 238 | 220 => 260 | 219 => 280 | 217 => 245 | 225 => 293 | 224 => 294 | 267 => 295 | 266 => 265 | 314 => 298 | n => n, fun | 9 => 9 | 4 => 4 | 59 => 332 | 3 => 3 | 5 => 5 | 46 => 75 | 146 => 380 | 51 => 212 | n => n, fun | 1 => 3 | n => n⟩
theorem Tryz.lays145 : Go.Proofs.Lays.n145 Tryz.prog Tryz.lays145_ren := {
  mixed := by kernel_rfl
  f145 := Tryz.func238.trans (congrArg some (by kernel_rfl))
  f217 := Tryz.func245.trans (congrArg some (by kernel_rfl))
  f219 := Tryz.func280.trans (congrArg some (by kernel_rfl))
  f220 := Tryz.func260.trans (congrArg some (by kernel_rfl))
  f224 := Tryz.func294.trans (congrArg some (by kernel_rfl))
  f225 := Tryz.func293.trans (congrArg some (by kernel_rfl))
  f266 := Tryz.func265.trans (congrArg some (by kernel_rfl))
  f267 := Tryz.func295.trans (congrArg some (by kernel_rfl))
  f314 := Tryz.func298.trans (congrArg some (by kernel_rfl))
  t3 := Tryz.underlying3
  a3 := Tryz.isAgg3
  z3 := Tryz.sizeOf3
  v3 := Tryz.zeroValue3
  t4 := Tryz.underlying4
  a4 := Tryz.isAgg4
  z4 := Tryz.sizeOf4
  v4 := Tryz.zeroValue4
  t5 := Tryz.underlying5
  a5 := Tryz.isAgg5
  z5 := Tryz.sizeOf5
  v5 := Tryz.zeroValue5
  t9 := Tryz.underlying9
  a9 := Tryz.isAgg9
  z9 := Tryz.sizeOf9
  v9 := Tryz.zeroValue9
  t46 := Tryz.underlying75
  a46 := Tryz.isAgg75
  z46 := Tryz.sizeOf75
  v46 := Tryz.zeroValue75
  t51 := Tryz.underlying212
  a51 := Tryz.isAgg212
  z51 := Tryz.sizeOf212
  v51 := Tryz.zeroValue212
  t59 := Tryz.underlying332
  a59 := Tryz.isAgg332
  z59 := Tryz.sizeOf332
  v59 := Tryz.zeroValue332
  t146 := Tryz.underlying380
  a146 := Tryz.isAgg380
  z146 := Tryz.sizeOf380
  v146 := Tryz.zeroValue380
  g1 := by kernel_rfl }
open Go.RowKit Go.Lib in
theorem Tryz.strings_Cut (s sep : ByteArray) (m : Int) (w : World) (hs : s.size < 4294967281) (hm : w.cell? ⟨3, 0, none⟩ = some (.int .i64 m)) :
    Calls Tryz.prog 238 #[.string s, .string sep] w fun e w' => e = .returned (.tuple #[.string ⟨(Lib.cut s.data.toList sep.data.toList).1.toArray⟩, .string ⟨(Lib.cut s.data.toList sep.data.toList).2.1.toArray⟩, .bool (Lib.cut s.data.toList sep.data.toList).2.2]) ∧ ∃ n, w' = w.drewN n := Any.strings_Cut Tryz.lays145 s sep m w hs hm
def Tryz.laysGw17_ren : Go.Shelf.Ren := ⟨fun | 17 => 107 | 15 => 146 | 20 => 174 | n => n, fun | 9 => 9 | 23 => 215 | 4 => 4 | 3 => 3 | 0 => 0 | 21 => 21 | n => n, fun | n => n⟩
theorem Tryz.laysGw17 : Go.Proofs.LaysGw.n17 Tryz.prog Tryz.laysGw17_ren := {
  mixed := by kernel_rfl
  f15 := Tryz.func146.trans (congrArg some (by kernel_rfl))
  f17 := Tryz.func107.trans (congrArg some (by kernel_rfl))
  f20 := Tryz.func174.trans (congrArg some (by kernel_rfl))
  t0 := Tryz.underlying0
  a0 := Tryz.isAgg0
  z0 := Tryz.sizeOf0
  v0 := Tryz.zeroValue0
  i0 := by kernel_rfl
  t3 := Tryz.underlying3
  a3 := Tryz.isAgg3
  z3 := Tryz.sizeOf3
  v3 := Tryz.zeroValue3
  i3 := by kernel_rfl
  t4 := Tryz.underlying4
  a4 := Tryz.isAgg4
  z4 := Tryz.sizeOf4
  v4 := Tryz.zeroValue4
  i4 := by kernel_rfl
  t9 := Tryz.underlying9
  a9 := Tryz.isAgg9
  z9 := Tryz.sizeOf9
  v9 := Tryz.zeroValue9
  i9 := by kernel_rfl
  t21 := Tryz.underlying21
  a21 := Tryz.isAgg21
  z21 := Tryz.sizeOf21
  v21 := Tryz.zeroValue21
  i21 := by kernel_rfl
  t23 := Tryz.underlying215
  a23 := Tryz.isAgg215
  z23 := Tryz.sizeOf215
  v23 := Tryz.zeroValue215
  i23 := by kernel_rfl }
open Go.RowKit Go.Lib in
theorem Tryz.strings_ContainsFunc_runes (g : Nat) (lb : Array Value) (eg : ∀ args w, (callFunc g args).run Tryz.prog w = .ok (.enter g args) w) (p : Nat → Bool) (s : ByteArray) (w : World) (hp : PredAtRunes Tryz.prog g lb p w) :
    Calls Tryz.prog 107 #[.string s, .func (.func g) #[] lb] w fun e w' => e = .returned (.bool (decide (0 ≤ Lib.idxFunc p true s))) ∧ Below w.heap.size w w' := Any.strings_ContainsFunc_runes Tryz.laysGw17 g lb eg p s w hp
def Tryz.lays99_ren : Go.Shelf.Ren := ⟨fun | 99 => 207 | 206 => 237 | n => n, fun | 9 => 9 | 4 => 4 | 3 => 3 | n => n, fun | n => n⟩
theorem Tryz.lays99 : Go.Proofs.Lays.n99 Tryz.prog Tryz.lays99_ren := {
  mixed := by kernel_rfl
  f99 := Tryz.func207.trans (congrArg some (by kernel_rfl))
  f206 := Tryz.func237.trans (congrArg some (by kernel_rfl))
  t3 := Tryz.underlying3
  a3 := Tryz.isAgg3
  z3 := Tryz.sizeOf3
  v3 := Tryz.zeroValue3
  t4 := Tryz.underlying4
  a4 := Tryz.isAgg4
  z4 := Tryz.sizeOf4
  v4 := Tryz.zeroValue4
  t9 := Tryz.underlying9
  a9 := Tryz.isAgg9
  z9 := Tryz.sizeOf9
  v9 := Tryz.zeroValue9 }
open Go.RowKit Go.Lib in
theorem Tryz.strings_HasPrefix (s p : ByteArray) (w : World) :
    Calls Tryz.prog 207 #[.string s, .string p] w fun e w' => e = .returned (.bool (Lib.hasPrefix s.data.toList p.data.toList)) ∧ w' = w := Any.strings_HasPrefix Tryz.lays99 s p w
def Tryz.lays110_ren : Go.Shelf.Ren := ⟨fun | 110 => 263 | 109 => 281 | n => n, fun | 31 => 264 | 9 => 9 | 4 => 4 | 3 => 3 | 0 => 0 | n => n, fun | n => n⟩
theorem Tryz.lays110 : Go.Proofs.Lays.n110 Tryz.prog Tryz.lays110_ren := {
  mixed := by kernel_rfl
  f109 := Tryz.func281.trans (congrArg some (by kernel_rfl))
  f110 := Tryz.func263.trans (congrArg some (by kernel_rfl))
  t0 := Tryz.underlying0
  a0 := Tryz.isAgg0
  z0 := Tryz.sizeOf0
  v0 := Tryz.zeroValue0
  t3 := Tryz.underlying3
  a3 := Tryz.isAgg3
  z3 := Tryz.sizeOf3
  v3 := Tryz.zeroValue3
  t4 := Tryz.underlying4
  a4 := Tryz.isAgg4
  z4 := Tryz.sizeOf4
  v4 := Tryz.zeroValue4
  t9 := Tryz.underlying9
  a9 := Tryz.isAgg9
  z9 := Tryz.sizeOf9
  v9 := Tryz.zeroValue9
  t31 := Tryz.underlying264
  a31 := Tryz.isAgg264
  z31 := Tryz.sizeOf264
  v31 := Tryz.zeroValue264 }
open Go.Lib in
theorem Tryz.slices_Contains_string (b off n c : Nat) (zs : List ByteArray) (x : ByteArray) (w : World) (hz : n ≤ zs.length) (hbig : n ≤ 9223372036854775807) (hc : ∀ j, j < zs.length → w.cell? ⟨b, off + j, none⟩ = some (.string (zs.getD j ByteArray.empty))) :
    Calls Tryz.prog 263 #[.slice (some ⟨b, off, none⟩) n c, .string x] w fun e w' => e = .returned (.bool (Lib.containsS (zs.take n) x)) ∧ w' = w := Any.slices_Contains_string Tryz.lays110 b off n c zs x w hz hbig hc
end Go.Proofs.YtbfkkepdeepdeaaGreatDoor
end
section
namespace Go.Proofs.YtbfkkepdeepdeaaGreatDoor
open Go Go.RowKit Go.Proofs.YtbfkkepdeepdeaaGreatDoorW.PrintWords Go.Proofs.YtbfkkepdeepdeaaGreatDoorW.PrintLast Go.Proofs.YtbfkkepdeepdeaaGreatDoorW.PrintMore
set_option linter.unusedVariables false
set_option linter.unusedSimpArgs false
set_option maxRecDepth 100000
structure LsK {α : Type} (d : Kd α) (e : TypeId) (base : Nat) (H : List Nat) (W : World) (H' : List Nat) (v : Value) (l : List α) : Prop where
  sup : ∀ k, k ∈ H → k ∈ H'
  lt : ∀ k, k ∈ H' → k < W.heap.size
  own : ∀ b, v.ownBlock = some b → b ∈ H'
  row : OwnRow (d.K (hole H' W)) e d.sz W base v l
def AppInfo {α : Type} (d : Kd α) (t e : TypeId) : Prop := ∃ z bytes, Tryz.prog.underlying t = some (.slice e) ∧ (Tryz.prog.info? e).map (fun i => (i.zero, i.size, i.bytes)) = some (some z, d.sz, bytes) ∧ z.cells.size = d.sz ∧ 0 < d.sz ∧ 0 < bytes ∧ bytes ≤ 1000
section
variable {α : Type} {d : Kd α} {e : TypeId} {bs bs' : Nat} {H H' H2 : List Nat} {W W' w1 : World} {v v1 : Value} {l l1 : List α} {x : α}
theorem LsK.nil (bs : Nat) (hH : ∀ k, k ∈ H → k < W.heap.size) : LsK d e bs H W H (.slice none 0 0) [] :=
  ⟨fun _ h => h, hH, fun b h => by simp [Value.ownBlock] at h, OwnRow.none_ _ _ _ _ _⟩
theorem LsK.base (h : LsK d e bs H W H' v l) : ∀ b, v.ownBlock = some b → bs ≤ b := fun b hb => by
  obtain ⟨inner, ho, -⟩ := h.row
  exact own_base ho b hb
theorem LsK.lower (h : LsK d e bs H W H' v l) (hb : bs' ≤ bs) : LsK d e bs' H W H' v l := ⟨h.sup, h.lt, h.own, h.row.lower hb⟩
theorem LsK.slice_ (h : LsK d e bs H W H' v l) : ∃ A c, v = .slice A l.length c ∧ l.length ≤ c := h.row.slice_
theorem LsK.keep (u : Up d) {K : List Nat} (h : LsK d e bs H W H' v l) (k : Keep K W W') (hK : ∀ b, b ∈ K → b ∈ H ∧ b < bs) : LsK d e bs H W' H' v l :=
  ⟨h.sup, fun j hj => Nat.lt_of_lt_of_le (h.lt j hj) k.size, h.own,
    OwnRow.up u (OwnRow.kept h.row k (fun b e hm => by have := h.base b e; have := (hK b hm).2; omega)) (k.sub (fun j hj => h.sup _ (hK j hj).1))⟩
theorem LsK.below (u : Up d) (h : LsK d e bs H W H' v l) (k : Below W.heap.size W W') : LsK d e bs H W' H' v l := h.keep u (Keep.of_below (H := []) k) (fun b hb => by cases hb)
theorem LsK.grown (u : Up d) (h : LsK d e bs H W H' v l) (hO : OwnRow (d.K (hole H' W)) e d.sz w1 bs v1 l1) (hg : W.grownBy w1 v.ownBlock) (hat : v1.ownBlock = v.ownBlock ∨ ∃ b, v1.ownBlock = some b ∧ W.heap.size ≤ b) :
    ∃ H2, LsK d e bs H w1 H2 v1 l1 ∧ ∀ k, k ∈ H' → k ∈ H2 := by
  have hsub : ∀ {H2 : List Nat}, (∀ k, k ∈ H2 → k ∈ H' ∨ W.heap.size ≤ k) → Sub (hole H' W) (hole H2 w1) := fun {H2} hh a v hc => by
    obtain ⟨n1, n2⟩ := hole_cell_iff.1 hc
    have hb := cell_block n2
    exact hole_cell_iff.2 ⟨fun e => (hh _ e).elim n1 (fun k => by omega), (World.cell?_of_block (a := a) (hg.block _ hb (fun e => n1 (h.own _ e.symm)))).trans n2⟩
  rcases hat with e | ⟨b, e, hb⟩
  · exact ⟨H', ⟨h.sup, fun k hk => Nat.lt_of_lt_of_le (h.lt k hk) hg.size, fun b hb => h.own b (by rw [← e]; exact hb), OwnRow.up u hO (hsub (fun k hk => .inl hk))⟩, fun _ h => h⟩
  · refine ⟨b :: H', ⟨fun k hk => List.mem_cons_of_mem _ (h.sup k hk), fun k hk => ?_, fun b2 h2 => ?_, OwnRow.up u hO (hsub (fun k hk => (List.mem_cons.1 hk).elim (fun e => .inr (by omega)) .inl))⟩, fun _ h => List.mem_cons_of_mem _ h⟩
    · rcases List.mem_cons.1 hk with e2 | e2
      · obtain ⟨inner, ho, -⟩ := hO; rw [e2]; exact own_lt ho b e
      · exact Nat.lt_of_lt_of_le (h.lt k e2) hg.size
    · rw [e] at h2; injection h2 with h2; rw [← h2]; exact List.mem_cons_self
theorem LsK.reads (u : Up d) (h : LsK d e bs H W H' v l) (hH : ∀ k, k ∈ H → k < bs) : ∃ A c, v = .slice A l.length c ∧ l.length ≤ c ∧ d.C (hole H W) A l.length l :=
  OwnRow.readsH (d := d) (OwnRow.up u h.row (hole_less W h.sup)) (fun b e hm => by have := h.base b e; have := hH b hm; omega)
theorem Keep.grown {K : List Nat} {w : World} (k : Keep K w W) (h : LsK d e bs H W H' v l) (g : W.grownBy W' v.ownBlock) (hb : w.heap.size ≤ bs) : Keep K w W' :=
  k.row g (fun b e => Nat.le_trans hb (h.base b e))
variable {ops : Array Oper} {o : Oper} {rest : List Oper} {a : Act} {Q : Exit → Act → World → Prop} {cs : List Value}
theorem LsK.appendOne (u : Up d) {t : TypeId} (hi : AppInfo d t e) (h : LsK d e bs H W H' v l) (hgd : o.guard = none) (s x' : Operand)
    (ho : o.op = .call { callee := .builtin .append, args := #[s, x'], argTypes := #[t, t] }) (hs : a.eval s = v) (hx : a.eval x' = .slice (some ⟨W.heap.size, 0, none⟩) 1 1) (hK : d.K (hole H' W) x cs) (hb : bs ≤ W.heap.size) (hlen : l.length + 1 ≤ 1000000)
    (K : ∀ v1 w1 H2, LsK d e bs H w1 H2 v1 (l ++ [x]) → (∀ k, k ∈ H' → k ∈ H2) → W.grownBy w1 v.ownBlock → wpList Tryz.prog ops Q rest (a.put o.dst v1) w1) : wpList Tryz.prog ops Q (o :: rest) a (W.alloc (.cells cs.toArray e)) := by
  obtain ⟨z, bytes, ht, hinfo, hz, hsz, hb0, hb1⟩ := hi
  exact OwnRow.append (R := d.K (hole H' W)) (w0 := W) bs hgd s x' t e z d.sz bytes ho ht hinfo hz hsz hb0 v l x cs hs hx hK (d.K_len hK) (d.K_one hK) h.row (Below.refl _ _) hb (Nat.le_trans (Nat.mul_le_mul hlen hb1) (by decide))
    (fun v1 w1 hO _ hg hat => by
      obtain ⟨H2, h2, h3⟩ := h.grown u (v1 := v1) (l1 := l ++ [x]) hO hg hat
      exact K v1 w1 H2 h2 h3 hg)
end
end Go.Proofs.YtbfkkepdeepdeaaGreatDoor
end
section
namespace Go.Proofs.YtbfkkepdeepdeaaGreatDoor
open Go Go.RowKit Go.Proofs.YtbfkkepdeepdeaaGreatDoorW.PrintWords Go.Proofs.YtbfkkepdeepdeaaGreatDoorW.PrintLast Go.Proofs.YtbfkkepdeepdeaaGreatDoorW.PrintMore
set_option linter.unusedVariables false
set_option linter.unusedSimpArgs false
set_option maxRecDepth 100000
structure Env (w : World) : Prop where
  max : ∃ m, w.cell? ⟨3, 0, none⟩ = some (.int .i64 m)
  pow : Lib.TabIs Tryz.prog w "internal/strconv.uint64pow10" .u64 Lib.pow10Tab
  syn : ∃ ev, w.cell? ⟨1, 0, none⟩ = some ev ∧ (ev = .nilIface ∨ ∃ te pe, ev = .iface te pe)
  rng : ∃ ev, w.cell? ⟨2, 0, none⟩ = some ev ∧ (ev = .nilIface ∨ ∃ te pe, ev = .iface te pe)
  key : ∀ j, j < 18 → w.cell? ⟨0, j, none⟩ = some (.string (keyL.getD j ByteArray.empty))
theorem pow_named : Tryz.prog.globalNamed "internal/strconv.uint64pow10" = some 4 := by kernel_rfl
theorem Env.low {w : World} (E : Env w) : 4 < w.heap.size := by
  have h := E.pow
  unfold Lib.TabIs World.var? at h
  rw [pow_named] at h
  simp only [Option.bind_some] at h
  rcases Nat.lt_or_ge 4 w.heap.size with h4 | h4
  · exact h4
  · rw [Array.getElem?_eq_none h4] at h; cases h
theorem Env.move {w w' : World} (E : Env w) (h : ∀ k, k ≤ 4 → w'.heap[k]? = w.heap[k]?) : Env w' := by
  obtain ⟨m, hm⟩ := E.max
  obtain ⟨e1, h1, h1'⟩ := E.syn
  obtain ⟨e2, h2, h2'⟩ := E.rng
  refine ⟨⟨m, (World.cell?_of_block (a := ⟨3, 0, none⟩) (h _ (by decide))).trans hm⟩, ?_, ⟨e1, (World.cell?_of_block (a := ⟨1, 0, none⟩) (h _ (by decide))).trans h1, h1'⟩, ⟨e2, (World.cell?_of_block (a := ⟨2, 0, none⟩) (h _ (by decide))).trans h2, h2'⟩, fun j hj => (World.cell?_of_block (a := ⟨0, j, none⟩) (h 0 (by decide))).trans (E.key j hj)⟩
  have hp := E.pow
  unfold Lib.TabIs World.var? at hp ⊢
  rw [pow_named] at hp ⊢
  simp only [Option.bind_some] at hp ⊢
  rw [h _ (by decide)]; exact hp
theorem Env.below {w w' : World} (E : Env w) (h : Below w.heap.size w w') : Env w' := E.move (fun k hk => h.block k (by have := E.low; omega))
theorem Env.keep {w w' : World} {H : List Nat} (E : Env w) (h : Keep H w w') (hH : ∀ k, k ∈ H → 4 < k) : Env w' := E.move (fun k hk => h.block k (by have := E.low; omega) (fun e => by have := hH k e; omega))
theorem let_fin : ∀ i : Fin 256, ((decide (97 ≤ i.val) && decide (i.val ≤ 122)) || ((decide (65 ≤ i.val) && decide (i.val ≤ 90)) || decide (i.val = 95))) = ((decide (97 ≤ bits .or .u8 (i.val : Int) 32) && decide (bits .or .u8 (i.val : Int) 32 ≤ 122)) || ((i.val : Int) == 95)) := by decide +kernel
theorem letB_bits (c : UInt8) : letB c = ((decide (97 ≤ bits .or .u8 (c.toNat : Int) 32) && decide (bits .or .u8 (c.toNat : Int) 32 ≤ 122)) || ((c.toNat : Int) == 95)) := let_fin ⟨c.toNat, c.toNat_lt⟩
theorem of_fin {p : UInt8 → Prop} (h : ∀ i : Fin 256, p (UInt8.ofNat i.val)) (c : UInt8) : p c := by
  have := h ⟨c.toNat, c.toNat_lt⟩
  simpa using this
theorem blank_idx (c : UInt8) : decide (0 ≤ Lib.indexByte [9, 10, 13, 32] c) = blankB c := of_fin (p := fun c => decide (0 ≤ Lib.indexByte [9, 10, 13, 32] c) = blankB c) (by decide +kernel) c
theorem sign_idx (c : UInt8) : decide (0 ≤ Lib.indexByte [123, 125, 40, 41, 91, 93, 59, 44, 46, 61, 60, 43, 45, 42, 33] c) = signL.contains c := of_fin (p := fun c => decide (0 ≤ Lib.indexByte [123, 125, 40, 41, 91, 93, 59, 44, 46, 61, 60, 43, 45, 42, 33] c) = signL.contains c) (by decide +kernel) c
section
variable {w W : World}
theorem Letter_calls (c : UInt8) (w : World) : Calls Tryz.prog 241 #[.int .u8 (c.toNat : Int)] w fun e w' => e = .returned (.bool (letB c)) ∧ w' = w := by
  have hc : (c.toNat : Int) < 256 := by have := c.toNat_lt; omega
  go_enter Tryz.func241, Tryz.ntmps241
  go_wp2_with fail
  all_goals
    go_ret
    refine ⟨?_, rfl⟩
    rw [letB_bits]
    simp_all <;> (intros; omega)
theorem Figure_calls (c : UInt8) (w : World) : Calls Tryz.prog 242 #[.int .u8 (c.toNat : Int)] w fun e w' => e = .returned (.bool (figB c)) ∧ w' = w := by
  have hf : figB c = (decide (48 ≤ (c.toNat : Int)) && decide ((c.toNat : Int) ≤ 57)) := by unfold figB; rw [Bool.eq_iff_iff]; simp only [Bool.and_eq_true, decide_eq_true_eq]; omega
  have HF := Lib.hid hf
  clear hf
  go_enter Tryz.func242, Tryz.ntmps242
  go_wp2_with fail
  all_goals
    go_ret
    refine ⟨?_, rfl⟩
    rw [HF.out]
    simp_all <;> (intros; omega)
theorem sinside_calls (c : UInt8) (w : World) : Calls Tryz.prog 264 #[.int .u8 (c.toNat : Int)] w fun e w' => e = .returned (.bool (insB c)) ∧ w' = w := by
  cases hl : letB c with
  | true =>
    have HL := Lib.hid hl
    have HV := Lib.hid (show insB c = true by unfold insB; rw [hl]; rfl)
    clear hl
    go_enter Tryz.func264, Tryz.ntmps264
    go_wp2_with fail
    refine (Letter_calls c _).mono ?_
    rw [HL.out]
    rintro e w2 ⟨rfl, rfl⟩
    go_wp2_with fail
    go_ret
    exact ⟨by rw [HV.out]; rfl, rfl⟩
  | false =>
    have HL := Lib.hid hl
    have HV := Lib.hid (show insB c = figB c by unfold insB; rw [hl]; rfl)
    clear hl
    go_enter Tryz.func264, Tryz.ntmps264
    go_wp2_with fail
    refine (Letter_calls c _).mono ?_
    rw [HL.out]
    rintro e w2 ⟨rfl, rfl⟩
    go_wp2_with fail
    refine (Figure_calls c _).mono ?_
    rw [← HV.out]
    rintro e w2 ⟨rfl, rfl⟩
    go_wp2_with fail
    go_ret
    exact ⟨rfl, rfl⟩
theorem linside_calls (c : UInt8) (w : World) : Calls Tryz.prog 210 #[.int .u8 (c.toNat : Int)] w fun e w' => e = .returned (.bool (insB c)) ∧ w' = w := by
  cases hl : letB c with
  | true =>
    have HL := Lib.hid hl
    have HV := Lib.hid (show insB c = true by unfold insB; rw [hl]; rfl)
    clear hl
    go_enter Tryz.func210, Tryz.ntmps210
    go_wp2_with fail
    refine (Letter_calls c _).mono ?_
    rw [HL.out]
    rintro e w2 ⟨rfl, rfl⟩
    go_wp2_with fail
    go_ret
    exact ⟨by rw [HV.out]; rfl, rfl⟩
  | false =>
    have HL := Lib.hid hl
    have HV := Lib.hid (show insB c = figB c by unfold insB; rw [hl]; rfl)
    clear hl
    go_enter Tryz.func210, Tryz.ntmps210
    go_wp2_with fail
    refine (Letter_calls c _).mono ?_
    rw [HL.out]
    rintro e w2 ⟨rfl, rfl⟩
    go_wp2_with fail
    refine (Figure_calls c _).mono ?_
    rw [← HV.out]
    rintro e w2 ⟨rfl, rfl⟩
    go_wp2_with fail
    go_ret
    exact ⟨rfl, rfl⟩
theorem Blank_calls (c : UInt8) (w : World) : Calls Tryz.prog 205 #[.int .u8 (c.toNat : Int)] w fun e w' => e = .returned (.bool (blankB c)) ∧ w' = w := by
  go_enter Tryz.func205, Tryz.ntmps205
  go_wp2_with fail
  refine (Tryz.strings_IndexByte ⟨#[9, 10, 13, 32]⟩ (c.toNat : Int) _).mono ?_
  rintro e w2 ⟨rfl, rfl⟩
  go_wp2_with fail
  go_ret
  refine ⟨?_, rfl⟩
  rw [← blank_idx]
  rfl
theorem runL_le (p : UInt8 → Bool) (l : List UInt8) : runL p l ≤ l.length := by
  unfold runL; exact (List.takeWhile_sublist p).length_le
theorem runL_at (p : UInt8 → Bool) : ∀ (l : List UInt8) (k : Nat), k ≤ runL p l → runL p (l.drop k) = runL p l - k
  | l, 0, _ => by simp
  | [], k + 1, h => by simp [runL] at h
  | c :: r, k + 1, h => by
    unfold runL at h ⊢
    rw [List.takeWhile_cons] at h ⊢
    split at h
    · rename_i hc
      rw [if_pos hc]
      simp only [List.length_cons] at h ⊢
      have := runL_at p r k (by unfold runL; omega)
      unfold runL at this
      simp only [List.drop_succ_cons]
      omega
    · simp at h
theorem runL_step {p : UInt8 → Bool} {l : List UInt8} {k : Nat} (hk : k ≤ runL p l) {c : UInt8} (hc : l[k]? = some c) : (p c = true → k + 1 ≤ runL p l) ∧ (p c = false → runL p l = k) := by
  have h := runL_at p l k hk
  have hl := (List.getElem?_eq_some_iff.1 hc).1
  rw [List.drop_eq_getElem_cons hl, (List.getElem?_eq_some_iff.1 hc).2] at h
  unfold runL at h hk ⊢
  constructor
  · intro hp
    rw [List.takeWhile_cons, if_pos hp] at h
    simp only [List.length_cons] at h
    omega
  · intro hp
    rw [List.takeWhile_cons, if_neg (by rw [hp]; simp)] at h
    simp only [List.length_nil] at h
    omega
set_option maxHeartbeats 1000000 in
theorem Run_calls {fv : FuncId} {p : UInt8 → Bool} (hF : ∀ args W, (callFunc fv args).run Tryz.prog W = .ok (.enter fv args) W) (hP : ∀ (c : UInt8) W, Calls Tryz.prog fv #[.int .u8 (c.toNat : Int)] W fun e w' => e = .returned (.bool (p c)) ∧ w' = W) (s : ByteArray) (hs : s.size ≤ 4000) (w : World) :
    Calls Tryz.prog 206 #[.string s, .int .i64 0, .func (.func fv) #[] #[]] w fun e w' => e = .returned (.int .i64 (runL p s.data.toList)) ∧ w' = w := by
  have hsz : s.size = s.data.toList.length := Lib.size_eq s
  have HP := Lib.hid hP
  have HLE := Lib.hid (runL_le p s.data.toList)
  have HSZ := Lib.hid hsz
  clear hP hsz
  go_enter Tryz.func206, Tryz.ntmps206
  go_wp2_with fail
  go_loopw [1] (fun v wr => ∃ k : Nat, v = .int .i64 k ∧ Hid (k ≤ runL p s.data.toList) ∧ wr = w) (fun v wr => match v with | .int _ k => s.size - k.toNat | _ => 0)
  case atStart => exact ⟨0, by simp; omega, Lib.hid (Nat.zero_le _), rfl⟩
  case round =>
    obtain ⟨k, rfl, hk, rfl⟩ := hrel
    by_cases hlt : k < s.size
    · have hki : (k : Int) < (s.size : Int) := by omega
      obtain ⟨c, hc⟩ : ∃ c, s.data.toList[k]? = some c := ⟨s.data.toList[k]'(by rw [← HSZ.out]; exact hlt), List.getElem?_eq_getElem _⟩
      have HC := Lib.hid hc
      have hst := runL_step hk.out hc
      have hsk : s[k] = c := by
        have h1 := (List.getElem?_eq_some_iff.1 hc).2
        rw [← h1]; rfl
      have HSK := Lib.hid hsk
      clear hc hsk
      cases hp : p c with
      | true =>
        have HPC := Lib.hid hp
        have HNX := Lib.hid (hst.1 hp)
        clear hst hp
        go_wp2_with fail
        rw [HSK.out]
        refine (HP.out c _).mono ?_
        rw [HPC.out]
        rintro e w2 ⟨rfl, rfl⟩
        go_wp2_with fail
        refine ⟨⟨k + 1, by simp, HNX, trivial⟩, ?_⟩
        simp only [Int.toNat_natCast]
        omega
      | false =>
        have HPC := Lib.hid hp
        have HRE := Lib.hid (hst.2 hp)
        clear hst hp
        go_wp2_with fail
        rw [HSK.out]
        refine (HP.out c _).mono ?_
        rw [HPC.out]
        rintro e w2 ⟨rfl, rfl⟩
        go_wp2_with fail
        go_ret
        exact ⟨by rw [HRE.out]; rfl, rfl⟩
    · have hr : runL p s.data.toList = k := by have := hk.out; have := HLE.out; have := HSZ.out; omega
      have HRE := Lib.hid hr
      have hge : (s.size : Int) ≤ (k : Int) := by omega
      clear hr
      go_wp2_with fail
      go_ret
      exact ⟨by rw [HRE.out]; rfl, rfl⟩
end
end Go.Proofs.YtbfkkepdeepdeaaGreatDoor
end
section
namespace Go.Proofs.YtbfkkepdeepdeaaGreatDoor
open Go Go.RowKit Go.Proofs.YtbfkkepdeepdeaaGreatDoorW.PrintWords Go.Proofs.YtbfkkepdeepdeaaGreatDoorW.PrintLast Go.Proofs.YtbfkkepdeepdeaaGreatDoorW.PrintMore
set_option linter.unusedVariables false
set_option linter.unusedSimpArgs false
set_option maxRecDepth 100000
theorem runL_all (p : UInt8 → Bool) : ∀ l : List UInt8, decide (runL p l = l.length) = l.all p
  | [] => by simp [runL]
  | c :: r => by
    have h := runL_all p r
    unfold runL at h ⊢
    rw [List.takeWhile_cons]
    cases hc : p c with
    | true => simp [hc] at h ⊢; exact h
    | false => simp [hc]
theorem wordB_eq (c : UInt8) (r : List UInt8) : wordB (c :: r) = (decide ((c :: r).length ≤ 64) && (letB c && decide (runL insB (c :: r) = (c :: r).length))) := by
  rw [runL_all]
  unfold wordB
  cases hc : letB c with
  | false => simp [hc]
  | true =>
    have hi : insB c = true := by unfold insB; rw [hc]; rfl
    simp only [List.all_cons, hi, hc, Bool.true_and]
    exact Bool.and_comm _ _
set_option maxHeartbeats 1000000 in
theorem Word_calls (s : ByteArray) (hs : s.size ≤ 4000) (w : World) : Calls Tryz.prog 244 #[.string s] w fun e w' => e = .returned (.bool (wordB s.data.toList)) ∧ w' = w := by
  have hsz : s.size = s.data.toList.length := Lib.size_eq s
  cases hl : s.data.toList with
  | nil =>
    have he : s = noB := by
      have h1 : s.data = #[] := by simpa using hl
      cases s; simp only at h1; rw [h1]
    subst he
    go_enter Tryz.func244, Tryz.ntmps244
    go_wp2_with fail
    go_ret
    exact ⟨rfl, rfl⟩
  | cons c r =>
    have hle : s.toList.isEmpty = false := by
      cases e : s.toList.isEmpty with
      | false => rfl
      | true =>
        have h1 := toList_inj.1 ((List.isEmpty_iff.1 e).trans (show ([] : List UInt8) = noB.toList by kernel_rfl))
        rw [h1] at hl; cases hl
    have h0 : 0 < s.size := by rw [hsz, hl]; simp
    have h0i : (0 : Int) < (s.size : Int) := by omega
    have hs0 : s[0] = c := by
      have : s.data.toList[0]'(by rw [← hsz]; exact h0) = c := by simp [hl]
      rw [← this]; rfl
    have HV := Lib.hid (wordB_eq c r)
    have HS0 := Lib.hid hs0
    have HL := Lib.hid hl
    have HSZ := Lib.hid hsz
    clear hs0 hl hsz
    by_cases h64 : s.size ≤ 64
    · have h64i : (s.size : Int) ≤ 64 := by omega
      have H64 := Lib.hid h64
      cases hc : letB c with
      | false =>
        have HC := Lib.hid hc
        clear hc
        go_enter Tryz.func244, Tryz.ntmps244
        go_wp2_with fail
        rw [HS0.out]
        refine (Letter_calls c _).mono ?_
        rw [HC.out]
        rintro e w2 ⟨rfl, rfl⟩
        go_wp2_with fail
        go_ret
        exact ⟨by rw [HV.out, HC.out]; simp, rfl⟩
      | true =>
        have HC := Lib.hid hc
        clear hc
        go_enter Tryz.func244, Tryz.ntmps244
        go_wp2_with fail
        rw [HS0.out]
        refine (Letter_calls c _).mono ?_
        rw [HC.out]
        rintro e w2 ⟨rfl, rfl⟩
        go_wp2_with fail
        refine (Run_calls (p := insB) (enters_of Tryz.func264 (by kernel_rfl) rfl) sinside_calls s hs _).mono ?_
        rintro e w2 ⟨rfl, rfl⟩
        go_wp2_with fail
        go_ret
        refine ⟨?_, rfl⟩
        rw [HV.out, HC.out, ← HL.out, ← HSZ.out, decide_eq_true H64.out]
        have hb : ((runL insB s.data.toList : Int) == (s.size : Int)) = decide (runL insB s.data.toList = s.size) := by rw [Bool.eq_iff_iff]; simp only [beq_iff_eq, decide_eq_true_eq]; omega
        rw [← hb]
        rfl
    · have h64i : (64 : Int) < (s.size : Int) := by omega
      have H64 := Lib.hid h64
      go_enter Tryz.func244, Tryz.ntmps244
      go_wp2_with fail
      go_ret
      refine ⟨?_, rfl⟩
      rw [HV.out, ← HL.out, ← HSZ.out, decide_eq_false H64.out]
      rfl
theorem keyB_contains (s : ByteArray) : keyB s.data.toList = Lib.containsS (keyL.take 18) s := by
  have h : keyL.take 18 = keyL := rfl
  rw [h, Bool.eq_iff_iff, Lib.containsS_iff]
  unfold keyB
  simp only [List.any_eq_true, decide_eq_true_eq]
  constructor
  · rintro ⟨w, hw, e⟩
    have : w = s := by
      have e2 : w.data = s.data := Array.toList_inj.1 e
      cases w; cases s; simp only at e2; rw [e2]
    rw [← this]; exact hw
  · exact fun h => ⟨s, h, rfl⟩
theorem Keyword_calls (s : ByteArray) {w : World} (E : Env w) : Calls Tryz.prog 243 #[.string s] w fun e w' => e = .returned (.bool (keyB s.data.toList)) ∧ w' = w := by
  have HE := Lib.hid E
  clear E
  go_enter Tryz.func243, Tryz.ntmps243
  go_wp2_with fail
  refine (Tryz.slices_Contains_string 0 0 18 18 keyL s w (by decide) (by decide) (fun j hj => by rw [Nat.zero_add]; exact HE.out.key j hj)).mono ?_
  rintro e w2 ⟨rfl, rfl⟩
  go_wp2_with fail
  go_ret
  exact ⟨by rw [keyB_contains]; rfl, rfl⟩
theorem below_grow (w : World) (k : Nat) (os : Array Obj) : Below w.heap.size w (Go.Sort.grow (w.drewN k) os) := by
  have h := below_drawn w k
  exact ⟨h.os, h.tape, h.output, Nat.le_trans h.size (by simp [Go.Sort.grow]), fun j hj => by
    rw [← h.block j hj]
    have hj2 : j < (w.drewN k).heap.size := Nat.lt_of_lt_of_le hj h.size
    simp only [Go.Sort.grow]
    rw [Array.getElem?_append_left hj2]⟩
def numP (l : List UInt8) : Option Int := match Lib.atoiAll l with
  | .ok v => if l.length ≤ 10 ∧ 0 ≤ v ∧ v ≤ 2147483647 ∧ Lib.itoa v = l then some v else none
  | _ => none
def numV (o : Option Int) : Value := match o with
  | some v => .tuple #[.int .i64 v, .nilIface]
  | none => .tuple #[.int .i64 0, .iface 77 (.int .i64 2)]
set_option maxHeartbeats 1000000 in
theorem Number_calls (s : ByteArray) (hs : s.size ≤ 4000) {w : World} (E : Env w) : Calls Tryz.prog 158 #[.string s] w fun e w' => e = .returned (numV (numP s.data.toList)) ∧ Below w.heap.size w w' := by
  have hsz : s.size = s.data.toList.length := Lib.size_eq s
  have HE := Lib.hid E
  have HSZ := Lib.hid hsz
  clear E hsz
  cases ha : Lib.atoiAll s.data.toList with
  | range =>
    have HV := Lib.hid (show numP s.data.toList = none by unfold numP; rw [ha])
    obtain ⟨ev, h1, h2⟩ := HE.out.rng
    have HA := Lib.hid (Tryz.strconv_Atoi_range s (by omega) ha ev w h1 h2)
    clear ha h1 h2
    go_enter Tryz.func158, Tryz.ntmps158
    go_wp2_with fail
    refine HA.out.mono ?_
    rintro e w2 ⟨N, rfl, -, -, hb⟩
    have HB := Lib.hid hb
    clear hb
    go_wp2_with fail
    go_ret2
    exact ⟨by rw [HV.out]; rfl, HB.out⟩
  | ok v =>
    have HA := Lib.hid (Tryz.strconv_Atoi_ok s (by omega) v ha w)
    have HU := Lib.hid (show numP s.data.toList = if s.data.toList.length ≤ 10 ∧ 0 ≤ v ∧ v ≤ 2147483647 ∧ Lib.itoa v = s.data.toList then some v else none by unfold numP; rw [ha])
    clear ha
    by_cases h10 : s.size ≤ 10
    · have h10i : (s.size : Int) ≤ 10 := by omega
      by_cases h0 : 0 ≤ v
      · by_cases hm : v ≤ 2147483647
        · by_cases hi : Lib.itoa v = s.data.toList
          · have HV := Lib.hid (show numP s.data.toList = some v by rw [HU.out, if_pos ⟨by rw [← HSZ.out]; exact h10, h0, hm, hi⟩])
            have HI := Lib.hid hi
            clear hi
            go_enter Tryz.func158, Tryz.ntmps158
            go_wp2_with fail
            refine HA.out.mono ?_
            rintro e w2 ⟨rfl, hw⟩
            have hb : Below w.heap.size w w2 := by
              rcases hw with rfl | ⟨t, rfl⟩
              · exact Below.refl _ _
              · exact bytes_below (Below.refl _ _) (Nat.le_refl _) _ _
            have HB := Lib.hid hb
            clear hb hw
            go_wp2_with fail
            refine (Tryz.strconv_Itoa v (by omega) (by omega) w2 (HE.out.below HB.out).pow).mono ?_
            rintro e w3 ⟨rfl, k, os, rfl⟩
            have HB3 := Lib.hid (below_step HB.out (below_grow w2 k os))
            have hs3 : (⟨(Lib.itoa v).toArray⟩ : ByteArray) = s := by rw [HI.out]
            rw [hs3]
            clear hs3
            go_wp2_with fail
            go_ret2
            exact ⟨by rw [HV.out]; rfl, HB3.out⟩
          · have HV := Lib.hid (show numP s.data.toList = none by rw [HU.out, if_neg (fun h => hi h.2.2.2)])
            have hne : (⟨(Lib.itoa v).toArray⟩ : ByteArray) ≠ s := fun e => hi (by rw [← e])
            have HN := Lib.hid hne
            clear hi hne
            go_enter Tryz.func158, Tryz.ntmps158
            go_wp2_with fail
            refine HA.out.mono ?_
            rintro e w2 ⟨rfl, hw⟩
            have hb : Below w.heap.size w w2 := by
              rcases hw with rfl | ⟨t, rfl⟩
              · exact Below.refl _ _
              · exact bytes_below (Below.refl _ _) (Nat.le_refl _) _ _
            have HB := Lib.hid hb
            clear hb hw
            go_wp2_with fail
            refine (Tryz.strconv_Itoa v (by omega) (by omega) w2 (HE.out.below HB.out).pow).mono ?_
            rintro e w3 ⟨rfl, k, os, rfl⟩
            have HB3 := Lib.hid (below_step HB.out (below_grow w2 k os))
            obtain ⟨b3, hb3⟩ : ∃ b3, b3 = (⟨(Lib.itoa v).toArray⟩ : ByteArray) := ⟨_, rfl⟩
            rw [← hb3]
            have hne3 : b3 ≠ s := by rw [hb3]; exact HN.out
            have hne4 : (b3.toList == s.toList) = false := by rw [beq_lists]; simpa using hne3
            clear hb3
            go_wp2_with fail
            go_ret2
            exact ⟨by rw [HV.out]; rfl, HB3.out⟩
        · have HV := Lib.hid (show numP s.data.toList = none by rw [HU.out, if_neg (fun h => hm h.2.2.1)])
          have hmi : (2147483647 : Int) < v := by omega
          go_enter Tryz.func158, Tryz.ntmps158
          go_wp2_with fail
          refine HA.out.mono ?_
          rintro e w2 ⟨rfl, hw⟩
          have hb : Below w.heap.size w w2 := by
            rcases hw with rfl | ⟨t, rfl⟩
            · exact Below.refl _ _
            · exact bytes_below (Below.refl _ _) (Nat.le_refl _) _ _
          have HB := Lib.hid hb
          clear hb hw
          go_wp2_with fail
          go_ret2
          exact ⟨by rw [HV.out]; rfl, HB.out⟩
      · have HV := Lib.hid (show numP s.data.toList = none by rw [HU.out, if_neg (fun h => h0 h.2.1)])
        have hmi : v < 0 := by omega
        go_enter Tryz.func158, Tryz.ntmps158
        go_wp2_with fail
        refine HA.out.mono ?_
        rintro e w2 ⟨rfl, hw⟩
        have hb : Below w.heap.size w w2 := by
          rcases hw with rfl | ⟨t, rfl⟩
          · exact Below.refl _ _
          · exact bytes_below (Below.refl _ _) (Nat.le_refl _) _ _
        have HB := Lib.hid hb
        clear hb hw
        go_wp2_with fail
        go_ret2
        exact ⟨by rw [HV.out]; rfl, HB.out⟩
    · have HV := Lib.hid (show numP s.data.toList = none by rw [HU.out, if_neg (fun h => h10 (by rw [HSZ.out]; exact h.1))])
      have hmi : (10 : Int) < (s.size : Int) := by omega
      go_enter Tryz.func158, Tryz.ntmps158
      go_wp2_with fail
      refine HA.out.mono ?_
      rintro e w2 ⟨rfl, hw⟩
      have hb : Below w.heap.size w w2 := by
        rcases hw with rfl | ⟨t, rfl⟩
        · exact Below.refl _ _
        · exact bytes_below (Below.refl _ _) (Nat.le_refl _) _ _
      have HB := Lib.hid hb
      clear hb hw
      go_wp2_with fail
      go_ret2
      exact ⟨by rw [HV.out]; rfl, HB.out⟩
  | _ =>
    have HV := Lib.hid (show numP s.data.toList = none by unfold numP; rw [ha])
    obtain ⟨ev, h1, h2⟩ := HE.out.syn
    have HA := Lib.hid (Tryz.strconv_Atoi_syntax s (by omega) ha ev w h1 h2)
    clear ha h1 h2
    go_enter Tryz.func158, Tryz.ntmps158
    go_wp2_with fail
    refine HA.out.mono ?_
    rintro e w2 ⟨N, rfl, -, -, hb⟩
    have HB := Lib.hid hb
    clear hb
    go_wp2_with fail
    go_ret2
    exact ⟨by rw [HV.out]; rfl, HB.out⟩
end Go.Proofs.YtbfkkepdeepdeaaGreatDoor
end
section
namespace Go.Proofs.YtbfkkepdeepdeaaGreatDoor
open Go Go.RowKit Go.Proofs.YtbfkkepdeepdeaaGreatDoorW.PrintWords Go.Proofs.YtbfkkepdeepdeaaGreatDoorW.PrintLast Go.Proofs.YtbfkkepdeepdeaaGreatDoorW.PrintMore
set_option linter.unusedVariables false
set_option linter.unusedSimpArgs false
set_option maxRecDepth 100000
theorem close_index : ∀ l : List UInt8, closeL l = if 0 ≤ Lib.index l [42, 47] then some ((Lib.index l [42, 47]).toNat + 2) else none
  | [] => by rfl
  | c :: r => by
    have ih := close_index r
    have hge := Lib.index_ge r [42, 47]
    unfold Lib.index
    by_cases hp : ([42, 47] : List UInt8).isPrefixOf (c :: r) = true
    · rw [if_pos hp]
      have : ∃ t, c :: r = 42 :: 47 :: t := by
        match r, hp with
        | [], hp => simp at hp
        | d :: t, hp => simp at hp; exact ⟨t, by rw [← hp.1, ← hp.2]⟩
      obtain ⟨t, ht⟩ := this
      rw [ht]; rfl
    · rw [if_neg hp]
      have hcl : closeL (c :: r) = (closeL r).map (· + 1) := by
        rw [closeL.eq_def]
        split
        · rename_i x t e
          injection e with e1 e2
          subst e1 e2
          simp at hp
        · rename_i e
          injection e with e1 e2
          subst e2; rfl
        · rename_i e; cases e
      rw [hcl, ih]
      by_cases h1 : Lib.index r [42, 47] = -1
      · rw [h1]; rfl
      · have h0 : 0 ≤ Lib.index r [42, 47] := by omega
        have hb : (Lib.index r [42, 47] == -1) = false := by simpa using h1
        rw [if_pos h0, hb]
        simp only [Bool.false_eq_true, if_false, Option.map_some]
        rw [if_pos (by omega)]
        congr 1; omega
theorem cut_line : ∀ l : List UInt8, (Lib.cut l [10]).1.length = runL (fun c => decide (c ≠ 10)) l := by
  intro l
  have key : ∀ l : List UInt8, (0 ≤ Lib.index l [10] → (Lib.index l [10]).toNat = runL (fun c => decide (c ≠ 10)) l) ∧ (Lib.index l [10] = -1 → l.length = runL (fun c => decide (c ≠ 10)) l) ∧ runL (fun c => decide (c ≠ 10)) l ≤ l.length := by
    intro l
    induction l with
    | nil => exact ⟨fun h => by simp [Lib.index] at h, fun _ => rfl, Nat.le_refl _⟩
    | cons c r ih =>
      obtain ⟨i1, i2, i3⟩ := ih
      have hge := Lib.index_ge r [10]
      unfold Lib.index
      by_cases hc : c = 10
      · subst hc
        simp [runL]
      · have hp : ([10] : List UInt8).isPrefixOf (c :: r) = false := by
          simp only [List.isPrefixOf, Bool.and_true, beq_eq_false_iff_ne, ne_eq]
          exact fun h => hc h.symm
        have hr : runL (fun c => decide (c ≠ 10)) (c :: r) = runL (fun c => decide (c ≠ 10)) r + 1 := by
          unfold runL; rw [List.takeWhile_cons, if_pos (by simpa using hc)]; rfl
        rw [hp, hr]
        simp only [Bool.false_eq_true, if_false]
        by_cases h1 : Lib.index r [10] = -1
        · rw [h1]
          refine ⟨fun h => by simp at h, fun _ => by rw [List.length_cons, i2 h1], by rw [List.length_cons]; omega⟩
        · have hb : (Lib.index r [10] == -1) = false := by simpa using h1
          rw [hb]
          simp only [Bool.false_eq_true, if_false]
          refine ⟨fun _ => by have := i1 (by omega); omega, fun h => by omega, by rw [List.length_cons]; omega⟩
  obtain ⟨k1, k2, k3⟩ := key l
  unfold Lib.cut
  split
  · rename_i h
    simp only [List.length_take]
    rw [k1 h]; omega
  · rename_i h
    have := Lib.index_ge l [10]
    exact k2 (by omega)
theorem upto_calls (s t : ByteArray) (hs : s.size ≤ 4000) (ht : t.size ≤ 100) {w : World} (E : Env w) : Calls Tryz.prog 239 #[.string s, .string t] w fun e w' => e = .returned (.tuple #[.int .i64 (if 0 ≤ Lib.index s.data.toList t.data.toList then Lib.index s.data.toList t.data.toList + (t.size : Int) else (s.size : Int)), .bool (decide (0 ≤ Lib.index s.data.toList t.data.toList))]) ∧ w' = w := by
  obtain ⟨m, hm⟩ := E.max
  have HI := Lib.hid (Tryz.strings_Index s t m w (by omega) hm)
  have hge := Lib.index_ge s.data.toList t.data.toList
  have hle : Lib.index s.data.toList t.data.toList ≤ 4000 := by have := Lib.index_le s.data.toList t.data.toList; rw [← Lib.size_eq] at this; omega
  obtain ⟨i, hi⟩ : ∃ i, i = Lib.index s.data.toList t.data.toList := ⟨_, rfl⟩
  rw [← hi] at HI hge hle ⊢
  clear hm E hi
  by_cases h0 : 0 ≤ i
  · rw [if_pos h0, decide_eq_true h0]
    go_enter Tryz.func239, Tryz.ntmps239
    go_wp2_with fail
    refine HI.out.mono ?_
    rintro e w2 ⟨rfl, rfl⟩
    go_wp2_with fail
    go_ret2
    exact ⟨rfl, rfl⟩
  · have h1 : i < 0 := by omega
    rw [if_neg h0, decide_eq_false h0]
    go_enter Tryz.func239, Tryz.ntmps239
    go_wp2_with fail
    refine HI.out.mono ?_
    rintro e w2 ⟨rfl, rfl⟩
    go_wp2_with fail
    go_ret2
    exact ⟨rfl, rfl⟩
def noteP (l : List UInt8) : Int × Nat := if pre [47, 47] l = true then (2, runL (fun c => decide (c ≠ 10)) l) else match closeL (l.drop 2) with
  | some n => (2, n + 2)
  | none => (7, l.length)
set_option maxHeartbeats 1000000 in
theorem note_calls (s : ByteArray) (hs : s.size ≤ 4000) (h2 : 2 ≤ s.size) {w : World} (E : Env w) : Calls Tryz.prog 208 #[.string s] w fun e w' => e = .returned (.tuple #[.int .i64 (noteP s.data.toList).1, .int .i64 (noteP s.data.toList).2]) ∧ Below w.heap.size w w' := by
  have hsz : s.size = s.data.toList.length := Lib.size_eq s
  have HE := Lib.hid E
  have HSZ := Lib.hid hsz
  clear E hsz
  cases hp : Lib.hasPrefix s.data.toList [47, 47] with
  | true =>
    have HP := Lib.hid hp
    have HV := Lib.hid (show noteP s.data.toList = (2, runL (fun c => decide (c ≠ 10)) s.data.toList) by unfold noteP pre; rw [if_pos (by unfold Lib.hasPrefix at hp; exact hp)])
    clear hp
    go_enter Tryz.func208, Tryz.ntmps208
    go_wp2_with fail
    refine (Tryz.strings_HasPrefix s ⟨#[47, 47]⟩ _).mono ?_
    rw [show (⟨#[47, 47]⟩ : ByteArray).data.toList = [47, 47] from rfl, HP.out]
    rintro e w2 ⟨rfl, rfl⟩
    go_wp2_with fail
    obtain ⟨m, hm⟩ := HE.out.max
    refine (Tryz.strings_Cut s ⟨#[10]⟩ m _ (by omega) hm).mono ?_
    clear hm
    rw [show (⟨#[10]⟩ : ByteArray).data.toList = [10] from rfl]
    have HCL := Lib.hid (cut_line s.data.toList)
    obtain ⟨b3, hb3⟩ : ∃ b3, b3 = (⟨(Lib.cut s.data.toList [10]).1.toArray⟩ : ByteArray) := ⟨_, rfl⟩
    have HB3 := Lib.hid (show b3.size = runL (fun c => decide (c ≠ 10)) s.data.toList by rw [hb3, ← HCL.out]; rfl)
    rw [← hb3]
    clear hb3
    rintro e w3 ⟨rfl, n, rfl⟩
    go_wp2_with fail
    go_ret2
    exact ⟨by rw [HV.out, ← HB3.out]; rfl, below_drawn _ _⟩
  | false =>
    have HP := Lib.hid hp
    have HV := Lib.hid (show noteP s.data.toList = match closeL (s.data.toList.drop 2) with | some n => (2, n + 2) | none => (7, s.data.toList.length) by unfold noteP pre; rw [if_neg (by unfold Lib.hasPrefix at hp; rw [hp]; simp)])
    clear hp
    have hx := Lib.extract_to_end s 2
    obtain ⟨r, hr⟩ : ∃ r, r = s.extract 2 s.size := ⟨_, rfl⟩
    rw [← hr] at hx
    have hrs : r.size + 2 = s.size := by rw [Lib.size_eq r, hx, List.length_drop, ← HSZ.out]; omega
    have hci := close_index r.data.toList
    rw [hx] at hci
    have HCI := Lib.hid hci
    have HX := Lib.hid hx
    have HR := Lib.hid hr
    clear hr hx hci
    have h2i : (2 : Int) ≤ (s.size : Int) := by omega
    have hge := Lib.index_ge (s.data.toList.drop 2) [42, 47]
    obtain ⟨i, hi⟩ : ∃ i, i = Lib.index (s.data.toList.drop 2) [42, 47] := ⟨_, rfl⟩
    have HII := Lib.hid hi
    have hle : i ≤ 4000 := by rw [hi, ← HX.out]; have := Lib.index_le r.data.toList [42, 47]; rw [← Lib.size_eq] at this; omega
    rw [← hi] at HCI hge
    clear hi
    go_enter Tryz.func208, Tryz.ntmps208
    go_wp2_with fail
    refine (Tryz.strings_HasPrefix s ⟨#[47, 47]⟩ _).mono ?_
    rw [show (⟨#[47, 47]⟩ : ByteArray).data.toList = [47, 47] from rfl, HP.out]
    rintro e w2 ⟨rfl, rfl⟩
    go_wp2_with fail
    rw [← HR.out]
    refine (upto_calls r ⟨#[42, 47]⟩ (by omega) (by decide) HE.out).mono ?_
    rw [show (⟨#[42, 47]⟩ : ByteArray).data.toList = [42, 47] from rfl, HX.out, ← HII.out]
    by_cases h0 : 0 ≤ i
    · rw [if_pos h0, decide_eq_true h0]
      have HN := Lib.hid (show noteP s.data.toList = (2, i.toNat + 2 + 2) by rw [HV.out, HCI.out, if_pos h0])
      have hi2 : ((i.toNat + 2 + 2 : Nat) : Int) = 2 + (i + 2) := by omega
      have HI2 := Lib.hid hi2
      clear hi2
      rintro e w3 ⟨rfl, rfl⟩
      go_wp2_with fail
      go_ret2
      exact ⟨by rw [HN.out, HI2.out]; rfl, Below.refl _ _⟩
    · rw [if_neg h0, decide_eq_false h0]
      have HN := Lib.hid (show noteP s.data.toList = (7, s.size) by rw [HV.out, HCI.out, if_neg h0, HSZ.out])
      rintro e w3 ⟨rfl, rfl⟩
      go_wp2_with fail
      go_ret2
      exact ⟨by rw [HN.out]; rfl, Below.refl _ _⟩
end Go.Proofs.YtbfkkepdeepdeaaGreatDoor
end
section
namespace Go.Proofs.YtbfkkepdeepdeaaGreatDoor
open Go Go.RowKit Go.Proofs.YtbfkkepdeepdeaaGreatDoorW.PrintWords Go.Proofs.YtbfkkepdeepdeaaGreatDoorW.PrintLast Go.Proofs.YtbfkkepdeepdeaaGreatDoorW.PrintMore
set_option linter.unusedVariables false
set_option linter.unusedSimpArgs false
set_option maxRecDepth 100000
def printedP (l : List UInt8) : Bool := pre printL l && (l.drop 18).head?.all (fun c => !insB c)
theorem empty_false {s : ByteArray} {c : UInt8} {r : List UInt8} (h : s.data.toList = c :: r) : s.toList.isEmpty = false := by
  rw [Lib.toList_data, h]; rfl
theorem first_byte {s : ByteArray} {c : UInt8} {r : List UInt8} (h : s.data.toList = c :: r) (h0 : 0 < s.size) : s[0] = c := by
  have : s.data.toList[0]'(by rw [h]; simp) = c := by simp [h]
  rw [← this]; rfl
set_option maxHeartbeats 1000000 in
theorem printed_calls (s : ByteArray) (hs : s.size ≤ 4000) (w : World) : Calls Tryz.prog 209 #[.string s] w fun e w' => e = .returned (.bool (printedP s.data.toList)) ∧ w' = w := by
  have HC := Lib.hid (Tryz.strings_CutPrefix s ⟨#[83, 121, 115, 116, 101, 109, 46, 111, 117, 116, 46, 112, 114, 105, 110, 116, 108, 110]⟩ w)
  have hpd : (⟨#[83, 121, 115, 116, 101, 109, 46, 111, 117, 116, 46, 112, 114, 105, 110, 116, 108, 110]⟩ : ByteArray).data.toList = printL := by kernel_rfl
  rw [hpd] at HC
  cases hp : Lib.hasPrefix s.data.toList printL with
  | false =>
    have HV := Lib.hid (show printedP s.data.toList = false by unfold printedP pre; unfold Lib.hasPrefix at hp; rw [hp]; rfl)
    rw [hp] at HC
    clear hp hpd
    go_enter Tryz.func209, Tryz.ntmps209
    go_wp2_with fail
    refine HC.out.mono ?_
    rintro e w2 ⟨rfl, rfl⟩
    go_wp2_with fail
    go_ret
    exact ⟨by rw [HV.out]; rfl, rfl⟩
  | true =>
    have htr : Lib.trimPrefix s.data.toList printL = s.data.toList.drop 18 := by unfold Lib.trimPrefix; rw [if_pos hp]; rfl
    rw [hp, htr] at HC
    have HV := Lib.hid (show printedP s.data.toList = (s.data.toList.drop 18).head?.all (fun c => !insB c) by unfold printedP pre; unfold Lib.hasPrefix at hp; rw [hp]; rfl)
    clear hp hpd htr
    obtain ⟨m, hm⟩ : ∃ m : ByteArray, m = ⟨(s.data.toList.drop 18).toArray⟩ := ⟨_, rfl⟩
    have hmd : m.data.toList = s.data.toList.drop 18 := by rw [hm]
    rw [← hm] at HC
    rw [← hmd] at HV
    clear hm hmd
    cases hl : m.data.toList with
    | nil =>
      have he : m = noB := by
        have h1 : m.data = #[] := by simpa using hl
        cases m; simp only at h1; rw [h1]
      have HV2 := Lib.hid (show printedP s.data.toList = true by rw [HV.out, hl]; rfl)
      subst he
      clear hl
      go_enter Tryz.func209, Tryz.ntmps209
      go_wp2_with fail
      refine HC.out.mono ?_
      rintro e w2 ⟨rfl, rfl⟩
      go_wp2_with fail
      go_ret
      exact ⟨by rw [HV2.out]; rfl, rfl⟩
    | cons c r =>
      have hle := empty_false hl
      have h0 : 0 < m.size := by rw [Lib.size_eq, hl]; simp
      have h0i : (0 : Int) < (m.size : Int) := by omega
      have HS0 := Lib.hid (first_byte hl h0)
      have HV2 := Lib.hid (show printedP s.data.toList = !insB c by rw [HV.out, hl]; rfl)
      clear hl
      go_enter Tryz.func209, Tryz.ntmps209
      go_wp2_with fail
      refine HC.out.mono ?_
      rintro e w2 ⟨rfl, rfl⟩
      go_wp2_with fail
      rw [HS0.out]
      refine (linside_calls c _).mono ?_
      rintro e w2 ⟨rfl, rfl⟩
      go_wp2_with fail
      go_ret
      exact ⟨by rw [HV2.out]; rfl, rfl⟩
def wordP (l : List UInt8) : Int × Nat :=
  ((if keyB (l.take (runL insB l)) = true then 3 else if wordB (l.take (runL insB l)) = true then 4 else if (numP (l.take (runL insB l))).isSome = true then 5 else 7), runL insB l)
set_option maxHeartbeats 1000000 in
theorem word_calls (s : ByteArray) (hs : s.size ≤ 4000) {w : World} (E : Env w) : Calls Tryz.prog 211 #[.string s] w fun e w' => e = .returned (.tuple #[.int .i64 (wordP s.data.toList).1, .int .i64 (wordP s.data.toList).2]) ∧ Below w.heap.size w w' := by
  have HE := Lib.hid E
  have hsz : s.size = s.data.toList.length := Lib.size_eq s
  have hn := runL_le insB s.data.toList
  rw [← hsz] at hn
  obtain ⟨n, hnn⟩ : ∃ n, n = runL insB s.data.toList := ⟨_, rfl⟩
  have HN := Lib.hid hnn
  rw [← hnn] at hn
  have hni : (n : Int) ≤ (s.size : Int) := by omega
  obtain ⟨t, ht⟩ : ∃ t, t = s.extract 0 n := ⟨_, rfl⟩
  have htd : t.data.toList = s.data.toList.take n := by rw [ht, Lib.extract_data]; simp
  have HT := Lib.hid ht
  have htl : t.size ≤ 4000 := by rw [Lib.size_eq, htd, List.length_take]; omega
  have HV := Lib.hid (show wordP s.data.toList = ((if keyB t.data.toList = true then 3 else if wordB t.data.toList = true then 4 else if (numP t.data.toList).isSome = true then 5 else 7), n) by unfold wordP; rw [← hnn, htd])
  clear E hsz ht htd hnn
  go_enter Tryz.func211, Tryz.ntmps211
  go_wp2_with fail
  refine (Run_calls (p := insB) (enters_of Tryz.func210 (by kernel_rfl) rfl) linside_calls s hs _).mono ?_
  rw [← HN.out]
  rintro e w2 ⟨rfl, rfl⟩
  go_wp2_with fail
  rw [← HT.out]
  refine (Number_calls t htl HE.out).mono ?_
  cases hnum : numP t.data.toList with
  | none =>
    have HNUM := Lib.hid hnum
    clear hnum
    rintro e w3 ⟨rfl, h3⟩
    have HB3 := Lib.hid h3
    have HE3 := Lib.hid (HE.out.below h3)
    clear h3
    unfold numV
    go_wp2_with fail
    cases hk : keyB t.data.toList with
    | true =>
      have HK := Lib.hid hk
      clear hk
      have HR := Lib.hid (show wordP s.data.toList = (3, n) by rw [HV.out]; simp [HK.out])
      refine (Keyword_calls t HE3.out).mono ?_
      rw [HK.out]
      rintro e w4 ⟨rfl, rfl⟩
      go_wp2_with fail
      go_ret2
      exact ⟨by rw [HR.out]; rfl, HB3.out⟩
    | false =>
      have HK := Lib.hid hk
      clear hk
      cases hw : wordB t.data.toList with
      | true =>
        have HW := Lib.hid hw
        clear hw
        have HR := Lib.hid (show wordP s.data.toList = (4, n) by rw [HV.out]; simp [HK.out, HW.out])
        refine (Keyword_calls t HE3.out).mono ?_
        rw [HK.out]
        rintro e w4 ⟨rfl, rfl⟩
        go_wp2_with fail
        refine (Word_calls t htl _).mono ?_
        rw [HW.out]
        rintro e w5 ⟨rfl, rfl⟩
        go_wp2_with fail
        go_ret2
        exact ⟨by rw [HR.out]; rfl, HB3.out⟩
      | false =>
        have HW := Lib.hid hw
        clear hw
        have HR := Lib.hid (show wordP s.data.toList = (7, n) by rw [HV.out]; simp [HK.out, HW.out, HNUM.out])
        refine (Keyword_calls t HE3.out).mono ?_
        rw [HK.out]
        rintro e w4 ⟨rfl, rfl⟩
        go_wp2_with fail
        refine (Word_calls t htl _).mono ?_
        rw [HW.out]
        rintro e w5 ⟨rfl, rfl⟩
        go_wp2_with fail
        go_ret2
        exact ⟨by rw [HR.out]; rfl, HB3.out⟩
  | some v =>
    have HNUM := Lib.hid hnum
    clear hnum
    rintro e w3 ⟨rfl, h3⟩
    have HB3 := Lib.hid h3
    have HE3 := Lib.hid (HE.out.below h3)
    clear h3
    unfold numV
    go_wp2_with fail
    cases hk : keyB t.data.toList with
    | true =>
      have HK := Lib.hid hk
      clear hk
      have HR := Lib.hid (show wordP s.data.toList = (3, n) by rw [HV.out]; simp [HK.out])
      refine (Keyword_calls t HE3.out).mono ?_
      rw [HK.out]
      rintro e w4 ⟨rfl, rfl⟩
      go_wp2_with fail
      go_ret2
      exact ⟨by rw [HR.out]; rfl, HB3.out⟩
    | false =>
      have HK := Lib.hid hk
      clear hk
      cases hw : wordB t.data.toList with
      | true =>
        have HW := Lib.hid hw
        clear hw
        have HR := Lib.hid (show wordP s.data.toList = (4, n) by rw [HV.out]; simp [HK.out, HW.out])
        refine (Keyword_calls t HE3.out).mono ?_
        rw [HK.out]
        rintro e w4 ⟨rfl, rfl⟩
        go_wp2_with fail
        refine (Word_calls t htl _).mono ?_
        rw [HW.out]
        rintro e w5 ⟨rfl, rfl⟩
        go_wp2_with fail
        go_ret2
        exact ⟨by rw [HR.out]; rfl, HB3.out⟩
      | false =>
        have HW := Lib.hid hw
        clear hw
        have HR := Lib.hid (show wordP s.data.toList = (5, n) by rw [HV.out]; simp [HK.out, HW.out, HNUM.out])
        refine (Keyword_calls t HE3.out).mono ?_
        rw [HK.out]
        rintro e w4 ⟨rfl, rfl⟩
        go_wp2_with fail
        refine (Word_calls t htl _).mono ?_
        rw [HW.out]
        rintro e w5 ⟨rfl, rfl⟩
        go_wp2_with fail
        go_ret2
        exact ⟨by rw [HR.out]; rfl, HB3.out⟩
end Go.Proofs.YtbfkkepdeepdeaaGreatDoor
end
section
namespace Go.Proofs.YtbfkkepdeepdeaaGreatDoor
open Go Go.RowKit Go.Proofs.YtbfkkepdeepdeaaGreatDoorW.PrintWords Go.Proofs.YtbfkkepdeepdeaaGreatDoorW.PrintLast Go.Proofs.YtbfkkepdeepdeaaGreatDoorW.PrintMore
set_option linter.unusedVariables false
set_option linter.unusedSimpArgs false
set_option maxRecDepth 100000
def nextP (l : List UInt8) : Int × Nat := match l with
  | [] => (7, 1)
  | c :: _ =>
    if blankB c = true then (1, runL blankB l)
    else if pre [47, 47] l = true then noteP l
    else if pre [47, 42] l = true then noteP l
    else if printedP l = true then (3, 18)
    else if insB c = true then wordP l
    else if pre [38, 38] l = true then (6, 2)
    else if signL.contains c = true then (6, 1)
    else (7, 1)
theorem pre_two {l : List UInt8} {a b : UInt8} (h : pre [a, b] l = true) : 2 ≤ l.length := by
  unfold pre at h
  match l, h with
  | [], h => simp at h
  | [x], h => simp at h
  | x :: y :: r, h => simp
set_option maxHeartbeats 1000000 in
theorem next_calls (s : ByteArray) (hs : s.size ≤ 4000) (h0 : 0 < s.size) {w : World} (E : Env w) : Calls Tryz.prog 176 #[.string s] w fun e w' => e = .returned (.tuple #[.int .i64 (nextP s.data.toList).1, .int .i64 (nextP s.data.toList).2]) ∧ Below w.heap.size w w' := by
  have hsz : s.size = s.data.toList.length := Lib.size_eq s
  have HE := Lib.hid E
  have h0i : (0 : Int) < (s.size : Int) := by omega
  obtain ⟨c, r, hl⟩ : ∃ c r, s.data.toList = c :: r := by
    cases hl : s.data.toList with
    | nil => rw [hsz, hl] at h0; simp at h0
    | cons c r => exact ⟨c, r, rfl⟩
  have HS0 := Lib.hid (first_byte hl h0)
  have HV := Lib.hid (show nextP s.data.toList = if blankB c = true then (1, runL blankB s.data.toList) else if pre [47, 47] s.data.toList = true then noteP s.data.toList else if pre [47, 42] s.data.toList = true then noteP s.data.toList else if printedP s.data.toList = true then (3, 18) else if insB c = true then wordP s.data.toList else if pre [38, 38] s.data.toList = true then (6, 2) else if signL.contains c = true then (6, 1) else (7, 1) by rw [hl]; rfl)
  have HSZ := Lib.hid hsz
  clear E hl hsz
  cases hC1 : blankB c with
  | true =>
    have C1 := Lib.hid hC1
    clear hC1
    have HR := Lib.hid (show nextP s.data.toList = (1, runL blankB s.data.toList) by rw [HV.out, if_pos C1.out])
    go_enter Tryz.func176, Tryz.ntmps176
    go_wp2_with fail
    rw [HS0.out]
    refine (Blank_calls c _).mono ?_
    rw [C1.out]
    rintro e w2 ⟨rfl, rfl⟩
    go_wp2_with fail
    refine (Run_calls (p := blankB) (enters_of Tryz.func205 (by kernel_rfl) rfl) Blank_calls s hs _).mono ?_
    rintro e w3 ⟨rfl, rfl⟩
    go_wp2_with fail
    go_ret2
    exact ⟨by rw [HR.out]; rfl, Below.refl _ _⟩
  | false =>
    have C1 := Lib.hid hC1
    clear hC1
    cases hC2 : pre [47, 47] s.data.toList with
    | true =>
      have C2 := Lib.hid hC2
      clear hC2
      have HR := Lib.hid (show nextP s.data.toList = noteP s.data.toList by rw [HV.out, if_neg (by rw [C1.out]; simp), if_pos C2.out])
      have H2 := Lib.hid (show 2 ≤ s.size by rw [HSZ.out]; exact pre_two C2.out)
      go_enter Tryz.func176, Tryz.ntmps176
      go_wp2_with fail
      rw [HS0.out]
      refine (Blank_calls c _).mono ?_
      rw [C1.out]
      rintro e w2 ⟨rfl, rfl⟩
      go_wp2_with fail
      refine (Tryz.strings_HasPrefix s ⟨#[47, 47]⟩ _).mono ?_
      rw [show Lib.hasPrefix s.data.toList (⟨#[47, 47]⟩ : ByteArray).data.toList = pre [47, 47] s.data.toList from rfl, C2.out]
      rintro e w2 ⟨rfl, rfl⟩
      go_wp2_with fail
      refine (note_calls s hs H2.out HE.out).mono ?_
      rintro e w3 ⟨rfl, h3⟩
      have HB := Lib.hid h3
      clear h3
      go_wp2_with fail
      go_ret2
      exact ⟨by rw [HR.out]; rfl, HB.out⟩
    | false =>
      have C2 := Lib.hid hC2
      clear hC2
      cases hC3 : pre [47, 42] s.data.toList with
      | true =>
        have C3 := Lib.hid hC3
        clear hC3
        have HR := Lib.hid (show nextP s.data.toList = noteP s.data.toList by rw [HV.out, if_neg (by rw [C1.out]; simp), if_neg (by rw [C2.out]; simp), if_pos C3.out])
        have H2 := Lib.hid (show 2 ≤ s.size by rw [HSZ.out]; exact pre_two C3.out)
        go_enter Tryz.func176, Tryz.ntmps176
        go_wp2_with fail
        rw [HS0.out]
        refine (Blank_calls c _).mono ?_
        rw [C1.out]
        rintro e w2 ⟨rfl, rfl⟩
        go_wp2_with fail
        refine (Tryz.strings_HasPrefix s ⟨#[47, 47]⟩ _).mono ?_
        rw [show Lib.hasPrefix s.data.toList (⟨#[47, 47]⟩ : ByteArray).data.toList = pre [47, 47] s.data.toList from rfl, C2.out]
        rintro e w2 ⟨rfl, rfl⟩
        go_wp2_with fail
        refine (Tryz.strings_HasPrefix s ⟨#[47, 42]⟩ _).mono ?_
        rw [show Lib.hasPrefix s.data.toList (⟨#[47, 42]⟩ : ByteArray).data.toList = pre [47, 42] s.data.toList from rfl, C3.out]
        rintro e w2 ⟨rfl, rfl⟩
        go_wp2_with fail
        refine (note_calls s hs H2.out HE.out).mono ?_
        rintro e w3 ⟨rfl, h3⟩
        have HB := Lib.hid h3
        clear h3
        go_wp2_with fail
        go_ret2
        exact ⟨by rw [HR.out]; rfl, HB.out⟩
      | false =>
        have C3 := Lib.hid hC3
        clear hC3
        cases hC4 : printedP s.data.toList with
        | true =>
          have C4 := Lib.hid hC4
          clear hC4
          have HR := Lib.hid (show nextP s.data.toList = (3, 18) by rw [HV.out, if_neg (by rw [C1.out]; simp), if_neg (by rw [C2.out]; simp), if_neg (by rw [C3.out]; simp), if_pos C4.out])
          go_enter Tryz.func176, Tryz.ntmps176
          go_wp2_with fail
          rw [HS0.out]
          refine (Blank_calls c _).mono ?_
          rw [C1.out]
          rintro e w2 ⟨rfl, rfl⟩
          go_wp2_with fail
          refine (Tryz.strings_HasPrefix s ⟨#[47, 47]⟩ _).mono ?_
          rw [show Lib.hasPrefix s.data.toList (⟨#[47, 47]⟩ : ByteArray).data.toList = pre [47, 47] s.data.toList from rfl, C2.out]
          rintro e w2 ⟨rfl, rfl⟩
          go_wp2_with fail
          refine (Tryz.strings_HasPrefix s ⟨#[47, 42]⟩ _).mono ?_
          rw [show Lib.hasPrefix s.data.toList (⟨#[47, 42]⟩ : ByteArray).data.toList = pre [47, 42] s.data.toList from rfl, C3.out]
          rintro e w2 ⟨rfl, rfl⟩
          go_wp2_with fail
          refine (printed_calls s hs _).mono ?_
          rw [C4.out]
          rintro e w2 ⟨rfl, rfl⟩
          go_wp2_with fail
          go_ret2
          exact ⟨by rw [HR.out]; rfl, Below.refl _ _⟩
        | false =>
          have C4 := Lib.hid hC4
          clear hC4
          cases hC5 : insB c with
          | true =>
            have C5 := Lib.hid hC5
            clear hC5
            have HR := Lib.hid (show nextP s.data.toList = wordP s.data.toList by rw [HV.out, if_neg (by rw [C1.out]; simp), if_neg (by rw [C2.out]; simp), if_neg (by rw [C3.out]; simp), if_neg (by rw [C4.out]; simp), if_pos C5.out])
            go_enter Tryz.func176, Tryz.ntmps176
            go_wp2_with fail
            rw [HS0.out]
            refine (Blank_calls c _).mono ?_
            rw [C1.out]
            rintro e w2 ⟨rfl, rfl⟩
            go_wp2_with fail
            refine (Tryz.strings_HasPrefix s ⟨#[47, 47]⟩ _).mono ?_
            rw [show Lib.hasPrefix s.data.toList (⟨#[47, 47]⟩ : ByteArray).data.toList = pre [47, 47] s.data.toList from rfl, C2.out]
            rintro e w2 ⟨rfl, rfl⟩
            go_wp2_with fail
            refine (Tryz.strings_HasPrefix s ⟨#[47, 42]⟩ _).mono ?_
            rw [show Lib.hasPrefix s.data.toList (⟨#[47, 42]⟩ : ByteArray).data.toList = pre [47, 42] s.data.toList from rfl, C3.out]
            rintro e w2 ⟨rfl, rfl⟩
            go_wp2_with fail
            refine (printed_calls s hs _).mono ?_
            rw [C4.out]
            rintro e w2 ⟨rfl, rfl⟩
            go_wp2_with fail
            refine (linside_calls c _).mono ?_
            rw [C5.out]
            rintro e w2 ⟨rfl, rfl⟩
            go_wp2_with fail
            refine (word_calls s hs HE.out).mono ?_
            rintro e w3 ⟨rfl, h3⟩
            have HB := Lib.hid h3
            clear h3
            go_wp2_with fail
            go_ret2
            exact ⟨by rw [HR.out]; rfl, HB.out⟩
          | false =>
            have C5 := Lib.hid hC5
            clear hC5
            cases hC6 : pre [38, 38] s.data.toList with
            | true =>
              have C6 := Lib.hid hC6
              clear hC6
              have HR := Lib.hid (show nextP s.data.toList = (6, 2) by rw [HV.out, if_neg (by rw [C1.out]; simp), if_neg (by rw [C2.out]; simp), if_neg (by rw [C3.out]; simp), if_neg (by rw [C4.out]; simp), if_neg (by rw [C5.out]; simp), if_pos C6.out])
              go_enter Tryz.func176, Tryz.ntmps176
              go_wp2_with fail
              rw [HS0.out]
              refine (Blank_calls c _).mono ?_
              rw [C1.out]
              rintro e w2 ⟨rfl, rfl⟩
              go_wp2_with fail
              refine (Tryz.strings_HasPrefix s ⟨#[47, 47]⟩ _).mono ?_
              rw [show Lib.hasPrefix s.data.toList (⟨#[47, 47]⟩ : ByteArray).data.toList = pre [47, 47] s.data.toList from rfl, C2.out]
              rintro e w2 ⟨rfl, rfl⟩
              go_wp2_with fail
              refine (Tryz.strings_HasPrefix s ⟨#[47, 42]⟩ _).mono ?_
              rw [show Lib.hasPrefix s.data.toList (⟨#[47, 42]⟩ : ByteArray).data.toList = pre [47, 42] s.data.toList from rfl, C3.out]
              rintro e w2 ⟨rfl, rfl⟩
              go_wp2_with fail
              refine (printed_calls s hs _).mono ?_
              rw [C4.out]
              rintro e w2 ⟨rfl, rfl⟩
              go_wp2_with fail
              refine (linside_calls c _).mono ?_
              rw [C5.out]
              rintro e w2 ⟨rfl, rfl⟩
              go_wp2_with fail
              refine (Tryz.strings_HasPrefix s ⟨#[38, 38]⟩ _).mono ?_
              rw [show Lib.hasPrefix s.data.toList (⟨#[38, 38]⟩ : ByteArray).data.toList = pre [38, 38] s.data.toList from rfl, C6.out]
              rintro e w2 ⟨rfl, rfl⟩
              go_wp2_with fail
              go_ret2
              exact ⟨by rw [HR.out]; rfl, Below.refl _ _⟩
            | false =>
              have C6 := Lib.hid hC6
              clear hC6
              cases hC7 : signL.contains c with
              | true =>
                have C7 := Lib.hid hC7
                clear hC7
                have HR := Lib.hid (show nextP s.data.toList = (6, 1) by rw [HV.out, if_neg (by rw [C1.out]; simp), if_neg (by rw [C2.out]; simp), if_neg (by rw [C3.out]; simp), if_neg (by rw [C4.out]; simp), if_neg (by rw [C5.out]; simp), if_neg (by rw [C6.out]; simp), if_pos C7.out])
                obtain ⟨ix, hix⟩ : ∃ ix, ix = Lib.indexByte [123, 125, 40, 41, 91, 93, 59, 44, 46, 61, 60, 43, 45, 42, 33] c := ⟨_, rfl⟩
                have HIX := Lib.hid hix
                have hixv : 0 ≤ ix := by have := sign_idx c; rw [C7.out, ← hix] at this; simpa using this
                clear hix
                go_enter Tryz.func176, Tryz.ntmps176
                go_wp2_with fail
                rw [HS0.out]
                refine (Blank_calls c _).mono ?_
                rw [C1.out]
                rintro e w2 ⟨rfl, rfl⟩
                go_wp2_with fail
                refine (Tryz.strings_HasPrefix s ⟨#[47, 47]⟩ _).mono ?_
                rw [show Lib.hasPrefix s.data.toList (⟨#[47, 47]⟩ : ByteArray).data.toList = pre [47, 47] s.data.toList from rfl, C2.out]
                rintro e w2 ⟨rfl, rfl⟩
                go_wp2_with fail
                refine (Tryz.strings_HasPrefix s ⟨#[47, 42]⟩ _).mono ?_
                rw [show Lib.hasPrefix s.data.toList (⟨#[47, 42]⟩ : ByteArray).data.toList = pre [47, 42] s.data.toList from rfl, C3.out]
                rintro e w2 ⟨rfl, rfl⟩
                go_wp2_with fail
                refine (printed_calls s hs _).mono ?_
                rw [C4.out]
                rintro e w2 ⟨rfl, rfl⟩
                go_wp2_with fail
                refine (linside_calls c _).mono ?_
                rw [C5.out]
                rintro e w2 ⟨rfl, rfl⟩
                go_wp2_with fail
                refine (Tryz.strings_HasPrefix s ⟨#[38, 38]⟩ _).mono ?_
                rw [show Lib.hasPrefix s.data.toList (⟨#[38, 38]⟩ : ByteArray).data.toList = pre [38, 38] s.data.toList from rfl, C6.out]
                rintro e w2 ⟨rfl, rfl⟩
                go_wp2_with fail
                refine (Tryz.strings_IndexByte ⟨#[123, 125, 40, 41, 91, 93, 59, 44, 46, 61, 60, 43, 45, 42, 33]⟩ (c.toNat : Int) _).mono ?_
                rw [show Lib.indexByte (⟨#[123, 125, 40, 41, 91, 93, 59, 44, 46, 61, 60, 43, 45, 42, 33]⟩ : ByteArray).data.toList ((c.toNat : Int)).toNat.toUInt8 = ix from by rw [HIX.out]; simp]
                rintro e w2 ⟨rfl, rfl⟩
                go_wp2_with fail
                go_ret2
                exact ⟨by rw [HR.out]; rfl, Below.refl _ _⟩
              | false =>
                have C7 := Lib.hid hC7
                clear hC7
                have HR := Lib.hid (show nextP s.data.toList = (7, 1) by rw [HV.out, if_neg (by rw [C1.out]; simp), if_neg (by rw [C2.out]; simp), if_neg (by rw [C3.out]; simp), if_neg (by rw [C4.out]; simp), if_neg (by rw [C5.out]; simp), if_neg (by rw [C6.out]; simp), if_neg (by rw [C7.out]; simp)])
                obtain ⟨ix, hix⟩ : ∃ ix, ix = Lib.indexByte [123, 125, 40, 41, 91, 93, 59, 44, 46, 61, 60, 43, 45, 42, 33] c := ⟨_, rfl⟩
                have HIX := Lib.hid hix
                have hixv : ix < 0 := by have := sign_idx c; rw [C7.out, ← hix] at this; simpa using this
                clear hix
                go_enter Tryz.func176, Tryz.ntmps176
                go_wp2_with fail
                rw [HS0.out]
                refine (Blank_calls c _).mono ?_
                rw [C1.out]
                rintro e w2 ⟨rfl, rfl⟩
                go_wp2_with fail
                refine (Tryz.strings_HasPrefix s ⟨#[47, 47]⟩ _).mono ?_
                rw [show Lib.hasPrefix s.data.toList (⟨#[47, 47]⟩ : ByteArray).data.toList = pre [47, 47] s.data.toList from rfl, C2.out]
                rintro e w2 ⟨rfl, rfl⟩
                go_wp2_with fail
                refine (Tryz.strings_HasPrefix s ⟨#[47, 42]⟩ _).mono ?_
                rw [show Lib.hasPrefix s.data.toList (⟨#[47, 42]⟩ : ByteArray).data.toList = pre [47, 42] s.data.toList from rfl, C3.out]
                rintro e w2 ⟨rfl, rfl⟩
                go_wp2_with fail
                refine (printed_calls s hs _).mono ?_
                rw [C4.out]
                rintro e w2 ⟨rfl, rfl⟩
                go_wp2_with fail
                refine (linside_calls c _).mono ?_
                rw [C5.out]
                rintro e w2 ⟨rfl, rfl⟩
                go_wp2_with fail
                refine (Tryz.strings_HasPrefix s ⟨#[38, 38]⟩ _).mono ?_
                rw [show Lib.hasPrefix s.data.toList (⟨#[38, 38]⟩ : ByteArray).data.toList = pre [38, 38] s.data.toList from rfl, C6.out]
                rintro e w2 ⟨rfl, rfl⟩
                go_wp2_with fail
                refine (Tryz.strings_IndexByte ⟨#[123, 125, 40, 41, 91, 93, 59, 44, 46, 61, 60, 43, 45, 42, 33]⟩ (c.toNat : Int) _).mono ?_
                rw [show Lib.indexByte (⟨#[123, 125, 40, 41, 91, 93, 59, 44, 46, 61, 60, 43, 45, 42, 33]⟩ : ByteArray).data.toList ((c.toNat : Int)).toNat.toUInt8 = ix from by rw [HIX.out]; simp]
                rintro e w2 ⟨rfl, rfl⟩
                go_wp2_with fail
                go_ret2
                exact ⟨by rw [HR.out]; rfl, Below.refl _ _⟩
end Go.Proofs.YtbfkkepdeepdeaaGreatDoor
end
section
namespace Go.Proofs.YtbfkkepdeepdeaaGreatDoor
open Go Go.RowKit Go.Maps Go.Shelf Go.Proofs.YtbfkkepdeepdeaaGreatDoorW.PrintWords Go.Proofs.YtbfkkepdeepdeaaGreatDoorW.PrintLast Go.Proofs.YtbfkkepdeepdeaaGreatDoorW.PrintMore
set_option linter.unusedVariables false
set_option linter.unusedSimpArgs false
set_option maxRecDepth 100000
attribute [local go_sem] Oper.semAt_some
def toksG : Nat → Nat → List UInt8 → List Tok
  | 0, _, _ => []
  | f + 1, p, l => match l with
    | [] => []
    | c :: r => ⟨(nextP (c :: r)).1, p, p + (nextP (c :: r)).2⟩ :: toksG f (p + (nextP (c :: r)).2) ((c :: r).drop (nextP (c :: r)).2)
def toksP (s : ByteArray) : List Tok := toksG s.size 0 s.data.toList
abbrev tokV (t : Tok) : Value := .agg #[.int .i64 t.kind, .int .i64 t.fr, .int .i64 t.to]
theorem closeL_le : ∀ (l : List UInt8) (n : Nat), closeL l = some n → n ≤ l.length
  | [], n, h => by simp [closeL] at h
  | c :: r, n, h => by
    rw [closeL.eq_def] at h
    split at h
    · rename_i t e; injection h with h; rw [e]; simp; omega
    · rename_i x t ht e
      injection e with e1 e2
      subst e1 e2
      cases hr : closeL r with
      | none => rw [hr] at h; cases h
      | some m => rw [hr] at h; simp only [Option.map_some, Option.some.injEq] at h; have := closeL_le r m hr; simp only [List.length_cons]; omega
    · cases h
theorem pre_len {p l : List UInt8} (h : pre p l = true) : p.length ≤ l.length := by
  unfold pre at h
  exact (List.isPrefixOf_iff_prefix.1 h).length_le
theorem runL_one {p : UInt8 → Bool} {c : UInt8} {r : List UInt8} (h : p c = true) : 1 ≤ runL p (c :: r) := by
  unfold runL; rw [List.takeWhile_cons, if_pos h]; simp
theorem noteP_len {l : List UInt8} (h2 : 2 ≤ l.length) (h : pre [47, 47] l = true ∨ pre [47, 42] l = true) : 1 ≤ (noteP l).2 ∧ (noteP l).2 ≤ l.length := by
  unfold noteP
  split
  · rename_i h1
    refine ⟨?_, runL_le _ _⟩
    cases l with
    | nil => simp at h2
    | cons c r =>
      unfold pre at h1
      simp at h1
      refine runL_one ?_
      rw [← h1.1]; decide
  · split
    · rename_i n hn
      have := closeL_le _ _ hn
      simp only [List.length_drop] at this
      exact ⟨by simp, by simp only; omega⟩
    · exact ⟨by simp only; omega, Nat.le_refl _⟩
theorem nextP_len (c : UInt8) (r : List UInt8) : 1 ≤ (nextP (c :: r)).2 ∧ (nextP (c :: r)).2 ≤ (c :: r).length := by
  unfold nextP
  simp only
  split
  · rename_i h; exact ⟨runL_one h, runL_le _ _⟩
  · split
    · rename_i h; exact noteP_len (pre_two h) (.inl h)
    · split
      · rename_i h; exact noteP_len (pre_two h) (.inr h)
      · split
        · rename_i h
          unfold printedP at h
          rw [Bool.and_eq_true] at h
          have := pre_len h.1
          exact ⟨by decide, Nat.le_trans (by decide) this⟩
        · split
          · rename_i h; exact ⟨runL_one h, runL_le _ _⟩
          · split
            · rename_i h; have := pre_len h; exact ⟨by decide, this⟩
            · split
              · exact ⟨Nat.le_refl _, by simp⟩
              · exact ⟨Nat.le_refl _, by simp⟩
structure But (n₀ : Nat) (H : List Nat) (A B : World) : Prop where
  os : B.os = A.os
  tape : B.tape = A.tape
  output : B.output = A.output
  size : A.heap.size ≤ B.heap.size
  block : ∀ k, k < n₀ → k ∉ H → B.heap[k]? = A.heap[k]?
theorem But.trans {n₀ : Nat} {H : List Nat} {A B C : World} (h : But n₀ H A B) (k : But n₀ H B C) : But n₀ H A C :=
  ⟨k.os.trans h.os, k.tape.trans h.tape, k.output.trans h.output, Nat.le_trans h.size k.size, fun i hi hb => (k.block i hi hb).trans (h.block i hi hb)⟩
theorem But.of_below {n₀ B0 : Nat} {H : List Nat} {A B : World} (h : Below B0 A B) (hn : n₀ ≤ B0) : But n₀ H A B := ⟨h.os, h.tape, h.output, h.size, fun k hk _ => h.block k (Nat.lt_of_lt_of_le hk hn)⟩
theorem But.refl (n₀ : Nat) (H : List Nat) (A : World) : But n₀ H A A := ⟨rfl, rfl, rfl, Nat.le_refl _, fun _ _ _ => rfl⟩
theorem But.cell {n₀ : Nat} {H : List Nat} {A B : World} (h : But n₀ H A B) {g o : Nat} (hg : g < n₀) (hb : g ∉ H) : B.cell? ⟨g, o, none⟩ = A.cell? ⟨g, o, none⟩ := by simp [World.cell?, h.block g hg hb]
theorem But.env {n₀ : Nat} {H : List Nat} {A B : World} (h : But n₀ H A B) (E : Env A) (h0 : 4 < n₀) (hH : ∀ k, k ∈ H → 4 < k) : Env B := E.move (fun k hk => h.block k (by omega) (fun e => by have := hH k e; omega))
theorem But.putObj {n₀ : Nat} {H : List Nat} (W : World) (l : Nat) (o : Obj) (hl : n₀ ≤ l) : But n₀ H W (W.putObj l o) :=
  ⟨rfl, rfl, rfl, by simp, fun k hk _ => World.putObj_heap_other (by omega)⟩
theorem All_calls {w : World} (s : ByteArray) :
    Calls Tryz.prog 147 #[.string s] w fun e w' => e = .returned (.func (.func 175) #[] #[.pointer (some ⟨w.heap.size, 0, none⟩)]) ∧ w' = w.alloc (.cells #[.string s] 9) := by
  go_enter Tryz.func147, Tryz.ntmps147
  go_wp2
  go_ret
  exact ⟨rfl, rfl⟩
theorem grown_under {w w' : World} (h : Below w.heap.size w w') : w.grownBy w' none := ⟨h.os, h.tape, h.output, h.size, fun k hk _ => h.block k hk⟩
set_option maxHeartbeats 2000000 in
theorem toks_in (n : Nat) (hn : 1 ≤ n) (l bs n₀ : Nat) (H : List Nat) (s : ByteArray) (hs : s.size ≤ 4000) (J Jx : List Tok → World → Prop) (W : World) (hJ : AbidesFrom W.heap.size J)
    (hY : ∀ pre x W, J pre W → pre.length < 4001 → YieldAt Fence.wide (n - 1) Tryz.prog l #[tokV x] W fun e W' =>
      (e = .returned (.bool true) ∧ J (pre ++ [x]) W' ∧ But n₀ H W W') ∨ (e = .returned (.bool false) ∧ Jx (pre ++ [x]) W'))
    (hn0 : n₀ ≤ W.heap.size) (hb : W.cell? ⟨bs, 0, none⟩ = some (.string s)) (hbs : bs < n₀) (ebs : bs ∉ H) (E : ∀ W', But n₀ H W W' → Env W') (h0 : J [] W) :
    CallsIn Fence.wide n Tryz.prog 175 #[.func (.yield l) #[] #[], .pointer (some ⟨bs, 0, none⟩)] W fun e W' => (∃ v, e = .returned v) ∧
      ((∃ ys, ys = toksP s ∧ J ys W') ∨ (∃ pre, pre <+: toksP s ∧ Jx pre W')) := by
  have HE := Lib.hid E
  have hJ' : ∀ pre A B, J pre A → Below A.heap.size A B → J pre B := fun pre A B h1 h2 => hJ pre A B none h1 (grown_under h2) (fun r e => by cases e)
  have HJ := Lib.hid hJ'
  have HY := Lib.hid hY
  clear hJ hJ' hY E
  refine callsIn_of_wp Tryz.func175 rfl trivial ?_ rfl
  simp only [Tryz.ntmps175, List.size_toArray, List.length_cons, List.length_nil, Nat.reduceAdd, Nat.reduceSub, Array.replicate_succ, Array.replicate_zero, List.push_toArray, List.append_toArray, List.nil_append, List.cons_append]
  gi_wp2
  gi_loopw [3] (fun i wr => ∃ (p f : Nat) (pre : List Tok), i = .int .i64 p ∧ p ≤ s.size ∧ s.size ≤ p + f ∧ pre.length ≤ p ∧ Hid (toksP s = pre ++ toksG f p (s.data.toList.drop p)) ∧ J pre wr ∧ Hid (But n₀ H W wr)) (fun i _ => s.size - (intOf i).toNat)
  case atStart => exact ⟨0, s.size, [], rfl, Nat.zero_le _, by omega, Nat.le_refl _, rfl, h0, But.refl _ _ _⟩
  case round =>
    obtain ⟨p, f, pre, rfl, hp, hf, hpl, hq, hJs, hnx⟩ := hrel
    have hct := (hnx.out.cell (o := 0) hbs ebs).trans hb
    by_cases hlt : p < s.size
    · obtain ⟨r, hr⟩ : ∃ r, r = s.extract p s.size := ⟨_, rfl⟩
      have hrd : r.data.toList = s.data.toList.drop p := by rw [hr]; exact Lib.extract_to_end s p
      have hrs : r.size = s.size - p := by rw [Lib.size_eq, hrd, List.length_drop, ← Lib.size_eq]
      have HR := Lib.hid hr
      have hlti : (p : Int) < (s.size : Int) := by omega
      have hpi : (p : Int) ≤ (s.size : Int) := by omega
      obtain ⟨g, rfl⟩ : ∃ g, f = g + 1 := ⟨f - 1, by omega⟩
      obtain ⟨q, hqq⟩ : ∃ q, q = nextP r.data.toList := ⟨_, rfl⟩
      have hcr : ∃ c r', s.data.toList.drop p = c :: r' := by
        cases hd : s.data.toList.drop p with
        | nil => rw [← hrd] at hd; have := Lib.size_eq r; rw [hd, List.length_nil] at this; omega
        | cons c r' => exact ⟨c, r', rfl⟩
      have HQ := Lib.hid (show toksP s = (pre ++ [⟨q.1, p, p + q.2⟩]) ++ toksG g (p + q.2) (s.data.toList.drop (p + q.2)) by
        rw [hq.out]
        obtain ⟨c, r', hd⟩ := hcr
        rw [hqq, hrd, hd]
        conv => lhs; unfold toksG
        simp only [List.append_assoc, List.singleton_append]
        rw [← hd, List.drop_drop])
      have hql : 1 ≤ q.2 ∧ q.2 ≤ s.size - p := by
        obtain ⟨c, r', hd⟩ := hcr
        have := nextP_len c r'
        rw [hqq, hrd, hd]
        rw [← hd, List.length_drop, ← Lib.size_eq] at this
        rw [hd] at this
        exact this
      obtain ⟨q1, q2⟩ := q
      simp only at HQ hql
      have HQQ := Lib.hid hqq
      have HQP := Lib.hid (show toksP s = (pre ++ [⟨q1, p, p + q2⟩]) ++ toksG g (p + q2) (s.data.toList.drop (p + q2)) from HQ.out)
      clear hr hrd hcr hq hqq HQ
      gi_wp2_with (refine ⟨trivial, ?_⟩; gi_at_call 176; rw [← HR.out]; refine (callsIn_wide.2 (next_calls r (by omega) (by omega) (HE.out _ hnx.out))).mono ?_; rw [← HQQ.out]; rintro e w2 ⟨rfl, hB2⟩; (have hJ2 := HJ.out _ _ _ hJs hB2); (obtain ⟨fn, tmps, assign, body, hy, hR⟩ := HY.out _ ⟨q1, p, p + q2⟩ w2 hJ2 (by omega)))
      have HB3 := Lib.hid (hnx.out.trans (But.of_below hB2 (Nat.le_trans hn0 hnx.out.size)))
      clear hB2 hJ2
      refine hR.mono ?_
      rintro e W3 (⟨rfl, hJ3, hk3⟩ | ⟨rfl, hJx3⟩)
      · gi_wp2
        go_roundw
        case rel => exact ⟨p + q2, g, _, by simp, by omega, by omega, by simp; omega, HQP, hJ3, HB3.out.trans hk3⟩
        case measure => simp [intOf]; omega
      · gi_wp2
        refine bodyPost_ret (results_none rfl _ _ _) rfl ?_
        exact ⟨⟨_, rfl⟩, .inr ⟨_, ⟨_, HQP.out.symm⟩, hJx3⟩⟩
    · obtain rfl : p = s.size := by omega
      have hge : (s.size : Int) ≤ (s.size : Int) := Int.le_refl _
      have HT := Lib.hid (show toksP s = pre by
        rw [hq.out]
        have hd : s.data.toList.drop s.size = [] := by rw [List.drop_eq_nil_iff, ← Lib.size_eq]; exact Nat.le_refl _
        rw [hd]
        cases f <;> simp [toksG])
      clear hq
      gi_wp2
      go_end0
      exact ⟨⟨_, rfl⟩, .inl ⟨_, rfl, by rw [HT.out]; exact hJs⟩⟩
theorem toks_stops {n : Nat} (hn : 1 ≤ n) {w : World} {bs : Nat} {H : List Nat} {s : ByteArray} (hs : s.size ≤ 4000) (E : ∀ W', But w.heap.size H w W' → Env W') (hb : w.cell? ⟨bs, 0, none⟩ = some (.string s)) (hbs : bs < w.heap.size) (ebs : bs ∉ H) :
    SeqStopsK Fence.wide n Tryz.prog 175 #[.pointer (some ⟨bs, 0, none⟩)] (fun x : Tok => #[tokV x]) (But w.heap.size H) (fun ys => ys = toksP s) (fun pre => pre <+: toksP s) 4001 w := fun l J Jx W hW hJ _ hY h0 => by
  refine (toks_in n hn l bs w.heap.size H s hs J Jx W hJ hY hW.size ((hW.cell (p := ⟨bs, 0, none⟩) hbs).trans hb) hbs ebs (fun W' h' => E W' ((But.of_below hW (Nat.le_refl _)).trans h')) h0).mono ?_
  rintro e W' ⟨he, ⟨ys, rfl, hj⟩ | ⟨pre, hpre, hx⟩⟩
  · exact ⟨he, .inl ⟨_, rfl, hj⟩⟩
  · exact ⟨he, .inr ⟨_, hpre, hx⟩⟩
end Go.Proofs.YtbfkkepdeepdeaaGreatDoor
end
