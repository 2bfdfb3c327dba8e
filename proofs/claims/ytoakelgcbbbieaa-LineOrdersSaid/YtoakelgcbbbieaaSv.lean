/- The statement LineOrders, walked: for any heads and any three numbers. -/
import Derived.Test.YtoakelgcbbbieaaSu
import Derived.Laws.Bits64
namespace Go.Proofs.Ytoakelgcbbbieaa
open Go.RowKit Go.Maps Go.Shelf Go.Proofs.YtoakelgcbbbieaaW.PrintWords Go.Proofs.YtoakelgcbbbieaaW.PrintLast Go.Proofs.YtoakelgcbbbieaaW.PrintMore
set_option linter.unusedVariables false
set_option linter.unusedSimpArgs false
set_option maxRecDepth 100000
attribute [local go_sem] Oper.semAt_some
attribute [local go_sem ↓] Go.wp_at_zero Go.wp_at_succ

theorem res12 {tmps : Array Value} {W : World} {b : Nat} {v : Bool} (h : tmps.getD 4 undef = .pointer (some ⟨b, 0, none⟩)) (hc : W.cell? ⟨b, 0, none⟩ = some (.bool v)) : (results Try.f12 tmps).run Try.prog W = .ok (.bool v) W := by
  have h' : tmps[4]?.getD undef = .pointer (some ⟨b, 0, none⟩) := by simpa using h
  simp [results, Try.results12, h', go_sem, hc]

theorem pick_lt (a : Int) {n : Nat} (h0 : ¬ n = 0) (h : n ≤ 31) : ∃ k : Nat, k < n ∧ wrap64 ((IntKind.u64.wrap a).tmod n) = (k : Int) := by
  have h1 := wrap_u64_nonneg a
  have e : (IntKind.u64.wrap a).tmod n = (IntKind.u64.wrap a) % n := Int.tmod_eq_emod_of_nonneg h1
  have h2 : 0 ≤ (IntKind.u64.wrap a) % (n : Int) := Int.emod_nonneg _ (by omega)
  have h3 : (IntKind.u64.wrap a) % (n : Int) < n := Int.emod_lt_of_pos _ (by omega)
  refine ⟨((IntKind.u64.wrap a) % (n : Int)).toNat, by omega, ?_⟩
  rw [e]
  generalize (IntKind.u64.wrap a) % (n : Int) = r at h2 h3
  unfold wrap64
  omega

/-- without a circular class two that are below one another are one -/
theorem noback {xs : List S124} {n ka kb : Nat} (hr : false = (List.range n).any (fun i => circB xs (i : Int))) (hka : ka < n) (hab : belowB xs (ka : Int) (kb : Int) = true) (hne : ¬ ka = kb) : belowB xs (kb : Int) (ka : Int) = false := by
  have hc : circB xs (ka : Int) = false := by
    have := List.any_eq_false.1 hr.symm ka (List.mem_range.2 hka)
    simpa using this
  cases h : belowB xs (kb : Int) (ka : Int)
  · rfl
  · exact absurd (belowB_antisymm hc hab h) hne

set_option maxHeartbeats 4000000 in
theorem LineOrders_walk {w : World} {A : Option Addr} {n c : Nat} {hs : List S129} (h : Kd.C k129 w A n hs) (hn : ∀ x ∈ hs, okHead x) (a b d : Int) :
    Calls Try.prog 12 #[.slice A n c, .agg #[.int .i64 a, .int .i64 b, .int .i64 d]] w fun e w' => e = .returned (.bool true) ∧ Below w.heap.size w w' := by
  obtain rfl := C_len h
  have H := Lib.hid h
  have HN := Lib.hid hn
  clear h hn
  refine (callsIn_wide (n := 3)).1 ?_
  refine callsIn_of_wp_marks Try.func12 rfl trivial ?_ rfl
  simp only [Try.ntmps12, List.size_toArray, List.length_cons, List.length_nil, Nat.reduceAdd, Nat.reduceSub, Array.replicate_succ, Array.replicate_zero, List.push_toArray, List.append_toArray, List.nil_append, List.cons_append]
  refine wpIn_wide.2 ?_
  go_wp2_with fail
  obtain ⟨w0, hw0⟩ : ∃ w0, w0 = (w.alloc (.cells #[.int .i64 a, .int .i64 b, .int .i64 d] 125)).alloc (.cells #[.bool false] 4) := ⟨_, rfl⟩
  have HK3 := Lib.hid (show w0.heap[w.heap.size]? = some (.cells #[.int .i64 a, .int .i64 b, .int .i64 d] 125 (0, 0)) by rw [hw0]; exact (Below.heap_alloc _ _ _ (by simp)).trans (heap_alloc_new w _))
  have HK4 := Lib.hid (show w0.heap[w.heap.size + 1]? = some (.cells #[.bool false] 4 (0, 0)) by
    rw [hw0]
    have := heap_alloc_new (w.alloc (.cells #[.int .i64 a, .int .i64 b, .int .i64 d] 125)) (.cells #[.bool false] 4)
    rwa [World.size_alloc] at this)
  have HS0 := Lib.hid (show w0.heap.size = w.heap.size + 2 by rw [hw0]; simp)
  have HB0 := Lib.hid (show Below w.heap.size w w0 by rw [hw0]; exact ((Below.refl _ _).alloc (Nat.le_refl _) _).alloc (by simp) _)
  rw [← hw0]
  clear hw0
  -- how it ends: the result's box is set
  have HEND := Lib.hid (show ∀ W, Below w0.heap.size w0 W → W.cell? ⟨w.heap.size + 1, 0, none⟩ = some (.bool false) ∧ W.frozen? ⟨w.heap.size + 1, 0, none⟩ = false ∧ Below w.heap.size w (W.setCell ⟨w.heap.size + 1, 0, none⟩ (.bool true)) from fun W h => by
    have h1 := (h.block (w.heap.size + 1) (by rw [HS0.out]; omega)).trans HK4.out
    exact ⟨(cell_blk h1 0).trans rfl, frozen_blk h1 0, (HB0.out.trans (h.mono HB0.out.size)).setCell (p := ⟨w.heap.size + 1, 0, none⟩) (by show w.heap.size ≤ w.heap.size + 1; omega) _⟩)
  refine (alive15_calls _).mono ?_
  rintro e w1 ⟨rfl, hb1⟩
  have HB1 := Lib.hid hb1
  have hk3 := (hb1.block w.heap.size (by rw [HS0.out]; omega)).trans HK3.out
  have c0 : w1.cell? ⟨w.heap.size, 0, none⟩ = some (.int .i64 a) := (cell_blk hk3 0).trans rfl
  have c1 : w1.cell? ⟨w.heap.size, 1, none⟩ = some (.int .i64 b) := (cell_blk hk3 1).trans rfl
  have c2 : w1.cell? ⟨w.heap.size, 2, none⟩ = some (.int .i64 d) := (cell_blk hk3 2).trans rfl
  clear hb1 hk3
  go_wp2_with fail
  go_quiet (fail)
  have hb1 := pw_below_drewN HB1.out nq
  generalize w1.drewN nq = w1' at hb1 ⊢
  have HB1 := Lib.hid hb1
  clear hb1 c0 c1 c2
  go_wp2_with fail
  refine (large15_calls (Kd.C_below H.out (HB0.out.trans (HB1.out.mono HB0.out.size)))).mono ?_
  rintro e w2 ⟨L, rfl, hL, hb2⟩
  have HB2 := Lib.hid (HB1.out.trans (hb2.mono HB1.out.size))
  have HL := Lib.hid hL
  clear hb2 hL
  cases L
  · by_cases hl0 : hs.length = 0
    · obtain ⟨r0, z0, hbel⟩ := HEND.out w2 HB2.out
      have hz : ((hs.length : Int) == 0) = true := by rw [hl0]; rfl
      have HBL := Lib.hid hbel
      clear hbel
      go_wp2
      refine ⟨_, res12 rfl (World.cell?_setCell_same' _ _ _ (by rw [r0]; rfl)), rfl, HBL.out⟩
    · have hz : ((hs.length : Int) == 0) = false := by simpa using hl0
      go_wp2_with fail
      refine (Tables_calls (Kd.C_below H.out (HB0.out.trans (HB2.out.mono HB0.out.size))) (by have := HL.out trivial; omega) (fun x hx => ⟨(HN.out x hx).1, (HN.out x hx).2.1⟩)).mono ?_
      rintro e w3 ⟨tb, R, dR, rfl, hT, hd, hR, hb3⟩
      have HT := Lib.hid hT
      have HEL := Lib.hid (show (entsH hs).length = hs.length from entsH_len hs)
      have HB3 := Lib.hid (HB2.out.trans (hb3.mono HB2.out.size))
      clear hT hR hb3 hd
      go_wp2_with (go_at_call 58; refine (Len_calls HT.out).mono ?_; rintro e w4 ⟨rfl, rfl⟩; rw [HEL.out])
      have hll := HL.out trivial
      have hu : IntKind.u64.wrap (hs.length : Int) = (hs.length : Int) := by rw [IntKind.wrap_u64]; omega
      clear hll
      go_quiet (fail)
      obtain ⟨ka, hka, ea⟩ := pick_lt a hl0 (HL.out trivial)
      obtain ⟨kb, hkb, eb⟩ := pick_lt b hl0 (HL.out trivial)
      obtain ⟨kd, hkd, ed⟩ := pick_lt d hl0 (HL.out trivial)
      rw [ea, eb, ed]
      have hB4 := pw_below_drewN HB3.out nq
      have hT4 := HT.out.later (pw_below_drewN (Below.refl _ _) nq)
      generalize w3.drewN nq = w4 at hB4 hT4 ⊢
      have HB4 := Lib.hid hB4
      have HT4 := Lib.hid hT4
      have hla := HL.out trivial
      clear hB4 hT4 ea eb ed hu
      go_wp2_with fail
      go_loopw [10, 11, 69] (fun v10 v11 v69 wr => ∃ k : Nat, k ≤ hs.length ∧ v69 = .int .i64 k ∧ (∃ r, v10 = .bool r ∧ Hid (r = (List.range k).any (fun i => circB (entsH hs) (i : Int)))) ∧ Hid (Below w4.heap.size w4 wr)) (fun v10 v11 v69 wr => hs.length - (intOf v69).toNat)
      case atStart => exact ⟨0, Nat.zero_le _, rfl, ⟨_, rfl, rfl⟩, Below.refl _ _⟩
      case round =>
        obtain ⟨k, hk, rfl, ⟨r, rfl, hr⟩, hBr⟩ := hrel
        by_cases hlt : k < hs.length
        · have HR := Lib.hid (show (List.range (k + 1)).any (fun i => circB (entsH hs) (i : Int)) = (r || circB (entsH hs) (k : Int)) by rw [List.range_succ, List.any_append, ← hr.out]; simp)
          cases r
          · cases hc : circB (entsH hs) (k : Int)
            all_goals
              have HC := Lib.hid hc
              go_wp2_with (go_at_call 52; refine (Circular_calls (HT4.out.later hBr.out) (k : Int)).mono ?_; rintro e w5 ⟨rfl, hb5⟩; rw [HC.out])
              go_roundw
              case rel => exact ⟨k + 1, by omega, by go_num, ⟨_, rfl, by rw [HR.out, HC.out]; rfl⟩, hBr.out.trans (hb5.mono hBr.out.size)⟩
              case measure => simp [intOf]; omega
          · go_wp2
            go_roundw
            case rel => exact ⟨k + 1, by omega, by go_num, ⟨_, rfl, by rw [HR.out]; rfl⟩, hBr.out⟩
            case measure => simp [intOf]; omega
        · have hkl : k = hs.length := by omega
          have HRR := Lib.hid (show r = (List.range hs.length).any (fun i => circB (entsH hs) (i : Int)) by rw [hr.out, hkl])
          have HAA := Lib.hid (show belowB (entsH hs) (ka : Int) (ka : Int) = true from belowB_self (by rw [HEL.out]; exact hka))
          have HTB := Lib.hid (show ∀ W, Below w4.heap.size w4 W → Tab W tb (entsH hs) (mainOf (entsH hs)) from fun W h => HT4.out.later h)
          have hcur := hBr.out
          have HBC := HAA
          have HAC := HAA
          have HBA := HAA
          cases hab : belowB (entsH hs) (ka : Int) (kb : Int)
          · have HAB := Lib.hid hab
            have hne : ka ≠ kb := by
              intro e
              rw [← e, HAA.out] at hab
              cases hab
            have hne' : ((ka : Int) != (kb : Int)) = true := by simp; omega
            clear hab
            cases r
            · skip
              go_upto_region 20 with (go_at_call 26; refine (Below_calls (HTB.out _ hcur) _ _).mono ?_; rintro e w9 ⟨rfl, hb9⟩; replace hcur := hcur.trans (hb9.mono hcur.size); clear hb9; first | rw [HAA.out] | rw [HAB.out] | rw [HBC.out] | rw [HAC.out] | rw [HBA.out])
              go_wp2_with fail
              refine (Super_nil _ 0).mono ?_
              rintro e w10 ⟨rfl, hb10⟩
              replace hcur := hcur.trans (hb10.mono hcur.size)
              clear hb10
              go_wp2_with fail
              refine (Meet_nil _ 0 0).mono ?_
              rintro e w11 ⟨rfl, hb11⟩
              replace hcur := hcur.trans (hb11.mono hcur.size)
              clear hb11
              go_wp2_with fail
              refine (Under_calls none 0).mono ?_
              rintro e w12 ⟨rfl, hw12⟩
              have hkt : w12.heap[w11.heap.size]? = some (.cells #[.pointer none] 25 (0, 0)) := by rw [hw12]; exact (Below.heap_alloc _ _ _ (by simp)).trans (heap_alloc_new w11 _)
              have hb12 : Below w11.heap.size w11 w12 := by rw [hw12]; exact ((Below.refl _ _).alloc (Nat.le_refl _) _).alloc (by simp) _
              have hs12 : w12.heap.size = w11.heap.size + 2 := by rw [hw12]; simp
              replace hcur := hcur.trans (hb12.mono hcur.size)
              have HCUR := Lib.hid hcur
              have HKT := Lib.hid hkt
              have HS12 := Lib.hid hs12
              clear hw12 hb12 hcur hkt hs12
              go_wp2_with fail
              refine (wpIn_wide (n := 3)).1 ?_
              refine wpIn_rangeFunc_ownH rfl (by omega) (gf := 66) (lb := #[.pointer (some ⟨w11.heap.size, 0, none⟩), .pointer (some ⟨w11.heap.size + 1, 0, none⟩)]) rfl trivial (enters_of Try.func66 (by kernel_rfl) rfl)
                (under_nil_stops (n := 2) (by omega) (Kp := fun _ _ => True) ((cell_blk HKT.out 0).trans rfl) (by have := HS12.out; omega)) (fun _ _ => trivial) (fun _ _ _ _ _ _ _ _ => trivial) (Below.refl _ _) (fun _ => rfl)
                (fun pre W => Below w12.heap.size w12 W)
                (fun _ _ _ => False)
                (ownFrom_below (Nat.le_refl _) (Nat.le_refl _))
                (fun _ _ _ _ _ hs _ _ => hs)
                (Below.refl _ _)
                (fun x a' W => True)
                (fun x a' _ X Y row hs hg hr => trivial)
                ?assign ?body ?done ?stop
              case assign =>
                rintro l pre x W K hB hK
                gi_wp2
                exact hK _ _ (KeepsFrom.refl _ _) trivial hB trivial
              case body =>
                rintro l pre x a' W hl _ _ _ hlt
                exact absurd hlt (Nat.not_lt_zero _)
              case done =>
                rintro D ys W hD hys hB hK
                have hcur := HCUR.out.trans (hB.mono HCUR.out.size)
                have HDK := Lib.hid hK
                clear hB hK hys
                have hfar : Below W.heap.size W W := Below.refl _ _
                gi_wp2
                go_wp2_with fail
                refine (Line_nil _ 0).mono ?_
                rintro e w13 ⟨rfl, hb13⟩
                replace hfar := hfar.trans (hb13.mono hfar.size)
                clear hb13
                go_wp2_with fail
                refine (Faults_nil _).mono ?_
                rintro e w14 ⟨AF, cF, rfl, hb14⟩
                replace hfar := hfar.trans (hb14.mono hfar.size)
                clear hb14
                go_wp2_with fail
                refine (Below_nil _ 0 0).mono ?_
                rintro e w15 ⟨rfl, hb15⟩
                replace hfar := hfar.trans (hb15.mono hfar.size)
                clear hb15
                go_wp2_with fail
                refine (Circular_nil _ 0).mono ?_
                rintro e w16 ⟨rfl, hb16⟩
                replace hfar := hfar.trans (hb16.mono hfar.size)
                clear hb16
                obtain ⟨r0, z0, hbel⟩ := HEND.out w16 (HB4.out.trans ((hcur.trans (hfar.mono hcur.size)).mono HB4.out.size))
                have HBL := Lib.hid hbel
                have HDL := Lib.hid ((hfar.block D (Array.getElem?_eq_some_iff.1 HDK.out).1).trans HDK.out)
                have hlt2 : w.heap.size + 1 < w12.heap.size := by
                  have h1 := HB4.out.size
                  have h2 := HCUR.out.size
                  have h3 := HS0.out
                  omega
                have hDw : D ≠ w.heap.size + 1 := by omega
                have HDW := Lib.hid hDw
                have HL2 := Lib.hid hlt2
                clear hbel hfar hcur hlt2 hDw
                go_wp2
                have hK2 := (Below.heap_setCell w16 ⟨w.heap.size + 1, 0, none⟩ (.bool true) D HDW.out).trans HDL.out
                refine ⟨by simp, .inl ⟨_, _, rfl, run_takeDeferred hK2, ?_⟩⟩
                refine ⟨_, res12 rfl ((cell_putObj _ (Ne.symm HDW.out)).trans (World.cell?_setCell_same' _ _ _ (by rw [r0]; rfl))), rfl, ?_⟩
                exact below_putObj HBL.out (by have := HL2.out; omega) _
              case stop =>
                rintro D c pre W hD _ h _
                exact h.elim
            · skip
              go_upto_region 20 with (go_at_call 26; refine (Below_calls (HTB.out _ hcur) _ _).mono ?_; rintro e w9 ⟨rfl, hb9⟩; replace hcur := hcur.trans (hb9.mono hcur.size); clear hb9; first | rw [HAA.out] | rw [HAB.out] | rw [HBC.out] | rw [HAC.out] | rw [HBA.out])
              go_wp2_with fail
              refine (Super_nil _ 0).mono ?_
              rintro e w10 ⟨rfl, hb10⟩
              replace hcur := hcur.trans (hb10.mono hcur.size)
              clear hb10
              go_wp2_with fail
              refine (Meet_nil _ 0 0).mono ?_
              rintro e w11 ⟨rfl, hb11⟩
              replace hcur := hcur.trans (hb11.mono hcur.size)
              clear hb11
              go_wp2_with fail
              refine (Under_calls none 0).mono ?_
              rintro e w12 ⟨rfl, hw12⟩
              have hkt : w12.heap[w11.heap.size]? = some (.cells #[.pointer none] 25 (0, 0)) := by rw [hw12]; exact (Below.heap_alloc _ _ _ (by simp)).trans (heap_alloc_new w11 _)
              have hb12 : Below w11.heap.size w11 w12 := by rw [hw12]; exact ((Below.refl _ _).alloc (Nat.le_refl _) _).alloc (by simp) _
              have hs12 : w12.heap.size = w11.heap.size + 2 := by rw [hw12]; simp
              replace hcur := hcur.trans (hb12.mono hcur.size)
              have HCUR := Lib.hid hcur
              have HKT := Lib.hid hkt
              have HS12 := Lib.hid hs12
              clear hw12 hb12 hcur hkt hs12
              go_wp2_with fail
              refine (wpIn_wide (n := 3)).1 ?_
              refine wpIn_rangeFunc_ownH rfl (by omega) (gf := 66) (lb := #[.pointer (some ⟨w11.heap.size, 0, none⟩), .pointer (some ⟨w11.heap.size + 1, 0, none⟩)]) rfl trivial (enters_of Try.func66 (by kernel_rfl) rfl)
                (under_nil_stops (n := 2) (by omega) (Kp := fun _ _ => True) ((cell_blk HKT.out 0).trans rfl) (by have := HS12.out; omega)) (fun _ _ => trivial) (fun _ _ _ _ _ _ _ _ => trivial) (Below.refl _ _) (fun _ => rfl)
                (fun pre W => Below w12.heap.size w12 W)
                (fun _ _ _ => False)
                (ownFrom_below (Nat.le_refl _) (Nat.le_refl _))
                (fun _ _ _ _ _ hs _ _ => hs)
                (Below.refl _ _)
                (fun x a' W => True)
                (fun x a' _ X Y row hs hg hr => trivial)
                ?assign ?body ?done ?stop
              case assign =>
                rintro l pre x W K hB hK
                gi_wp2
                exact hK _ _ (KeepsFrom.refl _ _) trivial hB trivial
              case body =>
                rintro l pre x a' W hl _ _ _ hlt
                exact absurd hlt (Nat.not_lt_zero _)
              case done =>
                rintro D ys W hD hys hB hK
                have hcur := HCUR.out.trans (hB.mono HCUR.out.size)
                have HDK := Lib.hid hK
                clear hB hK hys
                have hfar : Below W.heap.size W W := Below.refl _ _
                gi_wp2
                go_wp2_with fail
                refine (Line_nil _ 0).mono ?_
                rintro e w13 ⟨rfl, hb13⟩
                replace hfar := hfar.trans (hb13.mono hfar.size)
                clear hb13
                go_wp2_with fail
                refine (Faults_nil _).mono ?_
                rintro e w14 ⟨AF, cF, rfl, hb14⟩
                replace hfar := hfar.trans (hb14.mono hfar.size)
                clear hb14
                go_wp2_with fail
                refine (Below_nil _ 0 0).mono ?_
                rintro e w15 ⟨rfl, hb15⟩
                replace hfar := hfar.trans (hb15.mono hfar.size)
                clear hb15
                go_wp2_with fail
                refine (Circular_nil _ 0).mono ?_
                rintro e w16 ⟨rfl, hb16⟩
                replace hfar := hfar.trans (hb16.mono hfar.size)
                clear hb16
                obtain ⟨r0, z0, hbel⟩ := HEND.out w16 (HB4.out.trans ((hcur.trans (hfar.mono hcur.size)).mono HB4.out.size))
                have HBL := Lib.hid hbel
                have HDL := Lib.hid ((hfar.block D (Array.getElem?_eq_some_iff.1 HDK.out).1).trans HDK.out)
                have hlt2 : w.heap.size + 1 < w12.heap.size := by
                  have h1 := HB4.out.size
                  have h2 := HCUR.out.size
                  have h3 := HS0.out
                  omega
                have hDw : D ≠ w.heap.size + 1 := by omega
                have HDW := Lib.hid hDw
                have HL2 := Lib.hid hlt2
                clear hbel hfar hcur hlt2 hDw
                go_wp2
                have hK2 := (Below.heap_setCell w16 ⟨w.heap.size + 1, 0, none⟩ (.bool true) D HDW.out).trans HDL.out
                refine ⟨by simp, .inl ⟨_, _, rfl, run_takeDeferred hK2, ?_⟩⟩
                refine ⟨_, res12 rfl ((cell_putObj _ (Ne.symm HDW.out)).trans (World.cell?_setCell_same' _ _ _ (by rw [r0]; rfl))), rfl, ?_⟩
                exact below_putObj HBL.out (by have := HL2.out; omega) _
              case stop =>
                rintro D c pre W hD _ h _
                exact h.elim
          · have HAB := Lib.hid hab
            cases hbc : belowB (entsH hs) (kb : Int) (kd : Int)
            · have HBC := Lib.hid hbc
              clear hbc
              cases r
              · by_cases hne : ka = kb
                · have hne' : ((ka : Int) != (kb : Int)) = false := by simp; omega
                  clear hab hne
                  go_upto_region 20 with (go_at_call 26; refine (Below_calls (HTB.out _ hcur) _ _).mono ?_; rintro e w9 ⟨rfl, hb9⟩; replace hcur := hcur.trans (hb9.mono hcur.size); clear hb9; first | rw [HAA.out] | rw [HAB.out] | rw [HBC.out] | rw [HAC.out] | rw [HBA.out])
                  go_wp2_with fail
                  refine (Super_nil _ 0).mono ?_
                  rintro e w10 ⟨rfl, hb10⟩
                  replace hcur := hcur.trans (hb10.mono hcur.size)
                  clear hb10
                  go_wp2_with fail
                  refine (Meet_nil _ 0 0).mono ?_
                  rintro e w11 ⟨rfl, hb11⟩
                  replace hcur := hcur.trans (hb11.mono hcur.size)
                  clear hb11
                  go_wp2_with fail
                  refine (Under_calls none 0).mono ?_
                  rintro e w12 ⟨rfl, hw12⟩
                  have hkt : w12.heap[w11.heap.size]? = some (.cells #[.pointer none] 25 (0, 0)) := by rw [hw12]; exact (Below.heap_alloc _ _ _ (by simp)).trans (heap_alloc_new w11 _)
                  have hb12 : Below w11.heap.size w11 w12 := by rw [hw12]; exact ((Below.refl _ _).alloc (Nat.le_refl _) _).alloc (by simp) _
                  have hs12 : w12.heap.size = w11.heap.size + 2 := by rw [hw12]; simp
                  replace hcur := hcur.trans (hb12.mono hcur.size)
                  have HCUR := Lib.hid hcur
                  have HKT := Lib.hid hkt
                  have HS12 := Lib.hid hs12
                  clear hw12 hb12 hcur hkt hs12
                  go_wp2_with fail
                  refine (wpIn_wide (n := 3)).1 ?_
                  refine wpIn_rangeFunc_ownH rfl (by omega) (gf := 66) (lb := #[.pointer (some ⟨w11.heap.size, 0, none⟩), .pointer (some ⟨w11.heap.size + 1, 0, none⟩)]) rfl trivial (enters_of Try.func66 (by kernel_rfl) rfl)
                    (under_nil_stops (n := 2) (by omega) (Kp := fun _ _ => True) ((cell_blk HKT.out 0).trans rfl) (by have := HS12.out; omega)) (fun _ _ => trivial) (fun _ _ _ _ _ _ _ _ => trivial) (Below.refl _ _) (fun _ => rfl)
                    (fun pre W => Below w12.heap.size w12 W)
                    (fun _ _ _ => False)
                    (ownFrom_below (Nat.le_refl _) (Nat.le_refl _))
                    (fun _ _ _ _ _ hs _ _ => hs)
                    (Below.refl _ _)
                    (fun x a' W => True)
                    (fun x a' _ X Y row hs hg hr => trivial)
                    ?assign ?body ?done ?stop
                  case assign =>
                    rintro l pre x W K hB hK
                    gi_wp2
                    exact hK _ _ (KeepsFrom.refl _ _) trivial hB trivial
                  case body =>
                    rintro l pre x a' W hl _ _ _ hlt
                    exact absurd hlt (Nat.not_lt_zero _)
                  case done =>
                    rintro D ys W hD hys hB hK
                    have hcur := HCUR.out.trans (hB.mono HCUR.out.size)
                    have HDK := Lib.hid hK
                    clear hB hK hys
                    have hfar : Below W.heap.size W W := Below.refl _ _
                    gi_wp2
                    go_wp2_with fail
                    refine (Line_nil _ 0).mono ?_
                    rintro e w13 ⟨rfl, hb13⟩
                    replace hfar := hfar.trans (hb13.mono hfar.size)
                    clear hb13
                    go_wp2_with fail
                    refine (Faults_nil _).mono ?_
                    rintro e w14 ⟨AF, cF, rfl, hb14⟩
                    replace hfar := hfar.trans (hb14.mono hfar.size)
                    clear hb14
                    go_wp2_with fail
                    refine (Below_nil _ 0 0).mono ?_
                    rintro e w15 ⟨rfl, hb15⟩
                    replace hfar := hfar.trans (hb15.mono hfar.size)
                    clear hb15
                    go_wp2_with fail
                    refine (Circular_nil _ 0).mono ?_
                    rintro e w16 ⟨rfl, hb16⟩
                    replace hfar := hfar.trans (hb16.mono hfar.size)
                    clear hb16
                    obtain ⟨r0, z0, hbel⟩ := HEND.out w16 (HB4.out.trans ((hcur.trans (hfar.mono hcur.size)).mono HB4.out.size))
                    have HBL := Lib.hid hbel
                    have HDL := Lib.hid ((hfar.block D (Array.getElem?_eq_some_iff.1 HDK.out).1).trans HDK.out)
                    have hlt2 : w.heap.size + 1 < w12.heap.size := by
                      have h1 := HB4.out.size
                      have h2 := HCUR.out.size
                      have h3 := HS0.out
                      omega
                    have hDw : D ≠ w.heap.size + 1 := by omega
                    have HDW := Lib.hid hDw
                    have HL2 := Lib.hid hlt2
                    clear hbel hfar hcur hlt2 hDw
                    go_wp2
                    have hK2 := (Below.heap_setCell w16 ⟨w.heap.size + 1, 0, none⟩ (.bool true) D HDW.out).trans HDL.out
                    refine ⟨by simp, .inl ⟨_, _, rfl, run_takeDeferred hK2, ?_⟩⟩
                    refine ⟨_, res12 rfl ((cell_putObj _ (Ne.symm HDW.out)).trans (World.cell?_setCell_same' _ _ _ (by rw [r0]; rfl))), rfl, ?_⟩
                    exact below_putObj HBL.out (by have := HL2.out; omega) _
                  case stop =>
                    rintro D c pre W hD _ h _
                    exact h.elim
                · have hne' : ((ka : Int) != (kb : Int)) = true := by simp; omega
                  have HBA := Lib.hid (show belowB (entsH hs) (kb : Int) (ka : Int) = false from noback HRR.out hka hab hne)
                  clear hab
                  go_upto_region 20 with (go_at_call 26; refine (Below_calls (HTB.out _ hcur) _ _).mono ?_; rintro e w9 ⟨rfl, hb9⟩; replace hcur := hcur.trans (hb9.mono hcur.size); clear hb9; first | rw [HAA.out] | rw [HAB.out] | rw [HBC.out] | rw [HAC.out] | rw [HBA.out])
                  go_wp2_with fail
                  refine (Super_nil _ 0).mono ?_
                  rintro e w10 ⟨rfl, hb10⟩
                  replace hcur := hcur.trans (hb10.mono hcur.size)
                  clear hb10
                  go_wp2_with fail
                  refine (Meet_nil _ 0 0).mono ?_
                  rintro e w11 ⟨rfl, hb11⟩
                  replace hcur := hcur.trans (hb11.mono hcur.size)
                  clear hb11
                  go_wp2_with fail
                  refine (Under_calls none 0).mono ?_
                  rintro e w12 ⟨rfl, hw12⟩
                  have hkt : w12.heap[w11.heap.size]? = some (.cells #[.pointer none] 25 (0, 0)) := by rw [hw12]; exact (Below.heap_alloc _ _ _ (by simp)).trans (heap_alloc_new w11 _)
                  have hb12 : Below w11.heap.size w11 w12 := by rw [hw12]; exact ((Below.refl _ _).alloc (Nat.le_refl _) _).alloc (by simp) _
                  have hs12 : w12.heap.size = w11.heap.size + 2 := by rw [hw12]; simp
                  replace hcur := hcur.trans (hb12.mono hcur.size)
                  have HCUR := Lib.hid hcur
                  have HKT := Lib.hid hkt
                  have HS12 := Lib.hid hs12
                  clear hw12 hb12 hcur hkt hs12
                  go_wp2_with fail
                  refine (wpIn_wide (n := 3)).1 ?_
                  refine wpIn_rangeFunc_ownH rfl (by omega) (gf := 66) (lb := #[.pointer (some ⟨w11.heap.size, 0, none⟩), .pointer (some ⟨w11.heap.size + 1, 0, none⟩)]) rfl trivial (enters_of Try.func66 (by kernel_rfl) rfl)
                    (under_nil_stops (n := 2) (by omega) (Kp := fun _ _ => True) ((cell_blk HKT.out 0).trans rfl) (by have := HS12.out; omega)) (fun _ _ => trivial) (fun _ _ _ _ _ _ _ _ => trivial) (Below.refl _ _) (fun _ => rfl)
                    (fun pre W => Below w12.heap.size w12 W)
                    (fun _ _ _ => False)
                    (ownFrom_below (Nat.le_refl _) (Nat.le_refl _))
                    (fun _ _ _ _ _ hs _ _ => hs)
                    (Below.refl _ _)
                    (fun x a' W => True)
                    (fun x a' _ X Y row hs hg hr => trivial)
                    ?assign ?body ?done ?stop
                  case assign =>
                    rintro l pre x W K hB hK
                    gi_wp2
                    exact hK _ _ (KeepsFrom.refl _ _) trivial hB trivial
                  case body =>
                    rintro l pre x a' W hl _ _ _ hlt
                    exact absurd hlt (Nat.not_lt_zero _)
                  case done =>
                    rintro D ys W hD hys hB hK
                    have hcur := HCUR.out.trans (hB.mono HCUR.out.size)
                    have HDK := Lib.hid hK
                    clear hB hK hys
                    have hfar : Below W.heap.size W W := Below.refl _ _
                    gi_wp2
                    go_wp2_with fail
                    refine (Line_nil _ 0).mono ?_
                    rintro e w13 ⟨rfl, hb13⟩
                    replace hfar := hfar.trans (hb13.mono hfar.size)
                    clear hb13
                    go_wp2_with fail
                    refine (Faults_nil _).mono ?_
                    rintro e w14 ⟨AF, cF, rfl, hb14⟩
                    replace hfar := hfar.trans (hb14.mono hfar.size)
                    clear hb14
                    go_wp2_with fail
                    refine (Below_nil _ 0 0).mono ?_
                    rintro e w15 ⟨rfl, hb15⟩
                    replace hfar := hfar.trans (hb15.mono hfar.size)
                    clear hb15
                    go_wp2_with fail
                    refine (Circular_nil _ 0).mono ?_
                    rintro e w16 ⟨rfl, hb16⟩
                    replace hfar := hfar.trans (hb16.mono hfar.size)
                    clear hb16
                    obtain ⟨r0, z0, hbel⟩ := HEND.out w16 (HB4.out.trans ((hcur.trans (hfar.mono hcur.size)).mono HB4.out.size))
                    have HBL := Lib.hid hbel
                    have HDL := Lib.hid ((hfar.block D (Array.getElem?_eq_some_iff.1 HDK.out).1).trans HDK.out)
                    have hlt2 : w.heap.size + 1 < w12.heap.size := by
                      have h1 := HB4.out.size
                      have h2 := HCUR.out.size
                      have h3 := HS0.out
                      omega
                    have hDw : D ≠ w.heap.size + 1 := by omega
                    have HDW := Lib.hid hDw
                    have HL2 := Lib.hid hlt2
                    clear hbel hfar hcur hlt2 hDw
                    go_wp2
                    have hK2 := (Below.heap_setCell w16 ⟨w.heap.size + 1, 0, none⟩ (.bool true) D HDW.out).trans HDL.out
                    refine ⟨by simp, .inl ⟨_, _, rfl, run_takeDeferred hK2, ?_⟩⟩
                    refine ⟨_, res12 rfl ((cell_putObj _ (Ne.symm HDW.out)).trans (World.cell?_setCell_same' _ _ _ (by rw [r0]; rfl))), rfl, ?_⟩
                    exact below_putObj HBL.out (by have := HL2.out; omega) _
                  case stop =>
                    rintro D c pre W hD _ h _
                    exact h.elim
              · clear hab
                go_upto_region 20 with (go_at_call 26; refine (Below_calls (HTB.out _ hcur) _ _).mono ?_; rintro e w9 ⟨rfl, hb9⟩; replace hcur := hcur.trans (hb9.mono hcur.size); clear hb9; first | rw [HAA.out] | rw [HAB.out] | rw [HBC.out] | rw [HAC.out] | rw [HBA.out])
                go_wp2_with fail
                refine (Super_nil _ 0).mono ?_
                rintro e w10 ⟨rfl, hb10⟩
                replace hcur := hcur.trans (hb10.mono hcur.size)
                clear hb10
                go_wp2_with fail
                refine (Meet_nil _ 0 0).mono ?_
                rintro e w11 ⟨rfl, hb11⟩
                replace hcur := hcur.trans (hb11.mono hcur.size)
                clear hb11
                go_wp2_with fail
                refine (Under_calls none 0).mono ?_
                rintro e w12 ⟨rfl, hw12⟩
                have hkt : w12.heap[w11.heap.size]? = some (.cells #[.pointer none] 25 (0, 0)) := by rw [hw12]; exact (Below.heap_alloc _ _ _ (by simp)).trans (heap_alloc_new w11 _)
                have hb12 : Below w11.heap.size w11 w12 := by rw [hw12]; exact ((Below.refl _ _).alloc (Nat.le_refl _) _).alloc (by simp) _
                have hs12 : w12.heap.size = w11.heap.size + 2 := by rw [hw12]; simp
                replace hcur := hcur.trans (hb12.mono hcur.size)
                have HCUR := Lib.hid hcur
                have HKT := Lib.hid hkt
                have HS12 := Lib.hid hs12
                clear hw12 hb12 hcur hkt hs12
                go_wp2_with fail
                refine (wpIn_wide (n := 3)).1 ?_
                refine wpIn_rangeFunc_ownH rfl (by omega) (gf := 66) (lb := #[.pointer (some ⟨w11.heap.size, 0, none⟩), .pointer (some ⟨w11.heap.size + 1, 0, none⟩)]) rfl trivial (enters_of Try.func66 (by kernel_rfl) rfl)
                  (under_nil_stops (n := 2) (by omega) (Kp := fun _ _ => True) ((cell_blk HKT.out 0).trans rfl) (by have := HS12.out; omega)) (fun _ _ => trivial) (fun _ _ _ _ _ _ _ _ => trivial) (Below.refl _ _) (fun _ => rfl)
                  (fun pre W => Below w12.heap.size w12 W)
                  (fun _ _ _ => False)
                  (ownFrom_below (Nat.le_refl _) (Nat.le_refl _))
                  (fun _ _ _ _ _ hs _ _ => hs)
                  (Below.refl _ _)
                  (fun x a' W => True)
                  (fun x a' _ X Y row hs hg hr => trivial)
                  ?assign ?body ?done ?stop
                case assign =>
                  rintro l pre x W K hB hK
                  gi_wp2
                  exact hK _ _ (KeepsFrom.refl _ _) trivial hB trivial
                case body =>
                  rintro l pre x a' W hl _ _ _ hlt
                  exact absurd hlt (Nat.not_lt_zero _)
                case done =>
                  rintro D ys W hD hys hB hK
                  have hcur := HCUR.out.trans (hB.mono HCUR.out.size)
                  have HDK := Lib.hid hK
                  clear hB hK hys
                  have hfar : Below W.heap.size W W := Below.refl _ _
                  gi_wp2
                  go_wp2_with fail
                  refine (Line_nil _ 0).mono ?_
                  rintro e w13 ⟨rfl, hb13⟩
                  replace hfar := hfar.trans (hb13.mono hfar.size)
                  clear hb13
                  go_wp2_with fail
                  refine (Faults_nil _).mono ?_
                  rintro e w14 ⟨AF, cF, rfl, hb14⟩
                  replace hfar := hfar.trans (hb14.mono hfar.size)
                  clear hb14
                  go_wp2_with fail
                  refine (Below_nil _ 0 0).mono ?_
                  rintro e w15 ⟨rfl, hb15⟩
                  replace hfar := hfar.trans (hb15.mono hfar.size)
                  clear hb15
                  go_wp2_with fail
                  refine (Circular_nil _ 0).mono ?_
                  rintro e w16 ⟨rfl, hb16⟩
                  replace hfar := hfar.trans (hb16.mono hfar.size)
                  clear hb16
                  obtain ⟨r0, z0, hbel⟩ := HEND.out w16 (HB4.out.trans ((hcur.trans (hfar.mono hcur.size)).mono HB4.out.size))
                  have HBL := Lib.hid hbel
                  have HDL := Lib.hid ((hfar.block D (Array.getElem?_eq_some_iff.1 HDK.out).1).trans HDK.out)
                  have hlt2 : w.heap.size + 1 < w12.heap.size := by
                    have h1 := HB4.out.size
                    have h2 := HCUR.out.size
                    have h3 := HS0.out
                    omega
                  have hDw : D ≠ w.heap.size + 1 := by omega
                  have HDW := Lib.hid hDw
                  have HL2 := Lib.hid hlt2
                  clear hbel hfar hcur hlt2 hDw
                  go_wp2
                  have hK2 := (Below.heap_setCell w16 ⟨w.heap.size + 1, 0, none⟩ (.bool true) D HDW.out).trans HDL.out
                  refine ⟨by simp, .inl ⟨_, _, rfl, run_takeDeferred hK2, ?_⟩⟩
                  refine ⟨_, res12 rfl ((cell_putObj _ (Ne.symm HDW.out)).trans (World.cell?_setCell_same' _ _ _ (by rw [r0]; rfl))), rfl, ?_⟩
                  exact below_putObj HBL.out (by have := HL2.out; omega) _
                case stop =>
                  rintro D c pre W hD _ h _
                  exact h.elim
            · have HBC := Lib.hid hbc
              have HAC := Lib.hid (belowB_trans hab hbc)
              clear hbc
              cases r
              · by_cases hne : ka = kb
                · have hne' : ((ka : Int) != (kb : Int)) = false := by simp; omega
                  clear hab hne
                  go_upto_region 20 with (go_at_call 26; refine (Below_calls (HTB.out _ hcur) _ _).mono ?_; rintro e w9 ⟨rfl, hb9⟩; replace hcur := hcur.trans (hb9.mono hcur.size); clear hb9; first | rw [HAA.out] | rw [HAB.out] | rw [HBC.out] | rw [HAC.out] | rw [HBA.out])
                  go_wp2_with fail
                  refine (Super_nil _ 0).mono ?_
                  rintro e w10 ⟨rfl, hb10⟩
                  replace hcur := hcur.trans (hb10.mono hcur.size)
                  clear hb10
                  go_wp2_with fail
                  refine (Meet_nil _ 0 0).mono ?_
                  rintro e w11 ⟨rfl, hb11⟩
                  replace hcur := hcur.trans (hb11.mono hcur.size)
                  clear hb11
                  go_wp2_with fail
                  refine (Under_calls none 0).mono ?_
                  rintro e w12 ⟨rfl, hw12⟩
                  have hkt : w12.heap[w11.heap.size]? = some (.cells #[.pointer none] 25 (0, 0)) := by rw [hw12]; exact (Below.heap_alloc _ _ _ (by simp)).trans (heap_alloc_new w11 _)
                  have hb12 : Below w11.heap.size w11 w12 := by rw [hw12]; exact ((Below.refl _ _).alloc (Nat.le_refl _) _).alloc (by simp) _
                  have hs12 : w12.heap.size = w11.heap.size + 2 := by rw [hw12]; simp
                  replace hcur := hcur.trans (hb12.mono hcur.size)
                  have HCUR := Lib.hid hcur
                  have HKT := Lib.hid hkt
                  have HS12 := Lib.hid hs12
                  clear hw12 hb12 hcur hkt hs12
                  go_wp2_with fail
                  refine (wpIn_wide (n := 3)).1 ?_
                  refine wpIn_rangeFunc_ownH rfl (by omega) (gf := 66) (lb := #[.pointer (some ⟨w11.heap.size, 0, none⟩), .pointer (some ⟨w11.heap.size + 1, 0, none⟩)]) rfl trivial (enters_of Try.func66 (by kernel_rfl) rfl)
                    (under_nil_stops (n := 2) (by omega) (Kp := fun _ _ => True) ((cell_blk HKT.out 0).trans rfl) (by have := HS12.out; omega)) (fun _ _ => trivial) (fun _ _ _ _ _ _ _ _ => trivial) (Below.refl _ _) (fun _ => rfl)
                    (fun pre W => Below w12.heap.size w12 W)
                    (fun _ _ _ => False)
                    (ownFrom_below (Nat.le_refl _) (Nat.le_refl _))
                    (fun _ _ _ _ _ hs _ _ => hs)
                    (Below.refl _ _)
                    (fun x a' W => True)
                    (fun x a' _ X Y row hs hg hr => trivial)
                    ?assign ?body ?done ?stop
                  case assign =>
                    rintro l pre x W K hB hK
                    gi_wp2
                    exact hK _ _ (KeepsFrom.refl _ _) trivial hB trivial
                  case body =>
                    rintro l pre x a' W hl _ _ _ hlt
                    exact absurd hlt (Nat.not_lt_zero _)
                  case done =>
                    rintro D ys W hD hys hB hK
                    have hcur := HCUR.out.trans (hB.mono HCUR.out.size)
                    have HDK := Lib.hid hK
                    clear hB hK hys
                    have hfar : Below W.heap.size W W := Below.refl _ _
                    gi_wp2
                    go_wp2_with fail
                    refine (Line_nil _ 0).mono ?_
                    rintro e w13 ⟨rfl, hb13⟩
                    replace hfar := hfar.trans (hb13.mono hfar.size)
                    clear hb13
                    go_wp2_with fail
                    refine (Faults_nil _).mono ?_
                    rintro e w14 ⟨AF, cF, rfl, hb14⟩
                    replace hfar := hfar.trans (hb14.mono hfar.size)
                    clear hb14
                    go_wp2_with fail
                    refine (Below_nil _ 0 0).mono ?_
                    rintro e w15 ⟨rfl, hb15⟩
                    replace hfar := hfar.trans (hb15.mono hfar.size)
                    clear hb15
                    go_wp2_with fail
                    refine (Circular_nil _ 0).mono ?_
                    rintro e w16 ⟨rfl, hb16⟩
                    replace hfar := hfar.trans (hb16.mono hfar.size)
                    clear hb16
                    obtain ⟨r0, z0, hbel⟩ := HEND.out w16 (HB4.out.trans ((hcur.trans (hfar.mono hcur.size)).mono HB4.out.size))
                    have HBL := Lib.hid hbel
                    have HDL := Lib.hid ((hfar.block D (Array.getElem?_eq_some_iff.1 HDK.out).1).trans HDK.out)
                    have hlt2 : w.heap.size + 1 < w12.heap.size := by
                      have h1 := HB4.out.size
                      have h2 := HCUR.out.size
                      have h3 := HS0.out
                      omega
                    have hDw : D ≠ w.heap.size + 1 := by omega
                    have HDW := Lib.hid hDw
                    have HL2 := Lib.hid hlt2
                    clear hbel hfar hcur hlt2 hDw
                    go_wp2
                    have hK2 := (Below.heap_setCell w16 ⟨w.heap.size + 1, 0, none⟩ (.bool true) D HDW.out).trans HDL.out
                    refine ⟨by simp, .inl ⟨_, _, rfl, run_takeDeferred hK2, ?_⟩⟩
                    refine ⟨_, res12 rfl ((cell_putObj _ (Ne.symm HDW.out)).trans (World.cell?_setCell_same' _ _ _ (by rw [r0]; rfl))), rfl, ?_⟩
                    exact below_putObj HBL.out (by have := HL2.out; omega) _
                  case stop =>
                    rintro D c pre W hD _ h _
                    exact h.elim
                · have hne' : ((ka : Int) != (kb : Int)) = true := by simp; omega
                  have HBA := Lib.hid (show belowB (entsH hs) (kb : Int) (ka : Int) = false from noback HRR.out hka hab hne)
                  clear hab
                  go_upto_region 20 with (go_at_call 26; refine (Below_calls (HTB.out _ hcur) _ _).mono ?_; rintro e w9 ⟨rfl, hb9⟩; replace hcur := hcur.trans (hb9.mono hcur.size); clear hb9; first | rw [HAA.out] | rw [HAB.out] | rw [HBC.out] | rw [HAC.out] | rw [HBA.out])
                  go_wp2_with fail
                  refine (Super_nil _ 0).mono ?_
                  rintro e w10 ⟨rfl, hb10⟩
                  replace hcur := hcur.trans (hb10.mono hcur.size)
                  clear hb10
                  go_wp2_with fail
                  refine (Meet_nil _ 0 0).mono ?_
                  rintro e w11 ⟨rfl, hb11⟩
                  replace hcur := hcur.trans (hb11.mono hcur.size)
                  clear hb11
                  go_wp2_with fail
                  refine (Under_calls none 0).mono ?_
                  rintro e w12 ⟨rfl, hw12⟩
                  have hkt : w12.heap[w11.heap.size]? = some (.cells #[.pointer none] 25 (0, 0)) := by rw [hw12]; exact (Below.heap_alloc _ _ _ (by simp)).trans (heap_alloc_new w11 _)
                  have hb12 : Below w11.heap.size w11 w12 := by rw [hw12]; exact ((Below.refl _ _).alloc (Nat.le_refl _) _).alloc (by simp) _
                  have hs12 : w12.heap.size = w11.heap.size + 2 := by rw [hw12]; simp
                  replace hcur := hcur.trans (hb12.mono hcur.size)
                  have HCUR := Lib.hid hcur
                  have HKT := Lib.hid hkt
                  have HS12 := Lib.hid hs12
                  clear hw12 hb12 hcur hkt hs12
                  go_wp2_with fail
                  refine (wpIn_wide (n := 3)).1 ?_
                  refine wpIn_rangeFunc_ownH rfl (by omega) (gf := 66) (lb := #[.pointer (some ⟨w11.heap.size, 0, none⟩), .pointer (some ⟨w11.heap.size + 1, 0, none⟩)]) rfl trivial (enters_of Try.func66 (by kernel_rfl) rfl)
                    (under_nil_stops (n := 2) (by omega) (Kp := fun _ _ => True) ((cell_blk HKT.out 0).trans rfl) (by have := HS12.out; omega)) (fun _ _ => trivial) (fun _ _ _ _ _ _ _ _ => trivial) (Below.refl _ _) (fun _ => rfl)
                    (fun pre W => Below w12.heap.size w12 W)
                    (fun _ _ _ => False)
                    (ownFrom_below (Nat.le_refl _) (Nat.le_refl _))
                    (fun _ _ _ _ _ hs _ _ => hs)
                    (Below.refl _ _)
                    (fun x a' W => True)
                    (fun x a' _ X Y row hs hg hr => trivial)
                    ?assign ?body ?done ?stop
                  case assign =>
                    rintro l pre x W K hB hK
                    gi_wp2
                    exact hK _ _ (KeepsFrom.refl _ _) trivial hB trivial
                  case body =>
                    rintro l pre x a' W hl _ _ _ hlt
                    exact absurd hlt (Nat.not_lt_zero _)
                  case done =>
                    rintro D ys W hD hys hB hK
                    have hcur := HCUR.out.trans (hB.mono HCUR.out.size)
                    have HDK := Lib.hid hK
                    clear hB hK hys
                    have hfar : Below W.heap.size W W := Below.refl _ _
                    gi_wp2
                    go_wp2_with fail
                    refine (Line_nil _ 0).mono ?_
                    rintro e w13 ⟨rfl, hb13⟩
                    replace hfar := hfar.trans (hb13.mono hfar.size)
                    clear hb13
                    go_wp2_with fail
                    refine (Faults_nil _).mono ?_
                    rintro e w14 ⟨AF, cF, rfl, hb14⟩
                    replace hfar := hfar.trans (hb14.mono hfar.size)
                    clear hb14
                    go_wp2_with fail
                    refine (Below_nil _ 0 0).mono ?_
                    rintro e w15 ⟨rfl, hb15⟩
                    replace hfar := hfar.trans (hb15.mono hfar.size)
                    clear hb15
                    go_wp2_with fail
                    refine (Circular_nil _ 0).mono ?_
                    rintro e w16 ⟨rfl, hb16⟩
                    replace hfar := hfar.trans (hb16.mono hfar.size)
                    clear hb16
                    obtain ⟨r0, z0, hbel⟩ := HEND.out w16 (HB4.out.trans ((hcur.trans (hfar.mono hcur.size)).mono HB4.out.size))
                    have HBL := Lib.hid hbel
                    have HDL := Lib.hid ((hfar.block D (Array.getElem?_eq_some_iff.1 HDK.out).1).trans HDK.out)
                    have hlt2 : w.heap.size + 1 < w12.heap.size := by
                      have h1 := HB4.out.size
                      have h2 := HCUR.out.size
                      have h3 := HS0.out
                      omega
                    have hDw : D ≠ w.heap.size + 1 := by omega
                    have HDW := Lib.hid hDw
                    have HL2 := Lib.hid hlt2
                    clear hbel hfar hcur hlt2 hDw
                    go_wp2
                    have hK2 := (Below.heap_setCell w16 ⟨w.heap.size + 1, 0, none⟩ (.bool true) D HDW.out).trans HDL.out
                    refine ⟨by simp, .inl ⟨_, _, rfl, run_takeDeferred hK2, ?_⟩⟩
                    refine ⟨_, res12 rfl ((cell_putObj _ (Ne.symm HDW.out)).trans (World.cell?_setCell_same' _ _ _ (by rw [r0]; rfl))), rfl, ?_⟩
                    exact below_putObj HBL.out (by have := HL2.out; omega) _
                  case stop =>
                    rintro D c pre W hD _ h _
                    exact h.elim
              · clear hab
                go_upto_region 20 with (go_at_call 26; refine (Below_calls (HTB.out _ hcur) _ _).mono ?_; rintro e w9 ⟨rfl, hb9⟩; replace hcur := hcur.trans (hb9.mono hcur.size); clear hb9; first | rw [HAA.out] | rw [HAB.out] | rw [HBC.out] | rw [HAC.out] | rw [HBA.out])
                go_wp2_with fail
                refine (Super_nil _ 0).mono ?_
                rintro e w10 ⟨rfl, hb10⟩
                replace hcur := hcur.trans (hb10.mono hcur.size)
                clear hb10
                go_wp2_with fail
                refine (Meet_nil _ 0 0).mono ?_
                rintro e w11 ⟨rfl, hb11⟩
                replace hcur := hcur.trans (hb11.mono hcur.size)
                clear hb11
                go_wp2_with fail
                refine (Under_calls none 0).mono ?_
                rintro e w12 ⟨rfl, hw12⟩
                have hkt : w12.heap[w11.heap.size]? = some (.cells #[.pointer none] 25 (0, 0)) := by rw [hw12]; exact (Below.heap_alloc _ _ _ (by simp)).trans (heap_alloc_new w11 _)
                have hb12 : Below w11.heap.size w11 w12 := by rw [hw12]; exact ((Below.refl _ _).alloc (Nat.le_refl _) _).alloc (by simp) _
                have hs12 : w12.heap.size = w11.heap.size + 2 := by rw [hw12]; simp
                replace hcur := hcur.trans (hb12.mono hcur.size)
                have HCUR := Lib.hid hcur
                have HKT := Lib.hid hkt
                have HS12 := Lib.hid hs12
                clear hw12 hb12 hcur hkt hs12
                go_wp2_with fail
                refine (wpIn_wide (n := 3)).1 ?_
                refine wpIn_rangeFunc_ownH rfl (by omega) (gf := 66) (lb := #[.pointer (some ⟨w11.heap.size, 0, none⟩), .pointer (some ⟨w11.heap.size + 1, 0, none⟩)]) rfl trivial (enters_of Try.func66 (by kernel_rfl) rfl)
                  (under_nil_stops (n := 2) (by omega) (Kp := fun _ _ => True) ((cell_blk HKT.out 0).trans rfl) (by have := HS12.out; omega)) (fun _ _ => trivial) (fun _ _ _ _ _ _ _ _ => trivial) (Below.refl _ _) (fun _ => rfl)
                  (fun pre W => Below w12.heap.size w12 W)
                  (fun _ _ _ => False)
                  (ownFrom_below (Nat.le_refl _) (Nat.le_refl _))
                  (fun _ _ _ _ _ hs _ _ => hs)
                  (Below.refl _ _)
                  (fun x a' W => True)
                  (fun x a' _ X Y row hs hg hr => trivial)
                  ?assign ?body ?done ?stop
                case assign =>
                  rintro l pre x W K hB hK
                  gi_wp2
                  exact hK _ _ (KeepsFrom.refl _ _) trivial hB trivial
                case body =>
                  rintro l pre x a' W hl _ _ _ hlt
                  exact absurd hlt (Nat.not_lt_zero _)
                case done =>
                  rintro D ys W hD hys hB hK
                  have hcur := HCUR.out.trans (hB.mono HCUR.out.size)
                  have HDK := Lib.hid hK
                  clear hB hK hys
                  have hfar : Below W.heap.size W W := Below.refl _ _
                  gi_wp2
                  go_wp2_with fail
                  refine (Line_nil _ 0).mono ?_
                  rintro e w13 ⟨rfl, hb13⟩
                  replace hfar := hfar.trans (hb13.mono hfar.size)
                  clear hb13
                  go_wp2_with fail
                  refine (Faults_nil _).mono ?_
                  rintro e w14 ⟨AF, cF, rfl, hb14⟩
                  replace hfar := hfar.trans (hb14.mono hfar.size)
                  clear hb14
                  go_wp2_with fail
                  refine (Below_nil _ 0 0).mono ?_
                  rintro e w15 ⟨rfl, hb15⟩
                  replace hfar := hfar.trans (hb15.mono hfar.size)
                  clear hb15
                  go_wp2_with fail
                  refine (Circular_nil _ 0).mono ?_
                  rintro e w16 ⟨rfl, hb16⟩
                  replace hfar := hfar.trans (hb16.mono hfar.size)
                  clear hb16
                  obtain ⟨r0, z0, hbel⟩ := HEND.out w16 (HB4.out.trans ((hcur.trans (hfar.mono hcur.size)).mono HB4.out.size))
                  have HBL := Lib.hid hbel
                  have HDL := Lib.hid ((hfar.block D (Array.getElem?_eq_some_iff.1 HDK.out).1).trans HDK.out)
                  have hlt2 : w.heap.size + 1 < w12.heap.size := by
                    have h1 := HB4.out.size
                    have h2 := HCUR.out.size
                    have h3 := HS0.out
                    omega
                  have hDw : D ≠ w.heap.size + 1 := by omega
                  have HDW := Lib.hid hDw
                  have HL2 := Lib.hid hlt2
                  clear hbel hfar hcur hlt2 hDw
                  go_wp2
                  have hK2 := (Below.heap_setCell w16 ⟨w.heap.size + 1, 0, none⟩ (.bool true) D HDW.out).trans HDL.out
                  refine ⟨by simp, .inl ⟨_, _, rfl, run_takeDeferred hK2, ?_⟩⟩
                  refine ⟨_, res12 rfl ((cell_putObj _ (Ne.symm HDW.out)).trans (World.cell?_setCell_same' _ _ _ (by rw [r0]; rfl))), rfl, ?_⟩
                  exact below_putObj HBL.out (by have := HL2.out; omega) _
                case stop =>
                  rintro D c pre W hD _ h _
                  exact h.elim
  · obtain ⟨r0, z0, hbel⟩ := HEND.out w2 HB2.out
    have HBL := Lib.hid hbel
    clear hbel
    go_wp2
    exact ⟨_, res12 rfl (World.cell?_setCell_same' _ _ _ (by rw [r0]; rfl)), rfl, HBL.out⟩
end Go.Proofs.Ytoakelgcbbbieaa
