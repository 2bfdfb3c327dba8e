/- The faults of lines, the document's, walked. -/
import Derived.Test.YtoakelgcbbbieaaSl
import Derived.Test.YtoakelgcbbbieaaSn
namespace Go.Proofs.Ytoakelgcbbbieaa
open Go.RowKit Go.Maps Go.Shelf Go.Proofs.YtoakelgcbbbieaaW.PrintWords Go.Proofs.YtoakelgcbbbieaaW.PrintLast Go.Proofs.YtoakelgcbbbieaaW.PrintMore
set_option linter.unusedVariables false
set_option linter.unusedSimpArgs false
set_option maxRecDepth 100000
attribute [local go_sem] Oper.semAt_some
attribute [local go_sem ↓] Go.wp_at_zero Go.wp_at_succ

/-- the two tables tell the same files and places -/
def AgF (xs : List S124) (rs : List S145) : Prop := xs.map (fun x => (x.f0, x.f1.f2.f1)) = rs.map (fun y => (y.f0, y.f1.f2.f1))
theorem AgF.at_ {xs : List S124} {rs : List S145} (h : AgF xs rs) (k : Nat) (hk : k < xs.length) : (rd_T145 rs k).f0 = (rd_T124 xs k).f0 ∧ (rd_T145 rs k).f1.f2.f1 = (rd_T124 xs k).f1.f2.f1 := by
  have hl : rs.length = xs.length := by have := congrArg List.length h; simpa using this.symm
  have e := congrArg (fun l => l[k]?) h
  simp only [List.getElem?_map, List.getElem?_eq_getElem hk, List.getElem?_eq_getElem (show k < rs.length by omega), Option.map_some] at e
  injection e with e
  have e1 : rd_T124 xs k = xs[k] := rd124 hk
  have e2 : rd_T145 rs k = rs[k]'(by omega) := by unfold rd_T145; rw [Int.toNat_natCast, List.getD_eq_getElem?_getD, List.getElem?_eq_getElem (by omega)]; rfl
  rw [e1, e2]
  simp only [Prod.mk.injEq] at e
  exact ⟨e.1.symm, e.2.symm⟩

/-- the faults of the first j classes -/
def lineUp (xs : List S124) (j : Nat) : List S113 := (sees xs j).flatMap (fOf xs)
theorem lineUp_succ (xs : List S124) (j : Nat) : lineUp xs (j + 1) = lineUp xs j ++ fOf xs ((j : Int), rd_T124 xs (j : Int)) := by
  unfold lineUp; rw [sees_succ, List.flatMap_append]; simp
theorem lineUp_len (xs : List S124) (j : Nat) : (lineUp xs j).length ≤ j := by
  have := fOfs_len xs (sees xs j)
  rwa [sees_len] at this
theorem lineUp_all (xs : List S124) : lineUp xs xs.length = lineFs xs := rfl

theorem RAtF {w : World} {A : Option Addr} {n : Nat} {xs : List S124} {rs : List S145} (h : Kd.C k145 w A n rs) (ag : Ag xs rs) (af : AgF xs rs) (k : Nat) (hk : k < n) : ∃ ad, A = some ad ∧ w.cell? (ad.add (k * 11)) = some (.int .i64 (rd_T124 xs k).f0) ∧ w.cell? ⟨(ad.add (k * 11)).block, (ad.add (k * 11)).off + 1, none⟩ = some (.bool (rd_T124 xs k).f1.f0) ∧
    w.cell? ⟨(ad.add (k * 11)).block, (ad.add (k * 11)).off + 4, none⟩ = some (.string (rd_T124 xs k).f1.f2.f0) ∧ w.cell? ⟨(ad.add (k * 11)).block, (ad.add (k * 11)).off + 5, none⟩ = some (.int .i64 (rd_T124 xs k).f1.f2.f1) := by
  obtain ⟨ad, A6, c6, A7, c7, A10, c10, rfl, hx0, hx1, hx2, hx3, hx4, hx5, -⟩ := at_T145 h (k : Int) (by omega) (by omega)
  rw [Int.toNat_natCast] at hx0 hx1 hx4 hx5
  have hl := C_len h
  have hl2 := ag.len
  obtain ⟨h1, h2, h3⟩ := ag.at_ k (by omega)
  obtain ⟨h4, h5⟩ := af.at_ k (by omega)
  rw [h3] at hx1; rw [h2] at hx4; rw [h4] at hx0; rw [h5] at hx5
  exact ⟨ad, rfl, hx0, hx1, hx4, hx5⟩

theorem set2 {W : World} {b : Nat} {a c d u : Value} {t : TypeId} (h : W.heap[b]? = some (.cells #[a, c, d] t (0, 0))) : (W.setCell ⟨b, 2, none⟩ u).heap[b]? = some (.cells #[a, c, u] t (0, 0)) := by
  obtain ⟨hlt, hk⟩ := Array.getElem?_eq_some_iff.1 h
  show (W.heap.modify b _)[b]? = _
  rw [Array.getElem?_eq_getElem (by rw [Array.size_modify]; exact hlt), Array.getElem_modify_self, hk]
  rfl

set_option maxHeartbeats 2000000 in
theorem RFaults_calls {w : World} {A : Option Addr} {n c : Nat} {xs : List S124} {rs : List S145} (h : Kd.C k145 w A n rs) (ag : Ag xs rs) (af : AgF xs rs) (hsh : xs.length ≤ 1000000) :
    Calls Try.prog 56 #[.slice A n c] w fun e w' => ∃ A' c', e = .returned (.slice A' (setF (lineFs xs)).length c') ∧ Kd.C k113 w' A' (setF (lineFs xs)).length (setF (lineFs xs)) ∧ Below w.heap.size w w' := by
  have hl : n = xs.length := (C_len h).symm.trans ag.len
  subst hl
  have H := Lib.hid h
  have AG := Lib.hid ag
  have AF := Lib.hid af
  clear h ag af
  go_enter Try.func56, Try.ntmps56
  go_wp2
  go_loopw [3, 4] (fun v3 v4 wr => ∃ j : Nat, j ≤ xs.length ∧ v4 = .int .i64 j ∧ Hid (Below w.heap.size w wr) ∧ ∃ A' c', v3 = .slice A' (setF (lineUp xs j)).length c' ∧ Hid ((setF (lineUp xs j)).length ≤ c') ∧ Hid (Kd.C k113 wr A' (setF (lineUp xs j)).length (setF (lineUp xs j)))) (fun v3 v4 wr => xs.length - (intOf v4).toNat)
  case atStart => exact ⟨0, Nat.zero_le _, rfl, Below.refl _ _, none, 0, rfl, Nat.le_refl _, Kd.C_nil _ _⟩
  case round =>
    obtain ⟨j, hj, rfl, hBr, A', c', rfl, hcc, hCC⟩ := hrel
    have hls := lineUp_len xs j
    have hss := len_setF (lineUp xs j)
    by_cases hlt : j < xs.length
    · obtain ⟨ad, rfl, hx0, hx1, hx4, hx5⟩ := RAtF H.out AG.out AF.out j hlt
      replace hx0 := cell_later hBr.out hx0
      replace hx4 := cell_later hBr.out hx4
      replace hx5 := cell_later hBr.out hx5
      clear hx1
      obtain ⟨x, hx⟩ : ∃ x, x = rd_T124 xs (j : Int) := ⟨_, rfl⟩
      rw [← hx] at hx0 hx4 hx5
      have HX := Lib.hid hx
      clear hx
      cases hs : ((((x.f1.f2.f0.size : Nat) : Int)) == 0)
      · have hne : ¬ (x.f1.f2.f0.toList == []) = true := by
          have := empty_size x.f1.f2.f0
          rw [hs] at this
          simpa using this
        have HFO := Lib.hid (show fOf xs ((j : Int), x) = if faultOf xs j x.f1.f2.f0 = 0 then [] else [⟨x.f0, x.f1.f2.f1, faultOf xs j x.f1.f2.f0⟩] by
          unfold fOf; rw [if_neg hne])
        clear hne
        go_wp2_with fail
        obtain ⟨w1, hw1⟩ : ∃ w1, w1 = wr.alloc (.cells #[.string x.f1.f2.f0, .int .i64 x.f1.f2.f1] 72) := ⟨_, rfl⟩
        have hB1 : Below w.heap.size w w1 := by rw [hw1]; exact hBr.out.alloc hBr.out.size _
        have hk1 : w1.heap[wr.heap.size]? = some (.cells #[.string x.f1.f2.f0, .int .i64 x.f1.f2.f1] 72 (0, 0)) := by rw [hw1]; exact heap_alloc_new wr _
        have hx0' : w1.cell? (ad.add (j * 11)) = some (.int .i64 x.f0) := by rw [hw1]; exact cell_later ((Below.refl _ _).alloc (Nat.le_refl _) _) hx0
        have s1 : w1.cell? ⟨wr.heap.size, 1, none⟩ = some (.int .i64 x.f1.f2.f1) := (cell_blk hk1 1).trans rfl
        have hC1 : Kd.C k113 w1 A' (setF (lineUp xs j)).length (setF (lineUp xs j)) := by rw [hw1]; exact Kd.C_alloc hCC.out _
        rw [← hw1]
        have HB1 := Lib.hid hB1
        have HK1 := Lib.hid hk1
        have HC1 := Lib.hid hC1
        obtain ⟨b5, hb5⟩ : ∃ b5, b5 = wr.heap.size := ⟨_, rfl⟩
        rw [← hb5] at s1 HK1 ⊢
        have hjl : (j : Int) < (xs.length : Int) := by omega
        have h0j : (0 : Int) ≤ (j : Int) := by omega
        clear hw1 hB1 hk1 hC1 hx0 hx4 hx5 hb5
        have hn1 := World.new_ne w1 _ hx0'
        have hn2 := World.new_ne w1 _ s1
        go_region_held3 (fun w' => w'.cell? (ad.add (j * 11)) = some (.int .i64 x.f0) ∧ w'.cell? ⟨b5, 1, none⟩ = some (.int .i64 x.f1.f2.f1)) (go_keep) (fail)
        clear hn1 hn2 hx0' s1
        obtain ⟨w2, hw2⟩ : ∃ w2, w2 = (w1.alloc (.cells #[.int .i64 x.f0, .int .i64 x.f1.f2.f1, .int .i64 0] 113)).drew := ⟨_, rfl⟩
        have hk2 : w2.heap[w1.heap.size]? = some (.cells #[.int .i64 x.f0, .int .i64 x.f1.f2.f1, .int .i64 0] 113 (0, 0)) := by rw [hw2]; exact heap_alloc_new w1 _
        have hB2 : Below w1.heap.size w1 w2 := by rw [hw2]; exact ((Below.refl _ _).alloc (Nat.le_refl _) _).drew
        rw [← hw2]
        have HK2 := Lib.hid hk2
        have HB2 := Lib.hid hB2
        clear hw2 hk2 hB2
        have s0 : w2.cell? ⟨b5, 0, none⟩ = some (.string x.f1.f2.f0) := cell_later HB2.out ((cell_blk HK1.out 0).trans rfl)
        have hl1 := HB1.out.size
        have HH2 := Lib.hid (Kd.C_below H.out (HB1.out.trans (HB2.out.mono HB1.out.size)))
        cases hf : fnd xs x.f1.f2.f0 with
        | none =>
            have HFA := Lib.hid (show faultOf xs j x.f1.f2.f0 = 5 by unfold faultOf; rw [hf])
            have HU := Lib.hid (show setF (lineUp xs (j + 1)) = putF ⟨x.f0, x.f1.f2.f1, 5⟩ (setF (lineUp xs j)) by
              rw [lineUp_succ, ← HX.out, HFO.out, HFA.out, if_neg (by decide), setF_snoc])
            have HF := Lib.hid hf
            clear hf
            have y0 : w2.cell? ⟨w1.heap.size, 0, none⟩ = some (.int .i64 x.f0) := (cell_blk HK2.out 0).trans rfl
            have y1 : w2.cell? ⟨w1.heap.size, 1, none⟩ = some (.int .i64 x.f1.f2.f1) := (cell_blk HK2.out 1).trans rfl
            have y2 : w2.cell? ⟨w1.heap.size, 2, none⟩ = some (.int .i64 0) := (cell_blk HK2.out 2).trans rfl
            have z2 := frozen_blk HK2.out 2
            go_wp2_with (go_at_call 63; refine (RFind_calls HH2.out AG.out _).mono ?_; rintro e w3 ⟨rfl, rfl⟩; rw [HF.out, optI_none])
            obtain ⟨w5, hw5⟩ : ∃ w5, w5 = w2.setCell ⟨w1.heap.size, 2, none⟩ (.int .i64 5) := ⟨_, rfl⟩
            have hk5 : w5.heap[w1.heap.size]? = some (.cells #[.int .i64 x.f0, .int .i64 x.f1.f2.f1, .int .i64 5] 113 (0, 0)) := by rw [hw5]; exact set2 HK2.out
            have hB5 : Below w1.heap.size w1 w5 := by rw [hw5]; exact HB2.out.setCell (p := ⟨w1.heap.size, 2, none⟩) (Nat.le_refl _) _
            rw [← hw5]
            clear hw5
            have HB5 := Lib.hid hB5
            clear hk5 hB5
            refine (Put_calls (Kd.C_below HC1.out HB5.out) hcc.out (by omega) ⟨x.f0, x.f1.f2.f1, 5⟩).mono ?_
            rintro e w6 ⟨A2, c2, rfl, hc2, hC2, hB6⟩
            rw [← HU.out] at hc2 hC2 ⊢
            have HB6 := Lib.hid (HB1.out.trans ((HB5.out.trans (hB6.mono HB5.out.size)).mono HB1.out.size))
            have HC2 := Lib.hid hC2
            have Hc2 := Lib.hid hc2
            clear hC2 hc2 hB6 y0 y1 y2
            go_wp2
            go_roundw
            case rel => exact ⟨j + 1, by omega, by go_num, HB6.out, A2, c2, rfl, Hc2.out, HC2.out⟩
            case measure => simp [intOf]; omega
        | some k =>
            have hk := fnd_lt hf
            have HF := Lib.hid hf
            obtain ⟨ad2, had, -, hm1, -, -⟩ := RAtF HH2.out AG.out AF.out k hk
            injection had with had
            subst had
            have hkl : (k : Int) < (xs.length : Int) := by omega
            have h0k : (0 : Int) ≤ (k : Int) := by omega
            cases hm : (rd_T124 xs k).f1.f0
            · rw [hm] at hm1
              cases hc : circB xs (j : Int)
              · have HFA := Lib.hid (show faultOf xs j x.f1.f2.f0 = 0 by unfold faultOf; rw [hf]; simp only; rw [if_neg (by rw [hm]; decide), if_neg (by rw [hc]; decide)])
                have HU := Lib.hid (show lineUp xs (j + 1) = lineUp xs j by
                  rw [lineUp_succ, ← HX.out, HFO.out, HFA.out, if_pos rfl, List.append_nil])
                have HCI := Lib.hid hc
                clear hf hm hc hk
                go_wp2_with (first
                  | (go_at_call 63; refine (RFind_calls HH2.out AG.out _).mono ?_; rintro e w3 ⟨rfl, rfl⟩; rw [HF.out, optI_some])
                  | (go_at_call 53; refine (RCircular_calls HH2.out AG.out (by omega) (j : Int)).mono ?_; rintro e w3 ⟨rfl, hb3⟩; rw [HCI.out]))
                go_roundw
                case rel => exact ⟨j + 1, by omega, by go_num, HB1.out.trans ((HB2.out.trans (hb3.mono HB2.out.size)).mono HB1.out.size), A', c', by rw [HU.out], by rw [HU.out]; exact hcc.out, by rw [HU.out]; exact Kd.C_below HC1.out (HB2.out.trans (hb3.mono HB2.out.size))⟩
                case measure => simp [intOf]; omega
              · have HFA := Lib.hid (show faultOf xs j x.f1.f2.f0 = 14 by unfold faultOf; rw [hf]; simp only; rw [if_neg (by rw [hm]; decide), if_pos hc])
                have HU := Lib.hid (show setF (lineUp xs (j + 1)) = putF ⟨x.f0, x.f1.f2.f1, 14⟩ (setF (lineUp xs j)) by
                  rw [lineUp_succ, ← HX.out, HFO.out, HFA.out, if_neg (by decide), setF_snoc])
                have HCI := Lib.hid hc
                clear hf hm hc hk
                go_wp2_with (first
                  | (go_at_call 63; refine (RFind_calls HH2.out AG.out _).mono ?_; rintro e w3 ⟨rfl, rfl⟩; rw [HF.out, optI_some])
                  | (go_at_call 53; refine (RCircular_calls HH2.out AG.out (by omega) (j : Int)).mono ?_; rintro e w3 ⟨rfl, hb3⟩; rw [HCI.out]; have hk3 := (hb3.block _ (Array.getElem?_eq_some_iff.1 HK2.out).1).trans HK2.out; have y0 : w3.cell? ⟨w1.heap.size, 0, none⟩ = some (.int .i64 x.f0) := (cell_blk hk3 0).trans rfl; have y1 : w3.cell? ⟨w1.heap.size, 1, none⟩ = some (.int .i64 x.f1.f2.f1) := (cell_blk hk3 1).trans rfl; have y2 : w3.cell? ⟨w1.heap.size, 2, none⟩ = some (.int .i64 0) := (cell_blk hk3 2).trans rfl; have z2 := frozen_blk hk3 2; have HK3 := Lib.hid hk3; have HB3 := Lib.hid (HB2.out.trans (hb3.mono HB2.out.size)); clear hk3 hb3))
                obtain ⟨w5, hw5⟩ : ∃ w5, w5 = w3.setCell ⟨w1.heap.size, 2, none⟩ (.int .i64 14) := ⟨_, rfl⟩
                have hk5 : w5.heap[w1.heap.size]? = some (.cells #[.int .i64 x.f0, .int .i64 x.f1.f2.f1, .int .i64 14] 113 (0, 0)) := by rw [hw5]; exact set2 HK3.out
                have hB5 : Below w1.heap.size w1 w5 := by rw [hw5]; exact HB3.out.setCell (p := ⟨w1.heap.size, 2, none⟩) (Nat.le_refl _) _
                rw [← hw5]
                clear hw5
                have HB5 := Lib.hid hB5
                clear hk5 hB5
                refine (Put_calls (Kd.C_below HC1.out HB5.out) hcc.out (by omega) ⟨x.f0, x.f1.f2.f1, 14⟩).mono ?_
                rintro e w6 ⟨A2, c2, rfl, hc2, hC2, hB6⟩
                rw [← HU.out] at hc2 hC2 ⊢
                have HB6 := Lib.hid (HB1.out.trans ((HB5.out.trans (hB6.mono HB5.out.size)).mono HB1.out.size))
                have HC2 := Lib.hid hC2
                have Hc2 := Lib.hid hc2
                clear hC2 hc2 hB6 y0 y1 y2
                go_wp2
                go_roundw
                case rel => exact ⟨j + 1, by omega, by go_num, HB6.out, A2, c2, rfl, Hc2.out, HC2.out⟩
                case measure => simp [intOf]; omega
            · rw [hm] at hm1
              have HFA := Lib.hid (show faultOf xs j x.f1.f2.f0 = 9 by unfold faultOf; rw [hf]; simp only; rw [if_pos hm])
              have HU := Lib.hid (show setF (lineUp xs (j + 1)) = putF ⟨x.f0, x.f1.f2.f1, 9⟩ (setF (lineUp xs j)) by
                rw [lineUp_succ, ← HX.out, HFO.out, HFA.out, if_neg (by decide), setF_snoc])
              clear hf hm hk
              have y0 : w2.cell? ⟨w1.heap.size, 0, none⟩ = some (.int .i64 x.f0) := (cell_blk HK2.out 0).trans rfl
              have y1 : w2.cell? ⟨w1.heap.size, 1, none⟩ = some (.int .i64 x.f1.f2.f1) := (cell_blk HK2.out 1).trans rfl
              have y2 : w2.cell? ⟨w1.heap.size, 2, none⟩ = some (.int .i64 0) := (cell_blk HK2.out 2).trans rfl
              have z2 := frozen_blk HK2.out 2
              go_wp2_with (go_at_call 63; refine (RFind_calls HH2.out AG.out _).mono ?_; rintro e w3 ⟨rfl, rfl⟩; rw [HF.out, optI_some])
              obtain ⟨w5, hw5⟩ : ∃ w5, w5 = w2.setCell ⟨w1.heap.size, 2, none⟩ (.int .i64 9) := ⟨_, rfl⟩
              have hk5 : w5.heap[w1.heap.size]? = some (.cells #[.int .i64 x.f0, .int .i64 x.f1.f2.f1, .int .i64 9] 113 (0, 0)) := by rw [hw5]; exact set2 HK2.out
              have hB5 : Below w1.heap.size w1 w5 := by rw [hw5]; exact HB2.out.setCell (p := ⟨w1.heap.size, 2, none⟩) (Nat.le_refl _) _
              rw [← hw5]
              clear hw5
              have HB5 := Lib.hid hB5
              clear hk5 hB5
              refine (Put_calls (Kd.C_below HC1.out HB5.out) hcc.out (by omega) ⟨x.f0, x.f1.f2.f1, 9⟩).mono ?_
              rintro e w6 ⟨A2, c2, rfl, hc2, hC2, hB6⟩
              rw [← HU.out] at hc2 hC2 ⊢
              have HB6 := Lib.hid (HB1.out.trans ((HB5.out.trans (hB6.mono HB5.out.size)).mono HB1.out.size))
              have HC2 := Lib.hid hC2
              have Hc2 := Lib.hid hc2
              clear hC2 hc2 hB6 y0 y1 y2
              go_wp2
              go_roundw
              case rel => exact ⟨j + 1, by omega, by go_num, HB6.out, A2, c2, rfl, Hc2.out, HC2.out⟩
              case measure => simp [intOf]; omega
      · have HU := Lib.hid (show lineUp xs (j + 1) = lineUp xs j by
          rw [lineUp_succ, ← HX.out]
          unfold fOf
          rw [if_pos, List.append_nil]
          have := empty_size x.f1.f2.f0
          rw [hs] at this
          simpa using this)
        go_wp2_with fail
        go_roundw
        case rel => exact ⟨j + 1, by omega, by go_num, hBr.out.alloc hBr.out.size _, A', c', by rw [HU.out], by rw [HU.out]; exact hcc.out, by rw [HU.out]; exact Kd.C_alloc hCC.out _⟩
        case measure => simp [intOf]; omega
    · obtain rfl : j = xs.length := by omega
      rw [lineUp_all] at hCC ⊢
      go_wp2
      go_ret
      exact ⟨A', c', rfl, hCC.out, hBr.out⟩
end Go.Proofs.Ytoakelgcbbbieaa
