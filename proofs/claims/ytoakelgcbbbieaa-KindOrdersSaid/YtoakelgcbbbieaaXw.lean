/- The statement KindOrders, walked: for any heads and any three names. -/
import Derived.Test.YtoakelgcbbbieaaQ
import Derived.Test.YtoakelgcbbbieaaP
import Derived.Test.YtoakelgcbbbieaaXo
import Derived.Deep.AppendLies
import Derived.Deep.DrawnRows
import Derived.Deep.RegionLaw
import Derived.StillTailTactics
import Derived.Deep.DeepCutAuto
namespace Go.Proofs.Ytoakelgcbbbieaa
open Go.RowKit Go.Maps Go.Proofs.YtoakelgcbbbieaaW.PrintWords Go.Proofs.YtoakelgcbbbieaaW.PrintLast Go.Proofs.YtoakelgcbbbieaaW.PrintMore
set_option linter.unusedVariables false
set_option linter.unusedSimpArgs false
set_option maxRecDepth 100000
attribute [local go_sem ↓] Go.wp_at_zero Go.wp_at_succ

theorem KindOrders_walk {w : World} {A : Option Addr} {n c : Nat} {hs : List S129} (h : Kd.C k129 w A n hs) (hn : ∀ x ∈ hs, okHead x) (a b d : ByteArray) (ha : a.size ≤ maxLen) (hb : b.size ≤ maxLen) (hd : d.size ≤ maxLen) :
    Calls Try.prog 4 #[.slice A n c, .agg #[.string a, .string b, .string d]] w fun e w' => e = .returned (.bool true) ∧ Below w.heap.size w w' := by
  have H := Lib.hid h
  have HN := Lib.hid hn
  have HA := Lib.hid ha
  have HB := Lib.hid hb
  have HD := Lib.hid hd
  clear h hn ha hb hd
  go_enter Try.func4, Try.ntmps4
  go_wp2_with fail
  obtain ⟨w0, hw0⟩ : ∃ w0, w0 = w.alloc (.cells #[.string a, .string b, .string d] 39) := ⟨_, rfl⟩
  have HK := Lib.hid (show w0.heap[w.heap.size]? = some (.cells #[.string a, .string b, .string d] 39 (0, 0)) by rw [hw0]; exact heap_alloc_new _ _)
  have HB0 := Lib.hid (show Below w.heap.size w w0 by rw [hw0]; exact (Below.refl _ _).alloc (Nat.le_refl _) _)
  rw [← hw0]
  clear hw0
  refine (alive16_calls _).mono ?_
  rintro e w1 ⟨rfl, hb1⟩
  go_wp2_with fail
  refine (Large_calls (Kd.C_below H.out (HB0.out.trans (hb1.mono HB0.out.size)))).mono ?_
  rintro e w2 ⟨L, rfl, hL, hb2⟩
  have HB1 := Lib.hid (hb1.trans (hb2.mono hb1.size))
  have HB2 := Lib.hid (HB0.out.trans (HB1.out.mono HB0.out.size))
  have HL := Lib.hid hL
  clear hb1 hb2 hL
  cases L
  · have hc0 : w2.cell? ⟨w.heap.size, 0, none⟩ = some (.string a) := cell_later HB1.out ((cell_blk HK.out 0).trans rfl)
    have hc1 : w2.cell? ⟨w.heap.size, 1, none⟩ = some (.string b) := cell_later HB1.out ((cell_blk HK.out 1).trans rfl)
    have hc2 : w2.cell? ⟨w.heap.size, 2, none⟩ = some (.string d) := cell_later HB1.out ((cell_blk HK.out 2).trans rfl)
    go_wp2_with fail
    all_goals first
      | (go_ret; exact ⟨rfl, HB2.out⟩)
      | skip
    refine (Tables_calls (Kd.C_below H.out HB2.out) (by have := HL.out trivial; omega) (fun x hx => ⟨(HN.out x hx).1, (HN.out x hx).2.1⟩)).mono ?_
    rintro e w3 ⟨tb, B, dd, rfl, hT, hdd, hC, hB3⟩
    have HT := Lib.hid hT
    have HB3 := Lib.hid (show Below w.heap.size w w3 from HB2.out.trans (hB3.mono HB2.out.size))
    have hB3' : Below w0.heap.size w0 w3 := HB1.out.trans (hB3.mono HB1.out.size)
    clear hT hC hB3 hc0 hc1 hc2
    have hc0 : w3.cell? ⟨w.heap.size, 0, none⟩ = some (.string a) := cell_later hB3' ((cell_blk HK.out 0).trans rfl)
    have hc1 : w3.cell? ⟨w.heap.size, 1, none⟩ = some (.string b) := cell_later hB3' ((cell_blk HK.out 1).trans rfl)
    have hc2 : w3.cell? ⟨w.heap.size, 2, none⟩ = some (.string d) := cell_later hB3' ((cell_blk HK.out 2).trans rfl)
    clear hB3'
    go_wp2_with fail
    go_quiet (fail)
    obtain ⟨w4, hw4⟩ : ∃ w4, w4 = w3.drewN nq := ⟨_, rfl⟩
    have T4 := Lib.hid (show Tab w4 tb (entsH hs) (mainOf (entsH hs)) by rw [hw4]; exact HT.out.later (pw_below_drewN (Below.refl _ _) nq))
    have B4 := Lib.hid (show Below w.heap.size w w4 by rw [hw4]; exact pw_below_drewN HB3.out nq)
    rw [← hw4]
    clear hw4 hc0 hc1 hc2
    have hself := fits_self (entsH hs) a
    cases hfab : fitsB (entsH hs) a b
    · obtain ⟨ka, hka⟩ : ∃ k, k = knownB (entsH hs) a := ⟨_, rfl⟩
      rw [← hka] at hself
      have HKA := Lib.hid hka.symm
      have HAA := Lib.hid hself
      have HAB := Lib.hid hfab
      clear hka hself hfab
      cases hba : basicB a
      all_goals
        have HBA := Lib.hid hba
        clear hba
        cases ka
      · skip
        go_wp2_with fail
        refine (Known_calls T4.out a HA.out).mono ?_
        rintro e w5 ⟨rfl, hq⟩
        rw [HKA.out]
        have T5 := Lib.hid (T4.out.later hq)
        have B5 := Lib.hid (B4.out.trans (hq.mono B4.out.size))
        clear hq
        go_wp2_with fail
        refine (Fits_calls T5.out a a HA.out HA.out).mono ?_
        rintro e w6 ⟨rfl, hq⟩
        rw [HAA.out]
        have T6 := Lib.hid (T5.out.later hq)
        have B6 := Lib.hid (B5.out.trans (hq.mono B5.out.size))
        clear hq
        go_wp2_with fail
        refine (Fits_calls T6.out a b HA.out HB.out).mono ?_
        rintro e w7 ⟨rfl, hq⟩
        rw [HAB.out]
        have T7 := Lib.hid (T6.out.later hq)
        have B7 := Lib.hid (B6.out.trans (hq.mono B6.out.size))
        clear hq
        go_wp2_with fail
        refine (Basic_calls a _).mono ?_
        rintro e v ⟨rfl, rfl⟩
        rw [HBA.out]
        go_wp2_with fail
        refine (Fits_calls T7.out a b HA.out HB.out).mono ?_
        rintro e w8 ⟨rfl, hq⟩
        rw [HAB.out]
        have T8 := Lib.hid (T7.out.later hq)
        have B8 := Lib.hid (B7.out.trans (hq.mono B7.out.size))
        clear hq
        go_wp2
        go_ret
        exact ⟨rfl, B8.out⟩
      · skip
        go_wp2_with fail
        refine (Known_calls T4.out a HA.out).mono ?_
        rintro e w5 ⟨rfl, hq⟩
        rw [HKA.out]
        have T5 := Lib.hid (T4.out.later hq)
        have B5 := Lib.hid (B4.out.trans (hq.mono B4.out.size))
        clear hq
        go_wp2_with fail
        refine (Fits_calls T5.out a a HA.out HA.out).mono ?_
        rintro e w6 ⟨rfl, hq⟩
        rw [HAA.out]
        have T6 := Lib.hid (T5.out.later hq)
        have B6 := Lib.hid (B5.out.trans (hq.mono B5.out.size))
        clear hq
        go_wp2_with fail
        refine (Fits_calls T6.out a b HA.out HB.out).mono ?_
        rintro e w7 ⟨rfl, hq⟩
        rw [HAB.out]
        have T7 := Lib.hid (T6.out.later hq)
        have B7 := Lib.hid (B6.out.trans (hq.mono B6.out.size))
        clear hq
        go_wp2_with fail
        refine (Basic_calls a _).mono ?_
        rintro e v ⟨rfl, rfl⟩
        rw [HBA.out]
        go_wp2_with fail
        refine (Fits_calls T7.out a b HA.out HB.out).mono ?_
        rintro e w8 ⟨rfl, hq⟩
        rw [HAB.out]
        have T8 := Lib.hid (T7.out.later hq)
        have B8 := Lib.hid (B7.out.trans (hq.mono B7.out.size))
        clear hq
        go_wp2
        go_ret
        exact ⟨rfl, B8.out⟩
      · skip
        go_wp2_with fail
        refine (Known_calls T4.out a HA.out).mono ?_
        rintro e w5 ⟨rfl, hq⟩
        rw [HKA.out]
        have T5 := Lib.hid (T4.out.later hq)
        have B5 := Lib.hid (B4.out.trans (hq.mono B4.out.size))
        clear hq
        go_wp2_with fail
        refine (Fits_calls T5.out a a HA.out HA.out).mono ?_
        rintro e w6 ⟨rfl, hq⟩
        rw [HAA.out]
        have T6 := Lib.hid (T5.out.later hq)
        have B6 := Lib.hid (B5.out.trans (hq.mono B5.out.size))
        clear hq
        go_wp2_with fail
        refine (Fits_calls T6.out a b HA.out HB.out).mono ?_
        rintro e w7 ⟨rfl, hq⟩
        rw [HAB.out]
        have T7 := Lib.hid (T6.out.later hq)
        have B7 := Lib.hid (B6.out.trans (hq.mono B6.out.size))
        clear hq
        go_wp2_with fail
        refine (Basic_calls a _).mono ?_
        rintro e v ⟨rfl, rfl⟩
        rw [HBA.out]
        go_wp2_with fail
        refine (Fits_calls T7.out a b HA.out HB.out).mono ?_
        rintro e w8 ⟨rfl, hq⟩
        rw [HAB.out]
        have T8 := Lib.hid (T7.out.later hq)
        have B8 := Lib.hid (B7.out.trans (hq.mono B7.out.size))
        clear hq
        go_wp2_with fail
        refine (Fits_calls T8.out a b HA.out HB.out).mono ?_
        rintro e w9 ⟨rfl, hq⟩
        rw [HAB.out]
        have T9 := Lib.hid (T8.out.later hq)
        have B9 := Lib.hid (B8.out.trans (hq.mono B8.out.size))
        clear hq
        go_wp2
        go_ret
        exact ⟨rfl, B9.out⟩
      · skip
        go_wp2_with fail
        refine (Known_calls T4.out a HA.out).mono ?_
        rintro e w5 ⟨rfl, hq⟩
        rw [HKA.out]
        have T5 := Lib.hid (T4.out.later hq)
        have B5 := Lib.hid (B4.out.trans (hq.mono B4.out.size))
        clear hq
        go_wp2_with fail
        refine (Fits_calls T5.out a a HA.out HA.out).mono ?_
        rintro e w6 ⟨rfl, hq⟩
        rw [HAA.out]
        have T6 := Lib.hid (T5.out.later hq)
        have B6 := Lib.hid (B5.out.trans (hq.mono B5.out.size))
        clear hq
        go_wp2_with fail
        refine (Fits_calls T6.out a b HA.out HB.out).mono ?_
        rintro e w7 ⟨rfl, hq⟩
        rw [HAB.out]
        have T7 := Lib.hid (T6.out.later hq)
        have B7 := Lib.hid (B6.out.trans (hq.mono B6.out.size))
        clear hq
        go_wp2_with fail
        refine (Basic_calls a _).mono ?_
        rintro e v ⟨rfl, rfl⟩
        rw [HBA.out]
        go_wp2_with fail
        refine (Fits_calls T7.out a b HA.out HB.out).mono ?_
        rintro e w8 ⟨rfl, hq⟩
        rw [HAB.out]
        have T8 := Lib.hid (T7.out.later hq)
        have B8 := Lib.hid (B7.out.trans (hq.mono B7.out.size))
        clear hq
        go_wp2_with fail
        refine (Fits_calls T8.out a b HA.out HB.out).mono ?_
        rintro e w9 ⟨rfl, hq⟩
        rw [HAB.out]
        have T9 := Lib.hid (T8.out.later hq)
        have B9 := Lib.hid (B8.out.trans (hq.mono B8.out.size))
        clear hq
        go_wp2
        go_ret
        exact ⟨rfl, B9.out⟩
    · have HKA := Lib.hid (fits_known hfab).1
      have HKB := Lib.hid (fits_known hfab).2
      have HAA := Lib.hid (hself.trans HKA.out)
      have HAB := Lib.hid hfab
      have hac : fitsB (entsH hs) b d = true → fitsB (entsH hs) a d = true := fun h => fits_trans hfab h
      have hbe : basicB a = true → (a.toList == b.toList) = true := fun h => by rw [fits_basic h hfab]; simp
      clear hself hfab
      cases hba : basicB a
      all_goals
        have HBA := Lib.hid hba
        first | (have he := hbe hba) | skip
        clear hba hbe
        cases hbd : fitsB (entsH hs) b d
        all_goals
          have HBD := Lib.hid hbd
          first | (have HAD := Lib.hid (hac hbd)) | skip
          clear hbd hac
      · skip
        go_wp2_with fail
        refine (Known_calls T4.out a HA.out).mono ?_
        rintro e w5 ⟨rfl, hq⟩
        rw [HKA.out]
        have T5 := Lib.hid (T4.out.later hq)
        have B5 := Lib.hid (B4.out.trans (hq.mono B4.out.size))
        clear hq
        go_wp2_with fail
        refine (Fits_calls T5.out a a HA.out HA.out).mono ?_
        rintro e w6 ⟨rfl, hq⟩
        rw [HAA.out]
        have T6 := Lib.hid (T5.out.later hq)
        have B6 := Lib.hid (B5.out.trans (hq.mono B5.out.size))
        clear hq
        go_wp2_with fail
        refine (Fits_calls T6.out a b HA.out HB.out).mono ?_
        rintro e w7 ⟨rfl, hq⟩
        rw [HAB.out]
        have T7 := Lib.hid (T6.out.later hq)
        have B7 := Lib.hid (B6.out.trans (hq.mono B6.out.size))
        clear hq
        go_wp2_with fail
        refine (Known_calls T7.out a HA.out).mono ?_
        rintro e w8 ⟨rfl, hq⟩
        rw [HKA.out]
        have T8 := Lib.hid (T7.out.later hq)
        have B8 := Lib.hid (B7.out.trans (hq.mono B7.out.size))
        clear hq
        go_wp2_with fail
        refine (Known_calls T8.out b HB.out).mono ?_
        rintro e w9 ⟨rfl, hq⟩
        rw [HKB.out]
        have T9 := Lib.hid (T8.out.later hq)
        have B9 := Lib.hid (B8.out.trans (hq.mono B8.out.size))
        clear hq
        go_wp2_with fail
        refine (Basic_calls a _).mono ?_
        rintro e v ⟨rfl, rfl⟩
        rw [HBA.out]
        go_wp2_with fail
        refine (Fits_calls T9.out a b HA.out HB.out).mono ?_
        rintro e w10 ⟨rfl, hq⟩
        rw [HAB.out]
        have T10 := Lib.hid (T9.out.later hq)
        have B10 := Lib.hid (B9.out.trans (hq.mono B9.out.size))
        clear hq
        go_wp2_with fail
        refine (Fits_calls T10.out b d HB.out HD.out).mono ?_
        rintro e w11 ⟨rfl, hq⟩
        rw [HBD.out]
        have T11 := Lib.hid (T10.out.later hq)
        have B11 := Lib.hid (B10.out.trans (hq.mono B10.out.size))
        clear hq
        go_wp2
        go_ret
        exact ⟨rfl, B11.out⟩
      · skip
        go_wp2_with fail
        refine (Known_calls T4.out a HA.out).mono ?_
        rintro e w5 ⟨rfl, hq⟩
        rw [HKA.out]
        have T5 := Lib.hid (T4.out.later hq)
        have B5 := Lib.hid (B4.out.trans (hq.mono B4.out.size))
        clear hq
        go_wp2_with fail
        refine (Fits_calls T5.out a a HA.out HA.out).mono ?_
        rintro e w6 ⟨rfl, hq⟩
        rw [HAA.out]
        have T6 := Lib.hid (T5.out.later hq)
        have B6 := Lib.hid (B5.out.trans (hq.mono B5.out.size))
        clear hq
        go_wp2_with fail
        refine (Fits_calls T6.out a b HA.out HB.out).mono ?_
        rintro e w7 ⟨rfl, hq⟩
        rw [HAB.out]
        have T7 := Lib.hid (T6.out.later hq)
        have B7 := Lib.hid (B6.out.trans (hq.mono B6.out.size))
        clear hq
        go_wp2_with fail
        refine (Known_calls T7.out a HA.out).mono ?_
        rintro e w8 ⟨rfl, hq⟩
        rw [HKA.out]
        have T8 := Lib.hid (T7.out.later hq)
        have B8 := Lib.hid (B7.out.trans (hq.mono B7.out.size))
        clear hq
        go_wp2_with fail
        refine (Known_calls T8.out b HB.out).mono ?_
        rintro e w9 ⟨rfl, hq⟩
        rw [HKB.out]
        have T9 := Lib.hid (T8.out.later hq)
        have B9 := Lib.hid (B8.out.trans (hq.mono B8.out.size))
        clear hq
        go_wp2_with fail
        refine (Basic_calls a _).mono ?_
        rintro e v ⟨rfl, rfl⟩
        rw [HBA.out]
        go_wp2_with fail
        refine (Fits_calls T9.out a b HA.out HB.out).mono ?_
        rintro e w10 ⟨rfl, hq⟩
        rw [HAB.out]
        have T10 := Lib.hid (T9.out.later hq)
        have B10 := Lib.hid (B9.out.trans (hq.mono B9.out.size))
        clear hq
        go_wp2_with fail
        refine (Fits_calls T10.out b d HB.out HD.out).mono ?_
        rintro e w11 ⟨rfl, hq⟩
        rw [HBD.out]
        have T11 := Lib.hid (T10.out.later hq)
        have B11 := Lib.hid (B10.out.trans (hq.mono B10.out.size))
        clear hq
        go_wp2_with fail
        refine (Fits_calls T11.out a d HA.out HD.out).mono ?_
        rintro e w12 ⟨rfl, hq⟩
        rw [HAD.out]
        have T12 := Lib.hid (T11.out.later hq)
        have B12 := Lib.hid (B11.out.trans (hq.mono B11.out.size))
        clear hq
        go_wp2
        go_ret
        exact ⟨rfl, B12.out⟩
      · skip
        go_wp2_with fail
        refine (Known_calls T4.out a HA.out).mono ?_
        rintro e w5 ⟨rfl, hq⟩
        rw [HKA.out]
        have T5 := Lib.hid (T4.out.later hq)
        have B5 := Lib.hid (B4.out.trans (hq.mono B4.out.size))
        clear hq
        go_wp2_with fail
        refine (Fits_calls T5.out a a HA.out HA.out).mono ?_
        rintro e w6 ⟨rfl, hq⟩
        rw [HAA.out]
        have T6 := Lib.hid (T5.out.later hq)
        have B6 := Lib.hid (B5.out.trans (hq.mono B5.out.size))
        clear hq
        go_wp2_with fail
        refine (Fits_calls T6.out a b HA.out HB.out).mono ?_
        rintro e w7 ⟨rfl, hq⟩
        rw [HAB.out]
        have T7 := Lib.hid (T6.out.later hq)
        have B7 := Lib.hid (B6.out.trans (hq.mono B6.out.size))
        clear hq
        go_wp2_with fail
        refine (Known_calls T7.out a HA.out).mono ?_
        rintro e w8 ⟨rfl, hq⟩
        rw [HKA.out]
        have T8 := Lib.hid (T7.out.later hq)
        have B8 := Lib.hid (B7.out.trans (hq.mono B7.out.size))
        clear hq
        go_wp2_with fail
        refine (Known_calls T8.out b HB.out).mono ?_
        rintro e w9 ⟨rfl, hq⟩
        rw [HKB.out]
        have T9 := Lib.hid (T8.out.later hq)
        have B9 := Lib.hid (B8.out.trans (hq.mono B8.out.size))
        clear hq
        go_wp2_with fail
        refine (Basic_calls a _).mono ?_
        rintro e v ⟨rfl, rfl⟩
        rw [HBA.out]
        go_wp2_with fail
        refine (Fits_calls T9.out a b HA.out HB.out).mono ?_
        rintro e w10 ⟨rfl, hq⟩
        rw [HAB.out]
        have T10 := Lib.hid (T9.out.later hq)
        have B10 := Lib.hid (B9.out.trans (hq.mono B9.out.size))
        clear hq
        go_wp2_with fail
        refine (Fits_calls T10.out a b HA.out HB.out).mono ?_
        rintro e w11 ⟨rfl, hq⟩
        rw [HAB.out]
        have T11 := Lib.hid (T10.out.later hq)
        have B11 := Lib.hid (B10.out.trans (hq.mono B10.out.size))
        clear hq
        go_wp2_with fail
        refine (Fits_calls T11.out b d HB.out HD.out).mono ?_
        rintro e w12 ⟨rfl, hq⟩
        rw [HBD.out]
        have T12 := Lib.hid (T11.out.later hq)
        have B12 := Lib.hid (B11.out.trans (hq.mono B11.out.size))
        clear hq
        go_wp2
        go_ret
        exact ⟨rfl, B12.out⟩
      · skip
        go_wp2_with fail
        refine (Known_calls T4.out a HA.out).mono ?_
        rintro e w5 ⟨rfl, hq⟩
        rw [HKA.out]
        have T5 := Lib.hid (T4.out.later hq)
        have B5 := Lib.hid (B4.out.trans (hq.mono B4.out.size))
        clear hq
        go_wp2_with fail
        refine (Fits_calls T5.out a a HA.out HA.out).mono ?_
        rintro e w6 ⟨rfl, hq⟩
        rw [HAA.out]
        have T6 := Lib.hid (T5.out.later hq)
        have B6 := Lib.hid (B5.out.trans (hq.mono B5.out.size))
        clear hq
        go_wp2_with fail
        refine (Fits_calls T6.out a b HA.out HB.out).mono ?_
        rintro e w7 ⟨rfl, hq⟩
        rw [HAB.out]
        have T7 := Lib.hid (T6.out.later hq)
        have B7 := Lib.hid (B6.out.trans (hq.mono B6.out.size))
        clear hq
        go_wp2_with fail
        refine (Known_calls T7.out a HA.out).mono ?_
        rintro e w8 ⟨rfl, hq⟩
        rw [HKA.out]
        have T8 := Lib.hid (T7.out.later hq)
        have B8 := Lib.hid (B7.out.trans (hq.mono B7.out.size))
        clear hq
        go_wp2_with fail
        refine (Known_calls T8.out b HB.out).mono ?_
        rintro e w9 ⟨rfl, hq⟩
        rw [HKB.out]
        have T9 := Lib.hid (T8.out.later hq)
        have B9 := Lib.hid (B8.out.trans (hq.mono B8.out.size))
        clear hq
        go_wp2_with fail
        refine (Basic_calls a _).mono ?_
        rintro e v ⟨rfl, rfl⟩
        rw [HBA.out]
        go_wp2_with fail
        refine (Fits_calls T9.out a b HA.out HB.out).mono ?_
        rintro e w10 ⟨rfl, hq⟩
        rw [HAB.out]
        have T10 := Lib.hid (T9.out.later hq)
        have B10 := Lib.hid (B9.out.trans (hq.mono B9.out.size))
        clear hq
        go_wp2_with fail
        refine (Fits_calls T10.out a b HA.out HB.out).mono ?_
        rintro e w11 ⟨rfl, hq⟩
        rw [HAB.out]
        have T11 := Lib.hid (T10.out.later hq)
        have B11 := Lib.hid (B10.out.trans (hq.mono B10.out.size))
        clear hq
        go_wp2_with fail
        refine (Fits_calls T11.out b d HB.out HD.out).mono ?_
        rintro e w12 ⟨rfl, hq⟩
        rw [HBD.out]
        have T12 := Lib.hid (T11.out.later hq)
        have B12 := Lib.hid (B11.out.trans (hq.mono B11.out.size))
        clear hq
        go_wp2_with fail
        refine (Fits_calls T12.out a d HA.out HD.out).mono ?_
        rintro e w13 ⟨rfl, hq⟩
        rw [HAD.out]
        have T13 := Lib.hid (T12.out.later hq)
        have B13 := Lib.hid (B12.out.trans (hq.mono B12.out.size))
        clear hq
        go_wp2
        go_ret
        exact ⟨rfl, B13.out⟩
  · go_wp2
    go_ret
    exact ⟨rfl, HB2.out⟩
end Go.Proofs.Ytoakelgcbbbieaa
