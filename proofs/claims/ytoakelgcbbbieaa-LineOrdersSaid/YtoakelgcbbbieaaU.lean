/- The statement KindFits, walked: for any heads and any two names. -/
import Derived.Test.YtoakelgcbbbieaaQ
import Derived.Test.YtoakelgcbbbieaaP
/-! The statement KindFits, walked. -/
namespace Go.Proofs.Ytoakelgcbbbieaa
open Go.RowKit Go.Maps Go.Proofs.YtoakelgcbbbieaaW.PrintWords Go.Proofs.YtoakelgcbbbieaaW.PrintLast Go.Proofs.YtoakelgcbbbieaaW.PrintMore
set_option linter.unusedVariables false
set_option linter.unusedSimpArgs false
set_option maxRecDepth 100000

theorem Ag_heads (hs : List S129) : Ag (entsH hs) (rentsH hs) := by
  unfold Ag entsH rentsH
  rw [List.map_map, List.map_map]
  rfl
theorem entsH_len (hs : List S129) : (entsH hs).length = hs.length := by unfold entsH; rw [List.length_map, nums_len]

def brk : ByteArray := ⟨#[105, 110, 116, 91, 93]⟩
theorem brk_size : brk.size ≤ maxLen := by show (_ : Nat) ≤ 2 ^ 63 - 1; simp [brk, ByteArray.size]

theorem cells3s {w : World} {g : Nat} {x y z : Value} (h : w.heap[g]? = some (.cells #[x, y, z] 9 (0, 0))) : w.cell? ⟨g, 0, none⟩ = some x ∧ w.cell? ⟨g, 1, none⟩ = some y ∧ w.cell? ⟨g, 2, none⟩ = some z :=
  ⟨cell_blk h 0, cell_blk h 1, cell_blk h 2⟩

theorem KindFits_walk {w : World} {A : Option Addr} {n c : Nat} {hs : List S129} (h : Kd.C k129 w A n hs) (hn : ∀ x ∈ hs, okHead x) (a b : ByteArray) (ha : a.size ≤ maxLen) (hb : b.size ≤ maxLen) :
    Calls Try.prog 3 #[.slice A n c, .string a, .string b] w fun e w' => e = .returned (.bool true) ∧ Below w.heap.size w w' := by
  have H := Lib.hid h
  have HN := Lib.hid hn
  have HA := Lib.hid ha
  have HB := Lib.hid hb
  clear h hn ha hb
  go_enter Try.func3, Try.ntmps3
  go_wp2_with fail
  refine (alive16_calls _).mono ?_
  rintro e w1 ⟨rfl, hb1⟩
  go_wp2_with fail
  refine (Large_calls (Kd.C_below H.out hb1)).mono ?_
  rintro e w2 ⟨L, rfl, hL, hb2⟩
  have HB2 := Lib.hid (hb1.trans (hb2.mono hb1.size))
  have HL := Lib.hid hL
  clear hb1 hb2 hL
  cases L
  · go_wp2_with fail
    all_goals first
      | (go_ret; exact ⟨rfl, HB2.out⟩)
      | skip
    refine (Tables_calls (Kd.C_below H.out HB2.out) (by have := HL.out trivial; omega) (fun x hx => ⟨(HN.out x hx).1, (HN.out x hx).2.1⟩)).mono ?_
    rintro e w3 ⟨tb, B, d, rfl, hT, hd, hC, hB3⟩
    have HT := Lib.hid hT
    have HC := Lib.hid hC
    have hlen : (rentsH hs).length ≤ 9223372036854775807 := C_max hC
    have HB3 := Lib.hid (show Below w.heap.size w w3 from HB2.out.trans (hB3.mono HB2.out.size))
    clear hT hC hB3
    go_wp2_with fail
    obtain ⟨w4, hw4⟩ : ∃ w4, w4 = w3.alloc (.cells #[.string a, .string b, .string brk] 9) := ⟨_, rfl⟩
    have HK := Lib.hid (show w4.heap[w3.heap.size]? = some (.cells #[.string a, .string b, .string brk] 9 (0, 0)) by rw [hw4]; exact heap_alloc_new _ _)
    have HB4 := Lib.hid (show Below w3.heap.size w3 w4 by rw [hw4]; exact (Below.refl _ _).alloc (Nat.le_refl _) _)
    have e4 : w3.alloc (.cells #[.string a, .string b, .string ⟨#[105, 110, 116, 91, 93]⟩] 9) = w4 := hw4.symm
    clear hw4
    rw [e4]
    go_loopw [35] (fun v35 wr => ∃ k : Nat, k ≤ 3 ∧ v35 = .int .i64 k ∧ Below w4.heap.size w4 wr) (fun v35 wr => 3 - (intOf v35).toNat)
    case atStart => exact ⟨0, by omega, rfl, Below.refl _ _⟩
    case round =>
      obtain ⟨k, hk, rfl, hBr⟩ := hrel
      by_cases hlt : k < 3
      · obtain ⟨x, hx⟩ : ∃ x : ByteArray, x = [a, b, brk].getD k a := ⟨_, rfl⟩
        have hxs : x.size ≤ maxLen := by
          rw [hx]
          match k, hlt with
          | 0, _ => exact HA.out
          | 1, _ => exact HB.out
          | 2, _ => exact brk_size
        have hc : wr.cell? ⟨w3.heap.size, k, none⟩ = some (.string x) := by
          rw [hx]
          refine cell_later hBr ?_
          match k, hlt with
          | 0, _ => exact cell_blk HK.out 0
          | 1, _ => exact cell_blk HK.out 1
          | 2, _ => exact cell_blk HK.out 2
        have HXS := Lib.hid hxs
        clear hx hxs
        have HT1 := Lib.hid ((HT.out.later HB4.out).later hBr)
        have HC1 := Lib.hid (Kd.C_below HC.out (HB4.out.trans (hBr.mono HB4.out.size)))
        have HBr := Lib.hid hBr
        clear hBr
        cases hkc : kclass (entsH hs) x
        all_goals
          have HKC := Lib.hid hkc
          clear hkc
          go_wp2_with fail
          refine (KClass_calls HT1.out x HXS.out).mono ?_
          rw [HKC.out]
          rintro e w5 ⟨rfl, hB5⟩
          have HC5 := Lib.hid (Kd.C_below HC1.out hB5)
          have HB5 := Lib.hid hB5
          clear hB5
          go_wp2_with fail
          refine (RKClass_calls HC5.out (Ag_heads hs) x).mono ?_
          rw [HKC.out]
          simp only [optI]
          rintro e w6 ⟨rfl, rfl⟩
          go_wp2_with fail
          refine (Basic_calls x _).mono ?_
          rintro e w6 ⟨rfl, rfl⟩
          obtain ⟨bb, hbb⟩ : ∃ b, b = basicB x := ⟨_, rfl⟩
          rw [← hbb]
          go_wp2_with fail
          refine (RBasic_calls x _).mono ?_
          rintro e w6 ⟨rfl, rfl⟩
          rw [← hbb]
          clear hbb
          cases bb
          all_goals
            go_wp2_with fail
            refine (Known_calls (HT1.out.later HB5.out) x HXS.out).mono ?_
            rintro e w6 ⟨rfl, hB6⟩
            obtain ⟨kn, hkn⟩ : ∃ b, b = knownB (entsH hs) x := ⟨_, rfl⟩
            rw [← hkn]
            have HC6 := Lib.hid (Kd.C_below HC5.out hB6)
            have HB6 := Lib.hid (show Below w4.heap.size w4 w6 from HBr.out.trans ((HB5.out.trans (hB6.mono HB5.out.size)).mono HBr.out.size))
            clear hB6
            go_wp2_with fail
            refine (RKnown_calls HC6.out (Ag_heads hs) x).mono ?_
            rintro e w7 ⟨rfl, rfl⟩
            rw [← hkn]
            clear hkn
            cases kn
            all_goals
              go_wp2
              go_roundw
              case rel => exact ⟨k + 1, by omega, by go_num, HB6.out⟩
              case measure => simp [intOf]; omega
      · have HT1 := Lib.hid ((HT.out.later HB4.out).later hBr)
        have HC1 := Lib.hid (Kd.C_below HC.out (HB4.out.trans (hBr.mono HB4.out.size)))
        have HBr := Lib.hid (show Below w.heap.size w wr from HB3.out.trans ((HB4.out.trans (hBr.mono HB4.out.size)).mono HB3.out.size))
        clear hBr
        go_wp2_with fail
        refine (Fits_calls HT1.out a b HA.out HB.out).mono ?_
        rintro e w5 ⟨rfl, hB5⟩
        obtain ⟨f1, hf1⟩ : ∃ f, f = fitsB (entsH hs) a b := ⟨_, rfl⟩
        rw [← hf1]
        have HB5 := Lib.hid hB5
        clear hB5
        go_wp2_with fail
        refine (RFits_calls (Kd.C_below HC1.out HB5.out) (Ag_heads hs) (by rw [entsH_len]; have := HL.out trivial; omega) a b).mono ?_
        rintro e w6 ⟨rfl, hB6⟩
        rw [← hf1]
        clear hf1
        have HB6 := Lib.hid (HB5.out.trans (hB6.mono HB5.out.size))
        clear hB6
        cases f1
        all_goals
          go_wp2_with fail
          refine (Fits_calls (HT1.out.later HB6.out) b a HB.out HA.out).mono ?_
          rintro e w7 ⟨rfl, hB7⟩
          obtain ⟨f2, hf2⟩ : ∃ f, f = fitsB (entsH hs) b a := ⟨_, rfl⟩
          rw [← hf2]
          have HB7 := Lib.hid (HB6.out.trans (hB7.mono HB6.out.size))
          clear hB7
          go_wp2_with fail
          refine (RFits_calls (Kd.C_below HC1.out HB7.out) (Ag_heads hs) (by rw [entsH_len]; have := HL.out trivial; omega) b a).mono ?_
          rintro e w8 ⟨rfl, hB8⟩
          rw [← hf2]
          clear hf2
          have HB8 := Lib.hid (HBr.out.trans ((HB7.out.trans (hB8.mono HB7.out.size)).mono HBr.out.size))
          clear hB8
          cases f2
          all_goals
            go_wp2
            go_ret
            exact ⟨rfl, HB8.out⟩
  · go_wp2
    go_ret
    exact ⟨rfl, HB2.out⟩
end Go.Proofs.Ytoakelgcbbbieaa
