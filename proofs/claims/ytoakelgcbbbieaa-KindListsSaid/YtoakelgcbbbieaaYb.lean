/- The statement KindLists, walked: for any heads and any two lists of names. -/
import Derived.Test.YtoakelgcbbbieaaYa
import Derived.Test.YtoakelgcbbbieaaPa
import Derived.Test.YtoakelgcbbbieaaU
import Derived.Laws.AppendOwnNone
import Derived.KernelRfl
namespace Go.Proofs.Ytoakelgcbbbieaa
open Go.RowKit Go.Maps Go.Proofs.YtoakelgcbbbieaaW.PrintWords Go.Proofs.YtoakelgcbbbieaaW.PrintLast Go.Proofs.YtoakelgcbbbieaaW.PrintMore
set_option linter.unusedVariables false
set_option linter.unusedSimpArgs false
set_option maxRecDepth 100000
attribute [local go_sem ↓] Go.wp_at_zero Go.wp_at_succ

theorem info9 : (Try.prog.info? 9).map (fun i => (i.zero, i.size, i.bytes)) = some (some (.string ⟨#[]⟩), 1, 16) := by kernel_rfl

/-- append(s, xs...) of strings onto a row of the call's own -/
theorem wpList_append_strs {ops : Array Oper} {rest : List Oper} {o : Oper} {a : Act} {Q : Exit → Act → World → Prop} {w0 W : World} (hgd : o.guard = none) (s x : Operand) (ho : o.op = .call { callee := .builtin .append, args := #[s, x], argTypes := #[29, 29] })
    (base : Nat) (v : Value) (xs la : List ByteArray) (B : Option Addr) (c1 : Nat) (hs : a.eval s = v) (hx : a.eval x = .slice B la.length c1) (hown : W.ownsRow base 9 1 v xs.length (xs.map Value.string)) (hC : Kd.C Kd.string W B la.length la) (nb : B = none → c1 = 0)
    (HB : Below base w0 W) (hbase : base ≤ W.heap.size) (hsh : xs.length + la.length ≤ 1000)
    (h : ∀ v1 w1, w1.ownsRow base 9 1 v1 (xs ++ la).length ((xs ++ la).map Value.string) → Below base w0 w1 → wpList Try.prog ops Q rest (a.put o.dst v1) w1) : wpList Try.prog ops Q (o :: rest) a W := by
  obtain ⟨i0, hi, hzz⟩ := Option.map_eq_some_iff.1 info9
  simp only [Prod.mk.injEq] at hzz
  obtain ⟨hz0, hz1, hz2⟩ := hzz
  cases B with
  | none =>
    have h0 : la = [] := by
      rcases Nat.eq_zero_or_pos la.length with h1 | h1
      · exact List.eq_nil_of_length_eq_zero h1
      · obtain ⟨ad, he, -⟩ := hC.2.2 h1
        cases he
    subst h0
    rw [nb rfl] at hx
    refine wpList_append_own_none hgd s x 29 ho base 9 i0 1 Try.underlying29 hi v xs.length _ hs hown hx ?_
    refine h v W ?_ HB
    rw [List.append_nil]
    exact hown
  | some ad =>
    refine wpList_append_own_at W hgd s x 29 ho base 9 i0 (.string ⟨#[]⟩) 1 16 Try.underlying29 hi hz0 hz1 hz2 rfl (by decide) v xs.length _ hs hown ad la.length c1 (la.map Value.string) hx (by simp) (fun j u hj => ?_) (fun u hu => ?_) (by unfold maxLen; omega) (by omega) hbase ?_
    · rw [List.getElem?_map] at hj
      obtain ⟨y, hy, rfl⟩ := Option.map_eq_some_iff.1 hj
      obtain ⟨hl, hy⟩ := List.getElem?_eq_some_iff.1 hy
      obtain ⟨ad', he, hc⟩ := at_str hC j hl
      injection he with he
      subst he
      rw [hc, hy]
    · obtain ⟨y, -, rfl⟩ := List.mem_map.1 hu
      rfl
    · intro v1 w1 h1 h2 h3 h4
      refine h v1 w1 ?_ (HB.grown h2 hbase (own_base hown))
      rw [List.length_append, List.map_append]
      exact h1

theorem KindLists_walk {w : World} {A B C : Option Addr} {n c p1 c1 p2 c2 : Nat} {hs : List S129} {la lb : List ByteArray} (h : Kd.C k129 w A n hs) (hn : ∀ x ∈ hs, okHead x) (ha : Kd.C Kd.string w B p1 la) (hb : Kd.C Kd.string w C p2 lb) (na : B = none → c1 = 0) (nb : C = none → c2 = 0)
    (sa : ∀ s ∈ la, s.size ≤ maxLen) (sb : ∀ s ∈ lb, s.size ≤ maxLen) :
    Calls Try.prog 6 #[.slice A n c, .slice B p1 c1, .slice C p2 c2] w fun e w' => e = .returned (.bool true) ∧ Below w.heap.size w w' := by
  obtain rfl := C_len ha
  obtain rfl := C_len hb
  have hma := C_max ha
  have hmb := C_max hb
  have H := Lib.hid h
  have HN := Lib.hid hn
  have HA := Lib.hid ha
  have HB := Lib.hid hb
  have SA := Lib.hid sa
  have SB := Lib.hid sb
  have NA := Lib.hid na
  have NB := Lib.hid nb
  clear h hn ha hb sa sb na nb
  go_enter Try.func6, Try.ntmps6
  go_wp2_with fail
  refine (alive16_calls _).mono ?_
  rintro e w1 ⟨rfl, hb1⟩
  go_wp2_with fail
  refine (Large_calls (Kd.C_below H.out hb1)).mono ?_
  rintro e w2 ⟨L, rfl, hL, hb2⟩
  have HB2 := Lib.hid (hb1.trans (hb2.mono hb1.size))
  have HL := Lib.hid hL
  clear hb1 hb2 hL
  cases L
  · by_cases hsm : la.length ≤ 20 ∧ lb.length ≤ 20
    · have hsa := hsm.1
      have hsb := hsm.2
      have HCA := Lib.hid (Kd.C_below HA.out HB2.out)
      have HCB := Lib.hid (Kd.C_below HB.out HB2.out)
      have HSM := Lib.hid hsm
      have H0 := Lib.hid (show (w2.alloc (.cells #[] 9)).ownsRow w.heap.size 9 1 (.slice (some ⟨w2.heap.size, 0, none⟩) 0 0) ([] : List ByteArray).length (([] : List ByteArray).map Value.string) from
        ⟨rfl, .inr ⟨w2.heap.size, 0, #[], rfl, HB2.out.size, heap_alloc_new w2 _, Nat.le_refl _, Nat.zero_le _, rfl, rfl⟩⟩)
      have HBa := Lib.hid (HB2.out.alloc HB2.out.size (.cells #[] 9))
      clear hsm
      go_wp2_with (first
        | ((with_reducible refine gate_builtin (b := .append) (xs := #[.tmp 25, .tmp 26]) rfl ?_); at_builtin; refine wpList_append_strs (w0 := w) rfl (.tmp 25) (.tmp 26) rfl w.heap.size _ [] la B c1 rfl rfl H0.out (Kd.C_alloc HCA.out _) NA.out HBa.out HBa.out.size (by have := HSM.out; simp; omega) ?_; intro v3 w3 hO3 hB3)
        | ((with_reducible refine gate_builtin (b := .append) (xs := #[.tmp 27, .tmp 28]) rfl ?_); at_builtin; refine wpList_append_strs (w0 := w) rfl (.tmp 27) (.tmp 28) rfl w.heap.size _ ([] ++ la) lb C c2 rfl rfl hO3 (Kd.C_below HB.out hB3) NB.out hB3 hB3.size (by have := HSM.out; simp; omega) ?_; intro v4 w4 hO4 hB4; (obtain ⟨A4, c4, rfl, -, hC4⟩ := Kd.R_reads (Kd.R_of_own (enc := Value.string) (h1 := fun _ => rfl) (ok := fun _ => True) hO4 (fun _ _ => trivial))); clear hO4; (obtain ⟨ll, hll⟩ : ∃ l, l = [] ++ la ++ lb := ⟨_, rfl⟩); rw [← hll] at hC4; have hln : ll.length = la.length + lb.length := (by rw [hll]; simp)))
      have HC4 := Lib.hid (show Kd.C Kd.string w4 A4 ll.length ll from hC4)
      have HB4 := Lib.hid hB4
      have HLN := Lib.hid hln
      clear hC4 hB4 hO3 hB3 hll hln
      go_loopw [31] (fun v31 wr => ∃ k : Nat, k ≤ la.length + lb.length ∧ v31 = .int .i64 k ∧ Hid (Below w4.heap.size w4 wr)) (fun v31 wr => la.length + lb.length - (intOf v31).toNat)
      case atStart => exact ⟨0, Nat.zero_le _, rfl, Below.refl _ _⟩
      case round =>
        obtain ⟨k, hk, rfl, hBr⟩ := hrel
        have HBr := Lib.hid (HB4.out.trans (hBr.out.mono HB4.out.size))
        by_cases hlt : k < la.length + lb.length
        · obtain ⟨ad, rfl, hc⟩ := at_str HC4.out k (by rw [HLN.out]; exact hlt)
          obtain ⟨x, hx⟩ : ∃ x, x = ll[k]'(by rw [HLN.out]; exact hlt) := ⟨_, rfl⟩
          rw [← hx] at hc
          replace hc := cell_later hBr.out hc
          clear hx
          by_cases hbig : (100 : Int) < x.size
          · go_wp2
            go_ret
            exact ⟨rfl, HBr.out⟩
          · go_wp2
            go_roundw
            case rel => exact ⟨k + 1, by omega, by go_num, hBr.out⟩
            case measure => simp [intOf]; omega
        · go_wp2_with fail
          refine (Tables_calls (Kd.C_below H.out HBr.out) (by have := HL.out trivial; omega) (fun x hx => ⟨(HN.out x hx).1, (HN.out x hx).2.1⟩)).mono ?_
          rintro e w5 ⟨tb, R, d, rfl, hT, hd, hR, hB5⟩
          have HT := Lib.hid hT
          have HR := Lib.hid hR
          have hlen : (rentsH hs).length ≤ 9223372036854775807 := C_max hR
          have HB5 := Lib.hid (show Below w.heap.size w w5 from HBr.out.trans (hB5.mono HBr.out.size))
          clear hT hR hB5
          go_wp2_with fail
          refine (All_calls HT.out (Kd.C_below HA.out HB5.out) (Kd.C_below HB.out HB5.out) SA.out SB.out).mono ?_
          rintro e w6 ⟨rfl, hB6⟩
          obtain ⟨f1, hf1⟩ : ∃ f, f = allB (entsH hs) la lb := ⟨_, rfl⟩
          rw [← hf1]
          have HR6 := Lib.hid (Kd.C_below HR.out hB6)
          have HB6 := Lib.hid (show Below w.heap.size w w6 from HB5.out.trans (hB6.mono HB5.out.size))
          clear hB6
          go_wp2_with fail
          refine (RAll_calls HR6.out (Ag_heads hs) (by rw [entsH_len]; have := HL.out trivial; omega) (Kd.C_below HA.out HB6.out) (Kd.C_below HB.out HB6.out)).mono ?_
          rintro e w7 ⟨rfl, hB7⟩
          rw [← hf1]
          clear hf1
          have HB7 := Lib.hid (show Below w.heap.size w w7 from HB6.out.trans (hB7.mono HB6.out.size))
          clear hB7
          cases f1
          all_goals
            go_wp2_with fail
            refine (All_nil_calls _).mono ?_
            rintro e w8 ⟨rfl, hB8⟩
            have HB8 := Lib.hid (show Below w.heap.size w w8 from HB7.out.trans (hB8.mono HB7.out.size))
            clear hB8
            go_wp2
            go_ret
            exact ⟨rfl, HB8.out⟩
    · have hbig : (20 : Int) < la.length ∨ ((la.length : Int) ≤ 20 ∧ (20 : Int) < lb.length) := by omega
      rcases hbig with hbig | ⟨hbig, hbig2⟩
      all_goals
        go_wp2_with fail
        go_ret
        exact ⟨rfl, HB2.out⟩
  · go_wp2
    go_ret
    exact ⟨rfl, HB2.out⟩
end Go.Proofs.Ytoakelgcbbbieaa
