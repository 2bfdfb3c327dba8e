/- Where two lines meet, whether two rows of numbers are alike, and the document's circular, walked. -/
import Derived.Test.YtoakelgcbbbieaaU
import Derived.Deep.AppendLies
import Derived.Deep.DrawnRows
import Derived.Deep.RegionLaw
import Derived.StillTailTactics
import Derived.Deep.DeepCutAuto
namespace Go.Proofs.Ytoakelgcbbbieaa
open Go.RowKit Go.Maps Go.Proofs.YtoakelgcbbbieaaW.PrintWords Go.Proofs.YtoakelgcbbbieaaW.PrintLast Go.Proofs.YtoakelgcbbbieaaW.PrintMore
set_option linter.unusedVariables false
set_option linter.unusedSimpArgs false
set_option maxRecDepth 100000
attribute [local go_sem ↓] Go.wp_at_zero Go.wp_at_succ

/-- the first of i's line that k is below -/
def mP (xs : List S124) (k : Int) (x : Nat) : Bool := belowB xs k (x : Int)
def meetOf (xs : List S124) (i k : Int) : Option Nat := (lineOf xs i).find? (mP xs k)

theorem find_hit {α : Type} {p : α → Bool} {l : List α} {j : Nat} (hj : j < l.length) (h0 : (l.take j).find? p = none) (h1 : p l[j] = true) : l.find? p = some l[j] := by
  have e : l = l.take j ++ l[j] :: l.drop (j + 1) := by rw [← List.drop_eq_getElem_cons hj, List.take_append_drop]
  have h2 : (l.take j ++ l[j] :: l.drop (j + 1)).find? p = some l[j] := by
    rw [List.find?_append, h0, List.find?_cons_of_pos h1]
    rfl
  rw [← e] at h2
  exact h2
theorem find_pass {α : Type} {p : α → Bool} {l : List α} {j : Nat} (hj : j < l.length) (h0 : (l.take j).find? p = none) (h1 : p l[j] = false) : (l.take (j + 1)).find? p = none := by
  rw [List.take_succ_eq_append_getElem hj, List.find?_append, h0, List.find?_cons_of_neg (by rw [h1]; simp)]
  rfl

theorem ni_get {l : List Nat} {j : Nat} (h : j < (ni l).length) : (ni l)[j] = ((l[j]'(by rw [len_ni] at h; exact h) : Nat) : Int) := by simp [ni]

theorem Meet_calls {w : World} {tb : Nat} {xs : List S124} {m : Int} (T : Tab w tb xs m) (i k : Int) :
    Calls Try.prog 28 #[.pointer (some ⟨tb, 0, none⟩), .int .i64 i, .int .i64 k] w fun e w' => e = .returned (optV (meetOf xs i k)) ∧ Below w.heap.size w w' := by
  have HT := Lib.hid T
  clear T
  obtain ⟨l, hl⟩ : ∃ l, l = lineOf xs i := ⟨_, rfl⟩
  have HLL := Lib.hid hl
  go_enter Try.func28, Try.ntmps28
  go_wp2_with fail
  refine (Line_calls HT.out k).mono ?_
  rintro e w1 ⟨v1, rfl, hR1, hb1⟩
  obtain ⟨A1, c1, rfl, -, hC1⟩ := Kd.R_reads hR1
  rw [len_ni] at hC1 ⊢
  have HT1 := Lib.hid (HT.out.later hb1)
  have HC1 := Lib.hid hC1
  have HB1 := Lib.hid hb1
  clear hR1 hC1 hb1
  go_wp2_with fail
  refine (Line_calls HT1.out i).mono ?_
  rintro e w2 ⟨v2, rfl, hR2, hb2⟩
  rw [← hl] at hR2
  obtain ⟨A2, c2, rfl, -, hC2⟩ := Kd.R_reads hR2
  have hmx := C_max hC2
  have HC1' := Lib.hid (Kd.C_below HC1.out hb2)
  rw [len_ni] at hC2 hmx ⊢
  have HC2 := Lib.hid hC2
  have HB2 := Lib.hid (HB1.out.trans (hb2.mono HB1.out.size))
  clear hR2 hC2 hb2
  clear hl
  go_wp2
  go_loopw [18] (fun v18 wr => ∃ j : Nat, j ≤ l.length ∧ v18 = .int .i64 j ∧ w2 = wr ∧ Hid ((l.take j).find? (mP xs k) = none)) (fun v18 wr => l.length - (intOf v18).toNat)
  case atStart => exact ⟨0, Nat.zero_le _, rfl, rfl, rfl⟩
  case round =>
    obtain ⟨j, hj, rfl, rfl, hf⟩ := hrel
    by_cases hlt : j < l.length
    · obtain ⟨ad, rfl, hc⟩ := at_int HC2.out j (by rw [len_ni]; exact hlt)
      rw [ni_get] at hc
      obtain ⟨x, hx⟩ : ∃ x, x = l[j] := ⟨_, rfl⟩
      rw [← hx] at hc
      have HX := Lib.hid hx
      clear hx
      cases hp : belowB xs k (x : Int)
      · have HP := Lib.hid (show hasI (ni (lineOf xs k)) (x : Int) = false from hp)
        have HN := Lib.hid (find_pass (p := mP xs k) hlt hf.out (by rw [← HX.out]; exact hp))
        clear hp
        go_wp2_with (go_at_call 64; refine (Contains_calls HC1'.out (x : Int)).mono ?_; rintro e w3 ⟨rfl, rfl⟩; rw [HP.out])
        go_roundw
        case rel => exact ⟨j + 1, by omega, by go_num, by first | rfl | trivial, HN.out⟩
        case measure => simp [intOf]; omega
      · have HP := Lib.hid (show hasI (ni (lineOf xs k)) (x : Int) = true from hp)
        have HE := Lib.hid (show meetOf xs i k = some x by unfold meetOf; rw [← HLL.out, find_hit (p := mP xs k) hlt hf.out (by rw [← HX.out]; exact hp), HX.out])
        clear hp
        go_wp2_with (go_at_call 64; refine (Contains_calls HC1'.out (x : Int)).mono ?_; rintro e w3 ⟨rfl, rfl⟩; rw [HP.out])
        go_ret2
        exact ⟨by rw [HE.out]; rfl, HB2.out⟩
    · have HE := Lib.hid (show meetOf xs i k = none by
        have h1 := hf.out
        rw [List.take_of_length_le (by omega)] at h1
        unfold meetOf
        rw [← HLL.out, h1])
      go_wp2
      go_ret2
      exact ⟨by rw [HE.out]; rfl, HB2.out⟩

theorem RMeet_calls {w : World} {A : Option Addr} {n c : Nat} {xs : List S124} {rs : List S145} (h : Kd.C k145 w A n rs) (ag : Ag xs rs) (hsh : xs.length ≤ 1000000000) (i k : Int) :
    Calls Try.prog 29 #[.slice A n c, .int .i64 i, .int .i64 k] w fun e w' => e = .returned (.int .i64 (optI (meetOf xs i k))) ∧ Below w.heap.size w w' := by
  have H := Lib.hid h
  have AG := Lib.hid ag
  have HS := Lib.hid hsh
  clear h ag hsh
  obtain ⟨l, hl⟩ : ∃ l, l = lineOf xs i := ⟨_, rfl⟩
  have HLL := Lib.hid hl
  go_enter Try.func29, Try.ntmps29
  go_wp2_with fail
  refine (RLine_calls H.out AG.out HS.out i).mono ?_
  rintro e w2 ⟨v2, rfl, hR2, hb2⟩
  rw [← hl] at hR2
  obtain ⟨A2, c2, rfl, -, hC2⟩ := Kd.R_reads hR2
  have hmx := C_max hC2
  rw [len_ni] at hC2 hmx ⊢
  have HC2 := Lib.hid hC2
  have HB2 := Lib.hid hb2
  clear hR2 hC2 hb2
  clear hl
  go_wp2
  go_loopw [8] (fun v8 wr => ∃ j : Nat, j ≤ l.length ∧ v8 = .int .i64 j ∧ Hid (Below w2.heap.size w2 wr) ∧ Hid ((l.take j).find? (mP xs k) = none)) (fun v8 wr => l.length - (intOf v8).toNat)
  case atStart => exact ⟨0, Nat.zero_le _, rfl, Below.refl _ _, rfl⟩
  case round =>
    obtain ⟨j, hj, rfl, hBr, hf⟩ := hrel
    have HBr := Lib.hid (HB2.out.trans (hBr.out.mono HB2.out.size))
    by_cases hlt : j < l.length
    · obtain ⟨ad, rfl, hc⟩ := at_int HC2.out j (by rw [len_ni]; exact hlt)
      rw [ni_get] at hc
      obtain ⟨x, hx⟩ : ∃ x, x = l[j] := ⟨_, rfl⟩
      rw [← hx] at hc
      replace hc := cell_later hBr.out hc
      have HX := Lib.hid hx
      clear hx
      cases hp : belowB xs k (x : Int)
      · have HP := Lib.hid hp
        have HN := Lib.hid (find_pass (p := mP xs k) hlt hf.out (by rw [← HX.out]; exact hp))
        clear hp
        go_wp2_with (go_at_call 27; refine (RBelow_calls (Kd.C_below H.out HBr.out) AG.out HS.out k (x : Int)).mono ?_; rintro e w3 ⟨rfl, hb3⟩; rw [HP.out])
        go_roundw
        case rel => exact ⟨j + 1, by omega, by go_num, hBr.out.trans (hb3.mono hBr.out.size), HN.out⟩
        case measure => simp [intOf]; omega
      · have HP := Lib.hid hp
        have HE := Lib.hid (show meetOf xs i k = some x by unfold meetOf; rw [← HLL.out, find_hit (p := mP xs k) hlt hf.out (by rw [← HX.out]; exact hp), HX.out])
        clear hp
        have HCC := Lib.hid hc
        go_wp2_with (go_at_call 27; refine (RBelow_calls (Kd.C_below H.out HBr.out) AG.out HS.out k (x : Int)).mono ?_; rintro e w3 ⟨rfl, hb3⟩; rw [HP.out]; have hc3 := cell_later hb3 HCC.out)
        go_ret
        exact ⟨by rw [HE.out]; rfl, HBr.out.trans (hb3.mono HBr.out.size)⟩
    · have HE := Lib.hid (show meetOf xs i k = none by
        have h1 := hf.out
        rw [List.take_of_length_le (by omega)] at h1
        unfold meetOf
        rw [← HLL.out, h1])
      go_wp2
      go_ret
      exact ⟨by rw [HE.out]; rfl, HBr.out⟩
end Go.Proofs.Ytoakelgcbbbieaa
