/- All, the program's and the document's, walked: for any table and any two lists of names. -/
import Derived.Test.YtoakelgcbbbieaaQ
import Derived.Deep.AppendLies
import Derived.Deep.DrawnRows
import Derived.Deep.RegionLaw
import Derived.StillTailTactics
import Derived.Deep.DeepCutAuto
namespace Go.Proofs.Ytoakelgcbbbieaa
open Go.RowKit Go.Maps Go.Proofs.YtoakelgcbbbieaaW.PrintWords Go.Proofs.YtoakelgcbbbieaaW.PrintLast Go.Proofs.YtoakelgcbbbieaaW.PrintMore
set_option linter.unusedVariables false
set_option linter.unusedSimpArgs false
set_option maxRecDepth 100000
attribute [local go_sem ↓] Go.wp_at_zero Go.wp_at_succ

theorem at_str {w : World} {A : Option Addr} {n : Nat} {xs : List ByteArray} (h : Kd.C Kd.string w A n xs) (k : Nat) (h1 : k < xs.length) : ∃ ad, A = some ad ∧ w.cell? (ad.add k) = some (.string xs[k]) := by
  obtain ⟨ad, c, e, _, hK, hc⟩ := Kd.C_get h ⟨#[]⟩ k (by omega) (by have := h.1; omega)
  refine ⟨ad, e, ?_⟩
  have h2 := hc 0 (.string xs[k]) (by
    rw [show c = [.string (xs.getD (k : Int).toNat ⟨#[]⟩)] from hK, Int.toNat_natCast, List.getD_eq_getElem?_getD, List.getElem?_eq_getElem h1]
    rfl)
  rw [Int.toNat_natCast] at h2
  have h3 : k * Kd.string.sz + 0 = k := by show k * 1 + 0 = k; omega
  rw [h3] at h2
  exact h2

def allB (xs : List S124) : List ByteArray → List ByteArray → Bool
  | [], [] => true
  | a :: la, b :: lb => fitsB xs a b && allB xs la lb
  | _, _ => false
theorem allB_len {xs : List S124} : ∀ {la lb : List ByteArray}, la.length ≠ lb.length → allB xs la lb = false
  | [], [], h => absurd rfl h
  | [], b :: lb, h => rfl
  | a :: la, [], h => rfl
  | a :: la, b :: lb, h => by
    unfold allB
    rw [allB_len (by simpa using h)]
    simp
theorem allB_yes {xs : List S124} : ∀ {la lb : List ByteArray}, la.length = lb.length → (∀ j (h1 : j < la.length) (h2 : j < lb.length), fitsB xs la[j] lb[j] = true) → allB xs la lb = true
  | [], [], h, _ => rfl
  | [], b :: lb, h, _ => by simp at h
  | a :: la, [], h, _ => by simp at h
  | a :: la, b :: lb, h, hf => by
    unfold allB
    rw [show fitsB xs a b = true from hf 0 (by simp) (by simp), allB_yes (by simpa using h) (fun j h1 h2 => hf (j + 1) (by simpa using h1) (by simpa using h2))]
    rfl
theorem allB_no {xs : List S124} : ∀ {la lb : List ByteArray} (j : Nat) (h1 : j < la.length) (h2 : j < lb.length), fitsB xs la[j] lb[j] = false → allB xs la lb = false
  | [], lb, j, h1, h2, _ => by simp at h1
  | a :: la, [], j, h1, h2, _ => by simp at h2
  | a :: la, b :: lb, 0, h1, h2, h => by unfold allB; rw [show fitsB xs a b = false from h]; rfl
  | a :: la, b :: lb, j + 1, h1, h2, h => by
    unfold allB
    rw [allB_no j (by simpa using h1) (by simpa using h2) (by simpa using h)]
    simp

theorem All_calls {w : World} {tb : Nat} {xs : List S124} {m : Int} (T : Tab w tb xs m) {A B : Option Addr} {n p c d : Nat} {la lb : List ByteArray} (ha : Kd.C Kd.string w A n la) (hb : Kd.C Kd.string w B p lb) (sa : ∀ s ∈ la, s.size ≤ maxLen) (sb : ∀ s ∈ lb, s.size ≤ maxLen) :
    Calls Try.prog 31 #[.pointer (some ⟨tb, 0, none⟩), .slice A n c, .slice B p d] w fun e w' => e = .returned (.bool (allB xs la lb)) ∧ Below w.heap.size w w' := by
  obtain rfl := C_len ha
  obtain rfl := C_len hb
  have hma := C_max ha
  have hmb := C_max hb
  have HA := Lib.hid ha
  have HB := Lib.hid hb
  have SA := Lib.hid sa
  have SB := Lib.hid sb
  have HT := Lib.hid T
  clear ha hb sa sb T
  by_cases hl : la.length = lb.length
  · rw [← hl]
    have HL := Lib.hid hl
    clear hl
    go_enter Try.func31, Try.ntmps31
    go_wp2
    go_loopw [16] (fun v16 wr => ∃ k : Nat, k ≤ la.length ∧ v16 = .int .i64 k ∧ Below w.heap.size w wr ∧ Hid (∀ j (h1 : j < la.length) (h2 : j < lb.length), j < k → fitsB xs la[j] lb[j] = true)) (fun v16 wr => la.length - (intOf v16).toNat)
    case atStart => exact ⟨0, Nat.zero_le _, rfl, Below.refl _ _, fun j h1 h2 h3 => absurd h3 (Nat.not_lt_zero _)⟩
    case round =>
      obtain ⟨k, hk, rfl, hBr, hall⟩ := hrel
      by_cases hlt : k < la.length
      · have hlt2 : k < lb.length := by rw [← HL.out]; exact hlt
        obtain ⟨ad, rfl, hc⟩ := at_str HA.out k hlt
        obtain ⟨bd, rfl, hd⟩ := at_str HB.out k hlt2
        replace hc := cell_later hBr hc
        replace hd := cell_later hBr hd
        have s1 := SA.out la[k] (List.getElem_mem hlt)
        have s2 := SB.out lb[k] (List.getElem_mem hlt2)
        obtain ⟨x, hx⟩ : ∃ x, x = la[k] := ⟨_, rfl⟩
        obtain ⟨y, hy⟩ : ∃ y, y = lb[k] := ⟨_, rfl⟩
        rw [← hx] at hc s1
        rw [← hy] at hd s2
        have HS1 := Lib.hid s1
        have HS2 := Lib.hid s2
        have HX := Lib.hid hx
        have HY := Lib.hid hy
        have HT1 := Lib.hid (HT.out.later hBr)
        have HBr := Lib.hid hBr
        clear hx hy s1 s2 hBr
        cases hf : fitsB xs x y
        · have HF := Lib.hid hf
          have HE := Lib.hid (allB_no k hlt hlt2 (by rw [← HX.out, ← HY.out]; exact hf))
          clear hf
          go_wp2_with (go_at_call 22; refine (Fits_calls HT1.out x y HS1.out HS2.out).mono ?_; rintro e w2 ⟨rfl, hB2⟩; rw [HF.out])
          go_ret
          exact ⟨by rw [HE.out]; rfl, HBr.out.trans (hB2.mono HBr.out.size)⟩
        · have HF := Lib.hid hf
          clear hf
          go_wp2_with (go_at_call 22; refine (Fits_calls HT1.out x y HS1.out HS2.out).mono ?_; rintro e w2 ⟨rfl, hB2⟩; rw [HF.out])
          go_roundw
          case rel =>
            refine ⟨k + 1, by omega, by go_num, HBr.out.trans (hB2.mono HBr.out.size), fun j h1 h2 h3 => ?_⟩
            rcases Nat.lt_or_eq_of_le (Nat.le_of_lt_succ h3) with h4 | h4
            · exact hall.out j h1 h2 h4
            · subst h4; rw [← HX.out, ← HY.out]; exact HF.out
          case measure => simp [intOf]; omega
      · have HE := Lib.hid (allB_yes HL.out (fun j h1 h2 => hall.out j h1 h2 (by omega)))
        go_wp2
        go_ret
        exact ⟨by rw [HE.out]; rfl, hBr⟩
  · have HE := Lib.hid (allB_len (xs := xs) hl)
    go_enter Try.func31, Try.ntmps31
    go_wp2
    go_ret
    exact ⟨by rw [HE.out]; rfl, Below.refl _ _⟩

theorem All_nil_calls (w : World) : Calls Try.prog 31 #[.pointer none, .slice none 0 0, .slice none 0 0] w fun e w' => e = .returned (.bool true) ∧ Below w.heap.size w w' := by
  go_enter Try.func31, Try.ntmps31
  go_wp2
  go_loopw [16] (fun v16 wr => v16 = .int .i64 0 ∧ w = wr) (fun v16 wr => 0)
  case atStart => exact ⟨rfl, rfl⟩
  case round =>
    obtain ⟨rfl, rfl⟩ := hrel
    go_wp2
    go_ret
    exact ⟨rfl, Below.refl _ _⟩

theorem RAll_calls {w : World} {R : Option Addr} {q r : Nat} {xs : List S124} {rs : List S145} (hr : Kd.C k145 w R q rs) (ag : Ag xs rs) (hsh : xs.length ≤ 1000000000) {A B : Option Addr} {n p c d : Nat} {la lb : List ByteArray} (ha : Kd.C Kd.string w A n la) (hb : Kd.C Kd.string w B p lb) :
    Calls Try.prog 32 #[.slice R q r, .slice A n c, .slice B p d] w fun e w' => e = .returned (.bool (allB xs la lb)) ∧ Below w.heap.size w w' := by
  obtain rfl := C_len ha
  obtain rfl := C_len hb
  have hma := C_max ha
  have hmb := C_max hb
  have HA := Lib.hid ha
  have HB := Lib.hid hb
  have HR := Lib.hid hr
  have AG := Lib.hid ag
  have HS := Lib.hid hsh
  clear ha hb hr ag hsh
  by_cases hl : la.length = lb.length
  · rw [← hl]
    have HL := Lib.hid hl
    clear hl
    go_enter Try.func32, Try.ntmps32
    go_wp2
    go_loopw [7] (fun v7 wr => ∃ k : Nat, k ≤ la.length ∧ v7 = .int .i64 k ∧ Below w.heap.size w wr ∧ Hid (∀ j (h1 : j < la.length) (h2 : j < lb.length), j < k → fitsB xs la[j] lb[j] = true)) (fun v7 wr => la.length - (intOf v7).toNat)
    case atStart => exact ⟨0, Nat.zero_le _, rfl, Below.refl _ _, fun j h1 h2 h3 => absurd h3 (Nat.not_lt_zero _)⟩
    case round =>
      obtain ⟨k, hk, rfl, hBr, hall⟩ := hrel
      by_cases hlt : k < la.length
      · have hlt2 : k < lb.length := by rw [← HL.out]; exact hlt
        obtain ⟨ad, rfl, hc⟩ := at_str HA.out k hlt
        obtain ⟨bd, rfl, hd⟩ := at_str HB.out k hlt2
        replace hc := cell_later hBr hc
        replace hd := cell_later hBr hd
        obtain ⟨x, hx⟩ : ∃ x, x = la[k] := ⟨_, rfl⟩
        obtain ⟨y, hy⟩ : ∃ y, y = lb[k] := ⟨_, rfl⟩
        rw [← hx] at hc
        rw [← hy] at hd
        have HX := Lib.hid hx
        have HY := Lib.hid hy
        have HBr := Lib.hid hBr
        clear hx hy hBr
        cases hf : fitsB xs x y
        all_goals
          have HF := Lib.hid hf
          first | (have HE := Lib.hid (allB_no k hlt hlt2 (by rw [← HX.out, ← HY.out]; exact hf))) | skip
          clear hf
          go_wp2_with fail
          refine wp_region_still_tail 9 (by kernel_rfl) (by kernel_rfl) ?_
          simp only [List.take_succ_cons, List.take_zero, List.drop_succ_cons, List.drop_zero]
          change wpStill _ _ wr.drew (fun a' => wpList _ _ _ _ a' wr.drew) _ _
          repeat still_step
          refine wpStill_nil ?_
          go_wp2_with (go_at_call 23; refine (RFits_calls (Kd.C_below HR.out (HBr.out.trans (below_drew (Below.refl _ _)))) AG.out HS.out x y).mono ?_; rintro e w2 ⟨rfl, hB2⟩; rw [HF.out])
          first
            | (go_roundw
               case rel =>
                 refine ⟨k + 1, by omega, by go_num, HBr.out.trans ((below_drew (Below.refl _ _)).trans (hB2.mono HBr.out.size)), fun j h1 h2 h3 => ?_⟩
                 rcases Nat.lt_or_eq_of_le (Nat.le_of_lt_succ h3) with h4 | h4
                 · exact hall.out j h1 h2 h4
                 · subst h4; rw [← HX.out, ← HY.out]; exact HF.out
               case measure => simp [intOf]; omega)
            | (go_ret
               exact ⟨by rw [HE.out]; rfl, HBr.out.trans ((below_drew (Below.refl _ _)).trans (hB2.mono HBr.out.size))⟩)
      · have HE := Lib.hid (allB_yes HL.out (fun j h1 h2 => hall.out j h1 h2 (by omega)))
        go_wp2
        go_ret
        exact ⟨by rw [HE.out]; rfl, hBr⟩
  · have HE := Lib.hid (allB_len (xs := xs) hl)
    go_enter Try.func32, Try.ntmps32
    go_wp2
    go_ret
    exact ⟨by rw [HE.out]; rfl, Below.refl _ _⟩
end Go.Proofs.Ytoakelgcbbbieaa
