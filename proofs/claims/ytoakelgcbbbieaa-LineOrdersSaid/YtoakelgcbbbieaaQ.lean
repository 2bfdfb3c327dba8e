/- Large heads and the chapter's example, walked. -/
import Derived.Test.YtoakelgcbbbieaaV
import Derived.Test.YtoakelgcbbbieaaH
import Derived.KernelRfl
/-! Large heads, and the chapter's example. -/
namespace Go.Proofs.Ytoakelgcbbbieaa
open Go.RowKit Go.Maps Go.Proofs.YtoakelgcbbbieaaW.PrintWords Go.Proofs.YtoakelgcbbbieaaW.PrintLast Go.Proofs.YtoakelgcbbbieaaW.PrintMore
set_option linter.unusedVariables false
set_option linter.unusedSimpArgs false
set_option maxRecDepth 100000

def LPost (w : World) (n : Nat) (e : Ending) (w' : World) : Prop := ∃ b, e = .returned (.bool b) ∧ (b = false → n ≤ 31) ∧ Below w.heap.size w w'
theorem Large_calls {w : World} {A : Option Addr} {n c : Nat} {hs : List S129} (h : Kd.C k129 w A n hs) :
    Calls Try.prog 14 #[.slice A n c] w (LPost w hs.length) := by
  obtain rfl := C_len h
  have hm := C_max h
  have H := Lib.hid h
  clear h
  go_enter Try.func14, Try.ntmps14
  go_wp2
  go_loopw [3, 8] (fun v3 v8 wr => ∃ (i : Nat) (s : Int), i ≤ hs.length ∧ v3 = .int .i64 s ∧ v8 = .int .i64 i ∧ i ≤ 31 ∧ Below w.heap.size w wr) (fun _ v8 wr => hs.length - (intOf v8).toNat)
  case atStart => exact ⟨0, 0, Nat.zero_le _, rfl, rfl, by omega, Below.refl _ _⟩
  case round =>
    obtain ⟨i, s, hi, rfl, rfl, hi3, hB⟩ := hrel
    by_cases hlt : i < hs.length
    · obtain ⟨ad, rfl, hx0, hx1, hx2, hx3, hx4⟩ := at_T129 H.out (i : Int) (by omega) (by omega)
      obtain ⟨x, hx⟩ : ∃ x, x = rd_T129 hs i := ⟨_, rfl⟩
      rw [← hx, Int.toNat_natCast] at hx0 hx1 hx2 hx3 hx4
      clear hx
      replace hx0 := cell_later hB hx0
      replace hx1 := cell_later hB hx1
      replace hx2 := cell_later hB hx2
      replace hx3 := cell_later hB hx3
      replace hx4 := cell_later hB hx4
      have hBa := Lib.hid (hB.alloc hB.size (.cells #[.string x.f0, .string x.f1, .bool x.f2, .int .i64 x.f3, .int .i64 x.f4] 129))
      go_wp2
      all_goals first
        | (go_ret; exact ⟨true, rfl, by simp, hBa.out⟩)
        | (go_roundw
           case rel => exact ⟨i + 1, _, by omega, rfl, by go_num, by omega, hBa.out⟩
           case measure => simp [intOf]; omega)
    · go_wp2
      go_ret
      exact ⟨false, rfl, fun _ => by omega, hB⟩

def ex16 : List S129 := [⟨⟨#[65]⟩, ⟨#[66]⟩, false, 0, 0⟩, ⟨⟨#[66]⟩, ⟨#[]⟩, false, 0, 0⟩]
theorem ex16_1 : fitsB (entsH ex16) ⟨#[65]⟩ ⟨#[66]⟩ = true := by kernel_rfl
theorem ex16_2 : fitsB (entsH ex16) ⟨#[66]⟩ ⟨#[65]⟩ = false := by kernel_rfl
theorem ex16_3 : fitsB (entsH ex16) ⟨#[105, 110, 116]⟩ ⟨#[105, 110, 116]⟩ = true := by kernel_rfl
theorem ex16_names : ∀ x ∈ ex16, x.f0.size ≤ maxLen ∧ x.f1.size ≤ maxLen := by
  intro x hx
  simp only [ex16, List.mem_cons, List.not_mem_nil, or_false] at hx
  rcases hx with rfl | rfl <;> exact ⟨by show (_ : Nat) ≤ 2 ^ 63 - 1; simp [ByteArray.size], by show (_ : Nat) ≤ 2 ^ 63 - 1; simp [ByteArray.size]⟩
theorem small1 : (⟨#[65]⟩ : ByteArray).size ≤ maxLen := by show (_ : Nat) ≤ 2 ^ 63 - 1; simp [ByteArray.size]
theorem small2 : (⟨#[66]⟩ : ByteArray).size ≤ maxLen := by show (_ : Nat) ≤ 2 ^ 63 - 1; simp [ByteArray.size]
theorem small3 : (⟨#[105, 110, 116]⟩ : ByteArray).size ≤ maxLen := by show (_ : Nat) ≤ 2 ^ 63 - 1; simp [ByteArray.size]

/-- a row that stands in a block of its own -/
theorem C_blk {α : Type} {d : Kd α} {w : World} {g e : Nat} {xs : List α} {inner : Array Value} (hb : w.heap[g]? = some (.cells inner e (0, 0))) (h : Reps (d.K w) d.sz xs inner.toList) (hm : xs.length ≤ 9223372036854775807) : d.C w (some ⟨g, 0, none⟩) xs.length xs := by
  refine ⟨rfl, hm, fun _ => ⟨_, rfl, fun j p hj => ⟨(inner.toList.drop (j * d.sz)).take d.sz, d.K_len (h.2 j p hj), h.2 j p hj, fun i u hu => ?_⟩⟩⟩
  have h1 : inner[j * d.sz + i]? = some u := by
    have hi := (List.getElem?_eq_some_iff.1 hu).1
    rw [List.length_take] at hi
    rw [List.getElem?_take_of_lt (by omega), List.getElem?_drop] at hu
    simpa using hu
  have h2 : (⟨g, 0, none⟩ : Addr).add (j * d.sz + i) = ⟨g, j * d.sz + i, none⟩ := by
    unfold Addr.add
    split
    · next h0 => rw [h0]
    · simp
  rw [h2, cell_blk hb, h1]

theorem alive16_calls (w : World) : Calls Try.prog 13 #[] w fun e w' => e = .returned (.bool true) ∧ Below w.heap.size w w' := by
  go_enter Try.func13, Try.ntmps13
  go_wp2_with fail
  refine (Tables_calls (hs := ex16) (C_blk (xs := ex16) (heap_alloc_new w (.cells #[.string ⟨#[65]⟩, .string ⟨#[66]⟩, .bool false, .int .i64 0, .int .i64 0, .string ⟨#[66]⟩, .string ⟨#[]⟩, .bool false, .int .i64 0, .int .i64 0] 129))
    ⟨rfl, fun j p hj => by
      match j, hj with
      | 0, hj => injection hj with hj; subst hj; exact k129_mk _ _
      | 1, hj => injection hj with hj; subst hj; exact k129_mk _ _
      | j + 2, hj => simp [ex16] at hj⟩ (by decide)) (by decide) ex16_names).mono ?_
  rintro e w1 ⟨tb, B, d, rfl, hT, hd, hC, hB⟩
  have HT := Lib.hid hT
  have HB := Lib.hid (show Below w.heap.size w w1 from ((Below.refl _ _).alloc (Nat.le_refl _) _).trans (hB.mono ((Below.refl _ _).alloc (Nat.le_refl _) _).size))
  clear hT hd hC hB
  go_wp2_with fail
  refine (Fits_calls HT.out ⟨#[65]⟩ ⟨#[66]⟩ small1 small2).mono ?_
  rintro e w2 ⟨rfl, hB2⟩
  rw [ex16_1]
  go_wp2_with fail
  refine (Fits_calls (HT.out.later hB2) ⟨#[66]⟩ ⟨#[65]⟩ small2 small1).mono ?_
  rintro e w3 ⟨rfl, hB3⟩
  rw [ex16_2]
  go_wp2_with fail
  refine (Fits_calls ((HT.out.later hB2).later hB3) ⟨#[105, 110, 116]⟩ ⟨#[105, 110, 116]⟩ small3 small3).mono ?_
  rintro e w4 ⟨rfl, hB4⟩
  rw [ex16_3]
  go_wp2
  go_ret
  exact ⟨rfl, HB.out.trans ((hB2.trans ((hB3.trans (hB4.mono hB3.size)).mono hB2.size)).mono HB.out.size)⟩
end Go.Proofs.Ytoakelgcbbbieaa
