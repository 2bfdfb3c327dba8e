/- Below is carried on, and fits with it: laws of plain lists. -/
import Derived.Test.YtoakelgcbbbieaaH
namespace Go.Proofs.Ytoakelgcbbbieaa
open Go.RowKit Go.Maps Go.Proofs.YtoakelgcbbbieaaW.PrintWords Go.Proofs.YtoakelgcbbbieaaW.PrintLast Go.Proofs.YtoakelgcbbbieaaW.PrintMore
set_option linter.unusedVariables false
set_option linter.unusedSimpArgs false

/-- what a line has gathered, its end's super is in it -/
theorem lineGo_closed (xs : List S124) : ∀ (f : Nat) (acc : List Nat) (cur : Option Nat), f + acc.length = xs.length + 1 → acc.Nodup → (∀ k ∈ acc, k < xs.length) → (∀ c, cur = some c → c < xs.length) →
    (∀ a ∈ acc, ∀ b, sup xs (a : Int) = some b → b ∈ acc ∨ cur = some b) → ∀ a ∈ lineGo xs f acc cur, ∀ b, sup xs (a : Int) = some b → b ∈ lineGo xs f acc cur
  | 0, acc, cur, hf, hn, hl, hc, h => by
    have := nodup_le hn hl
    omega
  | f + 1, acc, none, hf, hn, hl, hc, h => by
    intro a ha b hb
    rcases h a ha b hb with h1 | h1
    · exact h1
    · cases h1
  | f + 1, acc, some i, hf, hn, hl, hc, h => by
    unfold lineGo
    split
    · rename_i hi
      intro a ha b hb
      rcases h a ha b hb with h1 | h1
      · exact h1
      · injection h1 with h1; rw [← h1]; exact hi
    · rename_i hi
      refine lineGo_closed xs f (acc ++ [i]) (sup xs i) (by simp; omega) ?_ ?_ (fun c hc => sup_lt hc) ?_
      · exact List.nodup_append.2 ⟨hn, by simp, fun a ha b hb e => hi (by rw [List.mem_singleton.1 hb] at e; rw [← e]; exact ha)⟩
      · intro k hk
        rcases List.mem_append.1 hk with hk | hk
        · exact hl k hk
        · rw [List.mem_singleton.1 hk]; exact hc i rfl
      · intro a ha b hb
        rcases List.mem_append.1 ha with ha | ha
        · rcases h a ha b hb with h1 | h1
          · exact .inl (List.mem_append_left _ h1)
          · injection h1 with h1; exact .inl (by rw [h1]; simp)
        · rw [List.mem_singleton.1 ha] at hb
          exact .inr hb

/-- a line is within whatever holds its start and is closed -/
theorem lineGo_within (xs : List S124) (S : Nat → Prop) (hS : ∀ a, S a → ∀ b, sup xs (a : Int) = some b → S b) : ∀ (f : Nat) (acc : List Nat) (cur : Option Nat), (∀ a ∈ acc, S a) → (∀ c, cur = some c → S c) → ∀ a ∈ lineGo xs f acc cur, S a
  | 0, acc, cur, h1, h2 => h1
  | f + 1, acc, none, h1, h2 => h1
  | f + 1, acc, some i, h1, h2 => by
    unfold lineGo
    split
    · exact h1
    · refine lineGo_within xs S hS f (acc ++ [i]) (sup xs i) (fun a ha => ?_) (fun c hc => hS i (h2 i rfl) c hc)
      rcases List.mem_append.1 ha with ha | ha
      · exact h1 a ha
      · rw [List.mem_singleton.1 ha]; exact h2 i rfl

theorem lineOf_closed (xs : List S124) (i : Int) : ∀ a ∈ lineOf xs i, ∀ b, sup xs (a : Int) = some b → b ∈ lineOf xs i := by
  unfold lineOf
  split
  · exact lineGo_closed xs _ [] _ (by simp) List.nodup_nil (by simp) (fun c hc => by injection hc with hc; omega) (by simp)
  · simp
theorem lineOf_trans {xs : List S124} {i : Int} {k m : Nat} (h : k ∈ lineOf xs i) (h2 : m ∈ lineOf xs k) : m ∈ lineOf xs i := by
  have hc := lineOf_closed xs i
  unfold lineOf at h2
  split at h2
  · refine lineGo_within xs (fun a => a ∈ lineOf xs i) hc _ [] _ (by simp) (fun c hc => ?_) m h2
    injection hc with hc
    rw [← hc]
    simpa using h
  · simp at h2
theorem belowB_trans {xs : List S124} {i k m : Nat} (h : belowB xs i k = true) (h2 : belowB xs k m = true) : belowB xs i m = true := by
  rw [belowB_iff] at h h2 ⊢
  exact lineOf_trans h h2

/-! ### fits is an order -/
theorem fits_self (xs : List S124) (a : ByteArray) : fitsB xs a a = knownB xs a := by
  unfold fitsB knownB
  cases hk : kclass xs a with
  | none => simp
  | some i => simp [belowB_self (kclass_lt hk)]
theorem fits_basic {xs : List S124} {a b : ByteArray} (hb : basicB a = true) (h : fitsB xs a b = true) : a = b := by
  unfold fitsB at h
  rw [basic_kclass hb] at h
  simp only [Bool.and_eq_true, beq_iff_eq] at h
  exact toList_inj.1 h.2
theorem fits_known {xs : List S124} {a b : ByteArray} (h : fitsB xs a b = true) : knownB xs a = true ∧ knownB xs b = true := by
  cases hk : kclass xs a with
  | none =>
    have h0 := h
    unfold fitsB at h0
    rw [hk] at h0
    simp only [Bool.and_eq_true, beq_iff_eq] at h0
    have e := toList_inj.1 h0.2
    rw [← e]
    unfold knownB
    simp [h0.1]
  | some i =>
    unfold fitsB at h
    rw [hk] at h
    cases hk2 : kclass xs b with
    | none => rw [hk2] at h; cases h
    | some k => unfold knownB; rw [hk, hk2]; simp
theorem fits_trans {xs : List S124} {a b c : ByteArray} (h : fitsB xs a b = true) (h2 : fitsB xs b c = true) : fitsB xs a c = true := by
  cases hk : kclass xs a with
  | none =>
    have h0 := h
    unfold fitsB at h0
    rw [hk] at h0
    simp only [Bool.and_eq_true, beq_iff_eq] at h0
    rw [toList_inj.1 h0.2]
    exact h2
  | some i =>
    unfold fitsB at h ⊢
    rw [hk] at h ⊢
    cases hk2 : kclass xs b with
    | none => rw [hk2] at h; cases h
    | some k =>
      rw [hk2] at h
      unfold fitsB at h2
      rw [hk2] at h2
      cases hk3 : kclass xs c with
      | none => rw [hk3] at h2; cases h2
      | some m => rw [hk3] at h2; exact belowB_trans h h2
end Go.Proofs.Ytoakelgcbbbieaa
