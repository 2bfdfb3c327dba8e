/- The document's fits, walked, and that it is the program's. -/
import Derived.Test.YtoakelgcbbbieaaG
namespace Go.Proofs.Ytoakelgcbbbieaa
open Go.RowKit Go.Maps Go.Proofs.YtoakelgcbbbieaaW.PrintWords Go.Proofs.YtoakelgcbbbieaaW.PrintLast Go.Proofs.YtoakelgcbbbieaaW.PrintMore
set_option linter.unusedVariables false
set_option linter.unusedSimpArgs false
set_option maxRecDepth 100000

/-- the document's answer -/
def rfitsB (xs : List S124) (a b : ByteArray) : Bool :=
  if knownB xs a = true ∧ knownB xs b = true then
    if a = b then true else
    match kclass xs a, kclass xs b with
    | some i, some k => belowB xs i k
    | _, _ => false
  else false

theorem kclass_lt {xs : List S124} {s : ByteArray} {k : Nat} (h : kclass xs s = some k) : k < xs.length := by
  unfold kclass at h
  split at h
  · cases h
  · split at h
    · cases h
    · rename_i hf
      split at h
      · cases h
      · injection h with h; subst h; exact fnd_lt hf

theorem lineGo_mem (xs : List S124) : ∀ (f : Nat) (acc : List Nat) (cur : Option Nat) (k : Nat), k ∈ acc → k ∈ lineGo xs f acc cur
  | 0, acc, cur, k, h => h
  | f + 1, acc, none, k, h => h
  | f + 1, acc, some i, k, h => by
    unfold lineGo
    split
    · exact h
    · exact lineGo_mem xs f _ _ k (List.mem_append_left _ h)

theorem belowB_iff {xs : List S124} {i k : Nat} : belowB xs i k = true ↔ k ∈ lineOf xs i := by
  unfold belowB
  rw [contains_ni, decide_eq_true_iff]
theorem belowB_self {xs : List S124} {i : Nat} (h : i < xs.length) : belowB xs i i = true := by
  rw [belowB_iff]
  unfold lineOf
  rw [if_pos (by omega)]
  unfold lineGo
  rw [if_neg (by simp)]
  exact lineGo_mem xs _ _ _ _ (by simp)

theorem basic_kclass {xs : List S124} {s : ByteArray} (h : basicB s = true) : kclass xs s = none := by unfold kclass; rw [if_pos h]

theorem rfits_eq (xs : List S124) (a b : ByteArray) : rfitsB xs a b = fitsB xs a b := by
  unfold rfitsB fitsB knownB
  by_cases hab : a = b
  · subst hab
    cases hk : kclass xs a with
    | none => cases hb : basicB a <;> simp
    | some i => simp [belowB_self (kclass_lt hk)]
  · have hn : (a.toList == b.toList) = false := by rw [beq_eq_false_iff_ne]; exact fun h => hab (toList_inj.1 h)
    cases hk : kclass xs a with
    | none => simp [hn, hab]
    | some i =>
      cases hk2 : kclass xs b with
      | none => simp [hab]
      | some k => simp [hab]

theorem RFits_calls {w : World} {A : Option Addr} {n c : Nat} {xs : List S124} {rs : List S145} (h : Kd.C k145 w A n rs) (ag : Ag xs rs) (hsh : xs.length ≤ 1000000000) (a b : ByteArray) :
    Calls Try.prog 23 #[.slice A n c, .string a, .string b] w fun e w' => e = .returned (.bool (fitsB xs a b)) ∧ Below w.heap.size w w' := by
  rw [← rfits_eq]
  have H := Lib.hid h
  have AG := Lib.hid ag
  have HS := Lib.hid hsh
  clear h ag hsh
  cases hka : knownB xs a
  · have HE := Lib.hid (show rfitsB xs a b = false by unfold rfitsB; rw [if_neg (by rw [hka]; simp)])
    have HKA := Lib.hid hka
    clear hka
    go_enter Try.func23, Try.ntmps23
    go_wp2_with (go_at_call 21; refine (RKnown_calls H.out AG.out a).mono ?_; rintro e w1 ⟨rfl, rfl⟩; rw [HKA.out])
    go_ret
    exact ⟨by rw [HE.out]; rfl, Below.refl _ _⟩
  · have HKA := Lib.hid hka
    cases hkb : knownB xs b
    · have HE := Lib.hid (show rfitsB xs a b = false by unfold rfitsB; rw [if_neg (by rw [hkb]; simp)])
      have HKB := Lib.hid hkb
      clear hka hkb
      go_enter Try.func23, Try.ntmps23
      go_wp2_with fail
      refine (RKnown_calls H.out AG.out a).mono ?_
      rintro e w1 ⟨rfl, rfl⟩
      rw [HKA.out]
      go_wp2_with fail
      refine (RKnown_calls H.out AG.out b).mono ?_
      rintro e w1 ⟨rfl, rfl⟩
      rw [HKB.out]
      go_wp2
      go_ret
      exact ⟨by rw [HE.out]; rfl, Below.refl _ _⟩
    · have HKB := Lib.hid hkb
      have HU := Lib.hid (show rfitsB xs a b = if a = b then true else match kclass xs a, kclass xs b with | some i, some k => belowB xs i k | _, _ => false by unfold rfitsB; rw [if_pos ⟨hka, hkb⟩])
      clear hka hkb
      by_cases hab : a = b
      · have HE := Lib.hid (HU.out.trans (if_pos hab))
        have he : (a.toList == b.toList) = true := by rw [hab]; simp
        have HAB := Lib.hid hab
        clear hab
        go_enter Try.func23, Try.ntmps23
        go_wp2_with fail
        refine (RKnown_calls H.out AG.out a).mono ?_
        rintro e w1 ⟨rfl, rfl⟩
        rw [HKA.out]
        go_wp2_with fail
        refine (RKnown_calls H.out AG.out b).mono ?_
        rintro e w1 ⟨rfl, rfl⟩
        rw [HKB.out]
        go_wp2
        go_ret
        exact ⟨by rw [HE.out]; rfl, Below.refl _ _⟩
      · have HE := Lib.hid (HU.out.trans (if_neg hab))
        have he : (a.toList == b.toList) = false := by rw [beq_eq_false_iff_ne]; exact fun h => hab (toList_inj.1 h)
        clear hab HU
        cases hca : kclass xs a with
        | none =>
          have HCA := Lib.hid hca
          rw [hca] at HE
          clear hca
          go_enter Try.func23, Try.ntmps23
          go_wp2_with fail
          refine (RKnown_calls H.out AG.out a).mono ?_
          rintro e w1 ⟨rfl, rfl⟩
          rw [HKA.out]
          go_wp2_with fail
          refine (RKnown_calls H.out AG.out b).mono ?_
          rintro e w1 ⟨rfl, rfl⟩
          rw [HKB.out]
          go_wp2_with fail
          refine (RKClass_calls H.out AG.out a).mono ?_
          rintro e w1 ⟨rfl, rfl⟩
          rw [HCA.out, optI_none]
          go_wp2
          go_ret
          exact ⟨by rw [HE.out]; rfl, Below.refl _ _⟩
        | some i =>
          have HCA := Lib.hid hca
          rw [hca] at HE
          clear hca
          cases hcb : kclass xs b
          all_goals
            have HCB := Lib.hid hcb
            rw [hcb] at HE
            clear hcb
            go_enter Try.func23, Try.ntmps23
            go_wp2_with fail
            refine (RKnown_calls H.out AG.out a).mono ?_
            rintro e w1 ⟨rfl, rfl⟩
            rw [HKA.out]
            go_wp2_with fail
            refine (RKnown_calls H.out AG.out b).mono ?_
            rintro e w1 ⟨rfl, rfl⟩
            rw [HKB.out]
            go_wp2_with fail
            refine (RKClass_calls H.out AG.out a).mono ?_
            rintro e w1 ⟨rfl, rfl⟩
            rw [HCA.out, optI_some]
            go_wp2_with fail
            refine (RKClass_calls H.out AG.out b).mono ?_
            rintro e w1 ⟨rfl, rfl⟩
            rw [HCB.out]
          · rw [optI_none]
            go_wp2
            go_ret
            exact ⟨by rw [HE.out]; rfl, Below.refl _ _⟩
          · rw [optI_some]
            go_wp2_with fail
            refine (RKClass_calls H.out AG.out a).mono ?_
            rintro e w1 ⟨rfl, rfl⟩
            rw [HCA.out, optI_some]
            go_wp2_with fail
            refine (RKClass_calls H.out AG.out b).mono ?_
            rintro e w1 ⟨rfl, rfl⟩
            rw [HCB.out, optI_some]
            go_wp2_with (go_at_call 27; refine (RBelow_calls H.out AG.out HS.out _ _).mono ?_; rintro e w4 ⟨rfl, hb4⟩)
            go_ret
            exact ⟨by rw [HE.out]; rfl, hb4⟩
end Go.Proofs.Ytoakelgcbbbieaa
