/- The document's search for a name, walked: for any entries that tell what a table tells. -/
import Derived.Test.YtoakelgcbbbieaaM
namespace Go.Proofs.Ytoakelgcbbbieaa
open Go.RowKit Go.Maps Go.Proofs.YtoakelgcbbbieaaW.PrintWords Go.Proofs.YtoakelgcbbbieaaW.PrintLast Go.Proofs.YtoakelgcbbbieaaW.PrintMore
set_option linter.unusedVariables false
set_option linter.unusedSimpArgs false
set_option maxRecDepth 100000

theorem bl_loop (b : ByteArray) : ∀ (d i : Nat) (r : List UInt8), b.size - i = d → ByteArray.toList.loop b i r = r.reverse ++ b.data.toList.drop i := by
  intro d
  induction d with
  | zero =>
    intro i r h
    unfold ByteArray.toList.loop
    rw [if_neg (by omega), List.drop_eq_nil_of_le (by rw [Array.length_toList]; show b.size ≤ i; omega), List.append_nil]
  | succ d ih =>
    intro i r h
    have hi : i < b.size := by omega
    unfold ByteArray.toList.loop
    rw [if_pos hi, ih (i + 1) _ (by omega), List.drop_eq_getElem_cons (i := i) (by rw [Array.length_toList]; exact hi)]
    simp [ByteArray.get!, hi]
theorem toList_data (b : ByteArray) : b.toList = b.data.toList := by
  unfold ByteArray.toList
  rw [bl_loop b b.size 0 [] (by omega)]; simp
theorem toList_inj {a b : ByteArray} : a.toList = b.toList ↔ a = b := by
  rw [toList_data, toList_data]
  constructor
  · intro h; cases a; cases b; simp at h; subst h; rfl
  · rintro rfl; rfl

/-! ### the document's functions over a table that tells the same names -/
def key (x : S124) : ByteArray × ByteArray × Bool := (x.f1.f1.f0, x.f1.f2.f0, x.f1.f0)
def rkey (y : S145) : ByteArray × ByteArray × Bool := (y.f1.f1.f0, y.f1.f2.f0, y.f1.f0)
def Ag (xs : List S124) (rs : List S145) : Prop := xs.map key = rs.map rkey
theorem Ag.len {xs : List S124} {rs : List S145} (h : Ag xs rs) : rs.length = xs.length := by have := congrArg List.length h; simpa using this.symm
theorem Ag.at_ {xs : List S124} {rs : List S145} (h : Ag xs rs) (k : Nat) (hk : k < xs.length) : (rd_T145 rs k).f1.f1.f0 = (rd_T124 xs k).f1.f1.f0 ∧ (rd_T145 rs k).f1.f2.f0 = (rd_T124 xs k).f1.f2.f0 ∧ (rd_T145 rs k).f1.f0 = (rd_T124 xs k).f1.f0 := by
  have hl := h.len
  have e := congrArg (fun l => l[k]?) h
  simp only [List.getElem?_map, List.getElem?_eq_getElem hk, List.getElem?_eq_getElem (show k < rs.length by omega), Option.map_some] at e
  injection e with e
  have e1 : rd_T124 xs k = xs[k] := by unfold rd_T124; rw [Int.toNat_natCast, List.getD_eq_getElem?_getD, List.getElem?_eq_getElem hk]; rfl
  have e2 : rd_T145 rs k = rs[k]'(by omega) := by unfold rd_T145; rw [Int.toNat_natCast, List.getD_eq_getElem?_getD, List.getElem?_eq_getElem (by omega)]; rfl
  rw [e1, e2]
  simp only [key, rkey, Prod.mk.injEq] at e
  exact ⟨e.1.symm, e.2.1.symm, e.2.2.symm⟩

theorem rd124 {xs : List S124} {k : Nat} (hk : k < xs.length) : rd_T124 xs k = xs[k] := by unfold rd_T124; rw [Int.toNat_natCast, List.getD_eq_getElem?_getD, List.getElem?_eq_getElem hk]; rfl
theorem fnd_hit {xs : List S124} {s : ByteArray} {k : Nat} (hk : k < xs.length) (h : (rd_T124 xs k).f1.f1.f0 = s) (hb : ∀ j, j < k → (rd_T124 xs j).f1.f1.f0 ≠ s) : fnd xs s = some k := by
  unfold fnd
  rw [List.findIdx?_eq_some_iff_getElem]
  refine ⟨hk, by rw [← rd124 hk]; simpa using h, fun j hj => ?_⟩
  rw [← rd124 (by omega)]; simpa using hb j hj
theorem fnd_miss {xs : List S124} {s : ByteArray} (hb : ∀ j, j < xs.length → (rd_T124 xs j).f1.f1.f0 ≠ s) : fnd xs s = none := by
  unfold fnd
  rw [List.findIdx?_eq_none_iff]
  intro x hx
  obtain ⟨j, hj, rfl⟩ := List.getElem_of_mem hx
  rw [← rd124 hj]; simpa using hb j hj

/-- a number that may be none, as the document tells it -/
def optI (o : Option Nat) : Int := match o with | none => -1 | some k => k
theorem optI_none : optI none = -1 := rfl
theorem optI_some (k : Nat) : optI (some k) = k := rfl

theorem RFind_calls {w : World} {A : Option Addr} {n c : Nat} {xs : List S124} {rs : List S145} (h : Kd.C k145 w A n rs) (ag : Ag xs rs) (s : ByteArray) :
    Calls Try.prog 63 #[.slice A n c, .string s] w fun e w' => e = .returned (.int .i64 (optI (fnd xs s))) ∧ w = w' := by
  obtain rfl := C_len h
  have hm := C_max h
  have H := Lib.hid h
  have HL := Lib.hid ag.len
  have AG := Lib.hid ag
  clear h ag
  go_enter Try.func63, Try.ntmps63
  go_wp2
  go_loop [5] (fun v5 => ∃ k : Nat, k ≤ rs.length ∧ v5 = .int .i64 k ∧ Hid (∀ j, j < k → (rd_T124 xs j).f1.f1.f0 ≠ s)) (fun v5 => rs.length - (intOf v5).toNat)
  case atStart => exact ⟨0, Nat.zero_le _, rfl, fun j hj => absurd hj (Nat.not_lt_zero _)⟩
  case round =>
    obtain ⟨k, hk, rfl, hb⟩ := hrel
    by_cases hlt : k < rs.length
    · obtain ⟨ad, A6, c6, A7, c7, A10, c10, rfl, -, hx1, hx2, hx3, hx4, -⟩ := at_T145 H.out (k : Int) (by omega) (by omega)
      rw [Int.toNat_natCast] at hx1 hx2 hx3 hx4
      have HA := Lib.hid (AG.out.at_ k (by rw [← HL.out]; exact hlt)).1
      by_cases he : (rd_T145 rs k).f1.f1.f0.toList = s.toList
      · have HE := Lib.hid (show optI (fnd xs s) = k by rw [fnd_hit (by rw [← HL.out]; exact hlt) (by rw [← HA.out]; exact toList_inj.1 he) hb.out]; rfl)
        go_wp2
        go_ret
        exact ⟨by rw [HE.out]; rfl, rfl⟩
      · have HE := Lib.hid (fun h => he (toList_inj.2 h))
        have he' : ((rd_T145 rs k).f1.f1.f0.toList == s.toList) = false := by simpa using he
        clear he
        go_wp2
        go_round
        case rel =>
          refine ⟨k + 1, by omega, by go_num, fun j hj => ?_⟩
          rcases Nat.lt_succ_iff_lt_or_eq.1 hj with h1 | rfl
          · exact hb.out j h1
          · rw [← HA.out]; exact HE.out
        case measure => simp [intOf]; omega
    · have HE := Lib.hid (show optI (fnd xs s) = -1 by rw [fnd_miss (fun j hj => hb.out j (by rw [← HL.out] at hj; omega))]; rfl)
      go_wp2
      go_ret
      exact ⟨by rw [HE.out]; rfl, rfl⟩
end Go.Proofs.Ytoakelgcbbbieaa
