/- What is not large has few expressions within; the view as the document has it; which are shaped. -/
import Derived.Test.YtoakelgcbbbieaaBa
import Derived.Test.YtoakelgcbbbieaaBb
import Derived.Test.YtoakelgcbbbieaaAd
import Derived.Test.YtoakelgcbbbieaaAe
namespace Go.Proofs.Ytoakelgcbbbieaa
open Go.RowKit Go.Proofs.YtoakelgcbbbieaaW.PrintWords Go.Proofs.YtoakelgcbbbieaaW.PrintLast Go.Proofs.YtoakelgcbbbieaaW.PrintMore
set_option linter.unusedVariables false
set_option linter.unusedSimpArgs false

/-- short names, short lists: what the form's reading says of an expression -/
inductive G58 : S58 → Prop
  | mk (x : S58) : x.f1.f0.size ≤ maxLen → x.f5.length ≤ maxLen → (∀ y ∈ x.f5, G58 y) → G58 x

theorem exp_ge {k k' : Nat} (h : k ≤ k') {a0 : Int} {a1 : ByteArray} {a2 a3 a4 a5 : Int} {a6 : List S58} {a7 r : Int} (hk : namesakelaw13_exp.f k a0 a1 a2 a3 a4 a5 a6 a7 = some r) : namesakelaw13_exp.f k' a0 a1 a2 a3 a4 a5 a6 a7 = some r := by
  induction h with
  | refl => exact hk
  | step _ ih => exact namesakelaw13_exp.mono _ _ _ _ _ _ _ _ _ _ ih
theorem exp_l0_ge {k k' : Nat} (h : k ≤ k') {a0 : Int} {a1 : List S58} {a2 a3 r : Int} (hk : namesakelaw13_exp.l0 k a0 a1 a2 a3 = some r) : namesakelaw13_exp.l0 k' a0 a1 a2 a3 = some r := by
  induction h with
  | refl => exact hk
  | step _ ih => exact (namesakelaw13_exp.mono_l _).2 _ _ _ _ _ ih

theorem wrap_id {n : Int} (h1 : -9223372036854775808 ≤ n) (h2 : n ≤ 9223372036854775807) : wrap64 n = n := by unfold wrap64; omega

theorem drop_rd58 {xs : List S58} {i : Nat} (h : i < xs.length) : xs.drop i = rd_T58 xs (i : Int) :: xs.drop (i + 1) := by
  rw [List.drop_eq_getElem_cons h]
  congr 1
  unfold rd_T58
  rw [Int.toNat_natCast, List.getD_eq_getElem?_getD, List.getElem?_eq_getElem h]
  rfl

theorem exp_some {x : S58} (h : G58 x) : ∀ left : Int, left ≤ 600 → 0 ≤ left → ∃ k r, namesakelaw13_exp.f k x.f0 x.f1.f0 x.f1.f1 x.f2 x.f3 x.f4 x.f5 left = some r ∧ r ≤ 600 ∧ (0 ≤ r → r + ((flat x).length : Int) ≤ left) := by
  induction h with
  | mk x hn hl hk ih =>
    have loop : ∀ (d i : Nat) (x1 : Int), x.f5.length - i = d → i ≤ x.f5.length → x1 ≤ 600 → ∃ k r, namesakelaw13_exp.l0 k x1 x.f5 (x.f5.length : Int) (i : Int) = some r ∧ r ≤ 600 ∧ (0 ≤ r → r + ((flatL (x.f5.drop i)).length : Int) ≤ x1) := by
      intro d
      induction d with
      | zero =>
        intro i x1 hd hi h1
        obtain rfl : i = x.f5.length := by omega
        refine ⟨1, x1, ?_, h1, fun _ => by simp [flatL]⟩
        rw [namesakelaw13_exp.l0, if_neg (by omega)]
      | succ d ihd =>
        intro i x1 hd hi h1
        have hlt : i < x.f5.length := by omega
        have hmx : maxLen = 9223372036854775807 := rfl
        by_cases hx : x1 < 0
        · refine ⟨1, -1, ?_, by omega, fun h => by omega⟩
          rw [namesakelaw13_exp.l0, if_pos (by omega), if_pos (by omega), if_pos (by omega), if_pos hx]
        · obtain ⟨k1, r1, e1, e2, e3⟩ := ih _ (rd58_mem hlt) x1 h1 (by omega)
          obtain ⟨k2, r2, g1, g2, g3⟩ := ihd (i + 1) r1 (by omega) (by omega) e2
          refine ⟨max k1 k2 + 1, r2, ?_, g2, fun h => ?_⟩
          · rw [namesakelaw13_exp.l0, if_pos (by omega), if_pos (by omega), if_pos (by omega), if_neg hx, exp_ge (Nat.le_max_left k1 k2) e1]
            show namesakelaw13_exp.l0 (max k1 k2) r1 x.f5 _ (wrap64 ((i : Int) + 1)) = some r2
            rw [wrap_id (by omega) (by omega)]
            exact exp_l0_ge (Nat.le_max_right k1 k2) g1
          · have := g3 h
            rw [drop_rd58 hlt, flatL_cons, List.length_append]
            have h4 := flat_pos (rd_T58 x.f5 (i : Int))
            have h5 := e3 (by omega)
            omega
    intro left h1 h2
    have hmx : maxLen = 9223372036854775807 := rfl
    obtain ⟨k, r, e1, e2, e3⟩ := loop x.f5.length 0 (left - (1 + (x.f1.f0.size : Int) / 50)) (by omega) (by omega) (by omega)
    refine ⟨k + 1, r, ?_, e2, fun h => ?_⟩
    · rw [namesakelaw13_exp.f, wrap_id (n := (x.f1.f0.size : Int) / 50) (by omega) (by omega), wrap_id (n := 1 + (x.f1.f0.size : Int) / 50) (by omega) (by omega), wrap_id (by omega) (by omega)]
      exact e1
    · have := e3 h
      rw [List.drop_zero] at this
      rw [flat_eq, List.length_cons]
      omega

set_option maxRecDepth 10000 in
/-- what is not large has at most 600 expressions within -/
theorem large_some {x : S58} (h : G58 x) : ∃ k b, namesakelaw27_large.f k x.f0 x.f1.f0 x.f1.f1 x.f2 x.f3 x.f4 x.f5 = some b ∧ (b = false → (flat x).length ≤ 600) := by
  obtain ⟨k, r, e1, e2, e3⟩ := exp_some h 598 (by omega) (by omega)
  have hz : (⟨#[]⟩ : ByteArray).size = 0 := rfl
  by_cases hr : r < 0
  · refine ⟨k + 20, true, ?_, fun h => by cases h⟩
    have e4 : ∀ d, namesakelaw13_exp.f (k + d) x.f0 x.f1.f0 x.f1.f1 x.f2 x.f3 x.f4 x.f5 598 = some r := fun d => exp_ge (by omega) e1
    simp [namesakelaw27_large.f, namesakelaw13_Size.f, namesakelaw13_Size.l0, namesakelaw13_Size.l1, namesakelaw13_vars.f, namesakelaw13_vars.l0, namesakelaw13_stmts.f, namesakelaw13_stmts.l0, namesakelaw13_stmts.l1, rd_T122, rd_T151, rd_T58, e4, hr, wrap64, hz]
  · refine ⟨k + 20, false, ?_, fun _ => by have := e3 (by omega); omega⟩
    have e4 : ∀ d, namesakelaw13_exp.f (k + d) x.f0 x.f1.f0 x.f1.f1 x.f2 x.f3 x.f4 x.f5 598 = some r := fun d => exp_ge (by omega) e1
    simp [namesakelaw27_large.f, namesakelaw13_Size.f, namesakelaw13_Size.l0, namesakelaw13_Size.l1, namesakelaw13_vars.f, namesakelaw13_vars.l0, namesakelaw13_stmts.f, namesakelaw13_stmts.l0, namesakelaw13_stmts.l1, rd_T122, rd_T151, rd_T58, e4, hr, wrap64, hz]

/-! ### the view as the document has it -/
def conv (x : S58) : S75 := ⟨x.f0, ⟨x.f1.f0, x.f1.f1⟩, x.f2, x.f3, x.f4, x.f5.attach.map (fun y => conv y.1)⟩
termination_by SizeOf.sizeOf x
decreasing_by exact S58.sizeOf_kid y.2
theorem conv_eq (x : S58) : conv x = ⟨x.f0, ⟨x.f1.f0, x.f1.f1⟩, x.f2, x.f3, x.f4, x.f5.map conv⟩ := by
  rw [conv]
  congr 1
  conv => rhs; rw [← List.attach_map_subtype_val x.f5, List.map_map]
  rfl
theorem cexp_ge {k k' : Nat} (h : k ≤ k') {a0 : Int} {a1 : ByteArray} {a2 a3 a4 a5 : Int} {a6 : List S58} {r : Int × ByteArray × Int × Int × Int × Int × List S75} (hk : namesakelaw12_Exp.f k a0 a1 a2 a3 a4 a5 a6 = some r) : namesakelaw12_Exp.f k' a0 a1 a2 a3 a4 a5 a6 = some r := by
  induction h with
  | refl => exact hk
  | step _ ih => exact namesakelaw12_Exp.mono _ _ _ _ _ _ _ _ _ ih
theorem cexp_l0_ge {k k' : Nat} (h : k ≤ k') {a0 : List S58} {a1 a2 a3 : Int} {a4 : ByteArray} {a5 a6 a7 a8 : Int} {a9 : List S75} {r : Int × ByteArray × Int × Int × Int × Int × List S75} (hk : namesakelaw12_Exp.l0 k a0 a1 a2 a3 a4 a5 a6 a7 a8 a9 = some r) : namesakelaw12_Exp.l0 k' a0 a1 a2 a3 a4 a5 a6 a7 a8 a9 = some r := by
  induction h with
  | refl => exact hk
  | step _ ih => exact (namesakelaw12_Exp.mono_l _).2 _ _ _ _ _ _ _ _ _ _ _ ih

theorem kids_few {x : S58} {n : Nat} (h : (flat x).length ≤ n) : x.f5.length ≤ n ∧ ∀ y ∈ x.f5, (flat y).length ≤ n := by
  rw [flat_eq, List.length_cons] at h
  have h1 : ∀ l : List S58, l.length ≤ (flatL l).length := fun l => by
    induction l with
    | nil => simp
    | cons a l ih => rw [flatL_cons, List.length_append, List.length_cons]; have := flat_pos a; omega
  refine ⟨by have := h1 x.f5; omega, fun y hy => ?_⟩
  obtain ⟨s, t, hst⟩ := List.append_of_mem hy
  rw [hst, flatL_append, flatL_cons, List.length_append, List.length_append] at h
  omega

theorem conv_some (x : S58) : (flat x).length ≤ 1000000 → ∃ k, namesakelaw12_Exp.f k x.f0 x.f1.f0 x.f1.f1 x.f2 x.f3 x.f4 x.f5 = some (x.f0, x.f1.f0, x.f1.f1, x.f2, x.f3, x.f4, x.f5.map conv) := by
  induction x using S58.ind with
  | _ x ih =>
  intro hf
  obtain ⟨hl, hk⟩ := kids_few hf
  have loop : ∀ (d i : Nat), x.f5.length - i = d → i ≤ x.f5.length → ∃ k, namesakelaw12_Exp.l0 k x.f5 (x.f5.length : Int) (i : Int) x.f0 x.f1.f0 x.f1.f1 x.f2 x.f3 x.f4 ((x.f5.take i).map conv) = some (x.f0, x.f1.f0, x.f1.f1, x.f2, x.f3, x.f4, x.f5.map conv) := by
    intro d
    induction d with
    | zero =>
      intro i hd hi
      obtain rfl : i = x.f5.length := by omega
      refine ⟨1, ?_⟩
      rw [namesakelaw12_Exp.l0, if_neg (by omega), List.take_length]
    | succ d ihd =>
      intro i hd hi
      have hlt : i < x.f5.length := by omega
      obtain ⟨k1, e1⟩ := ih _ (rd58_mem hlt) (hk _ (rd58_mem hlt))
      obtain ⟨k2, g1⟩ := ihd (i + 1) (by omega) (by omega)
      refine ⟨max k1 k2 + 1, ?_⟩
      rw [namesakelaw12_Exp.l0, if_pos (by omega), if_pos (by omega), if_pos (by omega), cexp_ge (Nat.le_max_left k1 k2) e1]
      show (if ((x.f5.take i).map conv).length < 1759218604441 then namesakelaw12_Exp.l0 (max k1 k2) x.f5 _ (wrap64 ((i : Int) + 1)) _ _ _ _ _ _ _ else none) = _
      rw [if_pos (by rw [List.length_map, List.length_take]; omega), wrap_id (by omega) (by omega)]
      have h2 := cexp_l0_ge (Nat.le_max_right k1 k2) g1
      rw [take_rd58 hlt, List.map_append, List.map_singleton, conv_eq (rd_T58 x.f5 (i : Int))] at h2
      exact h2
  obtain ⟨k, e⟩ := loop x.f5.length 0 (by omega) (by omega)
  refine ⟨k + 1, ?_⟩
  rw [namesakelaw12_Exp.f]
  exact e

/-! ### which are shaped -/
theorem sh_ge {k k' : Nat} (h : k ≤ k') {a0 : Int} {a1 : ByteArray} {a2 a3 a4 a5 : Int} {a6 : List S75} {r : Bool} (hk : namesakeref27_Shaped.f k a0 a1 a2 a3 a4 a5 a6 = some r) : namesakeref27_Shaped.f k' a0 a1 a2 a3 a4 a5 a6 = some r := by
  induction h with
  | refl => exact hk
  | step _ ih => exact namesakeref27_Shaped.mono _ _ _ _ _ _ _ _ _ ih
theorem sh_l0_ge {k k' : Nat} (h : k ≤ k') {a0 a1 : Int} {a2 : ByteArray} {a3 a4 a5 a6 : Int} {a7 : List S75} {r : Bool} (hk : namesakeref27_Shaped.l0 k a0 a1 a2 a3 a4 a5 a6 a7 = some r) : namesakeref27_Shaped.l0 k' a0 a1 a2 a3 a4 a5 a6 a7 = some r := by
  induction h with
  | refl => exact hk
  | step _ ih => exact (namesakeref27_Shaped.mono_l _).2.2.1 _ _ _ _ _ _ _ _ _ ih
theorem sh_head (k : Nat) (a0 : Int) (a1 : ByteArray) (a2 a3 a4 a5 : Int) (a6 : List S75) :
    namesakeref27_Shaped.f (k + 3) a0 a1 a2 a3 a4 a5 a6 = if manyI a0 = (a6.length : Int) then namesakeref27_Shaped.l0 k 0 a0 a1 a2 a3 a4 a5 a6 else some false := by
  have hj : ∀ n : Int, namesakeref27_Shaped.j1 (k + 1) n a0 a1 a2 a3 a4 a5 a6 = if n = (a6.length : Int) then namesakeref27_Shaped.l0 k 0 a0 a1 a2 a3 a4 a5 a6 else some false := fun n => by
    rw [namesakeref27_Shaped.j1]
    by_cases h : (a6.length : Int) = n
    · rw [if_pos h, if_pos h.symm]
    · rw [if_neg h, if_neg (fun e => h e.symm)]
  rw [namesakeref27_Shaped.f]
  simp only [namesakeref27_Shaped.j0, hj]
  unfold manyI
  by_cases h25 : a0 = 25
  · subst h25; simp
  by_cases h26 : a0 = 26
  · subst h26; simp
  by_cases h27 : a0 = 27
  · subst h27; simp
  by_cases h28 : a0 = 28
  · subst h28; simp
  by_cases h29 : a0 = 29
  · subst h29; simp
  by_cases h21 : a0 = 21
  · subst h21; simp
  by_cases h16 : a0 = 16
  · subst h16; simp
  by_cases h17 : a0 = 17
  · subst h17; simp
  by_cases h18 : a0 = 18
  · subst h18; simp
  by_cases h19 : a0 = 19
  · subst h19; simp
  by_cases h20 : a0 = 20
  · subst h20; simp
  simp [h25, h26, h27, h28, h29, h21, h16, h17, h18, h19, h20]

theorem shapedB_eq (x : S58) : shapedB x = (good1 x && x.f5.all shapedB) := by
  unfold shapedB
  rw [flat_eq, List.all_cons]
  congr 1
  unfold flatL
  rw [List.all_flatMap]
theorem rd75_conv {xs : List S58} {i : Nat} (h : i < xs.length) : rd_T75 (xs.map conv) (i : Int) = conv (rd_T58 xs (i : Int)) := by
  unfold rd_T75 rd_T58
  rw [Int.toNat_natCast, List.getD_eq_getElem?_getD, List.getD_eq_getElem?_getD, List.getElem?_map, List.getElem?_eq_getElem h]
  rfl
theorem shaped_some (x : S58) : (flat x).length ≤ 1000000 → ∃ k, namesakeref27_Shaped.f k (conv x).f0 (conv x).f1.f0 (conv x).f1.f1 (conv x).f2 (conv x).f3 (conv x).f4 (conv x).f5 = some (shapedB x) := by
  induction x using S58.ind with
  | _ x ih =>
  intro hf
  obtain ⟨hl, hk⟩ := kids_few hf
  rw [conv_eq, shapedB_eq]
  dsimp only
  by_cases hg : manyI x.f0 = (x.f5.length : Int)
  · have hg' : good1 x = true := by unfold good1; simpa using hg
    have loop : ∀ (d i : Nat), x.f5.length - i = d → i ≤ x.f5.length → ∃ k, namesakeref27_Shaped.l0 k (i : Int) x.f0 x.f1.f0 x.f1.f1 x.f2 x.f3 x.f4 (x.f5.map conv) = some ((x.f5.drop i).all shapedB) := by
      intro d
      induction d with
      | zero =>
        intro i hd hi
        obtain rfl : i = x.f5.length := by omega
        refine ⟨1, ?_⟩
        rw [namesakeref27_Shaped.l0, if_neg (by rw [List.length_map]; omega), List.drop_length]
        rfl
      | succ d ihd =>
        intro i hd hi
        have hlt : i < x.f5.length := by omega
        obtain ⟨k1, e1⟩ := ih _ (rd58_mem hlt) (hk _ (rd58_mem hlt))
        obtain ⟨k2, g1⟩ := ihd (i + 1) (by omega) (by omega)
        refine ⟨max k1 k2 + 1, ?_⟩
        rw [namesakeref27_Shaped.l0, if_pos (by rw [List.length_map]; omega), if_pos (by omega), rd75_conv hlt, sh_ge (Nat.le_max_left k1 k2) e1, drop_rd58 hlt, List.all_cons]
        cases hs : shapedB (rd_T58 x.f5 (i : Int))
        · rfl
        · show namesakeref27_Shaped.l0 (max k1 k2) (wrap64 ((i : Int) + 1)) _ _ _ _ _ _ _ = _
          rw [wrap_id (by omega) (by omega), Bool.true_and]
          exact sh_l0_ge (Nat.le_max_right k1 k2) g1
    obtain ⟨k, e⟩ := loop x.f5.length 0 (by omega) (by omega)
    refine ⟨k + 3, ?_⟩
    rw [sh_head, if_pos (by rw [List.length_map]; exact hg), hg', Bool.true_and]
    exact e
  · have hg' : good1 x = false := by unfold good1; simpa using hg
    refine ⟨3, ?_⟩
    rw [sh_head 0, if_neg (by rw [List.length_map]; exact hg), hg']
    rfl
end Go.Proofs.Ytoakelgcbbbieaa
