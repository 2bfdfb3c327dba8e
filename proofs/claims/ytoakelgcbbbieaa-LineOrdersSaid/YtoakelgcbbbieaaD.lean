/- The entries of the document for any views, walked. -/
import Derived.Test.YtoakelgcbbbieaaM
namespace Go.Proofs.Ytoakelgcbbbieaa
open Go.RowKit Go.Maps Go.Proofs.YtoakelgcbbbieaaW.PrintWords Go.Proofs.YtoakelgcbbbieaaW.PrintLast Go.Proofs.YtoakelgcbbbieaaW.PrintMore
set_option linter.unusedVariables false
set_option linter.unusedSimpArgs false
set_option maxRecDepth 100000

/-! ### the document's table -/
abbrev zREntry : Value := .agg #[.int .i64 0, .bool false, .string ⟨#[]⟩, .int .i64 0, .string ⟨#[]⟩, .int .i64 0, .slice none 0 0, .slice none 0 0, .string ⟨#[]⟩, .int .i64 0, .slice none 0 0]
theorem info145 : (Try.prog.info? 145).map (fun i => (i.zero, i.size, i.bytes)) = some (some zREntry, 11, 160) := by kernel_rfl

def rentsFrom (f : Nat) : List (List S138) → List S145
  | [] => []
  | l :: r => l.map (fun c => (⟨f, c⟩ : S145)) ++ rentsFrom (f + 1) r
def rents (all : List (List S138)) : List S145 := rentsFrom 0 all
theorem rentsFrom_append (a b : List (List S138)) : ∀ f, rentsFrom f (a ++ b) = rentsFrom f a ++ rentsFrom (f + a.length) b := by
  induction a with
  | nil => intro f; simp [rentsFrom]
  | cons x a ih => intro f; simp only [List.cons_append, rentsFrom, ih, List.append_assoc, List.length_cons]; rw [show f + 1 + a.length = f + (a.length + 1) by omega]
theorem rents_snoc (a : List (List S138)) (l : List S138) : rents (a ++ [l]) = rents a ++ l.map (fun c => (⟨a.length, c⟩ : S145)) := by
  simp [rents, rentsFrom_append, rentsFrom]
theorem rents_at (all : List (List S138)) (i k : Nat) (hi : i < all.length) (hk : k < (rd_L27 all i).length) :
    ∃ r, rents all = (rents (all.take i) ++ ((rd_L27 all i).take k).map (fun c => (⟨i, c⟩ : S145))) ++ ⟨i, rd_T138 (rd_L27 all i) k⟩ :: r := by
  have e1 : rd_L27 all i = all[i] := by unfold rd_L27; rw [Int.toNat_natCast, List.getD_eq_getElem?_getD, List.getElem?_eq_getElem hi]; rfl
  have e2 : rd_T138 (rd_L27 all i) k = (rd_L27 all i)[k] := by unfold rd_T138; rw [Int.toNat_natCast, List.getD_eq_getElem?_getD, List.getElem?_eq_getElem hk]; rfl
  have e3 : all = (all.take i ++ [rd_L27 all i]) ++ all.drop (i + 1) := by rw [e1, ← List.take_succ_eq_append_getElem hi, List.take_append_drop]
  have e4 : rd_L27 all i = (rd_L27 all i).take k ++ rd_T138 (rd_L27 all i) k :: (rd_L27 all i).drop (k + 1) := by
    rw [e2, ← List.drop_eq_getElem_cons hk, List.take_append_drop]
  have e5 : (rents ((all.take i ++ [rd_L27 all i]) ++ all.drop (i + 1))) = rents (all.take i) ++ (rd_L27 all i).map (fun c => (⟨i, c⟩ : S145)) ++ rentsFrom (i + 1) (all.drop (i + 1)) := by
    unfold rents
    rw [rentsFrom_append, rentsFrom_append]
    simp [rentsFrom, Nat.min_eq_left (Nat.le_of_lt hi)]
  refine ⟨((rd_L27 all i).drop (k + 1)).map (fun c => (⟨i, c⟩ : S145)) ++ rentsFrom (i + 1) (all.drop (i + 1)), ?_⟩
  calc rents all = rents ((all.take i ++ [rd_L27 all i]) ++ all.drop (i + 1)) := by rw [← e3]
    _ = rents (all.take i) ++ ((rd_L27 all i).take k ++ rd_T138 (rd_L27 all i) k :: (rd_L27 all i).drop (k + 1)).map (fun c => (⟨i, c⟩ : S145)) ++ rentsFrom (i + 1) (all.drop (i + 1)) := by rw [e5, ← e4]
    _ = _ := by simp

set_option maxHeartbeats 1000000 in
theorem RNew_calls {w : World} {A : Option Addr} {n c : Nat} {all : List (List S138)} (h : Kd.C (Kd.slice 138 k138) w A n all) (hsh : (rents all).length ≤ 1000000000) :
    Calls Try.prog 60 #[.slice A n c] w fun e w' => ∃ v, e = .returned v ∧ OwnRow (k145.K w) 145 11 w' w.heap.size v (rents all) ∧ Below w.heap.size w w' := by
  obtain rfl := C_len h
  have hm := C_max h
  have H := Lib.hid h
  have HSH := Lib.hid hsh
  clear h hsh
  go_enter Try.func60, Try.ntmps60
  go_wp2
  go_loopw [3, 4] (fun v3 v4 wr => ∃ (i : Nat), i ≤ all.length ∧ v4 = .int .i64 i ∧ Hid (OwnRow (k145.K w) 145 11 wr w.heap.size v3 (rents (all.take i))) ∧ Hid (Below w.heap.size w wr)) (fun _ v4 wr => all.length - (intOf v4).toNat)
  case atStart => exact ⟨0, Nat.zero_le _, rfl, OwnRow.none_ _ _ _ _ _, Below.refl _ _⟩
  case round =>
    obtain ⟨i, hi, rfl, hO, hB⟩ := hrel
    by_cases hlti : i < all.length
    · obtain ⟨ad, A0, c0, rfl, hx, hl0, hC0⟩ := at_L27 H.out (i : Int) (by omega) (by omega)
      rw [Int.toNat_natCast] at hx
      have hm0 := C_max hC0
      have HC0 := Lib.hid hC0
      have HX0 := Lib.hid hx
      clear hC0 hx
      go_wp2
      go_loopw [3, 5] (fun v3 v5 wr => ∃ (k : Nat), k ≤ (rd_L27 all i).length ∧ v5 = .int .i64 k ∧ ∃ es, Hid (es = rents (all.take i) ++ ((rd_L27 all i).take k).map (fun c => (⟨i, c⟩ : S145))) ∧ Hid (OwnRow (k145.K w) 145 11 wr w.heap.size v3 es) ∧ Hid (Below w.heap.size w wr)) (fun _ v5 wr => (rd_L27 all i).length - (intOf v5).toNat)
      case atStart => exact ⟨0, Nat.zero_le _, rfl, rents (all.take i), by show _ = _; simp, hO, hB⟩
      case round =>
        obtain ⟨k, hk, rfl, es, HES, hO, hB⟩ := hrel
        have hx := cell_later hB.out HX0.out
        by_cases hlt : k < (rd_L27 all i).length
        · obtain ⟨er, her⟩ := rents_at all i k hlti hlt
          rw [← HES.out] at her
          have hesl : es.length < 1000000000 := by have := HSH.out; rw [her] at this; simp at this; omega
          clear her
          have HL := Lib.hid (show (es.length + 1) * 160 ≤ 140737488355328 by omega)
          obtain ⟨ad2, A5, c5, A6, c6, A9, c9, rfl, hx0, hx1, hx2, hx3, hx4, hx5, hx6, hx7, hx8, hx9, hxl5, hxg5, hxl6, hxg6, hxl9, hxg9⟩ := at_T138 HC0.out (k : Int) (by omega) (by omega)
          obtain ⟨x, hxx⟩ : ∃ x, x = rd_T138 (rd_L27 all i) k := ⟨_, rfl⟩
          rw [← hxx, Int.toNat_natCast] at hx0 hx1 hx2 hx3 hx4 hx5 hx6 hx7 hx8 hx9
          rw [← hxx] at hxl5 hxg5 hxl6 hxg6 hxl9 hxg9
          have HSN := Lib.hid (show es ++ [(⟨i, x⟩ : S145)] = rents (all.take i) ++ ((rd_L27 all i).take (k + 1)).map (fun c => (⟨i, c⟩ : S145)) by
            rw [HES.out, hxx, List.take_succ_eq_append_getElem hlt, List.map_append, List.append_assoc]
            unfold rd_T138
            rw [Int.toNat_natCast, List.getD_eq_getElem?_getD, List.getElem?_eq_getElem hlt]; rfl)
          have HK := Lib.hid (k145_mk w (⟨i, x⟩ : S145) hxl5 hxg5 hxl6 hxg6 hxl9 hxg9)
          replace hx0 := cell_later hB.out hx0
          replace hx1 := cell_later hB.out hx1
          replace hx2 := cell_later hB.out hx2
          replace hx3 := cell_later hB.out hx3
          replace hx4 := cell_later hB.out hx4
          replace hx5 := cell_later hB.out hx5
          replace hx6 := cell_later hB.out hx6
          replace hx7 := cell_later hB.out hx7
          replace hx8 := cell_later hB.out hx8
          replace hx9 := cell_later hB.out hx9
          clear hxx hxl5 hxg5 hxl6 hxg6 hxl9 hxg9
          obtain ⟨Av, cv, hv, -⟩ := hO.out.slice_
          subst hv
          go_wp2_with ((with_reducible refine gate_builtin (b := .append) (xs := #[.tmp 21, .tmp 31]) rfl ?_); at_builtin; refine OwnRow.append (R := k145.K w) (w0 := w) w.heap.size rfl (.tmp 21) (.tmp 31) 26 145 zREntry 11 160 rfl Try.underlying26 info145 rfl (by decide) (by decide) (.slice Av es.length cv) es (⟨i, x⟩ : S145) _ rfl rfl HK.out rfl (by simp [Value.oneCell']) hO.out hB.out hB.out.size HL.out ?_; intro v1 w1 hO1 hb1 hg1 hat1)
          go_roundw
          case rel => exact ⟨k + 1, by omega, by go_num, es ++ [(⟨i, x⟩ : S145)], HSN, hO1, hb1⟩
          case measure => simp [intOf]; omega
        · have HE2 := Lib.hid (show es = rents (all.take (i + 1)) by
            rw [HES.out, List.take_of_length_le (l := rd_L27 all i) (by omega), List.take_succ_eq_append_getElem hlti, rents_snoc]
            have e1 : rd_L27 all i = all[i]'(by omega) := by unfold rd_L27; rw [Int.toNat_natCast, List.getD_eq_getElem?_getD, List.getElem?_eq_getElem (by omega)]; rfl
            rw [e1]; simp [Nat.min_eq_left hi])
          go_wp2
          go_roundw
          case rel => exact ⟨i + 1, by omega, by go_num, by show OwnRow _ _ _ _ _ _ _; rw [← HE2.out]; exact hO.out, hB⟩
          case measure => simp [intOf]; omega
    · have HTB := Lib.hid (show rents (all.take i) = rents all by rw [List.take_of_length_le (by omega)])
      go_wp2
      go_ret
      exact ⟨_, rfl, by rw [← HTB.out]; exact hO.out, hB.out⟩
end Go.Proofs.Ytoakelgcbbbieaa
