/- The values of a row of faults, as an iterator: walked for any loop's body. -/
import Derived.Test.YtoakelgcbbbieaaZd
namespace Go.Proofs.Ytoakelgcbbbieaa
open Go.RowKit Go.Maps Go.Shelf Go.Proofs.YtoakelgcbbbieaaW.PrintWords Go.Proofs.YtoakelgcbbbieaaW.PrintLast Go.Proofs.YtoakelgcbbbieaaW.PrintMore
set_option linter.unusedVariables false
set_option linter.unusedSimpArgs false
set_option maxRecDepth 100000
attribute [local go_sem] Oper.semAt_some

abbrev fAgg (x : S113) : Value := .agg #[.int .i64 x.f0, .int .i64 x.f1, .int .i64 x.f2]

theorem Values_calls {w : World} (A : Option Addr) (n c : Nat) :
    Calls Try.prog 93 #[.slice A n c] w fun e w' => e = .returned (.func (.func 98) #[] #[.pointer (some ⟨w.heap.size, 0, none⟩)]) ∧ w' = w.alloc (.cells #[.slice A n c] 107) := by
  go_enter Try.func93, Try.ntmps93
  go_wp2
  go_ret
  exact ⟨rfl, rfl⟩

set_option maxHeartbeats 2000000 in
theorem fvalues_in (n : Nat) (hn : 1 ≤ n) (l bs : Nat) (A : Option Addr) (c : Nat) (fs : List S113) (w : World) (hC : Kd.C k113 w A fs.length fs) (J Jx : List S113 → World → Prop) (W : World) (hW : Below w.heap.size w W) (hJ : AbidesFrom W.heap.size J)
    (hY : ∀ pre x W, J pre W → pre.length < fs.length → YieldAt Fence.wide (n - 1) Try.prog l #[fAgg x] W fun e W' =>
      (e = .returned (.bool true) ∧ J (pre ++ [x]) W' ∧ Below w.heap.size W W') ∨ (e = .returned (.bool false) ∧ Jx (pre ++ [x]) W'))
    (hs : W.cell? ⟨bs, 0, none⟩ = some (.slice A fs.length c)) (h0 : J [] W) :
    CallsIn Fence.wide n Try.prog 98 #[.func (.yield l) #[] #[], .pointer (some ⟨bs, 0, none⟩)] W fun e W' => (∃ v, e = .returned v) ∧
      ((∃ ys, ys = fs ∧ J ys W') ∨ (∃ pre, (∃ j, j ≤ fs.length ∧ pre = fs.take j) ∧ Jx pre W')) := by
  have hm := C_max hC
  have HC := Lib.hid hC
  have HW := Lib.hid hW
  have hJ' : ∀ pre A o, J pre A → J pre (A.alloc o) := fun pre A o h1 => hJ pre A _ none h1 (World.grownBy_alloc A o none) (fun r e => by cases e)
  have HJ := Lib.hid hJ'
  have HY := Lib.hid hY
  clear hJ hJ' hY hC hW
  refine callsIn_of_wp Try.func98 rfl trivial ?_ rfl
  simp only [Try.ntmps98, List.size_toArray, List.length_cons, List.length_nil, Nat.reduceAdd, Nat.reduceSub, Array.replicate_succ, Array.replicate_zero, List.push_toArray, List.append_toArray, List.nil_append, List.cons_append]
  gi_wp2
  gi_loopw [7] (fun i wr => ∃ j : Nat, j ≤ fs.length ∧ i = .int .i64 j ∧ J (fs.take j) wr ∧ Hid (Below w.heap.size w wr)) (fun i _ => fs.length - (intOf i).toNat)
  case atStart => exact ⟨0, Nat.zero_le _, rfl, h0, HW.out⟩
  case round =>
    obtain ⟨j, hj, rfl, hJs, hnx⟩ := hrel
    by_cases hlt : j < fs.length
    · obtain ⟨ad, rfl, hx0, hx1, hx2⟩ := at_T113 HC.out (j : Int) (by omega) (by omega)
      obtain ⟨x, hx⟩ : ∃ x, x = rd_T113 fs j := ⟨_, rfl⟩
      rw [← hx, Int.toNat_natCast] at hx0 hx1 hx2
      have HX := Lib.hid (show fs.take (j + 1) = fs.take j ++ [x] by
        rw [List.take_succ_eq_append_getElem hlt, hx]
        unfold rd_T113
        rw [Int.toNat_natCast, List.getD_eq_getElem?_getD, List.getElem?_eq_getElem hlt]
        rfl)
      clear hx
      replace hx0 := cell_later hnx.out hx0
      replace hx1 := cell_later hnx.out hx1
      replace hx2 := cell_later hnx.out hx2
      have HJ2 := Lib.hid (HJ.out _ _ (.cells #[.int .i64 x.f0, .int .i64 x.f1, .int .i64 x.f2] 113) hJs)
      have HB2 := Lib.hid (hnx.out.alloc hnx.out.size (.cells #[.int .i64 x.f0, .int .i64 x.f1, .int .i64 x.f2] 113))
      obtain ⟨fn, tmps, assign, body, hy, hR⟩ := HY.out _ x _ HJ2.out (by rw [List.length_take]; omega)
      dsimp only [fAgg] at hy
      gi_wp2
      refine hR.mono ?_
      rintro e W3 (⟨rfl, hJ3, hk3⟩ | ⟨rfl, hJx3⟩)
      · gi_wp2
        go_roundw
        case rel => exact ⟨j + 1, by omega, by go_num, by rw [HX.out]; exact hJ3, HB2.out.trans hk3⟩
        case measure => simp [intOf]; omega
      · gi_wp2
        refine bodyPost_ret (results_none rfl _ _ _) rfl ?_
        exact ⟨⟨_, rfl⟩, .inr ⟨_, ⟨j + 1, by omega, HX.out.symm⟩, hJx3⟩⟩
    · obtain rfl : j = fs.length := by omega
      rw [List.take_length] at hJs
      gi_wp2
      go_end0
      exact ⟨⟨_, rfl⟩, .inl ⟨_, rfl, hJs⟩⟩

theorem fvalues_stops {n : Nat} (hn : 1 ≤ n) {w : World} {bs : Nat} {A : Option Addr} {c : Nat} {fs : List S113} (hC : Kd.C k113 w A fs.length fs) (hs : w.cell? ⟨bs, 0, none⟩ = some (.slice A fs.length c)) (hlt : bs < w.heap.size) :
    SeqStopsK Fence.wide n Try.prog 98 #[.pointer (some ⟨bs, 0, none⟩)] (fun x : S113 => #[fAgg x]) (Below w.heap.size) (fun ys => ys = fs) (fun pre => pre <+: fs) fs.length w := fun l J Jx W hW hJ _ hY h0 => by
  refine (fvalues_in n hn l bs A c fs w hC J Jx W hW hJ hY ((hW.cell (p := ⟨bs, 0, none⟩) hlt).trans hs) h0).mono ?_
  rintro e W' ⟨he, ⟨ys, rfl, hj⟩ | ⟨pre, ⟨j, hj, rfl⟩, hx⟩⟩
  · exact ⟨he, .inl ⟨_, rfl, hj⟩⟩
  · exact ⟨he, .inr ⟨_, List.take_prefix _ _, hx⟩⟩
end Go.Proofs.Ytoakelgcbbbieaa
