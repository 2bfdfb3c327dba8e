/- The values of names, as the program's map and the document's: values. -/
import Derived.Test.YtoakelgcbbbieaaBc
namespace Go.Proofs.Ytoakelgcbbbieaa
open Go.RowKit Go.Maps Go.Shelf Go.Proofs.YtoakelgcbbbieaaW.PrintWords Go.Proofs.YtoakelgcbbbieaaW.PrintLast Go.Proofs.YtoakelgcbbbieaaW.PrintMore
set_option linter.unusedVariables false
set_option linter.unusedSimpArgs false
set_option maxRecDepth 100000

abbrev encP (p : Int × Int) : Value := .agg #[.int .i64 p.1, .int .i64 p.2]
/-- the values of names: the last that is told -/
def toldF (l : List S97) : ByteArray → Option (Int × Int) := l.foldl (fun f x => upd f x.f0 (x.f1, x.f2)) (fun _ => none)
theorem toldF_snoc (l : List S97) (x : S97) : toldF (l ++ [x]) = upd (toldF l) x.f0 (x.f1, x.f2) := by unfold toldF; rw [List.foldl_append]; rfl
theorem take_rd97 {xs : List S97} {j : Nat} (h : j < xs.length) : xs.take (j + 1) = xs.take j ++ [rd_T97 xs (j : Int)] := by
  rw [List.take_add_one, List.getElem?_eq_getElem h]
  unfold rd_T97
  rw [Int.toNat_natCast, List.getD_eq_getElem?_getD, List.getElem?_eq_getElem h]
  rfl
theorem rd97_mem {xs : List S97} {j : Nat} (h : j < xs.length) : rd_T97 xs (j : Int) ∈ xs := by
  unfold rd_T97
  rw [Int.toNat_natCast, List.getD_eq_getElem?_getD, List.getElem?_eq_getElem h]
  exact List.getElem_mem h
theorem below_grown {n : Nat} {A B : World} {b : Nat} (h : A.grownBy B (some b)) (hb : n ≤ b) (hn : n ≤ A.heap.size) : Below n A B :=
  (Below.refl n A).grown h hn (fun k e => by cases e; exact hb)
theorem MapV.grown {α : Type} {enc : α → Value} {W W' : World} {mb b : Nat} {f : ByteArray → Option α} (h : MapV enc W mb f) (g : W.grownBy W' (some b)) (hne : mb ≠ b) : MapV enc W' mb f :=
  h.later (g.block mb h.lt (fun e => hne (by cases e; rfl)))

set_option maxHeartbeats 2000000 in
theorem values_calls {w : World} {A : Option Addr} {c : Nat} {l : List S97} (h : Kd.C k97 w A l.length l) (hs : ∀ x ∈ l, x.f0.size ≤ maxLen) :
    Calls Try.prog 35 #[.slice A l.length c] w fun e w' => ∃ ma mb, e = .returned (.tuple #[.map (some ma), .map (some mb)]) ∧ MapV encP w' ma (toldF l) ∧ MapV encP w' mb (toldF l) ∧ w.heap.size ≤ ma ∧ ma < mb ∧ Below w.heap.size w w' := by
  have HC := Lib.hid h
  have HS := Lib.hid hs
  have hC2 : l.length ≤ 9223372036854775807 := by obtain ⟨_, h, _⟩ := h; exact h
  clear h hs
  have hmm := @run_makeMap Try.prog
  have hd67 := Try.zeroValue67
  go_enter Try.func35, Try.ntmps35
  go_wp2_with fail
  obtain ⟨w2, hw2⟩ : ∃ w2, w2 = (w.alloc (.map #[] 0)).alloc (.map #[] 0) := ⟨_, rfl⟩
  have HA0 := Lib.hid (show MapV encP w2 w.heap.size (fun _ => none) by rw [hw2]; exact (MapV.made encP w).below ((Below.refl _ _).alloc (Nat.le_refl _) _))
  have HB0 := Lib.hid (show MapV encP w2 (w.heap.size + 1) (fun _ => none) by rw [hw2]; have := MapV.made encP (w.alloc (.map #[] 0)); rwa [World.size_alloc] at this)
  have HBL := Lib.hid (show Below w.heap.size w w2 by rw [hw2]; exact ((Below.refl _ _).alloc (Nat.le_refl _) _).alloc (by simp) _)
  have HSZ := Lib.hid (show w2.heap.size = w.heap.size + 2 by rw [hw2]; simp)
  try simp only [World.size_alloc]
  rw [← hw2]
  clear hw2 hmm
  go_loopw [12] (fun i wr => ∃ j : Nat, j ≤ l.length ∧ i = .int .i64 j ∧ Hid (MapV encP wr w.heap.size (toldF (l.take j)) ∧ MapV encP wr (w.heap.size + 1) (toldF (l.take j)) ∧ Below w.heap.size w2 wr)) (fun i _ => l.length - (intOf i).toNat)
  case atStart => exact ⟨0, Nat.zero_le _, rfl, HA0.out, HB0.out, Below.refl _ _⟩
  case round =>
    obtain ⟨j, hj, rfl, hI⟩ := hrel
    by_cases hlt : j < l.length
    · obtain ⟨hA, hB, hb⟩ := hI.out
      have HI := hI
      clear hI
      obtain ⟨ad, rfl, h0, h1, h2⟩ := at_T97 (HC.out) (j : Int) (by omega) (by omega)
      have hbw : Below w.heap.size w wr := HBL.out.trans hb
      replace h0 := cell_later hbw h0
      replace h1 := cell_later hbw h1
      replace h2 := cell_later hbw h2
      obtain ⟨x, hx⟩ : ∃ x, x = rd_T97 l (j : Int) := ⟨_, rfl⟩
      have hsx := HS.out x (by rw [hx]; exact rd97_mem hlt)
      have HTK := Lib.hid (show l.take (j + 1) = l.take j ++ [x] by rw [hx]; exact take_rd97 hlt)
      rw [← hx] at h0 h1 h2
      rw [Int.toNat_natCast] at h0 h1 h2
      clear hx
      obtain ⟨b8, hb8⟩ : ∃ b8, b8 = wr.heap.size := ⟨_, rfl⟩
      obtain ⟨w8, hw8⟩ : ∃ w8, w8 = wr.alloc (.cells #[.string x.f0, .int .i64 x.f1, .int .i64 x.f2] 97) := ⟨_, rfl⟩
      have hB8 : Below wr.heap.size wr w8 := by rw [hw8]; exact (Below.refl _ _).alloc (Nat.le_refl _) _
      have hk8 : w8.heap[b8]? = some (.cells #[.string x.f0, .int .i64 x.f1, .int .i64 x.f2] 97 (0, 0)) := by rw [hw8, hb8]; exact World.alloc_heap_new wr _
      have hs8 : w8.heap.size = b8 + 1 := by rw [hw8, hb8]; simp
      have hAlt := hA.lt
      have hBlt := hB.lt
      rw [← hb8] at hAlt hBlt
      obtain ⟨W2, r2, hA2, g2⟩ := (hA.below hB8).put Try.underlying61 hsx (x.f1, x.f2)
      have hk2 : W2.heap[b8]? = some (.cells #[.string x.f0, .int .i64 x.f1, .int .i64 x.f2] 97 (0, 0)) := (g2.block b8 (by omega) (by simp; omega)).trans hk8
      have hB2 := ((hB.below hB8).grown g2 (by omega))
      obtain ⟨W3, r3, hB3, g3⟩ := hB2.put Try.underlying62 hsx (x.f1, x.f2)
      have hA3 := hA2.grown g3 (by omega)
      have hs2 := g2.size
      have HN := Lib.hid (show MapV encP W3 w.heap.size (toldF (l.take (j + 1))) ∧ MapV encP W3 (w.heap.size + 1) (toldF (l.take (j + 1))) ∧ Below w.heap.size w2 W3 from by
        rw [HTK.out, toldF_snoc]
        refine ⟨hA3, hB3, (hb.trans (hB8.mono (by omega))).trans ((below_grown g2 (Nat.le_refl _) (by omega)).trans (below_grown g3 (by omega) (by omega)))⟩)
      clear hA hB hb hbw hA2 hB2 hB3 hA3 HI HTK hB8 g2 g3
      have y0 : W2.cell? ⟨b8, 0, none⟩ = some (.string x.f0) := (cell_blk hk2 0).trans rfl
      have y1 : W2.cell? ⟨b8, 1, none⟩ = some (.int .i64 x.f1) := (cell_blk hk2 1).trans rfl
      have y2 : W2.cell? ⟨b8, 2, none⟩ = some (.int .i64 x.f2) := (cell_blk hk2 2).trans rfl
      clear hk8 hk2
      subst hw8
      subst hb8
      dsimp only [encP] at r2 r3
      go_wp2_with fail
      go_roundw
      case rel => exact ⟨j + 1, by omega, by go_num, HN.out⟩
      case measure => simp [intOf]; omega
    · obtain rfl : j = l.length := by omega
      rw [List.take_length] at hI
      go_wp2
      go_ret2
      exact ⟨_, _, rfl, hI.out.1, hI.out.2.1, Nat.le_refl _, Nat.lt_succ_self _, HBL.out.trans hI.out.2.2⟩
end Go.Proofs.Ytoakelgcbbbieaa
