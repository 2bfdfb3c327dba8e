/- The document's Exps: an expression and all within, behind others. -/
import Derived.Test.YtoakelgcbbbieaaBn
namespace Go.Proofs.Ytoakelgcbbbieaa
open Go.RowKit Go.Maps Go.Proofs.YtoakelgcbbbieaaW.PrintWords Go.Proofs.YtoakelgcbbbieaaW.PrintLast Go.Proofs.YtoakelgcbbbieaaW.PrintMore
set_option linter.unusedVariables false
set_option linter.unusedSimpArgs false
set_option maxRecDepth 100000

abbrev zE75 : Value := .agg #[.int .i64 0, .string ⟨#[]⟩, .int .i64 0, .int .i64 0, .int .i64 0, .int .i64 0, .slice none 0 0]
theorem info75 : (Try.prog.info? 75).map (fun i => (i.zero, i.size, i.bytes)) = some (some zE75, 7, 80) := by kernel_rfl

theorem grown_trans {A B C : World} {r r' : Option Nat} (h : A.grownBy B r) (k : B.grownBy C r') (hr : r' = r ∨ ∃ b, r' = some b ∧ A.heap.size ≤ b) : A.grownBy C r := by
  refine ⟨k.os.trans h.os, k.tape.trans h.tape, k.output.trans h.output, Nat.le_trans h.size k.size, fun i hi hb => (k.block i (by have := h.size; omega) ?_).trans (h.block i hi hb)⟩
  rcases hr with rfl | ⟨b, rfl, hb'⟩
  · exact hb
  · intro e; cases e; omega
theorem own_trans {a b c : Option Nat} {n m : Nat} (hnm : n ≤ m) (h : b = a ∨ ∃ k, b = some k ∧ n ≤ k) (k : c = b ∨ ∃ k, c = some k ∧ m ≤ k) : c = a ∨ ∃ k, c = some k ∧ n ≤ k := by
  rcases k with rfl | ⟨k, rfl, hk⟩
  · exact h
  · exact .inr ⟨k, rfl, by omega⟩

abbrev eY' (x : S75) (A6 : Option Addr) (c6 : Nat) : Array Value := #[.int .i64 x.f0, .string x.f1.f0, .int .i64 x.f1.f1, .int .i64 x.f2, .int .i64 x.f3, .int .i64 x.f4, .slice A6 x.f5.length c6]

theorem flat_take {x : S58} {j : Nat} (h : j < x.f5.length) : flatL (x.f5.take (j + 1)) = flatL (x.f5.take j) ++ flat (rd_T58 x.f5 (j : Int)) := by
  rw [take_rd58 h, flatL_append]; congr 1; simp [flatL]
theorem flatL_take_le (l : List S58) (j : Nat) : (flatL (l.take j)).length ≤ (flatL l).length := by
  conv => rhs; rw [← List.take_append_drop j l, flatL_append, List.length_append]
  omega

set_option maxHeartbeats 2000000 in
theorem RExps_ok (w0 : World) (x : S58) : ∀ {A : Option Addr} {c : Nat} {w : World} {v : Value} {l : List S75}, Kd.C k75 w0 A (conv x).f5.length (conv x).f5 → (conv x).f5.length ≤ c → Below w0.heap.size w0 w → OwnRow (k75.K w0) 75 7 w w0.heap.size v l → l.length + (flat x).length ≤ 1000000 →
    Calls Try.prog 42 #[.agg (eY (conv x) A c), v] w fun e w' => ∃ v', e = .returned v' ∧ OwnRow (k75.K w0) 75 7 w' w0.heap.size v' (l ++ (flat x).map conv) ∧ Below w0.heap.size w0 w' ∧ w.grownBy w' v.ownBlock ∧ (v'.ownBlock = v.ownBlock ∨ ∃ b, v'.ownBlock = some b ∧ w.heap.size ≤ b) := by
  refine S58.ind (P := fun x => ∀ {A : Option Addr} {c : Nat} {w : World} {v : Value} {l : List S75}, Kd.C k75 w0 A (conv x).f5.length (conv x).f5 → (conv x).f5.length ≤ c → Below w0.heap.size w0 w → OwnRow (k75.K w0) 75 7 w w0.heap.size v l → l.length + (flat x).length ≤ 1000000 →
    Calls Try.prog 42 #[.agg (eY (conv x) A c), v] w fun e w' => ∃ v', e = .returned v' ∧ OwnRow (k75.K w0) 75 7 w' w0.heap.size v' (l ++ (flat x).map conv) ∧ Below w0.heap.size w0 w' ∧ w.grownBy w' v.ownBlock ∧ (v'.ownBlock = v.ownBlock ∨ ∃ b, v'.ownBlock = some b ∧ w.heap.size ≤ b)) ?_ x
  clear x
  intro x IH A c w v l hC hc hB hO hl
  have hlen : (conv x).f5.length = x.f5.length := by rw [conv_eq]; simp
  have hfl := flat_eq x
  have hfx : (flat x).length = (flatL x.f5).length + 1 := by rw [hfl]; simp
  obtain ⟨Av, cv, rfl, -⟩ := hO.slice_
  have HIH := Lib.hid IH
  have HK := Lib.hid (k75_mk w0 (conv x) hc hC)
  have HC := Lib.hid hC
  obtain ⟨y, hy⟩ : ∃ y, y = conv x := ⟨_, rfl⟩
  have hcm : (conv x).f5.length ≤ 1000000 := by have := (kids_few (x := x) (n := 1000000) (by omega)).1; omega
  have HY := Lib.hid hy
  have HLEN := Lib.hid hlen
  rw [← hy] at HK HC hcm ⊢
  clear hy
  have h1 : Below w.heap.size w (w.alloc (.cells (eY y A c) 75)) := (Below.refl _ _).alloc (Nat.le_refl _) _
  have HX1 := Lib.hid (World.alloc_heap_new w (.cells (eY y A c) 75))
  have HB1 := Lib.hid (hB.trans (h1.mono hB.size))
  have HO1 := Lib.hid (hO.below h1)
  have HG1 := Lib.hid (show w.grownBy (w.alloc (.cells (eY y A c) 75)) (Value.slice Av l.length cv).ownBlock from ⟨h1.os, h1.tape, h1.output, h1.size, fun k hk _ => h1.block k hk⟩)
  have HN := Lib.hid (show ∀ b, (Value.slice Av l.length cv).ownBlock = some b → b < w.heap.size from fun b hb => by obtain ⟨inner, ho, -⟩ := hO; exact own_lt ho b hb)
  have HL := Lib.hid (show (l.length + 1) * 80 ≤ 140737488355328 by omega)
  have HLL := Lib.hid (show l.length + 1 + (flatL x.f5).length ≤ 1000000 by omega)
  have HFL := Lib.hid hfl
  have hBs := hB.size
  have HBS := Lib.hid (show w0.heap.size ≤ (w.alloc (.cells (eY y A c) 75)).heap.size by simp; omega)
  clear hC hc hB hO hl hlen hfx IH h1 hfl
  go_enter Try.func42, Try.ntmps42
  go_wp2_with ((with_reducible refine gate_builtin (b := .append) (xs := #[.tmp 6, .tmp 8]) rfl ?_); at_builtin; refine OwnRow.append (R := k75.K w0) (w0 := w0) w0.heap.size rfl (.tmp 6) (.tmp 8) 73 75 zE75 7 80 rfl Try.underlying73 info75 rfl (by decide) (by decide) (.slice Av l.length cv) l y _ rfl (by show Value.slice _ _ _ = _; simp) HK.out rfl (by simp [Value.oneCell']) HO1.out HB1.out HBS.out HL.out ?_; intro v1 w1 hO1 hb1 hg1 hat1)
  have hz1 : w.heap.size < w1.heap.size := by have := hg1.size; simp at this; omega
  have HE1 := Lib.hid (show w1.heap[w.heap.size]? = some (.cells (eY y A c) 75 (0, 0)) from (hg1.block _ (by simp) (fun e => by have := HN.out _ e.symm; omega)).trans HX1.out)
  have HG2 := Lib.hid (grown_trans HG1.out hg1 (.inl rfl))
  have HA2 := Lib.hid (show v1.ownBlock = (Value.slice Av l.length cv).ownBlock ∨ ∃ b, v1.ownBlock = some b ∧ w.heap.size ≤ b from hat1.imp id fun ⟨b, h, k⟩ => ⟨b, h, by simp at k; omega⟩)
  have HA3 := Lib.hid (show v1.ownBlock = (Value.slice Av l.length cv).ownBlock ∨ ∃ b, v1.ownBlock = some b ∧ w.heap.size ≤ b ∧ b ≠ w.heap.size from hat1.imp id fun ⟨b, h, k⟩ => ⟨b, h, by simp at k; omega, by simp at k; omega⟩)
  have HO2 := Lib.hid hO1
  have HB2 := Lib.hid hb1
  clear hO1 hb1 hg1 hat1
  go_loopw [1, 5] (fun v i wr => ∃ j : Nat, j ≤ y.f5.length ∧ i = .int .i64 j ∧ Hid (OwnRow (k75.K w0) 75 7 wr w0.heap.size v (l ++ y :: (flatL (x.f5.take j)).map conv)) ∧ Hid (Below w0.heap.size w0 wr) ∧ Hid (w.grownBy wr (Value.slice Av l.length cv).ownBlock) ∧ Hid (v.ownBlock = (Value.slice Av l.length cv).ownBlock ∨ ∃ b, v.ownBlock = some b ∧ w.heap.size ≤ b ∧ b ≠ w.heap.size) ∧ Hid (wr.heap[w.heap.size]? = some (.cells (eY y A c) 75 (0, 0)))) (fun _ i _ => y.f5.length - (intOf i).toNat)
  case atStart => exact ⟨0, Nat.zero_le _, rfl, by show OwnRow _ _ _ _ _ _ _; simpa [flatL] using HO2.out, HB2, HG2, HA3, HE1⟩
  case round =>
    obtain ⟨j, hj, rfl, hO, hB, hG, hA, hE⟩ := hrel
    have hx6 : wr.cell? ⟨w.heap.size, 6, none⟩ = some (.slice A y.f5.length c) := (cell_blk hE.out 6).trans rfl
    by_cases hlt : j < y.f5.length
    · obtain ⟨ad, A6, c6, rfl, k0, k1, k2, k3, k4, k5, k6, k7, k8⟩ := at_T75 HC.out (j : Int) (by omega) (by omega)
      have hjx : j < x.f5.length := by have := HLEN.out; rw [← HY.out] at this; omega
      have hz : rd_T75 y.f5 (j : Int) = conv (rd_T58 x.f5 (j : Int)) := by rw [HY.out, conv_eq]; exact rd75_conv hjx
      rw [hz] at k0 k1 k2 k3 k4 k5 k6 k7 k8
      have hm := rd58_mem hjx
      have HT := Lib.hid (flat_take hjx)
      have hfl := flatL_take_le x.f5 (j + 1)
      obtain ⟨z, hzz⟩ : ∃ z, z = rd_T58 x.f5 (j : Int) := ⟨_, rfl⟩
      rw [← hzz] at k0 k1 k2 k3 k4 k5 k6 k7 k8 hm HT
      have hlz : (l ++ y :: (flatL (x.f5.take j)).map conv).length + (flat z).length ≤ 1000000 := by
        have h2 := HLL.out
        have h3 : (flatL (x.f5.take (j + 1))).length = (flatL (x.f5.take j)).length + (flat z).length := by rw [HT.out]; simp
        simp; omega
      have HR := Lib.hid (HIH.out z hm k8 k7 hB.out hO.out hlz)
      have hzk := conv_eq z
      rw [Int.toNat_natCast] at k0 k1 k2 k3 k4 k5 k6
      replace k0 := cell_later hB.out k0
      replace k1 := cell_later hB.out k1
      replace k2 := cell_later hB.out k2
      replace k3 := cell_later hB.out k3
      replace k4 := cell_later hB.out k4
      replace k5 := cell_later hB.out k5
      replace k6 := cell_later hB.out k6
      obtain ⟨q, hq⟩ : ∃ q, q = conv z := ⟨_, rfl⟩
      have HQ := Lib.hid hq
      rw [← hq] at k0 k1 k2 k3 k4 k5 k6 k7 HR
      clear hz hm hzz hlz hfl hzk hq k8
      go_wp2_with fail
      refine HR.out.mono ?_
      rintro e w2 ⟨v2, rfl, hO2, hB2, hG2, hA2⟩
      have hn1 : u1.ownBlock ≠ some w.heap.size := by
        rcases hA.out with h | ⟨b, h, h1, h2⟩
        · rw [h]; intro e; have := HN.out _ e; omega
        · rw [h]; intro e; cases e; exact h2 rfl
      have hz2 := hG2.size
      have hzr : w.heap.size < wr.heap.size := (Array.getElem?_eq_some_iff.1 hE.out).1
      have HE2 := Lib.hid ((hG2.block w.heap.size hzr (fun e => hn1 e.symm)).trans hE.out)
      have HG2 := Lib.hid (grown_trans hG.out hG2 (hA.out.imp id fun ⟨b, h, k, _⟩ => ⟨b, h, k⟩))
      have HA2 := Lib.hid (show v2.ownBlock = (Value.slice Av l.length cv).ownBlock ∨ ∃ b, v2.ownBlock = some b ∧ w.heap.size ≤ b ∧ b ≠ w.heap.size from by
        rcases hA2 with h | ⟨b, h, k⟩
        · rw [h]; exact hA.out
        · exact .inr ⟨b, h, by omega, by omega⟩)
      have HO2 := Lib.hid (show OwnRow (k75.K w0) 75 7 w2 w0.heap.size v2 (l ++ y :: (flatL (x.f5.take (j + 1))).map conv) by
        rw [HT.out]; simpa using hO2)
      have HB2 := Lib.hid hB2
      clear hO2 hB2 hG2 hA2
      go_wp2_with fail
      go_roundw
      case rel => exact ⟨j + 1, by omega, by go_num, HO2, HB2, HG2, HA2, HE2⟩
      case measure => simp [intOf]; omega
    · have HF := Lib.hid (show l ++ y :: (flatL (x.f5.take j)).map conv = l ++ (flat x).map conv by
        have : x.f5.take j = x.f5 := List.take_of_length_le (by have := HLEN.out; rw [← HY.out] at this; omega)
        rw [this, HFL.out, HY.out]; simp)
      go_wp2_with fail
      go_ret
      exact ⟨_, rfl, by rw [← HF.out]; exact hO.out, hB.out, hG.out, hA.out.imp id fun ⟨b, h, k, _⟩ => ⟨b, h, k⟩⟩
end Go.Proofs.Ytoakelgcbbbieaa
