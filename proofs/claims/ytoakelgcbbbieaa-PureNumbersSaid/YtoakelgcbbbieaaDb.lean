/- The statement PureNumbers, walked: for any expression, any numbers. -/
import Derived.Test.YtoakelgcbbbieaaBp
import Derived.Test.YtoakelgcbbbieaaCc
import Derived.Test.YtoakelgcbbbieaaDa
import Derived.Test.YtoakelgcbbbieaaDq
namespace Go.Proofs.Ytoakelgcbbbieaa
open Go.RowKit Go.Maps Go.Shelf Go.Proofs.YtoakelgcbbbieaaW.PrintWords Go.Proofs.YtoakelgcbbbieaaW.PrintLast Go.Proofs.YtoakelgcbbbieaaW.PrintMore
set_option linter.unusedVariables false
set_option linter.unusedSimpArgs false
set_option maxRecDepth 100000
attribute [local go_sem] Oper.semAt_some

/-- the cells of an expression's box, in a later world -/
structure BoxXN (W : World) (b : Nat) (x : S58) (A : Option Addr) (c : Nat) : Prop where
  h0 : W.cell? ⟨b, 0, none⟩ = some (.int .i64 x.f0)
  h1 : W.cell? ⟨b, 1, none⟩ = some (.string x.f1.f0)
  h2 : W.cell? ⟨b, 2, none⟩ = some (.int .i64 x.f1.f1)
  h3 : W.cell? ⟨b, 3, none⟩ = some (.int .i64 x.f2)
  h4 : W.cell? ⟨b, 4, none⟩ = some (.int .i64 x.f3)
  h5 : W.cell? ⟨b, 5, none⟩ = some (.int .i64 x.f4)
  h6 : W.cell? ⟨b, 6, none⟩ = some (.slice A x.f5.length c)
theorem boxXN {W : World} {b : Nat} {x : S58} {A : Option Addr} {c : Nat} (hb : W.heap[b]? = some (.cells (eX x A c) 58 (0, 0))) : BoxXN W b x A c :=
  ⟨(cell_blk hb 0).trans rfl, (cell_blk hb 1).trans rfl, (cell_blk hb 2).trans rfl, (cell_blk hb 3).trans rfl, (cell_blk hb 4).trans rfl, (cell_blk hb 5).trans rfl, (cell_blk hb 6).trans rfl⟩

structure BoxY (W : World) (b : Nat) (x : S75) (A : Option Addr) (c : Nat) : Prop where
  h0 : W.cell? ⟨b, 0, none⟩ = some (.int .i64 x.f0)
  h1 : W.cell? ⟨b, 1, none⟩ = some (.string x.f1.f0)
  h2 : W.cell? ⟨b, 2, none⟩ = some (.int .i64 x.f1.f1)
  h3 : W.cell? ⟨b, 3, none⟩ = some (.int .i64 x.f2)
  h4 : W.cell? ⟨b, 4, none⟩ = some (.int .i64 x.f3)
  h5 : W.cell? ⟨b, 5, none⟩ = some (.int .i64 x.f4)
  h6 : W.cell? ⟨b, 6, none⟩ = some (.slice A x.f5.length c)
theorem boxY {W : World} {b : Nat} {x : S75} {A : Option Addr} {c : Nat} (hb : W.heap[b]? = some (.cells (eY x A c) 75 (0, 0))) : BoxY W b x A c :=
  ⟨(cell_blk hb 0).trans rfl, (cell_blk hb 1).trans rfl, (cell_blk hb 2).trans rfl, (cell_blk hb 3).trans rfl, (cell_blk hb 4).trans rfl, (cell_blk hb 5).trans rfl, (cell_blk hb 6).trans rfl⟩

theorem res8 {tmps : Array Value} {W : World} {b : Nat} {v : Bool} (h : tmps.getD 6 undef = .pointer (some ⟨b, 0, none⟩)) (hc : W.cell? ⟨b, 0, none⟩ = some (.bool v)) : (results Try.f8 tmps).run Try.prog W = .ok (.bool v) W := by
  have h' : tmps[6]?.getD undef = .pointer (some ⟨b, 0, none⟩) := by simpa using h
  simp [results, Try.results8, h', go_sem, hc]
abbrev zN72 : Value := .agg #[.string ⟨#[]⟩, .int .i64 0]
theorem info72 : (Try.prog.info? 72).map (fun i => (i.zero, i.size, i.bytes)) = some (some zN72, 2, 24) := by kernel_rfl

def toR (n : S55) : S72 := ⟨n.f0, n.f1⟩
theorem take_rd75 {xs : List S75} {j : Nat} (h : j < xs.length) : xs.take (j + 1) = xs.take j ++ [rd_T75 xs (j : Int)] := by
  unfold rd_T75
  rw [Int.toNat_natCast, List.getD_eq_getElem?_getD, List.getElem?_eq_getElem h]
  exact List.take_succ_eq_append_getElem h
def wn (q : S75) : List S72 := if q.f0 = 28 then [q.f1] else []
def wants (l : List S75) : List S72 := l.flatMap wn
theorem wants_snoc (l : List S75) (q : S75) : wants (l ++ [q]) = wants l ++ wn q := by simp [wants]
theorem wants_len (l : List S75) : (wants l).length ≤ l.length := by
  induction l with
  | nil => simp [wants]
  | cons a l ih =>
    show (wn a ++ wants l).length ≤ _
    have : (wn a).length ≤ 1 := by unfold wn; split <;> simp
    rw [List.length_append, List.length_cons]; omega
theorem wants_conv (l : List S58) : wants (l.map conv) = (l.flatMap nm1).map toR := by
  induction l with
  | nil => rfl
  | cons a l ih =>
    show wn (conv a) ++ wants (l.map conv) = _
    rw [ih, List.flatMap_cons, List.map_append]
    congr 1
    rw [conv_eq]; unfold wn nm1 toR
    split <;> rfl

theorem bl_loopN (b : ByteArray) : ∀ (d i : Nat) (r : List UInt8), b.size - i = d → ByteArray.toList.loop b i r = r.reverse ++ b.data.toList.drop i := by
  intro d
  induction d with
  | zero =>
    intro i r h
    unfold ByteArray.toList.loop
    rw [if_neg (by omega), List.drop_eq_nil_of_le (by rw [Array.length_toList]; show b.size ≤ i; omega), List.append_nil]
  | succ d ih =>
    intro i r h
    have hi : i < b.size := by omega
    unfold ByteArray.toList.loop
    rw [if_pos hi, ih (i + 1) _ (by omega), List.drop_eq_getElem_cons (i := i) (by rw [Array.length_toList]; exact hi)]
    simp [ByteArray.get!, hi]
theorem toList_dataN (b : ByteArray) : b.toList = b.data.toList := by
  unfold ByteArray.toList
  rw [bl_loopN b b.size 0 [] (by omega)]; simp
theorem toList_injN' {a b : ByteArray} : a.toList = b.toList ↔ a = b := by
  rw [toList_dataN, toList_dataN]
  constructor
  · intro h; cases a; cases b; simp at h; subst h; rfl
  · rintro rfl; rfl
theorem toList_injN {a b : ByteArray} (h : a.toList = b.toList) : a = b := toList_injN'.1 h

theorem round_set {n0 bk n1 : Nat} (V : World) (nq : Nat) (v : Value) (h0 : n0 ≤ bk) (h1 : bk < n1) (hV : n1 ≤ V.heap.size) :
    KeepsFrom n1 V ((V.drewN nq).setCell ⟨bk, 0, none⟩ v) ∧ KpY n0 (n1 + 2) V ((V.drewN nq).setCell ⟨bk, 0, none⟩ v) ∧ But n1 bk V ((V.drewN nq).setCell ⟨bk, 0, none⟩ v) := by
  have hd := below_drawn V nq
  refine ⟨(KeepsFrom.of_grownBy (grown_below hd) (fun j e => by cases e)).trans (KeepsFrom.of_grownBy (grownBy_setCell' _ bk v) (fun j e => by cases e; exact h1)), (KpY.of_below hd (by omega)).trans (KpY.set _ _ _ _ h0 (by omega)), (But.of_below hd hV).trans ⟨rfl, rfl, rfl, by simp, fun g hg hb => Below.heap_setCell _ _ _ g (by show g ≠ bk; omega)⟩⟩
theorem round_box {bk n1 : Nat} {t : TypeId} {u : Value} (V : World) (nq : Nat) (v : Value) (hb : Boxed V bk t u) : Boxed ((V.drewN nq).setCell ⟨bk, 0, none⟩ v) bk t v :=
  (show Boxed (V.drewN nq) bk t u from ((below_drawn V nq).block _ hb.lt).trans hb).set v

set_option maxHeartbeats 4000000 in
theorem PureNumbers_walk {w : World} {x : S58} {A6 : Option Addr} {c6 : Nat} (n stop : Int) (hC : Kd.C k58 w A6 x.f5.length x.f5) (hc : x.f5.length ≤ c6) (hG : G58 x) :
    Calls Try.prog 8 #[.agg (eX x A6 c6), .int .i64 n, .int .i64 stop] w fun e w' => e = .returned (.bool true) ∧ Below w.heap.size w w' := by
  have HC := Lib.hid hC
  have HG := Lib.hid hG
  have Hc := Lib.hid hc
  obtain ⟨W1, hW1⟩ : ∃ W1, W1 = ((w.alloc (.cells (eX x A6 c6) 58)).alloc (.cells #[.int .i64 stop] 3)).alloc (.cells #[.bool false] 4) := ⟨_, rfl⟩
  have HB1 := Lib.hid (show Below w.heap.size w W1 by rw [hW1]; exact (((Below.refl _ _).alloc (Nat.le_refl _) _).alloc (by simp) _).alloc (by simp; omega) _)
  have HX1 := Lib.hid (show W1.heap[w.heap.size]? = some (.cells (eX x A6 c6) 58 (0, 0)) by rw [hW1]; exact (Below.heap_alloc _ _ _ (by simp; omega)).trans ((Below.heap_alloc _ _ _ (by simp)).trans (World.alloc_heap_new w _)))
  have HS1 := Lib.hid (show Boxed W1 (w.heap.size + 1) 3 (.int .i64 stop) by
    rw [hW1]
    have := (Boxed.new (w.alloc (.cells (eX x A6 c6) 58)) 3 (.int .i64 stop)).alloc (.cells #[.bool false] 4)
    rwa [World.size_alloc] at this)
  have HR1 := Lib.hid (show Boxed W1 (w.heap.size + 2) 4 (.bool false) by
    rw [hW1]
    have := Boxed.new ((w.alloc (.cells (eX x A6 c6) 58)).alloc (.cells #[.int .i64 stop] 3)) 4 (.bool false)
    rwa [World.size_alloc, World.size_alloc] at this)
  have hs1 : W1.heap.size = w.heap.size + 3 := by rw [hW1]; simp
  have HW1 := Lib.hid hW1
  clear hC hG hc hW1
  refine (callsIn_wide (n := 5)).1 ?_
  refine callsIn_of_wp_marks Try.func8 rfl trivial ?_ rfl
  simp only [Try.ntmps8, List.size_toArray, List.length_cons, List.length_nil, Nat.reduceAdd, Nat.reduceSub, Array.replicate_succ, Array.replicate_zero, List.push_toArray, List.append_toArray, List.nil_append, List.cons_append]
  refine wpIn_wide.2 ?_
  go_wp2_with fail
  rw [← HW1.out]
  refine (alive27_calls W1).mono ?_
  rintro e w2 ⟨rfl, h2⟩
  have HB2 := Lib.hid (HB1.out.trans (h2.mono HB1.out.size))
  have HX2 := Lib.hid ((h2.block w.heap.size (by omega)).trans HX1.out)
  have HS2 := Lib.hid (show Boxed w2 (w.heap.size + 1) 3 (.int .i64 stop) from (h2.block _ (by omega)).trans HS1.out)
  have HR2 := Lib.hid (show Boxed w2 (w.heap.size + 2) 4 (.bool false) from (h2.block _ (by omega)).trans HR1.out)
  have hs2 : w.heap.size + 3 ≤ w2.heap.size := by have := h2.size; omega
  obtain ⟨b0, b1, b2, b3, b4, b5, b6⟩ := boxXN HX2.out
  clear h2
  go_wp2_with fail
  obtain ⟨b, hb, hlarge⟩ := large_calls (Kd.C_below HC.out HB2.out) Hc.out HG.out
  refine hlarge.mono ?_
  rintro e w3 ⟨rfl, h3⟩
  have HBb := Lib.hid hb
  have HB3 := Lib.hid (HB2.out.trans (h3.mono HB2.out.size))
  have HX3 := Lib.hid ((h3.block w.heap.size (by omega)).trans HX2.out)
  have HS3 := Lib.hid (show Boxed w3 (w.heap.size + 1) 3 (.int .i64 stop) from (h3.block _ (by omega)).trans HS2.out)
  have HR3 := Lib.hid (show Boxed w3 (w.heap.size + 2) 4 (.bool false) from (h3.block _ (by omega)).trans HR2.out)
  have hs3 : w.heap.size + 3 ≤ w3.heap.size := by have := h3.size; omega
  clear h3 hlarge hb b0 b1 b2 b3 b4 b5 b6
  cases b
  case true =>
    have r0 := HR3.out.cell
    have r1 := HR3.out.frozen
    go_wp2
    exact ⟨_, res8 rfl (HR3.out.set (.bool true)).cell, rfl, HB3.out.setCell (p := ⟨w.heap.size + 2, 0, none⟩) (by show w.heap.size ≤ w.heap.size + 2; omega) _⟩
  case false =>
    have HFL := Lib.hid (HBb.out rfl)
    clear HBb
    obtain ⟨b0, b1, b2, b3, b4, b5, b6⟩ := boxXN HX3.out
    have hl3 : w.heap.size < w3.heap.size := by omega
    go_wp2_with fail
    obtain ⟨w4, hw4⟩ : ∃ w4, w4 = w3.alloc (.cells #[.slice none 0 0] 86) := ⟨_, rfl⟩
    have h4 : Below w3.heap.size w3 w4 := by rw [hw4]; exact (Below.refl _ _).alloc (Nat.le_refl _) _
    have HB4 := Lib.hid (HB3.out.trans (h4.mono HB3.out.size))
    have HX4 := Lib.hid ((h4.block w.heap.size (by omega)).trans HX3.out)
    have HS4 := Lib.hid (show Boxed w4 (w.heap.size + 1) 3 (.int .i64 stop) from (h4.block _ (by omega)).trans HS3.out)
    have HR4 := Lib.hid (show Boxed w4 (w.heap.size + 2) 4 (.bool false) from (h4.block _ (by omega)).trans HR3.out)
    have HV4 := Lib.hid (show Boxed w4 w3.heap.size 86 (.slice none 0 0) by rw [hw4]; exact Boxed.new w3 86 _)
    have hs4 : w3.heap.size < w4.heap.size := by rw [hw4]; simp
    rw [← hw4]
    clear h4 hw4 b0 b1 b2 b3 b4 b5 b6
    refine (Exp_calls (Kd.C_below HC.out HB4.out) Hc.out (by have := HFL.out; omega)).mono ?_
    rintro e w5 ⟨A7, d7, rfl, hd7, hC7, h5⟩
    have HB5 := Lib.hid (HB4.out.trans (h5.mono HB4.out.size))
    have HX5 := Lib.hid ((h5.block w.heap.size (by omega)).trans HX4.out)
    have HS5 := Lib.hid (show Boxed w5 (w.heap.size + 1) 3 (.int .i64 stop) from (h5.block _ (by omega)).trans HS4.out)
    have HR5 := Lib.hid (show Boxed w5 (w.heap.size + 2) 4 (.bool false) from (h5.block _ (by omega)).trans HR4.out)
    have HV5 := Lib.hid (show Boxed w5 w3.heap.size 86 (.slice none 0 0) from (h5.block _ (by omega)).trans HV4.out)
    have hs5 : w3.heap.size < w5.heap.size := by have := h5.size; omega
    have HE := Lib.hid (RExps_ok w5 x (v := .slice none 0 0) (l := []) hC7 hd7 (Below.refl _ _) (OwnRow.none_ _ _ _ _ _) (by have := HFL.out; simp; omega))
    clear hC7 hd7 h5
    go_wp2_with fail
    refine HE.out.mono ?_
    rintro e w6 ⟨v6, rfl, hO, h6, -, -⟩
    have hO2 := hO.imp_ (fun p c hp => k75.K_below h6 hp)
    obtain ⟨A8, c8, rfl, hc8, hC8⟩ := hO2.reads
    have HB6 := Lib.hid (HB5.out.trans (h6.mono HB5.out.size))
    have HX6 := Lib.hid ((h6.block w.heap.size (by omega)).trans HX5.out)
    have HS6 := Lib.hid (show Boxed w6 (w.heap.size + 1) 3 (.int .i64 stop) from (h6.block _ (by omega)).trans HS5.out)
    have HR6 := Lib.hid (show Boxed w6 (w.heap.size + 2) 4 (.bool false) from (h6.block _ (by omega)).trans HR5.out)
    have HV6 := Lib.hid (show Boxed w6 w3.heap.size 86 (.slice none 0 0) from (h6.block _ (by omega)).trans HV5.out)
    have hs6 : w3.heap.size < w6.heap.size := by have := h6.size; omega
    obtain ⟨al, hal⟩ : ∃ al, al = (flat x).map conv := ⟨_, rfl⟩
    have hC8' : Kd.C k75 w6 A8 al.length al := by rw [hal]; show ReadsRow (fun p c => k75.K w6 p c) 7 w6 A8 _ _; simpa using hC8
    have HA8 := Lib.hid (show ∀ ad, A8 = some ad → w5.heap.size ≤ ad.block from fun ad e => by obtain ⟨inner, ho, -⟩ := hO; exact own_base ho ad.block (by rw [e]; rfl))
    have HC8 := Lib.hid hC8'
    have HAL := Lib.hid hal
    have halen : al.length ≤ 600 := by rw [hal, List.length_map]; exact HFL.out
    have hLE : Value.slice A8 ([] ++ (flat x).map conv).length c8 = Value.slice A8 al.length c8 := by rw [hal]; simp
    rw [hLE]
    clear hO hO2 h6 hC8 hC8' hal hLE hc8
    go_wp2_with fail
    go_loopw [22] (fun i wr => ∃ k : Nat, k ≤ al.length ∧ i = .int .i64 k ∧ ∃ v, Hid (Boxed wr w3.heap.size 86 v ∧ OwnRow (k72.K w) 72 2 wr w6.heap.size v (wants (al.take k)) ∧ But w6.heap.size w3.heap.size w6 wr)) (fun i _ => al.length - (intOf i).toNat)
    case atStart => exact ⟨0, Nat.zero_le _, rfl, _, HV6.out, OwnRow.none_ _ _ _ _ _, But.refl _ _ _⟩
    case round =>
      obtain ⟨k, hk, rfl, v, hI⟩ := hrel
      by_cases hlt : k < al.length
      · obtain ⟨hbx, hO, hbt⟩ := hI.out
        clear hI
        obtain ⟨ad, A9, c9, rfl, k0, k1, k2, k3, k4, k5, k6, k7, k8⟩ := at_T75 HC8.out (k : Int) (by omega) (by omega)
        have hadb := HA8.out ad rfl
        have hbk : ∀ j, (ad.add j).block = ad.block := fun j => by unfold Addr.add; split <;> rfl
        have hadl : ad.block < w6.heap.size := by have := cell_block k0; rwa [hbk] at this
        have up : ∀ {a : Addr} {u : Value}, a.block = ad.block → w6.cell? a = some u → wr.cell? a = some u := fun {a u} ha h =>
          (World.cell?_of_block (a := a) (by rw [ha]; exact hbt.block ad.block hadl (by omega))).trans h
        rw [Int.toNat_natCast] at k0 k1 k2 k3 k4 k5 k6
        replace k0 := up (by exact hbk _) k0
        replace k1 := up (by exact hbk _) k1
        replace k2 := up (by exact hbk _) k2
        replace k3 := up (by exact hbk _) k3
        replace k4 := up (by exact hbk _) k4
        replace k5 := up (by exact hbk _) k5
        replace k6 := up (by exact hbk _) k6
        have HT := Lib.hid (take_rd75 hlt)
        obtain ⟨q, hq⟩ : ∃ q, q = rd_T75 al (k : Int) := ⟨_, rfl⟩
        rw [← hq] at k0 k1 k2 k3 k4 k5 k6 k7 k8 HT
        obtain ⟨Av, cv, rfl, -⟩ := hO.slice_
        have hvc := hbx.cell
        have hvf := hbx.frozen
        have hlv := hbx.lt
        clear hq k7 k8 up hbk
        by_cases h28 : q.f0 = 28
        · have HK := Lib.hid (k72_mk w q.f1)
          rw [h28] at k0
          have hwa : Below wr.heap.size wr (wr.alloc (.cells #[.int .i64 28, .string q.f1.f0, .int .i64 q.f1.f1, .int .i64 q.f2, .int .i64 q.f3, .int .i64 q.f4, .slice A9 q.f5.length c9] 75)) := (Below.refl _ _).alloc (Nat.le_refl _) _
          have HOa := Lib.hid (hO.below hwa)
          have hwl := hbt.size
          have HBa := Lib.hid (show w6.heap.size ≤ (wr.alloc (.cells #[.int .i64 28, .string q.f1.f0, .int .i64 q.f1.f1, .int .i64 q.f2, .int .i64 q.f3, .int .i64 q.f4, .slice A9 q.f5.length c9] 75)).heap.size by simp; omega)
          have HL := Lib.hid (show ((wants (al.take k)).length + 1) * 24 ≤ 140737488355328 by have := wants_len (al.take k); have := List.length_take_le k al; omega)
          have HN := Lib.hid (show ∀ b, (Value.slice Av (wants (al.take k)).length cv).ownBlock = some b → w6.heap.size ≤ b from fun b hb => by obtain ⟨inner, ho, -⟩ := hO; exact own_base ho b hb)
          have HBX := Lib.hid (show Boxed (wr.alloc (.cells #[.int .i64 28, .string q.f1.f0, .int .i64 q.f1.f1, .int .i64 q.f2, .int .i64 q.f3, .int .i64 q.f4, .slice A9 q.f5.length c9] 75)) w3.heap.size 86 _ from hbx.alloc _)
          have HBT := Lib.hid (hbt.trans (But.of_below hwa hwl))
          have HW := Lib.hid (show wants (al.take (k + 1)) = wants (al.take k) ++ [q.f1] by rw [HT.out, wants_snoc]; unfold wn; rw [if_pos h28])
          clear hO hbt hwa HT h28 hbx
          go_wp2_with ((with_reducible refine gate_builtin (b := .append) (xs := #[.tmp 29, .tmp 32]) rfl ?_); at_builtin; refine OwnRow.append (R := k72.K w) (w0 := _) w6.heap.size rfl (.tmp 29) (.tmp 32) 86 72 zN72 2 24 rfl Try.underlying86 info72 rfl (by decide) (by decide) (.slice Av (wants (al.take k)).length cv) (wants (al.take k)) q.f1 _ rfl (by show Value.slice _ _ _ = _; simp) HK.out rfl (by simp [Value.oneCell']) HOa.out (Below.refl _ _) HBa.out HL.out ?_; intro v1 w1 hO1 hb1 hg1 hat1; obtain ⟨Av1, cv1, rfl, -⟩ := hO1.slice_; have hbx1 := Lib.hid (HBX.out.kept hg1 (fun e => by have := HN.out _ e.symm; omega)); have hc1 := hbx1.out.cell; have hf1 := hbx1.out.frozen)
          obtain ⟨v1, hv1⟩ : ∃ v1, v1 = Value.slice Av1 ((wants (al.take k)).length + 1) cv1 := ⟨_, rfl⟩
          rw [List.length_append, List.length_singleton, ← hv1] at hO1 hat1
          have hbb : Hid (Boxed (w1.setCell ⟨w3.heap.size, 0, none⟩ v1) w3.heap.size 86 v1 ∧ OwnRow (k72.K w) 72 2 (w1.setCell ⟨w3.heap.size, 0, none⟩ v1) w6.heap.size v1 (wants (al.take (k + 1))) ∧ But w6.heap.size w3.heap.size w6 (w1.setCell ⟨w3.heap.size, 0, none⟩ v1)) := by
            refine ⟨hbx1.out.set _, ?_, ?_⟩
            · rw [HW.out]; exact hO1.set_ hbx1.out (by decide) 0 v1
            · refine (HBT.out.trans (b := w3.heap.size) ⟨hg1.os, hg1.tape, hg1.output, hg1.size, fun g hg hb => hg1.block g (by have := HBT.out.size; omega) (fun e => by have := HN.out _ e.symm; omega)⟩).trans ?_
              exact ⟨rfl, rfl, rfl, by simp, fun g hg hb => Below.heap_setCell _ _ _ g (by show g ≠ w3.heap.size; omega)⟩
          clear hO1 hb1 hg1 hat1 hbx1 hc1 hf1
          subst hv1
          go_roundw
          case rel => exact ⟨k + 1, by omega, by go_num, _, hbb⟩
          case measure => simp [intOf]; omega
        · have h28b : (q.f0 == 28) = false := by simpa using h28
          have hwa : Below wr.heap.size wr (wr.alloc (.cells #[.int .i64 q.f0, .string q.f1.f0, .int .i64 q.f1.f1, .int .i64 q.f2, .int .i64 q.f3, .int .i64 q.f4, .slice A9 q.f5.length c9] 75)) := (Below.refl _ _).alloc (Nat.le_refl _) _
          have hwl := hbt.size
          have HI := Lib.hid (show Boxed (wr.alloc (.cells #[.int .i64 q.f0, .string q.f1.f0, .int .i64 q.f1.f1, .int .i64 q.f2, .int .i64 q.f3, .int .i64 q.f4, .slice A9 q.f5.length c9] 75)) w3.heap.size 86 (.slice Av (wants (al.take k)).length cv) ∧ OwnRow (k72.K w) 72 2 (wr.alloc (.cells #[.int .i64 q.f0, .string q.f1.f0, .int .i64 q.f1.f1, .int .i64 q.f2, .int .i64 q.f3, .int .i64 q.f4, .slice A9 q.f5.length c9] 75)) w6.heap.size (.slice Av (wants (al.take k)).length cv) (wants (al.take (k + 1))) ∧ But w6.heap.size w3.heap.size w6 (wr.alloc (.cells #[.int .i64 q.f0, .string q.f1.f0, .int .i64 q.f1.f1, .int .i64 q.f2, .int .i64 q.f3, .int .i64 q.f4, .slice A9 q.f5.length c9] 75)) from
            ⟨hbx.alloc _, by rw [HT.out, wants_snoc]; unfold wn; rw [if_neg h28, List.append_nil]; exact hO.below hwa, hbt.trans (But.of_below hwa hwl)⟩)
          clear hO hbt hwa HT h28 hbx
          go_wp2_with fail
          go_roundw
          case rel => exact ⟨k + 1, by omega, by go_num, _, HI⟩
          case measure => simp [intOf]; omega
      · obtain rfl : k = al.length := by omega
        rw [List.take_length] at hI
        obtain ⟨hbx, hO, hbt⟩ := hI.out
        clear hI
        have hbs := hbt.size
        have HX7 := Lib.hid ((hbt.block w.heap.size (by omega) (by omega)).trans HX6.out)
        have HS7 := Lib.hid (show Boxed wr (w.heap.size + 1) 3 (.int .i64 stop) from (hbt.block _ (by omega) (by omega)).trans HS6.out)
        have HR7 := Lib.hid (show Boxed wr (w.heap.size + 2) 4 (.bool false) from (hbt.block _ (by omega) (by omega)).trans HR6.out)
        have HB7 := Lib.hid (show Below w.heap.size w wr from HB6.out.trans (hbt.below HB6.out.size (by omega)))
        have s0 := HS7.out.cell
        have s1 := HS7.out.frozen
        obtain ⟨inner, hown, hreps⟩ := hO
        have hob := hown
        replace hO : OwnRow (k72.K w) 72 2 wr w6.heap.size v (wants al) := ⟨inner, hown, hreps⟩
        obtain ⟨sN, hsN⟩ : ∃ sN, sN = wrap64 (1 + wrap64 ((IntKind.u64.wrap stop).tmod 10)) := ⟨_, rfl⟩
        have hsN1 : 1 ≤ sN ∧ sN ≤ 10 := by
          have h1 : 0 ≤ IntKind.u64.wrap stop := by show 0 ≤ stop % 2 ^ 64; exact Int.emod_nonneg _ (by decide)
          have h2 : (IntKind.u64.wrap stop).tmod 10 = IntKind.u64.wrap stop % 10 := Int.tmod_eq_emod_of_nonneg h1
          have h4 : IntKind.u64.wrap stop % 10 < 10 ∧ 0 ≤ IntKind.u64.wrap stop % 10 := by omega
          rw [h2] at hsN
          have h3 : wrap64 (IntKind.u64.wrap stop % 10) = IntKind.u64.wrap stop % 10 := wrap_id (by omega) (by omega)
          rw [h3, wrap_id (by omega) (by omega)] at hsN
          omega
        obtain ⟨wd, hwd⟩ : ∃ wd, wd = ((wr.setCell ⟨w.heap.size + 1, 0, none⟩ (.int .i64 sN)).alloc (.cells #[.int .i64 0] 3)) := ⟨_, rfl⟩
        have hd0 : But wr.heap.size (w.heap.size + 1) wr wd := by
          rw [hwd]
          refine (show But wr.heap.size (w.heap.size + 1) wr (wr.setCell ⟨w.heap.size + 1, 0, none⟩ (.int .i64 sN)) from ⟨rfl, rfl, rfl, by simp, fun g hg hb => Below.heap_setCell _ _ _ g (by show g ≠ w.heap.size + 1; omega)⟩).trans ?_
          exact But.of_below ((Below.refl _ _).alloc (Nat.le_refl _) _) (by simp)
        have HXd := Lib.hid ((hd0.block w.heap.size (by omega) (by omega)).trans HX7.out)
        have HRd := Lib.hid (show Boxed wd (w.heap.size + 2) 4 (.bool false) from (hd0.block _ (by omega) (by omega)).trans HR7.out)
        have HVd := Lib.hid (show Boxed wd w3.heap.size 86 v from (hd0.block _ (by omega) (by omega)).trans hbx)
        have HSd := Lib.hid (show Boxed wd (w.heap.size + 1) 3 (.int .i64 sN) by rw [hwd]; exact (HS7.out.set (.int .i64 sN)).alloc _)
        have HKd := Lib.hid (show Boxed wd wr.heap.size 3 (.int .i64 0) by rw [hwd]; have := Boxed.new (wr.setCell ⟨w.heap.size + 1, 0, none⟩ (.int .i64 sN)) 3 (.int .i64 0); rwa [World.size_setCell] at this)
        have HOd := Lib.hid (show OwnRow (k72.K w) 72 2 wd w6.heap.size v (wants al) by
          rw [hwd]
          exact (hO.set_ HS7.out (by decide) 0 (.int .i64 sN)).below ((Below.refl _ _).alloc (Nat.le_refl _) _))
        have HBd := Lib.hid (show Below w.heap.size w wd from HB7.out.trans (hd0.below HB7.out.size (by omega)))
        have hsd : wd.heap.size = wr.heap.size + 1 := by rw [hwd]; simp
        obtain ⟨b0, b1, b2, b3, b4, b5, b6⟩ := boxXN HX7.out
        have hlr : w.heap.size < wr.heap.size := by omega
        have HOB := Lib.hid (show ∀ b, v.ownBlock = some b → b < wr.heap.size from fun b hb => own_lt hob b hb)
        have HSN := Lib.hid hsN
        have HWD := Lib.hid hwd
        clear hbt hO hbx hd0 hob hown hreps hsN hwd
        go_wp2_with fail
        rw [← HSN.out, ← HWD.out]
        refine (Reads_calls x A6 c6).mono ?_
        rintro e w8 ⟨rfl, hw8⟩
        have h8 : Below wd.heap.size wd w8 := by rw [hw8]; exact (Below.refl _ _).alloc (Nat.le_refl _) _
        have hs8 : w8.heap.size = wr.heap.size + 2 := by rw [hw8]; simp; omega
        have HX8 := Lib.hid (show w8.heap[wr.heap.size + 1]? = some (.cells (eX x A6 c6) 58 (0, 0)) by rw [hw8, ← hsd]; exact World.alloc_heap_new wd _)
        have HXe := Lib.hid ((h8.block w.heap.size (by omega)).trans HXd.out)
        have HRe := Lib.hid (show Boxed w8 (w.heap.size + 2) 4 (.bool false) from (h8.block _ (by omega)).trans HRd.out)
        have HVe := Lib.hid (show Boxed w8 w3.heap.size 86 v from (h8.block _ (by omega)).trans HVd.out)
        have HSe := Lib.hid (show Boxed w8 (w.heap.size + 1) 3 (.int .i64 sN) from (h8.block _ (by omega)).trans HSd.out)
        have HKe := Lib.hid (show Boxed w8 wr.heap.size 3 (.int .i64 0) from (h8.block _ (by omega)).trans HKd.out)
        have HBe := Lib.hid (HBd.out.trans (h8.mono HBd.out.size))
        obtain ⟨A10, c10, rfl, hc10, hC10⟩ := (HOd.out.below h8).reads
        have HCW := Lib.hid (show Kd.C k72 w8 A10 (wants al).length (wants al) from hC10.imp_ (Below.refl _ _) (fun p c hp => by rw [k72_open hp]; exact k72_mk w8 p))
        have HAW := Lib.hid (show ∀ ad, A10 = some ad → ad.block < wr.heap.size from fun ad e => HOB.out ad.block (by rw [e]; rfl))
        have HWN := Lib.hid (show wants al = (readsS x).map toR by rw [HAL.out, wants_conv]; rfl)
        clear h8 hw8 hC10 hc10 b0 b1 b2 b3 b4 b5 b6
        rw [hsd]
        go_wp2_with fail
        refine (wpIn_wide (n := 5)).1 ?_
        refine range_boxL (α := NM) 12 (by omega) (gf := 73) (lb := #[.pointer (some ⟨wr.heap.size + 1, 0, none⟩)]) rfl (enters_of Try.func73 (by kernel_rfl) rfl)
          (fun a => .agg #[.string a.s.f0, .int .i64 a.s.f1]) (fun a => #[.string a.s.f0, .int .i64 a.s.f1]) 55 (reads_seqL (n := 4) (w0 := w) (gn_of HG.out) HC.out HX8.out HBe.out) (fun h k => h.trans k) (fun W o' => KpY.put W _ o' (by omega) (by omega)) (Below.refl _ _)
          (fun pre V => Boxed V wr.heap.size 3 (.int .i64 pre.length) ∧ ((pre.length : Int) < sN ∧ pre.map NM.s <+: readsS x) ∧ But w8.heap.size wr.heap.size w8 V)
          (fun c pre V => (c = .exit 2 ∧ Boxed V wr.heap.size 3 (.int .i64 pre.length) ∧ (pre.length : Int) = sN ∧ But w8.heap.size wr.heap.size w8 V) ∨ (c = .ret ∧ ¬ pre.map NM.s <+: readsS x))
          (fun s P1 P2 row hs hg hr => ⟨hs.1.kept hg (fun e => by have := (hr _ e.symm).1; omega), hs.2.1, hs.2.2.trans ⟨hg.os, hg.tape, hg.output, hg.size, fun k hk hb => hg.block k (by have := hs.2.2.size; omega) (fun e => by have := (hr _ e.symm).1; omega)⟩⟩)
          (fun c s P1 P2 row hs hg hr => hs.imp (fun ⟨h1, h2, h3, h4⟩ => ⟨h1, h2.kept hg (fun e => by have := (hr _ e.symm).1; omega), h3, h4.trans ⟨hg.os, hg.tape, hg.output, hg.size, fun k hk hb => hg.block k (by have := h4.size; omega) (fun e => by have := (hr _ e.symm).1; omega)⟩⟩) id)
          ⟨HKe.out, ⟨by simp; omega, ⟨_, rfl⟩⟩, But.refl _ _ _⟩
          ?assign ?body ?done ?stop
        case assign =>
          rintro l2 m2 pre y V K ⟨hM, hp, hB⟩ hK
          simp only [List.setIfInBounds_toArray, List.set_cons_zero, List.set_cons_succ]
          gi_wp2
          have hb2 : Below V.heap.size V (V.alloc (.cells #[.string y.s.f0, .int .i64 y.s.f1] 55)) := (Below.refl _ _).alloc (Nat.le_refl _) _
          exact hK _ _ ((KeepsOthers.alloc _ _).from _) (KpY.of_below hb2 (by have := hB.size; omega)) ⟨hM.alloc _, hp, hB.trans (But.of_below hb2 hB.size)⟩ hB.size (heap_alloc_new V _)

        case body =>
          rintro l2 m2 pre y Bx V hl ⟨hM, ⟨hp1, hp2⟩, hB⟩ hBx bX hlt
          simp only [tmpsB, List.setIfInBounds_toArray, List.set_cons_zero, List.set_cons_succ]
          have hVs := hB.size
          have x0 : V.cell? ⟨Bx, 0, none⟩ = some (.string y.s.f0) := (cell_blk bX 0).trans rfl
          have x1 : V.cell? ⟨Bx, 1, none⟩ = some (.int .i64 y.s.f1) := (cell_blk bX 1).trans rfl
          have k0 := hM.cell
          have k1 := hM.frozen
          have v0 := (show Boxed V w3.heap.size 86 _ from (hB.block _ (by omega) (by omega)).trans HVe.out).cell
          have s0 := (show Boxed V (w.heap.size + 1) 3 _ from (hB.block _ (by omega) (by omega)).trans HSe.out).cell
          have r0 := (show Boxed V (w.heap.size + 2) 4 _ from (hB.block _ (by omega) (by omega)).trans HRe.out).cell
          have r1 := (show Boxed V (w.heap.size + 2) 4 _ from (hB.block _ (by omega) (by omega)).trans HRe.out).frozen
          have hkl := hM.lt
          have HM := Lib.hid hM
          have HB := Lib.hid hB
          have HP := Lib.hid hp2
          have hnm : (readsS x).length = (wants al).length := by rw [HWN.out, List.length_map]
          have hlast : (pre.map NM.s).length = pre.length := List.length_map _
          have hpf : ∀ {u : S55}, (readsS x)[pre.length]? = some u → (y.s = u ↔ (pre ++ [y]).map NM.s <+: readsS x) := fun {u} hu => by
            obtain ⟨r, hr⟩ := hp2
            rw [List.map_append, ← hr, List.prefix_append_right_inj]
            rw [← hr, List.getElem?_append_right (by omega), hlast, Nat.sub_self] at hu
            cases r with
            | nil => simp at hu
            | cons a r =>
              simp at hu; subst hu
              simp
          have HPF := Lib.hid (show ∀ u : S55, (readsS x)[pre.length]? = some u → (y.s = u ↔ (pre ++ [y]).map NM.s <+: readsS x) from fun u hu => hpf hu)
          clear hpf hM hB hp2 bX
          by_cases hm : pre.length < (wants al).length
          · obtain ⟨ad, rfl, q0, q1⟩ := at_T72 HCW.out (pre.length : Int) (by omega) (by omega)
            have hadl := HAW.out ad rfl
            have hbk : ∀ j, (ad.add j).block = ad.block := fun j => by unfold Addr.add; split <;> rfl
            rw [Int.toNat_natCast] at q0 q1
            have hu : ∃ u, (readsS x)[pre.length]? = some u ∧ rd_T72 (wants al) (pre.length : Int) = toR u := by
              refine ⟨(readsS x)[pre.length]'(by omega), List.getElem?_eq_getElem _, ?_⟩
              unfold rd_T72
              rw [Int.toNat_natCast, HWN.out, List.getD_eq_getElem?_getD, List.getElem?_map, List.getElem?_eq_getElem (by omega)]; rfl
            obtain ⟨u, hu1, hu2⟩ := hu
            have up : ∀ {a : Addr} {o : Value}, a.block = ad.block → w8.cell? a = some o → V.cell? a = some o := fun {a o} ha h =>
              (World.cell?_of_block (a := a) (by rw [ha]; exact HB.out.block ad.block (by omega) (by omega))).trans h
            replace q0 := up (by exact hbk _) q0
            replace q1 := up (by exact hbk _) q1
            rw [hu2] at q0 q1
            have HU := Lib.hid (HPF.out _ hu1)
            clear hu1 hu2 up hbk hnm hlast
            dsimp only [toR] at q0 q1
            have hml : ((wants al).length : Int) ≤ pre.length → False := fun h => by omega
            have hmb : decide (((wants al).length : Int) ≤ (pre.length : Int)) = false := by simp; omega
            have hmn : decide ((wants al).length ≤ pre.length) = false := by simp; omega
            by_cases e0 : y.s.f0 = u.f0
            · by_cases e1 : y.s.f1 = u.f1
              · rw [← e0] at q0
                rw [← e1] at q1
                have HYU := Lib.hid (HU.out.1 (by cases hy : y.s; cases u; simp_all))
                have HLN := Lib.hid (show (((pre ++ [y]).length : Nat) : Int) = (pre.length : Int) + 1 by simp)
                clear e0 e1
                by_cases hst : (pre.length : Int) + 1 = sN
                · have hstb : ((pre.length : Int) + 1 == sN) = true := by simpa using hst
                  have HST := Lib.hid hst
                  clear hst
                  gi_wp2
                  refine region_quiet_round (by kernel_rfl) (by kernel_rfl) (by kernel_rfl) ?_
                  repeat (gi_big_quiet_step (fail))
                  refine wpQuietIn_nil ?_
                  intro _ hw'
                  obtain ⟨nq, hw''⟩ := hw'
                  subst hw''
                  have hM2 := round_box (n1 := 0) V nq (.int .i64 ((pre.length : Int) + 1)) HM.out
                  have hR2 := round_set (n0 := w.heap.size) (n1 := w8.heap.size) (bk := wr.heap.size) V nq (.int .i64 ((pre.length : Int) + 1)) (by omega) (by omega) hVs
                  have HX := Lib.hid (And.intro hM2 hR2)
                  clear hM2 hR2
                  gi_wp2
                  refine ⟨HX.out.2.1, .inl ⟨rfl, ?_, ?_, HB.out.trans HX.out.2.2.2⟩⟩
                  · rw [HLN.out]; exact HX.out.1
                  · rw [HLN.out]; exact HST.out
                · have hstb : ((pre.length : Int) + 1 == sN) = false := by simpa using hst
                  have HST := Lib.hid (show (pre.length : Int) + 1 < sN by omega)
                  gi_wp2
                  refine region_quiet_round (by kernel_rfl) (by kernel_rfl) (by kernel_rfl) ?_
                  repeat (gi_big_quiet_step (fail))
                  refine wpQuietIn_nil ?_
                  intro _ hw'
                  obtain ⟨nq, hw''⟩ := hw'
                  subst hw''
                  have hM2 := round_box (n1 := 0) V nq (.int .i64 ((pre.length : Int) + 1)) HM.out
                  have hR2 := round_set (n0 := w.heap.size) (n1 := w8.heap.size) (bk := wr.heap.size) V nq (.int .i64 ((pre.length : Int) + 1)) (by omega) (by omega) hVs
                  have HX := Lib.hid (And.intro hM2 hR2)
                  clear hM2 hR2
                  gi_wp2
                  refine ⟨HX.out.2.1, HX.out.2.2.1, ?_, ⟨?_, HYU.out⟩, HB.out.trans HX.out.2.2.2⟩
                  · rw [HLN.out]; exact HX.out.1
                  · rw [HLN.out]; exact HST.out
              · have HNO := Lib.hid (show ¬ (pre ++ [y]).map NM.s <+: readsS x from fun h => e1 (by rw [HU.out.2 h]))
                have hnb : (y.s.f1 != u.f1) = true := by simpa using e1
                rw [← e0] at q0
                clear e0
                gi_wp2
                refine region_quiet_round (by kernel_rfl) (by kernel_rfl) (by kernel_rfl) ?_
                repeat (gi_big_quiet_step (fail))
                refine wpQuietIn_nil ?_
                intro _ hw'
                obtain ⟨nq, hw''⟩ := hw'
                subst hw''
                gi_wp2
                exact ⟨keepsFrom_up ((KeepsFrom.of_grownBy (grown_below (below_drawn V nq)) (fun j e => by cases e)).trans (KeepsFrom.of_grownBy (grownBy_setCell' _ (w.heap.size + 2) (.bool false)) (fun j e => by cases e; omega))) (Nat.le_refl _), .inr ⟨rfl, HNO.out⟩⟩
            · have HNO := Lib.hid (show ¬ (pre ++ [y]).map NM.s <+: readsS x from fun h => e0 (by rw [HU.out.2 h]))
              have hnb : (y.s.f0.toList == u.f0.toList) = false := by rw [beq_eq_false_iff_ne]; exact fun h => e0 (toList_injN h)
              gi_wp2
              refine region_quiet_round (by kernel_rfl) (by kernel_rfl) (by kernel_rfl) ?_
              repeat (gi_big_quiet_step (fail))
              refine wpQuietIn_nil ?_
              intro _ hw'
              obtain ⟨nq, hw''⟩ := hw'
              subst hw''
              gi_wp2
              exact ⟨keepsFrom_up ((KeepsFrom.of_grownBy (grown_below (below_drawn V nq)) (fun j e => by cases e)).trans (KeepsFrom.of_grownBy (grownBy_setCell' _ (w.heap.size + 2) (.bool false)) (fun j e => by cases e; omega))) (Nat.le_refl _), .inr ⟨rfl, HNO.out⟩⟩
          · have HNO := Lib.hid (show ¬ (pre ++ [y]).map NM.s <+: readsS x from fun h => by
              have := h.length_le
              simp at this; omega)
            have hmb : decide (((wants al).length : Int) ≤ (pre.length : Int)) = true := by simp; omega
            have hmn : decide ((wants al).length ≤ pre.length) = true := by simp; omega
            clear hnm hlast
            gi_wp2
            refine region_quiet_round (by kernel_rfl) (by kernel_rfl) (by kernel_rfl) ?_
            repeat (gi_big_quiet_step (fail))
            refine wpQuietIn_nil ?_
            intro _ hw'
            obtain ⟨nq, hw''⟩ := hw'
            subst hw''
            gi_wp2
            exact ⟨keepsFrom_up ((KeepsFrom.of_grownBy (grown_below (below_drawn V nq)) (fun j e => by cases e)).trans (KeepsFrom.of_grownBy (grownBy_setCell' _ (w.heap.size + 2) (.bool false)) (fun j e => by cases e; omega))) (Nat.le_refl _), .inr ⟨rfl, HNO.out⟩⟩
        case stop =>
          rintro D c pre V hD hS hx hK
          rcases hx with ⟨rfl, hbx, hln, hB⟩ | ⟨-, hno⟩
          case inr => exact absurd hS hno
          have hVs := hB.size
          have hle := hS.length_le
          have hle2 : (pre.length : Int) ≤ (wants al).length := by
            rw [HWN.out, List.length_map]
            rw [List.length_map] at hle; omega
          have HX9 := Lib.hid ((hB.block w.heap.size (by omega) (by omega)).trans HXe.out)
          have HR9 := Lib.hid (show Boxed V (w.heap.size + 2) 4 (.bool false) from (hB.block _ (by omega) (by omega)).trans HRe.out)
          have HS9 := Lib.hid (show Boxed V (w.heap.size + 1) 3 (.int .i64 sN) from (hB.block _ (by omega) (by omega)).trans HSe.out)
          have HV9 := Lib.hid (show Boxed V w3.heap.size 86 _ from (hB.block _ (by omega) (by omega)).trans HVe.out)
          have HB9 := Lib.hid (show Below w.heap.size w V from HBe.out.trans (hB.below (by omega) (by omega)))
          have hmin : (pre.length : Int) = min sN ((wants al).length : Int) := by omega
          have HK9 := Lib.hid hK
          have HKB := Lib.hid hbx
          have HKM := Lib.hid hmin
          have HMN := Lib.hid (show ((wsum (flat x).length == (al.length : Int)) = true) by
            rw [wsum_small _ (by have := HFL.out; omega), HAL.out, List.length_map]; simp)
          have hDl := (Array.getElem?_eq_some_iff.1 hK).1
          obtain ⟨kb, hkb⟩ : ∃ kb, kb = (pre.length : Int) := ⟨_, rfl⟩
          rw [← hkb] at HKB HKM
          clear hbx hmin hB hK hkb
          gi_wp2
          go_wp2_with fail
          refine (pure_Wrap.calls n (wrN n) _ rfl).mono ?_
          rintro e w9 ⟨rfl, ⟨nd, rfl⟩⟩
          have hd1 := below_drawn V nd
          have HA1 := Lib.hid (show (V.drewN nd).heap[w.heap.size]? = _ from (hd1.block _ (by omega)).trans HX9.out)
          have hda := hd1.size
          clear hd1
          go_wp2_with fail
          refine (namesakeref27_Wrap.calls n (wrN n) _ (wrapR n)).mono ?_
          rintro e w9 ⟨rfl, ⟨nd2, rfl⟩⟩
          have hd2 : Below V.heap.size V ((V.drewN nd).drewN nd2) := (below_drawn V nd).trans ((below_drawn (V.drewN nd) nd2).mono (below_drawn V nd).size)
          obtain ⟨V2, hV2⟩ : ∃ V2, V2 = (V.drewN nd).drewN nd2 := ⟨_, rfl⟩
          rw [← hV2] at hd2 ⊢
          clear HA1 hda hV2
          have hs9 := hd2.size
          obtain ⟨b0, b1, b2, b3, b4, b5, b6⟩ := boxXN ((hd2.block w.heap.size (by omega)).trans HX9.out)
          have hl9 : w.heap.size < V2.heap.size := by omega
          have hW := Weight_calls (x := x) (A6 := A6) (c6 := c6) (Kd.C_below HC.out (HB9.out.trans (hd2.mono HB9.out.size)))
          have hmn := HMN.out
          have HD2 := Lib.hid hd2
          clear hd2
          go_wp2_with fail
          refine hW.mono ?_
          rintro e w10 ⟨rfl, h10⟩
          have h11 := HD2.out.trans (h10.mono HD2.out.size)
          have hs10 := h10.size
          have HR10 := Lib.hid (show Boxed w10 (w.heap.size + 2) 4 (.bool false) from (h11.block _ (by omega)).trans HR9.out)
          have HS10 := Lib.hid (show Boxed w10 (w.heap.size + 1) 3 (.int .i64 sN) from (h11.block _ (by omega)).trans HS9.out)
          have HV10 := Lib.hid (show Boxed w10 w3.heap.size 86 _ from (h11.block _ (by omega)).trans HV9.out)
          have HKB10 := Lib.hid (show Boxed w10 wr.heap.size 3 (.int .i64 kb) from (h11.block _ (by omega)).trans HKB.out)
          have HK10 := Lib.hid ((h11.block D hDl).trans HK9.out)
          have HB10 := Lib.hid (HB9.out.trans (h11.mono HB9.out.size))
          have c0 := HR10.out.cell
          have c1 := HR10.out.frozen
          have c2 := HS10.out.cell
          have c3 := HV10.out.cell
          have c4 := HKB10.out.cell
          clear h10 h11 hW b0 b1 b2 b3 b4 b5 b6
          go_wp2_with fail
          all_goals
            have hne : D ≠ w.heap.size + 2 := by omega
            refine ⟨by simp, .inl ⟨_, _, rfl, run_takeDeferred ((Below.heap_setCell w10 ⟨w.heap.size + 2, 0, none⟩ _ D hne).trans HK10.out), ?_⟩⟩
            refine ⟨_, res8 rfl ((cell_putObj _ (Ne.symm hne)).trans (HR10.out.set (.bool _)).cell), ?_, below_putObj (HB10.out.setCell (p := ⟨w.heap.size + 2, 0, none⟩) (by show w.heap.size ≤ w.heap.size + 2; omega) _) (by omega) _⟩
            have := HKM.out
            congr 2
            simp
            omega
        case done =>
          rintro D ys V hD hys ⟨hbx, ⟨hln, -⟩, hB⟩ hK
          have hVs := hB.size
          have hle2 : ys.length = (wants al).length := by
            rw [HWN.out, List.length_map, ← hys, List.length_map]
          have HX9 := Lib.hid ((hB.block w.heap.size (by omega) (by omega)).trans HXe.out)
          have HR9 := Lib.hid (show Boxed V (w.heap.size + 2) 4 (.bool false) from (hB.block _ (by omega) (by omega)).trans HRe.out)
          have HS9 := Lib.hid (show Boxed V (w.heap.size + 1) 3 (.int .i64 sN) from (hB.block _ (by omega) (by omega)).trans HSe.out)
          have HV9 := Lib.hid (show Boxed V w3.heap.size 86 _ from (hB.block _ (by omega) (by omega)).trans HVe.out)
          have HB9 := Lib.hid (show Below w.heap.size w V from HBe.out.trans (hB.below (by omega) (by omega)))
          have hmin : (ys.length : Int) = min sN ((wants al).length : Int) := by omega
          have HK9 := Lib.hid hK
          have HKB := Lib.hid hbx
          have HKM := Lib.hid hmin
          have HMN := Lib.hid (show ((wsum (flat x).length == (al.length : Int)) = true) by
            rw [wsum_small _ (by have := HFL.out; omega), HAL.out, List.length_map]; simp)
          have hDl := (Array.getElem?_eq_some_iff.1 hK).1
          obtain ⟨kb, hkb⟩ : ∃ kb, kb = (ys.length : Int) := ⟨_, rfl⟩
          rw [← hkb] at HKB HKM
          clear hbx hmin hB hK hkb
          gi_wp2
          go_wp2_with fail
          refine (pure_Wrap.calls n (wrN n) _ rfl).mono ?_
          rintro e w9 ⟨rfl, ⟨nd, rfl⟩⟩
          have hd1 := below_drawn V nd
          have HA1 := Lib.hid (show (V.drewN nd).heap[w.heap.size]? = _ from (hd1.block _ (by omega)).trans HX9.out)
          have hda := hd1.size
          clear hd1
          go_wp2_with fail
          refine (namesakeref27_Wrap.calls n (wrN n) _ (wrapR n)).mono ?_
          rintro e w9 ⟨rfl, ⟨nd2, rfl⟩⟩
          have hd2 : Below V.heap.size V ((V.drewN nd).drewN nd2) := (below_drawn V nd).trans ((below_drawn (V.drewN nd) nd2).mono (below_drawn V nd).size)
          obtain ⟨V2, hV2⟩ : ∃ V2, V2 = (V.drewN nd).drewN nd2 := ⟨_, rfl⟩
          rw [← hV2] at hd2 ⊢
          clear HA1 hda hV2
          have hs9 := hd2.size
          obtain ⟨b0, b1, b2, b3, b4, b5, b6⟩ := boxXN ((hd2.block w.heap.size (by omega)).trans HX9.out)
          have hl9 : w.heap.size < V2.heap.size := by omega
          have hW := Weight_calls (x := x) (A6 := A6) (c6 := c6) (Kd.C_below HC.out (HB9.out.trans (hd2.mono HB9.out.size)))
          have hmn := HMN.out
          have HD2 := Lib.hid hd2
          clear hd2
          go_wp2_with fail
          refine hW.mono ?_
          rintro e w10 ⟨rfl, h10⟩
          have h11 := HD2.out.trans (h10.mono HD2.out.size)
          have hs10 := h10.size
          have HR10 := Lib.hid (show Boxed w10 (w.heap.size + 2) 4 (.bool false) from (h11.block _ (by omega)).trans HR9.out)
          have HS10 := Lib.hid (show Boxed w10 (w.heap.size + 1) 3 (.int .i64 sN) from (h11.block _ (by omega)).trans HS9.out)
          have HV10 := Lib.hid (show Boxed w10 w3.heap.size 86 _ from (h11.block _ (by omega)).trans HV9.out)
          have HKB10 := Lib.hid (show Boxed w10 wr.heap.size 3 (.int .i64 kb) from (h11.block _ (by omega)).trans HKB.out)
          have HK10 := Lib.hid ((h11.block D hDl).trans HK9.out)
          have HB10 := Lib.hid (HB9.out.trans (h11.mono HB9.out.size))
          have c0 := HR10.out.cell
          have c1 := HR10.out.frozen
          have c2 := HS10.out.cell
          have c3 := HV10.out.cell
          have c4 := HKB10.out.cell
          clear h10 h11 hW b0 b1 b2 b3 b4 b5 b6
          go_wp2_with fail
          all_goals
            have hne : D ≠ w.heap.size + 2 := by omega
            refine ⟨by simp, .inl ⟨_, _, rfl, run_takeDeferred ((Below.heap_setCell w10 ⟨w.heap.size + 2, 0, none⟩ _ D hne).trans HK10.out), ?_⟩⟩
            refine ⟨_, res8 rfl ((cell_putObj _ (Ne.symm hne)).trans (HR10.out.set (.bool _)).cell), ?_, below_putObj (HB10.out.setCell (p := ⟨w.heap.size + 2, 0, none⟩) (by show w.heap.size ≤ w.heap.size + 2; omega) _) (by omega) _⟩
            have := HKM.out
            congr 2
            simp
            omega
end Go.Proofs.Ytoakelgcbbbieaa
