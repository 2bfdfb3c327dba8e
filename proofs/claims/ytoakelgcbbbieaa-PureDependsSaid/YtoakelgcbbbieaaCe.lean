/- The statement PureDepends, walked: for any expression, any values. -/
import Derived.Test.YtoakelgcbbbieaaBq
import Derived.Test.YtoakelgcbbbieaaCd
namespace Go.Proofs.Ytoakelgcbbbieaa
open Go.RowKit Go.Maps Go.Shelf Go.Proofs.YtoakelgcbbbieaaW.PrintWords Go.Proofs.YtoakelgcbbbieaaW.PrintLast Go.Proofs.YtoakelgcbbbieaaW.PrintMore
set_option linter.unusedVariables false
set_option linter.unusedSimpArgs false
set_option maxRecDepth 100000
attribute [local go_sem] Oper.semAt_some

theorem p_equal (d : Nat) (w : World) (x0 y0 : Int) (x1 y1 : Int) :
    (Op.equalIn (d + 2) 67 (.agg #[.int .i64 x0, .int .i64 x1]) (.agg #[.int .i64 y0, .int .i64 y1])).run Try.prog w = .ok (x0 == y0 && (x1 == y1)) w := by
  refine eqA_of Try.underlying67 (by kernel_rfl) ?_
  refine eqf_cons (by rfl) (by go_simp; rfl) (by go_simp; rfl) (by go_simp) ?_
  exact eqf_last (by rfl) (by go_simp; rfl) (by go_simp; rfl) (by go_simp)
theorem p_eq (a b : Int) (w : World) : (Op.equalIn 10000 67 (.agg #[.int .i64 a, .int .i64 b]) (.agg #[.int .i64 a, .int .i64 b])).run Try.prog w = .ok true w := by
  have := p_equal 9998 w a a b b
  simpa using this
theorem num_some (o : Option Int) : ∃ bad, namesakenum_Num.f o = some bad := by
  cases o with
  | none => exact ⟨0, rfl⟩
  | some e =>
    by_cases h : e = 0
    · exact ⟨-1, by subst h; rfl⟩
    · exact ⟨e, by show (if (some e).isNone = true then some 0 else if (some e).getD 0 = 0 then some (-1) else some ((some e).getD 0)) = _; rw [if_neg (by simp), if_neg (by simpa using h)]; rfl⟩
abbrev encI (n : Int) : Value := .int .i64 n
theorem lookI (o : Option Int) : lookV encI (.int .i64 0) o = .int .i64 (o.getD 0) := by cases o <;> rfl

theorem below_ad (W : World) (o : Obj) (n : Nat) : Below W.heap.size W ((W.alloc o).drewN n) := by
  have h : Below W.heap.size W (W.alloc o) := (Below.refl _ _).alloc (Nat.le_refl _) _
  exact h.trans ((below_drawn _ n).mono h.size)

set_option maxHeartbeats 4000000 in
theorem PureDepends_walk {w : World} {x : S58} {A6 A B : Option Addr} {c6 c d : Nat} {l more : List S97} (hC : Kd.C k58 w A6 x.f5.length x.f5) (hc : x.f5.length ≤ c6) (hG : G58 x) (hL : Kd.C k97 w A l.length l) (hs : ∀ y ∈ l, y.f0.size ≤ maxLen) (hL2 : Kd.C k97 w B more.length more) (hs2' : ∀ y ∈ more, y.f0.size ≤ maxLen) :
    Calls Try.prog 9 #[.agg (eX x A6 c6), .slice A l.length c, .slice B more.length d] w fun e w' => e = .returned (.bool true) ∧ Below w.heap.size w w' := by
  have hmm := @run_makeMap Try.prog
  have hz3 := Try.zeroValue3
  have HC := Lib.hid hC
  have HG := Lib.hid hG
  have HL := Lib.hid hL
  have HS := Lib.hid hs
  have HL2 := Lib.hid hL2
  have HSM := Lib.hid hs2'
  have Hc := Lib.hid hc
  have hmore : more.length ≤ 9223372036854775807 := by obtain ⟨_, h, _⟩ := hL2; exact h
  obtain ⟨W1, hW1⟩ : ∃ W1, W1 = w.alloc (.cells (eX x A6 c6) 58) := ⟨_, rfl⟩
  have HB1 := Lib.hid (show Below w.heap.size w W1 by rw [hW1]; exact (Below.refl _ _).alloc (Nat.le_refl _) _)
  have HX1 := Lib.hid (show W1.heap[w.heap.size]? = some (.cells (eX x A6 c6) 58 (0, 0)) by rw [hW1]; exact World.alloc_heap_new w _)
  have HS1 := Lib.hid (show W1.heap.size = w.heap.size + 1 by rw [hW1]; simp)
  have HW1 := Lib.hid hW1
  clear hC hG hL hs hL2 hs2' hc hW1
  refine (callsIn_wide (n := 5)).1 ?_
  refine callsIn_of_wp_marks Try.func9 rfl trivial ?_ rfl
  simp only [Try.ntmps9, List.size_toArray, List.length_cons, List.length_nil, Nat.reduceAdd, Nat.reduceSub, Array.replicate_succ, Array.replicate_zero, List.push_toArray, List.append_toArray, List.nil_append, List.cons_append]
  refine wpIn_wide.2 ?_
  go_wp2_with fail
  rw [← HW1.out]
  refine (alive27_calls W1).mono ?_
  rintro e w2 ⟨rfl, h2⟩
  have HB2 := Lib.hid (HB1.out.trans (h2.mono HB1.out.size))
  have HX2 := Lib.hid ((h2.block w.heap.size (by have := HS1.out; omega)).trans HX1.out)
  have hs2 : w.heap.size < w2.heap.size := by have := h2.size; have := HS1.out; omega
  obtain ⟨b0, b1, b2, b3, b4, b5, b6⟩ := boxX HX2.out
  clear h2
  go_wp2_with fail
  obtain ⟨b, hb, hlarge⟩ := large_calls (Kd.C_below HC.out HB2.out) Hc.out HG.out
  refine hlarge.mono ?_
  rintro e w3 ⟨rfl, h3⟩
  have HBb := Lib.hid hb
  have HB3 := Lib.hid (HB2.out.trans (h3.mono HB2.out.size))
  have HX3 := Lib.hid ((h3.block w.heap.size hs2).trans HX2.out)
  have hs3 : w.heap.size < w3.heap.size := by have := h3.size; omega
  clear h3 hlarge hb b0 b1 b2 b3 b4 b5 b6
  cases b
  case true =>
    clear hmm hz3
    go_wp2
    all_goals first
      | (rename_i hu1 hu2; cases hu1; done)
      | (refine ⟨trivial, ?_⟩
         go_wp2
         all_goals first
           | (rename_i hu1 hu2; cases hu1; done)
           | (refine ⟨trivial, ?_⟩
              go_wp2
              exact ⟨_, results_tmp rfl _ _ _, rfl, HB3.out⟩)
           | (exact ⟨_, results_tmp rfl _ _ _, rfl, HB3.out⟩))
      | (exact ⟨_, results_tmp rfl _ _ _, rfl, HB3.out⟩)
  case false =>
    by_cases h30 : (30 : Int) < (l.length : Int)
    · clear hmm hz3
      go_wp2
      all_goals first
        | (rename_i hu1 hu2; cases hu1; done)
        | (refine ⟨trivial, ?_⟩
           go_wp2
           all_goals first
             | (rename_i hu1 hu2; cases hu1; done)
             | (exact ⟨_, results_tmp rfl _ _ _, rfl, HB3.out⟩))
        | (exact ⟨_, results_tmp rfl _ _ _, rfl, HB3.out⟩)
    · by_cases h31 : (30 : Int) < (more.length : Int)
      · clear hmm hz3
        go_wp2
        all_goals (exact ⟨_, results_tmp rfl _ _ _, rfl, HB3.out⟩)
      · have hfl := HBb.out rfl
        have HFL := Lib.hid hfl
        clear HBb hfl
        have hln : (l.length : Int) ≤ 30 := by omega
        have hmn : (more.length : Int) ≤ 30 := by omega
        obtain ⟨b0, b1, b2, b3, b4, b5, b6⟩ := boxX HX3.out
        go_wp2_with fail
        obtain ⟨w4, hw4⟩ : ∃ w4, w4 = (w3.alloc (.map #[] 0)).alloc (.cells #[.map (some w3.heap.size)] 95) := ⟨_, rfl⟩
        have h4 : Below w3.heap.size w3 w4 := by rw [hw4]; exact ((Below.refl _ _).alloc (Nat.le_refl _) _).alloc (by simp) _
        have HM4 := Lib.hid (show MapV encI w4 w3.heap.size (fun _ => none) by rw [hw4]; exact (MapV.made encI w3).below ((Below.refl _ _).alloc (Nat.le_refl _) _))
        have HV4 := Lib.hid (show Boxed w4 (w3.heap.size + 1) 95 (.map (some w3.heap.size)) by rw [hw4]; have := Boxed.new (w3.alloc (.map #[] 0)) 95 (.map (some w3.heap.size)); rwa [World.size_alloc] at this)
        have HB4 := Lib.hid (HB3.out.trans (h4.mono HB3.out.size))
        have HX4 := Lib.hid ((h4.block w.heap.size hs3).trans HX3.out)
        have hs4 : w4.heap.size = w3.heap.size + 2 := by rw [hw4]; simp
        rw [← hw4]
        clear h4 hw4 b0 b1 b2 b3 b4 b5 b6
        refine (Reads_calls x A6 c6).mono ?_
        rintro e w5 ⟨rfl, hw5⟩
        have h5 : Below w4.heap.size w4 w5 := by rw [hw5]; exact (Below.refl _ _).alloc (Nat.le_refl _) _
        have HR5 := Lib.hid (show w5.heap[w3.heap.size + 2]? = some (.cells (eX x A6 c6) 58 (0, 0)) by rw [hw5, ← hs4]; exact World.alloc_heap_new w4 _)
        have HM5 := Lib.hid (HM4.out.below h5)
        have HV5 := Lib.hid (show Boxed w5 (w3.heap.size + 1) 95 (.map (some w3.heap.size)) from (h5.block _ (by omega)).trans HV4.out)
        have HB5 := Lib.hid (HB4.out.trans (h5.mono HB4.out.size))
        have HX5 := Lib.hid ((h5.block w.heap.size (by omega)).trans HX4.out)
        have hs5 : w5.heap.size = w3.heap.size + 3 := by rw [hw5]; simp; omega
        clear h5 hw5 hmm
        go_wp2_with fail
        refine (wpIn_wide (n := 5)).1 ?_
        refine range_boxL (α := NM) 8 (by omega) (gf := 73) (lb := #[.pointer (some ⟨w3.heap.size + 2, 0, none⟩)]) rfl (enters_of Try.func73 (by kernel_rfl) rfl)
          (fun a => .agg #[.string a.s.f0, .int .i64 a.s.f1]) (fun a => #[.string a.s.f0, .int .i64 a.s.f1]) 55 (reads_seqL (n := 4) (w0 := w) (gn_of HG.out) HC.out HR5.out HB5.out) (fun h k => h.trans k) (fun W o' => KpY.put W _ o' (by omega) (by omega)) (Below.refl _ _)
          (fun pre V => MapV encI V w3.heap.size (cntF pre) ∧ But w5.heap.size w3.heap.size w5 V)
          (fun _ _ _ => False)
          (fun s P1 P2 row hs hg hr => ⟨hs.1.later (hg.block _ hs.1.lt (fun e => by have := (hr _ e.symm).1; omega)), hs.2.trans ⟨hg.os, hg.tape, hg.output, hg.size, fun k hk hb => hg.block k (by have := hs.2.size; omega) (fun e => by have := (hr _ e.symm).1; omega)⟩⟩)
          (fun _ _ _ _ _ hs _ _ => hs)
          ⟨HM5.out, But.refl _ _ _⟩
          ?assign ?body ?done ?stop
        case assign =>
          rintro l2 m2 pre y V K ⟨hM, hB⟩ hK
          simp only [List.setIfInBounds_toArray, List.set_cons_zero, List.set_cons_succ]
          gi_wp2
          have hb2 : Below V.heap.size V (V.alloc (.cells #[.string y.s.f0, .int .i64 y.s.f1] 55)) := (Below.refl _ _).alloc (Nat.le_refl _) _
          exact hK _ _ ((KeepsOthers.alloc _ _).from _) (KpY.of_below hb2 (by have := hB.size; omega)) ⟨hM.below hb2, hB.trans (But.of_below hb2 hB.size)⟩ hB.size (heap_alloc_new V _)
        case body =>
          rintro l2 m2 pre y Bx V hl ⟨hM, hB⟩ hBx bX hlt
          simp only [tmpsB, List.setIfInBounds_toArray, List.set_cons_zero, List.set_cons_succ]
          have hVs := hB.size
          have hbox : Boxed V (w3.heap.size + 1) 95 (.map (some w3.heap.size)) := (hB.block _ (by omega) (by omega)).trans HV5.out
          have hvc := hbox.cell
          have x0 : V.cell? ⟨Bx, 0, none⟩ = some (.string y.s.f0) := (cell_blk bX 0).trans rfl
          have hlk := (hM.lookup Try.underlying95 hz3 y.h).2
          rw [lookI] at hlk
          obtain ⟨V2, hput, hM2, hg2⟩ := hM.put Try.underlying95 y.h (wrap64 ((cntF pre y.s.f0).getD 0 + 1))
          rw [← cntF_snoc] at hM2
          have HI2 := Lib.hid (show KeepsFrom w5.heap.size V V2 ∧ KpY w.heap.size (w5.heap.size + 2) V V2 ∧ MapV encI V2 w3.heap.size (cntF (pre ++ [y])) ∧ But w5.heap.size w3.heap.size w5 V2 from
            ⟨KeepsFrom.of_grownBy hg2 (fun j e => by cases e; omega), KpY.grown hg2 (by omega) (by omega) (by omega), hM2, hB.trans ⟨hg2.os, hg2.tape, hg2.output, hg2.size, fun k hk hb => hg2.block k (by omega) (fun e => by cases e; exact hb rfl)⟩⟩)
          obtain ⟨n0, hn0⟩ : ∃ n0, n0 = (cntF pre y.s.f0).getD 0 := ⟨_, rfl⟩
          rw [← hn0] at hlk hput
          dsimp only [encI] at hput
          clear hM hB hM2 hg2 hbox bX hn0
          gi_wp2
          exact HI2.out
        case stop =>
          rintro D c pre V hD _ h _
          exact h.elim
        case done =>
          rintro D ys V hD hys ⟨hM, hB⟩ hK
          have hVs := hB.size
          have HM6 := Lib.hid hM
          have HV6 := Lib.hid (show Boxed V (w3.heap.size + 1) 95 (.map (some w3.heap.size)) from (hB.block _ (by omega) (by omega)).trans HV5.out)
          have HX6 := Lib.hid ((hB.block w.heap.size (by omega) (by omega)).trans HX5.out)
          have HB6 := Lib.hid (show Below w.heap.size w V from HB5.out.trans (hB.below (by omega) (by omega)))
          have HK6 := Lib.hid hK
          have hDl := (Array.getElem?_eq_some_iff.1 hK).1
          have hylen : ys.length ≤ 1000000 := by
            have h1 : ys.length = (readsS x).length := by rw [← hys, List.length_map]
            have h2 : (readsS x).length ≤ (flat x).length := by
              unfold readsS
              have : ∀ L : List S58, (L.flatMap nm1).length ≤ L.length := fun L => by
                induction L with
                | nil => simp
                | cons a L ih =>
                  rw [List.flatMap_cons, List.length_append, List.length_cons]
                  have : (nm1 a).length ≤ 1 := by unfold nm1; split <;> simp
                  omega
              exact this _
            have := HFL.out
            omega
          have HYS := Lib.hid hys
          have HYL := Lib.hid hylen
          clear hM hB hK hys hylen
          gi_wp2
          go_wp2_with fail
          refine (values_calls (Kd.C_below HL.out HB6.out) HS.out).mono ?_
          rintro e w7 ⟨ma, mb, rfl, hMa, hMb, hma, hmb, h7⟩
          have HMa := Lib.hid hMa
          have HM7 := Lib.hid (HM6.out.below h7)
          have HV7 := Lib.hid (show Boxed w7 (w3.heap.size + 1) 95 (.map (some w3.heap.size)) from (h7.block _ (by omega)).trans HV6.out)
          have HX7 := Lib.hid ((h7.block w.heap.size (by omega)).trans HX6.out)
          have HB7 := Lib.hid (HB6.out.trans (h7.mono HB6.out.size))
          have HK7 := Lib.hid ((h7.block D hDl).trans HK6.out)
          have hs7 := h7.size
          clear h7 hMa hMb
          go_wp2_with fail
          refine (values_calls (Kd.C_below HL.out HB7.out) HS.out).mono ?_
          rintro e w8 ⟨mc, md, rfl, hMc, hMd, hmc, hmd, h8⟩
          have hma7 := HMa.out.lt
          have HMc := Lib.hid hMc
          have HMa8 := Lib.hid (HMa.out.below h8)
          have HM8 := Lib.hid (HM7.out.below h8)
          have HV8 := Lib.hid (show Boxed w8 (w3.heap.size + 1) 95 (.map (some w3.heap.size)) from (h8.block _ (by omega)).trans HV7.out)
          have HX8 := Lib.hid ((h8.block w.heap.size (by omega)).trans HX7.out)
          have HB8 := Lib.hid (HB7.out.trans (h8.mono HB7.out.size))
          have HK8 := Lib.hid ((h8.block D (by omega)).trans HK7.out)
          have hs8 := h8.size
          clear h8 hMc hMd
          go_wp2_with fail
          go_loopw [56] (fun i wr => ∃ j : Nat, j ≤ more.length ∧ i = .int .i64 j ∧ Hid (MapV encP wr mc (moreF (toldF l) (cntF ys) (more.take j)) ∧ But w8.heap.size mc w8 wr)) (fun i _ => more.length - (intOf i).toNat)
          case atStart => exact ⟨0, Nat.zero_le _, rfl, HMc.out, But.refl _ _ _⟩
          case round =>
            obtain ⟨j, hj, rfl, hI⟩ := hrel
            by_cases hlt : j < more.length
            · obtain ⟨hM, hbt⟩ := hI.out
              clear hI
              have hmc8 := HMc.out.lt
              obtain ⟨ad, rfl, h0, h1, h2⟩ := at_T97 (HL2.out) (j : Int) (by omega) (by omega)
              have hbw : Below w.heap.size w wr := HB8.out.trans (hbt.below HB8.out.size (by have := HB6.out.size; omega))
              replace h0 := cell_later hbw h0
              replace h1 := cell_later hbw h1
              replace h2 := cell_later hbw h2
              obtain ⟨z, hz⟩ : ∃ z, z = rd_T97 more (j : Int) := ⟨_, rfl⟩
              have hsz := HSM.out z (by rw [hz]; exact rd97_mem hlt)
              have HTK := Lib.hid (show more.take (j + 1) = more.take j ++ [z] by rw [hz]; exact take_rd97 hlt)
              rw [← hz] at h0 h1 h2
              rw [Int.toNat_natCast] at h0 h1 h2
              clear hz
              have hwr := hbt.size
              have hb8 : Below wr.heap.size wr (wr.alloc (.cells #[.string z.f0, .int .i64 z.f1, .int .i64 z.f2] 97)) := (Below.refl _ _).alloc (Nat.le_refl _) _
              have hk8 : (wr.alloc (.cells #[.string z.f0, .int .i64 z.f1, .int .i64 z.f2] 97)).heap[wr.heap.size]? = some (.cells #[.string z.f0, .int .i64 z.f1, .int .i64 z.f2] 97 (0, 0)) := World.alloc_heap_new wr _
              have hbx : Boxed wr (w3.heap.size + 1) 95 (.map (some w3.heap.size)) := (hbt.block _ (by omega) (by omega)).trans HV8.out
              have hvc := hbx.cell
              have hlt3 : w3.heap.size + 1 < wr.heap.size := by omega
              have hcm : MapV encI wr w3.heap.size (cntF ys) := HM8.out.later (hbt.block _ (by omega) (by omega))
              have hlk := ((hcm.below hb8).lookup Try.underlying95 hz3 hsz).2
              rw [lookI] at hlk
              by_cases hc0 : (cntF ys z.f0).getD 0 = 0
              · rw [hc0] at hlk
                obtain ⟨W2, r2, hM2, g2⟩ := (hM.below hb8).put Try.underlying61 hsz (z.f1, z.f2)
                have HN := Lib.hid (show MapV encP W2 mc (moreF (toldF l) (cntF ys) (more.take (j + 1))) ∧ But w8.heap.size mc w8 W2 from by
                  rw [HTK.out, moreF_snoc, if_pos hc0]
                  exact ⟨hM2, (hbt.trans (But.of_below hb8 hwr)).trans ⟨g2.os, g2.tape, g2.output, g2.size, fun k hk hb => g2.block k (by have := hb8.size; omega) (fun e => by cases e; exact hb rfl)⟩⟩)
                dsimp only [encP] at r2
                clear hM hbt hbw hM2 g2 HTK hb8 hbx hcm hc0 hk8
                go_wp2_with fail
                go_roundw
                case rel => exact ⟨j + 1, by omega, by go_num, HN.out⟩
                case measure => simp [intOf]; omega
              · have hcb : ((cntF ys z.f0).getD 0 == 0) = false := by simpa using hc0
                have HN := Lib.hid (show MapV encP (wr.alloc (.cells #[.string z.f0, .int .i64 z.f1, .int .i64 z.f2] 97)) mc (moreF (toldF l) (cntF ys) (more.take (j + 1))) ∧ But w8.heap.size mc w8 (wr.alloc (.cells #[.string z.f0, .int .i64 z.f1, .int .i64 z.f2] 97)) from by
                  rw [HTK.out, moreF_snoc, if_neg hc0]
                  exact ⟨hM.below hb8, hbt.trans (But.of_below hb8 hwr)⟩)
                obtain ⟨n0, hn0⟩ : ∃ n0, n0 = (cntF ys z.f0).getD 0 := ⟨_, rfl⟩
                rw [← hn0] at hlk hcb
                clear hM hbt hbw HTK hb8 hbx hcm hc0 hk8 hn0
                go_wp2_with fail
                go_roundw
                case rel => exact ⟨j + 1, by omega, by go_num, HN.out⟩
                case measure => simp [intOf]; omega
            · obtain rfl : j = more.length := by omega
              rw [List.take_length] at hI
              obtain ⟨hM, hbt⟩ := hI.out
              clear hI
              have hwr := hbt.size
              have heq : evalP (moreF (toldF l) (cntF ys) more) x = evalP (toldF l) x := evalP_congr (fun s hs => moreF_read _ _ _ (by
                rw [cnt_zero HYL.out]
                intro h
                rw [← HYS.out] at hs
                obtain ⟨a, ha, rfl⟩ := List.mem_map.1 hs
                exact h a ha rfl) more)
              have HBr := Lib.hid (show Below w.heap.size w wr from HB8.out.trans (hbt.below HB8.out.size (by have := HB6.out.size; omega)))
              have HMr := Lib.hid hM
              have HMar := Lib.hid (show MapV encP wr ma (toldF l) from HMa8.out.later (hbt.block _ (by omega) (by omega)))
              have HXr := Lib.hid ((hbt.block w.heap.size (by omega) (by omega)).trans HX8.out)
              have HKr := Lib.hid ((hbt.block D (by omega) (by omega)).trans HK8.out)
              obtain ⟨⟨⟨pk, pn⟩, o⟩, hvo⟩ : ∃ r, r = evalP (toldF l) x := ⟨_, rfl⟩
              have HEQ := Lib.hid (heq.trans hvo.symm)
              have HVO := Lib.hid hvo.symm
              obtain ⟨bad, hnum⟩ := num_some o
              have HNUM := Lib.hid hnum
              have hPE := p_eq pk pn
              clear hM hbt heq hvo hnum hz3
              obtain ⟨b0, b1, b2, b3, b4, b5, b6⟩ := boxX HXr.out
              go_wp2_with fail
              refine (Eval_calls (Kd.C_below HC.out HBr.out) HMar.out (gn_of HG.out)).mono ?_
              rw [HVO.out]
              rintro e w9 ⟨rfl, h9⟩
              clear b0 b1 b2 b3 b4 b5 b6
              dsimp only [encP]
              obtain ⟨w10, hw10⟩ : ∃ w10, w10 = w9.alloc (.cells #[.int .i64 pk, .int .i64 pn] 67) := ⟨_, rfl⟩
              have h10 : Below w9.heap.size w9 w10 := by rw [hw10]; exact (Below.refl _ _).alloc (Nat.le_refl _) _
              have h910 := h9.trans (h10.mono h9.size)
              have HB10 := Lib.hid (HBr.out.trans (h910.mono HBr.out.size))
              have HM10 := Lib.hid (HMr.out.below h910)
              have HMa10 := Lib.hid (HMar.out.below h910)
              have HX10 := Lib.hid ((h910.block w.heap.size (by omega)).trans HXr.out)
              have HK10 := Lib.hid ((h910.block D (by omega)).trans HKr.out)
              have HV10 := Lib.hid (show w10.heap[w9.heap.size]? = some (.cells #[.int .i64 pk, .int .i64 pn] 67 (0, 0)) by rw [hw10]; exact World.alloc_heap_new w9 _)
              have hs9 := h9.size
              have hs10 : w9.heap.size < w10.heap.size := by rw [hw10]; simp
              have HW10 := Lib.hid hw10
              have b9 := boxX ((h9.block w.heap.size (by omega)).trans HXr.out)
              obtain ⟨b0, b1, b2, b3, b4, b5, b6⟩ := b9
              have hl9 : w.heap.size < w9.heap.size := by omega
              clear h9 h10 h910 hw10
              go_wp2_with fail
              rw [← HW10.out]
              refine (Eval_calls (Kd.C_below HC.out HB10.out) HM10.out (gn_of HG.out)).mono ?_
              rw [HEQ.out]
              rintro e w11 ⟨rfl, h11⟩
              clear b0 b1 b2 b3 b4 b5 b6
              dsimp only [encP]
              obtain ⟨w12, hw12⟩ : ∃ w12, w12 = w11.alloc (.cells #[.int .i64 pk, .int .i64 pn] 67) := ⟨_, rfl⟩
              have h12 : Below w11.heap.size w11 w12 := by rw [hw12]; exact (Below.refl _ _).alloc (Nat.le_refl _) _
              have h112 := h11.trans (h12.mono h11.size)
              have HB12 := Lib.hid (HB10.out.trans (h112.mono HB10.out.size))
              have HMa12 := Lib.hid (HMa10.out.below h112)
              have HX12 := Lib.hid ((h112.block w.heap.size (by omega)).trans HX10.out)
              have HK12 := Lib.hid ((h112.block D (by omega)).trans HK10.out)
              have HV12 := Lib.hid ((h112.block _ hs10).trans HV10.out)
              have HU12 := Lib.hid (show w12.heap[w11.heap.size]? = some (.cells #[.int .i64 pk, .int .i64 pn] 67 (0, 0)) by rw [hw12]; exact World.alloc_heap_new w11 _)
              have hs11 := h11.size
              have hs12 : w11.heap.size < w12.heap.size := by rw [hw12]; simp
              have HW12 := Lib.hid hw12
              obtain ⟨b0, b1, b2, b3, b4, b5, b6⟩ := boxX ((h11.block w.heap.size (by omega)).trans HX10.out)
              have hl11 : w.heap.size < w11.heap.size := by omega
              clear h11 h12 h112 hw12
              go_wp2_with fail
              rw [← HW12.out]
              refine (Eval_calls (Kd.C_below HC.out HB12.out) HMa12.out (gn_of HG.out)).mono ?_
              rw [HVO.out]
              rintro e w13 ⟨rfl, h13⟩
              clear b0 b1 b2 b3 b4 b5 b6
              dsimp only [encP]
              have HB13 := Lib.hid (HB12.out.trans (h13.mono HB12.out.size))
              have HK13 := Lib.hid ((h13.block D (by omega)).trans HK12.out)
              have v0 : w13.cell? ⟨w9.heap.size, 0, none⟩ = some (.int .i64 pk) := (cell_blk ((h13.block _ (by omega)).trans HV12.out) 0).trans rfl
              have v1 : w13.cell? ⟨w9.heap.size, 1, none⟩ = some (.int .i64 pn) := (cell_blk ((h13.block _ (by omega)).trans HV12.out) 1).trans rfl
              have u0 : w13.cell? ⟨w11.heap.size, 0, none⟩ = some (.int .i64 pk) := (cell_blk ((h13.block _ (by omega)).trans HU12.out) 0).trans rfl
              have u1 : w13.cell? ⟨w11.heap.size, 1, none⟩ = some (.int .i64 pn) := (cell_blk ((h13.block _ (by omega)).trans HU12.out) 1).trans rfl
              have hs13 := h13.size
              have hl13 : w9.heap.size < w13.heap.size := by omega
              have hm13 : w11.heap.size < w13.heap.size := by omega
              clear h13
              go_wp2_with (go_at_call 41; refine (namesakenum_Num.calls o bad _ HNUM.out).mono ?_; rintro e w14 ⟨rfl, ⟨nd, rfl⟩⟩)
              have hD13 := (Array.getElem?_eq_some_iff.1 HK13.out).1
              refine ⟨by simp, .inl ⟨_, _, rfl, run_takeDeferred (((below_ad _ _ _).block D hD13).trans HK13.out), ?_⟩⟩
              exact ⟨_, results_tmp rfl _ _ _, rfl, below_putObj (HB13.out.trans ((below_ad _ _ _).mono HB13.out.size)) (by omega) _⟩
end Go.Proofs.Ytoakelgcbbbieaa
