/- The statement LineFaults, walked: for any heads. -/
import Derived.Test.YtoakelgcbbbieaaSr
import Derived.Test.YtoakelgcbbbieaaXo
import Derived.Test.YtoakelgcbbbieaaSm
namespace Go.Proofs.Ytoakelgcbbbieaa
open Go.RowKit Go.Maps Go.Shelf Go.Proofs.YtoakelgcbbbieaaW.PrintWords Go.Proofs.YtoakelgcbbbieaaW.PrintLast Go.Proofs.YtoakelgcbbbieaaW.PrintMore
set_option linter.unusedVariables false
set_option linter.unusedSimpArgs false
set_option maxRecDepth 100000
attribute [local go_sem] Oper.semAt_some
attribute [local go_sem ↓] Go.wp_at_zero Go.wp_at_succ

theorem sees_mem {xs : List S124} {p : Int × S124} {n : Nat} (h : p ∈ sees xs n) : ∃ j : Nat, j < n ∧ p = ((j : Int), rd_T124 xs (j : Int)) := by
  unfold sees at h
  obtain ⟨j, hj, rfl⟩ := List.mem_map.1 h
  exact ⟨j, List.mem_range.1 hj, rfl⟩
theorem code_ok {xs : List S124} {f : S113} (h : f ∈ lineFs xs) : f.f2 = 5 ∨ f.f2 = 9 ∨ f.f2 = 14 := by
  obtain ⟨p, _, hp⟩ := List.mem_flatMap.1 h
  unfold fOf at hp
  split at hp
  · simp at hp
  · split at hp
    · simp at hp
    · rename_i h0
      obtain rfl := List.mem_singleton.1 hp
      show faultOf xs p.1 p.2.f1.f2.f0 = 5 ∨ _ ∨ _
      unfold faultOf at h0 ⊢
      split
      · exact .inl rfl
      · rename_i k hk
        rw [hk] at h0
        simp only at h0
        split
        · exact .inr (.inl rfl)
        · rename_i hm
          rw [if_neg hm] at h0
          split
          · exact .inr (.inr rfl)
          · rename_i hc
            rw [if_neg hc] at h0
            exact absurd rfl h0
theorem wf_ok {xs : List S124} (hG : ∀ x ∈ xs, wfI x.f0 ∧ wfI x.f1.f2.f1) {f : S113} (h : f ∈ lineFs xs) : wfI f.f0 ∧ wfI f.f1 := by
  obtain ⟨p, hp1, hp⟩ := List.mem_flatMap.1 h
  obtain ⟨j, hj, rfl⟩ := sees_mem hp1
  unfold fOf at hp
  split at hp
  · simp at hp
  · split at hp
    · simp at hp
    · obtain rfl := List.mem_singleton.1 hp
      exact hG _ (mem_rd (by omega) (by omega))
/-- where a super isn't one there is a fault -/
theorem bad_there {xs : List S124} {j : Nat} (hj : j < xs.length) (hne : ¬ ((rd_T124 xs (j : Int)).f1.f2.f0.toList == []) = true) (hb : sup xs j = none ∨ circB xs j = true) :
    ((rd_T124 xs (j : Int)).f0, (rd_T124 xs (j : Int)).f1.f2.f1) ∈ (setF (lineFs xs)).map (fun f => (f.f0, f.f1)) := by
  have h0 : faultOf xs j (rd_T124 xs (j : Int)).f1.f2.f0 ≠ 0 := by
    have hs : sup xs j = match fnd xs (rd_T124 xs (j : Int)).f1.f2.f0 with | none => none | some k => if (rd_T124 xs k).f1.f0 = true then none else some k := by
      unfold sup
      rw [if_pos ⟨by omega, by omega⟩, if_neg]
      · rfl
      · intro h
        apply hne
        simpa using h
    unfold faultOf
    cases hf : fnd xs (rd_T124 xs (j : Int)).f1.f2.f0 with
    | none => simp
    | some k =>
      rw [hf] at hs
      simp only at hs ⊢
      by_cases hm : (rd_T124 xs k).f1.f0 = true
      · rw [if_pos hm]; decide
      · rw [if_neg hm] at hs ⊢
        rcases hb with hb | hb
        · rw [hb] at hs; cases hs
        · rw [if_pos hb]; decide
  refine List.mem_map.2 ⟨⟨(rd_T124 xs (j : Int)).f0, (rd_T124 xs (j : Int)).f1.f2.f1, faultOf xs j (rd_T124 xs (j : Int)).f1.f2.f0⟩, (mem_setF _ _).2 ?_, rfl⟩
  refine List.mem_flatMap.2 ⟨((j : Int), rd_T124 xs (j : Int)), ?_, ?_⟩
  · unfold sees
    exact List.mem_map.2 ⟨j, List.mem_range.2 hj, rfl⟩
  · unfold fOf
    rw [if_neg hne, if_neg h0]
    exact List.mem_singleton.2 rfl

theorem lineUp_len' (xs : List S124) : (lineFs xs).length ≤ xs.length := by
  have := fOfs_len xs (sees xs xs.length)
  rwa [sees_len] at this
theorem num_lt : ∀ (gs : List (List S129)) (f : Nat) (p : Nat × S129), p ∈ numFrom f gs → p.1 < f + gs.length
  | [], _, _, h => by simp [numFrom] at h
  | l :: r, f, p, h => by
    simp only [numFrom, List.mem_append, List.mem_map] at h
    rcases h with ⟨x, _, rfl⟩ | h
    · simp
    · have := num_lt r (f + 1) p h
      simp only [List.length_cons]
      omega
theorem wf_heads {hs : List S129} (hn : ∀ x ∈ hs, okHead x) (hl : hs.length ≤ 1000) : ∀ x ∈ entsH hs, wfI x.f0 ∧ wfI x.f1.f2.f1 := by
  intro e he
  obtain ⟨p, hp, rfl⟩ := List.mem_map.1 he
  have hm : p.2 ∈ hs := by rw [← nums_snd hs]; exact List.mem_map_of_mem hp
  have h1 := num_lt (groups hs) 0 p hp
  have h2 := groups_le hs
  exact ⟨wf64 (n := p.1) (by omega), (hn _ hm).2.2.2⟩

theorem res11 {tmps : Array Value} {W : World} {b : Nat} {v : Bool} (h : tmps.getD 2 undef = .pointer (some ⟨b, 0, none⟩)) (hc : W.cell? ⟨b, 0, none⟩ = some (.bool v)) : (results Try.f11 tmps).run Try.prog W = .ok (.bool v) W := by
  have h' : tmps[2]?.getD undef = .pointer (some ⟨b, 0, none⟩) := by simpa using h
  simp [results, Try.results11, h', go_sem, hc]

/-- a round's frame: the two that are handed over, the first assigned, the second in a box of its own -/
abbrev tmpsW (T : Array Value) (p1 p2 q1 q2 : Tmp) (x : AW) (Bx : Nat) : Array Value :=
  (((T.setIfInBounds p1 (.int .i64 x.a.j)).setIfInBounds p2 (.agg (eCells x.a.x x.a.A6 x.a.c6 x.a.A7 x.a.c7 x.a.A10 x.a.c10))).setIfInBounds q1 (.int .i64 x.a.j)).setIfInBounds q2 (.pointer (some ⟨Bx, 0, none⟩))
theorem range_allW {F : Fence} {n : Nat} {P : Program} {g : Operand} {p1 p2 : Tmp} (q1 q2 : Tmp) {assign body : Code} {Q : Exit → Act → World → Prop} {a : Act} {w : World}
    (hro : F.round = none) (h1 : 1 ≤ n) {gf : Nat} {lb : Array Value} (hg : a.eval g = .func (.func gf) #[] lb) (hFg : F.fn gf) (eg : ∀ args w, (callFunc gf args).run P w = .ok (.enter gf args) w)
    {Kp : World → World → Prop} {S Sp : List AW → Prop} {N : Nat} {w0 : World} (hseq : SeqStopsK F (n - 1) P gf lb encW Kp S Sp N w0)
    (hKt : ∀ {A B C : World}, Kp A B → Kp B C → Kp A C) (hKb : ∀ (W : World) (l : Nat) (o o' : Obj), w.heap.size ≤ l → W.heap[l]? = some o → o.isCells = false → o.isWalk = false → Kp W (W.putObj l o')) (hb0 : Below w0.heap.size w0 w)
    (I : List AW → World → Prop) (Ix : Code → List AW → World → Prop) (hI : OwnFrom w.heap.size I) (hIx : ∀ c, OwnFrom w.heap.size (Ix c)) (h0 : I [] w)
    (hassign : ∀ (l : Nat) (pre : List AW) (x : AW) (W : World) (K : Act → World → Prop), I pre W → (∀ Bx W', KeepsFrom w.heap.size W W' → Kp W W' → I pre W' → w.heap.size ≤ Bx → W'.heap[Bx]? = some (.cells (eCells x.a.x x.a.A6 x.a.c6 x.a.A7 x.a.c7 x.a.A10 x.a.c10) 124 (0, 0)) → K { tmps := tmpsW a.tmps p1 p2 q1 q2 x Bx, defers := [] } W') →
      assign.wpIn (F.inRound l) (n - 1 - 1) P (Exit.then K (fun _ _ _ => False)) { tmps := (a.tmps.setIfInBounds p1 (.int .i64 x.a.j)).setIfInBounds p2 (.agg (eCells x.a.x x.a.A6 x.a.c6 x.a.A7 x.a.c7 x.a.A10 x.a.c10)), defers := [] } W)
    (hbody : ∀ (l : Nat) (pre : List AW) (x : AW) (Bx : Nat) (W : World), w.heap.size ≤ l → I pre W → w.heap.size ≤ Bx → W.heap[Bx]? = some (.cells (eCells x.a.x x.a.A6 x.a.c6 x.a.A7 x.a.c7 x.a.A10 x.a.c10) 124 (0, 0)) → pre.length < N → body.wpIn (F.inRound l) (n - 1 - 1) P (ownPostG w.heap.size Kp I Ix (pre ++ [x]) W) { tmps := tmpsW a.tmps p1 p2 q1 q2 x Bx, defers := [] } W)
    (hdone : ∀ (D : Nat) (xs : List AW) (W : World), w.heap.size ≤ D → S xs → I xs W → W.heap[D]? = some (.deferred (some [])) → Q .normal { a with defers := { target := .collected D, args := #[] } :: a.defers } W)
    (hstop : ∀ (D : Nat) (c : Code) (pre : List AW) (W : World), w.heap.size ≤ D → Sp pre → Ix c pre W → W.heap[D]? = some (.deferred (some [])) → c.wpIn F n P Q { a with defers := { target := .collected D, args := #[] } :: a.defers } W) :
    (Code.rangeFunc g #[p1, p2] assign body).wpIn F n P Q a w :=
  wpIn_rangeFunc_ownH hro h1 hg hFg eg hseq hKt hKb hb0 (fun _ => rfl) I Ix hI hIx h0
    (fun x a' W => ∃ Bx, w.heap.size ≤ Bx ∧ W.heap[Bx]? = some (.cells (eCells x.a.x x.a.A6 x.a.c6 x.a.A7 x.a.c7 x.a.A10 x.a.c10) 124 (0, 0)) ∧ a' = { tmps := tmpsW a.tmps p1 p2 q1 q2 x Bx, defers := [] })
    (fun x a' _ X Y row hs hg hr => by
      obtain ⟨Bx, h1, h2, h3⟩ := hs
      refine ⟨Bx, h1, (hg.block Bx (Array.getElem?_eq_some_iff.1 h2).1 (fun e => ?_)).trans h2, h3⟩
      obtain ⟨o, ho, hc⟩ := (hr Bx e.symm).2
      rw [h2] at ho
      cases ho
      cases hc)
    (fun l pre x W K hi hk => by
      have := hassign l pre x W K hi (fun Bx W' k1 k2 k3 k4 k5 => hk _ W' k1 k2 k3 ⟨Bx, k4, k5, rfl⟩)
      simpa using this)
    (fun l pre x a' W hl hr hi hAx hlt => by
      obtain ⟨Bx, k1, k2, rfl⟩ := hAx
      exact hbody l pre x Bx W hl hi k1 k2 hlt)
    hdone hstop

theorem sees_last {xs : List S124} {pre : List AW} {x : AW} {j : Nat} (h : (pre ++ [x]).map AW.key = sees xs j) : ∃ k, j = k + 1 ∧ x.key = ((k : Int), rd_T124 xs (k : Int)) := by
  cases j with
  | zero => simp [sees] at h
  | succ k =>
    refine ⟨k, rfl, ?_⟩
    rw [sees_succ, List.map_append] at h
    have := List.append_inj_right' h rfl
    simpa using this

set_option maxHeartbeats 1000000 in
theorem LineFaults_walk {w : World} {A : Option Addr} {n c : Nat} {hs : List S129} (h : Kd.C k129 w A n hs) (hn : ∀ x ∈ hs, okHead x) :
    Calls Try.prog 11 #[.slice A n c] w fun e w' => e = .returned (.bool true) ∧ Below w.heap.size w w' := by
  have H := Lib.hid h
  have HN := Lib.hid hn
  clear h hn
  refine (callsIn_wide (n := 3)).1 ?_
  refine callsIn_of_wp_marks Try.func11 rfl trivial ?_ rfl
  simp only [Try.ntmps11, List.size_toArray, List.length_cons, List.length_nil, Nat.reduceAdd, Nat.reduceSub, Array.replicate_succ, Array.replicate_zero, List.push_toArray, List.append_toArray, List.nil_append, List.cons_append]
  refine wpIn_wide.2 ?_
  go_wp2_with fail
  obtain ⟨w0, hw0⟩ : ∃ w0, w0 = w.alloc (.cells #[.bool false] 4) := ⟨_, rfl⟩
  have HK2 := Lib.hid (show w0.heap[w.heap.size]? = some (.cells #[.bool false] 4 (0, 0)) by rw [hw0]; exact heap_alloc_new w _)
  have HS0 := Lib.hid (show w0.heap.size = w.heap.size + 1 by rw [hw0]; simp)
  have HB0 := Lib.hid (show Below w.heap.size w w0 by rw [hw0]; exact (Below.refl _ _).alloc (Nat.le_refl _) _)
  rw [← hw0]
  clear hw0
  refine (alive15_calls _).mono ?_
  rintro e w1 ⟨rfl, hb1⟩
  have HB1 := Lib.hid hb1
  clear hb1
  go_wp2_with fail
  refine (large15_calls (Kd.C_below H.out (HB0.out.trans (HB1.out.mono HB0.out.size)))).mono ?_
  rintro e w2 ⟨L, rfl, hL, hb2⟩
  have HB2 := Lib.hid (HB1.out.trans (hb2.mono HB1.out.size))
  have HL := Lib.hid hL
  clear hb2 hL
  cases L
  · go_wp2_with fail
    refine (Tables_calls (Kd.C_below H.out (HB0.out.trans (HB2.out.mono HB0.out.size))) (by have := HL.out trivial; omega) (fun x hx => ⟨(HN.out x hx).1, (HN.out x hx).2.1⟩)).mono ?_
    rintro e w3 ⟨tb, R, d, rfl, hT, hd, hR, hb3⟩
    have HT := Lib.hid hT
    have HS := Lib.hid (show (entsH hs).length ≤ 1000000 by rw [entsH_len]; have := HL.out trivial; omega)
    have HS2 := Lib.hid (show (entsH hs).length ≤ 31 by rw [entsH_len]; exact HL.out trivial)
    have HG := Lib.hid (wf_heads HN.out (by have := HL.out trivial; omega))
    have HB3 := Lib.hid (HB2.out.trans (hb3.mono HB2.out.size))
    clear hT hd hR hb3
    go_wp2_with fail
    obtain ⟨w4, hw4⟩ : ∃ w4, w4 = w3.alloc (.cells #[.pointer (some ⟨tb, 0, none⟩)] 25) := ⟨_, rfl⟩
    have HK3 := Lib.hid (show Boxed w4 w3.heap.size 25 (.pointer (some ⟨tb, 0, none⟩)) by rw [hw4]; exact Boxed.new w3 25 _)
    have HB4 := Lib.hid (show Below w3.heap.size w3 w4 by rw [hw4]; exact (Below.refl _ _).alloc (Nat.le_refl _) _)
    have e4 : w3.alloc (.cells #[.pointer (some ⟨tb, 0, none⟩)] 25) = w4 := hw4.symm
    clear hw4
    rw [e4]
    clear e4
    refine (Faults_calls (HT.out.later HB4.out) HS.out).mono ?_
    rintro e w5 ⟨AF, cF, rfl, hCF, hb5⟩
    obtain ⟨fs, hfs⟩ : ∃ fs, fs = setF (lineFs (entsH hs)) := ⟨_, rfl⟩
    rw [← hfs] at hCF ⊢
    have HFS := Lib.hid hfs
    have hmx := C_max hCF
    have HCF := Lib.hid hCF
    have HB5 := Lib.hid hb5
    clear hCF hb5 hfs
    have hmm := @run_makeMap Try.prog
    go_wp2_with fail
    clear hmm
    obtain ⟨w6, hw6⟩ : ∃ w6, w6 = (w5.alloc (.map #[] 0)).alloc (.cells #[.map (some w5.heap.size)] 111) := ⟨_, rfl⟩
    obtain ⟨mb, hmb⟩ : ∃ mb, mb = w5.heap.size := ⟨_, rfl⟩
    have HM6 := Lib.hid (show MapF w6 mb [] by rw [hw6, hmb]; exact (MapF.made w5).later (Below.heap_alloc _ _ _ (by simp)))
    have HK6 := Lib.hid (show Boxed w6 (mb + 1) 111 (.map (some mb)) by
      rw [hw6, hmb]
      have := Boxed.new (w5.alloc (.map #[] 0)) 111 (.map (some w5.heap.size))
      rwa [World.size_alloc] at this)
    have HB6 := Lib.hid (show Below w5.heap.size w5 w6 by rw [hw6]; exact ((Below.refl _ _).alloc (Nat.le_refl _) _).alloc (by simp) _)
    have HMB := Lib.hid hmb
    rw [← hw6, ← hmb]
    clear hw6 hmb
    have HFL := Lib.hid (show fs.length ≤ 31 by rw [HFS.out]; have h1 := len_setF (lineFs (entsH hs)); have h2 := lineUp_len' (entsH hs); have := HS2.out; omega)
    go_loopw [7, 8, 28] (fun v7 v8 v28 wr => ∃ j : Nat, j ≤ fs.length ∧ v28 = .int .i64 j ∧ Hid (MapF wr mb ((fs.take j).map (fun f => (f.f0, f.f1)))) ∧ Hid (Boxed wr (mb + 1) 111 (.map (some mb))) ∧ Hid (Below w5.heap.size w5 wr)) (fun v7 v8 v28 wr => fs.length - (intOf v28).toNat)
    case atStart => exact ⟨0, Nat.zero_le _, rfl, HM6.out, HK6.out, HB6.out⟩
    case round =>
      obtain ⟨j, hj, rfl, hM, hK, hBr⟩ := hrel
      by_cases hlt : j < fs.length
      · obtain ⟨ad, rfl, hx0, hx1, hx2⟩ := at_F HCF.out j hlt
        replace hx0 := cell_later hBr.out hx0
        replace hx1 := cell_later hBr.out hx1
        replace hx2 := cell_later hBr.out hx2
        obtain ⟨x, hx⟩ : ∃ x, x = fs[j] := ⟨_, rfl⟩
        rw [← hx] at hx0 hx1 hx2
        have hxm : x ∈ lineFs (entsH hs) := by rw [← mem_setF, ← HFS.out, hx]; exact List.getElem_mem _
        have HX := Lib.hid hx
        have HXM := Lib.hid hxm
        clear hx hxm
        have hjl : (j : Int) < (fs.length : Int) := by omega
        have h0j : (0 : Int) ≤ (j : Int) := by omega
        go_upto_region 11 with (fail)
        obtain ⟨w8, hw8⟩ : ∃ w8, w8 = wr.alloc (.cells #[.int .i64 x.f0, .int .i64 x.f1, .int .i64 x.f2] 113) := ⟨_, rfl⟩
        have hk8 : w8.heap[wr.heap.size]? = some (.cells #[.int .i64 x.f0, .int .i64 x.f1, .int .i64 x.f2] 113 (0, 0)) := by rw [hw8]; exact heap_alloc_new wr _
        have hB8 : Below wr.heap.size wr w8 := by rw [hw8]; exact (Below.refl _ _).alloc (Nat.le_refl _) _
        rw [← hw8]
        clear hw8 hx0 hx1 hx2
        obtain ⟨b8, hb8⟩ : ∃ b8, b8 = wr.heap.size := ⟨_, rfl⟩
        rw [← hb8] at hk8 hB8 ⊢
        have hbm : mb < b8 := by rw [hb8]; exact hM.out.lt
        have hbk : mb + 1 < b8 := by rw [hb8]; exact hK.out.lt
        have hM8 : MapF w8.drew mb ((fs.take j).map (fun f => (f.f0, f.f1))) := hM.out.later (hB8.block mb hbm)
        obtain ⟨hwf1, hwf2⟩ := wf_ok HG.out HXM.out
        obtain ⟨n0, v0, st, W1, W2, hn0, hn1, r0, r1, hg1, r2, r3, hM2, hg2⟩ := hM8.more hwf1 hwf2
        have hn2 : n0 ≤ 31 := by have := HFL.out; simp at hn1; omega
        have hadd : IntKind.i64.wrap (n0 + 1) = n0 + 1 := by rw [IntKind.wrap_i64]; omega
        have hK8 : Boxed w8 (mb + 1) 111 (.map (some mb)) := (hB8.block _ hbk).trans hK.out
        have k0 := hK8.cell
        have z0 : w8.cell? ⟨b8, 0, none⟩ = some (.int .i64 x.f0) := (cell_blk hk8 0).trans rfl
        have z1 : w8.cell? ⟨b8, 1, none⟩ = some (.int .i64 x.f1) := (cell_blk hk8 1).trans rfl
        have hk1 : W1.heap[b8]? = some (.cells #[.int .i64 x.f0, .int .i64 x.f1, .int .i64 x.f2] 113 (0, 0)) := (hg1.block b8 (Array.getElem?_eq_some_iff.1 hk8).1 (by simp; omega)).trans hk8
        have hk2 : W2.heap[b8]? = some (.cells #[.int .i64 x.f0, .int .i64 x.f1, .int .i64 x.f2] 113 (0, 0)) := (hg2.block b8 (Array.getElem?_eq_some_iff.1 hk8).1 (by simp; omega)).trans hk8
        have hK1 : Boxed W1 (mb + 1) 111 (.map (some mb)) := (hg1.block _ hK8.lt (by simp)).trans hK8
        have hK2 : Boxed W2 (mb + 1) 111 (.map (some mb)) := (hg2.block _ hK8.lt (by simp)).trans hK8
        have k1 := hK1.cell
        have k2 := hK2.cell
        have z01 : W1.cell? ⟨b8, 0, none⟩ = some (.int .i64 x.f0) := (cell_blk hk1 0).trans rfl
        have z11 : W1.cell? ⟨b8, 1, none⟩ = some (.int .i64 x.f1) := (cell_blk hk1 1).trans rfl
        have z02 : W2.cell? ⟨b8, 0, none⟩ = some (.int .i64 x.f0) := (cell_blk hk2 0).trans rfl
        have z12 : W2.cell? ⟨b8, 1, none⟩ = some (.int .i64 x.f1) := (cell_blk hk2 1).trans rfl
        have HM2 := Lib.hid hM2
        have HK2' := Lib.hid hK2
        have Hk2 := Lib.hid hk2
        have HB82 := Lib.hid (show Below w5.heap.size w5 W2 from hBr.out.trans ((hB8.mono (by rw [hb8]; exact hBr.out.size)).trans ⟨hg2.os, hg2.tape, hg2.output, hg2.size, fun k hk => hg2.block k (Nat.lt_of_lt_of_le (Nat.lt_of_lt_of_le hk (by have h1 := hBr.out.size; rw [hb8] at hB8; exact Nat.le_trans h1 hB8.size)) (Nat.le_refl _)) (by simp; have := HMB.out; omega)⟩))
        clear hg1 hg2 hM8 hM2 hk1 hk2 hK1 hK2 hK8 hk8 hwf1 hwf2 hn0 hn1 hn2 hB8 hb8
        simp only [keyV] at r0 r1 r2
        go_region_held3 (fun w' => w'.cell? ⟨mb + 1, 0, none⟩ = some (.map (some mb)) ∧ w'.cell? ⟨b8, 0, none⟩ = some (.int .i64 x.f0) ∧ w'.cell? ⟨b8, 1, none⟩ = some (.int .i64 x.f1)) (go_keep) (fail)
        all_goals
          clear r0 r1 r2 r3 hadd k0 z0 z1 k1 k2 z01 z11 z02 z12
          have q0 : W2.cell? ⟨b8, 0, none⟩ = some (.int .i64 x.f0) := (cell_blk Hk2.out 0).trans rfl
          have q1 : W2.cell? ⟨b8, 1, none⟩ = some (.int .i64 x.f1) := (cell_blk Hk2.out 1).trans rfl
          have q2 : W2.cell? ⟨b8, 2, none⟩ = some (.int .i64 x.f2) := (cell_blk Hk2.out 2).trans rfl
          have HTK := Lib.hid (show (fs.take (j + 1)).map (fun f => (f.f0, f.f1)) = (fs.take j).map (fun f => (f.f0, f.f1)) ++ [(x.f0, x.f1)] by
            rw [List.take_succ_eq_append_getElem hlt, List.map_append, HX.out]; rfl)
          by_cases hj0 : j = 0
          · subst hj0
            go_wp2_with fail
            go_quiet (fail)
            rcases code_ok HXM.out with hc | hc | hc
            all_goals
              rw [hc] at q2
              go_wp2
              go_roundw
              case rel => exact ⟨0 + 1, by omega, by go_num, by rw [HTK.out]; exact HM2.out.later rfl, HK2'.out, pw_below_drewN HB82.out _⟩
              case measure => simp [intOf]; omega
          · obtain ⟨j', rfl⟩ : ∃ j', j = j' + 1 := ⟨j - 1, by omega⟩
            obtain ⟨ad', had, hy0, hy1, -⟩ := at_F HCF.out j' (by omega)
            injection had with had
            subst had
            replace hy0 := cell_later HB82.out hy0
            replace hy1 := cell_later HB82.out hy1
            obtain ⟨y, hy⟩ : ∃ y, y = fs[j'] := ⟨_, rfl⟩
            rw [← hy] at hy0 hy1
            have hyx : ltF y x := by
              have hs := sorted_setF (lineFs (entsH hs))
              rw [← HFS.out] at hs
              have := (List.pairwise_iff_getElem.1 hs) j' (j' + 1) (by omega) hlt (by omega)
              rwa [← hy, ← HX.out] at this
            clear hy
            have hA : decide (x.f0 < y.f0) = false := by unfold ltF at hyx; simp; omega
            have hwp : IntKind.i64.wrap (j' : Int) = (j' : Int) := by rw [IntKind.wrap_i64]; have := HFL.out; omega
            have h0j' : (0 : Int) ≤ (j' : Int) := by omega
            have hjl' : (j' : Int) < (fs.length : Int) := by omega
            have p0 : (0 : Int) < (j' : Int) + 1 := by omega
            by_cases hE : y.f0 = x.f0
            rotate_left
            · have hB : (y.f0 == x.f0) = false := by simpa using hE
              have hB2 : decide (y.f0 = x.f0) = false := by simpa using hE
              clear hyx
              go_wp2_with fail
              go_quiet (fail)
              rcases code_ok HXM.out with hc | hc | hc
              all_goals
                rw [hc] at q2
                go_wp2
                go_roundw
                case rel => exact ⟨j' + 1 + 1, by omega, by go_num, by rw [HTK.out]; exact HM2.out.later rfl, HK2'.out, pw_below_drewN HB82.out _⟩
                case measure => simp [intOf]; omega
            · have hC : decide (x.f1 < y.f1) = false := by unfold ltF at hyx; simp; omega
              rw [hE] at hy0
              clear hyx hA hE
              go_wp2_with fail
              go_quiet (fail)
              rcases code_ok HXM.out with hc | hc | hc
              all_goals
                rw [hc] at q2
                go_wp2
                go_roundw
                case rel => exact ⟨j' + 1 + 1, by omega, by go_num, by rw [HTK.out]; exact HM2.out.later rfl, HK2'.out, pw_below_drewN HB82.out _⟩
                case measure => simp [intOf]; omega
      · have hjl : j = fs.length := by omega
        have HMF := Lib.hid (show MapF wr mb (fs.map (fun f => (f.f0, f.f1))) by have := hM.out; rwa [List.take_of_length_le (by omega)] at this)
        have h36 : Below w4.heap.size w4 wr := HB5.out.trans (hBr.out.mono HB5.out.size)
        have hc3 : wr.cell? ⟨w3.heap.size, 0, none⟩ = some (.pointer (some ⟨tb, 0, none⟩)) := cell_later h36 HK3.out.cell
        have HC3 := Lib.hid hc3
        have HTR := Lib.hid (HT.out.later (HB4.out.trans (h36.mono HB4.out.size)))
        have HR2 := Lib.hid (show wr.heap[w.heap.size]? = some (.cells #[.bool false] 4 (0, 0)) by
          have h1 := HB3.out.trans ((HB4.out.trans (h36.mono HB4.out.size)).mono HB3.out.size)
          exact (h1.block _ (by rw [HS0.out]; omega)).trans HK2.out)
        have HWR := Lib.hid (show Below w.heap.size w wr from HB0.out.trans ((HB3.out.trans ((HB4.out.trans (h36.mono HB4.out.size)).mono HB3.out.size)).mono HB0.out.size))
        clear h36
        go_wp2_with fail
        refine (All_tbl_calls _).mono ?_
        rintro e wA ⟨rfl, hwA⟩
        obtain ⟨bt, hbt⟩ : ∃ bt, bt = wr.heap.size := ⟨_, rfl⟩
        have HBA := Lib.hid (show Below wr.heap.size wr wA by rw [hwA]; exact (Below.refl _ _).alloc (Nat.le_refl _) _)
        have HKA := Lib.hid (show Boxed wA bt 25 (.pointer (some ⟨tb, 0, none⟩)) by rw [hwA, hbt]; exact Boxed.new wr 25 _)
        have HSA := Lib.hid (show wA.heap.size = bt + 1 by rw [hwA, hbt]; simp)
        rw [← hbt]
        clear hwA hc3
        have HWF := Lib.hid (show ∀ W, Below wA.heap.size wA W → Tab W tb (entsH hs) (mainOf (entsH hs)) ∧ W.cell? ⟨w3.heap.size, 0, none⟩ = some (.pointer (some ⟨tb, 0, none⟩)) ∧ W.cell? ⟨mb + 1, 0, none⟩ = some (.map (some mb)) ∧ MapF W mb (fs.map (fun f => (f.f0, f.f1))) ∧ W.heap[w.heap.size]? = some (.cells #[.bool false] 4 (0, 0)) ∧ Below w.heap.size w W from fun W h => by
          have h1 := HBA.out.trans (h.mono HBA.out.size)
          exact ⟨HTR.out.later h1, cell_later h1 HC3.out, cell_later h1 hK.out.cell, HMF.out.later (h1.block _ HMF.out.lt), (h1.block _ (Array.getElem?_eq_some_iff.1 HR2.out).1).trans HR2.out, HWR.out.trans (h1.mono HWR.out.size)⟩)
        have hb0 : w.heap.size < wA.heap.size := by
          have h1 := (Array.getElem?_eq_some_iff.1 HR2.out).1
          have h2 := HBA.out.size
          omega
        have HBZ := Lib.hid hb0
        clear hb0 hbt
        go_wp2_with fail
        refine (wpIn_wide (n := 3)).1 ?_
        refine range_allW 9 10 rfl (by omega) (gf := 78) (lb := #[.pointer (some ⟨bt, 0, none⟩)]) rfl trivial (enters_of Try.func78 (by kernel_rfl) rfl)
          (all_stopsW (n := 2) (by omega) (n₀ := wA.heap.size) (Nat.le_refl _) (fun W' h => (HWF.out W' h).1) HG.out HKA.out) (fun h k => h.trans k) (fun W l o o' hl _ _ _ => ⟨below_putObj (Below.refl _ _) hl _, World.putObj_heap_other (by have := HSA.out; omega)⟩) (Below.refl _ _)
          (fun pre W => Below wA.heap.size wA W)
          (fun c pre W => c = .ret ∧ ¬ ∃ j, j ≤ (entsH hs).length ∧ pre.map AW.key = sees (entsH hs) j)
          (ownFrom_below (Nat.le_refl _) (Nat.le_refl _))
          (fun _ _ _ _ _ hs _ _ => hs)
          (Below.refl _ _)
          ?assign ?body ?done ?stop
        case assign =>
          rintro l pre x W K hB hK
          simp only [List.setIfInBounds_toArray, List.set_cons_zero, List.set_cons_succ]
          gi_wp2
          exact hK _ _ ((KeepsOthers.alloc _ _).from _) ⟨(Below.refl _ W).alloc hB.size _, Below.heap_alloc _ _ _ (by have := hB.size; have := HSA.out; omega)⟩ (hB.alloc hB.size _) hB.size (heap_alloc_new W _)
        case body =>
          rintro l pre x Bx W hl hB hBx bX hlt
          simp only [tmpsW, List.setIfInBounds_toArray, List.set_cons_zero, List.set_cons_succ]
          obtain ⟨hT, hc3, hc6, hMF, hres, -⟩ := HWF.out W hB
          have x4 : W.cell? ⟨Bx, 4, none⟩ = some (.string x.a.x.f1.f2.f0) := (cell_blk bX 4).trans rfl
          have HT1 := Lib.hid hT
          have HBX := Lib.hid bX
          have HBW := Lib.hid hB
          clear hT hc6 hMF hres hB bX
          have HWB := Lib.hid (show ∀ w', Below W.heap.size W w' → KeepsFrom wA.heap.size W w' ∧ KpA wA.heap.size bt W w' ∧ Below wA.heap.size wA w' from fun w' h => ⟨(KeepsOthers.of_grownBy (grown_below h) (fun j o e => by cases e)).from _, ⟨h.mono HBW.out.size, h.block _ (by have := HBW.out.size; have := HSA.out; omega)⟩, HBW.out.trans (h.mono HBW.out.size)⟩)
          cases hsu : sup (entsH hs) x.a.j with
          | none =>
            have HSU := Lib.hid hsu
            clear hsu
            cases hemp : (x.a.x.f1.f2.f0.toList == [])
            · have HE := Lib.hid hemp
              gi_wp2_with (refine ⟨trivial, ?_⟩; gi_at_call 47; refine (CallsIn.inRound l (callsIn_wide.2 (Super_calls HT1.out x.a.j))).mono ?_; rintro e w13 ⟨rfl, hb13⟩; rw [HSU.out]; have x4' := cell_later hb13 x4; have hc3' := cell_later hb13 hc3; obtain ⟨-, -, k6, hMF, hres, -⟩ := HWF.out _ (HWB.out _ hb13).2.2; obtain ⟨n0, hlk, hn0, hn1, hn2⟩ := hMF.lookup x.hw.1 x.hw.2; have y0 : w13.cell? ⟨Bx, 0, none⟩ = some (.int .i64 x.a.x.f0) := cell_later hb13 ((cell_blk HBX.out 0).trans rfl); have y5 : w13.cell? ⟨Bx, 5, none⟩ = some (.int .i64 x.a.x.f1.f2.f1) := cell_later hb13 ((cell_blk HBX.out 5).trans rfl); have r0 := (cell_blk hres 0).trans rfl; have z0 := frozen_blk hres 0; have HN2 := Lib.hid hn2; have HKW := Lib.hid hb13; clear hn0 hn1 hn2 hMF hres)
              refine ⟨trivial, ?_⟩
              by_cases hz : n0 = 0
              · subst hz
                gi_wp2
                refine ⟨(((KeepsOthers.of_grownBy (grown_below HKW.out) (fun j o e => by cases e))).trans (KeepsOthers.setCell _ _ _)).from _, rfl, ?_⟩
                rintro ⟨j2, hj2, hs2⟩
                obtain ⟨k, rfl, hk⟩ := sees_last hs2
                have hk1 : x.a.j = (k : Int) := congrArg Prod.fst hk
                have hk2 : x.a.x = rd_T124 (entsH hs) (k : Int) := congrArg Prod.snd hk
                have hbt := bad_there (xs := entsH hs) (j := k) (by omega) (by rw [← hk2, HE.out]; decide) (.inl (by rw [← hk1]; exact HSU.out))
                rw [← hk2, ← HFS.out] at hbt
                have := HN2.out hbt
                omega
              · have hz' : (n0 == 0) = false := by simpa using hz
                gi_wp2
                exact HWB.out _ HKW.out
            · gi_wp2_with (refine ⟨trivial, ?_⟩; gi_at_call 47; refine (CallsIn.inRound l (callsIn_wide.2 (Super_calls HT1.out x.a.j))).mono ?_; rintro e w13 ⟨rfl, hb13⟩; rw [HSU.out]; have x4' := cell_later hb13 x4; have hc3' := cell_later hb13 hc3)
              all_goals first
                | (rename_i hu1 hu2; cases hu1; done)
                | (refine ⟨trivial, ?_⟩; gi_wp2; exact HWB.out _ hb13)
          | some s =>
            have HSU := Lib.hid hsu
            clear hsu
            cases hemp : (x.a.x.f1.f2.f0.toList == [])
            · have HE := Lib.hid hemp
              cases hci : circB (entsH hs) x.a.j
              · have HCI := Lib.hid hci
                clear hci
                gi_wp2_with (first
                  | (refine ⟨trivial, ?_⟩; gi_at_call 47; refine (CallsIn.inRound l (callsIn_wide.2 (Super_calls HT1.out x.a.j))).mono ?_; rintro e w13 ⟨rfl, hb13⟩; rw [HSU.out]; have x4' := cell_later hb13 x4; have hc3' := cell_later hb13 hc3)
                  | (refine ⟨trivial, ?_⟩; gi_at_call 52; refine (CallsIn.inRound l (callsIn_wide.2 (Circular_calls (HT1.out.later hb13) x.a.j))).mono ?_; rintro e w14 ⟨rfl, hb14⟩; rw [HCI.out]; have hb14' := hb13.trans (hb14.mono hb13.size)))
                exact HWB.out _ hb14'
              · have HCI := Lib.hid hci
                clear hci
                gi_wp2_with (first
                  | (refine ⟨trivial, ?_⟩; gi_at_call 47; refine (CallsIn.inRound l (callsIn_wide.2 (Super_calls HT1.out x.a.j))).mono ?_; rintro e w13 ⟨rfl, hb13⟩; rw [HSU.out]; have x4' := cell_later hb13 x4; have hc3' := cell_later hb13 hc3)
                  | (refine ⟨trivial, ?_⟩; gi_at_call 52; refine (CallsIn.inRound l (callsIn_wide.2 (Circular_calls (HT1.out.later hb13) x.a.j))).mono ?_; rintro e w14 ⟨rfl, hb14⟩; rw [HCI.out]; have hb14' := hb13.trans (hb14.mono hb13.size); obtain ⟨-, -, k6, hMF, hres, -⟩ := HWF.out _ (HWB.out _ hb14').2.2; obtain ⟨n0, hlk, hn0, hn1, hn2⟩ := hMF.lookup x.hw.1 x.hw.2; have y0 : w14.cell? ⟨Bx, 0, none⟩ = some (.int .i64 x.a.x.f0) := cell_later hb14' ((cell_blk HBX.out 0).trans rfl); have y5 : w14.cell? ⟨Bx, 5, none⟩ = some (.int .i64 x.a.x.f1.f2.f1) := cell_later hb14' ((cell_blk HBX.out 5).trans rfl); have r0 := (cell_blk hres 0).trans rfl; have z0 := frozen_blk hres 0; have HN2 := Lib.hid hn2; have HKW := Lib.hid hb14'; clear hn0 hn1 hn2 hMF hres))
                all_goals first
                  | exact HWB.out _ HKW.out
                  | (refine ⟨(((KeepsOthers.of_grownBy (grown_below HKW.out) (fun j o e => by cases e))).trans (KeepsOthers.setCell _ _ _)).from _, rfl, ?_⟩
                     rintro ⟨j2, hj2, hs2⟩
                     obtain ⟨k, rfl, hk⟩ := sees_last hs2
                     have hk1 : x.a.j = (k : Int) := congrArg Prod.fst hk
                     have hk2 : x.a.x = rd_T124 (entsH hs) (k : Int) := congrArg Prod.snd hk
                     have hbt := bad_there (xs := entsH hs) (j := k) (by omega) (by rw [← hk2, HE.out]; decide) (.inr (by rw [← hk1]; exact HCI.out))
                     rw [← hk2, ← HFS.out] at hbt
                     have h1 := HN2.out hbt
                     have h0 : n0 = 0 := by first | assumption | (rename_i hz; simpa using hz)
                     omega)
            · gi_wp2_with (refine ⟨trivial, ?_⟩; gi_at_call 47; refine (CallsIn.inRound l (callsIn_wide.2 (Super_calls HT1.out x.a.j))).mono ?_; rintro e w13 ⟨rfl, hb13⟩; rw [HSU.out]; have x4' := cell_later hb13 x4; have hc3' := cell_later hb13 hc3)
              all_goals first
                | (rename_i hu1 hu2; cases hu1; done)
                | (refine ⟨trivial, ?_⟩; gi_wp2; exact HWB.out _ hb13)
        case done =>
          rintro D ys W hD hys hB hK
          obtain ⟨-, -, -, -, hres, hbel⟩ := HWF.out W hB
          have r0 := (cell_blk hres 0).trans rfl
          have z0 := frozen_blk hres 0
          have HBL := Lib.hid hbel
          have HDK := Lib.hid hK
          clear hbel hres hK hys hB
          gi_wp2
          go_wp2
          have hDw : D ≠ w.heap.size := by have := HBZ.out; omega
          have hK2 := (Below.heap_setCell W ⟨w.heap.size, 0, none⟩ (.bool true) D hDw).trans HDK.out
          refine ⟨by simp, .inl ⟨_, _, rfl, run_takeDeferred hK2, ?_⟩⟩
          refine ⟨_, res11 rfl ((cell_putObj _ (Ne.symm hDw)).trans (World.cell?_setCell_same' _ _ _ (by rw [r0]; rfl))), rfl, ?_⟩
          exact below_putObj (HBL.out.setCell (p := ⟨w.heap.size, 0, none⟩) (Nat.le_refl _) _) (by have := HBZ.out; omega) _
        case stop =>
          rintro D c pre W hD hS ⟨rfl, hx⟩
          exact absurd hS hx
  · have hcc := (cell_blk ((HB2.out.block _ (by rw [HS0.out]; omega)).trans HK2.out) 0).trans rfl
    have hff := frozen_blk ((HB2.out.block _ (by rw [HS0.out]; omega)).trans HK2.out) 0
    have HW := Lib.hid (HB0.out.trans (HB2.out.mono HB0.out.size))
    go_wp2
    refine ⟨_, res11 rfl (World.cell?_setCell_same' _ _ _ (by rw [hcc]; rfl)), rfl, ?_⟩
    exact HW.out.setCell (p := ⟨w.heap.size, 0, none⟩) (Nat.le_refl _) _
end Go.Proofs.Ytoakelgcbbbieaa
