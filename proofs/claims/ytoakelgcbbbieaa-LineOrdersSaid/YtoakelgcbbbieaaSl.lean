/- The faults of lines, the program's, walked. -/
import Derived.Test.YtoakelgcbbbieaaSk
import Derived.Test.YtoakelgcbbbieaaSj
import Derived.Test.YtoakelgcbbbieaaZe
namespace Go.Proofs.Ytoakelgcbbbieaa
open Go.RowKit Go.Maps Go.Shelf Go.Proofs.YtoakelgcbbbieaaW.PrintWords Go.Proofs.YtoakelgcbbbieaaW.PrintLast Go.Proofs.YtoakelgcbbbieaaW.PrintMore
set_option linter.unusedVariables false
set_option linter.unusedSimpArgs false
set_option maxRecDepth 100000
attribute [local go_sem] Oper.semAt_some

/-- the fault of a class, or none -/
def fOf (xs : List S124) (a : Int × S124) : List S113 :=
  if (a.2.f1.f2.f0.toList == []) = true then [] else
  if faultOf xs a.1 a.2.f1.f2.f0 = 0 then [] else [⟨a.2.f0, a.2.f1.f2.f1, faultOf xs a.1 a.2.f1.f2.f0⟩]
def lineFs (xs : List S124) : List S113 := (sees xs xs.length).flatMap (fOf xs)
theorem fOf_len (xs : List S124) (a : Int × S124) : (fOf xs a).length ≤ 1 := by
  unfold fOf; split
  · simp
  · split <;> simp
theorem fOfs_len (xs : List S124) : ∀ l : List (Int × S124), (l.flatMap (fOf xs)).length ≤ l.length
  | [] => by simp
  | a :: l => by
    have h1 := fOf_len xs a
    have h2 := fOfs_len xs l
    simp only [List.flatMap_cons, List.length_append, List.length_cons]
    omega
/-- the faults of the rounds so far -/
def fsA (xs : List S124) (pre : List AE) : List S113 := (pre.map AE.key).flatMap (fOf xs)
theorem fsA_snoc (xs : List S124) (pre : List AE) (a : AE) : fsA xs (pre ++ [a]) = fsA xs pre ++ fOf xs a.key := by simp [fsA]
theorem fsA_len (xs : List S124) (pre : List AE) : (fsA xs pre).length ≤ pre.length := by
  have := fOfs_len xs (pre.map AE.key)
  simpa [fsA] using this

theorem ownsRow_below {w w' : World} {base : Nat} {e : TypeId} {size : Nat} {v : Value} {n : Nat} {xs : List Value} (h : w.ownsRow base e size v n xs) (hb : Below w.heap.size w w') : w'.ownsRow base e size v n xs := by
  refine h.kept (grown_below hb) ?_
  rcases h.2 with ⟨rfl, _⟩ | ⟨g, cap, cur, rfl, _⟩
  · exact .inl rfl
  · exact .inr (fun e' => by simp [Value.ownBlock] at e')

theorem ownsRow_C {w : World} {base : Nat} {v : Value} {fs : List S113} (h : w.ownsRow base 113 3 v fs.length (fRow fs)) (hm : fs.length ≤ 1000000) : ∃ A c, v = .slice A fs.length c ∧ Kd.C k113 w A fs.length fs := by
  rcases h.2 with ⟨rfl, h0⟩ | ⟨g, cap, cur, rfl, _, hb, _, _, _, ht⟩
  · have hn := List.length_eq_zero_iff.1 h0
    subst hn
    exact ⟨none, 0, rfl, Kd.C_nil _ _⟩
  · refine ⟨_, _, rfl, C_RowF (RowF_holds (holds_own hb ht) (by simp) (fun j hj => ?_)) (by omega)⟩
    rw [getElem!_pos fs.toArray j (by simpa using hj)]
    simp [hj]

theorem C113_putObj {w : World} {A : Option Addr} {n : Nat} {fs : List S113} (h : Kd.C k113 w A n fs) {D : Nat} {o o' : Obj} (hD : w.heap[D]? = some o) (ho : o.isCells = false) : Kd.C k113 (w.putObj D o') A n fs := by
  obtain ⟨h1, h2, h3⟩ := h
  refine ⟨h1, h2, fun hp => ?_⟩
  obtain ⟨ad, e, hr⟩ := h3 hp
  refine ⟨ad, e, fun j p hj => ?_⟩
  obtain ⟨cs, hl, hK, hc⟩ := hr j p hj
  refine ⟨cs, hl, by rw [k113_open hK]; exact k113_mk _ p, fun i u hu => ?_⟩
  have h4 := hc i u hu
  have hne : (ad.add (j * k113.sz + i)).block ≠ D := by
    intro hb
    unfold World.cell? at h4
    rw [hb, hD] at h4
    cases o <;> simp_all [Obj.isCells]
  exact (World.cell?_of_block (World.putObj_heap_other hne)).trans h4

set_option maxHeartbeats 2000000 in
theorem Faults_calls {w : World} {tb : Nat} {xs : List S124} {m : Int} (T : Tab w tb xs m) (hsh : xs.length ≤ 1000000) :
    Calls Try.prog 55 #[.pointer (some ⟨tb, 0, none⟩)] w fun e w' => ∃ A' c', e = .returned (.slice A' (setF (lineFs xs)).length c') ∧ Kd.C k113 w' A' (setF (lineFs xs)).length (setF (lineFs xs)) ∧ Below w.heap.size w w' := by
  obtain ⟨i0, hi, hzz⟩ := Option.map_eq_some_iff.1 info113
  simp only [Prod.mk.injEq] at hzz
  have HI := Lib.hid hi
  have HZ := Lib.hid hzz
  have HT := Lib.hid T
  clear hi hzz T
  refine (callsIn_wide (n := 3)).1 ?_
  refine callsIn_of_wp_marks Try.func55 rfl trivial ?_ rfl
  simp only [Try.ntmps55, List.size_toArray, List.length_cons, List.length_nil, Nat.reduceAdd, Nat.reduceSub, Array.replicate_succ, Array.replicate_zero, List.push_toArray, List.append_toArray, List.nil_append, List.cons_append]
  gi_wp2_with (refine ⟨trivial, ?_⟩; gi_at_call 57; refine (callsIn_wide.2 (All_tbl_calls _)).mono ?_; rintro e w1 ⟨rfl, hw1⟩)
  have HB1 : Below w.heap.size w w1 := by rw [hw1]; exact (((Below.refl _ w).alloc (Nat.le_refl _) _).alloc (by simp) _).alloc (by simp; omega) _
  have hs1 : w1.heap.size = w.heap.size + 3 := by rw [hw1]; simp
  have bT : Boxed w1 w.heap.size 25 (.pointer (some ⟨tb, 0, none⟩)) := by rw [hw1]; exact ((Boxed.new w 25 _).alloc _).alloc _
  have bO : Boxed w1 (w.heap.size + 1) 107 (.slice none 0 0) := by
    rw [hw1]
    have := (Boxed.new (w.alloc (.cells #[.pointer (some ⟨tb, 0, none⟩)] 25)) 107 (.slice none 0 0)).alloc (.cells #[.pointer (some ⟨tb, 0, none⟩)] 25)
    rwa [World.size_alloc] at this
  have bA : Boxed w1 (w.heap.size + 2) 25 (.pointer (some ⟨tb, 0, none⟩)) := by
    rw [hw1]
    have := Boxed.new ((w.alloc (.cells #[.pointer (some ⟨tb, 0, none⟩)] 25)).alloc (.cells #[.slice none 0 0] 107)) 25 (.pointer (some ⟨tb, 0, none⟩))
    rwa [World.size_alloc, World.size_alloc] at this
  rw [← hw1]
  clear hw1
  have hTW : ∀ W', Below w.heap.size w1 W' → Tab W' tb xs m := fun W' h => HT.out.later (HB1.trans h)
  simp only [World.size_alloc, Nat.add_assoc, Nat.reduceAdd]
  refine wpIn_rangeFunc_ownH rfl (by omega) (gf := 78) (lb := #[.pointer (some ⟨w.heap.size + 2, 0, none⟩)]) rfl trivial (enters_of Try.func78 (by kernel_rfl) rfl)
    (all_stops (n := 2) (by omega) (n₀ := w.heap.size) (by omega) hTW bA) (fun h k => h.trans k) (fun W l o o' hl _ _ _ => ⟨below_putObj (Below.refl _ _) (by omega) _, World.putObj_heap_other (by omega)⟩) (Below.refl _ _) (fun _ => rfl)
    (fun pre W => (∃ v, Boxed W (w.heap.size + 1) 107 v ∧ W.ownsRow w.heap.size 113 3 v (fsA xs pre).length (fRow (fsA xs pre)) ∧ True) ∧ Boxed W w.heap.size 25 (.pointer (some ⟨tb, 0, none⟩)) ∧ Boxed W (w.heap.size + 2) 25 (.pointer (some ⟨tb, 0, none⟩)) ∧ Below w.heap.size w1 W)
    (fun _ _ _ => False)
    (OwnFrom.and (Own.from (holdsRow_own w.heap.size (w.heap.size + 1) 107 113 3 (fun pre => (fsA xs pre).length) (fun pre => fRow (fsA xs pre)) (fun _ _ => True)) _) (OwnFrom.and (Own.from (boxed_own _ _ (fun _ => .pointer (some ⟨tb, 0, none⟩))) _) (OwnFrom.and (Own.from (boxed_own _ _ (fun _ => .pointer (some ⟨tb, 0, none⟩))) _) (ownFrom_below (by omega) (by omega)))))
    (fun _ _ _ _ _ hs _ _ => hs)
    ⟨⟨_, bO, World.ownsRow_nil _ _ _ _, trivial⟩, bT, bA, Below.refl _ _⟩
    (fun x a' W => ∃ Bx, w.heap.size + 2 < Bx ∧ W.heap[Bx]? = some (.cells (eCells x.x x.A6 x.c6 x.A7 x.c7 x.A10 x.c10) 124 (0, 0)) ∧ a' = { tmps := #[.pointer (some ⟨tb, 0, none⟩), .pointer (some ⟨w.heap.size, 0, none⟩), .slice none 0 0, .pointer (some ⟨w.heap.size + 1, 0, none⟩), .int .i64 x.j, .pointer (some ⟨Bx, 0, none⟩), undef, .pointer (some ⟨tb, 0, none⟩), .func (.func 78) #[] #[.pointer (some ⟨w.heap.size + 2, 0, none⟩)], .int .i64 x.j, .agg (eCells x.x x.A6 x.c6 x.A7 x.c7 x.A10 x.c10), undef, undef, undef, undef, undef, undef, undef, undef, undef, undef, undef, undef, undef, undef, undef, undef, undef, undef, undef, undef, undef, undef, undef, undef, undef, undef, undef], defers := [] })
    (fun x a' _ X Y row hs hg hr => by
      obtain ⟨Bx, h1, h2, h3⟩ := hs
      refine ⟨Bx, h1, (hg.block Bx (Array.getElem?_eq_some_iff.1 h2).1 (fun e => ?_)).trans h2, h3⟩
      obtain ⟨o, ho, hc⟩ := (hr Bx e.symm).2
      rw [h2] at ho
      cases ho
      cases hc)
    ?assign ?body ?done ?stop
  case assign =>
    rintro l pre x W K ⟨⟨v, hv, hr, -⟩, h2, h3, hB⟩ hK
    gi_wp2
    have hsz := hB.size
    exact hK _ _ ((KeepsOthers.alloc _ _).from _) ⟨(Below.refl _ W).alloc (by omega) _, Below.heap_alloc _ _ _ h3.lt⟩ ⟨⟨v, hv.alloc _, hr.alloc _, trivial⟩, h2.alloc _, h3.alloc _, hB.alloc (by omega) _⟩ ⟨W.heap.size, by omega, heap_alloc_new W _, rfl⟩
  case body =>
    rintro l pre x a' W hl ⟨r, hr0⟩ ⟨⟨v, hv, hr, -⟩, hb1, hb2, hB⟩ ⟨Bx, hBx, bX, rfl⟩ hlt
    have hct := hb1.cell
    have x0 : W.cell? ⟨Bx, 0, none⟩ = some (.int .i64 x.x.f0) := (cell_blk bX 0).trans rfl
    have x4 : W.cell? ⟨Bx, 4, none⟩ = some (.string x.x.f1.f2.f0) := (cell_blk bX 4).trans rfl
    have x5 : W.cell? ⟨Bx, 5, none⟩ = some (.int .i64 x.x.f1.f2.f1) := (cell_blk bX 5).trans rfl
    have hsz1 := hB.size
    have hls := fsA_len xs pre
    have HI0 := Lib.hid (show _ ∧ _ ∧ _ ∧ _ ∧ _ from ⟨hv, hr, hb1, hb2, hB⟩)
    clear hr0
    by_cases hemp : (x.x.f1.f2.f0.toList == []) = true
    · clear hv hr hb1 hb2 hB
      have HF := Lib.hid (show fsA xs (pre ++ [x]) = fsA xs pre by rw [fsA_snoc]; unfold fOf AE.key; rw [if_pos hemp, List.append_nil])
      gi_wp2
      obtain ⟨hv, hr, hb1, hb2, hB⟩ := HI0.out
      refine ⟨(KeepsOthers.refl _).from _, KpA.refl _ _ _, ⟨_, hv, ?_, trivial⟩, hb1, hb2, hB⟩
      rw [HF.out]
      exact hr
    · have hemp' : (x.x.f1.f2.f0.toList == []) = false := by simpa using hemp
      have HTW := Lib.hid (hTW W hB)
      have HB := Lib.hid hB
      clear hv hr hb1 hb2 hB
      have HFE := Lib.hid (show fOf xs x.key = if faultOf xs x.j x.x.f1.f2.f0 = 0 then [] else [⟨x.x.f0, x.x.f1.f2.f1, faultOf xs x.j x.x.f1.f2.f0⟩] by unfold fOf AE.key; rw [if_neg hemp])
      have HBX := Lib.hid bX
      clear hemp bX
      obtain ⟨code, hcode⟩ : ∃ code, code = faultOf xs x.j x.x.f1.f2.f0 := ⟨_, rfl⟩
      rw [← hcode] at HFE
      have HCO := Lib.hid hcode
      clear hcode
      by_cases h0 : code = 0
      · have HF := Lib.hid (show fsA xs (pre ++ [x]) = fsA xs pre by rw [fsA_snoc, HFE.out, if_pos h0, List.append_nil])
        subst h0
        gi_wp2_with (refine ⟨trivial, ?_⟩; gi_at_call 75; refine (CallsIn.inRound l (callsIn_wide.2 (fault_calls HTW.out x.j _ x.hs))).mono ?_; rintro e w2 ⟨rfl, hb⟩; rw [← HCO.out])
        obtain ⟨hv, hr, hb1, hb2, hB⟩ := HI0.out
        have hn : w.heap.size ≤ W.heap.size := by omega
        refine ⟨(KeepsOthers.of_grownBy (grown_below hb) (fun j o e => by cases e)).from _, ⟨hb.mono hn, hb.block _ hb2.lt⟩, ⟨_, (hb.block _ hv.lt).trans hv, ?_, trivial⟩, (hb.block _ hb1.lt).trans hb1, (hb.block _ hb2.lt).trans hb2, hB.trans (hb.mono hn)⟩
        rw [HF.out]
        exact ownsRow_below hr hb
      · have hne : (code != 0) = true := by simpa using h0
        have HF := Lib.hid (show fsA xs (pre ++ [x]) = fsA xs pre ++ [⟨x.x.f0, x.x.f1.f2.f1, code⟩] by rw [fsA_snoc, HFE.out, if_neg h0])
        have hn : w.heap.size ≤ W.heap.size := by omega
        gi_wp2_with (first
          | (refine ⟨trivial, ?_⟩; gi_at_call 75; refine (CallsIn.inRound l (callsIn_wide.2 (fault_calls HTW.out x.j _ x.hs))).mono ?_; rintro e w2 ⟨rfl, hb⟩; rw [← HCO.out]; have hv2 : Boxed w2 (w.heap.size + 1) 107 v := (hb.block _ HI0.out.1.lt).trans HI0.out.1; have hr2 := ownsRow_below HI0.out.2.1 hb; have hc := hv2.cell; have hf := hv2.frozen; have x0' := cell_later hb x0; have x5' := cell_later hb x5; have hsz2 := hb.size)
          | (gi_at_builtin; refine wpListIn_append_own_at _ rfl _ _ 107 rfl w.heap.size 113 i0 (.agg #[.int .i64 0, .int .i64 0, .int .i64 0]) 3 24 Try.underlying107 HI.out HZ.out.1 HZ.out.2.1 HZ.out.2.2 rfl (by decide) v (fsA xs pre).length _ rfl (hr2.alloc _) ⟨w2.heap.size, 0, none⟩ 1 1 (fCells ⟨x.x.f0, x.x.f1.f2.f1, code⟩) rfl rfl (World.news_of_block (heap_alloc_new w2 (.cells #[.int .i64 x.x.f0, .int .i64 x.x.f1.f2.f1, .int .i64 code] 113))) (fun u hu => by simp only [fCells, List.mem_cons, List.not_mem_nil, or_false] at hu; rcases hu with rfl | rfl | rfl <;> rfl) (by unfold maxLen; omega) (by omega) (by simp; omega) ?_; intro v' w3 hown' hgrow _ _; obtain ⟨g', cap', rfl⟩ := ownsRow_succ hown'; obtain ⟨hv3, hv4, hr4, hk4, hb4⟩ := hv2.appended (by decide) hr2 (show w.heap.size ≤ w2.heap.size by omega) (by omega) hown' hgrow; have hc1 := hv3.cell; have hf1 := hv3.frozen))
        obtain ⟨hv, hr, hb1, hb2, hB⟩ := HI0.out
        have c1 : Boxed w2 w.heap.size 25 (.pointer (some ⟨tb, 0, none⟩)) := (hb.block _ hb1.lt).trans hb1
        have c2 : Boxed w2 (w.heap.size + 2) 25 (.pointer (some ⟨tb, 0, none⟩)) := (hb.block _ hb2.lt).trans hb2
        have d1 := ((c1.alloc _).kept hgrow (c1.not_row (by decide) hr2)).other (B' := w.heap.size + 1) (by omega) (.slice (some ⟨g', 0, none⟩) ((fsA xs pre).length + 1) cap')
        have d2 := ((c2.alloc _).kept hgrow (c2.not_row (by decide) hr2)).other (B' := w.heap.size + 1) (by omega) (.slice (some ⟨g', 0, none⟩) ((fsA xs pre).length + 1) cap')
        refine ⟨((KeepsOthers.of_grownBy (grown_below hb) (fun j o e => by cases e)).trans hk4).from _, ⟨(hb.mono hn).trans hb4, (show _ = _ from d2).trans (show _ = _ from hb2).symm⟩, ⟨_, hv4, ?_, trivial⟩, d1, d2, hB.trans ((hb.mono hn).trans hb4)⟩
        rw [HF.out, fRow_snoc, List.length_append, List.length_singleton]
        exact hr4
  case done =>
    rintro D ys W hD hys ⟨⟨v, hv, hr, -⟩, hb1, hb2, hB⟩ hK
    have hfs : fsA xs ys = lineFs xs := by unfold fsA lineFs; rw [hys]
    rw [hfs] at hr
    have hls : (lineFs xs).length ≤ xs.length := by
      have := fOfs_len xs (sees xs xs.length)
      rwa [sees_len] at this
    obtain ⟨A, c, rfl, hC⟩ := ownsRow_C hr (by omega)
    have hc := hv.cell
    have HC := Lib.hid hC
    have HB := Lib.hid hB
    have HK := Lib.hid hK
    clear hr hC hv hb1 hb2 hB hK
    gi_wp2_with (refine ⟨trivial, ?_⟩; gi_at_call 76; refine (callsIn_wide.2 (Sorted_calls HC.out (by omega))).mono ?_; rintro e w5 ⟨A', c', rfl, hC', hB'⟩)
    have hDl := (Array.getElem?_eq_some_iff.1 HK.out).1
    have hK5 := (hB'.block D hDl).trans HK.out
    refine ⟨by simp, .inl ⟨_, _, rfl, run_takeDeferred hK5, ?_⟩⟩
    refine ⟨_, results_tmp rfl _ _ _, A', c', rfl, C113_putObj hC' hK5 rfl, ?_⟩
    have hs5 := HB.out.size
    exact below_putObj (HB1.trans (HB.out.trans (hB'.mono (by omega)))) (by omega) _
  case stop =>
    rintro D c pre W hD _ h _
    exact h.elim
end Go.Proofs.Ytoakelgcbbbieaa
