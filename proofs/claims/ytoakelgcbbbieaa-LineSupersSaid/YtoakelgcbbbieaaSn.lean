/- One fault put into its place, the document's, walked. -/
import Derived.Test.YtoakelgcbbbieaaSm
import Derived.Maps.AppendAt
namespace Go.Proofs.Ytoakelgcbbbieaa
open Go.RowKit Go.Maps Go.Shelf Go.Proofs.YtoakelgcbbbieaaW.PrintWords Go.Proofs.YtoakelgcbbbieaaW.PrintLast Go.Proofs.YtoakelgcbbbieaaW.PrintMore
set_option linter.unusedVariables false
set_option linter.unusedSimpArgs false
set_option maxRecDepth 100000
attribute [local go_sem] Oper.semAt_some
attribute [local go_sem ↓] Go.wp_at_zero Go.wp_at_succ

theorem putF_at (f : S113) : ∀ (l : List S113) (k : Nat), k ≤ l.length → (l.take k).all (fun x => ltFB x f) = true → (∀ h : k < l.length, ltFB l[k] f = false) →
    putF f l = if (l[k]? == some f) = true then l else l.take k ++ [f] ++ l.drop k
  | [], k, hk, _, _ => by
    have : k = 0 := by simpa using hk
    subst this
    simp [putF]
  | x :: l, 0, _, _, h2 => by
    have h := h2 (by simp)
    simp only [List.getElem_cons_zero] at h
    unfold putF
    rw [h]
    simp only [Bool.false_eq_true, if_false, List.getElem?_cons_zero, List.take_zero, List.drop_zero, List.nil_append, beq_iff_eq, Option.some.injEq]
    rfl
  | x :: l, k + 1, hk, h1, h2 => by
    simp only [List.take_succ_cons, List.all_cons, Bool.and_eq_true] at h1
    have ih := putF_at f l k (by simpa using hk) h1.2 (fun h => by
      have := h2 (by simpa using h)
      simpa using this)
    unfold putF
    rw [h1.1, if_pos rfl, ih]
    simp only [List.getElem?_cons_succ, List.take_succ_cons, List.drop_succ_cons, List.cons_append]
    split <;> rfl

theorem ltF_take {f : S113} {l : List S113} {k : Nat} (hk : k < l.length) (h1 : (l.take k).all (fun x => ltFB x f) = true) (h2 : ltFB l[k] f = true) : (l.take (k + 1)).all (fun x => ltFB x f) = true := by
  rw [List.take_succ_eq_append_getElem hk, List.all_append, h1]
  simp [h2]

theorem len_fRow : ∀ xs : List S113, (fRow xs).length = xs.length * 3
  | [] => rfl
  | x :: l => by
    have := len_fRow l
    rw [show fRow (x :: l) = fCells x ++ fRow l by simp [fRow], List.length_append, this]
    simp [fCells]
    omega
theorem C_cellsF {w : World} {ad : Addr} {n : Nat} {xs : List S113} (h : Kd.C k113 w (some ad) n xs) : ∀ j u, (fRow xs)[j]? = some u → w.cell? (ad.add j) = some u := by
  intro j u hu
  obtain rfl := C_len h
  have hj : j < xs.length * 3 := by
    have := (List.getElem?_eq_some_iff.1 hu).1
    have hl := len_fRow xs
    omega
  have hq : j / 3 < xs.length := by omega
  obtain ⟨ad', e, h0, h1, h2⟩ := at_F h (j / 3) hq
  cases e
  have hg := fRow_get xs j hj
  rw [hu] at hg
  injection hg with hg
  rw [getElem!_pos xs.toArray (j / 3) (by simpa using hq)] at hg
  simp only [List.getElem_toArray] at hg
  have hr : j % 3 = 0 ∨ j % 3 = 1 ∨ j % 3 = 2 := by omega
  rcases hr with hr | hr | hr
  · rw [show ad.add j = ad.add (j / 3 * 3) by congr 1; omega, h0, hg, hr]; rfl
  · rw [show ad.add j = ad.add (j / 3 * 3 + 1) by congr 1; omega, add_field _ _ 1 (by omega), h1, hg, hr]; rfl
  · rw [show ad.add j = ad.add (j / 3 * 3 + 2) by congr 1; omega, add_field _ _ 2 (by omega), h2, hg, hr]; rfl

theorem fRow_app (xs ys : List S113) : fRow (xs ++ ys) = fRow xs ++ fRow ys := by simp [fRow]

/-- An append of some faults, or of none, to a row of the call's own: at a step of a region that draws its order. -/
theorem step_append_F {ops : Array Oper} {o : Oper} {a : Act} {w : World} {K : Act → World → Prop} {Q : Exit → Act → World → Prop} {E : Prop} (hgd : o.guard = none) (s x : Operand)
    (ho : o.op = .call { callee := .builtin .append, args := #[s, x], argTypes := #[107, 107] })
    (w0 : World) (base : Nat) (xs : List S113) (n : Nat) (v : Value) (hs : a.eval s = v) (hn : xs.length = n) (hown : w.ownsRow base 113 3 v n (fRow xs)) (HB : Below base w0 w)
    (ys : List S113) (m : Nat) (ad : Option Addr) (c : Nat) (hx : a.eval x = .slice ad m c) (hm : ys.length = m) (hz : ad = none → m = 0) (hys : ∀ b, ad = some b → ∀ j u, (fRow ys)[j]? = some u → w.cell? (b.add j) = some u)
    (hlen : n + m ≤ 3000000) (hbase : base ≤ w.heap.size)
    (h : ∀ v1 w1, w1.ownsRow base 113 3 v1 (n + m) (fRow (xs ++ ys)) → Below base w0 w1 → w.grownBy w1 v.ownBlock → K (a.put o.dst v1) w1) :
    if Region.wanted o (yielded ops a.tmps) = true then Oper.wp Try.prog o a w K Q else E := by
  obtain ⟨i0, hi, hzz⟩ := Option.map_eq_some_iff.1 info113
  simp only [Prod.mk.injEq] at hzz
  obtain ⟨hz0, hz1, hz2⟩ := hzz
  have hw : Region.wanted o (yielded ops a.tmps) = true := by simp [Region.wanted, hgd]
  rw [if_pos hw]
  have hr : ∃ v1 w1, (Builtin.append_ #[107, 107] o.type #[v, .slice ad m c]).run Try.prog w = .ok v1 w1 ∧ w1.ownsRow base 113 3 v1 (n + m) (fRow (xs ++ ys)) ∧ w.grownBy w1 v.ownBlock := by
    cases ad with
    | none =>
      have hm0 := hz rfl
      subst hm0
      have hy0 := List.length_eq_zero_iff.1 hm
      subst hy0
      refine ⟨v, w, ?_, by simpa using hown, ⟨rfl, rfl, rfl, Nat.le_refl _, fun _ _ _ => rfl⟩⟩
      rcases hown.2 with ⟨rfl, h0⟩ | ⟨g, cap, cur, rfl, _, _, hnc, _⟩
      · subst h0
        simp [Builtin.append_, run_underlying Try.underlying107, Try.sizeOf113, Builtin.lenOf, Builtin.firstCells]
      · simp [Builtin.append_, run_underlying Try.underlying107, Try.sizeOf113, Builtin.lenOf, Builtin.firstCells, hnc, storeCells]
    | some b =>
      obtain ⟨v1, w1, h1, h2, h3, -, -⟩ := run_append_own_at (P := Try.prog) (w := w) base 107 o.type 113 i0 (.agg #[.int .i64 0, .int .i64 0, .int .i64 0]) 3 24 Try.underlying107 hi hz0 hz1 hz2 rfl (by decide) v n (fRow xs) hown b m c (fRow ys)
        (by rw [len_fRow, hm]) (hys b rfl) (by intro u hu; simp only [fRow, List.mem_flatMap, fCells] at hu; obtain ⟨p, _, hu⟩ := hu; simp at hu; rcases hu with rfl | rfl | rfl <;> rfl) (by unfold maxLen; omega) (by omega) hbase
      exact ⟨v1, w1, h1, by rw [fRow_app]; exact h2, h3⟩
  obtain ⟨v1, w1, hr, h2, h3⟩ := hr
  unfold Oper.wp execOp
  simp only [ho, resolve, invoke, builtin, Sem.run_bind, Sem.run_pure, Result.andThen_ok, List.map_toArray, List.map_cons, List.map_nil, hs, hx, hr]
  refine h v1 w1 h2 ?_ h3
  refine HB.trans ⟨h3.os, h3.tape, h3.output, h3.size, fun k hk => h3.block k (by omega) (fun e => ?_)⟩
  rcases hown.2 with ⟨rfl, h0⟩ | ⟨g, cap, cur, rfl, hb, _⟩
  · simp [Value.ownBlock] at e
  · simp only [Value.ownBlock] at e
    injection e with e
    omega

theorem own0 {X : World} {base H : Nat} (hb : base ≤ X.heap.size) (hH : X.heap.size = H) : (X.alloc (.cells #[] 113)).ownsRow base 113 3 (.slice (some ⟨H, 0, none⟩) 0 0) 0 (fRow []) := by
  subst hH
  exact ⟨rfl, .inr ⟨X.heap.size, 0, #[], rfl, hb, heap_alloc_new X _, Nat.le_refl _, by unfold maxLen; omega, rfl, rfl⟩⟩
theorem new_at {X : World} {cs : Array Value} {t : TypeId} {H : Nat} (h : X.heap.size = H) : (X.alloc (.cells cs t)).heap[H]? = some (.cells cs t (0, 0)) := by subst h; exact heap_alloc_new X _
theorem newsF {W : World} {B : Nat} {f : S113} (hb : W.heap[B]? = some (.cells #[.int .i64 f.f0, .int .i64 f.f1, .int .i64 f.f2] 113 (0, 0))) : ∀ j u, (fRow [f])[j]? = some u → W.cell? ((⟨B, 0, none⟩ : Addr).add j) = some u :=
  fun j u hu => World.news_of_block hb j u hu
theorem older_at {X w6 : World} {cs : Array Value} {t : TypeId} {o2 : Obj} {row : Option Nat} (hg : ((X.alloc (.cells cs t)).alloc o2).drew.grownBy w6 row) {H : Nat} (hH : X.heap.size = H) (hr : row ≠ some H) : w6.heap[H]? = some (.cells cs t (0, 0)) := by
  subst hH
  refine (hg.block X.heap.size ?_ (fun e => hr e.symm)).trans ?_
  · show X.heap.size < ((X.alloc _).alloc _).heap.size
    rw [World.size_alloc, World.size_alloc]
    omega
  · show ((X.alloc _).alloc _).heap[X.heap.size]? = _
    exact (Below.heap_alloc _ _ _ (by rw [World.size_alloc]; omega)).trans (heap_alloc_new X _)
theorem newer_at {X w6 : World} {cs : Array Value} {t : TypeId} {o1 : Obj} {row : Option Nat} (hg : ((X.alloc o1).alloc (.cells cs t)).drew.grownBy w6 row) {H : Nat} (hH : X.heap.size + 1 = H) (hr : row ≠ some H) : w6.heap[H]? = some (.cells cs t (0, 0)) := by
  subst hH
  refine (hg.block (X.heap.size + 1) ?_ (fun e => hr e.symm)).trans ?_
  · show X.heap.size + 1 < ((X.alloc _).alloc _).heap.size
    rw [World.size_alloc, World.size_alloc]
    omega
  · show ((X.alloc _).alloc _).heap[X.heap.size + 1]? = _
    exact new_at (World.size_alloc _ _)
theorem takeF {l : List S113} {k j : Nat} {u : Value} (h : (fRow (l.take k))[j]? = some u) : (fRow l)[j]? = some u := by
  have hj := (List.getElem?_eq_some_iff.1 h).1
  rw [← List.take_append_drop k l, fRow_app, List.getElem?_append_left hj]
  exact h
theorem dropF {l : List S113} {k j : Nat} {u : Value} (hk : k ≤ l.length) (h : (fRow (l.drop k))[j]? = some u) : (fRow l)[k * 3 + j]? = some u := by
  have hl : (fRow (l.take k)).length = k * 3 := by rw [len_fRow, List.length_take, Nat.min_eq_left hk]
  rw [← List.take_append_drop k l, fRow_app, List.getElem?_append_right (by rw [hl]; omega), hl, show k * 3 + j - k * 3 = j by omega]
  exact h
theorem ownsRow_C' {w : World} {base : Nat} {v : Value} {n : Nat} {fs : List S113} (hn : fs.length = n) (h : w.ownsRow base 113 3 v n (fRow fs)) (hm : fs.length ≤ 3000000) : ∃ A c, v = .slice A fs.length c ∧ fs.length ≤ c ∧ Kd.C k113 w A fs.length fs := by
  subst hn
  rcases h.2 with ⟨rfl, h0⟩ | ⟨g, cap, cur, rfl, _, hb, hc, _, _, ht⟩
  · have hn := List.length_eq_zero_iff.1 h0
    subst hn
    exact ⟨none, 0, rfl, Nat.le_refl _, Kd.C_nil _ _⟩
  · refine ⟨_, _, rfl, hc, C_RowF (RowF_holds (holds_own hb ht) (by simp) (fun j hj => ?_)) (by omega)⟩
    rw [getElem!_pos fs.toArray j (by simpa using hj)]
    simp [hj]

set_option maxHeartbeats 2000000 in
theorem Put_calls {w : World} {A : Option Addr} {c : Nat} {l : List S113} (hC : Kd.C k113 w A l.length l) (hlc : l.length ≤ c) (hsh : l.length ≤ 1000000) (f : S113) :
    Calls Try.prog 77 #[.slice A l.length c, fAgg f] w fun e w' => ∃ A' c', e = .returned (.slice A' (putF f l).length c') ∧ (putF f l).length ≤ c' ∧ Kd.C k113 w' A' (putF f l).length (putF f l) ∧ Below w.heap.size w w' := by
  have HC := Lib.hid hC
  clear hC
  go_enter Try.func77, Try.ntmps77
  go_wp2_with fail
  obtain ⟨w0, hw0⟩ : ∃ w0, w0 = w.alloc (.cells #[.int .i64 f.f0, .int .i64 f.f1, .int .i64 f.f2] 113) := ⟨_, rfl⟩
  have HKF := Lib.hid (show w0.heap[w.heap.size]? = some (.cells #[.int .i64 f.f0, .int .i64 f.f1, .int .i64 f.f2] 113 (0, 0)) by rw [hw0]; exact heap_alloc_new w _)
  have HB0 := Lib.hid (show Below w.heap.size w w0 by rw [hw0]; exact (Below.refl _ _).alloc (Nat.le_refl _) _)
  rw [← hw0]
  clear hw0
  have HC := Lib.hid (Kd.C_below HC.out HB0.out)
  have g0 : w0.cell? ⟨w.heap.size, 0, none⟩ = some (.int .i64 f.f0) := (cell_blk HKF.out 0).trans rfl
  have g1 : w0.cell? ⟨w.heap.size, 1, none⟩ = some (.int .i64 f.f1) := (cell_blk HKF.out 1).trans rfl
  have g2 : w0.cell? ⟨w.heap.size, 2, none⟩ = some (.int .i64 f.f2) := (cell_blk HKF.out 2).trans rfl
  have G0 := Lib.hid g0
  have G1 := Lib.hid g1
  have G2 := Lib.hid g2
  clear g0 g1 g2
  go_loopw [5] (fun v5 wr => ∃ k : Nat, k ≤ l.length ∧ v5 = .int .i64 k ∧ Hid (Below w0.heap.size w0 wr) ∧ Hid ((l.take k).all (fun x => ltFB x f) = true)) (fun v5 wr => l.length - (intOf v5).toNat)
  case atStart => exact ⟨0, Nat.zero_le _, rfl, Below.refl _ _, rfl⟩
  case round =>
    obtain ⟨k, hk, rfl, hBr, hall⟩ := hrel
    have f0 := cell_later hBr.out G0.out
    have f1 := cell_later hBr.out G1.out
    have f2 := cell_later hBr.out G2.out
    by_cases hlt : k < l.length
    · obtain ⟨ad, rfl, hc0, hc1, hc2⟩ := at_F HC.out k hlt
      replace hc0 := cell_later hBr.out hc0
      replace hc1 := cell_later hBr.out hc1
      replace hc2 := cell_later hBr.out hc2
      have h0k : (0 : Int) ≤ (k : Int) := by omega
      have hkl : (k : Int) < (l.length : Int) := by omega
      obtain ⟨x, hx⟩ : ∃ x, x = l[k] := ⟨_, rfl⟩
      rw [← hx] at hc0 hc1 hc2
      have HX := Lib.hid hx
      clear hx
      cases hp : ltFB x f
      · have HP := Lib.hid hp
        clear hp
        go_wp2_with fail
        go_region_held3 (fun w' => w'.cell? ⟨w.heap.size, 0, none⟩ = some (.int .i64 f.f0) ∧ w'.cell? ⟨w.heap.size, 1, none⟩ = some (.int .i64 f.f1) ∧ w'.cell? ⟨w.heap.size, 2, none⟩ = some (.int .i64 f.f2) ∧ w'.cell? (ad.add (k * 3)) = some (.int .i64 x.f0) ∧ w'.cell? ⟨(ad.add (k * 3)).block, (ad.add (k * 3)).off + 1, none⟩ = some (.int .i64 x.f1) ∧ w'.cell? ⟨(ad.add (k * 3)).block, (ad.add (k * 3)).off + 2, none⟩ = some (.int .i64 x.f2)) (first | go_keep | (refine ⟨?_, ?_, ?_, ?_, ?_, ?_⟩ <;> exact cell_later (by assumption) (by assumption)))
          (first
            | (go_at_call 95; refine (ahead_calls x f _).mono ?_; rintro e w4 ⟨rfl, hb4⟩; rw [HP.out]))
        obtain ⟨p0, p1, p2, q0, q1, q2⟩ := (by assumption : (_ ∧ _ ∧ _ ∧ _ ∧ _ ∧ _))
        have HB4 := Lib.hid (hBr.out.trans (((below_drew (Below.refl _ _)).trans hb4).mono hBr.out.size))
        clear hc0 hc1 hc2 f0 f1 f2 hb4
        go_wp2_with fail
        have hE : ∀ w, (Op.equalIn 10000 113 (.agg #[.int .i64 x.f0, .int .i64 x.f1, .int .i64 x.f2]) (.agg #[.int .i64 f.f0, .int .i64 f.f1, .int .i64 f.f2])).run Try.prog w = .ok (decide (x = f)) w := fun w => f_eq x f w
        by_cases hxf : x = f
        · rw [decide_eq_true hxf] at hE
          go_region_held3 (fun w' => w'.cell? ⟨w.heap.size, 0, none⟩ = some (.int .i64 f.f0) ∧ w'.cell? ⟨w.heap.size, 1, none⟩ = some (.int .i64 f.f1) ∧ w'.cell? ⟨w.heap.size, 2, none⟩ = some (.int .i64 f.f2) ∧ w'.cell? (ad.add (k * 3)) = some (.int .i64 x.f0) ∧ w'.cell? ⟨(ad.add (k * 3)).block, (ad.add (k * 3)).off + 1, none⟩ = some (.int .i64 x.f1) ∧ w'.cell? ⟨(ad.add (k * 3)).block, (ad.add (k * 3)).off + 2, none⟩ = some (.int .i64 x.f2)) (go_keep)
            (fail)
          have HE := Lib.hid (show putF f l = l by
            rw [putF_at f l k hk hall.out (fun h => by rw [← HX.out]; exact HP.out), if_pos]
            rw [List.getElem?_eq_getElem hlt, ← HX.out, hxf]
            simp)
          go_wp2
          go_ret
          rw [HE.out]
          exact ⟨_, _, rfl, hlc, Kd.C_below HC.out HB4.out.drew, HB0.out.trans (HB4.out.drew.mono HB0.out.size)⟩
        · rw [decide_eq_false hxf] at hE
          go_region_held3 (fun w' => w'.cell? ⟨w.heap.size, 0, none⟩ = some (.int .i64 f.f0) ∧ w'.cell? ⟨w.heap.size, 1, none⟩ = some (.int .i64 f.f1) ∧ w'.cell? ⟨w.heap.size, 2, none⟩ = some (.int .i64 f.f2) ∧ w'.cell? (ad.add (k * 3)) = some (.int .i64 x.f0) ∧ w'.cell? ⟨(ad.add (k * 3)).block, (ad.add (k * 3)).off + 1, none⟩ = some (.int .i64 x.f1) ∧ w'.cell? ⟨(ad.add (k * 3)).block, (ad.add (k * 3)).off + 2, none⟩ = some (.int .i64 x.f2)) (go_keep)
            (fail)
          have HE := Lib.hid (show putF f l = l.take k ++ [f] ++ l.drop k by
            rw [putF_at f l k hk hall.out (fun h => by rw [← HX.out]; exact HP.out), if_neg]
            rw [List.getElem?_eq_getElem hlt, ← HX.out]
            simpa using hxf)
          clear hE p0 p1 p2 q0 q1 q2
          obtain ⟨p0, p1, p2, -, -, -⟩ := (by assumption : (w4.drew.cell? _ = _ ∧ _ ∧ _ ∧ _ ∧ _ ∧ _))
          obtain ⟨w5, hw5⟩ : ∃ w5, w5 = w4.drew := ⟨_, rfl⟩
          have hB5 : Below w0.heap.size w0 w5 := by rw [hw5]; exact HB4.out.drew
          rw [← hw5] at p0 p1 p2 ⊢
          clear hw5
          have hck : ¬ c = k := by omega
          have hck2 : ¬ (c : Int) = (k : Int) := by omega
          have hkc : (k : Int) ≤ (c : Int) := by omega
          have hkl' : (k : Int) ≤ (l.length : Int) := by omega
          have hlc' : (l.length : Int) ≤ (c : Int) := by omega
          go_upto_region 6 with (fail)
          go_region_held3 (fun w' => w'.cell? ⟨w.heap.size, 0, none⟩ = some (.int .i64 f.f0) ∧ w'.cell? ⟨w.heap.size, 1, none⟩ = some (.int .i64 f.f1) ∧ w'.cell? ⟨w.heap.size, 2, none⟩ = some (.int .i64 f.f2)) (first | go_keep | exact ⟨cell_later (by first | assumption | exact below_alloc (by assumption) _ | exact Below.drew (by assumption) | exact Below.drew (below_alloc (by assumption) _) | exact Below.drew (below_alloc (below_alloc (by assumption) _) _)) G0.out, cell_later (by first | assumption | exact below_alloc (by assumption) _ | exact Below.drew (by assumption) | exact Below.drew (below_alloc (by assumption) _) | exact Below.drew (below_alloc (below_alloc (by assumption) _) _)) G1.out, cell_later (by first | assumption | exact below_alloc (by assumption) _ | exact Below.drew (by assumption) | exact Below.drew (below_alloc (by assumption) _) | exact Below.drew (below_alloc (below_alloc (by assumption) _) _)) G2.out⟩)
            (first
              | ((refine step_append_F (by rfl) (.tmp 33) (.tmp 36) (by rfl) w0 w0.heap.size [] 0 _ (by rfl) (by rfl) (by first | exact own0 (by (try simp only [World.size_alloc]); have hq := hB5.size; omega) (by simp) | exact (own0 (by (try simp only [World.size_alloc]); have hq := hB5.size; omega) (by simp)).alloc _) (by first | assumption | exact below_alloc (by assumption) _ | exact Below.drew (by assumption) | exact Below.drew (below_alloc (by assumption) _) | exact Below.drew (below_alloc (below_alloc (by assumption) _) _)) (l.take k) k _ _ (by rfl) (by simp; omega) (fun h => by cases h) (fun b hb j u hu => by cases hb; exact C_cellsF (Kd.C_below HC.out (by first | assumption | exact below_alloc (by assumption) _ | exact Below.drew (by assumption) | exact Below.drew (below_alloc (by assumption) _) | exact Below.drew (below_alloc (below_alloc (by assumption) _) _))) j u (takeF hu)) (by omega) (Below.size (by first | assumption | exact below_alloc (by assumption) _ | exact Below.drew (by assumption) | exact Below.drew (below_alloc (by assumption) _) | exact Below.drew (below_alloc (below_alloc (by assumption) _) _))) ?_); intro v1 w6 hown1 hB6 hg1; change World.grownBy _ _ (some _) at hg1)
              | ((refine step_append_F (by rfl) (.tmp 37) (.tmp 39) (by rfl) w0 w0.heap.size ([] ++ l.take k) (0 + k) _ (by rfl) (by simp; omega) (by first | exact hown1 | exact hown1.alloc _) (by first | assumption | exact below_alloc (by assumption) _ | exact Below.drew (by assumption) | exact Below.drew (below_alloc (by assumption) _) | exact Below.drew (below_alloc (below_alloc (by assumption) _) _)) [f] 1 _ _ (by rfl) (by rfl) (fun h => by cases h) (fun b hb => by cases hb; exact newsF (by first | exact new_at (by simp) | exact newer_at hg1 (by rfl) (by intro e; injection e with e; dsimp only at e; omega) | exact older_at hg1 (by rfl) (by intro e; injection e with e; dsimp only at e; omega))) (by omega) (Below.size (by first | assumption | exact below_alloc (by assumption) _ | exact Below.drew (by assumption) | exact Below.drew (below_alloc (by assumption) _) | exact Below.drew (below_alloc (below_alloc (by assumption) _) _))) ?_); intro v2 w7 hown2 hB7 hg2)
              | ((refine step_append_F (by rfl) (.tmp 40) (.tmp 43) (by rfl) w0 w0.heap.size ([] ++ l.take k ++ [f]) (0 + k + 1) _ (by rfl) (by simp; omega) hown2 (by first | assumption | exact below_alloc (by assumption) _ | exact Below.drew (by assumption) | exact Below.drew (below_alloc (by assumption) _) | exact Below.drew (below_alloc (below_alloc (by assumption) _) _)) (l.drop k) (l.length - k) _ _ (by rfl) (by simp) (fun h => by cases h) (fun b hb j u hu => by cases hb; rw [add_add]; exact C_cellsF (Kd.C_below HC.out (by first | assumption | exact below_alloc (by assumption) _ | exact Below.drew (by assumption) | exact Below.drew (below_alloc (by assumption) _) | exact Below.drew (below_alloc (below_alloc (by assumption) _) _))) _ u (dropF hk hu)) (by omega) (Below.size (by first | assumption | exact below_alloc (by assumption) _ | exact Below.drew (by assumption) | exact Below.drew (below_alloc (by assumption) _) | exact Below.drew (below_alloc (below_alloc (by assumption) _) _))) ?_); intro v3 w8 hown3 hB8 hg3))
          all_goals
            go_wp2
            go_ret
            obtain ⟨A', c', rfl, hcap, hC'⟩ := ownsRow_C' (by simp; omega) hown3 (by simp; omega)
            rw [HE.out]
            exact ⟨A', c', rfl, hcap, hC', HB0.out.trans (hB8.mono HB0.out.size)⟩
      · have HP := Lib.hid (ltF_take hlt hall.out (by rw [← HX.out]; exact hp))
        go_wp2_with fail
        have HPP := Lib.hid hp
        clear hp
        go_region_held3 (fun w' => w'.cell? ⟨w.heap.size, 0, none⟩ = some (.int .i64 f.f0) ∧ w'.cell? ⟨w.heap.size, 1, none⟩ = some (.int .i64 f.f1) ∧ w'.cell? ⟨w.heap.size, 2, none⟩ = some (.int .i64 f.f2) ∧ w'.cell? (ad.add (k * 3)) = some (.int .i64 x.f0) ∧ w'.cell? ⟨(ad.add (k * 3)).block, (ad.add (k * 3)).off + 1, none⟩ = some (.int .i64 x.f1) ∧ w'.cell? ⟨(ad.add (k * 3)).block, (ad.add (k * 3)).off + 2, none⟩ = some (.int .i64 x.f2)) (first | go_keep | (refine ⟨?_, ?_, ?_, ?_, ?_, ?_⟩ <;> exact cell_later (by assumption) (by assumption)))
          (first
            | (go_at_call 95; refine (ahead_calls x f _).mono ?_; rintro e w4 ⟨rfl, hb4⟩; rw [HPP.out]))
        have HB4 := Lib.hid (hBr.out.trans (((below_drew (Below.refl _ _)).trans hb4).mono hBr.out.size))
        clear hc0 hc1 hc2 f0 f1 f2 hb4
        go_wp2
        go_roundw
        case rel => exact ⟨k + 1, by omega, by go_num, HB4.out, HP.out⟩
        case measure => simp [intOf]; omega
    · have hkeq : k = l.length := by omega
      have hd : decide ((k : Int) < (l.length : Int)) = false := by simp; omega
      have h0k : (0 : Int) ≤ (k : Int) := by omega
      have HE := Lib.hid (show putF f l = l.take k ++ [f] ++ [] by
        rw [putF_at f l k hk hall.out (fun h => absurd h hlt), if_neg]
        · rw [List.drop_of_length_le (by omega)]
        · rw [List.getElem?_eq_none (by omega)]
          simp)
      go_wp2_with fail
      go_quiet (fail)
      have hBa := pw_below_drewN hBr.out nq
      generalize wr.drewN nq = wa at hBa ⊢
      clear f0 f1 f2
      go_wp2_with fail
      go_quiet (fail)
      have hB5 := pw_below_drewN hBa nq
      generalize wa.drewN nq = w5 at hB5 ⊢
      clear hBa
      have p0 := cell_later hB5 G0.out
      have p1 := cell_later hB5 G1.out
      have p2 := cell_later hB5 G2.out
      cases A with
      | none =>
        have hl0 : l.length = 0 := by
          rcases Nat.eq_zero_or_pos l.length with h | h
          · exact h
          · obtain ⟨_, e, _⟩ := HC.out.2.2 h
            cases e
        have hk0 : k = 0 := by omega
        have hln := List.length_eq_zero_iff.1 hl0
        have HKE := Lib.hid hk0
        clear hkeq hl0
        subst hln
        subst hk0
        have hkc : (0 : Int) ≤ (c : Int) := by omega
        go_upto_region 6 with (fail)
        go_region_held3 (fun w' => w'.cell? ⟨w.heap.size, 0, none⟩ = some (.int .i64 f.f0) ∧ w'.cell? ⟨w.heap.size, 1, none⟩ = some (.int .i64 f.f1) ∧ w'.cell? ⟨w.heap.size, 2, none⟩ = some (.int .i64 f.f2)) (first | go_keep | exact ⟨cell_later (by first | assumption | exact below_alloc (by assumption) _ | exact Below.drew (by assumption) | exact Below.drew (below_alloc (by assumption) _) | exact Below.drew (below_alloc (below_alloc (by assumption) _) _)) G0.out, cell_later (by first | assumption | exact below_alloc (by assumption) _ | exact Below.drew (by assumption) | exact Below.drew (below_alloc (by assumption) _) | exact Below.drew (below_alloc (below_alloc (by assumption) _) _)) G1.out, cell_later (by first | assumption | exact below_alloc (by assumption) _ | exact Below.drew (by assumption) | exact Below.drew (below_alloc (by assumption) _) | exact Below.drew (below_alloc (below_alloc (by assumption) _) _)) G2.out⟩)
          (first
            | ((refine step_append_F (by rfl) (.tmp 33) (.tmp 36) (by rfl) w0 w0.heap.size [] 0 _ (by rfl) (by rfl) (by first | exact own0 (by (try simp only [World.size_alloc]); have hq := hB5.size; omega) (by simp) | exact (own0 (by (try simp only [World.size_alloc]); have hq := hB5.size; omega) (by simp)).alloc _) (by first | assumption | exact below_alloc (by assumption) _ | exact Below.drew (by assumption) | exact Below.drew (below_alloc (by assumption) _) | exact Below.drew (below_alloc (below_alloc (by assumption) _) _)) [] 0 _ _ (by rfl) (by rfl) (fun _ => rfl) (fun b hb => by cases hb) (by omega) (Below.size (by first | assumption | exact below_alloc (by assumption) _ | exact Below.drew (by assumption) | exact Below.drew (below_alloc (by assumption) _) | exact Below.drew (below_alloc (below_alloc (by assumption) _) _))) ?_); intro v1 w6 hown1 hB6 hg1; change World.grownBy _ _ (some _) at hg1)
            | ((refine step_append_F (by rfl) (.tmp 37) (.tmp 39) (by rfl) w0 w0.heap.size ([] ++ []) (0 + 0) _ (by rfl) (by rfl) (by first | exact hown1 | exact hown1.alloc _) (by first | assumption | exact below_alloc (by assumption) _ | exact Below.drew (by assumption) | exact Below.drew (below_alloc (by assumption) _) | exact Below.drew (below_alloc (below_alloc (by assumption) _) _)) [f] 1 _ _ (by rfl) (by rfl) (fun h => by cases h) (fun b hb => by cases hb; exact newsF (by first | exact new_at (by simp) | exact newer_at hg1 (by rfl) (by intro e; injection e with e; dsimp only at e; omega) | exact older_at hg1 (by rfl) (by intro e; injection e with e; dsimp only at e; omega))) (by omega) (Below.size (by first | assumption | exact below_alloc (by assumption) _ | exact Below.drew (by assumption) | exact Below.drew (below_alloc (by assumption) _) | exact Below.drew (below_alloc (below_alloc (by assumption) _) _))) ?_); intro v2 w7 hown2 hB7 hg2)
            | ((refine step_append_F (by rfl) (.tmp 40) (.tmp 43) (by rfl) w0 w0.heap.size ([] ++ [] ++ [f]) (0 + 0 + 1) _ (by rfl) (by rfl) hown2 (by first | assumption | exact below_alloc (by assumption) _ | exact Below.drew (by assumption) | exact Below.drew (below_alloc (by assumption) _) | exact Below.drew (below_alloc (below_alloc (by assumption) _) _)) [] 0 _ _ (by rfl) (by rfl) (fun _ => rfl) (fun b hb => by cases hb) (by omega) (Below.size (by first | assumption | exact below_alloc (by assumption) _ | exact Below.drew (by assumption) | exact Below.drew (below_alloc (by assumption) _) | exact Below.drew (below_alloc (below_alloc (by assumption) _) _))) ?_); intro v3 w8 hown3 hB8 hg3))
        all_goals
          go_wp2
          go_ret
          obtain ⟨A', c', rfl, hcap, hC'⟩ := ownsRow_C' (by rfl) hown3 (by simp)
          rw [HE.out]
          exact ⟨A', c', rfl, hcap, hC', HB0.out.trans (hB8.mono HB0.out.size)⟩
      | some ad =>
        have HKE := Lib.hid hkeq
        clear hkeq
        have hkc : (k : Int) ≤ (c : Int) := by omega
        have hkl' : (k : Int) ≤ (l.length : Int) := by omega
        have hlc' : (l.length : Int) ≤ (c : Int) := by omega
        go_upto_region 6 with (fail)
        go_region_held3 (fun w' => w'.cell? ⟨w.heap.size, 0, none⟩ = some (.int .i64 f.f0) ∧ w'.cell? ⟨w.heap.size, 1, none⟩ = some (.int .i64 f.f1) ∧ w'.cell? ⟨w.heap.size, 2, none⟩ = some (.int .i64 f.f2)) (first | go_keep | exact ⟨cell_later (by first | assumption | exact below_alloc (by assumption) _ | exact Below.drew (by assumption) | exact Below.drew (below_alloc (by assumption) _) | exact Below.drew (below_alloc (below_alloc (by assumption) _) _)) G0.out, cell_later (by first | assumption | exact below_alloc (by assumption) _ | exact Below.drew (by assumption) | exact Below.drew (below_alloc (by assumption) _) | exact Below.drew (below_alloc (below_alloc (by assumption) _) _)) G1.out, cell_later (by first | assumption | exact below_alloc (by assumption) _ | exact Below.drew (by assumption) | exact Below.drew (below_alloc (by assumption) _) | exact Below.drew (below_alloc (below_alloc (by assumption) _) _)) G2.out⟩)
          (first
            | ((refine step_append_F (by rfl) (.tmp 33) (.tmp 36) (by rfl) w0 w0.heap.size [] 0 _ (by rfl) (by rfl) (by first | exact own0 (by (try simp only [World.size_alloc]); have hq := hB5.size; omega) (by simp) | exact (own0 (by (try simp only [World.size_alloc]); have hq := hB5.size; omega) (by simp)).alloc _) (by first | assumption | exact below_alloc (by assumption) _ | exact Below.drew (by assumption) | exact Below.drew (below_alloc (by assumption) _) | exact Below.drew (below_alloc (below_alloc (by assumption) _) _)) (l.take k) k _ _ (by rfl) (by simp; omega) (fun h => by cases h) (fun b hb j u hu => by cases hb; exact C_cellsF (Kd.C_below HC.out (by first | assumption | exact below_alloc (by assumption) _ | exact Below.drew (by assumption) | exact Below.drew (below_alloc (by assumption) _) | exact Below.drew (below_alloc (below_alloc (by assumption) _) _))) j u (takeF hu)) (by omega) (Below.size (by first | assumption | exact below_alloc (by assumption) _ | exact Below.drew (by assumption) | exact Below.drew (below_alloc (by assumption) _) | exact Below.drew (below_alloc (below_alloc (by assumption) _) _))) ?_); intro v1 w6 hown1 hB6 hg1; change World.grownBy _ _ (some _) at hg1)
            | ((refine step_append_F (by rfl) (.tmp 37) (.tmp 39) (by rfl) w0 w0.heap.size ([] ++ l.take k) (0 + k) _ (by rfl) (by simp; omega) (by first | exact hown1 | exact hown1.alloc _) (by first | assumption | exact below_alloc (by assumption) _ | exact Below.drew (by assumption) | exact Below.drew (below_alloc (by assumption) _) | exact Below.drew (below_alloc (below_alloc (by assumption) _) _)) [f] 1 _ _ (by rfl) (by rfl) (fun h => by cases h) (fun b hb => by cases hb; exact newsF (by first | exact new_at (by simp) | exact newer_at hg1 (by rfl) (by intro e; injection e with e; dsimp only at e; omega) | exact older_at hg1 (by rfl) (by intro e; injection e with e; dsimp only at e; omega))) (by omega) (Below.size (by first | assumption | exact below_alloc (by assumption) _ | exact Below.drew (by assumption) | exact Below.drew (below_alloc (by assumption) _) | exact Below.drew (below_alloc (below_alloc (by assumption) _) _))) ?_); intro v2 w7 hown2 hB7 hg2)
            | ((refine step_append_F (by rfl) (.tmp 40) (.tmp 43) (by rfl) w0 w0.heap.size ([] ++ l.take k ++ [f]) (0 + k + 1) _ (by rfl) (by simp; omega) hown2 (by first | assumption | exact below_alloc (by assumption) _ | exact Below.drew (by assumption) | exact Below.drew (below_alloc (by assumption) _) | exact Below.drew (below_alloc (below_alloc (by assumption) _) _)) [] _ _ _ (by rfl) (by have := HKE.out; simp; omega) (fun _ => by have := HKE.out; omega) (fun b hb j u hu => by cases hu) (by omega) (Below.size (by first | assumption | exact below_alloc (by assumption) _ | exact Below.drew (by assumption) | exact Below.drew (below_alloc (by assumption) _) | exact Below.drew (below_alloc (below_alloc (by assumption) _) _))) ?_); intro v3 w8 hown3 hB8 hg3))
        all_goals
          go_wp2
          all_goals
            go_ret
            obtain ⟨A', c', rfl, hcap, hC'⟩ := ownsRow_C' (by have := HKE.out; simp; omega) hown3 (by have := HKE.out; simp; omega)
            rw [HE.out]
            exact ⟨A', c', rfl, hcap, hC', HB0.out.trans (hB8.mono HB0.out.size)⟩
end Go.Proofs.Ytoakelgcbbbieaa
