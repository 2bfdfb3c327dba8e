/- slices.Compact of a row of faults, walked: the row cut to its faults without twins beside one another. -/
import Derived.Test.YtoakelgcbbbieaaSd
import Derived.Test.YtoakelgcbbbieaaSg
import Derived.Test.YtoakelgcbbbieaaWEqStruct
import Derived.Lib.SlicesCompact
import Derived.Lib.SliceRun
import Derived.Deep.LoopGhost
import Derived.Shelf.RegionOpenPlain
import Derived.Shelf.SlSortCmp.InsertionK
namespace Go.Proofs.Ytoakelgcbbbieaa
open Go.RowKit Go.Maps Go.Shelf Go.Lib Go.Sort Go.Proofs.YtoakelgcbbbieaaW.PrintWords Go.Proofs.YtoakelgcbbbieaaW.PrintLast Go.Proofs.YtoakelgcbbbieaaW.PrintMore
set_option linter.unusedVariables false
set_option linter.unusedSimpArgs false
set_option maxRecDepth 100000

theorem setMany_one (d : Array S113) (k : Nat) (x : S113) (hk : k < d.size) : setMany (flatK fCells 3 d) (k * 3) (fCells x) = flatK fCells 3 (d.setIfInBounds k x) := by
  refine ext_get! (by simp) fun t ht => ?_
  have ht' : t < d.size * 3 := by simpa using ht
  rw [get_setMany _ _ _ t (by simpa using ht'), get_flatK _ _ _ t ht', get_flatK _ _ _ t (by simpa using ht')]
  have hl : (fCells x).length = 3 := rfl
  rw [hl]
  by_cases a : t / 3 = k
  · rw [if_pos ((blk_iff 3 k t (by omega)).2 a), a, getElem!_set_same d k x hk]
    congr 1
    omega
  · rw [if_neg (fun h => a ((blk_iff 3 k t (by omega)).1 h)), getElem!_set_other d k _ x a]

theorem fHolds_set {W : World} {blk off k : Nat} {d : Array S113} (h : HoldsK fCells 3 W blk off d) (hk : k < d.size) (x : S113) :
    HoldsK fCells 3 (W.setCells blk (off + k * 3) (fCells x)) blk off (d.setIfInBounds k x) := by
  have := holds_setCells_c h (k * 3) (fCells x) (by rw [size_flatK]; show k * 3 + 3 ≤ _; omega)
  rw [setMany_one d k x hk] at this
  exact this

theorem f_equal (d : Nat) (w : World) (x0 y0 : Int) (x1 y1 : Int) (x2 y2 : Int) :
    (Op.equalIn (d + 2) 113 (.agg #[.int .i64 x0, .int .i64 x1, .int .i64 x2]) (.agg #[.int .i64 y0, .int .i64 y1, .int .i64 y2])).run Try.prog w = .ok (x0 == y0 && (x1 == y1 && (x2 == y2))) w := by
  refine eqA_of Try.underlying113 (by kernel_rfl) ?_
  refine eqf_cons (by rfl) (by go_simp; rfl) (by go_simp; rfl) (by go_simp) ?_
  refine eqf_cons (by rfl) (by go_simp; rfl) (by go_simp; rfl) (by go_simp) ?_
  exact eqf_last (by rfl) (by go_simp; rfl) (by go_simp; rfl) (by go_simp)

theorem f_beq (x y : S113) : (x.f0 == y.f0 && (x.f1 == y.f1 && (x.f2 == y.f2))) = decide (x = y) := by
  by_cases h : x = y
  · subst h; simp
  · rw [decide_eq_false h]
    refine Bool.eq_false_iff.2 fun h' => h ?_
    simp only [Bool.and_eq_true, beq_iff_eq] at h'
    cases x; cases y
    simp only at h'
    obtain ⟨h0, h1, h2⟩ := h'
    rw [h0, h1, h2]

theorem f_eq (x y : S113) (w : World) : (Op.equalIn 10000 113 (fAgg x) (fAgg y)).run Try.prog w = .ok (decide (x = y)) w := by
  rw [← f_beq]
  exact f_equal 9998 w _ _ _ _ _ _

theorem fCell {W : World} {blk off : Nat} {d : Array S113} (h : HoldsK fCells 3 W blk off d) {i : Nat} (hi : i < d.size) :
    W.cell? ⟨blk, off + i * 3, none⟩ = some (.int .i64 d[i]!.f0) ∧ W.cell? ⟨blk, off + i * 3 + 1, none⟩ = some (.int .i64 d[i]!.f1) ∧ W.cell? ⟨blk, off + i * 3 + 2, none⟩ = some (.int .i64 d[i]!.f2) :=
  ⟨(h.cell (c := 0) hi (by omega)).1, (h.cell (c := 1) hi (by omega)).1, (h.cell (c := 2) hi (by omega)).1⟩

theorem fFree {W : World} {blk off : Nat} {d : Array S113} (h : HoldsK fCells 3 W blk off d) {i : Nat} (hi : i < d.size) :
    W.frozen? ⟨blk, off + i * 3, none⟩ = false ∧ W.frozen? ⟨blk, off + i * 3 + 1, none⟩ = false ∧ W.frozen? ⟨blk, off + i * 3 + 2, none⟩ = false :=
  ⟨(h.cell (c := 0) hi (by omega)).2, (h.cell (c := 1) hi (by omega)).2, (h.cell (c := 2) hi (by omega)).2⟩

theorem f_store {W : World} {blk off : Nat} {d : Array S113} (h : HoldsK fCells 3 W blk off d) {k : Nat} (hk : k < d.size) (x : S113) :
    Sem.run Try.prog (storeCells ⟨blk, off + k * 3, none⟩ (fCells x) 0) W = .ok () (W.setCells blk (off + k * 3) (fCells x)) :=
  stores_of_holds Try.prog h (k * 3) (fCells x) (by rw [size_flatK]; show k * 3 + 3 ≤ _; omega) (by intro v hv; simp [fCells] at hv; rcases hv with rfl | rfl | rfl <;> rfl)

/-- 'clear' of a row of n > 0 faults. -/
theorem f_clear {W : World} {blk off : Nat} {d : Array S113} (h : HoldsK fCells 3 W blk off d) {k n : Nat} (hn : 0 < n) (hk : k + n ≤ d.size) (c : Nat) (ty : TypeId) :
    (Builtin.clear_ #[107] ty #[.slice (some ⟨blk, off + k * 3, none⟩) n c]).run Try.prog W = .ok (.tuple #[]) (W.setCells blk (off + k * 3) (List.replicate (n * 3) (.int .i64 0))) := by
  have hzc : (Builtin.zeroCells (Value.agg #[.int .i64 0, .int .i64 0, .int .i64 0]).cells n).toList = List.replicate (n * 3) (.int .i64 0) := by
    simp [Builtin.zeroCells, Value.cells]
    apply List.ext_getElem
    · simp
    · intro i h1 h2
      simp
      have : i % 3 < 3 := Nat.mod_lt _ (by omega)
      have h3 : i % 3 = 0 ∨ i % 3 = 1 ∨ i % 3 = 2 := by omega
      rcases h3 with h3 | h3 | h3 <;> simp [h3]
  have hst := stores_of_holds Try.prog h (k * 3) (List.replicate (n * 3) (.int .i64 0)) (by rw [size_flatK]; simp; omega) (by intro v hv; rw [List.eq_of_mem_replicate hv]; rfl)
  have hv := Try.zeroValue113
  obtain ⟨m, rfl⟩ : ∃ m, n = m + 1 := ⟨n - 1, by omega⟩
  simp [Builtin.clear_, run_underlying Try.underlying107, hv, hzc, hst]

/-- The faults of a list, one behind the other. -/
def RowF (W : World) (blk off : Nat) (L : List S113) : Prop := ∀ j p, L[j]? = some p → W.cell? ⟨blk, off + j * 3, none⟩ = some (.int .i64 p.f0) ∧ W.cell? ⟨blk, off + j * 3 + 1, none⟩ = some (.int .i64 p.f1) ∧ W.cell? ⟨blk, off + j * 3 + 2, none⟩ = some (.int .i64 p.f2)

theorem RowF_holds {W : World} {blk off : Nat} {dk : Array S113} (h : HoldsK fCells 3 W blk off dk) {L : List S113} (hl : L.length ≤ dk.size) (hL : ∀ j, j < L.length → L[j]? = some dk[j]!) : RowF W blk off L := by
  intro j p hp
  have hj := (List.getElem?_eq_some_iff.1 hp).1
  have := hL j hj
  rw [hp] at this
  cases this
  exact fCell h (by omega)

theorem RowF_cut {W : World} {blk off : Nat} {dk : Array S113} (h : HoldsK fCells 3 W blk off dk) {L : List S113} (hl : L.length < dk.size) (hL : ∀ j, j < L.length → L[j]? = some dk[j]!) : RowF (W.setCells blk (off + L.length * 3) (List.replicate ((dk.size - L.length) * 3) (.int .i64 0))) blk off L := by
  have hS := holds_setCells_c h (L.length * 3) (List.replicate ((dk.size - L.length) * 3) (.int .i64 0)) (by rw [size_flatK]; simp; omega)
  intro j p hp
  have hj := (List.getElem?_eq_some_iff.1 hp).1
  have hp' := hL j hj
  rw [hp] at hp'
  cases hp'
  have one : ∀ c, c < 3 → (W.setCells blk (off + L.length * 3) (List.replicate ((dk.size - L.length) * 3) (.int .i64 0))).cell? ⟨blk, off + (j * 3 + c), none⟩ = some (fCells dk[j]!)[c]! := by
    intro c hc
    have h3 := (hS (j * 3 + c) (by rw [size_setMany, size_flatK]; omega)).1
    rw [get_setMany _ _ _ _ (by rw [size_flatK]; omega), if_neg (by omega), get_flatK _ _ _ _ (by omega), show (j * 3 + c) / 3 = j by omega, show (j * 3 + c) % 3 = c by omega] at h3
    exact h3
  exact ⟨one 0 (by omega), one 1 (by omega), one 2 (by omega)⟩

theorem below_setCellsF {B : Nat} {a : World} {b : Nat} (hb : B ≤ b) : ∀ (vs : List Value) (o : Nat) {w : World}, Below B a w → Below B a (w.setCells b o vs)
  | [], _, _, h => h
  | v :: r, o, _, h => below_setCellsF hb r (o + 1) (h.setCell (p := ⟨b, o, none⟩) hb v)

set_option maxHeartbeats 4000000 in
theorem Compact_calls (n0 blk off cap : Nat) (hb0 : n0 ≤ blk) (d : Array S113) (w : World) (hH : HoldsK fCells 3 w blk off d) (hsz : d.size ≤ 1000000) (hcap : d.size ≤ cap) (hcm : cap ≤ maxLen) :
    Calls Try.prog 91 #[.slice (some ⟨blk, off, none⟩) d.size cap] w fun e w' => e = .returned (.slice (some ⟨blk, off, none⟩) (compactUpTo d d.size).length cap) ∧ Below n0 w w' ∧ RowF w' blk off (compactUpTo d d.size) := by
  have same : (∀ j, j < d.size → keeps d j = true) → compactUpTo d d.size = d.toList := by
    intro hall
    rw [compactUpTo_all d _ hall, range_map_get]
  have HS : Aside ((∀ j, j < d.size → keeps d j = true) → compactUpTo d d.size = d.toList) := same
  clear same
  have mixed : Try.prog.follows .mixedOrders = true := by kernel_rfl
  by_cases h2 : d.size < 2
  · have HH : Aside (HoldsK fCells 3 w blk off d) := hH
    clear hH
    go_enter Try.func91, Try.ntmps91
    go_wp2
    go_ret
    have e1 := HS.out (fun j hj => keeps_lt_one d j (by omega))
    refine ⟨by rw [e1]; rfl, Below.refl _ _, RowF_holds HH.out (by rw [e1]; simp) (fun j hj => ?_)⟩
    rw [e1] at hj ⊢
    have hj' : j < d.size := by simpa using hj
    rw [getElem!_pos d j hj']
    simp [hj']
  · go_enter Try.func91, Try.ntmps91
    go_wp2
    go_loopg [3] d.size (fun g s3 wr => ∃ k : Nat, 1 ≤ k ∧ k ≤ d.size ∧ d.size - k ≤ g ∧ s3 = .int .i64 k ∧ HoldsK fCells 3 wr blk off d ∧ Below n0 w wr ∧ ∀ j, j < k → keeps d j = true)
    case atStart => exact ⟨1, Nat.le_refl _, by omega, by omega, rfl, hH, Below.refl _ _, keeps_lt_one d⟩
    case round =>
      obtain ⟨k, hk1, hk, hg, rfl, hHr, hBr, hall⟩ := hrel
      clear hH
      by_cases hlt : k < d.size
      · obtain ⟨k', rfl⟩ : ∃ k', k = k' + 1 := ⟨k - 1, by omega⟩
        obtain ⟨c1, c2, c3⟩ := fCell hHr hlt
        obtain ⟨p1, p2, p3⟩ := fCell hHr (show k' < d.size by omega)
        have A : Aside (∀ j, j < k' + 1 → keeps d j = true) := hall
        have HH : Aside (HoldsK fCells 3 wr blk off d) := hHr
        have HB : Aside (Below n0 w wr) := hBr
        clear hall hHr hBr
        generalize hx : d[k' + 1]! = x at c1 c2 c3
        generalize hy : d[k']! = y at p1 p2 p3
        have B : Aside (d[k' + 1]! = x ∧ d[k']! = y) := ⟨hx, hy⟩
        clear hx hy
        have hwp : IntKind.i64.wrap (k' : Int) = (k' : Int) := by rw [IntKind.wrap_i64]; omega
        have e0 : ((k' : Int) + 1).toNat = k' + 1 := by omega
        have p0 : (0 : Int) ≤ (k' : Int) + 1 := by omega
        have hE : ∀ w, (Op.equalIn 10000 113 (.agg #[.int .i64 x.f0, .int .i64 x.f1, .int .i64 x.f2]) (.agg #[.int .i64 y.f0, .int .i64 y.f1, .int .i64 y.f2])).run Try.prog w = .ok (decide (x = y)) w := fun w => f_eq x y w
        by_cases hdup : x = y
        · rw [decide_eq_true hdup] at hE
          go_wp2_with fail
          go_region_o
          go_wp2
          clear c1 c2 c3 p1 p2 p3 hE
          go_loopg [3, 5] d.size (fun g s3 s5 wr => ∃ (kk k2 : Nat) (dk : Array S113), s3 = .int .i64 kk ∧ s5 = .int .i64 k2 ∧ 1 ≤ k2 ∧ k' + 1 + k2 ≤ d.size ∧ d.size - (k' + 1 + k2) ≤ g ∧ HoldsK fCells 3 wr blk off dk ∧ Below n0 w wr ∧ CompInv d (k' + 1 + k2) kk dk)
          case atStart => exact ⟨k' + 1, 1, d, rfl, rfl, Nat.le_refl _, by omega, by omega, HH.out, HB.out.drew, CompInv.start A.out (keeps_neg (by omega) (by rw [B.out.1, show k' + 1 - 1 = k' from rfl, B.out.2, hdup]))⟩
          case round =>
            obtain ⟨kk, k2, dk, rfl, rfl, h1, hle, hg2, hHk, hBk, hI⟩ := hrel
            have hkk := hI.lt
            have hds := hI.size
            have H2 : Aside (HoldsK fCells 3 wr blk off dk) := hHk
            have B2 : Aside (Below n0 w wr) := hBk
            have I2 : Aside (CompInv d (k' + 1 + k2) kk dk) := hI
            clear hBk
            by_cases hlt2 : k' + 1 + k2 < d.size
            · obtain ⟨k2', rfl⟩ : ∃ k2', k2 = k2' + 1 := ⟨k2 - 1, by omega⟩
              obtain ⟨u1, u2, u3⟩ := fCell hHk (show k' + 1 + (k2' + 1) < dk.size by omega)
              obtain ⟨v1, v2, v3⟩ := fCell hHk (show k' + 1 + k2' < dk.size by omega)
              obtain ⟨o1, o2, o3⟩ := fCell hHk (show kk < dk.size by omega)
              obtain ⟨q1, q2, q3⟩ := fFree hHk (show kk < dk.size by omega)
              rw [hI.high (k' + 1 + (k2' + 1)) (by omega), show off + (k' + 1 + (k2' + 1)) * 3 = off + (k' + 1) * 3 + (k2' + 1) * 3 by omega] at u1 u2 u3
              rw [hI.high (k' + 1 + k2') (by omega), show off + (k' + 1 + k2') * 3 = off + (k' + 1) * 3 + k2' * 3 by omega] at v1 v2 v3
              clear hHk hI
              generalize hu : d[k' + 1 + (k2' + 1)]! = u at u1 u2 u3
              generalize hv : d[k' + 1 + k2']! = v at v1 v2 v3
              generalize dk[kk]! = old at o1 o2 o3
              have C : Aside (d[k' + 1 + (k2' + 1)]! = u ∧ d[k' + 1 + k2']! = v) := ⟨hu, hv⟩
              clear hu hv
              have hwp2 : IntKind.i64.wrap (k2' : Int) = (k2' : Int) := by rw [IntKind.wrap_i64]; omega
              have e02 : ((k2' : Int) + 1).toNat = k2' + 1 := by omega
              have p02 : (0 : Int) ≤ (k2' : Int) + 1 := by omega
              have hE2 : ∀ w, (Op.equalIn 10000 113 (.agg #[.int .i64 u.f0, .int .i64 u.f1, .int .i64 u.f2]) (.agg #[.int .i64 v.f0, .int .i64 v.f1, .int .i64 v.f2])).run Try.prog w = .ok (decide (u = v)) w := fun w => f_eq u v w
              by_cases huv : u = v
              · rw [decide_eq_true huv] at hE2
                go_wp2_with fail
                go_region_o
                go_wp2
                go_roundg (d.size - (k' + 1 + (k2' + 1 + 1)))
                case measure => omega
                case rel => exact ⟨kk, k2' + 1 + 1, dk, rfl, by go_num, by omega, by omega, Nat.le_refl _, H2.out, B2.out.drew, I2.out.skip (keeps_neg (by omega) (by rw [C.out.1, show k' + 1 + (k2' + 1) - 1 = k' + 1 + k2' by omega, C.out.2, huv]))⟩
              · rw [decide_eq_false huv] at hE2
                go_wp2_with fail
                go_region_o
                go_wp2
                go_roundg (d.size - (k' + 1 + (k2' + 1 + 1)))
                case measure => omega
                case rel =>
                  refine ⟨kk + 1, k2' + 1 + 1, dk.setIfInBounds kk u, by go_num, by go_num, by omega, by omega, Nat.le_refl _, fHolds_set H2.out (by omega) u, (below_setCellsF hb0 (fCells u) (off + kk * 3) B2.out).drew, ?_⟩
                  have := I2.out.keep hlt2 (keeps_pos (by rw [C.out.1, show k' + 1 + (k2' + 1) - 1 = k' + 1 + k2' by omega, C.out.2]; exact huv))
                  rwa [C.out.1] at this
            · have hend : k' + 1 + k2 = d.size := by omega
              have hcl : ∀ ty, (Builtin.clear_ #[107] ty #[.slice (some ⟨blk, off + kk * 3, none⟩) (d.size - kk) (cap - kk)]).run Try.prog wr = .ok (.tuple #[]) (wr.setCells blk (off + kk * 3) (List.replicate ((d.size - kk) * 3) (.int .i64 0))) :=
                fun ty => f_clear hHk (by omega) (by omega) _ ty
              clear hHk hI
              go_wp2
              go_ret
              have hI := I2.out
              rw [hend] at hI
              have hlen := hI.len
              refine ⟨by rw [hlen]; rfl, below_setCellsF hb0 _ _ B2.out, ?_⟩
              have := RowF_cut H2.out (L := compactUpTo d d.size) (by omega) (fun j hj => hI.low j (by omega))
              rw [hlen, hI.size] at this
              exact this
        · rw [decide_eq_false hdup] at hE
          go_wp2_with fail
          go_region_o
          go_wp2
          go_roundg (d.size - (k' + 1 + 1))
          case measure => omega
          case rel =>
            refine ⟨k' + 1 + 1, by omega, by omega, Nat.le_refl _, by go_num, HH.out, HB.out.drew, fun j hj => ?_⟩
            by_cases e : j = k' + 1
            · subst e
              exact keeps_pos (by rw [B.out.1, show k' + 1 - 1 = k' from rfl, B.out.2]; exact hdup)
            · exact A.out j (by omega)
      · have : k = d.size := by omega
        subst this
        have HH : Aside (HoldsK fCells 3 wr blk off d) := hHr
        have HB : Aside (Below n0 w wr) := hBr
        have e1 := HS.out hall
        have E1 : Aside (compactUpTo d d.size = d.toList) := e1
        clear hHr hBr hall e1
        go_wp2
        go_ret
        refine ⟨by rw [E1.out]; rfl, HB.out, RowF_holds HH.out (by rw [E1.out]; simp) (fun j hj => ?_)⟩
        rw [E1.out] at hj ⊢
        have hj' : j < d.size := by simpa using hj
        rw [getElem!_pos d j hj']
        simp [hj']
end Go.Proofs.Ytoakelgcbbbieaa
