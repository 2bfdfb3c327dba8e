/- The statement LineBelow, walked: for any heads and any two numbers. -/
import Derived.Test.YtoakelgcbbbieaaZd
import Derived.Deep.RegionHeld3
namespace Go.Proofs.Ytoakelgcbbbieaa
open Go.RowKit Go.Maps Go.Shelf Go.Proofs.YtoakelgcbbbieaaW.PrintWords Go.Proofs.YtoakelgcbbbieaaW.PrintLast Go.Proofs.YtoakelgcbbbieaaW.PrintMore
set_option linter.unusedVariables false
set_option linter.unusedSimpArgs false
set_option maxRecDepth 100000
attribute [local go_sem] Oper.semAt_some
attribute [local go_sem ↓] Go.wp_at_zero Go.wp_at_succ

theorem But.setCell {n₀ b : Nat} {A B : World} (h : But n₀ b A B) (v : Value) : But n₀ b A (B.setCell ⟨b, 0, none⟩ v) :=
  h.trans ⟨rfl, rfl, rfl, by simp [World.setCell], fun k hk hne => Below.heap_setCell _ _ _ _ hne⟩
theorem res5 {tmps : Array Value} {W : World} {b : Nat} {v : Bool} (h : tmps.getD 6 undef = .pointer (some ⟨b, 0, none⟩)) (hc : W.cell? ⟨b, 0, none⟩ = some (.bool v)) : (results Try.f5 tmps).run Try.prog W = .ok (.bool v) W := by
  have h' : tmps[6]?.getD undef = .pointer (some ⟨b, 0, none⟩) := by simpa using h
  simp [results, Try.results5, h', go_sem, hc]
theorem below_putObj {B : Nat} {A W : World} (h : Below B A W) {D : Nat} (hD : B ≤ D) (o : Obj) : Below B A (W.putObj D o) :=
  h.trans ⟨rfl, rfl, rfl, by simp, fun k hk => World.putObj_heap_other (by omega)⟩
theorem cell_putObj {W : World} {D b : Nat} (o : Obj) (h : b ≠ D) : (W.putObj D o).cell? ⟨b, 0, none⟩ = W.cell? ⟨b, 0, none⟩ := World.cell?_of_block (World.putObj_heap_other h)
/-- the number in a box -/
def cellN (w : World) (b : Nat) : Nat := match w.cell? ⟨b, 0, none⟩ with | some (.int _ q) => q.toNat | _ => 0

theorem unders_mono {xs : List S124} {k : Int} : ∀ {a b : Nat}, a ≤ b → unders xs k a <+: unders xs k b := by
  intro a b h
  obtain ⟨d, rfl⟩ : ∃ d, b = a + d := ⟨b - a, by omega⟩
  clear h
  induction d with
  | zero => exact List.prefix_refl _
  | succ d ih =>
    refine List.IsPrefix.trans ih ?_
    rw [← Nat.add_assoc, unders_succ]
    split
    · exact List.prefix_append _ _
    · exact List.prefix_refl _
/-- behind the last of them there is none -/
theorem unders_none {xs : List S124} {k : Int} {N j L : Nat} (h : unders xs k N = unders xs k L) (h1 : N ≤ j) (h2 : j < L) : mP' xs k j = false := by
  cases hp : mP' xs k j with
  | false => rfl
  | true =>
    have e1 := (unders_mono (xs := xs) (k := k) h1).length_le
    have e2 := (unders_mono (xs := xs) (k := k) (show j + 1 ≤ L by omega)).length_le
    rw [unders_succ, if_pos hp, List.length_append, List.length_singleton] at e2
    rw [← h] at e2
    omega
/-- another one is no next one -/
theorem unders_not {xs : List S124} {k x : Int} {N L : Nat} (hN : N ≤ L) (h : L ≤ N ∨ (mP' xs k N = true ∧ x ≠ (N : Int))) : ¬ (unders xs k N ++ [x] <+: unders xs k L) := by
  intro hp
  rcases h with h | ⟨h1, h2⟩
  · obtain rfl : N = L := by omega
    have := hp.length_le
    simp at this
    omega
  · rcases Nat.eq_or_lt_of_le hN with rfl | hlt
    · have := hp.length_le
      simp at this
      omega
    · have h3 := unders_mono (xs := xs) (k := k) (show N + 1 ≤ L by omega)
      rw [unders_succ, if_pos h1] at h3
      have h4 := List.prefix_of_prefix_length_le hp h3 (by simp)
      have h5 := List.IsPrefix.eq_of_length h4 (by simp)
      have h6 := List.append_cancel_left h5
      injection h6 with h6
      exact h2 h6

theorem range_ints {F : Fence} {n : Nat} {P : Program} {g : Operand} {p q : Tmp} {assign body : Code} {Q : Exit → Act → World → Prop} {a : Act} {w : World}
    (hro : F.round = none) (h1 : 1 ≤ n) {gf : Nat} {lb : Array Value} (hg : a.eval g = .func (.func gf) #[] lb) (hFg : F.fn gf) (eg : ∀ args w, (callFunc gf args).run P w = .ok (.enter gf args) w)
    {Kp : World → World → Prop} {S Sp : List Int → Prop} {N : Nat} {w0 : World} (hseq : SeqStopsK F (n - 1) P gf lb (fun x : Int => #[Value.int .i64 x]) Kp S Sp N w0)
    (hKt : ∀ {A B C : World}, Kp A B → Kp B C → Kp A C) (hKb : ∀ (W : World) (l : Nat) (o o' : Obj), w.heap.size ≤ l → W.heap[l]? = some o → o.isCells = false → o.isWalk = false → Kp W (W.putObj l o')) (hb0 : Below w0.heap.size w0 w)
    (I : List Int → World → Prop) (Ix : Code → List Int → World → Prop) (hI : OwnFrom w.heap.size I) (hIx : ∀ c, OwnFrom w.heap.size (Ix c)) (h0 : I [] w)
    (hassign : ∀ (l : Nat) (x : Int) (W : World) (K : Act → World → Prop), K { tmps := (a.tmps.setIfInBounds p (.int .i64 x)).setIfInBounds q (.int .i64 x), defers := [] } W →
      assign.wpIn (F.inRound l) (n - 1 - 1) P (Exit.then K (fun _ _ _ => False)) { tmps := a.tmps.setIfInBounds p (.int .i64 x), defers := [] } W)
    (hbody : ∀ (l : Nat) (pre : List Int) (x : Int) (W : World), I pre W → pre.length < N → body.wpIn (F.inRound l) (n - 1 - 1) P (ownPostK Kp I Ix (pre ++ [x]) W) { tmps := (a.tmps.setIfInBounds p (.int .i64 x)).setIfInBounds q (.int .i64 x), defers := [] } W)
    (hdone : ∀ (D : Nat) (xs : List Int) (W : World), w.heap.size ≤ D → S xs → I xs W → W.heap[D]? = some (.deferred (some [])) → Q .normal { a with defers := { target := .collected D, args := #[] } :: a.defers } W)
    (hstop : ∀ (D : Nat) (c : Code) (pre : List Int) (W : World), w.heap.size ≤ D → Sp pre → Ix c pre W → W.heap[D]? = some (.deferred (some [])) → c.wpIn F n P Q { a with defers := { target := .collected D, args := #[] } :: a.defers } W) :
    (Code.rangeFunc g #[p] assign body).wpIn F n P Q a w :=
  wpIn_rangeFunc_ownF hro h1 hg hFg eg hseq hKt hKb hb0 (fun _ => rfl) I Ix hI hIx h0 (fun x => { tmps := (a.tmps.setIfInBounds p (.int .i64 x)).setIfInBounds q (.int .i64 x), defers := [] }) (fun l x W K hK => by simpa using hassign l x W K hK) hbody hdone hstop

set_option maxHeartbeats 1000000 in
theorem LineBelow_walk {w : World} {A : Option Addr} {n c : Nat} {hs : List S129} (h : Kd.C k129 w A n hs) (hn : ∀ x ∈ hs, okHead x) (i k : Int) :
    Calls Try.prog 5 #[.slice A n c, .int .i64 i, .int .i64 k] w fun e w' => e = .returned (.bool true) ∧ Below w.heap.size w w' := by
  have H := Lib.hid h
  have HN := Lib.hid hn
  clear h hn
  refine (callsIn_wide (n := 3)).1 ?_
  refine callsIn_of_wp_marks Try.func5 rfl trivial ?_ rfl
  simp only [Try.ntmps5, List.size_toArray, List.length_cons, List.length_nil, Nat.reduceAdd, Nat.reduceSub, Array.replicate_succ, Array.replicate_zero, List.push_toArray, List.append_toArray, List.nil_append, List.cons_append]
  refine wpIn_wide.2 ?_
  go_wp2_with fail
  obtain ⟨w0, hw0⟩ : ∃ w0, w0 = (w.alloc (.cells #[.int .i64 k] 3)).alloc (.cells #[.bool false] 4) := ⟨_, rfl⟩
  have hK5 : w0.heap[w.heap.size]? = some (.cells #[.int .i64 k] 3 (0, 0)) := by rw [hw0]; exact (Below.heap_alloc _ _ _ (by simp)).trans (heap_alloc_new w _)
  have hK6 : w0.heap[w.heap.size + 1]? = some (.cells #[.bool false] 4 (0, 0)) := by
    rw [hw0]
    have := heap_alloc_new (w.alloc (.cells #[.int .i64 k] 3)) (.cells #[.bool false] 4)
    rwa [World.size_alloc] at this
  have HK5 := Lib.hid hK5
  have HK6 := Lib.hid hK6
  have hs0 : w0.heap.size = w.heap.size + 2 := by rw [hw0]; simp
  have HS0 := Lib.hid hs0
  have HB0 := Lib.hid (show Below w.heap.size w w0 by rw [hw0]; exact ((Below.refl _ _).alloc (Nat.le_refl _) _).alloc (by simp) _)
  rw [← hw0]
  clear hw0 hK5 hK6 hs0
  refine (alive15_calls _).mono ?_
  rintro e w1 ⟨rfl, hb1⟩
  have HB1 := Lib.hid hb1
  clear hb1
  go_wp2_with fail
  refine (large15_calls (Kd.C_below H.out (HB0.out.trans (HB1.out.mono HB0.out.size)))).mono ?_
  rintro e w2 ⟨L, rfl, hL, hb2⟩
  have HB2 := Lib.hid (HB1.out.trans (hb2.mono HB1.out.size))
  have HL := Lib.hid hL
  clear hb2 hL
  have hc6 := (HB2.out.block (w.heap.size + 1) (by rw [HS0.out]; omega)).trans HK6.out
  cases L
  · have HC6 := Lib.hid hc6
    clear hc6
    go_wp2_with fail
    refine (Tables_calls (Kd.C_below H.out (HB0.out.trans (HB2.out.mono HB0.out.size))) (by have := HL.out trivial; omega) (fun x hx => ⟨(HN.out x hx).1, (HN.out x hx).2.1⟩)).mono ?_
    rintro e w3 ⟨tb, R, d, rfl, hT, hd, hR, hb3⟩
    have HT := Lib.hid hT
    have HR := Lib.hid hR
    have hlen : (rentsH hs).length ≤ 9223372036854775807 := C_max hR
    have HB3 := Lib.hid (HB2.out.trans (hb3.mono HB2.out.size))
    clear hT hR hb3 HC6
    have hB5 : w3.heap[w.heap.size]? = some (.cells #[.int .i64 k] 3 (0, 0)) := (HB3.out.block _ (by rw [HS0.out]; omega)).trans HK5.out
    have hc5 := (cell_blk hB5 0).trans rfl
    go_wp2_with fail
    obtain ⟨w4, hw4⟩ : ∃ w4, w4 = w3.alloc (.cells #[.slice R (rentsH hs).length d] 26) := ⟨_, rfl⟩
    obtain ⟨w5, hw5⟩ : ∃ w5, w5 = w4.alloc (.cells #[.int .i64 i, .int .i64 0, .int .i64 1] 3) := ⟨_, rfl⟩
    have HK8 := Lib.hid (show w5.heap[w3.heap.size]? = some (.cells #[.slice R (rentsH hs).length d] 26 (0, 0)) by
      rw [hw5, hw4]; exact (Below.heap_alloc _ _ _ (by simp)).trans (heap_alloc_new w3 _))
    have HKL := Lib.hid (show w5.heap[w3.heap.size + 1]? = some (.cells #[.int .i64 i, .int .i64 0, .int .i64 1] 3 (0, 0)) by
      rw [hw5]
      have := heap_alloc_new w4 (.cells #[.int .i64 i, .int .i64 0, .int .i64 1] 3)
      rwa [show w4.heap.size = w3.heap.size + 1 by rw [hw4]; simp] at this)
    have HB4 := Lib.hid (show Below w3.heap.size w3 w5 by rw [hw5, hw4]; exact ((Below.refl _ _).alloc (Nat.le_refl _) _).alloc (by simp) _)
    rw [← hw4, ← hw5]
    clear hw4 hw5 hc5
    have HB5 := Lib.hid hB5
    clear hB5
    go_loopw [30] (fun v30 wr => ∃ j : Nat, j ≤ 3 ∧ v30 = .int .i64 j ∧ Hid (Below w5.heap.size w5 wr)) (fun v30 wr => 3 - (intOf v30).toNat)
    case atStart => exact ⟨0, by omega, rfl, Below.refl _ _⟩
    case round =>
      obtain ⟨j, hj, rfl, hBr⟩ := hrel
      by_cases hlt : j < 3
      · obtain ⟨x, hx⟩ : ∃ x : Int, wr.cell? ⟨w3.heap.size + 1, j, none⟩ = some (.int .i64 x) := by
          match j, hlt with
          | 0, _ => exact ⟨i, cell_later hBr.out ((cell_blk HKL.out 0).trans rfl)⟩
          | 1, _ => exact ⟨0, cell_later hBr.out ((cell_blk HKL.out 1).trans rfl)⟩
          | 2, _ => exact ⟨1, cell_later hBr.out ((cell_blk HKL.out 2).trans rfl)⟩
        have hc5 := (cell_blk (((HB4.out.trans (hBr.out.mono HB4.out.size)).block _ (Array.getElem?_eq_some_iff.1 HB5.out).1).trans HB5.out) 0).trans rfl
        go_wp2_with fail
        obtain ⟨w6, hw6⟩ : ∃ w6, w6 = wr.alloc (.cells #[.int .i64 k, .int .i64 1, .int .i64 2] 3) := ⟨_, rfl⟩
        have HK9 := Lib.hid (show w6.heap[wr.heap.size]? = some (.cells #[.int .i64 k, .int .i64 1, .int .i64 2] 3 (0, 0)) by rw [hw6]; exact heap_alloc_new wr _)
        have HB6 := Lib.hid (show Below w5.heap.size w5 w6 by rw [hw6]; exact hBr.out.alloc hBr.out.size _)
        rw [← hw6]
        clear hw6 hc5 hx
        obtain ⟨b9, hb9⟩ : ∃ b, b = wr.heap.size := ⟨_, rfl⟩
        rw [← hb9] at HK9 ⊢
        clear hb9
        rw [decide_eq_true (show (j : Int) < 3 by omega)]
        go_loopw [37] (fun v37 wq => ∃ q : Nat, q ≤ 3 ∧ v37 = .int .i64 q ∧ Hid (Below w6.heap.size w6 wq)) (fun v37 wq => 3 - (intOf v37).toNat)
        case atStart => exact ⟨0, by omega, rfl, Below.refl _ _⟩
        case round =>
          obtain ⟨q, hq, rfl, hBq⟩ := hrel
          have HBq := Lib.hid (HB6.out.trans (hBq.out.mono HB6.out.size))
          have HT1 := Lib.hid (HT.out.later (HB4.out.trans (HBq.out.mono HB4.out.size)))
          have HR1 := Lib.hid (Kd.C_below HR.out (HB4.out.trans (HBq.out.mono HB4.out.size)))
          by_cases hlq : q < 3
          · obtain ⟨y, hy⟩ : ∃ y : Int, wr.cell? ⟨b9, q, none⟩ = some (.int .i64 y) := by
              match q, hlq with
              | 0, _ => exact ⟨k, cell_later hBq.out ((cell_blk HK9.out 0).trans rfl)⟩
              | 1, _ => exact ⟨1, cell_later hBq.out ((cell_blk HK9.out 1).trans rfl)⟩
              | 2, _ => exact ⟨2, cell_later hBq.out ((cell_blk HK9.out 2).trans rfl)⟩
            have hc8 : wr.cell? ⟨w3.heap.size, 0, none⟩ = some (.slice R (rentsH hs).length d) := cell_later HBq.out ((cell_blk HK8.out 0).trans rfl)
            cases hbl : belowB (entsH hs) x y
            all_goals
              have HBL := Lib.hid hbl
              clear hbl
              cases hmo : meetOf (entsH hs) x y
              all_goals
                have HMO := Lib.hid hmo
                clear hmo
                go_wp2_with fail
                go_region_held3 (fun w' => w'.cell? ⟨w3.heap.size, 0, none⟩ = some (.slice R (rentsH hs).length d)) (first | go_keep | exact cell_later (by assumption) (by assumption))
                  (first
                    | (go_at_call 26; refine (Below_calls (HT1.out.later (below_drew (Below.refl _ _))) x y).mono ?_; rintro e w7 ⟨rfl, hb7⟩; rw [HBL.out])
                    | (go_at_call 27; refine (RBelow_calls (Kd.C_below HR1.out ((below_drew (Below.refl _ _)).trans hb7)) (Ag_heads hs) (by rw [entsH_len]; have := HL.out trivial; omega) x y).mono ?_; rintro e w8 ⟨rfl, hb8⟩; rw [HBL.out]))
                have HB8 := Lib.hid (show Below wr.heap.size wr w8 from (below_drew (Below.refl _ _)).trans (hb7.trans (hb8.mono hb7.size)))
                have HC8 := Lib.hid (cell_later HB8.out hc8)
                clear hb7 hb8
                go_wp2_with fail
                refine (Meet_calls (HT1.out.later HB8.out) x y).mono ?_
                rintro e w9 ⟨rfl, hb9⟩
                rw [HMO.out]
                have HB9 := Lib.hid (HB8.out.trans (hb9.mono HB8.out.size))
                have hc9 := cell_later hb9 HC8.out
                clear hb9
                go_wp2_with fail
                refine (RMeet_calls (Kd.C_below HR1.out HB9.out) (Ag_heads hs) (by rw [entsH_len]; have := HL.out trivial; omega) x y).mono ?_
                rintro e w10 ⟨rfl, hb10⟩
                rw [HMO.out]
                simp only [optI]
                have HB10 := Lib.hid (HBq.out.trans ((HB9.out.trans (hb10.mono HB9.out.size)).mono HBq.out.size))
                have HBI := Lib.hid (hBq.out.trans ((HB9.out.trans (hb10.mono HB9.out.size)).mono hBq.out.size))
                clear hb10 hc9
                go_wp2
                go_roundw
                case rel => exact ⟨q + 1, by omega, by go_num, HBI.out⟩
                case measure => simp [intOf]; omega
          · go_wp2
            go_roundw
            case rel => exact ⟨j + 1, by omega, by go_num, HBq.out⟩
            case measure => simp [intOf]; omega
      · have hc5 := (cell_blk (((HB4.out.trans (hBr.out.mono HB4.out.size)).block _ (Array.getElem?_eq_some_iff.1 HB5.out).1).trans HB5.out) 0).trans rfl
        have HT1 := Lib.hid (HT.out.later (HB4.out.trans (hBr.out.mono HB4.out.size)))
        have HR1 := Lib.hid (Kd.C_below HR.out (HB4.out.trans (hBr.out.mono HB4.out.size)))
        have hc8 : wr.cell? ⟨w3.heap.size, 0, none⟩ = some (.slice R (rentsH hs).length d) := cell_later hBr.out ((cell_blk HK8.out 0).trans rfl)
        have HC5 := Lib.hid (show wr.cell? ⟨w.heap.size, 0, none⟩ = some (.int .i64 k) from hc5)
        have HC8 := Lib.hid hc8
        clear hc5 hc8
        go_upto_region 21 with (fail)
        obtain ⟨w11, hw11⟩ : ∃ w11, w11 = wr.alloc (.cells #[.int .i64 0] 3) := ⟨_, rfl⟩
        have HB11 := Lib.hid (show Below wr.heap.size wr w11 by rw [hw11]; exact (Below.refl _ _).alloc (Nat.le_refl _) _)
        have HKN := Lib.hid (show w11.heap[wr.heap.size]? = some (.cells #[.int .i64 0] 3 (0, 0)) by rw [hw11]; exact heap_alloc_new wr _)
        have HS11 := Lib.hid (show w11.heap.size = wr.heap.size + 1 by rw [hw11]; simp)
        rw [← hw11]
        clear hw11
        have hc5 := cell_later HB11.out HC5.out
        go_wp2_with fail
        refine (Under_calls (some ⟨tb, 0, none⟩) k).mono ?_
        rintro e w12 ⟨rfl, hw12⟩
        have HKT := Lib.hid (show w12.heap[w11.heap.size]? = some (.cells #[.pointer (some ⟨tb, 0, none⟩)] 25 (0, 0)) by rw [hw12]; exact (Below.heap_alloc _ _ _ (by simp)).trans (heap_alloc_new w11 _))
        have HKK := Lib.hid (show w12.heap[w11.heap.size + 1]? = some (.cells #[.int .i64 k] 3 (0, 0)) by
          rw [hw12]
          have := heap_alloc_new (w11.alloc (.cells #[.pointer (some ⟨tb, 0, none⟩)] 25)) (.cells #[.int .i64 k] 3)
          rwa [World.size_alloc] at this)
        have HB12 := Lib.hid (show Below w11.heap.size w11 w12 by rw [hw12]; exact ((Below.refl _ _).alloc (Nat.le_refl _) _).alloc (by simp) _)
        have HS12 := Lib.hid (show w12.heap.size = w11.heap.size + 2 by rw [hw12]; simp)
        clear hw12 hc5
        have e12 : Below wr.heap.size wr w12 := HB11.out.trans (HB12.out.mono HB11.out.size)
        have l12 : wr.heap.size < w12.heap.size := by rw [HS12.out, HS11.out]; omega
        have HBW := Lib.hid (show ∀ W, But w12.heap.size wr.heap.size w12 W → Below wr.heap.size wr W from fun W h => e12.trans (h.below (Nat.le_of_lt l12) (Nat.le_refl _)))
        have HTW := Lib.hid (show ∀ W, But w12.heap.size wr.heap.size w12 W → Tab W tb (entsH hs) (mainOf (entsH hs)) from fun W h => HT1.out.later (HBW.out W h))
        have HRW := Lib.hid (show ∀ W, But w12.heap.size wr.heap.size w12 W → Kd.C k145 W R (rentsH hs).length (rentsH hs) from fun W h => Kd.C_below HR1.out (HBW.out W h))
        have HCW := Lib.hid (show ∀ W, But w12.heap.size wr.heap.size w12 W → W.cell? ⟨w3.heap.size, 0, none⟩ = some (.slice R (rentsH hs).length d) ∧ W.cell? ⟨w.heap.size, 0, none⟩ = some (.int .i64 k) from fun W h => ⟨cell_later (HBW.out W h) HC8.out, cell_later (HBW.out W h) HC5.out⟩)
        have hww : Below w.heap.size w wr := HB0.out.trans ((HB3.out.trans ((HB4.out.trans (hBr.out.mono HB4.out.size)).mono HB3.out.size)).mono HB0.out.size)
        have HWW := Lib.hid (show ∀ W, But w12.heap.size wr.heap.size w12 W → Below w.heap.size w W ∧ W.heap[w.heap.size + 1]? = some (.cells #[.bool false] 4 (0, 0)) from fun W h => ⟨hww.trans ((HBW.out W h).mono hww.size), by
          have h1 := HB3.out.trans ((HB4.out.trans (hBr.out.mono HB4.out.size)).mono HB3.out.size)
          have h2 := h1.block (w.heap.size + 1) (by rw [HS0.out]; omega)
          have h3 := (HBW.out W h).block (w.heap.size + 1) (by have := h1.size; rw [HS0.out] at this; omega)
          exact h3.trans (h2.trans HK6.out)⟩)
        have HNC := Lib.hid (show w12.cell? ⟨wr.heap.size, 0, none⟩ = some (.int .i64 0) ∧ w12.frozen? ⟨wr.heap.size, 0, none⟩ = false by
          have h1 := (HB12.out.block wr.heap.size (by rw [HS11.out]; omega)).trans HKN.out
          exact ⟨(cell_blk h1 0).trans rfl, frozen_blk h1 0⟩)
        have HLE := Lib.hid l12
        have ht12 : w12.cell? ⟨w11.heap.size, 0, none⟩ = some (.pointer (some ⟨tb, 0, none⟩)) := (cell_blk HKT.out 0).trans rfl
        have hk12 : w12.cell? ⟨w11.heap.size + 1, 0, none⟩ = some (.int .i64 k) := (cell_blk HKK.out 0).trans rfl
        have HT12 := Lib.hid ht12
        have HK12 := Lib.hid hk12
        have HNE := Lib.hid (show wr.heap.size < w11.heap.size by rw [HS11.out]; omega)
        clear e12 l12 hww ht12 hk12
        obtain ⟨bn, hbn⟩ : ∃ b, b = wr.heap.size := ⟨_, rfl⟩
        rw [← hbn] at HBW HTW HRW HCW HWW HNC HLE HNE
        go_wp2_with fail
        rw [← hbn]
        clear hbn
        refine (wpIn_wide (n := 3)).1 ?_
        refine range_ints rfl (by omega) (q := 17) (gf := 66) (lb := #[.pointer (some ⟨w11.heap.size, 0, none⟩), .pointer (some ⟨w11.heap.size + 1, 0, none⟩)]) rfl trivial (enters_of Try.func66 (by kernel_rfl) rfl)
          (under_stops (n := 2) (by omega) (w := w12) (bn := bn) (tb := tb) (xs := entsH hs) (m := mainOf (entsH hs)) (k := k) HTW.out HT12.out HK12.out (by rw [HS12.out]; omega) (by rw [HS12.out]; omega) (by have := HNE.out; omega) (by have := HNE.out; omega))
          (fun h1 h2 => h1.trans h2) (fun W l o o' hl _ _ _ => But.putObj W l o' hl) (Below.refl _ _)
          (fun pre W => ∃ N, N ≤ (entsH hs).length ∧ pre = unders (entsH hs) k N ∧ W.cell? ⟨bn, 0, none⟩ = some (.int .i64 N) ∧ W.frozen? ⟨bn, 0, none⟩ = false ∧ But w12.heap.size bn w12 W)
          (fun c pre W => c = .ret ∧ ¬ (pre <+: unders (entsH hs) k (entsH hs).length))
          ?own (fun c s W W' row hs _ _ => hs) ?start ?assign ?body ?done ?stop
        case own =>
          rintro s W W' row ⟨N, hN, hp, hc, hf, hb⟩ hg hr
          have hr' : ∀ r, row = some r → ∃ o : Obj, W.heap[r]? = some o ∧ o.isCells = false := fun r e => (hr r e).2
          refine ⟨N, hN, hp, cell_kept hc hg hr', (frozen_kept hc hg hr').trans hf, hb.trans ⟨hg.os, hg.tape, hg.output, hg.size, fun k hk hne => hg.block k (Nat.lt_of_lt_of_le hk hb.size) (fun e => ?_)⟩⟩
          have := (hr k e.symm).1
          omega
        case start => exact ⟨0, Nat.zero_le _, rfl, HNC.out.1, HNC.out.2, But.refl _ _ _⟩
        case assign =>
          intro l x W K hK
          gi_wp2
          exact hK
        case body =>
          rintro l pre x W ⟨N, hN, rfl, hc, hf, hb⟩ _
          simp only [List.setIfInBounds_toArray, List.set_cons_zero, List.set_cons_succ]
          have HB := Lib.hid hb
          clear hb
          gi_wp2
          gi_loopw [] (fun wr => ∃ j : Nat, j ≤ (entsH hs).length ∧ Hid (unders (entsH hs) k j = unders (entsH hs) k N) ∧ wr.cell? ⟨bn, 0, none⟩ = some (.int .i64 j) ∧ wr.frozen? ⟨bn, 0, none⟩ = false ∧ Hid (But w12.heap.size bn w12 wr) ∧ Hid (But w12.heap.size bn W wr) ∧ Hid (KeepsOthers W wr)) (fun wr => (entsH hs).length - cellN wr bn)
          case atStart => exact ⟨N, hN, rfl, hc, hf, HB.out, But.refl _ _ _, KeepsOthers.refl _⟩
          case round =>
            obtain ⟨j, hj, hU, hcj, hfj, hB1, hB2, hK1⟩ := hrel
            have hc8 := (HCW.out _ hB1.out).1
            have hc5 := (HCW.out _ hB1.out).2
            have hm6 : (1 : Nat) ≤ 3 - 1 - 1 := by decide
            by_cases hlt : j < (entsH hs).length
            · have hlt2 : (j : Int) < (rentsH hs).length := by have := (Ag_heads hs).len; omega
              have hbn : bn < wr.heap.size := Nat.lt_of_lt_of_le HLE.out hB1.out.size
              have h6 := (HWW.out _ hB1.out).2
              have HO := Lib.hid (show ∀ w', Below wr.heap.size wr w' → But w12.heap.size bn w12 w' ∧ But w12.heap.size bn W w' ∧ KeepsOthers W w' from fun w' h => ⟨hB1.out.trans (But.of_below h hB1.out.size), hB2.out.trans (But.of_below h hB1.out.size), hK1.out.trans (KeepsOthers.of_grownBy (grown_below h) (fun j o e => by cases e))⟩)
              cases hp : mP' (entsH hs) k j
              · have HP := Lib.hid (show belowB (entsH hs) (j : Int) k = false from hp)
                have HU := Lib.hid (show unders (entsH hs) k (j + 1) = unders (entsH hs) k N by rw [unders_succ, hp]; exact hU.out)
                have HBN := Lib.hid hbn
                clear hp h6 hbn
                gi_wp2_with (refine ⟨trivial, ?_⟩; gi_at_call 27; refine (CallsIn.inRound l (callsIn_wide.2 (RBelow_calls (HRW.out _ hB1.out) (Ag_heads hs) (by rw [entsH_len]; have := HL.out trivial; omega) (j : Int) k))).mono ?_; rintro e w13 ⟨rfl, hb13⟩; rw [HP.out]; have hcj2 := cell_later hb13 hcj; have hfj2 := (hb13.frozen (p := ⟨bn, 0, none⟩) HBN.out).trans hfj)
                go_roundw
                case rel =>
                  obtain ⟨o1, o2, o3⟩ := HO.out _ hb13
                  exact ⟨j + 1, by omega, HU.out, World.cell?_setCell_same' _ _ _ (by rw [hcj2]; rfl), by rw [World.frozen?_setCell]; exact hfj2, o1.setCell _, o2.setCell _, o3.trans (KeepsOthers.setCell _ _ _)⟩
                case measure =>
                  have e1 : cellN wr bn = j := by unfold cellN; rw [hcj]; simp
                  have e2 : cellN (w13.setCell ⟨bn, 0, none⟩ (.int .i64 ((j : Int) + 1))) bn = j + 1 := by
                    unfold cellN
                    rw [World.cell?_setCell_same' _ _ _ (by rw [hcj2]; rfl)]
                    show ((j : Int) + 1).toNat = j + 1
                    omega
                  rw [e1, e2]
                  omega
              · have HP := Lib.hid (show belowB (entsH hs) (j : Int) k = true from hp)
                have HU := Lib.hid (show unders (entsH hs) k (j + 1) = unders (entsH hs) k N ++ [(j : Int)] by rw [unders_succ, if_pos hp, hU.out])
                have HPM := Lib.hid hp
                have HBN := Lib.hid hbn
                have HC6 := Lib.hid h6
                have hb6 : w.heap.size + 1 < wr.heap.size := (Array.getElem?_eq_some_iff.1 h6).1
                have HB6 := Lib.hid hb6
                clear hp h6 hbn hb6
                by_cases hxj : x = (j : Int)
                · gi_wp2_with (refine ⟨trivial, ?_⟩; gi_at_call 27; refine (CallsIn.inRound l (callsIn_wide.2 (RBelow_calls (HRW.out _ hB1.out) (Ag_heads hs) (by rw [entsH_len]; have := HL.out trivial; omega) (j : Int) k))).mono ?_; rintro e w13 ⟨rfl, hb13⟩; rw [HP.out]; have hcj2 := cell_later hb13 hcj; have hfj2 := (hb13.frozen (p := ⟨bn, 0, none⟩) HBN.out).trans hfj; have hc13 := (HCW.out _ (HO.out _ hb13).1).1)
                  obtain ⟨o1, o2, o3⟩ := HO.out _ hb13
                  exact ⟨o3.trans (KeepsOthers.setCell _ _ _), o2.setCell _, j + 1, by omega, by rw [HU.out, hxj], World.cell?_setCell_same' _ _ _ (by rw [hcj2]; rfl), by rw [World.frozen?_setCell]; exact hfj2, o1.setCell _⟩
                · gi_wp2_with (refine ⟨trivial, ?_⟩; gi_at_call 27; refine (CallsIn.inRound l (callsIn_wide.2 (RBelow_calls (HRW.out _ hB1.out) (Ag_heads hs) (by rw [entsH_len]; have := HL.out trivial; omega) (j : Int) k))).mono ?_; rintro e w13 ⟨rfl, hb13⟩; rw [HP.out]; have hcj2 := cell_later hb13 hcj; have hfj2 := (hb13.frozen (p := ⟨bn, 0, none⟩) HBN.out).trans hfj; have hc13 := (HCW.out _ (HO.out _ hb13).1).1; have h613 := (hb13.block _ HB6.out).trans HC6.out; have hc6 := (cell_blk h613 0).trans rfl; have hf6 := frozen_blk h613 0; clear h613)
                  all_goals first
                    | (exfalso; omega)
                    | (exfalso; simp_all; done)
                    | (obtain ⟨o1, o2, o3⟩ := HO.out _ hb13
                       exact ⟨o3.trans (KeepsOthers.setCell _ _ _), rfl, by rw [← hU.out]; exact unders_not hj (.inr ⟨HPM.out, hxj⟩)⟩)
            · have h6 := (HWW.out _ hB1.out).2
              have hc6 := (cell_blk h6 0).trans rfl
              have hf6 := frozen_blk h6 0
              clear h6
              have hge : ((rentsH hs).length : Int) ≤ j := by have := (Ag_heads hs).len; omega
              gi_wp2
              all_goals first
                | (exact ⟨hK1.out.trans (KeepsOthers.setCell _ _ _), rfl, by rw [← hU.out]; exact unders_not hj (.inl (by omega))⟩)
                | (refine ⟨trivial, ?_⟩
                   gi_wp2
                   exact ⟨hK1.out.trans (KeepsOthers.setCell _ _ _), rfl, by rw [← hU.out]; exact unders_not hj (.inl (by omega))⟩)
        case done =>
          rintro D ys W hD rfl ⟨N, hN, hU, hc, hf, hb⟩ hD2
          have HB := Lib.hid hb
          have HU := Lib.hid hU
          have HD := Lib.hid hD
          have HD2 := Lib.hid hD2
          clear hb hU hD hD2
          gi_wp2
          go_wp2
          go_loopw [] (fun wr => ∃ j : Nat, j ≤ (entsH hs).length ∧ N ≤ j ∧ wr.cell? ⟨bn, 0, none⟩ = some (.int .i64 j) ∧ wr.frozen? ⟨bn, 0, none⟩ = false ∧ Hid (But w12.heap.size bn w12 wr) ∧ Hid (wr.heap[D]? = some (.deferred (some [])))) (fun wr => (entsH hs).length - cellN wr bn)
          case atStart => exact ⟨N, hN, Nat.le_refl _, hc, hf, HB.out, HD2.out⟩
          case round =>
            obtain ⟨j, hj, hNj, hcj, hfj, hB1, hDD⟩ := hrel
            have hc8 := (HCW.out _ hB1.out).1
            have hc5 := (HCW.out _ hB1.out).2
            by_cases hlt : j < (entsH hs).length
            · have hlt2 : (j : Int) < (rentsH hs).length := by have := (Ag_heads hs).len; omega
              have hbn : bn < wr.heap.size := Nat.lt_of_lt_of_le HLE.out hB1.out.size
              have HP := Lib.hid (show belowB (entsH hs) (j : Int) k = false from unders_none HU.out.symm hNj hlt)
              have HBN := Lib.hid hbn
              clear hbn
              go_wp2_with (go_at_call 27; refine (RBelow_calls (HRW.out _ hB1.out) (Ag_heads hs) (by rw [entsH_len]; have := HL.out trivial; omega) (j : Int) k).mono ?_; rintro e w13 ⟨rfl, hb13⟩; rw [HP.out]; have hcj2 := cell_later hb13 hcj; have hfj2 := (hb13.frozen (p := ⟨bn, 0, none⟩) HBN.out).trans hfj)
              go_roundw
              case rel =>
                have hdl := (Array.getElem?_eq_some_iff.1 hDD.out).1
                refine ⟨j + 1, by omega, by omega, World.cell?_setCell_same' _ _ _ (by rw [hcj2]; rfl), by rw [World.frozen?_setCell]; exact hfj2, (hB1.out.trans (But.of_below hb13 hB1.out.size)).setCell _, ?_⟩
                refine (Below.heap_setCell _ _ _ _ (show D ≠ bn from ?_)).trans ((hb13.block D hdl).trans hDD.out)
                have := HLE.out
                have := HD.out
                omega
              case measure =>
                have e1 : cellN wr bn = j := by unfold cellN; rw [hcj]; simp
                have e2 : cellN (w13.setCell ⟨bn, 0, none⟩ (.int .i64 ((j : Int) + 1))) bn = j + 1 := by
                  unfold cellN
                  rw [World.cell?_setCell_same' _ _ _ (by rw [hcj2]; rfl)]
                  show ((j : Int) + 1).toNat = j + 1
                  omega
                rw [e1, e2]
                omega
            · have hge : ((rentsH hs).length : Int) ≤ j := by have := (Ag_heads hs).len; omega
              obtain ⟨hW, h6⟩ := HWW.out _ hB1.out
              have HW := Lib.hid hW
              have hc6 := (cell_blk h6 0).trans rfl
              have hf6 := frozen_blk h6 0
              clear h6 hW
              go_wp2
              have hlt6 : w.heap.size + 1 < w12.heap.size := (Array.getElem?_eq_some_iff.1 (HWW.out w12 (But.refl _ _ _)).2).1
              have hD0 := HD.out
              have hK := (Below.heap_setCell wr ⟨w.heap.size + 1, 0, none⟩ (.bool true) D (show D ≠ w.heap.size + 1 by omega)).trans hDD.out
              refine ⟨by simp, .inl ⟨_, _, rfl, run_takeDeferred hK, ?_⟩⟩
              refine ⟨_, res5 rfl ((cell_putObj _ (by omega)).trans (World.cell?_setCell_same' _ _ _ (by rw [hc6]; rfl))), rfl, ?_⟩
              exact below_putObj (HW.out.setCell (p := ⟨w.heap.size + 1, 0, none⟩) (by show w.heap.size ≤ w.heap.size + 1; omega) _) (by omega) _
        case stop =>
          rintro D c pre W hD hS ⟨rfl, hx⟩
          exact absurd hS hx
  · have hcc := (cell_blk hc6 0).trans rfl
    have hff := frozen_blk hc6 0
    have HW := Lib.hid (HB0.out.trans (HB2.out.mono HB0.out.size))
    clear hc6
    go_wp2
    refine ⟨_, res5 rfl (World.cell?_setCell_same' _ _ _ (by rw [hcc]; rfl)), rfl, ?_⟩
    exact HW.out.setCell (p := ⟨w.heap.size + 1, 0, none⟩) (by show w.heap.size ≤ w.heap.size + 1; omega) _
end Go.Proofs.Ytoakelgcbbbieaa
