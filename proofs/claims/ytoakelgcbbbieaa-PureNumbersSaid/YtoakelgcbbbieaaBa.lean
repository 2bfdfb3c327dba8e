/- An expression and all within, as an iterator: the program's, walked for any loop's body. -/
import Derived.Test.YtoakelgcbbbieaaBz
import Derived.Test.YtoakelgcbbbieaaAa
import Derived.RangeFuncBox
namespace Go.Proofs.Ytoakelgcbbbieaa
open Go.RowKit Go.Maps Go.Shelf Go.Proofs.YtoakelgcbbbieaaW.PrintWords Go.Proofs.YtoakelgcbbbieaaW.PrintLast Go.Proofs.YtoakelgcbbbieaaW.PrintMore
set_option linter.unusedVariables false
set_option linter.unusedSimpArgs false
set_option maxRecDepth 100000
attribute [local go_sem] Oper.semAt_some

theorem room_of_none {F : Fence} (hd : F.depth = none) (k : Nat) : F.room k := fun d h => by rw [hd] at h; cases h
theorem RoundIn.anyDepth {F : Fence} (hd : F.depth = none) {m m' : Nat} {P : Program} {l : Nat} {f : FuncId} {tmps : Array Value} {assign body : Code} {w : World} {R : Ending → World → Prop}
    (h : RoundIn F m P l f tmps assign body w R) : RoundIn F m' P l f tmps assign body w R := ⟨h.1, fun c cs _ => h.2 c cs (room_of_none hd _)⟩
theorem YieldAt.anyDepth {F : Fence} (hd : F.depth = none) {m : Nat} (m' : Nat) {P : Program} {l : Nat} {args : Array Value} {W : World} {R : Ending → World → Prop} (h : YieldAt F m P l args W R) : YieldAt F m' P l args W R := by
  obtain ⟨fn, tmps, assign, body, hy, hR⟩ := h
  exact ⟨fn, tmps, assign, body, hy, RoundIn.anyDepth hd hR⟩

theorem S58.sizeOf_kid {x y : S58} (h : y ∈ x.f5) : SizeOf.sizeOf y < SizeOf.sizeOf x := by
  have := List.sizeOf_lt_of_mem h
  cases x
  simp only [S58.mk.sizeOf_spec] at *
  omega
/-- induction over the kids -/
theorem S58.ind {P : S58 → Prop} (h : ∀ x, (∀ y ∈ x.f5, P y) → P x) : ∀ x, P x := by
  intro x
  generalize hn : SizeOf.sizeOf x = n
  induction n using Nat.strongRecOn generalizing x with
  | _ n ih => exact h x (fun y hy => ih (SizeOf.sizeOf y) (by have := S58.sizeOf_kid hy; omega) y rfl)

/-- an expression and all within -/
def flat (x : S58) : List S58 := x :: x.f5.attach.flatMap (fun y => flat y.1)
termination_by SizeOf.sizeOf x
decreasing_by exact S58.sizeOf_kid y.2
def flatL (l : List S58) : List S58 := l.flatMap flat
theorem flat_eq (x : S58) : flat x = x :: flatL x.f5 := by
  rw [flat]
  unfold flatL
  congr 1
  have : ∀ l : List S58, l.flatMap flat = l.attach.flatMap (fun y => flat y.1) := fun l => by
    conv => lhs; rw [← List.attach_map_subtype_val l, List.flatMap_map]
  rw [this]
theorem flatL_cons (x : S58) (l : List S58) : flatL (x :: l) = flat x ++ flatL l := by simp [flatL]
theorem flatL_append (l m : List S58) : flatL (l ++ m) = flatL l ++ flatL m := by simp [flatL]
theorem flat_pos (x : S58) : 0 < (flat x).length := by rw [flat_eq]; simp
theorem take_rd58 {xs : List S58} {j : Nat} (h : j < xs.length) : xs.take (j + 1) = xs.take j ++ [rd_T58 xs (j : Int)] := by
  rw [List.take_add_one, List.getElem?_eq_getElem h]
  unfold rd_T58
  rw [Int.toNat_natCast, List.getD_eq_getElem?_getD, List.getElem?_eq_getElem h]
  rfl
theorem rd58_mem {xs : List S58} {j : Nat} (h : j < xs.length) : rd_T58 xs (j : Int) ∈ xs := by
  unfold rd_T58
  rw [Int.toNat_natCast, List.getD_eq_getElem?_getD, List.getElem?_eq_getElem h]
  exact List.getElem_mem h

/-- what a round is handed -/
structure EX where
  x : S58
  A6 : Option Addr
  c6 : Nat
abbrev eX (x : S58) (A6 : Option Addr) (c6 : Nat) : Array Value := #[.int .i64 x.f0, .string x.f1.f0, .int .i64 x.f1.f1, .int .i64 x.f2, .int .i64 x.f3, .int .i64 x.f4, .slice A6 x.f5.length c6]
abbrev encX (a : EX) : Array Value := #[.agg (eX a.x a.A6 a.c6)]

/-- what a round keeps: all below n₀, and the cells from b₀ on -/
structure KpX (n₀ b₀ : Nat) (A B : World) : Prop where
  bel : Below n₀ A B
  keep : ∀ k o, b₀ ≤ k → A.heap[k]? = some o → o.isCells = true → B.heap[k]? = some o
theorem KpX.refl (n₀ b₀ : Nat) (A : World) : KpX n₀ b₀ A A := ⟨Below.refl _ _, fun _ _ _ h _ => h⟩
theorem KpX.trans {n₀ b₀ : Nat} {A B C : World} (h : KpX n₀ b₀ A B) (k : KpX n₀ b₀ B C) : KpX n₀ b₀ A C := ⟨h.bel.trans k.bel, fun i o h1 h2 h3 => k.keep i o h1 (h.keep i o h1 h2 h3) h3⟩
theorem KpX.of_below {n₀ b₀ : Nat} {A B : World} (h : Below A.heap.size A B) (hn : n₀ ≤ A.heap.size) : KpX n₀ b₀ A B := ⟨h.mono hn, fun k o _ h2 _ => (h.block k (Array.getElem?_eq_some_iff.1 h2).1).trans h2⟩
theorem KpX.put {n₀ b₀ : Nat} (W : World) (l : Nat) (o o' : Obj) (hl : n₀ ≤ l) (h : W.heap[l]? = some o) (hc : o.isCells = false) : KpX n₀ b₀ W (W.putObj l o') :=
  ⟨below_putObj (Below.refl _ _) hl _, fun k o2 _ h2 h3 => by
    have hne : k ≠ l := by rintro rfl; rw [h] at h2; cases h2; rw [hc] at h3; cases h3
    exact (World.putObj_heap_other hne).trans h2⟩
theorem KpX.wide {n₀ n₁ b₀ b₁ : Nat} {A B : World} (h : KpX n₀ b₀ A B) (hn : n₁ ≤ n₀) (hb : b₀ ≤ b₁) : KpX n₁ b₁ A B := ⟨h.bel.mono hn, fun k o h1 => h.keep k o (by omega)⟩

set_option maxHeartbeats 4000000 in
theorem exps_in (l N b₀ : Nat) (w0 : World) (J Jx : List EX → World → Prop) (hJ : ∀ pre A B, J pre A → Below A.heap.size A B → J pre B)
    (hY : ∀ m pre x W, J pre W → pre.length < N → YieldAt Fence.wide m Try.prog l (encX x) W fun e W' =>
      (e = .returned (.bool true) ∧ J (pre ++ [x]) W' ∧ KpX w0.heap.size b₀ W W') ∨ (e = .returned (.bool false) ∧ Jx (pre ++ [x]) W')) (x : S58) :
    ∀ (n : Nat) (A6 : Option Addr) (c6 : Nat) (pre : List EX) (W : World), Kd.C k58 w0 A6 x.f5.length x.f5 → Below w0.heap.size w0 W → b₀ ≤ W.heap.size → J pre W → pre.length + (flat x).length ≤ N →
      CallsIn Fence.wide n Try.prog 90 #[.agg (eX x A6 c6), .func (.yield l) #[] #[]] W fun e W' =>
        (e = .returned (.bool true) ∧ (∃ ys, ys.map EX.x = flat x ∧ J (pre ++ ys) W') ∧ KpX w0.heap.size b₀ W W') ∨ (e = .returned (.bool false) ∧ ∃ q, q.map EX.x <+: flat x ∧ Jx (pre ++ q) W') := by
  induction x using S58.ind with
  | _ x ih =>
  intro n A6 c6 pre W hC hW hb0 hJ0 hN
  have hdd : ∀ k : Nat, (Fence.wide.depth.isSome = true → 1 ≤ k) := fun k h => by cases h
  have HJ := Lib.hid hJ
  have HC := Lib.hid hC
  have HW := Lib.hid hW
  have HIH := Lib.hid ih
  have HN := Lib.hid hN
  have hlen := Lib.hid (show (flat x).length = 1 + (flatL x.f5).length by rw [flat_eq]; simp; omega)
  have hC2 : x.f5.length ≤ 9223372036854775807 := by obtain ⟨_, h, _⟩ := hC; exact h
  have HY := Lib.hid hY
  clear hJ hC hW ih hN hY
  have hW0 := HW.out.size
  have hB1 := (Below.refl W.heap.size W).alloc (Nat.le_refl _) (.cells (eX x A6 c6) 58)
  have hY1 := YieldAt.mono (HY.out (n - 1) pre ⟨x, A6, c6⟩ _ (HJ.out _ _ _ hJ0 hB1) (by have := HN.out; have := hlen.out; omega)) (R' := fun e W' =>
      (e = .returned (.bool true) ∧ J (pre ++ [⟨x, A6, c6⟩]) W' ∧ Hid (KpX w0.heap.size b₀ W W') ∧ W'.cell? ⟨W.heap.size, 6, none⟩ = some (.slice A6 x.f5.length c6)) ∨ (e = .returned (.bool false) ∧ Jx (pre ++ [⟨x, A6, c6⟩]) W'))
    (fun e W2 h => h.elim (fun ⟨he, hj, hk⟩ => .inl ⟨he, hj, (KpX.of_below hB1 hW0).trans hk, (cell_blk (hk.keep W.heap.size _ hb0 (World.alloc_heap_new W _) rfl) 6).trans rfl⟩) .inr)
  clear hB1
  refine callsIn_of_wp Try.func90 rfl trivial ?_ rfl
  simp only [Try.ntmps90, List.size_toArray, List.length_cons, List.length_nil, Nat.reduceAdd, Nat.reduceSub, Array.replicate_succ, Array.replicate_zero, List.push_toArray, List.append_toArray, List.nil_append, List.cons_append]
  dsimp only [encX] at hY1
  obtain ⟨fn, tmps, assign, body, hy, hR⟩ := hY1
  gi_wp2_with (refine ⟨hdd _, ?_⟩; refine hR.mono ?_; clear hR; rintro e W1 (⟨rfl, hJ1, hk1, c5⟩ | ⟨rfl, hx1⟩))
  · clear hy
    have HJ1 := Lib.hid hJ1
    clear hJ1 c5
    gi_loopw [14] (fun i wr => ∃ j : Nat, j ≤ x.f5.length ∧ i = .int .i64 j ∧ (∃ ys, Hid (ys.map EX.x = flatL (x.f5.take j)) ∧ J (pre ++ (⟨x, A6, c6⟩ :: ys)) wr) ∧ Hid (KpX w0.heap.size b₀ W wr)) (fun i _ => x.f5.length - (intOf i).toNat)
    case atStart => exact ⟨0, Nat.zero_le _, rfl, ⟨[], Lib.hid (by simp [flatL]), HJ1.out⟩, hk1⟩
    case round =>
      obtain ⟨j, hj, rfl, ⟨ys, hys, hJs⟩, hnx⟩ := hrel
      by_cases hlt : j < x.f5.length
      · have hWr : Below w0.heap.size w0 wr := HW.out.trans hnx.out.bel
        have hbr := hnx.out.bel.size
        obtain ⟨ad, B6, d6, rfl, h0, h1, h2, h3, h4, h5, h6, h7, hCk⟩ := at_T58 HC.out (j : Int) (by omega) (by omega)
        replace h0 := cell_later hWr h0
        replace h1 := cell_later hWr h1
        replace h2 := cell_later hWr h2
        replace h3 := cell_later hWr h3
        replace h4 := cell_later hWr h4
        replace h5 := cell_later hWr h5
        replace h6 := cell_later hWr h6
        obtain ⟨y, hy⟩ : ∃ y, y = rd_T58 x.f5 (j : Int) := ⟨_, rfl⟩
        have HM := Lib.hid (show y ∈ x.f5 by rw [hy]; exact rd58_mem hlt)
        have HTK := Lib.hid (show x.f5.take (j + 1) = x.f5.take j ++ [y] by rw [hy]; exact take_rd58 hlt)
        rw [← hy] at h0 h1 h2 h3 h4 h5 h6 h7 hCk
        rw [Int.toNat_natCast] at h0 h1 h2 h3 h4 h5 h6
        clear hy h7
        have HCK := Lib.hid hCk
        have HWR := Lib.hid hWr
        clear hCk hWr
        have HBB := Lib.hid ((Below.refl wr.heap.size wr).alloc (Nat.le_refl _) (.cells (eX y B6 d6) 58))
        have hI := HIH.out y HM.out (n - 1) B6 d6 (pre ++ (⟨x, some ad, c6⟩ :: ys)) _ HCK.out (HWR.out.trans (HBB.out.mono (by omega))) (by have := HBB.out.size; omega) (HJ.out _ _ _ hJs HBB.out) (by
          have h1 := HN.out
          have h2 := hlen.out
          have h3 := congrArg List.length hys.out
          have h4 : flatL x.f5 = flatL (x.f5.take j) ++ (flat y ++ flatL (x.f5.drop (j + 1))) := by
            rw [← flatL_cons, ← flatL_append]
            congr 1
            have := HTK.out
            rw [show y :: x.f5.drop (j + 1) = [y] ++ x.f5.drop (j + 1) by rfl, ← List.append_assoc, ← this, List.take_append_drop]
          rw [h4] at h2
          simp only [List.length_append, List.length_map, List.length_cons] at *
          omega)
        gi_wp2_with (refine ⟨trivial, hdd _, ?_⟩; gi_at_call 90; refine hI.mono ?_; clear hI; rintro e W3 (⟨rfl, ⟨zs, hzs, hJ3⟩, hk3⟩ | ⟨rfl, q, hq, hx3⟩))
        · go_roundw
          case rel =>
            refine ⟨j + 1, by omega, by go_num, ⟨ys ++ zs, Lib.hid ?_, ?_⟩, (hnx.out.trans (KpX.of_below HBB.out (by omega))).trans hk3⟩
            · rw [List.map_append, hys.out, hzs, HTK.out, flatL_append, flatL_cons]; simp [flatL]
            · simpa using hJ3
          case measure => simp [intOf]; omega
        · refine bodyPost_ret (results_tmp rfl _ _ _) rfl ?_
          refine .inr ⟨rfl, ⟨x, some ad, c6⟩ :: (ys ++ q), ?_, by simpa using hx3⟩
          obtain ⟨r, hr⟩ := hq
          refine ⟨r ++ flatL (x.f5.drop (j + 1)), ?_⟩
          rw [List.map_cons, List.map_append, hys.out, flat_eq]
          have h4 : flatL x.f5 = flatL (x.f5.take j) ++ (flat y ++ flatL (x.f5.drop (j + 1))) := by
            rw [← flatL_cons, ← flatL_append]
            congr 1
            have := HTK.out
            rw [show y :: x.f5.drop (j + 1) = [y] ++ x.f5.drop (j + 1) by rfl, ← List.append_assoc, ← this, List.take_append_drop]
          rw [h4, ← hr]
          simp
      · obtain rfl : j = x.f5.length := by omega
        gi_wp2
        go_ret
        refine .inl ⟨rfl, ⟨_, ?_, hJs⟩, hnx.out⟩
        rw [List.map_cons, hys.out, List.take_length, flat_eq]
  · gi_wp2
    go_ret
    refine .inr ⟨rfl, [⟨x, A6, c6⟩], ⟨flatL x.f5, ?_⟩, hx1⟩
    rw [flat_eq]; rfl

theorem expsF_in (l b₀ Bx : Nat) (n : Nat) (w0 : World) (x : S58) (A6 : Option Addr) (c6 : Nat) (J Jx : List EX → World → Prop) (W : World) (hJ : AbidesFrom W.heap.size J) (hC : Kd.C k58 w0 A6 x.f5.length x.f5) (hb : W.heap[Bx]? = some (.cells (eX x A6 c6) 58 (0, 0)))
    (hY : ∀ pre x1 W, J pre W → pre.length < (flat x).length → YieldAt Fence.wide (n - 1) Try.prog l (encX x1) W fun e W' =>
      (e = .returned (.bool true) ∧ J (pre ++ [x1]) W' ∧ KpX w0.heap.size b₀ W W') ∨ (e = .returned (.bool false) ∧ Jx (pre ++ [x1]) W')) (hW : Below w0.heap.size w0 W) (hb0 : b₀ ≤ W.heap.size) (h0 : J [] W) :
    CallsIn Fence.wide n Try.prog 89 #[.func (.yield l) #[] #[], .pointer (some ⟨Bx, 0, none⟩)] W fun e W' => (∃ v, e = .returned v) ∧
      ((∃ ys, ys.map EX.x = flat x ∧ J ys W') ∨ (∃ q, q.map EX.x <+: flat x ∧ Jx q W')) := by
  have hdd : ∀ k : Nat, (Fence.wide.depth.isSome = true → 1 ≤ k) := fun k h => by cases h
  have hJ' : ∀ pre A B, J pre A → Below A.heap.size A B → J pre B := fun pre A B h1 h2 => hJ pre A B none h1 (grown_below h2) (fun r e => by cases e)
  have hp := exps_in l (flat x).length b₀ w0 J Jx hJ' (fun m pre x1 W hj hl => YieldAt.anyDepth rfl m (hY pre x1 W hj hl)) x (n - 1) A6 c6 [] W hC hW hb0 h0 (by simp)
  have c0 : W.cell? ⟨Bx, 0, none⟩ = some (.int .i64 x.f0) := (cell_blk hb 0).trans rfl
  have c1 : W.cell? ⟨Bx, 1, none⟩ = some (.string x.f1.f0) := (cell_blk hb 1).trans rfl
  have c2 : W.cell? ⟨Bx, 2, none⟩ = some (.int .i64 x.f1.f1) := (cell_blk hb 2).trans rfl
  have c3 : W.cell? ⟨Bx, 3, none⟩ = some (.int .i64 x.f2) := (cell_blk hb 3).trans rfl
  have c4 : W.cell? ⟨Bx, 4, none⟩ = some (.int .i64 x.f3) := (cell_blk hb 4).trans rfl
  have c5 : W.cell? ⟨Bx, 5, none⟩ = some (.int .i64 x.f4) := (cell_blk hb 5).trans rfl
  have c6' : W.cell? ⟨Bx, 6, none⟩ = some (.slice A6 x.f5.length c6) := (cell_blk hb 6).trans rfl
  clear hY hb hJ hJ'
  refine callsIn_of_wp Try.func89 rfl trivial ?_ rfl
  simp only [Try.ntmps89, List.size_toArray, List.length_cons, List.length_nil, Nat.reduceAdd, Nat.reduceSub, Array.replicate_succ, Array.replicate_zero, List.push_toArray, List.append_toArray, List.nil_append, List.cons_append]
  gi_wp2_with (refine ⟨trivial, hdd _, ?_⟩; gi_at_call 90; refine hp.mono ?_; clear hp; rintro e W3 (⟨rfl, ⟨zs, hzs, hJ3⟩, hk3⟩ | ⟨rfl, q, hq, hx3⟩))
  · go_end0
    exact ⟨⟨_, rfl⟩, .inl ⟨zs, hzs, by simpa using hJ3⟩⟩
  · go_end0
    exact ⟨⟨_, rfl⟩, .inr ⟨q, hq, by simpa using hx3⟩⟩

theorem Exps_calls {w : World} (x : S58) (A6 : Option Addr) (c6 : Nat) :
    Calls Try.prog 74 #[.agg (eX x A6 c6)] w fun e w' => e = .returned (.func (.func 89) #[] #[.pointer (some ⟨w.heap.size, 0, none⟩)]) ∧ w' = w.alloc (.cells (eX x A6 c6) 58) := by
  go_enter Try.func74, Try.ntmps74
  go_wp2
  go_ret
  exact ⟨rfl, rfl⟩

/-- the iterator keeps its word: all of them in order, or the first some -/
theorem exps_stops {n : Nat} {w w0 : World} {b₀ Bx : Nat} {x : S58} {A6 : Option Addr} {c6 : Nat} (hC : Kd.C k58 w0 A6 x.f5.length x.f5) (hb : w.heap[Bx]? = some (.cells (eX x A6 c6) 58 (0, 0))) (hW : Below w0.heap.size w0 w) (hb0 : b₀ ≤ w.heap.size) :
    SeqStopsK Fence.wide n Try.prog 89 #[.pointer (some ⟨Bx, 0, none⟩)] encX (KpX w0.heap.size b₀) (fun ys => ys.map EX.x = flat x) (fun pre => pre.map EX.x <+: flat x) (flat x).length w := fun l J Jx W hW1 hJ _ hY h0 => by
  have hs := hW1.size
  have hl := (Array.getElem?_eq_some_iff.1 hb).1
  refine (expsF_in l b₀ Bx n w0 x A6 c6 J Jx W hJ hC ((hW1.block Bx hl).trans hb) hY (hW.trans (hW1.mono hW.size)) (by omega) h0)
end Go.Proofs.Ytoakelgcbbbieaa
