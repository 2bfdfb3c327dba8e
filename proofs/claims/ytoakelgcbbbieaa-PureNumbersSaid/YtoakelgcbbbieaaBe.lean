/- An expression's value as the program reckons it: the asker's name and of. -/
import Derived.Test.YtoakelgcbbbieaaBd
namespace Go.Proofs.Ytoakelgcbbbieaa
open Go.RowKit Go.Maps Go.Shelf Go.Proofs.YtoakelgcbbbieaaW.PrintWords Go.Proofs.YtoakelgcbbbieaaW.PrintLast Go.Proofs.YtoakelgcbbbieaaW.PrintMore
set_option linter.unusedVariables false
set_option linter.unusedSimpArgs false
set_option maxRecDepth 100000

abbrev ER := (Int × Int) × Int
def wrN (n : Int) : Int := wrap64 (wrap32 n)
def truthP (b : Bool) : Int × Int := if b = true then (2, 1) else (2, 0)
def twoP (k x y : Int) : Int × Int := if k = 17 then truthP (decide (x < y)) else if k = 18 then (1, wrN (wrap64 (x + y))) else if k = 19 then (1, wrN (wrap64 (x - y))) else (1, wrN (wrap64 (x * y)))
def ofP (r : ER) (kind : Int) : Int × Int := (r.1.2, if r.2 = 0 ∧ r.1.1 ≠ kind then 7 else r.2)
def nameP (o : Option (Int × Int)) : ER := match o with | some p => (p, 0) | none => ((0, 0), 5)
def kidF (fs : List (Int → ER)) (i : Nat) : Int → ER := fs.getD i (fun e => ((0, 0), e))
def evNode (m : ByteArray → Option (Int × Int)) (x : S58) (fs : List (Int → ER)) (err : Int) : ER :=
  if err ≠ 0 then ((0, 0), err) else
  if x.f0 = 25 then ((1, wrN x.f2), 0) else
  if x.f0 = 26 then (truthP true, 0) else
  if x.f0 = 27 then (truthP false, 0) else
  if x.f0 = 29 then ((3, 0), 0) else
  if x.f0 = 28 then nameP (m x.f1.f0) else
  if x.f0 = 21 then
    let a := ofP (kidF fs 0 0) 2
    (truthP (a.1 == 0), a.2)
  else if x.f0 = 16 then
    let a := ofP (kidF fs 0 0) 2
    if (a.1 == 0) = true then (truthP false, a.2) else
      let b := ofP (kidF fs 1 a.2) 2
      (truthP (b.1 != 0), b.2)
  else
    let a := ofP (kidF fs 0 0) 1
    let b := ofP (kidF fs 1 a.2) 1
    (twoP x.f0 a.1 b.1, b.2)
/-- an expression's value and error, an error being there or not -/
def evP (m : ByteArray → Option (Int × Int)) (x : S58) : Int → ER := evNode m x (x.f5.attach.map (fun y => evP m y.1))
termination_by SizeOf.sizeOf x
decreasing_by exact S58.sizeOf_kid y.2
theorem evP_eq (m : ByteArray → Option (Int × Int)) (x : S58) : evP m x = evNode m x (x.f5.map (evP m)) := by
  rw [evP]
  congr 1
  conv => rhs; rw [← List.attach_map_subtype_val x.f5, List.map_map]
  rfl

/-- the asker's block -/
abbrev AB (W : World) (ab mb : Nat) (err : Int) : Prop := W.heap[ab]? = some (.cells #[.map (some mb), .int .i64 err] 154 (0, 0))
theorem AB.set {W : World} {ab mb : Nat} {err : Int} (h : AB W ab mb err) (e : Int) : AB (W.setCell ⟨ab, 1, none⟩ (.int .i64 e)) ab mb e := by
  obtain ⟨hlt, hk⟩ := Array.getElem?_eq_some_iff.1 h
  show (W.heap.modify ab _)[ab]? = _
  rw [Array.getElem?_eq_getElem (by rw [Array.size_modify]; exact hlt), Array.getElem_modify_self, hk]
  rfl
theorem But.set {n₀ b : Nat} (W : World) (o : Nat) (v : Value) : But n₀ b W (W.setCell ⟨b, o, none⟩ v) :=
  ⟨rfl, rfl, rfl, by rw [World.size_setCell]; exact Nat.le_refl _, fun k _ hb => Below.heap_setCell _ _ _ k hb⟩
theorem AB.below {W W' : World} {ab mb : Nat} {err : Int} (h : AB W ab mb err) (hb : Below W.heap.size W W') : AB W' ab mb err := (hb.block ab (Array.getElem?_eq_some_iff.1 h).1).trans h
theorem But.mono {n₀ n₁ b : Nat} {A B : World} (h : But n₀ b A B) (hn : n₁ ≤ n₀) : But n₁ b A B := ⟨h.os, h.tape, h.output, h.size, fun k hk hb => h.block k (by omega) hb⟩
theorem AB.lt {W : World} {ab mb : Nat} {err : Int} (h : AB W ab mb err) : ab < W.heap.size := (Array.getElem?_eq_some_iff.1 h).1

theorem res86 {tmps : Array Value} {W : World} {b : Nat} {p : Int × Int} (h : tmps.getD 4 undef = .pointer (some ⟨b, 0, none⟩)) (hc : W.heap[b]? = some (.cells #[.int .i64 p.1, .int .i64 p.2] 67 (0, 0))) : (results Try.f86 tmps).run Try.prog W = .ok (encP p) W := by
  have h' : tmps[4]?.getD undef = .pointer (some ⟨b, 0, none⟩) := by simpa using h
  have c0 : W.cell? ⟨b, 0, none⟩ = some (.int .i64 p.1) := (cell_blk hc 0).trans rfl
  have c1 : W.cell? ⟨b, 1, none⟩ = some (.int .i64 p.2) := (cell_blk hc 1).trans rfl
  simp [results, Try.results86, h', go_sem, c0, c1]
theorem name_calls {W : World} {ab mb : Nat} {m : ByteArray → Option (Int × Int)} (hA : AB W ab mb 0) (hM : MapV encP W mb m) {s : ByteArray} (hs : s.size ≤ maxLen) :
    Calls Try.prog 86 #[.pointer (some ⟨ab, 0, none⟩), .string s] W fun e W' => e = .returned (encP (nameP (m s)).1) ∧ AB W' ab mb (nameP (m s)).2 ∧ But W.heap.size ab W W' := by
  have c0 : W.cell? ⟨ab, 0, none⟩ = some (.map (some mb)) := (cell_blk hA 0).trans rfl
  have hl := ((hM.below ((Below.refl _ W).alloc (Nat.le_refl _) (.cells #[.int .i64 0, .int .i64 0] 67))).lookup Try.underlying61 (z := encP (0, 0)) Try.zeroValue67 hs).1
  have c1 : W.cell? ⟨ab, 1, none⟩ = some (.int .i64 0) := (cell_blk hA 1).trans rfl
  have z1 := frozen_blk hA 1
  have HA := Lib.hid hA
  have hlt := hA.lt
  clear hA
  cases hm : m s with
  | none =>
    rw [hm] at hl
    dsimp only [lookV, encP, Option.isSome] at hl
    clear hM hm
    go_enter Try.func86, Try.ntmps86
    go_wp2
    have hb1 : Below (W.setCell ⟨ab, 1, none⟩ (.int .i64 5)).heap.size (W.setCell ⟨ab, 1, none⟩ (.int .i64 5)) ((W.setCell ⟨ab, 1, none⟩ (.int .i64 5)).alloc (.cells #[.int .i64 0, .int .i64 0] 67)) := (Below.refl _ _).alloc (Nat.le_refl _) _
    have hb2 := hb1.alloc (o := .cells #[.int .i64 0, .int .i64 0] 67) hb1.size
    have hS : (W.setCell ⟨ab, 1, none⟩ (.int .i64 5)).heap.size = W.heap.size := World.size_setCell ..
    have hnew : ((W.setCell ⟨ab, 1, none⟩ (.int .i64 5)).alloc (.cells #[.int .i64 0, .int .i64 0] 67)).heap[W.heap.size]? = some (.cells #[.int .i64 0, .int .i64 0] 67 (0, 0)) := by
      rw [← hS]; exact World.alloc_heap_new _ _
    have hnew2 := (Below.heap_alloc ((W.setCell ⟨ab, 1, none⟩ (.int .i64 5)).alloc (.cells #[.int .i64 0, .int .i64 0] 67)) (.cells #[.int .i64 0, .int .i64 0] 67) W.heap.size (by rw [World.size_alloc, hS]; omega)).trans hnew
    refine bodyPost_ret (v := encP (0, 0)) (res86 rfl hnew2) rfl ⟨rfl, ?_, ?_⟩
    · exact ((HA.out.set 5).below hb2)
    · exact (But.set W 1 _).trans (But.of_below hb2 (by rw [hS]; exact Nat.le_refl _))
  | some p =>
    rw [hm] at hl
    dsimp only [lookV, encP, Option.isSome] at hl
    clear hM hm
    go_enter Try.func86, Try.ntmps86
    go_wp2
    have hb1 : Below W.heap.size W (W.alloc (.cells #[.int .i64 p.1, .int .i64 p.2] 67)) := (Below.refl _ _).alloc (Nat.le_refl _) _
    have hb2 := hb1.alloc (o := .cells #[.int .i64 p.1, .int .i64 p.2] 67) hb1.size
    have hnew2 := (Below.heap_alloc (W.alloc (.cells #[.int .i64 p.1, .int .i64 p.2] 67)) (.cells #[.int .i64 p.1, .int .i64 p.2] 67) W.heap.size (by rw [World.size_alloc]; omega)).trans (World.alloc_heap_new W (.cells #[.int .i64 p.1, .int .i64 p.2] 67))
    refine bodyPost_ret (v := encP p) (res86 rfl hnew2) rfl ⟨rfl, ?_, ?_⟩
    · exact HA.out.below hb2
    · exact But.of_below hb2 (Nat.le_refl _)

/-! ### of: a kid's number -/
/-- what the asker's exp does at an expression -/
def ExpOK (w0 : World) (ab mb : Nat) (m : ByteArray → Option (Int × Int)) (x : S58) : Prop :=
  ∀ (A6 : Option Addr) (c6 : Nat) (err : Int) (W : World), Kd.C k58 w0 A6 x.f5.length x.f5 → Below w0.heap.size w0 W → AB W ab mb err →
    Calls Try.prog 70 #[.pointer (some ⟨ab, 0, none⟩), .agg (eX x A6 c6)] W fun e W' => e = .returned (encP (evP m x err).1) ∧ AB W' ab mb (evP m x err).2 ∧ But W.heap.size ab W W'

set_option maxHeartbeats 1000000 in
theorem of_calls {w0 : World} {ab mb : Nat} {m : ByteArray → Option (Int × Int)} {x : S58} (hE : ExpOK w0 ab mb m x) {A6 : Option Addr} {c6 : Nat} {err : Int} {W : World} (hC : Kd.C k58 w0 A6 x.f5.length x.f5) (hW : Below w0.heap.size w0 W) (hA : AB W ab mb err) (kind : Int) :
    Calls Try.prog 87 #[.pointer (some ⟨ab, 0, none⟩), .agg (eX x A6 c6), .int .i64 kind] W fun e W' => e = .returned (.int .i64 (ofP (evP m x err) kind).1) ∧ AB W' ab mb (ofP (evP m x err) kind).2 ∧ But W.heap.size ab W W' := by
  have hb1 : Below W.heap.size W (W.alloc (.cells (eX x A6 c6) 58)) := (Below.refl _ _).alloc (Nat.le_refl _) _
  have hI := hE A6 c6 err _ hC (hW.trans (hb1.mono hW.size)) (hA.below hb1)
  obtain ⟨r, hr⟩ : ∃ r, r = evP m x err := ⟨_, rfl⟩
  rw [← hr] at hI ⊢
  obtain ⟨⟨k, n⟩, er⟩ := r
  have hlt := hA.lt
  clear hr hC hE hA
  have HB1 := Lib.hid hb1
  clear hb1 hW
  have hs1 : (W.alloc (.cells (eX x A6 c6) 58)).heap.size = W.heap.size + 1 := by simp
  by_cases he : er = 0
  · subst he
    by_cases hk : k = kind
    · subst hk
      have HO := Lib.hid (show ofP ((k, n), 0) k = (n, 0) by simp [ofP])
      go_enter Try.func87, Try.ntmps87
      go_wp2_with fail
      refine hI.mono ?_
      rintro e W2 ⟨rfl, hA2, hb2⟩
      have c1 : W2.cell? ⟨ab, 1, none⟩ = some (.int .i64 0) := (cell_blk hA2 1).trans rfl
      have HA2 := Lib.hid hA2
      have hlt2 := hA2.lt
      have HB2 := Lib.hid hb2
      clear hA2 hb2 hI
      dsimp only [encP]
      go_wp2
      go_ret
      have hb3 : Below W2.heap.size W2 (W2.alloc (.cells #[.int .i64 k, .int .i64 n] 67)) := (Below.refl _ _).alloc (Nat.le_refl _) _
      refine ⟨by rw [HO.out]; rfl, by rw [HO.out]; exact HA2.out.below hb3, ((But.of_below HB1.out (Nat.le_refl _)).trans (HB2.out.mono (by omega))).trans (But.of_below hb3 (by have := HB2.out.size; omega))⟩
    · have hkb : (k != kind) = true := by simpa using hk
      have HO := Lib.hid (show ofP ((k, n), 0) kind = (n, 7) by simp [ofP, hk])
      go_enter Try.func87, Try.ntmps87
      go_wp2_with fail
      refine hI.mono ?_
      rintro e W2 ⟨rfl, hA2, hb2⟩
      have c1 : W2.cell? ⟨ab, 1, none⟩ = some (.int .i64 0) := (cell_blk hA2 1).trans rfl
      have z1 := frozen_blk hA2 1
      have HA2 := Lib.hid hA2
      have hlt2 := hA2.lt
      have HB2 := Lib.hid hb2
      clear hA2 hb2 hI
      dsimp only [encP]
      go_wp2
      go_ret
      have hS : (W2.setCell ⟨ab, 1, none⟩ (.int .i64 7)).heap.size = W2.heap.size := World.size_setCell ..
      have hb3 : Below (W2.setCell ⟨ab, 1, none⟩ (.int .i64 7)).heap.size (W2.setCell ⟨ab, 1, none⟩ (.int .i64 7)) ((W2.setCell ⟨ab, 1, none⟩ (.int .i64 7)).alloc (.cells #[.int .i64 k, .int .i64 n] 67)) := (Below.refl _ _).alloc (Nat.le_refl _) _
      refine ⟨by rw [HO.out]; rfl, by rw [HO.out]; exact (HA2.out.set 7).below hb3, (((But.of_below HB1.out (Nat.le_refl _)).trans (HB2.out.mono (by omega))).trans (But.set W2 1 _)).trans (But.of_below hb3 (by have := HB2.out.size; omega))⟩
  · have heb : (er == 0) = false := by simpa using he
    have HO := Lib.hid (show ofP ((k, n), er) kind = (n, er) by simp [ofP, he])
    go_enter Try.func87, Try.ntmps87
    go_wp2_with fail
    refine hI.mono ?_
    rintro e W2 ⟨rfl, hA2, hb2⟩
    have c1 : W2.cell? ⟨ab, 1, none⟩ = some (.int .i64 er) := (cell_blk hA2 1).trans rfl
    have HA2 := Lib.hid hA2
    have hlt2 := hA2.lt
    have HB2 := Lib.hid hb2
    clear hA2 hb2 hI
    dsimp only [encP]
    go_wp2
    all_goals first
      | (rename_i hu1 hu2; cases hu1; done)
      | (refine ⟨trivial, ?_⟩
         go_wp2
         go_ret
         have hb3 : Below W2.heap.size W2 (W2.alloc (.cells #[.int .i64 k, .int .i64 n] 67)) := (Below.refl _ _).alloc (Nat.le_refl _) _
         refine ⟨by rw [HO.out]; rfl, by rw [HO.out]; exact HA2.out.below hb3, ((But.of_below HB1.out (Nat.le_refl _)).trans (HB2.out.mono (by omega))).trans (But.of_below hb3 (by have := HB2.out.size; omega))⟩)
      | (go_ret
         have hb3 : Below W2.heap.size W2 (W2.alloc (.cells #[.int .i64 k, .int .i64 n] 67)) := (Below.refl _ _).alloc (Nat.le_refl _) _
         refine ⟨by rw [HO.out]; rfl, by rw [HO.out]; exact HA2.out.below hb3, ((But.of_below HB1.out (Nat.le_refl _)).trans (HB2.out.mono (by omega))).trans (But.of_below hb3 (by have := HB2.out.size; omega))⟩)
end Go.Proofs.Ytoakelgcbbbieaa
