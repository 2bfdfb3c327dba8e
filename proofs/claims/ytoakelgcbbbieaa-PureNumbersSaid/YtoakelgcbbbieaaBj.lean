/- The value of any expression as the document reckons it: of; the leaves and not. -/
import Derived.Test.YtoakelgcbbbieaaBi
import Derived.Test.YtoakelgcbbbieaaAe
namespace Go.Proofs.Ytoakelgcbbbieaa
open Go.RowKit Go.Maps Go.Shelf Go.Proofs.YtoakelgcbbbieaaW.PrintWords Go.Proofs.YtoakelgcbbbieaaW.PrintLast Go.Proofs.YtoakelgcbbbieaaW.PrintMore
set_option linter.unusedVariables false
set_option linter.unusedSimpArgs false
set_option maxRecDepth 100000

theorem S75.sizeOf_kid {x y : S75} (h : y ∈ x.f5) : SizeOf.sizeOf y < SizeOf.sizeOf x := by
  have := List.sizeOf_lt_of_mem h
  cases x
  simp only [S75.mk.sizeOf_spec] at *
  omega
/-- an expression that may be pure, of short names -/
inductive ShR : S75 → Prop
  | mk (x : S75) : manyI x.f0 = (x.f5.length : Int) → x.f1.f0.size ≤ maxLen → (∀ y ∈ x.f5, ShR y) → ShR x

def ofR (r : ER) (kind : Int) : Int × Int := if r.2 ≠ 0 then (0, r.2) else if r.1.1 ≠ kind then (0, 7) else (r.1.2, 0)
def kidR (fs : List ER) (i : Nat) : ER := fs.getD i ((0, 0), 0)
def evNodeR (m : ByteArray → Option (Int × Int)) (x : S75) (fs : List ER) : ER :=
  if x.f0 = 25 then ((1, wrN x.f2), 0) else
  if x.f0 = 26 then (truthP true, 0) else
  if x.f0 = 27 then (truthP false, 0) else
  if x.f0 = 29 then ((3, 0), 0) else
  if x.f0 = 28 then nameP (m x.f1.f0) else
  if x.f0 = 21 then
    let a := ofR (kidR fs 0) 2
    if a.2 ≠ 0 then ((0, 0), a.2) else (truthP (a.1 == 0), 0)
  else if x.f0 = 16 then
    let a := ofR (kidR fs 0) 2
    if a.2 ≠ 0 then ((0, 0), a.2) else if a.1 = 0 then (truthP false, 0) else
      let b := ofR (kidR fs 1) 2
      if b.2 ≠ 0 then ((0, 0), b.2) else (truthP (b.1 != 0), 0)
  else
    let a := ofR (kidR fs 0) 1
    if a.2 ≠ 0 then ((0, 0), a.2) else
      let b := ofR (kidR fs 1) 1
      if b.2 ≠ 0 then ((0, 0), b.2) else (twoP x.f0 a.1 b.1, 0)
def evR (m : ByteArray → Option (Int × Int)) (x : S75) : ER := evNodeR m x (x.f5.attach.map (fun y => evR m y.1))
termination_by SizeOf.sizeOf x
decreasing_by exact S75.sizeOf_kid y.2
theorem evR_eq (m : ByteArray → Option (Int × Int)) (x : S75) : evR m x = evNodeR m x (x.f5.map (evR m)) := by
  rw [evR]
  congr 1
  conv => rhs; rw [← List.attach_map_subtype_val x.f5, List.map_map]
  rfl

abbrev eY (x : S75) (A6 : Option Addr) (c6 : Nat) : Array Value := #[.int .i64 x.f0, .string x.f1.f0, .int .i64 x.f1.f1, .int .i64 x.f2, .int .i64 x.f3, .int .i64 x.f4, .slice A6 x.f5.length c6]
/-- what the document's Eval does at an expression -/
def EvOK (mb : Nat) (m : ByteArray → Option (Int × Int)) (x : S75) : Prop :=
  ∀ (A6 : Option Addr) (c6 : Nat) (W : World), Kd.C k75 W A6 x.f5.length x.f5 → MapV encP W mb m →
    Calls Try.prog 40 #[.agg (eY x A6 c6), .map (some mb)] W fun e W' => e = .returned (.tuple #[encP (evR m x).1, .int .i64 (evR m x).2]) ∧ Below W.heap.size W W'

/-- the document's Wrap is the program's -/
theorem wrapR (n : Int) : namesakeref27_Wrap.f n = some (wrN n) := by
  have hT : ∀ a : Int, Int.tmod a 4294967296 = if 0 ≤ a then a % 4294967296 else - ((-a) % 4294967296) := fun a => by
    split
    · rename_i h; exact Int.tmod_eq_emod_of_nonneg h
    · rename_i h
      have h2 : Int.tmod a 4294967296 = - Int.tmod (-a) 4294967296 := by rw [Int.neg_tmod, Int.neg_neg]
      rw [h2, Int.tmod_eq_emod_of_nonneg (by omega)]
  unfold namesakeref27_Wrap.f wrN wrap64 wrap32
  rw [hT]
  split <;> (repeat' split) <;> (congr 1; omega)

set_option maxHeartbeats 1000000 in
theorem ofR_calls {mb : Nat} {m : ByteArray → Option (Int × Int)} {x : S75} (hE : EvOK mb m x) {A6 : Option Addr} {c6 : Nat} {W : World} (hC : Kd.C k75 W A6 x.f5.length x.f5) (hM : MapV encP W mb m) (kind : Int) :
    Calls Try.prog 72 #[.agg (eY x A6 c6), .map (some mb), .int .i64 kind] W fun e W' => e = .returned (.tuple #[.int .i64 (ofR (evR m x) kind).1, .int .i64 (ofR (evR m x) kind).2]) ∧ Below W.heap.size W W' := by
  have hb1 : Below W.heap.size W (W.alloc (.cells (eY x A6 c6) 75)) := (Below.refl _ _).alloc (Nat.le_refl _) _
  have hI := hE A6 c6 _ (Kd.C_below hC hb1) (hM.below hb1)
  obtain ⟨r, hr⟩ : ∃ r, r = evR m x := ⟨_, rfl⟩
  rw [← hr] at hI ⊢
  obtain ⟨⟨k, n⟩, er⟩ := r
  have HB1 := Lib.hid hb1
  clear hr hC hM hE hb1
  have hs1 : (W.alloc (.cells (eY x A6 c6) 75)).heap.size = W.heap.size + 1 := by simp
  by_cases he : er = 0
  · subst he
    by_cases hk : k = kind
    · subst hk
      have HO := Lib.hid (show ofR ((k, n), 0) k = (n, 0) by simp [ofR])
      go_enter Try.func72, Try.ntmps72
      go_wp2_with fail
      refine hI.mono ?_
      rintro e W2 ⟨rfl, hb2⟩
      have HB2 := Lib.hid hb2
      clear hb2 hI
      dsimp only [encP]
      go_wp2
      go_ret2
      refine ⟨by rw [HO.out]; rfl, ((HB1.out.trans (HB2.out.mono (by omega))).trans ((Below.refl _ _).alloc (by have := HB2.out.size; omega) _))⟩
    · have hkb : (k != kind) = true := by simpa using hk
      have HO := Lib.hid (show ofR ((k, n), 0) kind = (0, 7) by simp [ofR, hk])
      go_enter Try.func72, Try.ntmps72
      go_wp2_with fail
      refine hI.mono ?_
      rintro e W2 ⟨rfl, hb2⟩
      have HB2 := Lib.hid hb2
      clear hb2 hI
      dsimp only [encP]
      go_wp2
      go_ret2
      refine ⟨by rw [HO.out]; rfl, ((HB1.out.trans (HB2.out.mono (by omega))).trans ((Below.refl _ _).alloc (by have := HB2.out.size; omega) _))⟩
  · have heb : (er != 0) = true := by simpa using he
    have HO := Lib.hid (show ofR ((k, n), er) kind = (0, er) by simp [ofR, he])
    go_enter Try.func72, Try.ntmps72
    go_wp2_with fail
    refine hI.mono ?_
    rintro e W2 ⟨rfl, hb2⟩
    have HB2 := Lib.hid hb2
    clear hb2 hI
    dsimp only [encP]
    go_wp2
    go_ret2
    refine ⟨by rw [HO.out]; rfl, ((HB1.out.trans (HB2.out.mono (by omega))).trans ((Below.refl _ _).alloc (by have := HB2.out.size; omega) _))⟩

theorem res40 {tmps : Array Value} {W : World} {b : Nat} {p : Int × Int} {er : Int} (h : tmps.getD 4 undef = .pointer (some ⟨b, 0, none⟩)) (h5 : tmps.getD 5 undef = .int .i64 er) (c0 : W.cell? ⟨b, 0, none⟩ = some (.int .i64 p.1)) (c1 : W.cell? ⟨b, 1, none⟩ = some (.int .i64 p.2)) : (results Try.f40 tmps).run Try.prog W = .ok (.tuple #[encP p, .int .i64 er]) W := by
  have h' : tmps[4]?.getD undef = .pointer (some ⟨b, 0, none⟩) := by simpa using h
  have h5' : tmps[5]?.getD undef = .int .i64 er := by simpa using h5
  simp [results, Try.results40, h', h5', go_sem, c0, c1]
/-- what the last store into the result leaves -/
theorem fin40 {w W2 : World} {b : Nat} {p : Int × Int} {er : Int} {r : ER} {u v : Value} {tmps : Array Value} (hr : r = (p, er))
    (h : tmps.getD 4 undef = .pointer (some ⟨b, 0, none⟩)) (h5 : tmps.getD 5 undef = .int .i64 er) (hb : W2.heap[b]? = some (.cells #[u, v] 81 (0, 0))) (hne : w.heap.size ≤ b) (hB : Below w.heap.size w W2) :
    bodyPost Try.prog Try.f40 (fun e w' => e = .returned (.tuple #[encP r.1, .int .i64 r.2]) ∧ Below w.heap.size w w') .ret { tmps := tmps, defers := [] } ((W2.setCell ⟨b, 0, none⟩ (.int .i64 p.1)).setCell ⟨b, 1, none⟩ (.int .i64 p.2)) := by
  have h2 := heap_setCell_same (heap_setCell_same hb 0 (.int .i64 p.1)) 1 (.int .i64 p.2)
  exact bodyPost_ret (v := .tuple #[encP p, .int .i64 er]) (res40 h h5 ((cell_blk h2 0).trans rfl) ((cell_blk h2 1).trans rfl)) rfl ⟨by rw [hr], (hB.setCell (p := ⟨b, 0, none⟩) hne (.int .i64 p.1)).setCell (p := ⟨b, 1, none⟩) hne (.int .i64 p.2)⟩
/-- the same where the store fell together with the making of the cell -/
theorem fin40' {w V : World} {b : Nat} {p : Int × Int} {er : Int} {r : ER} {tmps : Array Value} (hr : r = (p, er))
    (h : tmps.getD 4 undef = .pointer (some ⟨b, 0, none⟩)) (h5 : tmps.getD 5 undef = .int .i64 er) (hb : V.heap[b]? = some (.cells #[.int .i64 p.1, .int .i64 p.2] 81 (0, 0))) (hB : Below w.heap.size w V) :
    bodyPost Try.prog Try.f40 (fun e w' => e = .returned (.tuple #[encP r.1, .int .i64 r.2]) ∧ Below w.heap.size w w') .ret { tmps := tmps, defers := [] } V :=
  bodyPost_ret (v := .tuple #[encP p, .int .i64 er]) (res40 h h5 ((cell_blk hb 0).trans rfl) ((cell_blk hb 1).trans rfl)) rfl ⟨by rw [hr], hB⟩

theorem two_allocs (W : World) (a : Obj) (cs : Array Value) (t : TypeId) : ((W.alloc a).alloc (.cells cs t)).heap[W.heap.size + 1]? = some (.cells cs t (0, 0)) ∧ Below W.heap.size W ((W.alloc a).alloc (.cells cs t)) := by
  refine ⟨?_, ((Below.refl _ _).alloc (Nat.le_refl _) _).alloc (by simp) _⟩
  have := World.alloc_heap_new (W.alloc a) (.cells cs t)
  rwa [World.size_alloc] at this
theorem three_allocs (W : World) (a b : Obj) (cs : Array Value) (t : TypeId) : (((W.alloc a).alloc (.cells cs t)).alloc b).heap[W.heap.size + 1]? = some (.cells cs t (0, 0)) ∧ Below W.heap.size W (((W.alloc a).alloc (.cells cs t)).alloc b) := by
  obtain ⟨h1, h2⟩ := two_allocs W a cs t
  exact ⟨(Below.heap_alloc _ _ _ (by simp)).trans h1, h2.alloc h2.size _⟩
theorem rtruth_f (b : Bool) : namesakeref27_truth.f b = some ((truthP b).1, (truthP b).2) := by cases b <;> rfl

set_option maxHeartbeats 2000000 in
theorem ev_leaf {mb : Nat} {m : ByteArray → Option (Int × Int)} {x : S75} (hx : x.f0 = 25 ∨ x.f0 = 26 ∨ x.f0 = 27 ∨ x.f0 = 28 ∨ x.f0 = 29) (hn : x.f1.f0.size ≤ maxLen) : EvOK mb m x := by
  intro A6 c6 W hC hM
  have HE := Lib.hid (evR_eq m x)
  obtain ⟨f0, f1, f2, f3, f4, f5⟩ := x
  dsimp only at hx hn
  obtain ⟨W1, hW1⟩ : ∃ W1, W1 = (W.alloc (.cells (eY ⟨f0, f1, f2, f3, f4, f5⟩ A6 c6) 75)).alloc (.cells #[.int .i64 0, .int .i64 0] 81) := ⟨_, rfl⟩
  have hb1 : Below W.heap.size W W1 := by rw [hW1]; exact ((Below.refl _ _).alloc (Nat.le_refl _) _).alloc (by simp) _
  have hnew : W1.heap[W.heap.size + 1]? = some (.cells #[.int .i64 0, .int .i64 0] 81 (0, 0)) := by
    rw [hW1]
    have := World.alloc_heap_new (W.alloc (.cells (eY ⟨f0, f1, f2, f3, f4, f5⟩ A6 c6) 75)) (.cells #[.int .i64 0, .int .i64 0] 81)
    rwa [World.size_alloc] at this
  have hs1 : W1.heap.size = W.heap.size + 2 := by rw [hW1]; simp
  have HB1 := Lib.hid hb1
  have HN := Lib.hid hnew
  have HS1 := Lib.hid hs1
  have HW1 := Lib.hid hW1
  have hl := ((hM.below hb1).lookup Try.underlying62 (z := encP (0, 0)) Try.zeroValue81 hn).1
  clear hb1 hnew hs1 hC hM
  rcases hx with rfl | rfl | rfl | rfl | rfl
  · clear hl hW1
    go_enter Try.func40, Try.ntmps40
    go_wp2_with (go_at_call 45; refine (namesakeref27_Wrap.calls f2 (wrN f2) _ (wrapR f2)).mono ?_; rintro e w2 ⟨rfl, ⟨nd, rfl⟩⟩)
    rw [← HW1.out]
    have hd := below_drawn W1 nd
    exact fin40 (p := (1, wrN f2)) (er := 0) (by rw [HE.out]; simp [evNodeR]) rfl rfl ((hd.block _ (by have := HS1.out; omega)).trans HN.out) (Nat.le_succ _) (HB1.out.trans (hd.mono HB1.out.size))
  · clear hl hW1
    go_enter Try.func40, Try.ntmps40
    go_wp2_with (go_at_call 71; rw [← HW1.out]; refine (namesakeref27_truth.calls true 2 1 _ rfl).mono ?_; rintro e w2 ⟨rfl, hd⟩; have hc0 : w2.cell? ⟨W.heap.size + 1, 0, none⟩ = some (.int .i64 0) := cell_later hd ((cell_blk HN.out 0).trans rfl); have hc1 : w2.cell? ⟨W.heap.size + 1, 1, none⟩ = some (.int .i64 0) := cell_later hd ((cell_blk HN.out 1).trans rfl); have hf := frozen_blk ((hd.block _ (by have := HS1.out; omega)).trans HN.out))
    exact fin40 (p := (2, 1)) (er := 0) (by rw [HE.out]; rfl) rfl rfl ((hd.block _ (by have := HS1.out; omega)).trans HN.out) (Nat.le_succ _) (HB1.out.trans (hd.mono HB1.out.size))
  · clear hl hW1
    go_enter Try.func40, Try.ntmps40
    go_wp2_with (go_at_call 71; rw [← HW1.out]; refine (namesakeref27_truth.calls false 2 0 _ rfl).mono ?_; rintro e w2 ⟨rfl, hd⟩; have hc0 : w2.cell? ⟨W.heap.size + 1, 0, none⟩ = some (.int .i64 0) := cell_later hd ((cell_blk HN.out 0).trans rfl); have hc1 : w2.cell? ⟨W.heap.size + 1, 1, none⟩ = some (.int .i64 0) := cell_later hd ((cell_blk HN.out 1).trans rfl); have hf := frozen_blk ((hd.block _ (by have := HS1.out; omega)).trans HN.out))
    exact fin40 (p := (2, 0)) (er := 0) (by rw [HE.out]; rfl) rfl rfl ((hd.block _ (by have := HS1.out; omega)).trans HN.out) (Nat.le_succ _) (HB1.out.trans (hd.mono HB1.out.size))
  · subst hW1
    cases hm : m f1.f0 with
    | none =>
      rw [hm] at hl
      dsimp only [lookV, encP, Option.isSome] at hl
      have HE' := Lib.hid (show evR m ⟨28, f1, f2, f3, f4, f5⟩ = ((0, 0), 5) by rw [HE.out]; show nameP (m f1.f0) = _; rw [hm]; rfl)
      clear hm
      go_enter Try.func40, Try.ntmps40
      go_wp2
      exact fin40' (p := (0, 0)) (er := 5) HE'.out rfl rfl (three_allocs _ _ _ _ _).1 (three_allocs _ _ _ _ _).2
    | some p =>
      rw [hm] at hl
      dsimp only [lookV, encP, Option.isSome] at hl
      have HE' := Lib.hid (show evR m ⟨28, f1, f2, f3, f4, f5⟩ = (p, 0) by rw [HE.out]; show nameP (m f1.f0) = _; rw [hm]; rfl)
      clear hm
      go_enter Try.func40, Try.ntmps40
      go_wp2
      exact fin40' (p := p) (er := 0) HE'.out rfl rfl (three_allocs _ _ _ _ _).1 (three_allocs _ _ _ _ _).2
  · clear hl hW1
    go_enter Try.func40, Try.ntmps40
    go_wp2
    exact fin40' (p := (3, 0)) (er := 0) (by rw [HE.out]; rfl) rfl rfl (two_allocs _ _ _ _).1 (two_allocs _ _ _ _).2
end Go.Proofs.Ytoakelgcbbbieaa
