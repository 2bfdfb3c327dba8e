/- Heads as tables, walked: the program's and the document's tables tell the same heads. -/
import Derived.Test.YtoakelgcbbbieaaN
import Derived.Test.YtoakelgcbbbieaaO
import Derived.Test.YtoakelgcbbbieaaR
import Derived.Test.YtoakelgcbbbieaaD
namespace Go.Proofs.Ytoakelgcbbbieaa
open Go.RowKit Go.Maps Go.Proofs.YtoakelgcbbbieaaW.PrintWords Go.Proofs.YtoakelgcbbbieaaW.PrintLast Go.Proofs.YtoakelgcbbbieaaW.PrintMore
set_option linter.unusedVariables false
set_option linter.unusedSimpArgs false
set_option maxRecDepth 100000

abbrev zClass : Value := .agg #[.bool false, .string ⟨#[]⟩, .int .i64 0, .string ⟨#[]⟩, .int .i64 0, .slice none 0 0, .slice none 0 0, .string ⟨#[]⟩, .int .i64 0, .slice none 0 0]
theorem info122 : (Try.prog.info? 122).map (fun i => (i.zero, i.size, i.bytes)) = some (some zClass, 10, 152) := by kernel_rfl
theorem info138 : (Try.prog.info? 138).map (fun i => (i.zero, i.size, i.bytes)) = some (some zClass, 10, 152) := by kernel_rfl
theorem info132 : (Try.prog.info? 132).map (fun i => (i.zero, i.size, i.bytes)) = some (some (.slice none 0 0), 1, 24) := by kernel_rfl
theorem info133 : (Try.prog.info? 133).map (fun i => (i.zero, i.size, i.bytes)) = some (some (.slice none 0 0), 1, 24) := by kernel_rfl

/-- a head as a class -/
def mkC (h : S129) : S122 := ⟨h.f2, ⟨h.f0, h.f4⟩, ⟨h.f1, h.f4⟩, [], [], ⟨⟨#[]⟩, 0⟩, []⟩
def mkD (h : S129) : S138 := ⟨h.f2, ⟨h.f0, h.f4⟩, ⟨h.f1, h.f4⟩, [], [], ⟨⟨#[]⟩, 0⟩, []⟩
abbrev hCells (h : S129) : List Value := [.bool h.f2, .string h.f0, .int .i64 h.f4, .string h.f1, .int .i64 h.f4, .slice none 0 0, .slice none 0 0, .string ⟨#[]⟩, .int .i64 0, .slice none 0 0]
theorem mkC_K (w : World) (h : S129) : k122.K w (mkC h) (hCells h) := k122_mk w (mkC h) (Nat.zero_le 0) (Kd.C_nil _ _) (Nat.zero_le 0) (Kd.C_nil _ _) (Nat.zero_le 0) (Kd.C_nil _ _)
theorem mkD_K (w : World) (h : S129) : k138.K w (mkD h) (hCells h) := k138_mk w (mkD h) (Nat.zero_le 0) (Kd.C_nil _ _) (Nat.zero_le 0) (Kd.C_nil _ _) (Nat.zero_le 0) (Kd.C_nil _ _)

/-- file by file -/
def opens (gs : List (List S129)) (h : S129) : List (List S129) := if gs = [] ∨ h.f3 > 0 then gs ++ [[]] else gs
def addG (gs : List (List S129)) (h : S129) : List (List S129) := (opens gs h).dropLast ++ [(opens gs h).getLast?.getD [] ++ [h]]
def groups (hs : List S129) : List (List S129) := hs.foldl addG []

/-- both lists under construction -/
structure Two (w wr : World) (v4 v5 : Value) (vs us : List Value) (gs : List (List S129)) : Prop where
  all : RowsOf (k122.K w) 122 132 10 wr w.heap.size v4 vs (gs.map (fun l => l.map mkC))
  doc : RowsOf (k138.K w) 138 133 10 wr w.heap.size v5 us (gs.map (fun l => l.map mkD))
  below : Below w.heap.size w wr

theorem opens_ne (gs : List (List S129)) (h : S129) : ∃ gs0 gl, opens gs h = gs0 ++ [gl] := by
  unfold opens
  split
  · exact ⟨gs, [], rfl⟩
  · rename_i hn
    have hne : gs ≠ [] := fun e => hn (.inl e)
    exact ⟨gs.dropLast, gs.getLast hne, (List.dropLast_concat_getLast hne).symm⟩
theorem addG_eq {gs gs0 : List (List S129)} {gl : List S129} {h : S129} (e : opens gs h = gs0 ++ [gl]) : addG gs h = gs0 ++ [gl ++ [h]] := by
  unfold addG; rw [e]; simp
theorem groups_snoc (hs : List S129) (h : S129) : groups (hs ++ [h]) = addG (groups hs) h := by simp [groups, List.foldl_append]
theorem groups_nil {hs : List S129} : groups hs = [] ↔ hs = [] := by
  constructor
  · intro h
    rcases List.eq_nil_or_concat hs with e | ⟨l, x, e⟩
    · exact e
    · rw [List.concat_eq_append] at e
      subst e
      rw [groups_snoc] at h
      obtain ⟨a, b, e⟩ := opens_ne (groups l) x
      rw [addG_eq e] at h
      simp at h
  · rintro rfl; rfl

theorem addG_le (gs : List (List S129)) (h : S129) : (addG gs h).length ≤ gs.length + 1 := by
  obtain ⟨a, b, e⟩ := opens_ne gs h
  rw [addG_eq e]
  unfold opens at e
  split at e
  · have := congrArg List.length e; simp at this ⊢; omega
  · rw [e]; simp
theorem groups_le (hs : List S129) : (groups hs).length ≤ hs.length := by
  rcases List.eq_nil_or_concat hs with e | ⟨l, x, e⟩
  · rw [e]; simp [groups]
  · rw [List.concat_eq_append] at e
    have h1 := groups_le l
    have h2 := addG_le (groups l) x
    rw [e, groups_snoc]; simp; omega
termination_by hs.length
decreasing_by rw [e]; simp

theorem opens_flat (gs : List (List S129)) (h : S129) : (opens gs h).flatten = gs.flatten := by unfold opens; split <;> simp
theorem addG_flat (gs : List (List S129)) (h : S129) : (addG gs h).flatten = gs.flatten ++ [h] := by
  obtain ⟨a, b, e⟩ := opens_ne gs h
  have := opens_flat gs h
  rw [e] at this
  rw [addG_eq e, ← this]; simp
theorem groups_flat (hs : List S129) : (groups hs).flatten = hs := by
  rcases List.eq_nil_or_concat hs with e | ⟨l, x, e⟩
  · rw [e]; rfl
  · rw [List.concat_eq_append] at e
    have h1 := groups_flat l
    rw [e, groups_snoc, addG_flat, h1]
termination_by hs.length
decreasing_by rw [e]; simp
theorem opens_len {gs gs0 : List (List S129)} {gl hs : List S129} {h : S129} (hf : gs.flatten = hs) (hl : gs.length ≤ hs.length) (e : opens gs h = gs0 ++ [gl]) : gs0.length ≤ hs.length ∧ gl.length ≤ hs.length := by
  have h1 := opens_flat gs h
  rw [e, hf] at h1
  have h2 := congrArg List.length h1
  simp at h2
  refine ⟨?_, by omega⟩
  unfold opens at e
  split at e
  · have := congrArg List.length e; simp at this; omega
  · have := congrArg List.length e; simp at this; omega

theorem own_open {w : World} {base e n : Nat} {v : Value} {xs : List Value} (h : w.ownsRow base e 1 v n xs) (hn : 0 < n) : ∃ g c, v = .slice (some ⟨g, 0, none⟩) n c ∧ n ≤ c ∧ base ≤ g ∧ (∀ j u, xs[j]? = some u → w.cell? ⟨g, j, none⟩ = some u) ∧ (∀ j, w.frozen? ⟨g, j, none⟩ = false) ∧ g < w.heap.size ∧ ∃ cs, w.heap[g]? = some (.cells cs e (0, 0)) := by
  have h' := h
  rcases h.2 with ⟨_, h0⟩ | ⟨g, cap, cur, rfl, hb, hg, hc, _⟩
  · omega
  · refine ⟨g, cap, rfl, hc, hb, fun j u hu => ?_, fun j => h.frozenAt j, (Array.getElem?_eq_some_iff.1 hg).1, cur, hg⟩
    have hj := (List.getElem?_eq_some_iff.1 hu).1
    rw [h.1] at hj
    rw [h.cellAt j hj, hu]

/-- the row to be written, of one of the lists -/
theorem RowsOf.last {α : Type} {R : α → List Value → Prop} {e eo size : Nat} {w : World} {base : Nat} {v : Value} {vs : List Value} {ls0 : List (List α)} {l : List α} (h : RowsOf R e eo size w base v vs (ls0 ++ [l])) :
    ∃ vs0 g c Al cl, vs = vs0 ++ [.slice Al l.length cl] ∧ vs0.length = ls0.length ∧ v = .slice (some ⟨g, 0, none⟩) (ls0.length + 1) c ∧ base ≤ g ∧ g < w.heap.size ∧ w.cell? ⟨g, ls0.length, none⟩ = some (.slice Al l.length cl) ∧ w.frozen? ⟨g, ls0.length, none⟩ = false ∧
      OwnRow R e size w base (.slice Al l.length cl) l ∧ ∃ cs, w.heap[g]? = some (.cells cs eo (0, 0)) := by
  have hl := h.len
  rw [List.length_append, List.length_singleton] at hl
  obtain ⟨vl, hvl, ho⟩ := h.inner ls0.length l (by simp)
  obtain ⟨Al, cl, rfl, _⟩ := ho.slice_
  obtain ⟨g, c, hv, _, hb, hcell, hfr, hg, hcs⟩ := own_open h.outer (by omega)
  have hne : vs ≠ [] := by intro e; rw [e] at hl; simp at hl
  have hd := (List.dropLast_concat_getLast hne).symm
  have hlast : vs.getLast hne = .slice Al l.length cl := by
    rw [List.getLast_eq_getElem]
    have := (List.getElem?_eq_some_iff.1 hvl)
    obtain ⟨hlt, he⟩ := this
    rw [← he]; congr 1; omega
  refine ⟨vs.dropLast, g, c, Al, cl, by rw [← hlast]; exact hd, by simp; omega, by rw [hv, hl], hb, hg, hcell _ _ hvl, hfr _, ho, hcs⟩

theorem Two.at_ {w wr w1 : World} {v4 v5 : Value} {vs us : List Value} {gs : List (List S129)} (h : Two w wr v4 v5 vs us gs) (hb : Below wr.heap.size wr w1) : Two w w1 v4 v5 vs us gs :=
  ⟨h.all.grown (row := none) ⟨hb.os, hb.tape, hb.output, hb.size, fun k hk _ => hb.block k hk⟩ (fun b hb => by cases hb), h.doc.grown (row := none) ⟨hb.os, hb.tape, hb.output, hb.size, fun k hk _ => hb.block k hk⟩ (fun b hb => by cases hb), h.below.trans (hb.mono h.below.size)⟩

/-- a new file's rows -/
theorem Two.pushAll {w wr w1 : World} {v4 v5 v1 : Value} {vs us : List Value} {gs : List (List S129)} (h : Two w wr v4 v5 vs us gs) (ho : w1.ownsRow w.heap.size 132 1 v1 (vs.length + 1) (vs ++ [.slice none 0 0])) (hg : wr.grownBy w1 v4.ownBlock) (hb : Below w.heap.size w w1) :
    RowsOf (k122.K w) 122 132 10 w1 w.heap.size v1 (vs ++ [.slice none 0 0]) ((gs ++ [([] : List S129)]).map (fun l => l.map mkC)) ∧ RowsOf (k138.K w) 138 133 10 w1 w.heap.size v5 us (gs.map (fun l => l.map mkD)) := by
  refine ⟨by simpa using h.all.pushNil (by decide) ho hg, h.doc.grown hg (fun b hb => ?_)⟩
  obtain ⟨cs, hc⟩ := own_type h.all.outer hb
  exact ⟨cs, 132, _, hc, by decide, by decide⟩
theorem Two.pushDoc {w wr w1 : World} {v4 v5 v1 : Value} {vs us : List Value} {gs gs' : List (List S129)} (ha : RowsOf (k122.K w) 122 132 10 wr w.heap.size v4 vs (gs'.map (fun l => l.map mkC))) (hd : RowsOf (k138.K w) 138 133 10 wr w.heap.size v5 us (gs.map (fun l => l.map mkD))) (ho : w1.ownsRow w.heap.size 133 1 v1 (us.length + 1) (us ++ [.slice none 0 0])) (hg : wr.grownBy w1 v5.ownBlock) (hb : Below w.heap.size w w1) (hgs : gs' = gs ++ [[]]) :
    Two w w1 v4 v1 vs (us ++ [.slice none 0 0]) gs' := by
  refine ⟨ha.grown hg (fun b hb => ?_), by rw [hgs]; simpa using hd.pushNil (by decide) ho hg, hb⟩
  obtain ⟨cs, hc⟩ := own_type hd.outer hb
  exact ⟨cs, 133, _, hc, by decide, by decide⟩

theorem HX2of {α : Type} {R : α → List Value → Prop} {e eo size : Nat} {w : World} {base : Nat} {v : Value} {vs : List Value} {ls ms : List (List α)} (h : ls = ms) (hr : RowsOf R e eo size w base v vs ms) : RowsOf R e eo size w base v vs ls := by rw [h]; exact hr

theorem opens_yes {gs : List (List S129)} {h : S129} (e : gs = [] ∨ h.f3 > 0) : opens gs h = gs ++ [[]] := by unfold opens; rw [if_pos e]
theorem opens_no {gs : List (List S129)} {h : S129} (e : gs ≠ []) (e2 : ¬ h.f3 > 0) : opens gs h = gs := by unfold opens; rw [if_neg (fun h => h.elim e e2)]

/-! ### the two tables of heads -/
def numFrom (f : Nat) : List (List S129) → List (Nat × S129)
  | [] => []
  | l :: r => l.map (fun h => (f, h)) ++ numFrom (f + 1) r
theorem ents_num (gs : List (List S129)) : ∀ f, entsFrom f (gs.map (fun l => l.map mkC)) = (numFrom f gs).map (fun p => (⟨p.1, mkC p.2⟩ : S124)) := by
  induction gs with
  | nil => intro f; rfl
  | cons l r ih => intro f; simp [entsFrom, numFrom, ih]
theorem rents_num (gs : List (List S129)) : ∀ f, rentsFrom f (gs.map (fun l => l.map mkD)) = (numFrom f gs).map (fun p => (⟨p.1, mkD p.2⟩ : S145)) := by
  induction gs with
  | nil => intro f; rfl
  | cons l r ih => intro f; simp [rentsFrom, numFrom, ih]
theorem num_snd (gs : List (List S129)) : ∀ f, (numFrom f gs).map (fun p => p.2) = gs.flatten := by
  induction gs with
  | nil => intro f; rfl
  | cons l r ih => intro f; simp [numFrom, ih, Function.comp_def]
/-- heads, each with its file's number -/
def nums' (hs : List S129) : List (Nat × S129) := numFrom 0 (groups hs)
def entsH (hs : List S129) : List S124 := (nums' hs).map (fun p => (⟨p.1, mkC p.2⟩ : S124))
def rentsH (hs : List S129) : List S145 := (nums' hs).map (fun p => (⟨p.1, mkD p.2⟩ : S145))
theorem nums_snd (hs : List S129) : (nums' hs).map (fun p => p.2) = hs := by unfold nums'; rw [num_snd, groups_flat]
theorem nums_len (hs : List S129) : (nums' hs).length = hs.length := by rw [← congrArg List.length (nums_snd hs)]; simp
theorem entsH_eq (hs : List S129) : ents ((groups hs).map (fun l => l.map mkC)) = entsH hs := ents_num _ _
theorem rentsH_eq (hs : List S129) : rents ((groups hs).map (fun l => l.map mkD)) = rentsH hs := rents_num _ _
theorem entsH_short {hs : List S129} (h : hs.length ≤ 100000000) : (ents ((groups hs).map (fun l => l.map mkC))).length ≤ 1000000000 := by
  rw [entsH_eq]; unfold entsH; rw [List.length_map, nums_len]; omega
theorem rentsH_short {hs : List S129} (h : hs.length ≤ 100000000) : (rents ((groups hs).map (fun l => l.map mkD))).length ≤ 1000000000 := by
  rw [rentsH_eq]; unfold rentsH; rw [List.length_map, nums_len]; omega
theorem entsH_names {hs : List S129} (h : ∀ x ∈ hs, x.f0.size ≤ maxLen ∧ x.f1.size ≤ maxLen) : ∀ e ∈ ents ((groups hs).map (fun l => l.map mkC)), e.f1.f1.f0.size ≤ maxLen ∧ e.f1.f2.f0.size ≤ maxLen := by
  rw [entsH_eq]
  intro e he
  obtain ⟨p, hp, rfl⟩ := List.mem_map.1 he
  have : p.2 ∈ hs := by rw [← nums_snd hs]; exact List.mem_map_of_mem hp
  exact h _ this

set_option maxHeartbeats 4000000 in
theorem Tables_calls {w : World} {A : Option Addr} {n c : Nat} {hs : List S129} (h : Kd.C k129 w A n hs) (hsh : hs.length ≤ 100000000) (hnm : ∀ x ∈ hs, x.f0.size ≤ maxLen ∧ x.f1.size ≤ maxLen) :
    Calls Try.prog 15 #[.slice A n c] w fun e w' => ∃ tb B d, e = .returned (.tuple #[.pointer (some ⟨tb, 0, none⟩), .slice B (rentsH hs).length d]) ∧ Tab w' tb (entsH hs) (mainOf (entsH hs)) ∧ (rentsH hs).length ≤ d ∧ Kd.C k145 w' B (rentsH hs).length (rentsH hs) ∧ Below w.heap.size w w' := by
  have HNM := Lib.hid hnm
  clear hnm
  rw [← rentsH_eq, ← entsH_eq]
  obtain rfl := C_len h
  have hm := C_max h
  have H := Lib.hid h
  clear h
  go_enter Try.func15, Try.ntmps15
  go_wp2
  go_loopw [4, 5, 11] (fun v4 v5 v11 wr => ∃ (i : Nat) (vs us : List Value), i ≤ hs.length ∧ v11 = .int .i64 i ∧ Hid (Two w wr v4 v5 vs us (groups (hs.take i)))) (fun _ _ v11 wr => hs.length - (intOf v11).toNat)
  case atStart => exact ⟨0, [], [], Nat.zero_le _, rfl, ⟨RowsOf.nil _ _ _ _ _ _, RowsOf.nil _ _ _ _ _ _, Below.refl _ _⟩⟩
  case round =>
    obtain ⟨i, vs, us, hi, rfl, hT⟩ := hrel
    by_cases hlt : i < hs.length
    · obtain ⟨gs, hgs⟩ : ∃ gs, gs = groups (hs.take i) := ⟨_, rfl⟩
      rw [← hgs] at hT
      have HGS := Lib.hid hgs
      clear hgs
      obtain ⟨ad, rfl, hx0, hx1, hx2, hx3, hx4⟩ := at_T129 H.out (i : Int) (by omega) (by omega)
      obtain ⟨x, hx⟩ : ∃ x, x = rd_T129 hs i := ⟨_, rfl⟩
      rw [← hx, Int.toNat_natCast] at hx0 hx1 hx2 hx3 hx4
      have HX := Lib.hid hx
      have HXE := Lib.hid (show hs[i] = x by rw [hx]; unfold rd_T129; rw [Int.toNat_natCast, List.getD_eq_getElem?_getD, List.getElem?_eq_getElem hlt]; rfl)
      clear hx
      replace hx0 := cell_later hT.out.below hx0
      replace hx1 := cell_later hT.out.below hx1
      replace hx2 := cell_later hT.out.below hx2
      replace hx3 := cell_later hT.out.below hx3
      replace hx4 := cell_later hT.out.below hx4
      obtain ⟨gs0, gl, hop⟩ := opens_ne gs x
      have HOP := Lib.hid hop
      clear hop
      have hz : ((i : Int) == 0) = true ∨ ((i : Int) == 0) = false := by cases ((i : Int) == 0) <;> simp
      rcases hz with hz | hz
      all_goals
        go_upto_if 22 with (fail)
        go_cut [4, 5] (fun v4 v5 wx => ∃ vs us, Hid (Two w wx v4 v5 vs us (gs0 ++ [gl])) ∧ Hid (wx.heap[wr.heap.size]? = some (.cells #[.string x.f0, .string x.f1, .bool x.f2, .int .i64 x.f3, .int .i64 x.f4] 129 (0, 0))))
        case first =>
          have HVN := Lib.hid (show (vs.length + 1) * 24 ≤ 140737488355328 ∧ (us.length + 1) * 24 ≤ 140737488355328 by
            have h1 := hT.out.all.len; have h2 := hT.out.doc.len; have h3 := groups_le (hs.take i); rw [← HGS.out] at h3; simp at h1 h2 h3; omega)
          obtain ⟨A4, c4, rfl⟩ : ∃ A c, u4 = .slice A vs.length c := by obtain ⟨-, h1 | ⟨g, c, cur, h1, _⟩⟩ := hT.out.all.outer; exact ⟨none, 0, by rw [h1.1, h1.2]⟩; exact ⟨_, c, h1⟩
          obtain ⟨A5, c5, rfl⟩ : ∃ A c, u5 = .slice A us.length c := by obtain ⟨-, h1 | ⟨g, c, cur, h1, _⟩⟩ := hT.out.doc.outer; exact ⟨none, 0, by rw [h1.1, h1.2]⟩; exact ⟨_, c, h1⟩
          go_wp2_with (first
            | ((with_reducible refine gate_builtin (b := .append) (xs := #[.tmp 23, .tmp 24]) rfl ?_); at_builtin; refine print_append_cells (w0 := w) w.heap.size rfl (.tmp 23) (.tmp 24) 130 132 (.slice none 0 0) 1 24 rfl Try.underlying130 info132 rfl (by decide) (by decide) _ vs.length vs [.slice none 0 0] rfl (by show Value.slice (some ⟨wr.heap.size + 1, 0, none⟩) 1 1 = _; simp) rfl (by simp [Value.oneCell']) (hT.out.all.outer.alloc _) (below_alloc hT.out.below _) (by have := hT.out.below.size; simp; omega) HVN.out.1 ?_; intro v1 w1 hown1 hb1 hg1 hat1; have hP := Lib.hid ((hT.out.at_ ((Below.refl _ _).alloc (Nat.le_refl _) _)).pushAll hown1 hg1 hb1); have hcb := Lib.hid ((hg1.block wr.heap.size (by simp) (fun e => Nat.lt_irrefl _ (own_lt hT.out.all.outer _ e.symm))).trans (heap_alloc_new wr _)); clear hown1 hg1 hat1)
            | ((with_reducible refine gate_builtin (b := .append) (xs := #[.tmp 26, .tmp 27]) rfl ?_); at_builtin; refine print_append_cells (w0 := w) w.heap.size rfl (.tmp 26) (.tmp 27) 131 133 (.slice none 0 0) 1 24 rfl Try.underlying131 info133 rfl (by decide) (by decide) _ us.length us [.slice none 0 0] rfl rfl rfl (by simp [Value.oneCell']) hP.out.2.outer hb1 hb1.size HVN.out.2 ?_; intro v2 w2 hown2 hb2 hg2 hat2))
          all_goals
            go_meet
            first
              | (have e1 : gs ++ [[]] = gs0 ++ [gl] := (opens_yes (by first | exact Or.inr (by omega) | exact Or.inl (by rw [HGS.out]; simp at hz; rw [hz]; rfl))).symm.trans HOP.out
                 have hT3 := Two.pushDoc hP.out.1 hP.out.2 hown2 hg2 hb2 rfl
                 rw [e1] at hT3
                 exact ⟨_, _, hT3, (hg2.block wr.heap.size (Array.getElem?_eq_some_iff.1 hcb.out).1 (fun e => Nat.lt_irrefl _ (own_lt hT.out.doc.outer _ e.symm))).trans hcb.out⟩)
              | (have hne : gs ≠ [] := by rw [HGS.out]; intro e; rw [groups_nil] at e; have := congrArg List.length e; rw [List.length_take, List.length_nil] at this; simp at hz; omega
                 have e1 : gs = gs0 ++ [gl] := (opens_no hne (by omega)).symm.trans HOP.out
                 rw [e1] at hT
                 exact ⟨vs, us, hT.out.at_ ((Below.refl _ _).alloc (Nat.le_refl _) _), heap_alloc_new wr _⟩)
        case rest =>
          obtain ⟨vs1, us1, hT1, hcb⟩ := hcut
          clear hx0 hx1 hx2 hx3 hx4 hT
          have hA := hT1.out.all
          have hD := hT1.out.doc
          rw [List.map_append, List.map_singleton] at hA hD
          obtain ⟨vs0, g4, c4, Al, cl, rfl, hvl, rfl, hg4b, hg4, hg4c, hg4f, hOl, cs4, hg4h⟩ := hA.last
          obtain ⟨us0, g5, c5, Bl, dl, rfl, hul, rfl, hg5b, hg5, hg5c, hg5f, hPl, cs5, hg5h⟩ := hD.last
          simp only [List.length_map] at hvl hul hg4c hg4f hg5c hg5f hA hD ⊢
          rw [List.length_map] at hOl hPl
          have HA := Lib.hid hA
          have HD := Lib.hid hD
          have hgx := opens_len (gs := gs) (h := x) (hs := hs.take i) (by rw [HGS.out]; exact groups_flat _) (by rw [HGS.out]; exact groups_le _) HOP.out
          rw [List.length_take] at hgx
          have hgl : gs0.length ≤ 100000000 := by omega
          have hgg : (gl.length + 1) * 152 ≤ 140737488355328 := by omega
          have HO := Lib.hid hOl
          have HP := Lib.hid hPl
          have hk0 : (0 : Int) ≤ gs0.length := by omega
          have hk1 : (gs0.length : Int) < gs0.length + 1 := by omega
          have he0 := (cell_blk hcb.out 0).trans rfl
          have he1 := (cell_blk hcb.out 1).trans rfl
          have he2 := (cell_blk hcb.out 2).trans rfl
          have he4 := (cell_blk hcb.out 4).trans rfl
          clear hA hD hOl hPl
          go_upto_region 9 with (fail)
          go_cut [] (fun wx => ∃ Ax cx, Hid (RowsOf (k122.K w) 122 132 10 wx w.heap.size (.slice (some ⟨g4, 0, none⟩) (gs0.length + 1) c4) (vs0 ++ [.slice Ax (gl.length + 1) cx]) (gs0.map (fun l => l.map mkC) ++ [(gl ++ [x]).map mkC])) ∧
            Hid (RowsOf (k138.K w) 138 133 10 wx w.heap.size (.slice (some ⟨g5, 0, none⟩) (gs0.length + 1) c5) (us0 ++ [.slice Bl gl.length dl]) (gs0.map (fun l => l.map mkD) ++ [gl.map mkD])) ∧
            Hid (wx.heap[wr.heap.size]? = some (.cells #[.string x.f0, .string x.f1, .bool x.f2, .int .i64 x.f3, .int .i64 x.f4] 129 (0, 0))) ∧ Hid (Below w.heap.size w wx))
          case first =>
            refine wp_region_ord (fun w' => w'.cell? ⟨g4, gs0.length, none⟩ = some (.slice Al gl.length cl) ∧ w'.cell? ⟨wr.heap.size, 0, none⟩ = some (.string x.f0) ∧ w'.cell? ⟨wr.heap.size, 1, none⟩ = some (.string x.f1) ∧ w'.cell? ⟨wr.heap.size, 2, none⟩ = some (.bool x.f2) ∧ w'.cell? ⟨wr.heap.size, 4, none⟩ = some (.int .i64 x.f4))
              [(0, true), (1, true), (2, true), (3, true), (4, true), (5, false), (6, true), (7, false), (8, true), (9, false), (10, true), (11, false), (12, true), (13, true), (14, false), (15, true), (16, false), (17, true), (18, true)] [19] [20, 21, 22] (by kernel_rfl) (by kernel_rfl) (fun _ _ _ _ h => h) (by go_keep) (fun K hK => ?_)
            simp only [pickHead, List.getElem?_cons_succ, List.getElem?_cons_zero]
            repeat (first
              | (refine ordHead_pure rfl rfl ?_; apply Exists.intro; refine ⟨fun w' => ?_, ?_⟩; (go_simp; with_reducible rfl); apply Exists.intro; refine ⟨?_, ?_⟩; (simp only [Act.put, List.setIfInBounds_toArray, List.set_cons_zero, List.set_cons_succ, i64_w, i32_w]; rfl))
              | (refine ordHead_read rfl rfl ?_; apply Exists.intro; refine ⟨?_, ?_⟩; (rintro w' ⟨s0, s1, s2, s3, s4⟩; go_simp; with_reducible rfl); apply Exists.intro; refine ⟨?_, ?_⟩; (simp only [Act.put, List.setIfInBounds_toArray, List.set_cons_zero, List.set_cons_succ, i64_w, i32_w]; rfl)))
            refine ordHead_nil (hK _ ?_)
            simp only [pickOps, List.getElem?_cons_succ, List.getElem?_cons_zero, ordTail]
            go_wp2
            refine ⟨by go_keep, ?_⟩
            go_wp2_with ((with_reducible refine gate_builtin (b := .append) (xs := #[.tmp 37, .tmp 51]) rfl ?_); at_builtin; refine OwnRow.append (R := k122.K w) (w0 := w) (W := wc.drew) w.heap.size rfl (.tmp 37) (.tmp 51) 132 122 zClass 10 152 rfl Try.underlying132 info122 rfl (by decide) (by decide) (.slice Al gl.length cl) (gl.map mkC) (mkC x) (hCells x) rfl rfl (mkC_K w x) rfl (by simp [Value.oneCell']) (HO.out.below ((below_drew (Below.refl _ _)))) (below_drew hT1.out.below) hT1.out.below.size (by rw [List.length_map]; exact hgg) ?_; intro v1 w1 hO1 hb1 hg1 hat1; (obtain ⟨Ax, cx, rfl, -⟩ := hO1.slice_); (obtain ⟨hst1, hst2, -⟩ := HA.out.drew.still rfl (by decide) hg1); rw [hvl] at hst1 hst2)
            go_meet
            have hX := HA.out.drew.pushBoth (x := mkC x) HD.out.drew (by decide) hO1 hg1 hat1 hcb.out hb1 hg4b
            rw [hvl] at hX
            simp only [List.length_append, List.length_map, List.length_singleton] at hX
            obtain ⟨hX1, hX2, hX3, hX4⟩ := hX
            exact ⟨Ax, cx, by show RowsOf _ _ _ _ _ _ _ _ _; rw [List.map_append]; exact hX1, hX2, hX3, hX4⟩
          case rest =>
            obtain ⟨Ax, cx, HA, HD, hcb, hB⟩ := hcut
            have HP2 := Lib.hid HD.out.lastOwn.1
            obtain ⟨hg5c2, hg5f2, -⟩ := HD.out.still rfl (by decide) (World.grownBy.refl _ _)
            rw [hul] at hg5c2 hg5f2
            clear hg4c hg4f hg5c hg5f he0 he1 he2 he4 hg4 hg5
            have he0 := (cell_blk hcb.out 0).trans rfl
            have he1 := (cell_blk hcb.out 1).trans rfl
            have he2 := (cell_blk hcb.out 2).trans rfl
            have he4 := (cell_blk hcb.out 4).trans rfl
            go_upto_region 10 with (fail)
            refine wp_region_ord (fun w' => w'.cell? ⟨g5, gs0.length, none⟩ = some (.slice Bl gl.length dl) ∧ w'.cell? ⟨wr.heap.size, 0, none⟩ = some (.string x.f0) ∧ w'.cell? ⟨wr.heap.size, 1, none⟩ = some (.string x.f1) ∧ w'.cell? ⟨wr.heap.size, 2, none⟩ = some (.bool x.f2) ∧ w'.cell? ⟨wr.heap.size, 4, none⟩ = some (.int .i64 x.f4))
              [(0, true), (1, true), (2, true), (3, true), (4, true), (5, false), (6, true), (7, false), (8, true), (9, false), (10, true), (11, false), (12, true), (13, true), (14, false), (15, true), (16, false), (17, true), (18, true)] [19] [20, 21, 22] (by kernel_rfl) (by kernel_rfl) (fun _ _ _ _ h => h) (by go_keep) (fun K hK => ?_)
            simp only [pickHead, List.getElem?_cons_succ, List.getElem?_cons_zero]
            repeat (first
              | (refine ordHead_pure rfl rfl ?_; apply Exists.intro; refine ⟨fun w' => ?_, ?_⟩; (go_simp; with_reducible rfl); apply Exists.intro; refine ⟨?_, ?_⟩; (simp only [Act.put, List.setIfInBounds_toArray, List.set_cons_zero, List.set_cons_succ, i64_w, i32_w]; rfl))
              | (refine ordHead_read rfl rfl ?_; apply Exists.intro; refine ⟨?_, ?_⟩; (rintro w' ⟨s0, s1, s2, s3, s4⟩; go_simp; with_reducible rfl); apply Exists.intro; refine ⟨?_, ?_⟩; (simp only [Act.put, List.setIfInBounds_toArray, List.set_cons_zero, List.set_cons_succ, i64_w, i32_w]; rfl)))
            refine ordHead_nil (hK _ ?_)
            simp only [pickOps, List.getElem?_cons_succ, List.getElem?_cons_zero, ordTail]
            go_wp2
            refine ⟨by go_keep, ?_⟩
            go_wp2_with ((with_reducible refine gate_builtin (b := .append) (xs := #[.tmp 59, .tmp 73]) rfl ?_); at_builtin; refine OwnRow.append (R := k138.K w) (w0 := w) (W := wc.drew) w.heap.size rfl (.tmp 59) (.tmp 73) 133 138 zClass 10 152 rfl Try.underlying133 info138 rfl (by decide) (by decide) (.slice Bl gl.length dl) (gl.map mkD) (mkD x) (hCells x) rfl rfl (mkD_K w x) rfl (by simp [Value.oneCell']) (HP2.out.below ((below_drew (Below.refl _ _)))) (below_drew hB.out) hB.out.size (by rw [List.length_map]; exact hgg) ?_; intro v1 w1 hO1 hb1 hg1 hat1; (obtain ⟨Ax, cx, rfl, -⟩ := hO1.slice_); (obtain ⟨hst1, hst2, -⟩ := HD.out.drew.still rfl (by decide) hg1); rw [hul] at hst1 hst2)
            have hX := HD.out.drew.pushBoth (x := mkD x) HA.out.drew (by decide) hO1 hg1 hat1 hcb.out hb1 hg5b
            rw [hul] at hX
            simp only [List.length_append, List.length_map, List.length_singleton] at hX
            obtain ⟨hX1, hX2, hX3, hX4⟩ := hX
            go_roundw
            case rel =>
              have e1 : groups (hs.take (i + 1)) = gs0 ++ [gl ++ [x]] := by rw [List.take_succ_eq_append_getElem hlt, groups_snoc, ← HGS.out, HXE.out, addG_eq HOP.out]
              have e2 : (groups (hs.take (i + 1))).map (fun l => l.map mkC) = gs0.map (fun l => l.map mkC) ++ [(gl ++ [x]).map mkC] := by rw [e1, List.map_append, List.map_singleton]
              have e3 : (groups (hs.take (i + 1))).map (fun l => l.map mkD) = gs0.map (fun l => l.map mkD) ++ [gl.map mkD ++ [mkD x]] := by rw [e1, List.map_append, List.map_singleton, List.map_append]; rfl
              have hX2' := HX2of e2 hX2
              have hX1' := HX2of e3 hX1
              exact ⟨i + 1, _, _, by omega, by go_num, ⟨hX2', hX1', hX4⟩⟩
            case measure => simp [intOf]; omega
    · have hT2 := hT.out
      rw [List.take_of_length_le (by omega)] at hT2
      obtain ⟨A4, c4, rfl, hl4, hC4⟩ := hT2.all.reads
      obtain ⟨A5, c5, rfl, hl5, hC5⟩ := hT2.doc.reads
      have HC4 := Lib.hid (show Kd.C (Kd.slice 122 k122) wr A4 ((groups hs).map (fun l => l.map mkC)).length ((groups hs).map (fun l => l.map mkC)) from
        hC4.imp_ (Below.refl _ _) (fun l cs ⟨A, c, h1, h2, h3⟩ => ⟨A, c, h1, h2, h3.imp_ (Below.refl _ _) (fun _ _ hp => k122.K_below hT2.below hp)⟩))
      have HC5 := Lib.hid (show Kd.C (Kd.slice 138 k138) wr A5 ((groups hs).map (fun l => l.map mkD)).length ((groups hs).map (fun l => l.map mkD)) from
        hC5.imp_ (Below.refl _ _) (fun l cs ⟨A, c, h1, h2, h3⟩ => ⟨A, c, h1, h2, h3.imp_ (Below.refl _ _) (fun _ _ hp => k138.K_below hT2.below hp)⟩))
      have h4 := HC4.out
      have h5 := HC5.out
      clear HC4 HC5
      rw [List.length_map] at h4 h5
      have HC4 := Lib.hid h4
      have HC5 := Lib.hid h5
      have HB := Lib.hid hT2.below
      clear h4 h5 hT2 hC4 hC5 hl4 hl5 hT
      go_wp2_with (first
        | (go_at_call 59; refine (New_calls HC4.out (entsH_names HNM.out) (entsH_short hsh)).mono ?_; rintro e w1 ⟨tb, rfl, hTab, hb1⟩)
        | (go_at_call 60; refine (RNew_calls (Kd.C_below HC5.out hb1) (rentsH_short hsh)).mono ?_; rintro e w2 ⟨v, rfl, hO, hb2⟩))
      go_ret2
      obtain ⟨A, c, rfl, hl, hC⟩ := hO.reads
      have hb3 := HB.out.trans (hb1.mono HB.out.size)
      exact ⟨tb, A, c, rfl, hTab.later hb2, hl, hC.imp_ (Below.refl _ _) (fun _ _ hp => k145.K_below hb2 hp), hb3.trans (hb2.mono hb3.size)⟩
end Go.Proofs.Ytoakelgcbbbieaa
