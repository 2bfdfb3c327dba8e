/- Rows of rows that a call owns, and what an append to the last of them leaves. -/
import Derived.Test.YtoakelgcbbbieaaWWords
import Derived.Test.YtoakelgcbbbieaaWLast
import Derived.Test.YtoakelgcbbbieaaWMore
import Derived.WalkKit
import Derived.OwnWalk
import Derived.WalkSpells
/-! A row of rows of the call's own, no two sharing an array. -/
namespace Go.Proofs.Ytoakelgcbbbieaa
open Go.RowKit Go.Proofs.YtoakelgcbbbieaaW.PrintWords Go.Proofs.YtoakelgcbbbieaaW.PrintLast Go.Proofs.YtoakelgcbbbieaaW.PrintMore
set_option linter.unusedVariables false
set_option linter.unusedSimpArgs false

structure RowsOf {α : Type} (R : α → List Value → Prop) (e eo size : Nat) (w : World) (base : Nat) (v : Value) (vs : List Value) (ls : List (List α)) : Prop where
  outer : w.ownsRow base eo 1 v vs.length vs
  len : vs.length = ls.length
  inner : ∀ (i : Nat) (l : List α), ls[i]? = some l → ∃ vi, vs[i]? = some vi ∧ OwnRow R e size w base vi l
  apart : ∀ (i j : Nat) (vi vj : Value), i ≠ j → vs[i]? = some vi → vs[j]? = some vj → ∀ b, vi.ownBlock = some b → vj.ownBlock ≠ some b
section
variable {α : Type} {R : α → List Value → Prop} {e eo size : Nat} {w w1 : World} {base : Nat} {v : Value} {vs : List Value} {ls : List (List α)}

theorem own_type {w : World} {base e size n : Nat} {v : Value} {xs : List Value} (h : w.ownsRow base e size v n xs) {b : Nat} (hb : v.ownBlock = some b) : ∃ cs, w.heap[b]? = some (.cells cs e (0, 0)) := by
  rcases h.2 with ⟨rfl, _⟩ | ⟨g, cap, cur, rfl, _, hg, _⟩
  · simp [Value.ownBlock] at hb
  · have : g = b := by simpa [Value.ownBlock] using hb
    subst this; exact ⟨cur, hg⟩

theorem own_none_or {v : Value} {row : Option Nat} (h : ∀ b, v.ownBlock = some b → row ≠ some b) : v.ownBlock = none ∨ v.ownBlock ≠ row := by
  cases hv : v.ownBlock with
  | none => exact .inl rfl
  | some b => exact .inr fun e => h b hv e.symm

theorem RowsOf.nil (R : α → List Value → Prop) (e eo size : Nat) (w : World) (base : Nat) : RowsOf R e eo size w base (.slice none 0 0) [] [] :=
  ⟨World.ownsRow_nil _ _ _ _, rfl, fun i l h => by simp at h, fun i j vi vj _ h => by simp at h⟩

/-- another block is written (of another element type), or none -/
theorem RowsOf.grown (h : RowsOf R e eo size w base v vs ls) {row : Option Nat} (hg : w.grownBy w1 row) (hrow : ∀ b, row = some b → ∃ cs t fr, w.heap[b]? = some (.cells cs t fr) ∧ t ≠ e ∧ t ≠ eo) : RowsOf R e eo size w1 base v vs ls := by
  refine ⟨own_other h.outer hg (own_none_or fun b hb hr => ?_), h.len, fun i l hl => ?_, h.apart⟩
  · obtain ⟨cs, hc⟩ := own_type h.outer hb
    obtain ⟨cs', t, fr, hc', h1, h2⟩ := hrow b hr
    rw [hc] at hc'; injection hc' with hc'; injection hc' with _ hc'; exact h2 hc'.symm
  · obtain ⟨vi, hvi, ho⟩ := h.inner i l hl
    refine ⟨vi, hvi, ho.other hg (own_none_or fun b hb hr => ?_)⟩
    obtain ⟨inn, ho, _⟩ := ho
    obtain ⟨cs, hc⟩ := own_type ho hb
    obtain ⟨cs', t, fr, hc', h1, h2⟩ := hrow b hr
    rw [hc] at hc'; injection hc' with hc'; injection hc' with _ hc'; exact h1 hc'.symm

theorem RowsOf.alloc (h : RowsOf R e eo size w base v vs ls) (o : Obj) : RowsOf R e eo size (w.alloc o) base v vs ls := h.grown (World.grownBy_alloc w o none) (fun b hb => by cases hb)
theorem RowsOf.drewN (h : RowsOf R e eo size w base v vs ls) (n : Nat) : RowsOf R e eo size (w.drewN n) base v vs ls := h.grown (row := none) ⟨rfl, rfl, rfl, Nat.le_refl _, fun _ _ _ => rfl⟩ (fun b hb => by cases hb)
theorem RowsOf.drew (h : RowsOf R e eo size w base v vs ls) : RowsOf R e eo size w.drew base v vs ls := h.drewN 1

theorem grownBy_setCell (W : World) (a : Addr) (v : Value) : W.grownBy (W.setCell a v) (some a.block) :=
  ⟨rfl, rfl, rfl, by simp [World.setCell], fun k _ hk => Below.heap_setCell W a v k (fun h => hk (by rw [h]))⟩

/-- a new row, empty -/
theorem RowsOf.pushNil (h : RowsOf R e eo size w base v vs ls) (hee : e ≠ eo) {v1 : Value} (ho : w1.ownsRow base eo 1 v1 (vs.length + 1) (vs ++ [.slice none 0 0])) (hg : w.grownBy w1 v.ownBlock) : RowsOf R e eo size w1 base v1 (vs ++ [.slice none 0 0]) (ls ++ [[]]) := by
  refine ⟨by simpa using ho, by simp [h.len], fun i l hl => ?_, fun i j vi vj hij hi hj b hb => ?_⟩
  · rcases Nat.lt_or_ge i ls.length with hlt | hge
    · rw [List.getElem?_append_left hlt] at hl
      obtain ⟨vi, hvi, ho2⟩ := h.inner i l hl
      refine ⟨vi, by rw [List.getElem?_append_left (by rw [h.len]; exact hlt)]; exact hvi, ho2.other hg ?_⟩
      obtain ⟨inn, ho2, _⟩ := ho2
      exact own_type_ne ho2 h.outer hee
    · have hi : i = ls.length := by
        have := (List.getElem?_eq_some_iff.1 hl).1
        simp at this; omega
      subst hi
      rw [List.getElem?_append_right (Nat.le_refl _)] at hl
      simp at hl; subst hl
      exact ⟨_, by rw [List.getElem?_append_right (by rw [h.len]; exact Nat.le_refl _), h.len]; simp, OwnRow.none_ _ _ _ _ _⟩
  · have hn : ∀ (k : Nat) (u : Value), (vs ++ [Value.slice none 0 0])[k]? = some u → vs[k]? = some u ∨ u = .slice none 0 0 := by
      intro k u hk
      rcases Nat.lt_or_ge k vs.length with hlt | hge
      · rw [List.getElem?_append_left hlt] at hk; exact .inl hk
      · rw [List.getElem?_append_right hge] at hk
        have := List.getElem?_eq_some_iff.1 hk
        obtain ⟨hlt, he⟩ := this
        have h0 : k - vs.length = 0 := by simp at hlt; omega
        simp [h0] at he
        exact .inr he.symm
    rcases hn i vi hi with hi | rfl
    · rcases hn j vj hj with hj | rfl
      · exact h.apart i j vi vj hij hi hj b hb
      · simp [Value.ownBlock]
    · simp [Value.ownBlock] at hb

/-- the last row has grown by one, and stands in its place -/
theorem RowsOf.pushLast {vs0 : List Value} {vl v1 : Value} {ls0 : List (List α)} {l : List α} {x : α} {g n cap : Nat} (hv : v = .slice (some ⟨g, 0, none⟩) n cap) (h : RowsOf R e eo size w base v (vs0 ++ [vl]) (ls0 ++ [l])) (hee : e ≠ eo)
    (ho : OwnRow R e size w1 base v1 (l ++ [x])) (hg : w.grownBy w1 vl.ownBlock) (hat : v1.ownBlock = vl.ownBlock ∨ ∃ b, v1.ownBlock = some b ∧ w.heap.size ≤ b) :
    RowsOf R e eo size (w1.setCell ⟨g, vs0.length, none⟩ v1) base v (vs0 ++ [v1]) (ls0 ++ [l ++ [x]]) := by
  have hlen : vs0.length = ls0.length := by have := h.len; simpa using this
  obtain ⟨vl', hvl', hol⟩ := h.inner ls0.length l (by simp)
  obtain rfl : vl = vl' := by rw [← hlen] at hvl'; simpa using hvl'
  have hou1 : w1.ownsRow base eo 1 v (vs0 ++ [vl]).length (vs0 ++ [vl]) := own_other h.outer hg (by obtain ⟨inn, ho2, _⟩ := hol; exact own_type_ne h.outer ho2 (Ne.symm hee))
  have hvg : v.ownBlock = some g := by rw [hv]; rfl
  have hn : n = (vs0 ++ [vl]).length := by
    rcases hou1.2 with ⟨h1, h2⟩ | ⟨g', cap', cur, h1, _⟩
    · rw [hv] at h1; simp at h1
    · rw [hv] at h1; injection h1
  obtain ⟨cso, hco⟩ := own_type hou1 hvg
  have hst : (w1.setCell ⟨g, vs0.length, none⟩ v1).ownsRow base eo 1 v (vs0 ++ [vl]).length ((vs0 ++ [vl]).set vs0.length v1) ∧ w1.grownBy (w1.setCell ⟨g, vs0.length, none⟩ v1) (some g) := by
    rw [hv, hn] at hou1 ⊢
    exact hou1.stored vs0.length v1
  have hset : (vs0 ++ [vl]).set vs0.length v1 = vs0 ++ [v1] := by simp
  rw [hset] at hst
  refine ⟨by simpa using hst.1, by simp [hlen], fun i l' hl' => ?_, fun i j vi vj hij hi hj b hb => ?_⟩
  · rcases Nat.lt_or_ge i ls0.length with hlt | hge
    · rw [List.getElem?_append_left hlt] at hl'
      obtain ⟨vi, hvi, ho2⟩ := h.inner i l' (by rw [List.getElem?_append_left hlt]; exact hl')
      have hvi0 : vs0[i]? = some vi := by rwa [List.getElem?_append_left (by rw [hlen]; exact hlt)] at hvi
      refine ⟨vi, by rw [List.getElem?_append_left (by rw [hlen]; exact hlt)]; exact hvi0, (ho2.other hg (own_none_or fun b hb hr => ?_)).other hst.2 (own_none_or fun b hb hr => ?_)⟩
      · exact h.apart i vs0.length vi vl (by omega) hvi (by simp) b hb hr
      · obtain ⟨inn, ho3, _⟩ := ho2
        injection hr with hr; subst hr
        have := own_type_ne ho3 h.outer hee
        rw [hb, hvg] at this
        rcases this with h1 | h1
        · cases h1
        · exact h1 rfl
    · have hi : i = ls0.length := by
        have := (List.getElem?_eq_some_iff.1 hl').1
        simp at this; omega
      subst hi
      rw [List.getElem?_append_right (Nat.le_refl _)] at hl'
      simp at hl'; subst hl'
      refine ⟨v1, by rw [List.getElem?_append_right (by omega), hlen]; simp, ho.other hst.2 (own_none_or fun b hb hr => ?_)⟩
      obtain ⟨inn, ho3, _⟩ := ho
      injection hr with hr; subst hr
      obtain ⟨cs, hc⟩ := own_type ho3 hb
      rw [hco] at hc; injection hc with hc; injection hc with _ hc; exact hee hc.symm
  · have hkey : ∀ (k : Nat) (u : Value), (vs0 ++ [v1])[k]? = some u → vs0[k]? = some u ∨ (k = vs0.length ∧ u = v1) := by
      intro k u hk
      rcases Nat.lt_or_ge k vs0.length with hlt | hge
      · rw [List.getElem?_append_left hlt] at hk; exact .inl hk
      · have hlt := (List.getElem?_eq_some_iff.1 hk).1
        have hk0 : k = vs0.length := by simp at hlt; omega
        subst hk0
        simp at hk
        exact .inr ⟨rfl, hk.symm⟩
    have hold : ∀ (k : Nat) (u : Value), vs0[k]? = some u → (vs0 ++ [vl])[k]? = some u := fun k u hk => by rw [List.getElem?_append_left (List.getElem?_eq_some_iff.1 hk).1]; exact hk
    have hblk : ∀ (k : Nat) (u : Value), vs0[k]? = some u → ∀ b, u.ownBlock = some b → v1.ownBlock ≠ some b := by
      intro k u hk b hb hv1
      have hk2 := (List.getElem?_eq_some_iff.1 hk).1
      rcases hat with ha | ⟨b', ha, hb'⟩
      · exact h.apart k vs0.length u vl (by omega) (hold k u hk) (by simp) b hb (ha ▸ hv1)
      · rw [ha] at hv1; injection hv1 with hv1; subst hv1
        obtain ⟨vi, hvi, inn, ho3, _⟩ := h.inner k (ls0[k]'(by omega)) (by rw [List.getElem?_append_left (by omega)]; simp)
        rw [hold k u hk] at hvi; injection hvi with hvi; subst hvi
        have := own_lt ho3 _ hb
        omega
    rcases hkey i vi hi with hi2 | ⟨hi2, hi3⟩
    · rcases hkey j vj hj with hj2 | ⟨hj2, hj3⟩
      · exact h.apart i j vi vj hij (hold _ _ hi2) (hold _ _ hj2) b hb
      · rw [hj3]; exact hblk i vi hi2 b hb
    · rcases hkey j vj hj with hj2 | ⟨hj2, hj3⟩
      · exact fun hc => hblk j vj hj2 b hc (by rw [← hi3]; exact hb)
      · exact absurd (hi2.trans hj2.symm) hij

/-- the place of the last row, behind an append to that row -/
theorem RowsOf.still {vs0 : List Value} {vl : Value} {ls0 : List (List α)} {l : List α} {g n cap : Nat} (h : RowsOf R e eo size w base v (vs0 ++ [vl]) (ls0 ++ [l])) (hv : v = .slice (some ⟨g, 0, none⟩) n cap) (hee : e ≠ eo) (hg : w.grownBy w1 vl.ownBlock) :
    w1.cell? ⟨g, vs0.length, none⟩ = some vl ∧ w1.frozen? ⟨g, vs0.length, none⟩ = false ∧ ∃ cs, w1.heap[g]? = some (.cells cs eo (0, 0)) := by
  have hlen : vs0.length = ls0.length := by have := h.len; simpa using this
  obtain ⟨vl', hvl', hol⟩ := h.inner ls0.length l (by simp)
  obtain rfl : vl = vl' := by rw [← hlen] at hvl'; simpa using hvl'
  have hou1 : w1.ownsRow base eo 1 v (vs0 ++ [vl]).length (vs0 ++ [vl]) := own_other h.outer hg (by obtain ⟨inn, ho2, _⟩ := hol; exact own_type_ne h.outer ho2 (Ne.symm hee))
  have hn : n = (vs0 ++ [vl]).length := by
    rcases hou1.2 with ⟨h1, h2⟩ | ⟨g', cap', cur, h1, _⟩
    · rw [hv] at h1; simp at h1
    · rw [hv] at h1; injection h1
  rw [hv, hn] at hou1
  exact ⟨by rw [hou1.cellAt _ (by simp)]; simp, hou1.frozenAt _, own_type hou1 rfl⟩

theorem RowsOf.lastOwn {vs0 : List Value} {vl : Value} {ls0 : List (List α)} {l : List α} (h : RowsOf R e eo size w base v (vs0 ++ [vl]) (ls0 ++ [l])) : OwnRow R e size w base vl l ∧ vs0.length = ls0.length := by
  have hlen : vs0.length = ls0.length := by have := h.len; simpa using this
  obtain ⟨vl', hvl', hol⟩ := h.inner ls0.length l (by simp)
  obtain rfl : vl = vl' := by rw [← hlen] at hvl'; simpa using hvl'
  exact ⟨hol, hlen⟩

theorem blk_ne {w : World} {a b : Nat} {c c' : Array Value} {t t' : TypeId} {f f' : Nat × Nat} (h1 : w.heap[a]? = some (.cells c t f)) (h2 : w.heap[b]? = some (.cells c' t' f')) (hne : t ≠ t') : a ≠ b := by
  rintro rfl
  rw [h1] at h2; injection h2 with h2; injection h2 with _ h2; exact hne h2

/-- one list's last row has grown, and stands in its place: the other list, and what else there is -/
theorem RowsOf.pushBoth {β : Type} {R' : β → List Value → Prop} {e' eo' size' : Nat} {v' : Value} {us : List Value} {ms : List (List β)} {vs0 : List Value} {vl v1 : Value} {ls0 : List (List α)} {l : List α} {x : α} {g n cap B : Nat} {cs : Array Value} {t : TypeId} {fr : Nat × Nat} {w0 : World}
    (hA : RowsOf R e eo size w base (.slice (some ⟨g, 0, none⟩) n cap) (vs0 ++ [vl]) (ls0 ++ [l])) (hD : RowsOf R' e' eo' size' w base v' us ms) (hee : e ≠ eo ∧ e ≠ e' ∧ e ≠ eo' ∧ eo ≠ e' ∧ eo ≠ eo' ∧ t ≠ e ∧ t ≠ eo)
    (ho : OwnRow R e size w1 base v1 (l ++ [x])) (hg : w.grownBy w1 vl.ownBlock) (hat : v1.ownBlock = vl.ownBlock ∨ ∃ b, v1.ownBlock = some b ∧ w.heap.size ≤ b) (hB : w.heap[B]? = some (.cells cs t fr)) (hb : Below base w0 w1) (hgb : base ≤ g) :
    RowsOf R e eo size (w1.setCell ⟨g, vs0.length, none⟩ v1) base (.slice (some ⟨g, 0, none⟩) n cap) (vs0 ++ [v1]) (ls0 ++ [l ++ [x]]) ∧ RowsOf R' e' eo' size' (w1.setCell ⟨g, vs0.length, none⟩ v1) base v' us ms ∧
    (w1.setCell ⟨g, vs0.length, none⟩ v1).heap[B]? = some (.cells cs t fr) ∧ Below base w0 (w1.setCell ⟨g, vs0.length, none⟩ v1) := by
  obtain ⟨h1, h2, h3, h4, h5, h6, h7⟩ := hee
  obtain ⟨vl', hvl', hol⟩ := hA.inner ls0.length l (by simp)
  obtain rfl : vl = vl' := by rw [show ls0.length = vs0.length by have := hA.len; simp at this; omega] at hvl'; simpa using hvl'
  have hty : ∀ b, vl.ownBlock = some b → ∃ cs, w.heap[b]? = some (.cells cs e (0, 0)) := fun b hb => by obtain ⟨inn, ho2, _⟩ := hol; exact own_type ho2 hb
  obtain ⟨-, -, cs1, hc1⟩ := hA.still rfl h1 hg
  have hB1 : w1.heap[B]? = some (.cells cs t fr) := (hg.block B (Array.getElem?_eq_some_iff.1 hB).1 (fun hr => by obtain ⟨cs2, hc2⟩ := hty B hr.symm; exact blk_ne hB hc2 h6 rfl)).trans hB
  refine ⟨hA.pushLast rfl h1 ho hg hat, (hD.grown hg (fun b hr => ?_)).grown (grownBy_setCell w1 ⟨g, vs0.length, none⟩ v1) (fun b hr => ?_), (Below.heap_setCell w1 ⟨g, vs0.length, none⟩ v1 B (blk_ne hB1 hc1 h7)).trans hB1, hb.setCell (p := ⟨g, vs0.length, none⟩) hgb _⟩
  · obtain ⟨cs2, hc2⟩ := hty b hr
    exact ⟨cs2, e, _, hc2, h2, h3⟩
  · injection hr with hr; subst hr
    exact ⟨cs1, eo, _, hc1, h4, h5⟩

/-- as it is read -/
theorem RowsOf.reads (h : RowsOf R e eo size w base v vs ls) : ∃ A c, v = .slice A ls.length c ∧ ls.length ≤ c ∧ ReadsRow (fun l cs => ∃ A c, cs = [.slice A l.length c] ∧ l.length ≤ c ∧ ReadsRow R size w A l.length l) 1 w A ls.length ls := by
  have H : OwnRow (fun (l : List α) cs => ∃ A c, cs = [.slice A l.length c] ∧ l.length ≤ c ∧ ReadsRow R size w A l.length l) eo 1 w base v ls := by
    refine ⟨vs, by rw [← h.len]; exact h.outer, by rw [h.len]; omega, fun j l hl => ?_⟩
    obtain ⟨vi, hvi, ho⟩ := h.inner j l hl
    obtain ⟨A, c, rfl, hlc, hr⟩ := ho.reads
    refine ⟨A, c, ?_, hlc, hr⟩
    have hj := (List.getElem?_eq_some_iff.1 hvi)
    obtain ⟨hlt, he⟩ := hj
    rw [Nat.mul_one, List.drop_eq_getElem_cons hlt, List.take_succ_cons, List.take_zero, he]
  exact H.reads
end
end Go.Proofs.Ytoakelgcbbbieaa
