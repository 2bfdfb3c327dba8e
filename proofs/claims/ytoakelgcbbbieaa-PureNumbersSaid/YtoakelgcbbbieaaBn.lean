/- The plain law: what the program reckons is the document's value. -/
import Derived.Test.YtoakelgcbbbieaaBm
import Derived.Test.YtoakelgcbbbieaaBl
namespace Go.Proofs.Ytoakelgcbbbieaa
open Go.RowKit Go.Maps Go.Shelf Go.Proofs.YtoakelgcbbbieaaW.PrintWords Go.Proofs.YtoakelgcbbbieaaW.PrintLast Go.Proofs.YtoakelgcbbbieaaW.PrintMore
set_option linter.unusedVariables false
set_option linter.unusedSimpArgs false
set_option maxRecDepth 100000

theorem gn_of {x : S58} (h : G58 x) : GN x := by
  induction h with
  | mk x hn hl hk ih =>
    intro y hy
    rw [flat_eq] at hy
    rcases List.mem_cons.1 hy with rfl | hy
    · exact hn
    · obtain ⟨z, hz, hy⟩ := List.mem_flatMap.1 hy
      exact ih z hz y hy

theorem shR_conv (x : S58) : shapedB x = true → GN x → ShR (conv x) := by
  induction x using S58.ind with
  | _ x ih =>
  intro hs hg
  rw [conv_eq]
  refine .mk _ ?_ hg.own ?_
  · show manyI x.f0 = ((x.f5.map conv).length : Int)
    rw [List.length_map]; exact shaped_own hs
  · intro y hy
    obtain ⟨z, hz, rfl⟩ := List.mem_map.1 hy
    exact ih z hz (shaped_kid hs hz) (hg.kid hz)

/-- the document's answer against the program's -/
def Agr (r : ER) (p : ER) : Prop := r.2 = p.2 ∧ r.1 = if p.2 = 0 then p.1 else (0, 0)
theorem Agr.of_ {r p : ER} (h : Agr r p) (kind : Int) : (ofR r kind).2 = (ofP p kind).2 ∧ ((ofP p kind).2 = 0 → (ofR r kind).1 = (ofP p kind).1) := by
  obtain ⟨⟨rk, rn⟩, re⟩ := r
  obtain ⟨⟨pk, pn⟩, pe⟩ := p
  obtain ⟨h1, h2⟩ := h
  dsimp only at h1 h2
  subst h1
  by_cases he : re = 0
  · subst he
    simp only [if_pos] at h2
    injection h2 with h2 h3
    subst h2; subst h3
    by_cases hk : rk = kind
    · simp [ofR, ofP, hk]
    · simp [ofR, ofP, hk]
  · simp [ofR, ofP, he]
theorem evP_err (m : ByteArray → Option (Int × Int)) (x : S58) {e : Int} (h : e ≠ 0) : evP m x e = ((0, 0), e) := by rw [evP_eq]; unfold evNode; rw [if_pos h]

theorem ev_law (m : ByteArray → Option (Int × Int)) (x : S58) : shapedB x = true → Agr (evR m (conv x)) (evP m x 0) := by
  induction x using S58.ind with
  | _ x ih =>
  intro hs
  have hm := shaped_own hs
  have hkid : ∀ y ∈ x.f5, Agr (evR m (conv y)) (evP m y 0) := fun y hy => ih y hy (shaped_kid hs hy)
  clear ih hs
  rw [evR_eq, evP_eq, conv_eq]
  obtain ⟨f0, f1, f2, f3, f4, f5⟩ := x
  dsimp only at *
  unfold evNodeR evNode
  dsimp only
  rw [if_neg (show ¬ (0 : Int) ≠ 0 by simp)]
  by_cases h25 : f0 = 25
  · rw [if_pos h25, if_pos h25]; exact ⟨rfl, rfl⟩
  rw [if_neg h25, if_neg h25]
  by_cases h26 : f0 = 26
  · rw [if_pos h26, if_pos h26]; exact ⟨rfl, rfl⟩
  rw [if_neg h26, if_neg h26]
  by_cases h27 : f0 = 27
  · rw [if_pos h27, if_pos h27]; exact ⟨rfl, rfl⟩
  rw [if_neg h27, if_neg h27]
  by_cases h29 : f0 = 29
  · rw [if_pos h29, if_pos h29]; exact ⟨rfl, rfl⟩
  rw [if_neg h29, if_neg h29]
  by_cases h28 : f0 = 28
  · rw [if_pos h28, if_pos h28]
    cases m f1.f0 with
    | none => exact ⟨rfl, rfl⟩
    | some p => exact ⟨rfl, rfl⟩
  rw [if_neg h28, if_neg h28]
  unfold manyI at hm
  rw [if_neg (by omega)] at hm
  by_cases h21 : f0 = 21
  · rw [if_pos h21, if_pos h21]
    rw [if_pos h21] at hm
    match f5, hm with
    | [a], _ =>
      have ha := hkid a (by simp)
      obtain ⟨e1, e2⟩ := ha.of_ 2
      show Agr (if (ofR (evR m (conv a)) 2).2 ≠ 0 then ((0, 0), (ofR (evR m (conv a)) 2).2) else (truthP ((ofR (evR m (conv a)) 2).1 == 0), 0)) (truthP ((ofP (evP m a 0) 2).1 == 0), (ofP (evP m a 0) 2).2)
      generalize ofR (evR m (conv a)) 2 = r at e1 e2
      generalize ofP (evP m a 0) 2 = p at e1 e2
      by_cases he : p.2 = 0
      · rw [if_neg (by rw [e1]; simpa using he)]
        show Agr (truthP (r.1 == 0), 0) _
        rw [e2 he]
        exact ⟨he.symm, by rw [if_pos he]⟩
      · rw [if_pos (by rw [e1]; exact he)]
        exact ⟨e1, by rw [if_neg he]⟩
    | [], hm => simp at hm
    | a :: b :: r, hm => simp at hm; omega
  rw [if_neg h21, if_neg h21]
  rw [if_neg h21] at hm
  have h2 : (f5.length : Int) = 2 := by
    split at hm
    · omega
    · omega
  match f5, h2 with
  | [a, b], _ =>
    have ha := hkid a (by simp)
    have hb := hkid b (by simp)
    by_cases h16 : f0 = 16
    · rw [if_pos h16, if_pos h16]
      obtain ⟨e1, e2⟩ := ha.of_ 2
      show Agr (if (ofR (evR m (conv a)) 2).2 ≠ 0 then ((0, 0), (ofR (evR m (conv a)) 2).2) else if (ofR (evR m (conv a)) 2).1 = 0 then (truthP false, 0) else if (ofR (evR m (conv b)) 2).2 ≠ 0 then ((0, 0), (ofR (evR m (conv b)) 2).2) else (truthP ((ofR (evR m (conv b)) 2).1 != 0), 0))
        (if ((ofP (evP m a 0) 2).1 == 0) = true then (truthP false, (ofP (evP m a 0) 2).2) else (truthP ((ofP (evP m b (ofP (evP m a 0) 2).2) 2).1 != 0), (ofP (evP m b (ofP (evP m a 0) 2).2) 2).2))
      generalize ofR (evR m (conv a)) 2 = r at e1 e2
      generalize ofP (evP m a 0) 2 = p at e1 e2
      by_cases he : p.2 = 0
      · rw [if_neg (show ¬ r.2 ≠ 0 by rw [e1]; simpa using he), e2 he, he]
        by_cases h0 : p.1 = 0
        · rw [if_pos h0, if_pos (by simpa using h0)]
          exact ⟨rfl, rfl⟩
        · rw [if_neg h0, if_neg (show ¬ (p.1 == 0) = true by simpa using h0)]
          obtain ⟨g1, g2⟩ := hb.of_ 2
          generalize ofR (evR m (conv b)) 2 = r2 at g1 g2
          generalize ofP (evP m b 0) 2 = p2 at g1 g2
          by_cases he2 : p2.2 = 0
          · rw [if_neg (show ¬ r2.2 ≠ 0 by rw [g1]; simpa using he2), g2 he2]
            exact ⟨he2.symm, by rw [if_pos he2]⟩
          · rw [if_pos (show r2.2 ≠ 0 by rw [g1]; exact he2)]
            exact ⟨g1, by rw [if_neg he2]⟩
      · rw [if_pos (show r.2 ≠ 0 by rw [e1]; exact he)]
        split
        · exact ⟨e1, by rw [if_neg he]⟩
        · rw [evP_err m b he]
          have : (ofP ((0, 0), p.2) 2).2 = p.2 := by simp [ofP, he]
          exact ⟨by rw [this]; exact e1, by rw [this, if_neg he]⟩
    · rw [if_neg h16, if_neg h16]
      obtain ⟨e1, e2⟩ := ha.of_ 1
      show Agr (if (ofR (evR m (conv a)) 1).2 ≠ 0 then ((0, 0), (ofR (evR m (conv a)) 1).2) else if (ofR (evR m (conv b)) 1).2 ≠ 0 then ((0, 0), (ofR (evR m (conv b)) 1).2) else (twoP f0 (ofR (evR m (conv a)) 1).1 (ofR (evR m (conv b)) 1).1, 0))
        (twoP f0 (ofP (evP m a 0) 1).1 (ofP (evP m b (ofP (evP m a 0) 1).2) 1).1, (ofP (evP m b (ofP (evP m a 0) 1).2) 1).2)
      generalize ofR (evR m (conv a)) 1 = r at e1 e2
      generalize ofP (evP m a 0) 1 = p at e1 e2
      by_cases he : p.2 = 0
      · rw [if_neg (show ¬ r.2 ≠ 0 by rw [e1]; simpa using he), e2 he, he]
        obtain ⟨g1, g2⟩ := hb.of_ 1
        generalize ofR (evR m (conv b)) 1 = r2 at g1 g2
        generalize ofP (evP m b 0) 1 = p2 at g1 g2
        by_cases he2 : p2.2 = 0
        · rw [if_neg (show ¬ r2.2 ≠ 0 by rw [g1]; simpa using he2), g2 he2]
          exact ⟨he2.symm, by rw [if_pos he2]⟩
        · rw [if_pos (show r2.2 ≠ 0 by rw [g1]; exact he2)]
          exact ⟨g1, by rw [if_neg he2]⟩
      · rw [if_pos (show r.2 ≠ 0 by rw [e1]; exact he)]
        rw [evP_err m b he]
        have : (ofP ((0, 0), p.2) 1).2 = p.2 := by simp [ofP, he]
        exact ⟨by rw [this]; exact e1, by rw [this, if_neg he]⟩
  | [], h2 => simp at h2
  | [a], h2 => simp at h2
  | a :: b :: c :: r, h2 => simp at h2; omega

/-! ### the contracts of large, Exp, Shaped, at their values -/
theorem C58_heap {w w' : World} (hh : ∀ k, k < w.heap.size → w'.heap[k]? = w.heap[k]?) {A : Option Addr} {n : Nat} {xs : List S58} (hk : ∀ y ∈ xs, ∀ cs, k58.K w y cs → k58.K w' y cs) (h : Kd.C k58 w A n xs) : Kd.C k58 w' A n xs := by
  obtain ⟨h1, h2, h3⟩ := h
  refine ⟨h1, h2, fun hp => ?_⟩
  obtain ⟨ad, e, hr⟩ := h3 hp
  refine ⟨ad, e, fun j p hj => ?_⟩
  obtain ⟨cs, hl, hK, hc⟩ := hr j p hj
  refine ⟨cs, hl, hk p (List.mem_of_getElem? hj) cs hK, fun i u hu => ?_⟩
  have h4 := hc i u hu
  exact (World.cell?_of_block (hh _ (cell_block h4))).trans h4
theorem K58_heap {w w' : World} (hh : ∀ k, k < w.heap.size → w'.heap[k]? = w.heap[k]?) (x : S58) : ∀ cs, k58.K w x cs → k58.K w' x cs := by
  induction x using S58.ind with
  | _ x ih =>
  intro cs h
  obtain ⟨A6, c6, rfl, l6, g6⟩ := k58_open h
  exact k58_mk w' x l6 (C58_heap hh ih g6)
theorem V58 {w : World} {A : Option Addr} {c : Nat} {xs : List S58} (h : Kd.C k58 w A xs.length xs) (hc : xs.length ≤ c) : Kd.V k58 58 w w.heap.size (fun _ => True) (.slice A xs.length c) xs :=
  ⟨A, c, rfl, hc, fun W' hW => C58_heap (fun k hk => hW k trivial hk) (fun y _ => K58_heap (fun k hk => hW k trivial hk) y) h⟩

theorem large_calls {w : World} {x : S58} {A6 : Option Addr} {c6 : Nat} (hC : Kd.C k58 w A6 x.f5.length x.f5) (hc : x.f5.length ≤ c6) (hG : G58 x) :
    ∃ b, (b = false → (flat x).length ≤ 600) ∧ Calls Try.prog 34 #[.agg (eX x A6 c6)] w fun e w' => e = .returned (.bool b) ∧ Below w.heap.size w w' := by
  obtain ⟨k, b, h1, h2⟩ := large_some hG
  exact ⟨b, h2, namesakelaw27_large.calls k _ _ _ _ _ _ _ A6 c6 x.f5 b w (V58 hC hc) h1⟩
theorem Exp_calls {w : World} {x : S58} {A6 : Option Addr} {c6 : Nat} (hC : Kd.C k58 w A6 x.f5.length x.f5) (hc : x.f5.length ≤ c6) (hl : (flat x).length ≤ 1000000) :
    Calls Try.prog 37 #[.agg (eX x A6 c6)] w fun e w' => ∃ A d, e = .returned (.agg (eY (conv x) A d)) ∧ (conv x).f5.length ≤ d ∧ Kd.C k75 w' A (conv x).f5.length (conv x).f5 ∧ Below w.heap.size w w' := by
  obtain ⟨k, h1⟩ := conv_some x hl
  refine (namesakelaw12_Exp.calls k _ _ _ _ _ _ A6 c6 x.f5 _ _ _ _ _ _ _ w hC hc h1).mono ?_
  rintro e w' ⟨v, rfl, hR, hB⟩
  obtain ⟨A, d, rfl, hd, hC'⟩ := Kd.R_reads hR
  rw [conv_eq]
  exact ⟨A, d, rfl, hd, hC', hB⟩
theorem Shaped_calls {w : World} {x : S58} {A6 : Option Addr} {c6 : Nat} (hC : Kd.C k75 w A6 (conv x).f5.length (conv x).f5) (hc : (conv x).f5.length ≤ c6) (hl : (flat x).length ≤ 1000000) :
    Calls Try.prog 38 #[.agg (eY (conv x) A6 c6)] w fun e w' => e = .returned (.bool (shapedB x)) ∧ Below w.heap.size w w' := by
  obtain ⟨k, h1⟩ := shaped_some x hl
  exact namesakeref27_Shaped.calls k _ _ _ _ _ _ A6 c6 _ _ w hC hc h1
end Go.Proofs.Ytoakelgcbbbieaa
