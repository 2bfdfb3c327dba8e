/- The plain laws of PureDepends: names counted; a value depends on those of its names alone. -/
import Derived.Test.YtoakelgcbbbieaaCc
import Derived.Test.YtoakelgcbbbieaaBi
namespace Go.Proofs.Ytoakelgcbbbieaa
open Go.RowKit Go.Maps Go.Shelf Go.Proofs.YtoakelgcbbbieaaW.PrintWords Go.Proofs.YtoakelgcbbbieaaW.PrintLast Go.Proofs.YtoakelgcbbbieaaW.PrintMore
set_option linter.unusedVariables false
set_option linter.unusedSimpArgs false
set_option maxRecDepth 100000

theorem list_snoc {α : Type} {p : List α → Prop} (nil : p []) (snoc : ∀ l a, p l → p (l ++ [a])) : ∀ l, p l := fun l => by
  rw [← List.reverse_reverse l]
  induction l.reverse with
  | nil => exact nil
  | cons a r ih => rw [List.reverse_cons]; exact snoc _ _ ih
/-- how often a name has come -/
def cntF (pre : List NM) : ByteArray → Option Int := pre.foldl (fun f a => upd f a.s.f0 (wrap64 ((f a.s.f0).getD 0 + 1))) (fun _ => none)
theorem cntF_snoc (pre : List NM) (a : NM) : cntF (pre ++ [a]) = upd (cntF pre) a.s.f0 (wrap64 ((cntF pre a.s.f0).getD 0 + 1)) := by unfold cntF; rw [List.foldl_append]; rfl
theorem cntF_range : ∀ (pre : List NM) (s : ByteArray) (n : Int), pre.length ≤ 1000000 → cntF pre s = some n → 1 ≤ n ∧ n ≤ pre.length := by
  intro pre
  induction pre using list_snoc with
  | nil => intro s n _ h; cases h
  | snoc pre a ih =>
    intro s n hl h
    rw [List.length_append, List.length_singleton] at hl ⊢
    rw [cntF_snoc] at h
    unfold upd at h
    by_cases hs : s = a.s.f0
    · rw [if_pos hs] at h
      injection h with h
      have h2 : 0 ≤ (cntF pre a.s.f0).getD 0 ∧ (cntF pre a.s.f0).getD 0 ≤ pre.length := by
        cases hc : cntF pre a.s.f0 with
        | none => simp
        | some k => have := ih _ _ (by omega) hc; simp; omega
      unfold wrap64 at h
      omega
    · rw [if_neg hs] at h
      have := ih _ _ (by omega) h
      omega
theorem cntF_none : ∀ (pre : List NM) (s : ByteArray), cntF pre s = none ↔ ∀ a ∈ pre, a.s.f0 ≠ s := by
  intro pre
  induction pre using list_snoc with
  | nil => intro s; simp [cntF]
  | snoc pre a ih =>
    intro s
    rw [cntF_snoc]
    unfold upd
    by_cases hs : s = a.s.f0
    · rw [if_pos hs]
      constructor
      · intro h; cases h
      · intro h; exact absurd hs.symm (h a (by simp))
    · rw [if_neg hs, ih]
      constructor
      · intro h b hb
        rcases List.mem_append.1 hb with hb | hb
        · exact h b hb
        · obtain rfl := List.mem_singleton.1 hb
          exact fun e => hs e.symm
      · exact fun h b hb => h b (by simp [hb])
/-- a name has not come just if its count is 0 -/
theorem cnt_zero {pre : List NM} {s : ByteArray} (hl : pre.length ≤ 1000000) : (cntF pre s).getD 0 = 0 ↔ ∀ a ∈ pre, a.s.f0 ≠ s := by
  rw [← cntF_none]
  cases hc : cntF pre s with
  | none => simp
  | some n => have := cntF_range pre s n hl hc; simp; omega

/-- the values of more names, those alone that are not read -/
def moreF (f : ByteArray → Option (Int × Int)) (c : ByteArray → Option Int) (more : List S97) : ByteArray → Option (Int × Int) :=
  more.foldl (fun f x => if (c x.f0).getD 0 = 0 then upd f x.f0 (x.f1, x.f2) else f) f
theorem moreF_snoc (f : ByteArray → Option (Int × Int)) (c : ByteArray → Option Int) (l : List S97) (x : S97) : moreF f c (l ++ [x]) = if (c x.f0).getD 0 = 0 then upd (moreF f c l) x.f0 (x.f1, x.f2) else moreF f c l := by
  unfold moreF; rw [List.foldl_append]; rfl
theorem moreF_read (f : ByteArray → Option (Int × Int)) (c : ByteArray → Option Int) (s : ByteArray) (hs : ¬ (c s).getD 0 = 0) : ∀ l : List S97, moreF f c l s = f s := by
  intro l
  induction l using list_snoc with
  | nil => rfl
  | snoc l x ih =>
    rw [moreF_snoc]
    split
    · rename_i h
      unfold upd
      rw [if_neg (fun e => hs (by rw [e]; exact h))]
      exact ih
    · exact ih

theorem reads_kid {x y : S58} (hy : y ∈ x.f5) {s : S55} (hs : s ∈ readsS y) : s ∈ readsS x := by
  unfold readsS at hs ⊢
  obtain ⟨z, hz, hs⟩ := List.mem_flatMap.1 hs
  refine List.mem_flatMap.2 ⟨z, ?_, hs⟩
  rw [flat_eq]
  exact List.mem_cons_of_mem _ (List.mem_flatMap.2 ⟨y, hy, hz⟩)
theorem reads_own {x : S58} (h : x.f0 = 28) : x.f1 ∈ readsS x := by
  unfold readsS
  refine List.mem_flatMap.2 ⟨x, by rw [flat_eq]; simp, ?_⟩
  unfold nm1; rw [if_pos h]; simp

/-- a value depends on those of its names alone -/
theorem evP_congr {m m' : ByteArray → Option (Int × Int)} (x : S58) : (∀ s ∈ readsS x, m s.f0 = m' s.f0) → evP m x = evP m' x := by
  induction x using S58.ind with
  | _ x ih =>
  intro h
  have hk : x.f5.map (evP m) = x.f5.map (evP m') := List.map_congr_left (fun y hy => ih y hy (fun s hs => h s (reads_kid hy hs)))
  funext e
  rw [evP_eq, evP_eq, hk]
  unfold evNode
  by_cases h28 : x.f0 = 28
  · rw [h x.f1 (reads_own h28)]
  · simp only [if_neg h28]
theorem evalP_congr {m m' : ByteArray → Option (Int × Int)} {x : S58} (h : ∀ s ∈ readsS x, m s.f0 = m' s.f0) : evalP m x = evalP m' x := by
  unfold evalP
  rw [evP_congr x h]
end Go.Proofs.Ytoakelgcbbbieaa
