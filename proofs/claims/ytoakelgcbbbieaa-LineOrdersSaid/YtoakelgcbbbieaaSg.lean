/- Faults sorted and cut of their twins are the faults put one by one into their places. -/
import Derived.Test.YtoakelgcbbbieaaSf
import Derived.Lib.SlicesCompact
namespace Go.Proofs.Ytoakelgcbbbieaa
open Go.RowKit Go.Maps Go.Sort Go.Lib Go.Proofs.YtoakelgcbbbieaaW.PrintWords Go.Proofs.YtoakelgcbbbieaaW.PrintLast Go.Proofs.YtoakelgcbbbieaaW.PrintMore
set_option linter.unusedVariables false
set_option linter.unusedSimpArgs false

instance : Inhabited S113 := ⟨z113⟩
instance : DecidableEq S113 := fun a b =>
  if h : a.f0 = b.f0 ∧ a.f1 = b.f1 ∧ a.f2 = b.f2 then .isTrue (by cases a; cases b; simp only at h; obtain ⟨h0, h1, h2⟩ := h; rw [h0, h1, h2])
  else .isFalse (fun e => h (by rw [e]; exact ⟨rfl, rfl, rfl⟩))

theorem ltF_irrefl (a : S113) : ¬ ltF a a := by unfold ltF; omega
theorem ltF_trans {a b c : S113} (h1 : ltF a b) (h2 : ltF b c) : ltF a c := by unfold ltF at *; omega
theorem ltF_asymm {a b : S113} (h1 : ltF a b) : ¬ ltF b a := by unfold ltF at *; omega
theorem ltF_eq {a b : S113} (h1 : ¬ ltF a b) (h2 : ¬ ltF b a) : a = b := ltF_total ((ltFB_not _ _).2 h1) ((ltFB_not _ _).2 h2)

/-- One fault more in its place. -/
def putF (f : S113) : List S113 → List S113
  | [] => [f]
  | x :: l => if ltFB x f then x :: putF f l else if x = f then x :: l else f :: x :: l

theorem mem_putF (f y : S113) : ∀ l : List S113, y ∈ putF f l ↔ y = f ∨ y ∈ l
  | [] => by simp [putF]
  | x :: l => by
    unfold putF
    split
    · rw [List.mem_cons, mem_putF f y l, List.mem_cons]
      constructor
      · rintro (h | h | h)
        · exact .inr (.inl h)
        · exact .inl h
        · exact .inr (.inr h)
      · rintro (h | h | h)
        · exact .inr (.inl h)
        · exact .inl h
        · exact .inr (.inr h)
    · split
      · rename_i h
        subst h
        constructor
        · exact .inr
        · rintro (h | h)
          · rw [h]; exact List.mem_cons_self
          · exact h
      · rw [List.mem_cons]

theorem sorted_putF (f : S113) : ∀ l : List S113, l.Pairwise ltF → (putF f l).Pairwise ltF
  | [], _ => by simp [putF]
  | x :: l, h => by
    have h' := List.pairwise_cons.1 h
    unfold putF
    split
    · rename_i hx
      refine List.pairwise_cons.2 ⟨fun y hy => ?_, sorted_putF f l h'.2⟩
      rcases (mem_putF f y l).1 hy with rfl | hy
      · exact (ltFB_iff _ _).1 hx
      · exact h'.1 y hy
    · rename_i hx
      split
      · exact h
      · rename_i hne
        have hf : ltF f x := by
          refine Classical.byContradiction fun hn => hne (ltF_eq (fun h1 => hx ((ltFB_iff _ _).2 h1)) hn)
        refine List.pairwise_cons.2 ⟨fun y hy => ?_, h⟩
        rcases List.mem_cons.1 hy with rfl | hy
        · exact hf
        · exact ltF_trans hf (h'.1 y hy)

/-- All faults, each in its place. -/
def setF (l : List S113) : List S113 := l.foldl (fun acc f => putF f acc) []
theorem setF_from (y : S113) : ∀ (l acc : List S113), acc.Pairwise ltF → (l.foldl (fun acc f => putF f acc) acc).Pairwise ltF ∧ (y ∈ l.foldl (fun acc f => putF f acc) acc ↔ y ∈ l ∨ y ∈ acc)
  | [], acc, h => ⟨h, by simp⟩
  | x :: l, acc, h => by
    obtain ⟨h1, h2⟩ := setF_from y l (putF x acc) (sorted_putF x acc h)
    refine ⟨h1, ?_⟩
    rw [List.foldl_cons, h2, mem_putF, List.mem_cons]
    constructor
    · rintro (h | h | h)
      · exact .inl (.inr h)
      · exact .inl (.inl h)
      · exact .inr h
    · rintro ((h | h) | h)
      · exact .inr (.inl h)
      · exact .inl h
      · exact .inr (.inr h)
theorem sorted_setF (l : List S113) : (setF l).Pairwise ltF := (setF_from ⟨0, 0, 0⟩ l [] List.Pairwise.nil).1
theorem mem_setF (y : S113) (l : List S113) : y ∈ setF l ↔ y ∈ l := by
  have := (setF_from y l [] List.Pairwise.nil).2
  rw [setF, this]
  simp
theorem setF_snoc (l : List S113) (f : S113) : setF (l ++ [f]) = putF f (setF l) := by simp [setF]

theorem len_putF (f : S113) : ∀ l : List S113, (putF f l).length ≤ l.length + 1
  | [] => by simp [putF]
  | x :: l => by
    unfold putF
    split
    · have := len_putF f l
      simp only [List.length_cons]
      omega
    · split <;> simp
theorem len_setF_from : ∀ (l acc : List S113), (l.foldl (fun acc f => putF f acc) acc).length ≤ l.length + acc.length
  | [], acc => by simp
  | x :: l, acc => by
    have h1 := len_setF_from l (putF x acc)
    have h2 := len_putF x acc
    simp only [List.foldl_cons, List.length_cons]
    omega
theorem len_setF (l : List S113) : (setF l).length ≤ l.length := by
  have := len_setF_from l []
  simpa [setF] using this

theorem strict_ext : ∀ (a b : List S113), a.Pairwise ltF → b.Pairwise ltF → (∀ y, y ∈ a ↔ y ∈ b) → a = b
  | [], b, _, _, h => by
    cases b with
    | nil => rfl
    | cons x b => exact absurd ((h x).2 List.mem_cons_self) (by simp)
  | x :: a, [], _, _, h => absurd ((h x).1 List.mem_cons_self) (by simp)
  | x :: a, z :: b, ha, hb, h => by
    have ha' := List.pairwise_cons.1 ha
    have hb' := List.pairwise_cons.1 hb
    have hxz : x = z := by
      rcases List.mem_cons.1 ((h x).1 List.mem_cons_self) with e | hx
      · exact e
      · rcases List.mem_cons.1 ((h z).2 List.mem_cons_self) with e | hz
        · exact e.symm
        · exact absurd (hb'.1 x hx) (ltF_asymm (ha'.1 z hz))
    subst hxz
    congr 1
    refine strict_ext a b ha'.2 hb'.2 fun y => ⟨fun hy => ?_, fun hy => ?_⟩
    · rcases List.mem_cons.1 ((h y).1 (List.mem_cons_of_mem _ hy)) with e | hy'
      · subst e; exact absurd (ha'.1 y hy) (ltF_irrefl y)
      · exact hy'
    · rcases List.mem_cons.1 ((h y).2 (List.mem_cons_of_mem _ hy)) with e | hy'
      · subst e; exact absurd (hb'.1 y hy) (ltF_irrefl y)
      · exact hy'

theorem compact_upto (d : Array S113) (n : Nat) (hs : SortedIn ltFB 0 n d) : ∀ m, m ≤ n → (compactUpTo d m).Pairwise ltF ∧ ∀ y, y ∈ compactUpTo d m ↔ ∃ j, j < m ∧ d[j]! = y
  | 0, _ => ⟨by simp [compactUpTo], fun y => ⟨by simp [compactUpTo], fun ⟨j, hj, _⟩ => absurd hj (by omega)⟩⟩
  | m + 1, hm => by
    obtain ⟨h1, h2⟩ := compact_upto d n hs m (by omega)
    have hle : ∀ i j, i < j → j < n → ¬ ltF d[j]! d[i]! := fun i j hij hj => (ltFB_not _ _).1 (hs i j (Nat.zero_le _) hij hj)
    rw [compactUpTo_succ]
    by_cases hk : keeps d m = true
    · rw [if_pos hk]
      refine ⟨List.pairwise_append.2 ⟨h1, by simp, fun x hx y hy => ?_⟩, fun y => ?_⟩
      · obtain ⟨j, hj, rfl⟩ := (h2 x).1 hx
        obtain rfl := List.mem_singleton.1 hy
        refine Classical.byContradiction fun hn => ?_
        have e := ltF_eq hn (hle j m hj (by omega))
        have hk' : m = 0 ∨ d[m]! ≠ d[m - 1]! := of_decide_eq_true hk
        rcases hk' with h0 | h0
        · omega
        · rcases Nat.lt_or_ge j (m - 1) with hj1 | hj1
          · refine h0 (ltF_eq (hle (m - 1) m (by omega) (by omega)) ?_)
            rw [← e]
            exact hle j (m - 1) hj1 (by omega)
          · obtain rfl : j = m - 1 := by omega
            exact h0 e.symm
      · rw [List.mem_append, h2, List.mem_singleton]
        constructor
        · rintro (⟨j, hj, h⟩ | h)
          · exact ⟨j, by omega, h⟩
          · exact ⟨m, by omega, h.symm⟩
        · rintro ⟨j, hj, h⟩
          rcases Nat.lt_or_ge j m with hj1 | hj1
          · exact .inl ⟨j, hj1, h⟩
          · obtain rfl : j = m := by omega
            exact .inr h.symm
    · rw [if_neg hk, List.append_nil]
      refine ⟨h1, fun y => ?_⟩
      rw [h2]
      have hk' : ¬ (m = 0 ∨ d[m]! ≠ d[m - 1]!) := fun h => hk (decide_eq_true h)
      have h0 : m ≠ 0 := fun h => hk' (.inl h)
      have he : d[m]! = d[m - 1]! := Classical.byContradiction fun h => hk' (.inr h)
      constructor
      · rintro ⟨j, hj, h⟩
        exact ⟨j, by omega, h⟩
      · rintro ⟨j, hj, h⟩
        rcases Nat.lt_or_ge j m with hj1 | hj1
        · exact ⟨j, hj1, h⟩
        · obtain rfl : j = m := by omega
          exact ⟨j - 1, by omega, he.symm.trans h⟩

theorem compact_set {fs : List S113} {d' : Array S113} (hp : PermIn 0 fs.length fs.toArray d') (hs : SortedIn ltFB 0 fs.length d') : d'.size = fs.length ∧ compactUpTo d' d'.size = setF fs := by
  have hsz : d'.size = fs.length := by rw [hp.1]; simp
  refine ⟨hsz, ?_⟩
  rw [hsz]
  obtain ⟨h1, h2⟩ := compact_upto d' fs.length hs fs.length (Nat.le_refl _)
  refine strict_ext _ _ h1 (sorted_setF fs) fun y => ?_
  rw [h2, mem_setF]
  have hperm : d'.toList.Perm fs := by
    have := hp.2.2
    rw [show d'.extract 0 fs.length = d' by rw [← hsz]; simp, show fs.toArray.extract 0 fs.length = fs.toArray by simp] at this
    simpa using this
  rw [← hperm.mem_iff, List.mem_iff_getElem]
  constructor
  · rintro ⟨j, hj, h⟩
    exact ⟨j, by simpa [hsz] using hj, by rw [← h, getElem!_pos d' j (by omega)]; simp⟩
  · rintro ⟨j, hj, h⟩
    have hj' : j < d'.size := by simpa using hj
    exact ⟨j, by omega, by rw [getElem!_pos d' j hj', ← h]; simp⟩
end Go.Proofs.Ytoakelgcbbbieaa
