/- Maps of the call's own by names: a look-up, and a value laid under a name. -/
import Derived.Test.YtoakelgcbbbieaaBb
import Derived.WideKeyEntry
import Derived.WideKeyPair
import Derived.StringKeys
namespace Go.Proofs.Ytoakelgcbbbieaa
open Go.RowKit Go.Maps Go.Shelf Go.WideElems Go.ChangeMaps Go.WideMaps Go.MapKept Go.Proofs.YtoakelgcbbbieaaW.PrintWords Go.Proofs.YtoakelgcbbbieaaW.PrintLast Go.Proofs.YtoakelgcbbbieaaW.PrintMore
set_option linter.unusedVariables false
set_option linter.unusedSimpArgs false
set_option maxRecDepth 100000

theorem klaw9 : KeyLaw Try.prog 9 := string_law Try.underlying9

structure MapV {α : Type} (enc : α → Value) (W : World) (mb : Nat) (f : ByteArray → Option α) : Prop where
  ex : ∃ es clock, W.heap[mb]? = some (.map es clock) ∧ Stamped es clock ∧ (∀ e ∈ es.toList, ∃ s a, s.size ≤ maxLen ∧ e.key = .string s ∧ e.val = enc a ∧ f s = some a) ∧ (∀ s a, f s = some a → ∃ e ∈ es.toList, e.key = .string s)

theorem MapV.later {α : Type} {enc : α → Value} {W W' : World} {mb : Nat} {f : ByteArray → Option α} (h : MapV enc W mb f) (e : W'.heap[mb]? = W.heap[mb]?) : MapV enc W' mb f := by
  obtain ⟨es, clock, h1, h2⟩ := h
  exact ⟨es, clock, e.trans h1, h2⟩
theorem MapV.lt {α : Type} {enc : α → Value} {W : World} {mb : Nat} {f : ByteArray → Option α} (h : MapV enc W mb f) : mb < W.heap.size := by
  obtain ⟨es, clock, h1, -⟩ := h
  exact (Array.getElem?_eq_some_iff.1 h1).1
theorem MapV.below {α : Type} {enc : α → Value} {W W' : World} {mb : Nat} {f : ByteArray → Option α} (h : MapV enc W mb f) (hb : Below W.heap.size W W') : MapV enc W' mb f := h.later (hb.block _ h.lt)
theorem MapV.made {α : Type} (enc : α → Value) (W : World) : MapV enc (W.alloc (.map #[] 0)) W.heap.size (fun _ => none) :=
  ⟨#[], 0, World.alloc_heap_new W _, stamped_empty 0, by simp, by simp⟩

theorem vkeys_ok {α : Type} {enc : α → Value} {es : Array MapEntry} {f : ByteArray → Option α} (h : ∀ e ∈ es.toList, ∃ s a, s.size ≤ maxLen ∧ e.key = .string s ∧ e.val = enc a ∧ f s = some a) : ∀ e ∈ es.toList, ∃ l, keyOf Try.prog 9 e.key = some l := fun e he => by
  obtain ⟨s, a, hs, hk, -⟩ := h e he
  rw [hk]
  exact ⟨_, keyOf_string_mk (P := Try.prog) Try.underlying9 hs⟩

/-- what a look-up hands back -/
def lookV {α : Type} (enc : α → Value) (z : Value) (o : Option α) : Value := match o with | some a => enc a | none => z

theorem MapV.lookup {α : Type} {enc : α → Value} {W : World} {mb : Nat} {f : ByteArray → Option α} (h : MapV enc W mb f) {t e : TypeId} {z : Value} (ht : Try.prog.underlying t = some (.map 9 e)) (hz : ∀ W : World, (zeroValue e).run Try.prog W = .ok z W)
    {s : ByteArray} (hs : s.size ≤ maxLen) :
    (Instr.lookup t (.map (some mb)) (.string s) true).run Try.prog W = .ok (.tuple #[lookV enc z (f s), .bool (f s).isSome]) W ∧
    (Instr.lookup t (.map (some mb)) (.string s) false).run Try.prog W = .ok (lookV enc z (f s)) W := by
  obtain ⟨es, clock, h1, h2, h3, h4⟩ := h
  have hl := keyOf_string_mk (P := Try.prog) Try.underlying9 hs
  rcases klaw9.find W hl es.toList (vkeys_ok h3) with ⟨g1, g2⟩ | ⟨j, e0, g1, g2, g3⟩
  · have hf : f s = none := by
      cases hf : f s with
      | none => rfl
      | some a => obtain ⟨e, he, hk⟩ := h4 s a hf; exact absurd hk (g2 e he)
    rw [hf]
    constructor
    · simp [Instr.lookup, run_underlying ht, MapKept.run_getObj_map h1, klaw9.check W es.isEmpty hl, g1, hz, Result.andThen, lookV]
    · simp [Instr.lookup, run_underlying ht, MapKept.run_getObj_map h1, klaw9.check W es.isEmpty hl, g1, hz, Result.andThen, lookV]
  · obtain ⟨s', a, -, hk, hv, hf⟩ := h3 e0 (List.mem_of_getElem? g2)
    have hss : s' = s := by rw [g3] at hk; injection hk with hk; exact hk.symm
    subst hss
    rw [hf]
    constructor
    · simp [Instr.lookup, run_underlying ht, MapKept.run_getObj_map h1, klaw9.check W es.isEmpty hl, g1, hv, Result.andThen, lookV]
    · simp [Instr.lookup, run_underlying ht, MapKept.run_getObj_map h1, klaw9.check W es.isEmpty hl, g1, hv, Result.andThen, lookV]

/-- a value laid under a name -/
def upd {α : Type} (f : ByteArray → Option α) (s : ByteArray) (a : α) : ByteArray → Option α := fun s' => if s' = s then some a else f s'

theorem MapV.put {α : Type} {enc : α → Value} {W : World} {mb : Nat} {f : ByteArray → Option α} (h : MapV enc W mb f) {t e : TypeId} (ht : Try.prog.underlying t = some (.map 9 e))
    {s : ByteArray} (hs : s.size ≤ maxLen) (a : α) :
    ∃ W2, (Instr.mapUpdate t (.map (some mb)) (.string s) (enc a)).run Try.prog W = .ok () W2 ∧ MapV enc W2 mb (upd f s a) ∧ W.grownBy W2 (some mb) := by
  obtain ⟨es, clock, h1, ⟨s1, s2, s3⟩, h3, h4⟩ := h
  have hl := keyOf_string_mk (P := Try.prog) Try.underlying9 hs
  have hlt : mb < W.heap.size := (Array.getElem?_eq_some_iff.1 h1).1
  have hgr : ∀ (V : World) (o : Obj), V.grownBy (setBlock V mb o) (some mb) := fun V o => ⟨rfl, rfl, rfl, by simp [setBlock], fun k _ hk => by simp [setBlock, Array.getElem?_setIfInBounds, show mb ≠ k from fun e => hk (by rw [e])]⟩
  have hself : ∀ (V : World) (o : Obj), mb < V.heap.size → (setBlock V mb o).heap[mb]? = some o := fun V o hV => by simp [setBlock, hV]
  rcases klaw9.find W hl es.toList (vkeys_ok h3) with ⟨g1, g2⟩ | ⟨j, e0, g1, g2, g3⟩
  · refine ⟨setBlock W mb (.map (es.push ⟨.string s, enc a, clock⟩) (clock + 1)), ?_, ⟨_, _, hself W _ hlt, stamped_push ⟨s1, s2, s3⟩ g2, ?_, ?_⟩, hgr _ _⟩
    · simp [Instr.mapUpdate, run_underlying ht, MapKept.run_getObj_map h1, klaw9.check W false hl, g1, MapKept.run_setObj_map _ h1, Result.andThen, setBlock]
    · intro e he
      simp only [Array.toList_push, List.mem_append, List.mem_singleton] at he
      rcases he with he | rfl
      · obtain ⟨s', a', p1, p2, p3, p4⟩ := h3 e he
        refine ⟨s', a', p1, p2, p3, ?_⟩
        have hne : s' ≠ s := fun e1 => g2 e he (by rw [p2, e1])
        unfold upd; rw [if_neg hne]; exact p4
      · exact ⟨s, a, hs, rfl, rfl, by unfold upd; rw [if_pos rfl]⟩
    · intro s' a' hf
      unfold upd at hf
      by_cases hss : s' = s
      · subst hss
        exact ⟨⟨.string s', enc a, clock⟩, by simp, rfl⟩
      · rw [if_neg hss] at hf
        obtain ⟨e, he, hk⟩ := h4 s' a' hf
        exact ⟨e, by simp [he], hk⟩
  · have hj : es[j]? = some e0 := by simpa using g2
    refine ⟨setBlock W mb (.map (es.modify j (fun e => { e with key := .string s, val := enc a })) clock), ?_, ⟨_, _, hself W _ hlt, stamped_modify ⟨s1, s2, s3⟩ _ _ (fun _ _ => rfl) (fun e he => ?_), ?_, ?_⟩, hgr _ _⟩
    · simp [Instr.mapUpdate, run_underlying ht, MapKept.run_getObj_map h1, klaw9.check W false hl, g1, hj, g3, klaw9.stays W hl, MapKept.run_setObj_map _ h1, Result.andThen, setBlock]
    · intro he2; rw [hj] at he2; injection he2 with he2; subst he2; exact g3.symm
    · intro e he
      rw [Array.toList_modify, modify_eq_set _ _ _ _ g2] at he
      obtain ⟨i, hi, rfl⟩ := List.getElem_of_mem he
      rw [List.length_set] at hi
      by_cases hij : j = i
      · subst hij
        refine ⟨s, a, hs, ?_, ?_, by unfold upd; rw [if_pos rfl]⟩
        · rw [List.getElem_set_self]
        · rw [List.getElem_set_self]
      · rw [List.getElem_set_ne hij]
        obtain ⟨s', a', p1, p2, p3, p4⟩ := h3 es.toList[i] (List.getElem_mem hi)
        refine ⟨s', a', p1, p2, p3, ?_⟩
        have hne : s' ≠ s := fun e1 => by
          have k1 : (es.toList.map (·.key))[i]? = some (.string s) := by rw [List.getElem?_map, List.getElem?_eq_getElem hi, Option.map_some, p2, e1]
          have k2 : (es.toList.map (·.key))[j]? = some (.string s) := by rw [List.getElem?_map, g2, Option.map_some, g3]
          have hlt1 := (List.getElem?_eq_some_iff.1 k2).1
          exact hij ((List.getElem?_inj hlt1 s3).1 (k2.trans k1.symm))
        unfold upd; rw [if_neg hne]; exact p4
    · intro s' a' hf
      unfold upd at hf
      have hset : ∀ e ∈ es.toList, ∃ e' ∈ (es.modify j (fun e => { e with key := .string s, val := enc a })).toList, e'.key = e.key := by
        intro e he
        obtain ⟨i, hi, rfl⟩ := List.getElem_of_mem he
        rw [Array.toList_modify, modify_eq_set _ _ _ _ g2]
        by_cases hij : j = i
        · subst hij
          refine ⟨{ e0 with key := .string s, val := enc a }, List.mem_of_getElem? (i := j) (List.getElem?_set_self hi), ?_⟩
          have : es.toList[j] = e0 := by
            rw [List.getElem?_eq_getElem hi] at g2
            injection g2
          rw [this]; exact g3.symm
        · refine ⟨es.toList[i], List.mem_of_getElem? (i := i) ?_, rfl⟩
          rw [List.getElem?_set_ne hij, List.getElem?_eq_getElem hi]
      by_cases hss : s' = s
      · subst hss
        obtain ⟨e', he', hk'⟩ := hset e0 (List.mem_of_getElem? g2)
        exact ⟨e', he', hk'.trans g3⟩
      · rw [if_neg hss] at hf
        obtain ⟨e, he, hk⟩ := h4 s' a' hf
        obtain ⟨e', he', hk'⟩ := hset e he
        exact ⟨e', he', hk'.trans hk⟩
end Go.Proofs.Ytoakelgcbbbieaa
