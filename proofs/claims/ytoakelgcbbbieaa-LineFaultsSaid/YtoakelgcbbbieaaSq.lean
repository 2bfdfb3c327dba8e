/- A map of the call's own that counts pairs of numbers: a look-up and one more at a pair. -/
import Derived.Test.YtoakelgcbbbieaaSl
import Derived.WideKeyEntry
import Derived.WideKeyPair
namespace Go.Proofs.Ytoakelgcbbbieaa
open Go.RowKit Go.Maps Go.Shelf Go.WideElems Go.ChangeMaps Go.WideMaps Go.MapKept Go.Proofs.YtoakelgcbbbieaaW.PrintWords Go.Proofs.YtoakelgcbbbieaaW.PrintLast Go.Proofs.YtoakelgcbbbieaaW.PrintMore
set_option linter.unusedVariables false
set_option linter.unusedSimpArgs false
set_option maxRecDepth 100000

abbrev keyV (a b : Int) : Value := .agg #[.int .i64 a, .int .i64 b]
theorem pair114 : ArrKey Try.prog 114 3 2 := ⟨Try.underlying114, by kernel_rfl, by kernel_rfl, by kernel_rfl⟩
theorem law114 : KeyLaw Try.prog 114 := pair114.law
theorem types_succ : ∃ m, Try.prog.types.size = m + 1 := ⟨Try.prog.types.size - 1, by kernel_rfl⟩
abbrev wfI (a : Int) : Prop := (Lit.int .i64 a).wf = true
theorem key114 {a b : Int} (ha : wfI a) (hb : wfI b) : ∃ l, keyOf Try.prog 114 (keyV a b) = some l := ⟨_, keyOf_pair pair114 Try.underlying3 types_succ ha hb⟩

structure MapF (W : World) (mb : Nat) (L : List (Int × Int)) : Prop where
  ex : ∃ es clock, W.heap[mb]? = some (.map es clock) ∧ Stamped es clock ∧ (∀ e ∈ es.toList, ∃ a b n, wfI a ∧ wfI b ∧ e.key = keyV a b ∧ e.val = .int .i64 n ∧ 1 ≤ n ∧ n ≤ (L.length : Int)) ∧ (∀ p ∈ L, ∃ e ∈ es.toList, e.key = keyV p.1 p.2)

theorem MapF.later {W W' : World} {mb : Nat} {L : List (Int × Int)} (h : MapF W mb L) (e : W'.heap[mb]? = W.heap[mb]?) : MapF W' mb L := by
  obtain ⟨es, clock, h1, h2⟩ := h
  exact ⟨es, clock, e.trans h1, h2⟩
theorem MapF.lt {W : World} {mb : Nat} {L : List (Int × Int)} (h : MapF W mb L) : mb < W.heap.size := by
  obtain ⟨es, clock, h1, -⟩ := h
  exact (Array.getElem?_eq_some_iff.1 h1).1
theorem MapF.made (W : World) : MapF (W.alloc (.map #[] 0)) W.heap.size [] :=
  ⟨#[], 0, World.alloc_heap_new W _, stamped_empty 0, by simp, by simp⟩

theorem keys_ok {es : Array MapEntry} {N : Int} (h : ∀ e ∈ es.toList, ∃ a b n, wfI a ∧ wfI b ∧ e.key = keyV a b ∧ e.val = .int .i64 n ∧ 1 ≤ n ∧ n ≤ N) : ∀ e ∈ es.toList, ∃ l, keyOf Try.prog 114 e.key = some l := fun e he => by
  obtain ⟨a, b, n, ha, hb, hk, -⟩ := h e he
  rw [hk]
  exact key114 ha hb

theorem MapF.lookup {W : World} {mb : Nat} {L : List (Int × Int)} (h : MapF W mb L) {a b : Int} (ha : wfI a) (hb : wfI b) :
    ∃ n : Int, (Instr.lookup 111 (.map (some mb)) (keyV a b) false).run Try.prog W = .ok (.int .i64 n) W ∧ 0 ≤ n ∧ n ≤ L.length ∧ ((a, b) ∈ L → 1 ≤ n) := by
  obtain ⟨es, clock, h1, h2, h3, h4⟩ := h
  obtain ⟨l, hl⟩ := key114 ha hb
  have hz : (zeroValue 3).run Try.prog W = .ok (.int .i64 0) W := Try.zeroValue3 W
  rcases law114.find W hl es.toList (keys_ok h3) with ⟨g1, g2⟩ | ⟨j, e, g1, g2, g3⟩
  · refine ⟨0, ?_, by omega, by omega, fun hm => ?_⟩
    · simp [Instr.lookup, run_underlying Try.underlying111, MapKept.run_getObj_map h1, law114.check W es.isEmpty hl, g1, hz, Result.andThen]
    · obtain ⟨e, he, hk⟩ := h4 _ hm
      exact absurd hk (g2 e he)
  · obtain ⟨a', b', n, -, -, -, hv, hn1, hn2⟩ := h3 e (List.mem_of_getElem? g2)
    refine ⟨n, ?_, by omega, hn2, fun _ => hn1⟩
    simp [Instr.lookup, run_underlying Try.underlying111, MapKept.run_getObj_map h1, law114.check W es.isEmpty hl, g1, hv, Result.andThen]

/-- one more at a pair -/
theorem MapF.more {W : World} {mb : Nat} {L : List (Int × Int)} (h : MapF W mb L) {a b : Int} (ha : wfI a) (hb : wfI b) :
    ∃ (n0 : Int) (v0 : Value) (st : Nat) (W1 W2 : World), 0 ≤ n0 ∧ n0 ≤ L.length ∧ (Instr.lookup 111 (.map (some mb)) (keyV a b) false).run Try.prog W = .ok (.int .i64 n0) W ∧
      (Instr.mapEntry 111 (.map (some mb)) (keyV a b)).run Try.prog W = .ok (.tuple #[v0, .int .i64 st]) W1 ∧ W.grownBy W1 (some mb) ∧
      (Instr.lookup 111 (.map (some mb)) (keyV a b) false).run Try.prog W1 = .ok (.int .i64 n0) W1 ∧
      (Instr.entryStore 111 (.map (some mb)) (.int .i64 st) (.int .i64 (n0 + 1))).run Try.prog W1 = .ok () W2 ∧ MapF W2 mb (L ++ [(a, b)]) ∧ W.grownBy W2 (some mb) := by
  obtain ⟨es, clock, h1, h2, h3, h4⟩ := h
  obtain ⟨l, hl⟩ := key114 ha hb
  have hlt : mb < W.heap.size := (Array.getElem?_eq_some_iff.1 h1).1
  have hz : ∀ W : World, (zeroValue 3).run Try.prog W = .ok (.int .i64 0) W := Try.zeroValue3
  obtain ⟨s1, s2, s3⟩ := h2
  have hgr : ∀ (V : World) (o : Obj), V.grownBy (setBlock V mb o) (some mb) := fun V o => ⟨rfl, rfl, rfl, by simp [setBlock], fun k _ hk => by simp [setBlock, Array.getElem?_setIfInBounds, show mb ≠ k from fun e => hk (by rw [e])]⟩
  have hself : ∀ (V : World) (o : Obj), mb < V.heap.size → (setBlock V mb o).heap[mb]? = some o := fun V o hV => by simp [setBlock, hV]
  have hgt : ∀ {A B C : World}, A.grownBy B (some mb) → B.grownBy C (some mb) → A.grownBy C (some mb) := fun h k => World.grownBy.trans h k
  rcases law114.find W hl es.toList (keys_ok h3) with ⟨g1, g2⟩ | ⟨j, e0, g1, g2, g3⟩
  · have r1 : (Instr.mapEntry 111 (.map (some mb)) (keyV a b)).run Try.prog W = .ok (.tuple #[.int .i64 0, .int .i64 clock]) (setBlock W mb (.map (es.push ⟨keyV a b, .int .i64 0, clock⟩) (clock + 1))) := by
      simp [Instr.mapEntry, run_underlying Try.underlying111, MapKept.run_getObj_map h1, law114.check W false hl, g1, hz, MapKept.run_setObj_map _ h1, Result.andThen, setBlock, goInt]
    have r0 : (Instr.lookup 111 (.map (some mb)) (keyV a b) false).run Try.prog W = .ok (.int .i64 0) W := by
      simp [Instr.lookup, run_underlying Try.underlying111, MapKept.run_getObj_map h1, law114.check W es.isEmpty hl, g1, hz, Result.andThen]
    obtain ⟨n, hn⟩ : ∃ n : Int, n = 0 + 1 := ⟨_, rfl⟩
    have hn1 : 1 ≤ n := by omega
    have hn2 : n ≤ L.length + 1 := by omega
    refine ⟨0, .int .i64 0, clock, setBlock W mb (.map (es.push ⟨keyV a b, .int .i64 0, clock⟩) (clock + 1)), ?_⟩
    rw [← hn]
    clear hn
    have hw2 := hself W (.map (es.push ⟨keyV a b, .int .i64 0, clock⟩) (clock + 1)) hlt
    have hgA := hgr W (.map (es.push ⟨keyV a b, .int .i64 0, clock⟩) (clock + 1))
    have hko : ∀ e ∈ (es.push ⟨keyV a b, .int .i64 0, clock⟩).toList, ∃ l, keyOf Try.prog 114 e.key = some l := by
      intro e he
      simp only [Array.toList_push, List.mem_append, List.mem_singleton] at he
      rcases he with he | rfl
      · exact keys_ok h3 e he
      · exact ⟨l, hl⟩
    generalize hW1 : setBlock W mb (.map (es.push ⟨keyV a b, .int .i64 0, clock⟩) (clock + 1)) = W1 at hw2
    have hlt1 : mb < W1.heap.size := (Array.getElem?_eq_some_iff.1 hw2).1
    have hidx : (es.push ⟨keyV a b, .int .i64 0, clock⟩).findIdx? (fun e => ((e.born : Nat) : Int) == ((clock : Nat) : Int)) = some es.size := by
      rw [findIdx_arr]
      have := findIdx_born (l := (es.push ⟨keyV a b, .int .i64 0, clock⟩).toList) (j := es.size) (e0 := ⟨keyV a b, .int .i64 0, clock⟩) (by
        simp only [Array.toList_push, List.map_append, List.map_cons, List.map_nil]
        refine List.nodup_append.2 ⟨s2, by simp, fun a ha c hc e1 => ?_⟩
        simp only [List.mem_singleton] at hc
        obtain ⟨x, hx, rfl⟩ := List.mem_map.1 ha
        have := s1 x hx
        omega) (by simp)
      exact this
    have hmod : (es.push ⟨keyV a b, .int .i64 0, clock⟩).modify es.size (fun e => { e with val := .int .i64 n }) = es.push ⟨keyV a b, .int .i64 n, clock⟩ := by
      apply Array.ext'
      rw [Array.toList_modify, Array.toList_push, Array.toList_push, ← Array.length_toList, modify_last]
    rw [hW1] at r1 hgA
    have r2 : (Instr.lookup 111 (.map (some mb)) (keyV a b) false).run Try.prog W1 = .ok (.int .i64 0) W1 := by
      rcases law114.find W1 hl (es.push ⟨keyV a b, .int .i64 0, clock⟩).toList hko with ⟨q1, q2⟩ | ⟨j, e, q1, q2, q3⟩
      · exact absurd rfl (q2 ⟨keyV a b, .int .i64 0, clock⟩ (by simp))
      · have hv : e.val = .int .i64 0 := by
          have he := List.mem_of_getElem? q2
          simp only [Array.toList_push, List.mem_append, List.mem_singleton] at he
          rcases he with he | rfl
          · exact absurd q3 (g2 e he)
          · rfl
        have hw2' := hw2
        clear hidx hmod hko q2 hw2 hW1
        generalize es.push ⟨keyV a b, .int .i64 0, clock⟩ = es1 at hw2' q1
        simp [Instr.lookup, run_underlying Try.underlying111, MapKept.run_getObj_map hw2', law114.check W1 es1.isEmpty hl, q1, hv, Result.andThen]
    refine ⟨setBlock W1 mb (.map (es.push ⟨keyV a b, .int .i64 n, clock⟩) (clock + 1)), by omega, by omega, r0, r1, hgA, r2, ?_, ⟨_, _, hself W1 _ hlt1, stamped_push ⟨s1, s2, s3⟩ g2, ?_, ?_⟩, ?_⟩
    · simp [Instr.entryStore, MapKept.run_getObj_map hw2, asInt, asIntOf, hidx, hmod, MapKept.run_setObj_map _ hw2, Result.andThen, setBlock]
    · intro e he
      simp only [Array.toList_push, List.mem_append, List.mem_singleton] at he
      rcases he with he | rfl
      · obtain ⟨a', b', n', p1, p2, p3, p4, p5, p6⟩ := h3 e he
        exact ⟨a', b', n', p1, p2, p3, p4, p5, by simp; omega⟩
      · exact ⟨a, b, n, ha, hb, rfl, rfl, hn1, by simpa using hn2⟩
    · intro p hp
      rcases List.mem_append.1 hp with hp | hp
      · obtain ⟨e, he, hk⟩ := h4 p hp
        exact ⟨e, by simp [he], hk⟩
      · obtain rfl := List.mem_singleton.1 hp
        exact ⟨⟨keyV a b, .int .i64 n, clock⟩, by simp, rfl⟩
    · exact hgt hgA (hgr _ _)
  · have hj : es[j]? = some e0 := by simpa using g2
    have hsame : es.modify j (fun e => { e with key := keyV a b }) = es := by
      apply Array.ext'
      rw [Array.toList_modify, modify_eq_set _ _ _ _ g2]
      have : ({ e0 with key := keyV a b } : MapEntry) = e0 := by rw [← g3]
      rw [this]
      exact set_self _ _ _ g2
    have r1 : (Instr.mapEntry 111 (.map (some mb)) (keyV a b)).run Try.prog W = .ok (.tuple #[e0.val, .int .i64 e0.born]) (setBlock W mb (.map es clock)) := by
      simp [Instr.mapEntry, run_underlying Try.underlying111, MapKept.run_getObj_map h1, law114.check W false hl, g1, hj, g3, law114.stays W hl, hsame, MapKept.run_setObj_map _ h1, Result.andThen, setBlock, goInt]
    obtain ⟨a0, b0, n0, -, -, -, hv0, hv1, hv2⟩ := h3 e0 (List.mem_of_getElem? g2)
    have r0 : (Instr.lookup 111 (.map (some mb)) (keyV a b) false).run Try.prog W = .ok (.int .i64 n0) W := by
      simp [Instr.lookup, run_underlying Try.underlying111, MapKept.run_getObj_map h1, law114.check W es.isEmpty hl, g1, hv0, Result.andThen]
    obtain ⟨n, hn⟩ : ∃ n : Int, n = n0 + 1 := ⟨_, rfl⟩
    have hn1 : 1 ≤ n := by omega
    have hn2 : n ≤ L.length + 1 := by omega
    refine ⟨n0, e0.val, e0.born, setBlock W mb (.map es clock), ?_⟩
    rw [← hn]
    clear hn
    have hw2 := hself W (.map es clock) hlt
    have hgA := hgr W (.map es clock)
    generalize hW1 : setBlock W mb (.map es clock) = W1 at hw2
    have hlt1 : mb < W1.heap.size := (Array.getElem?_eq_some_iff.1 hw2).1
    have hidx : es.findIdx? (fun e => ((e.born : Nat) : Int) == ((e0.born : Nat) : Int)) = some j := by
      rw [findIdx_arr]
      exact findIdx_born s2 g2
    rw [hW1] at r1 hgA
    have r2 : (Instr.lookup 111 (.map (some mb)) (keyV a b) false).run Try.prog W1 = .ok (.int .i64 n0) W1 := by
      rcases law114.find W1 hl es.toList (keys_ok h3) with ⟨q1, q2⟩ | ⟨j', e, q1, q2, q3⟩
      · exact absurd g3 (q2 e0 (List.mem_of_getElem? g2))
      · have hv : e.val = .int .i64 n0 := by
          have hp := (stamped_iff es clock).1 ⟨s1, s2, s3⟩
          have : j' = j := by
            have k1 : (es.toList.map (·.key))[j']? = some (keyV a b) := by rw [List.getElem?_map, q2]; simp [q3]
            have k2 : (es.toList.map (·.key))[j]? = some (keyV a b) := by rw [List.getElem?_map, g2]; simp [g3]
            have hlt1 := (List.getElem?_eq_some_iff.1 k1).1
            exact (List.getElem?_inj hlt1 s3).1 (k1.trans k2.symm)
          subst this
          rw [g2] at q2
          injection q2 with q2
          rw [← q2, hv0]
        simp [Instr.lookup, run_underlying Try.underlying111, MapKept.run_getObj_map hw2, law114.check W1 es.isEmpty hl, q1, hv, Result.andThen]
    refine ⟨setBlock W1 mb (.map (es.modify j (fun e => { e with val := .int .i64 n })) clock), by omega, hv2, r0, r1, hgA, r2, ?_, ⟨_, _, hself W1 _ hlt1, stamped_modify ⟨s1, s2, s3⟩ _ _ (fun _ _ => rfl) (fun _ _ _ => rfl), ?_, ?_⟩, ?_⟩
    · simp [Instr.entryStore, MapKept.run_getObj_map hw2, asInt, asIntOf, hidx, MapKept.run_setObj_map _ hw2, Result.andThen, setBlock]
    · intro e he
      rw [Array.toList_modify, modify_eq_set _ _ _ _ g2] at he
      rcases List.mem_or_eq_of_mem_set he with he | rfl
      · obtain ⟨a', b', n', p1, p2, p3, p4, p5, p6⟩ := h3 e he
        exact ⟨a', b', n', p1, p2, p3, p4, p5, by simp; omega⟩
      · exact ⟨a, b, n, ha, hb, g3, rfl, hn1, by simpa using hn2⟩
    · intro p hp
      have hset : ∀ e ∈ es.toList, ∃ e' ∈ (es.modify j (fun e => { e with val := .int .i64 n })).toList, e'.key = e.key := by
        intro e he
        obtain ⟨i, hi, rfl⟩ := List.getElem_of_mem he
        rw [Array.toList_modify, modify_eq_set _ _ _ _ g2]
        by_cases hij : j = i
        · subst hij
          refine ⟨{ e0 with val := .int .i64 n }, List.mem_of_getElem? (i := j) (List.getElem?_set_self hi), ?_⟩
          have : es.toList[j] = e0 := by
            rw [List.getElem?_eq_getElem hi] at g2
            injection g2
          rw [this]
        · refine ⟨es.toList[i], List.mem_of_getElem? (i := i) ?_, rfl⟩
          rw [List.getElem?_set_ne hij, List.getElem?_eq_getElem hi]
      rcases List.mem_append.1 hp with hp | hp
      · obtain ⟨e, he, hk⟩ := h4 p hp
        obtain ⟨e', he', hk'⟩ := hset e he
        exact ⟨e', he', hk'.trans hk⟩
      · obtain rfl := List.mem_singleton.1 hp
        obtain ⟨e', he', hk'⟩ := hset e0 (List.mem_of_getElem? g2)
        exact ⟨e', he', hk'.trans g3⟩
    · exact hgt hgA (hgr _ _)
end Go.Proofs.Ytoakelgcbbbieaa
