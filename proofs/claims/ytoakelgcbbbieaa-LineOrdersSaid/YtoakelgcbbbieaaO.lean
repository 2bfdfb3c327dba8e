/- A region whose operations are drawn in any order, walked in the order of its dependences. -/
import Derived.Test.YtoakelgcbbbieaaWWords
import Derived.Test.YtoakelgcbbbieaaWLast
import Derived.WalkKit
import Derived.KernelRfl
/-! A region that draws its order: what reads or reckons is taken first, in an order of one's own; what is left comes up one by one. One check for the whole region. -/
namespace Go.Proofs.Ytoakelgcbbbieaa
open Go.RowKit Go.Proofs.YtoakelgcbbbieaaW.PrintWords Go.Proofs.YtoakelgcbbbieaaW.PrintLast
section
variable {P : Program} {ops : Array Oper} {Q : Exit → Act → World → Prop} {S : World → Prop} {ds : List Nat}

/-- What is taken first: each operation yields one value in every world (true), or in every world that meets S (false). -/
def ordHead (P : Program) (ops : Array Oper) (S : World → Prop) (K : Act → Prop) : List (Oper × Bool) → Act → Prop
  | [], a => K a
  | (o, b) :: r, a => ∃ v, YieldsIf P ops (fun w => b = false → S w) o v a ∧ ordHead P ops S K r (a.put o.dst v)

theorem ordHead_nil {K : Act → Prop} {a : Act} (h : K a) : ordHead P ops S K [] a := h
/-- an operation that yields in every world -/
theorem ordHead_pure {K : Act → Prop} {o : Oper} {r : List (Oper × Bool)} {a : Act} {N : Option Tmp} (hg : o.guard = none) (hN : o.dst = N) (h : ∃ v, (∀ w, (execOp a.eval o).run P w = .ok (.value v) w) ∧ ∃ a', a.put N v = a' ∧ ordHead P ops S K r a') : ordHead P ops S K ((o, true) :: r) a := by
  subst hN
  obtain ⟨v, hy, a', rfl, h⟩ := h
  exact ⟨v, .inl ⟨by simp [Region.wanted, hg], fun w _ => hy w⟩, h⟩
/-- an operation that reads what S tells -/
theorem ordHead_read {K : Act → Prop} {o : Oper} {r : List (Oper × Bool)} {a : Act} {N : Option Tmp} (hg : o.guard = none) (hN : o.dst = N) (h : ∃ v, (∀ w, S w → (execOp a.eval o).run P w = .ok (.value v) w) ∧ ∃ a', a.put N v = a' ∧ ordHead P ops S K r a') : ordHead P ops S K ((o, false) :: r) a := by
  subst hN
  obtain ⟨v, hy, a', rfl, h⟩ := h
  exact ⟨v, .inl ⟨by simp [Region.wanted, hg], fun w hw => hy w (hw rfl)⟩, h⟩
/-- an operation that is passed over -/
theorem ordHead_off {K : Act → Prop} {o : Oper} {b : Bool} {r : List (Oper × Bool)} {a : Act} {N : Option Tmp} (hw : Region.wanted o (yielded ops a.tmps) = false) (hN : o.dst = N) (h : ∃ a', a.put N undef = a' ∧ ordHead P ops S K r a') : ordHead P ops S K ((o, b) :: r) a := by
  subst hN
  obtain ⟨a', rfl, h⟩ := h
  exact ⟨undef, .inr ⟨hw, rfl⟩, h⟩
/-- a guarded operation that is carried out -/
theorem ordHead_on {K : Act → Prop} {o : Oper} {b : Bool} {r : List (Oper × Bool)} {a : Act} {N : Option Tmp} (hw : Region.wanted o (yielded ops a.tmps) = true) (hN : o.dst = N) (h : ∃ v, (∀ w, (b = false → S w) → (execOp a.eval o).run P w = .ok (.value v) w) ∧ ∃ a', a.put N v = a' ∧ ordHead P ops S K r a') : ordHead P ops S K ((o, b) :: r) a := by
  subst hN
  obtain ⟨v, hy, a', rfl, h⟩ := h
  exact ⟨v, .inl ⟨hw, hy⟩, h⟩

/-- What comes behind: first those behind which S is shown, then the rest. -/
def ordTail (P : Program) (ops : Array Oper) (Q : Exit → Act → World → Prop) (S : World → Prop) (l2 : List Oper) : List Oper → Act → World → Prop
  | [], a, w => wpList P ops Q l2 a w
  | o :: l1, a, w => wpList P ops (fun e a' w' => match e with | .normal => S w' ∧ ordTail P ops Q S l2 l1 a' w' | e => Q e a' w') [o] a w

def pickOps (l : List Oper) : List Nat → List Oper
  | [] => []
  | i :: r => match l[i]? with | some o => o :: pickOps l r | none => pickOps l r
def pickHead (l : List Oper) : List (Nat × Bool) → List (Oper × Bool)
  | [] => []
  | (i, b) :: r => match l[i]? with | some o => (o, b) :: pickHead l r | none => pickHead l r

def headB (md : Region.Mode) (ops : Array Oper) (ds : List Nat) : List (Nat × Bool) → Array Bool → Option (Array Bool)
  | [], l => some l
  | (i, b) :: r, l => if decide (i < ops.size) && (Region.free md ops l i && ((Region.ready md ops l).contains i && (b || (Region.closedB md ops l && Region.lastB md ops l ds i)))) then headB md ops ds r (l.setIfInBounds i true) else none
def tailB (md : Region.Mode) (ops : Array Oper) : List Nat → Array Bool → Bool
  | [], l => Region.ready md ops l == []
  | i :: r, l => decide (i < ops.size) && ((Region.ready md ops l == [i]) && tailB md ops r (l.setIfInBounds i true))
def ordB (md : Region.Mode) (ops : Array Oper) (H : List (Nat × Bool)) (T1 T2 : List Nat) : Bool :=
  Region.noSelect ops && (T1.all (fun i => !T2.contains i) && (decide (ops.size = H.length + (T1 ++ T2).length) && match headB md ops T2 H (Array.replicate ops.size false) with | none => false | some l => tailB md ops (T1 ++ T2) l))

theorem ordTail2 {md : Region.Mode} {l : List Oper} : ∀ (T2 : List Nat) (listed : Array Bool) (a : Act) (w : World) (_ : ∀ i ∈ T2, i ∈ ds) (_ : tailB md l.toArray T2 listed = true),
    wpList P l.toArray Q (pickOps l T2) a w → wpAnyLast P md l.toArray Q S ds T2.length listed a w
  | [], listed, a, w, _, hB, h => ⟨by simpa [tailB] using hB, h⟩
  | i :: r, listed, a, w, hd, hB, h => by
    simp only [tailB, Bool.and_eq_true, beq_iff_eq, decide_eq_true_iff] at hB
    obtain ⟨hi, h1, h2⟩ := hB
    have hl : i < l.length := by simpa using hi
    have ho : l[i]? = some l[i] := List.getElem?_eq_getElem hl
    have ho2 : l.toArray[i]? = some l[i] := by simp
    refine wpAnyLast_all h1 (by simp) (fun j hj => ?_)
    rw [List.mem_singleton.1 hj]
    simp only [pickOps, ho] at h
    have hw : wpOp P l.toArray Q i (wpList P l.toArray Q (pickOps l r)) a w := by unfold wpOp; simp only [ho2]; exact h
    exact wpOp_mono (fun a' w' h' => ⟨fun hn => absurd (hd i List.mem_cons_self) hn, ordTail2 r _ a' w' (fun k hk => hd k (List.mem_cons_of_mem _ hk)) h2 h'⟩) hw

theorem upon_exit {Q1 Q2 : Exit → Act → World → Prop} {o : Oper} {a : Act} {K : Act → World → Prop} (hp : ∀ c a w, Q1 (.panic c) a w → Q2 (.panic c) a w) (ho : ∀ a w, Q1 .outgrown a w → Q2 .outgrown a w) (r : Result Next) (h : o.upon P a K Q1 r) : o.upon P a K Q2 r := by
  unfold Oper.upon at h ⊢
  split at h
  · exact h
  · exact h
  · exact h
  · refine h.mono fun e w' he => ?_
    cases e with
    | returned v => exact he
    | panicked c => exact hp _ _ _ he
    | outgrown => obtain ⟨a', w', h'⟩ := he; exact ⟨a', w', ho _ _ h'⟩
  · exact h
  · exact hp _ _ _ h
  · exact h.elim

theorem wp_exit {Q1 Q2 : Exit → Act → World → Prop} {o : Oper} {a : Act} {w : World} {K : Act → World → Prop} (hp : ∀ c a w, Q1 (.panic c) a w → Q2 (.panic c) a w) (ho : ∀ a w, Q1 .outgrown a w → Q2 .outgrown a w) (h : o.wp P a w K Q1) : o.wp P a w K Q2 := upon_exit hp ho _ h

theorem ordTail1 {md : Region.Mode} {l : List Oper} {T2 : List Nat} (hds : ∀ i ∈ T2, i ∈ ds) (hQ : ∀ c (a : Act) t w, Q (.panic c) { a with tmps := t } w → Q (.panic c) a w) : ∀ (T1 : List Nat) (listed : Array Bool) (a : Act) (w : World) (_ : tailB md l.toArray (T1 ++ T2) listed = true),
    ordTail P l.toArray Q S (pickOps l T2) (pickOps l T1) a w → wpAnyLast P md l.toArray Q S ds (T1 ++ T2).length listed a w
  | [], listed, a, w, hB, h => ordTail2 T2 listed a w hds hB h
  | i :: r, listed, a, w, hB, h => by
    simp only [List.cons_append, tailB, Bool.and_eq_true, beq_iff_eq, decide_eq_true_iff] at hB
    obtain ⟨hi, h1, h2⟩ := hB
    have hl : i < l.length := by simpa using hi
    have ho : l[i]? = some l[i] := List.getElem?_eq_getElem hl
    have ho2 : l.toArray[i]? = some l[i] := by simp
    refine wpAnyLast_all h1 (by simp) (fun j hj => ?_)
    rw [List.mem_singleton.1 hj]
    simp only [pickOps, ho, ordTail] at h
    unfold wpOp
    simp only [ho2]
    simp only [wpList] at h
    split
    · rename_i hw
      rw [if_pos hw] at h
      rcases h with h | ⟨h, h'⟩
      · have h3 : Oper.wp P l[i] a w (fun a' w' => S w' ∧ ordTail P l.toArray Q S (pickOps l T2) (pickOps l r) a' w') Q := by
          refine wp_exit ?_ ?_ h
          · exact fun _ _ _ h => h
          · exact fun _ _ h => h
        exact .inl (Oper.wp_mono (fun a' w' h' => ⟨fun _ _ => h'.1, ordTail1 hds hQ r _ _ _ h2 h'.2⟩) h3)
      · exact .inr ⟨h, by obtain ⟨a', w', h''⟩ := h'; exact ⟨a', w', h''⟩⟩
    · rename_i hw
      rw [if_neg hw] at h
      exact ⟨fun _ _ => h.1, ordTail1 hds hQ r _ _ _ h2 h.2⟩

theorem panic_put (hQ : ∀ c (a : Act) t w, Q (.panic c) { a with tmps := t } w → Q (.panic c) a w) (d : Option Tmp) (v : Value) (c : List PanicEntry) (a : Act) (w : World) (h : Q (.panic c) (a.put d v) w) : Q (.panic c) a w := by
  cases d with
  | none => exact h
  | some t => exact hQ c a _ w h

theorem ordHead1 {md : Region.Mode} {l : List Oper} {n : Nat} {K : Act → Prop} {w : World} (hsel : Region.noSelect l.toArray = true) (hQ : ∀ c (a : Act) t w, Q (.panic c) { a with tmps := t } w → Q (.panic c) a w) (hS : S w) :
    ∀ (H : List (Nat × Bool)) (listed l' : Array Bool) (a : Act) (_ : headB md l.toArray ds H listed = some l') (_ : ∀ a, K a → wpAnyLast P md l.toArray Q S ds n l' a w), ordHead P l.toArray S K (pickHead l H) a → wpAnyLast P md l.toArray Q S ds (H.length + n) listed a w
  | [], listed, l', a, hB, hK, h => by
    injection hB with hB
    subst hB
    rw [List.length_nil, Nat.zero_add]
    exact hK _ h
  | (i, b) :: r, listed, l', a, hB, hK, h => by
    simp only [headB] at hB
    split at hB
    · rename_i hc
      simp only [Bool.and_eq_true, Bool.or_eq_true, decide_eq_true_iff] at hc
      obtain ⟨hi, hf, hr, hb⟩ := hc
      have hl : i < l.length := by simpa using hi
      have ho : l[i]? = some l[i] := List.getElem?_eq_getElem hl
      have ho2 : l.toArray[i]? = some l[i] := by simp
      simp only [pickHead, ho, ordHead] at h
      obtain ⟨v, hy, h⟩ := h
      have h2 := ordHead1 hsel hQ hS r _ _ _ hB hK h
      rw [List.length_cons, show r.length + 1 + n = (r.length + n) + 1 by omega]
      cases b with
      | true =>
        refine wpAnyLast_any ho2 (Region.noSelect_spec hsel) (panic_put hQ _ _) _ _ _ _ (Region.free_spec ho2 hf) (by simpa using hr) ?_ h2
        rcases hy with ⟨hw, hy⟩ | hy
        · exact .inl ⟨hw, fun w => hy w (fun h => by cases h)⟩
        · exact .inr hy
      | false =>
        obtain ⟨hc1, hc2⟩ : Region.closedB md l.toArray listed = true ∧ Region.lastB md l.toArray listed ds i = true := by simpa using hb
        refine wpAnyLast_take ho2 hsel hf hr hc1 hc2 (panic_put hQ _ _) ?_ hS h2
        rcases hy with ⟨hw, hy⟩ | hy
        · exact .inl ⟨hw, fun w hw => hy w (fun _ => hw)⟩
        · exact .inr hy
    · cases hB

/-- THE REGION: H is taken first (true: yields in every world; false: where S holds), T1 comes up one by one with S shown behind each, then T2. -/
theorem wp_region_ord {id : Nat} {l : List Oper} {a : Act} {w : World} (S : World → Prop) (H : List (Nat × Bool)) (T1 T2 : List Nat) (hm : P.follows .mixedOrders = true) (hB : ordB .any l.toArray H T1 T2 = true)
    (hQ : ∀ c (a : Act) t w, Q (.panic c) { a with tmps := t } w → Q (.panic c) a w) (hS : S w.drew)
    (h : ∀ K : Act → Prop, (∀ a', ordTail P l.toArray Q S (pickOps l T2) (pickOps l T1) a' w.drew → K a') → ordHead P l.toArray S K (pickHead l H) a) : (Code.region id l.toArray true).wp P Q a w := by
  simp only [ordB, Bool.and_eq_true, decide_eq_true_iff] at hB
  obtain ⟨h1, h2, h3, h4⟩ := hB
  refine wp_region_last (S := S) (ds := T2) hm ?_
  rw [h3] at h4 ⊢
  cases hh : headB .any l.toArray T2 H (Array.replicate (H.length + (T1 ++ T2).length) false) with
  | none => rw [hh] at h4; cases h4
  | some l' =>
    rw [hh] at h4
    exact ordHead1 (w := w.drew) h1 hQ hS H _ _ a hh (fun a' ha' => ordTail1 (fun i hi => hi) hQ T1 l' a' w.drew h4 ha') (h _ (fun a' ha' => ha'))
end
end Go.Proofs.Ytoakelgcbbbieaa
