/- A region that only reads, inside a round of a range over a function: one walk in the order of the text. -/
import Derived.Sort.QuietIn
import Derived.WalkKit
import Derived.RangeFuncCalls
namespace Go.Proofs.Ytoakelgcbbbieaa
set_option linter.unusedVariables false
section
variable {n : Nat} {P : Program} {md : Region.Mode} {ops : Array Oper} {Q : Exit → Act → World → Prop}
/-- no operation puts a call off -/
def noDefer (l : List Oper) : Bool := l.all fun o => match o.op with | .defer _ => false | _ => true
theorem noDefer_spec {l : List Oper} (h : noDefer l = true) (i : Nat) (o : Oper) (ho : l.toArray[i]? = some o) (c : _) : o.op ≠ .defer c := fun e => by
  have hm : o ∈ l := List.mem_of_getElem? (by simpa using ho)
  have := List.all_eq_true.1 h o hm
  rw [e] at this
  cases this
theorem wpIn_round {o : Oper} {a : Act} {w : World} {K K' : Act → World → Prop} (l : Nat) (ho : ∀ c, o.op ≠ .defer c) (h : ∀ a w, K a w → K' a w) (hh : o.wpIn Fence.wide n P a w K Q) : o.wpIn (Fence.wide.inRound l) n P a w K' Q := by
  have h2 := Oper.wpIn_mono h hh
  refine ⟨h2.1, ?_⟩
  have h3 := h2.2
  rw [show Fence.wide.round = none from rfl, Oper.semAt_none] at h3
  rw [Oper.semAt_eq _ _ _ ho]
  exact h3
theorem wpAnyIn_round (l : Nat) (hnd : ∀ (i : Nat) (o : Oper), ops[i]? = some o → ∀ c, o.op ≠ .defer c) : ∀ (fuel : Nat) (listed : Array Bool) (a : Act) (w : World), wpAnyIn Fence.wide n P md ops Q fuel listed a w → wpAnyIn (Fence.wide.inRound l) n P md ops Q fuel listed a w
  | 0, _, _, _, h => h
  | fuel + 1, listed, a, w, h => ⟨h.1, fun i hi => by
      have hh := h.2 i hi
      unfold wpOpIn at hh ⊢
      cases ho : ops[i]? with
      | none => rw [ho] at hh; exact wpAnyIn_round l hnd fuel _ _ _ hh
      | some o =>
        rw [ho] at hh
        dsimp only at hh ⊢
        split
        · rename_i hw
          rw [if_pos hw] at hh
          exact wpIn_round l (hnd i o ho) (fun a w hk => wpAnyIn_round l hnd fuel _ a w hk) hh
        · rename_i hw
          rw [if_neg hw] at hh
          exact ⟨hh.1, wpAnyIn_round l hnd fuel _ _ _ hh.2⟩⟩
/-- THE REGION that reads, in a round -/
theorem region_quiet_round {rd id : Nat} {a : Act} {w : World} {l : List Oper} (hnd : noDefer l = true) (hm : P.follows .mixedOrders = true) (hB : Region.lexB .any l.toArray = true)
    (h : wpQuietIn Fence.wide n P l.toArray (fun w' => ∃ n, w' = w.drewN n) (fun a' => ∀ w', (∃ n, w' = w.drewN n) → Q .normal a' w') l a) : (Code.region id l.toArray true).wpIn (Fence.wide.inRound rd) n P Q a w := by
  simp only [Region.lexB, Bool.and_eq_true] at hB
  refine wpIn_region_any hm (wpAnyIn_round rd (noDefer_spec hnd) _ _ _ _ (wpAnyIn_of_quiet (C := fun w' => ∃ n, w' = w.drewN n) (Q := fun a' => ∀ w', (∃ n, w' = w.drewN n) → Q .normal a' w') rfl (fun _ w' hw' h => h w' hw') _ _ _ _ ⟨1, rfl⟩ ?_))
  have := wpAnyQIn_lex (F := Fence.wide) (n := n) (C := fun w' => ∃ n, w' = w.drewN n) (md := .any) hB.1 l 0 (Array.replicate l.toArray.size false) a (by simp) (by simpa using hB.2) h
  simpa using this
end
end Go.Proofs.Ytoakelgcbbbieaa
