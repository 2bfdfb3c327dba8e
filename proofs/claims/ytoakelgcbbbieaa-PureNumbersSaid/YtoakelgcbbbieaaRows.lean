/-
  NARROWER THAN 'FOR EVERY INPUT', by the rows' own cells (each row's printed sentence says how): PureEvals: loops · PureNumbers: loops · PureDepends: loops.
  DERIVED. THE GIVEN ROWS OF THIS SEAT. 10 by the template 'for every input the law returns true; each argument reads behind the call as it read before'; 0 by the template 'total and deterministic' (their statements: YtoakelgcbbbieaaTotals.lean).
  GIVEN WITH THE SEED: the statements are not yours to turn. If you find one false, say at which input.
  Laid BY PROGRAM, IN A SANDBOX (cutbox-rows.mjs): the forced cells as the released guide's own fill.sh prints them over the translation 7b55def5c3a3952d… (all of the seat's roots in one cut). By AI agents, Wed Nov 11 2026. No macro, syntax, notation, axiom, sorry.
-/
import Derived.Test.YtoakelgcbbbieaaChecked
import GoSem.Claim
import GoSem.ClaimJoined
import GoSem.ClaimMapViews
import Derived.JoinedTies
import Derived.KernelRfl
namespace Go.Proofs.Ytoakelgcbbbieaa
/- THE CELL 'sum', in the pinned program and in every row, IS THE sha256 OF THE DUMP (.gsa) THAT YtoakelgcbbbieaaProg.lean LOADS. Nothing in Lean hashes anything: it is a label: what it is worth is what the hold of that sum in a sandbox is worth. -/
noncomputable def Try.pinned : Pinned := { name := "ytoakelgcbbbieaa", sum := "7b55def5c3a3952d3581315ef5d721c8ecb63126e1fb35e2f24e8a12be465466", checked := Try.checked }
namespace Rows
def none {H : Type} : Left H := { results := [], args := [] }

/-- 'namesakelaw16.KindFits': WHATEVER THE INPUT: true; the input reads as it did. -/
def kindFitsSpec : ChangeSpec := { name := "kindFits", fn := fun _ => fun
  | [d1, d2, d3] => { results := [.lit (.bool true)], args := [d1, d2, d3] }
  | _ => none }
def kindFitsRow : OpenClaim := { program := "ytoakelgcbbbieaa", sum := "7b55def5c3a3952d3581315ef5d721c8ecb63126e1fb35e2f24e8a12be465466", func := "namesake/namesakelaw16.KindFits", spec := "kindFits", plainKeys := false, apart := false }
def KindFitsSaid : Prop := kindFitsRow.holds Try.pinned (OpenSpec.ofChange kindFitsSpec)

/-- ITS FALSE NEIGHBOUR: 'it returns false'. Refute it at one input. -/
def kindFitsWrong : ChangeSpec := { name := "kindFits", fn := fun _ => fun
  | [d1, d2, d3] => { results := [.lit (.bool false)], args := [d1, d2, d3] }
  | _ => none }
def KindFitsWrongFalsely : Prop := kindFitsRow.holds Try.pinned (OpenSpec.ofChange kindFitsWrong)

/-- 'namesakelaw16.KindOrders': WHATEVER THE INPUT: true; the input reads as it did. -/
def kindOrdersSpec : ChangeSpec := { name := "kindOrders", fn := fun _ => fun
  | [d1, d2] => { results := [.lit (.bool true)], args := [d1, d2] }
  | _ => none }
def kindOrdersRow : OpenClaim := { program := "ytoakelgcbbbieaa", sum := "7b55def5c3a3952d3581315ef5d721c8ecb63126e1fb35e2f24e8a12be465466", func := "namesake/namesakelaw16.KindOrders", spec := "kindOrders", plainKeys := false, apart := false }
def KindOrdersSaid : Prop := kindOrdersRow.holds Try.pinned (OpenSpec.ofChange kindOrdersSpec)

/-- ITS FALSE NEIGHBOUR: 'it returns false'. Refute it at one input. -/
def kindOrdersWrong : ChangeSpec := { name := "kindOrders", fn := fun _ => fun
  | [d1, d2] => { results := [.lit (.bool false)], args := [d1, d2] }
  | _ => none }
def KindOrdersWrongFalsely : Prop := kindOrdersRow.holds Try.pinned (OpenSpec.ofChange kindOrdersWrong)

/-- 'namesakelaw15.LineBelow': WHATEVER THE INPUT: true; the input reads as it did. -/
def lineBelowSpec : ChangeSpec := { name := "lineBelow", fn := fun _ => fun
  | [d1, d2, d3] => { results := [.lit (.bool true)], args := [d1, d2, d3] }
  | _ => none }
def lineBelowRow : OpenClaim := { program := "ytoakelgcbbbieaa", sum := "7b55def5c3a3952d3581315ef5d721c8ecb63126e1fb35e2f24e8a12be465466", func := "namesake/namesakelaw15.LineBelow", spec := "lineBelow", unfollowed := true, recurses := true, plainKeys := false, apart := false }
def LineBelowSaid : Prop := lineBelowRow.holds Try.pinned (OpenSpec.ofChange lineBelowSpec)

/-- ITS FALSE NEIGHBOUR: 'it returns false'. Refute it at one input. -/
def lineBelowWrong : ChangeSpec := { name := "lineBelow", fn := fun _ => fun
  | [d1, d2, d3] => { results := [.lit (.bool false)], args := [d1, d2, d3] }
  | _ => none }
def LineBelowWrongFalsely : Prop := lineBelowRow.holds Try.pinned (OpenSpec.ofChange lineBelowWrong)

/-- 'namesakelaw16.KindLists': WHATEVER THE INPUT: true; the input reads as it did. -/
def kindListsSpec : ChangeSpec := { name := "kindLists", fn := fun _ => fun
  | [d1, d2, d3] => { results := [.lit (.bool true)], args := [d1, d2, d3] }
  | _ => none }
def kindListsRow : OpenClaim := { program := "ytoakelgcbbbieaa", sum := "7b55def5c3a3952d3581315ef5d721c8ecb63126e1fb35e2f24e8a12be465466", func := "namesake/namesakelaw16.KindLists", spec := "kindLists", plainKeys := false, apart := false }
def KindListsSaid : Prop := kindListsRow.holds Try.pinned (OpenSpec.ofChange kindListsSpec)

/-- ITS FALSE NEIGHBOUR: 'it returns false'. Refute it at one input. -/
def kindListsWrong : ChangeSpec := { name := "kindLists", fn := fun _ => fun
  | [d1, d2, d3] => { results := [.lit (.bool false)], args := [d1, d2, d3] }
  | _ => none }
def KindListsWrongFalsely : Prop := kindListsRow.holds Try.pinned (OpenSpec.ofChange kindListsWrong)

/-- 'namesakelaw27.PureEvals': WHATEVER THE INPUT: true; the input reads as it did. -/
def pureEvalsSpec : ChangeSpec := { name := "pureEvals", fn := fun _ => fun
  | [d1, d2] => { results := [.lit (.bool true)], args := [d1, d2] }
  | _ => none }
def pureEvalsRow : OpenClaim := { program := "ytoakelgcbbbieaa", sum := "7b55def5c3a3952d3581315ef5d721c8ecb63126e1fb35e2f24e8a12be465466", func := "namesake/namesakelaw27.PureEvals", spec := "pureEvals", unfollowed := true, recurses := true, loops := true, plainKeys := false, apart := false }
def PureEvalsSaid : Prop := pureEvalsRow.holds Try.pinned (OpenSpec.ofChange pureEvalsSpec)

/-- ITS FALSE NEIGHBOUR: 'it returns false'. Refute it at one input. -/
def pureEvalsWrong : ChangeSpec := { name := "pureEvals", fn := fun _ => fun
  | [d1, d2] => { results := [.lit (.bool false)], args := [d1, d2] }
  | _ => none }
def PureEvalsWrongFalsely : Prop := pureEvalsRow.holds Try.pinned (OpenSpec.ofChange pureEvalsWrong)

/-- 'namesakelaw27.PureNumbers': WHATEVER THE INPUT: true; the input reads as it did. -/
def pureNumbersSpec : ChangeSpec := { name := "pureNumbers", fn := fun _ => fun
  | [d1, d2, d3] => { results := [.lit (.bool true)], args := [d1, d2, d3] }
  | _ => none }
def pureNumbersRow : OpenClaim := { program := "ytoakelgcbbbieaa", sum := "7b55def5c3a3952d3581315ef5d721c8ecb63126e1fb35e2f24e8a12be465466", func := "namesake/namesakelaw27.PureNumbers", spec := "pureNumbers", unfollowed := true, recurses := true, loops := true, plainKeys := false, apart := false }
def PureNumbersSaid : Prop := pureNumbersRow.holds Try.pinned (OpenSpec.ofChange pureNumbersSpec)

/-- ITS FALSE NEIGHBOUR: 'it returns false'. Refute it at one input. -/
def pureNumbersWrong : ChangeSpec := { name := "pureNumbers", fn := fun _ => fun
  | [d1, d2, d3] => { results := [.lit (.bool false)], args := [d1, d2, d3] }
  | _ => none }
def PureNumbersWrongFalsely : Prop := pureNumbersRow.holds Try.pinned (OpenSpec.ofChange pureNumbersWrong)

/-- 'namesakelaw27.PureDepends': WHATEVER THE INPUT: true; the input reads as it did. -/
def pureDependsSpec : ChangeSpec := { name := "pureDepends", fn := fun _ => fun
  | [d1, d2, d3] => { results := [.lit (.bool true)], args := [d1, d2, d3] }
  | _ => none }
def pureDependsRow : OpenClaim := { program := "ytoakelgcbbbieaa", sum := "7b55def5c3a3952d3581315ef5d721c8ecb63126e1fb35e2f24e8a12be465466", func := "namesake/namesakelaw27.PureDepends", spec := "pureDepends", unfollowed := true, recurses := true, loops := true, plainKeys := false, apart := false }
def PureDependsSaid : Prop := pureDependsRow.holds Try.pinned (OpenSpec.ofChange pureDependsSpec)

/-- ITS FALSE NEIGHBOUR: 'it returns false'. Refute it at one input. -/
def pureDependsWrong : ChangeSpec := { name := "pureDepends", fn := fun _ => fun
  | [d1, d2, d3] => { results := [.lit (.bool false)], args := [d1, d2, d3] }
  | _ => none }
def PureDependsWrongFalsely : Prop := pureDependsRow.holds Try.pinned (OpenSpec.ofChange pureDependsWrong)

/-- 'namesakelaw15.LineSupers': WHATEVER THE INPUT: true; the input reads as it did. -/
def lineSupersSpec : ChangeSpec := { name := "lineSupers", fn := fun _ => fun
  | [d1, d2] => { results := [.lit (.bool true)], args := [d1, d2] }
  | _ => none }
def lineSupersRow : OpenClaim := { program := "ytoakelgcbbbieaa", sum := "7b55def5c3a3952d3581315ef5d721c8ecb63126e1fb35e2f24e8a12be465466", func := "namesake/namesakelaw15.LineSupers", spec := "lineSupers", unfollowed := true, recurses := true, plainKeys := false, apart := false }
def LineSupersSaid : Prop := lineSupersRow.holds Try.pinned (OpenSpec.ofChange lineSupersSpec)

/-- ITS FALSE NEIGHBOUR: 'it returns false'. Refute it at one input. -/
def lineSupersWrong : ChangeSpec := { name := "lineSupers", fn := fun _ => fun
  | [d1, d2] => { results := [.lit (.bool false)], args := [d1, d2] }
  | _ => none }
def LineSupersWrongFalsely : Prop := lineSupersRow.holds Try.pinned (OpenSpec.ofChange lineSupersWrong)

/-- 'namesakelaw15.LineFaults': WHATEVER THE INPUT: true; the input reads as it did. -/
def lineFaultsSpec : ChangeSpec := { name := "lineFaults", fn := fun _ => fun
  | [d] => { results := [.lit (.bool true)], args := [d] }
  | _ => none }
def lineFaultsRow : OpenClaim := { program := "ytoakelgcbbbieaa", sum := "7b55def5c3a3952d3581315ef5d721c8ecb63126e1fb35e2f24e8a12be465466", func := "namesake/namesakelaw15.LineFaults", spec := "lineFaults", unfollowed := true, recurses := true, plainKeys := false, apart := false }
def LineFaultsSaid : Prop := lineFaultsRow.holds Try.pinned (OpenSpec.ofChange lineFaultsSpec)

/-- ITS FALSE NEIGHBOUR: 'it returns false'. Refute it at one input. -/
def lineFaultsWrong : ChangeSpec := { name := "lineFaults", fn := fun _ => fun
  | [d] => { results := [.lit (.bool false)], args := [d] }
  | _ => none }
def LineFaultsWrongFalsely : Prop := lineFaultsRow.holds Try.pinned (OpenSpec.ofChange lineFaultsWrong)

/-- 'namesakelaw15.LineOrders': WHATEVER THE INPUT: true; the input reads as it did. -/
def lineOrdersSpec : ChangeSpec := { name := "lineOrders", fn := fun _ => fun
  | [d1, d2] => { results := [.lit (.bool true)], args := [d1, d2] }
  | _ => none }
def lineOrdersRow : OpenClaim := { program := "ytoakelgcbbbieaa", sum := "7b55def5c3a3952d3581315ef5d721c8ecb63126e1fb35e2f24e8a12be465466", func := "namesake/namesakelaw15.LineOrders", spec := "lineOrders", unfollowed := true, recurses := true, plainKeys := false, apart := false }
def LineOrdersSaid : Prop := lineOrdersRow.holds Try.pinned (OpenSpec.ofChange lineOrdersSpec)

/-- ITS FALSE NEIGHBOUR: 'it returns false'. Refute it at one input. -/
def lineOrdersWrong : ChangeSpec := { name := "lineOrders", fn := fun _ => fun
  | [d1, d2] => { results := [.lit (.bool false)], args := [d1, d2] }
  | _ => none }
def LineOrdersWrongFalsely : Prop := lineOrdersRow.holds Try.pinned (OpenSpec.ofChange lineOrdersWrong)

/- THE SECOND FORM. 'bulk': how many values and letters a reading holds, each counted each time it is reached (what is shared counts as often as it is met; a slice's spare places count too). A statement '..UptoSaid' is the law's where the arguments, and the package variables that the reading takes, are together of bulk at most 1048576: NARROWER than '..Said'. Prove '..Said' where nothing that the law and all that it calls make is longer than what came in: it says more and counts as full. Else prove '..UptoSaid'. A law counts once. -/
mutual
def uptoBulk {H : Type} : DataW H → Nat
  | .lit (.string bytes) => bytes.length + 1
  | .lit _ => 1
  | .nil => 1
  | .ptr d => uptoBulk d + 1
  | .slice elems spare => uptoBulkAll elems + uptoBulkAll spare + 1
  | .agg parts => uptoBulkAll parts + 1
  | .iface _ d => uptoBulk d + 1
  | .map entries => uptoBulkEntries entries + 1
  | .held _ => 1
def uptoBulkAll {H : Type} : List (DataW H) → Nat
  | [] => 0
  | d :: r => uptoBulk d + uptoBulkAll r
def uptoBulkEntries {H : Type} : List (Lit × DataW H) → Nat
  | [] => 0
  | x :: r => uptoBulkEntry x + uptoBulkEntries r
def uptoBulkEntry {H : Type} : Lit × DataW H → Nat
  | (.string bytes, d) => bytes.length + uptoBulk d + 1
  | (_, d) => uptoBulk d + 1
 end
def uptoSmall : (H : Type) → List (DataW H) → Bool := fun _ ds => decide (uptoBulkAll ds ≤ 1048576)
def OpenSpec.upto (s : _root_.Go.ChangeSpec) : _root_.Go.OpenSpec := { _root_.Go.OpenSpec.ofChange s with cond := some uptoSmall }

/-- 'namesakelaw16.KindFits', WHERE WHAT IT READS IS OF BULK AT MOST 1048576: true; the input reads as it did. -/
def kindFitsUptoRow : OpenClaim := { program := "ytoakelgcbbbieaa", sum := "7b55def5c3a3952d3581315ef5d721c8ecb63126e1fb35e2f24e8a12be465466", func := "namesake/namesakelaw16.KindFits", spec := "kindFits", plainKeys := false, apart := false, narrowed := true }
def KindFitsUptoSaid : Prop := kindFitsUptoRow.holds Try.pinned (OpenSpec.upto kindFitsSpec)

/-- 'namesakelaw16.KindOrders', WHERE WHAT IT READS IS OF BULK AT MOST 1048576: true; the input reads as it did. -/
def kindOrdersUptoRow : OpenClaim := { program := "ytoakelgcbbbieaa", sum := "7b55def5c3a3952d3581315ef5d721c8ecb63126e1fb35e2f24e8a12be465466", func := "namesake/namesakelaw16.KindOrders", spec := "kindOrders", plainKeys := false, apart := false, narrowed := true }
def KindOrdersUptoSaid : Prop := kindOrdersUptoRow.holds Try.pinned (OpenSpec.upto kindOrdersSpec)

/-- 'namesakelaw15.LineBelow', WHERE WHAT IT READS IS OF BULK AT MOST 1048576: true; the input reads as it did. -/
def lineBelowUptoRow : OpenClaim := { program := "ytoakelgcbbbieaa", sum := "7b55def5c3a3952d3581315ef5d721c8ecb63126e1fb35e2f24e8a12be465466", func := "namesake/namesakelaw15.LineBelow", spec := "lineBelow", unfollowed := true, recurses := true, plainKeys := false, apart := false, narrowed := true }
def LineBelowUptoSaid : Prop := lineBelowUptoRow.holds Try.pinned (OpenSpec.upto lineBelowSpec)

/-- 'namesakelaw16.KindLists', WHERE WHAT IT READS IS OF BULK AT MOST 1048576: true; the input reads as it did. -/
def kindListsUptoRow : OpenClaim := { program := "ytoakelgcbbbieaa", sum := "7b55def5c3a3952d3581315ef5d721c8ecb63126e1fb35e2f24e8a12be465466", func := "namesake/namesakelaw16.KindLists", spec := "kindLists", plainKeys := false, apart := false, narrowed := true }
def KindListsUptoSaid : Prop := kindListsUptoRow.holds Try.pinned (OpenSpec.upto kindListsSpec)

/-- 'namesakelaw27.PureEvals', WHERE WHAT IT READS IS OF BULK AT MOST 1048576: true; the input reads as it did. -/
def pureEvalsUptoRow : OpenClaim := { program := "ytoakelgcbbbieaa", sum := "7b55def5c3a3952d3581315ef5d721c8ecb63126e1fb35e2f24e8a12be465466", func := "namesake/namesakelaw27.PureEvals", spec := "pureEvals", unfollowed := true, recurses := true, loops := true, plainKeys := false, apart := false, narrowed := true }
def PureEvalsUptoSaid : Prop := pureEvalsUptoRow.holds Try.pinned (OpenSpec.upto pureEvalsSpec)

/-- 'namesakelaw27.PureNumbers', WHERE WHAT IT READS IS OF BULK AT MOST 1048576: true; the input reads as it did. -/
def pureNumbersUptoRow : OpenClaim := { program := "ytoakelgcbbbieaa", sum := "7b55def5c3a3952d3581315ef5d721c8ecb63126e1fb35e2f24e8a12be465466", func := "namesake/namesakelaw27.PureNumbers", spec := "pureNumbers", unfollowed := true, recurses := true, loops := true, plainKeys := false, apart := false, narrowed := true }
def PureNumbersUptoSaid : Prop := pureNumbersUptoRow.holds Try.pinned (OpenSpec.upto pureNumbersSpec)

/-- 'namesakelaw27.PureDepends', WHERE WHAT IT READS IS OF BULK AT MOST 1048576: true; the input reads as it did. -/
def pureDependsUptoRow : OpenClaim := { program := "ytoakelgcbbbieaa", sum := "7b55def5c3a3952d3581315ef5d721c8ecb63126e1fb35e2f24e8a12be465466", func := "namesake/namesakelaw27.PureDepends", spec := "pureDepends", unfollowed := true, recurses := true, loops := true, plainKeys := false, apart := false, narrowed := true }
def PureDependsUptoSaid : Prop := pureDependsUptoRow.holds Try.pinned (OpenSpec.upto pureDependsSpec)

/-- 'namesakelaw15.LineSupers', WHERE WHAT IT READS IS OF BULK AT MOST 1048576: true; the input reads as it did. -/
def lineSupersUptoRow : OpenClaim := { program := "ytoakelgcbbbieaa", sum := "7b55def5c3a3952d3581315ef5d721c8ecb63126e1fb35e2f24e8a12be465466", func := "namesake/namesakelaw15.LineSupers", spec := "lineSupers", unfollowed := true, recurses := true, plainKeys := false, apart := false, narrowed := true }
def LineSupersUptoSaid : Prop := lineSupersUptoRow.holds Try.pinned (OpenSpec.upto lineSupersSpec)

/-- 'namesakelaw15.LineFaults', WHERE WHAT IT READS IS OF BULK AT MOST 1048576: true; the input reads as it did. -/
def lineFaultsUptoRow : OpenClaim := { program := "ytoakelgcbbbieaa", sum := "7b55def5c3a3952d3581315ef5d721c8ecb63126e1fb35e2f24e8a12be465466", func := "namesake/namesakelaw15.LineFaults", spec := "lineFaults", unfollowed := true, recurses := true, plainKeys := false, apart := false, narrowed := true }
def LineFaultsUptoSaid : Prop := lineFaultsUptoRow.holds Try.pinned (OpenSpec.upto lineFaultsSpec)

/-- 'namesakelaw15.LineOrders', WHERE WHAT IT READS IS OF BULK AT MOST 1048576: true; the input reads as it did. -/
def lineOrdersUptoRow : OpenClaim := { program := "ytoakelgcbbbieaa", sum := "7b55def5c3a3952d3581315ef5d721c8ecb63126e1fb35e2f24e8a12be465466", func := "namesake/namesakelaw15.LineOrders", spec := "lineOrders", unfollowed := true, recurses := true, plainKeys := false, apart := false, narrowed := true }
def LineOrdersUptoSaid : Prop := lineOrdersUptoRow.holds Try.pinned (OpenSpec.upto lineOrdersSpec)

end Rows
end Go.Proofs.Ytoakelgcbbbieaa
