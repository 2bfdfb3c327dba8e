/- slices.Collect of a row's values. -/
import Derived.Test.YtoakelgcbbbieaaSd
namespace Go.Proofs.Ytoakelgcbbbieaa
open Go.RowKit Go.Maps Go.Shelf Go.Proofs.YtoakelgcbbbieaaW.PrintWords Go.Proofs.YtoakelgcbbbieaaW.PrintLast Go.Proofs.YtoakelgcbbbieaaW.PrintMore
set_option linter.unusedVariables false
set_option linter.unusedSimpArgs false
set_option maxRecDepth 100000

theorem Collect_calls {w : World} {bs : Nat} {A : Option Addr} {c : Nat} {fs : List S113} (hC : Kd.C k113 w A fs.length fs) (hs : w.cell? ⟨bs, 0, none⟩ = some (.slice A fs.length c)) (hlt : bs < w.heap.size) (hsh : fs.length ≤ 1000000) :
    Calls Try.prog 96 #[.func (.func 98) #[] #[.pointer (some ⟨bs, 0, none⟩)]] w fun e w' => ∃ v, e = .returned v ∧ w'.ownsRow w.heap.size 113 3 v fs.length (fRow fs) ∧ Below w.heap.size w w' := by
  have HC := Lib.hid hC
  have HS := Lib.hid hs
  clear hC hs
  go_enter Try.func96, Try.ntmps96
  go_wp2_with fail
  refine (AppendSeq_calls HC.out HS.out hlt hsh).mono ?_
  rintro e w1 ⟨v, rfl, hr, hB⟩
  go_wp2
  go_ret
  exact ⟨v, rfl, hr, hB⟩
end Go.Proofs.Ytoakelgcbbbieaa
