/- The table of classes, walked: how many it has, which class has a name, which class stands at a place; for any table that is well built. -/
import Derived.Test.YtoakelgcbbbieaaProg
import Derived.Test.YtoakelgcbbbieaaK
import Derived.Maps.OwnSet
import Derived.WalkKit
import Derived.KernelRfl
import Derived.RowKit3
import Derived.Deep.QuietTactic
import Derived.BigQuiet
import Derived.Deep.RegionHeld3
import Derived.Outline
import Derived.Lib.Hide
import Derived.WalkSpells
namespace Go.Proofs.Ytoakelgcbbbieaa
open Go.RowKit Go.Maps Go.Proofs.YtoakelgcbbbieaaW.PrintWords Go.Proofs.YtoakelgcbbbieaaW.PrintLast Go.Proofs.YtoakelgcbbbieaaW.PrintMore
set_option linter.unusedVariables false
set_option linter.unusedSimpArgs false

theorem len_nil (w : World) : Calls Try.prog 58 #[.pointer none] w fun e w' => e = .returned (.int .i64 0) ∧ w = w' := by
  go_enter Try.func58, Try.ntmps58
  go_wp2
  go_ret
  exact ⟨rfl, rfl⟩

theorem len_some (tb : Nat) (A : Option Addr) (n c : Nat) (w : World) (hc : w.cell? ⟨tb, 0, none⟩ = some (.slice A n c)) :
    Calls Try.prog 58 #[.pointer (some ⟨tb, 0, none⟩)] w fun e w' => e = .returned (.int .i64 n) ∧ w = w' := by
  go_enter Try.func58, Try.ntmps58
  go_wp2
  go_ret
  exact ⟨rfl, rfl⟩

theorem law9 : Keyed Try.prog 9 := string_keyed Try.underlying9
theorem zero3 (w : World) : (zeroValue 3).run Try.prog w = .ok (.int .i64 0) w := by kernel_rfl

theorem find_nil (s : ByteArray) (w : World) : Calls Try.prog 61 #[.pointer none, .string s] w fun e w' => e = .returned (.tuple #[.int .i64 0, .bool false]) ∧ w = w' := by
  go_enter Try.func61, Try.ntmps61
  go_wp2
  go_ret2
  exact ⟨rfl, rfl⟩

theorem find_some {H : Type} (tb mb n : Nat) (D : DataW H) (s : ByteArray) (w : World) (hc : w.cell? ⟨tb, 1, none⟩ = some (.map (some mb)))
    (hown : w.ownsMap Try.prog 9 (plainElem Try.prog 3) mb n D) (hs : s.size ≤ maxLen) :
    Calls Try.prog 61 #[.pointer (some ⟨tb, 0, none⟩), .string s] w fun e w' => ∃ c, e = .returned (.tuple #[.int .i64 c, .bool (Maps.has D (.string s.data.toList))]) ∧ D.atKey (.string s.data.toList) (.lit (.int .i64 0)) = .lit (.int .i64 c) ∧ w = w' := by
  have hkey := Go.WideMaps.keyOf_string_mk (P := Try.prog) Try.underlying9 hs
  go_enter Try.func61, Try.ntmps61
  go_wp2_with (at_lookup; refine wpList_lookup_own_ok_int _ rfl _ _ 95 rfl 9 3 .i64 law9 Try.underlying95 Try.underlying3 (zero3 _) mb n D rfl hown _ _ rfl hkey ?_; intro c hat hwc)
  all_goals (go_ret2; exact ⟨c, rfl, hat, rfl⟩)


theorem cell_block {w : World} {a : Addr} {v : Value} (h : w.cell? a = some v) : a.block < w.heap.size := by
  unfold World.cell? at h
  split at h
  · rename_i h2; exact (Array.getElem?_eq_some_iff.1 h2).1
  · cases h

abbrev zEntry : Value := .agg #[.int .i64 0, .bool false, .string ⟨#[]⟩, .int .i64 0, .string ⟨#[]⟩, .int .i64 0, .slice none 0 0, .slice none 0 0, .string ⟨#[]⟩, .int .i64 0, .slice none 0 0]

theorem at_low (P : Option Addr) (i : Int) (h : i < 0) (w : World) :
    Calls Try.prog 62 #[.pointer P, .int .i64 i] w fun e w' => e = .returned (.tuple #[zEntry, .bool false]) ∧ Below w.heap.size w w' := by
  go_enter Try.func62, Try.ntmps62
  go_wp2
  exact bodyPost_ret (v := .tuple #[zEntry, .bool false]) (by simp [results, Try.results62, go_sem, zEntry]) rfl ⟨rfl, (Below.refl _ _).alloc (Nat.le_refl _) _⟩

theorem at_nil (i : Int) (w : World) :
    Calls Try.prog 62 #[.pointer none, .int .i64 i] w fun e w' => e = .returned (.tuple #[zEntry, .bool false]) ∧ Below w.heap.size w w' := by
  rcases Int.lt_or_le i 0 with h | h
  · exact at_low none i h w
  have d1 : decide (i < 0) = false := by simpa using h
  have d2 : decide (0 ≤ i) = true := by simpa using h
  go_enter Try.func62, Try.ntmps62
  go_wp2_with (go_at_call 58; refine (len_nil _).mono ?_; rintro e w' ⟨rfl, rfl⟩)
  exact bodyPost_ret (v := .tuple #[zEntry, .bool false]) (by simp [results, Try.results62, go_sem, zEntry]) rfl ⟨rfl, (Below.refl _ _).alloc (Nat.le_refl _) _⟩

theorem at_high (tb : Nat) (A : Option Addr) (n c : Nat) (i : Int) (h : (n : Int) ≤ i) (w : World) (hc : w.cell? ⟨tb, 0, none⟩ = some (.slice A n c)) :
    Calls Try.prog 62 #[.pointer (some ⟨tb, 0, none⟩), .int .i64 i] w fun e w' => e = .returned (.tuple #[zEntry, .bool false]) ∧ Below w.heap.size w w' := by
  have d1 : decide (i < 0) = false := by simp; omega
  go_enter Try.func62, Try.ntmps62
  go_wp2_with (go_at_call 58; refine (len_some _ _ _ _ _ (by exact cell_later ((Below.refl _ _).alloc (Nat.le_refl _) _) hc)).mono ?_; rintro e w' ⟨rfl, rfl⟩)
  exact bodyPost_ret (v := .tuple #[zEntry, .bool false]) (by simp [results, Try.results62, go_sem, zEntry]) rfl ⟨rfl, (Below.refl _ _).alloc (Nat.le_refl _) _⟩

/-- The cells of an entry. -/
abbrev eCells (x : S124) (A6 : Option Addr) (c6 : Nat) (A7 : Option Addr) (c7 : Nat) (A10 : Option Addr) (c10 : Nat) : Array Value :=
  #[.int .i64 x.f0, .bool x.f1.f0, .string x.f1.f1.f0, .int .i64 x.f1.f1.f1, .string x.f1.f2.f0, .int .i64 x.f1.f2.f1, .slice A6 x.f1.f3.length c6, .slice A7 x.f1.f4.length c7, .string x.f1.f5.f0, .int .i64 x.f1.f5.f1, .slice A10 x.f1.f6.length c10]

theorem at_in (tb : Nat) (A : Option Addr) (n c : Nat) (xs : List S124) (i : Int) (h0 : 0 ≤ i) (h1 : i < n) (w : World) (hc : w.cell? ⟨tb, 0, none⟩ = some (.slice A n c)) (hr : Kd.C k124 w A n xs) :
    Calls Try.prog 62 #[.pointer (some ⟨tb, 0, none⟩), .int .i64 i] w fun e w' => ∃ A6 c6 A7 c7 A10 c10, e = .returned (.tuple #[.agg (eCells (rd_T124 xs i) A6 c6 A7 c7 A10 c10), .bool true]) ∧ k124.K w' (rd_T124 xs i) (eCells (rd_T124 xs i) A6 c6 A7 c7 A10 c10).toList ∧ Below w.heap.size w w' := by
  have d1 : decide (i < 0) = false := by simp; omega
  obtain ⟨ad, A6, c6, A7, c7, A10, c10, rfl, hx0, hx1, hx2, hx3, hx4, hx5, hx6, hx7, hx8, hx9, hx10, l6, g6, l7, g7, l10, g10⟩ := at_T124 hr i h0 h1
  have HK := Lib.hid (k124_mk w (rd_T124 xs i) l6 g6 l7 g7 l10 g10)
  clear l6 g6 l7 g7 l10 g10
  have HB := fun o => (Below.refl w.heap.size w).alloc (Nat.le_refl _) o
  have hcA := fun {a : Addr} {v : Value} (h : w.cell? a = some v) => cell_later (HB (.cells #[.int .i64 0, .bool false, .string ⟨#[]⟩, .int .i64 0, .string ⟨#[]⟩, .int .i64 0, .slice none 0 0, .slice none 0 0, .string ⟨#[]⟩, .int .i64 0, .slice none 0 0] 124)) h
  replace hx0 := hcA hx0
  replace hx1 := hcA hx1
  replace hx2 := hcA hx2
  replace hx3 := hcA hx3
  replace hx4 := hcA hx4
  replace hx5 := hcA hx5
  replace hx6 := hcA hx6
  replace hx7 := hcA hx7
  replace hx8 := hcA hx8
  replace hx9 := hcA hx9
  replace hx10 := hcA hx10
  have hcb := hcA hc
  clear hcA
  go_enter Try.func62, Try.ntmps62
  go_wp2_with (go_at_call 58; refine (len_some _ _ _ _ _ (by exact cell_later ((Below.refl _ _).alloc (Nat.le_refl _) _) hc)).mono ?_; rintro e w' ⟨rfl, rfl⟩)
  exact bodyPost_ret (v := .tuple #[.agg (eCells (rd_T124 xs i) A6 c6 A7 c7 A10 c10), .bool true]) (by simp [results, Try.results62, go_sem]) rfl ⟨A6, c6, A7, c7, A10, c10, rfl, k124.K_below (HB _) HK.out, HB _⟩

/-! ### the table, as a value -/
/-- the first entry of a name -/
def fnd (xs : List S124) (s : ByteArray) : Option Nat := xs.findIdx? (fun e => e.f1.f1.f0 = s)
/-- what the map of names says -/
def Names (D : DataW Unit) (xs : List S124) : Prop := ∀ s : ByteArray, s.size ≤ maxLen → Maps.has D (.string s.data.toList) = (fnd xs s).isSome ∧ D.atKey (.string s.data.toList) (.lit (.int .i64 0)) = .lit (.int .i64 ((fnd xs s).getD 0))
structure Tab (w : World) (tb : Nat) (xs : List S124) (main : Int) : Prop where
  ex : ∃ A c mb N D, w.cell? ⟨tb, 0, none⟩ = some (.slice A xs.length c) ∧ w.cell? ⟨tb, 1, none⟩ = some (.map (some mb)) ∧ w.cell? ⟨tb, 2, none⟩ = some (.int .i64 main) ∧
    Kd.C k124 w A xs.length xs ∧ w.ownsMap Try.prog 9 (plainElem (H := Unit) Try.prog 3) mb N D ∧ Names D xs
  names : ∀ e ∈ xs, e.f1.f1.f0.size ≤ maxLen ∧ e.f1.f2.f0.size ≤ maxLen
  short : xs.length ≤ 1000000000

theorem ownsMap_below {w w' : World} {P : Program} {k : TypeId} {R : Value → Option (DataW Unit × List MemPlace)} {b n : Nat} {D : DataW Unit} (h : w.ownsMap P k R b n D) (hb : Below w.heap.size w w') : w'.ownsMap P k R b n D := by
  have hlt := h.lt
  obtain ⟨es, clock, h1, F, hs, hD⟩ := h
  exact ⟨es, clock, (hb.block b hlt).trans h1, F, hs, hD⟩

theorem Tab.later {w w' : World} {tb : Nat} {xs : List S124} {m : Int} (h : Tab w tb xs m) (hb : Below w.heap.size w w') : Tab w' tb xs m := by
  obtain ⟨⟨A, c, mb, N, D, h0, h1, h2, h3, h4, h5⟩, hn, hs⟩ := h
  exact ⟨⟨A, c, mb, N, D, cell_later hb h0, cell_later hb h1, cell_later hb h2, Kd.C_below h3 hb, ownsMap_below h4 hb, h5⟩, hn, hs⟩

theorem Find_calls {w : World} {tb : Nat} {xs : List S124} {m : Int} (T : Tab w tb xs m) (s : ByteArray) (hs : s.size ≤ maxLen) :
    Calls Try.prog 61 #[.pointer (some ⟨tb, 0, none⟩), .string s] w fun e w' => e = .returned (.tuple #[.int .i64 ((fnd xs s).getD 0 : Nat), .bool (fnd xs s).isSome]) ∧ w = w' := by
  obtain ⟨⟨A, c, mb, N, D, h0, h1, h2, h3, h4, h5⟩, hn, hsh⟩ := T
  refine (find_some tb mb N D s w h1 h4 hs).mono ?_
  rintro e w' ⟨c, rfl, hat, rfl⟩
  obtain ⟨g1, g2⟩ := h5 s hs
  rw [g2] at hat
  injection hat with hat
  injection hat with _ hat
  rw [g1, ← hat]
  exact ⟨rfl, rfl⟩

theorem At_in {w : World} {tb : Nat} {xs : List S124} {m : Int} (T : Tab w tb xs m) (i : Int) (h0 : 0 ≤ i) (h1 : i < xs.length) :
    Calls Try.prog 62 #[.pointer (some ⟨tb, 0, none⟩), .int .i64 i] w fun e w' => ∃ A6 c6 A7 c7 A10 c10, e = .returned (.tuple #[.agg (eCells (rd_T124 xs i) A6 c6 A7 c7 A10 c10), .bool true]) ∧ k124.K w' (rd_T124 xs i) (eCells (rd_T124 xs i) A6 c6 A7 c7 A10 c10).toList ∧ Below w.heap.size w w' := by
  obtain ⟨⟨A, c, mb, N, D, g0, g1, g2, g3, g4, g5⟩, hn, hsh⟩ := T
  exact at_in tb A _ c xs i h0 h1 w g0 g3

theorem At_out {w : World} {tb : Nat} {xs : List S124} {m : Int} (T : Tab w tb xs m) (i : Int) (h : i < 0 ∨ xs.length ≤ i) :
    Calls Try.prog 62 #[.pointer (some ⟨tb, 0, none⟩), .int .i64 i] w fun e w' => e = .returned (.tuple #[zEntry, .bool false]) ∧ Below w.heap.size w w' := by
  obtain ⟨⟨A, c, mb, N, D, g0, g1, g2, g3, g4, g5⟩, hn, hsh⟩ := T
  rcases h with h | h
  · exact at_low _ i h w
  · exact at_high tb A _ c i h w g0

end Go.Proofs.Ytoakelgcbbbieaa
