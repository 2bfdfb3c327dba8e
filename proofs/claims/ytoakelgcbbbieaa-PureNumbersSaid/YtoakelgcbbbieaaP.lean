/- What the form reads as data is of a kind: an argument opened, whatever its type. -/
import Derived.Test.YtoakelgcbbbieaaK
import Derived.Test.YtoakelgcbbbieaaProg
import Derived.Deep.Slices
import Derived.ChangeArms
import Derived.KernelRfl
/-! What the form reads as data is of a kind: an argument opened, whatever its type. -/
namespace Go.Proofs.Ytoakelgcbbbieaa
open Go.RowKit Go.Proofs.YtoakelgcbbbieaaW.PrintWords Go.Proofs.YtoakelgcbbbieaaW.PrintLast Go.Proofs.YtoakelgcbbbieaaW.PrintMore
set_option linter.unusedVariables false
set_option linter.unusedSimpArgs false

/-- with so much fuel, what is read of type t is of kind d, and G holds of it -/
def OpensAt {α : Type} (P : Program) (n : Nat) (d : Kd α) (t : Nat) (G : α → Prop) : Prop :=
  ∀ (H : Type) (enc : TypeId × Value → H) (w : World) (base : Nat) (sp : Nat → Bool) (held : Bool) (cs : List Value) (x : DataW H × List MemPlace), DataW.trod enc P w base sp held n t cs = some x → ∃ a, d.K w a cs ∧ G a
def Opens {α : Type} (P : Program) (d : Kd α) (t : Nat) (G : α → Prop) : Prop := ∀ n, OpensAt P n d t G

section
variable {P : Program}
theorem opens_int {k : IntKind} {t : Nat} (ht : P.underlying t = some (.int k)) : Opens P (Kd.int k) t (fun n => (Lit.int k n).wf = true) := by
  intro n H enc w base sp held cs x h
  obtain ⟨m, rfl, -, hw⟩ := DataW.trod_int ht h
  exact ⟨m, rfl, hw⟩
theorem opens_bool {t : Nat} (ht : P.underlying t = some .bool) : Opens P Kd.bool t (fun _ => True) := by
  intro n H enc w base sp held cs x h
  obtain ⟨m, rfl, -⟩ := DataW.trod_bool ht h
  exact ⟨m, rfl, trivial⟩
theorem opens_string {t : Nat} (ht : P.underlying t = some .string) : Opens P Kd.string t (fun s => s.size ≤ maxLen) := by
  intro n H enc w base sp held cs x h
  obtain ⟨m, rfl, -, hm⟩ := DataW.trod_string ht h
  exact ⟨m, rfl, hm⟩

theorem choose_list {α : Type} {m : Nat} {R : Nat → α → Prop} (h : ∀ i, i < m → ∃ a, R i a) : ∃ l : List α, l.length = m ∧ ∀ i a, l[i]? = some a → R i a := by
  induction m with
  | zero => exact ⟨[], rfl, fun i a h => by simp at h⟩
  | succ m ih =>
    obtain ⟨l, hl, hr⟩ := ih (fun i hi => h i (by omega))
    obtain ⟨a, ha⟩ := h m (by omega)
    refine ⟨l ++ [a], by simp [hl], fun i b hb => ?_⟩
    rcases Nat.lt_or_ge i l.length with hlt | hge
    · rw [List.getElem?_append_left hlt] at hb; exact hr i b hb
    · have := (List.getElem?_eq_some_iff.1 hb).1
      have hi : i = l.length := by simp at this; omega
      subst hi
      rw [List.getElem?_append_right (Nat.le_refl _)] at hb
      simp at hb; subst hb; rw [hl]; exact ha

theorem opensAt_slice {α : Type} {d : Kd α} {t e n : Nat} {G : α → Prop} (ht : P.underlying t = some (.slice e)) (hs : P.cellsOf e = d.sz) (hd : ∀ m, m < n → OpensAt P m d e G) : OpensAt P n (Kd.slice e d) t (fun l => ∀ x ∈ l, G x) := by
  intro H enc w base sp held cs x h
  rcases DataW.trod_slice ht h with ⟨rfl, _⟩ | ⟨a, len, cap, elems, rest, m, hm, rfl, -, hb, hl, hmx, hlen, hel, -, -⟩
  · exact ⟨[], ⟨none, 0, rfl, Nat.le_refl _, Kd.C_nil _ _⟩, fun x hx => by cases hx⟩
  · have key : ∀ i, i < len → ∃ y : α, G y ∧ ∃ c : List Value, c.length = d.sz ∧ d.K w y c ∧ ∀ j u, c[j]? = some u → w.cell? (a.add (i * d.sz + j)) = some u := by
      intro i hi
      have h1 := hel i hi
      have h2 : elems[i]? = some (elems[i]'(by omega)) := List.getElem?_eq_getElem (by omega)
      rw [h2, Option.bind_eq_some_iff] at h1
      obtain ⟨c, hc, hr⟩ := h1
      obtain ⟨y, hK, hG⟩ := hd m (by omega) _ enc w base sp held c _ hr
      obtain ⟨-, hcl, hat⟩ := World.cells?_some hc
      rw [hs] at hcl hat
      refine ⟨y, hG, c, hcl, hK, fun j u hu => ?_⟩
      have hj := (List.getElem?_eq_some_iff.1 hu).1
      rw [← Go.Deep.add_add, hat j (by omega), hu]
    obtain ⟨l, hll, hlr⟩ := choose_list key
    refine ⟨l, ⟨some a, cap, by rw [hll], by rw [hll]; exact hl, rfl, by rw [hll]; unfold maxLen at hmx; omega, fun _ => ⟨a, rfl, fun j p hp => (hlr j p hp).2⟩⟩, fun y hy => ?_⟩
    obtain ⟨j, hj, rfl⟩ := List.getElem_of_mem hy
    exact (hlr j _ (List.getElem?_eq_getElem hj)).1
theorem opens_slice {α : Type} {d : Kd α} {t e : Nat} {G : α → Prop} (ht : P.underlying t = some (.slice e)) (hs : P.cellsOf e = d.sz) (hd : Opens P d e G) : Opens P (Kd.slice e d) t (fun l => ∀ x ∈ l, G x) := fun n => opensAt_slice ht hs (fun m _ => hd m)

/-- fields from an offset on -/
def OpensF {α : Type} (P : Program) (n : Nat) (d : Kd α) (fs : List Field) (off : Nat) (G : α → Prop) : Prop :=
  ∀ (H : Type) (enc : TypeId × Value → H) (w : World) (base : Nat) (sp : Nat → Bool) (held : Bool) (cs : List Value), cs.length = off + d.sz → (∀ f ∈ fs, ∃ y, DataW.trod enc P w base sp held n f.type ((cs.drop f.offset).take (P.cellsOf f.type)) = some y) → ∃ a, d.K w a (cs.drop off) ∧ G a
theorem opensF_one {α : Type} {d : Kd α} {f : Field} {off n : Nat} {G : α → Prop} (ho : f.offset = off) (hs : P.cellsOf f.type = d.sz) (hd : OpensAt P n d f.type G) : OpensF P n d [f] off G := by
  intro H enc w base sp held cs hl h
  obtain ⟨y, hy⟩ := h f (by simp)
  rw [ho, hs, List.take_of_length_le (by rw [List.length_drop]; omega)] at hy
  exact hd _ enc w base sp held _ _ hy
theorem opensF_cons {α β : Type} {a : Kd α} {b : Kd β} {f : Field} {fs : List Field} {off n : Nat} {Ga : α → Prop} {Gb : β → Prop} (ho : f.offset = off) (hs : P.cellsOf f.type = a.sz) (ha : OpensAt P n a f.type Ga) (hb : OpensF P n b fs (off + a.sz) Gb) :
    OpensF P n (Kd.pair a b) (f :: fs) off (fun p => Ga p.1 ∧ Gb p.2) := by
  intro H enc w base sp held cs hl h
  have hl' : cs.length = off + (a.sz + b.sz) := hl
  obtain ⟨y, hy⟩ := h f (by simp)
  rw [ho, hs] at hy
  obtain ⟨x, hK, hG⟩ := ha _ enc w base sp held _ _ hy
  obtain ⟨z, hK2, hG2⟩ := hb _ enc w base sp held cs (by omega) (fun g hg => h g (List.mem_cons_of_mem _ hg))
  refine ⟨(x, z), ⟨(cs.drop off).take a.sz, cs.drop (off + a.sz), ?_, hK, hK2⟩, hG, hG2⟩
  rw [← List.drop_drop]
  exact (List.take_append_drop _ _).symm
theorem opensAt_struct {α β : Type} {d : Kd α} {f : β → α} {g : α → β} {t n : Nat} {fs : Array Field} {G : α → Prop} {G' : β → Prop} (ht : P.underlying t = some (.struct fs)) (hs : P.cellsOf t = d.sz) (hf : ∀ m, n = m + 1 → OpensF P m d fs.toList 0 G) (hg : ∀ a, f (g a) = a) (hG : ∀ a, G a → G' (g a)) :
    OpensAt P n (Kd.iso d f) t G' := by
  intro H enc w base sp held cs x h
  obtain ⟨xs, m, rfl, -, hl, hxl, hat⟩ := DataW.trod_struct ht h
  obtain ⟨a, hK, hGa⟩ := hf m rfl _ enc w base sp held cs (by rw [hl, hs]; omega) (fun q hq => by
    obtain ⟨j, hj, rfl⟩ := List.getElem_of_mem hq
    have hj' : j < fs.size := by simpa using hj
    have h1 := hat j (fs[j]) (by rw [Array.getElem?_eq_getElem hj'])
    rw [List.getElem?_eq_getElem (by omega)] at h1
    exact ⟨_, by simpa using h1⟩)
  exact ⟨g a, by show d.K w (f (g a)) cs; rw [hg]; simpa using hK, hG a hGa⟩
end

/-! ### heads -/
theorem cells129 : Try.prog.cellsOf 129 = 5 := by kernel_rfl
theorem cells9 : Try.prog.cellsOf 9 = 1 := by kernel_rfl
theorem cells4 : Try.prog.cellsOf 4 = 1 := by kernel_rfl
theorem cells3 : Try.prog.cellsOf 3 = 1 := by kernel_rfl
def okHead (h : S129) : Prop := h.f0.size ≤ maxLen ∧ h.f1.size ≤ maxLen ∧ (Lit.int .i64 h.f3).wf = true ∧ (Lit.int .i64 h.f4).wf = true
abbrev G1 : ByteArray → Prop := fun s => s.size ≤ maxLen
abbrev G2 : Int → Prop := fun n => (Lit.int .i64 n).wf = true
abbrev G3 : Bool → Prop := fun _ => True
abbrev GA {α β : Type} (a : α → Prop) (b : β → Prop) : α × β → Prop := fun p => a p.1 ∧ b p.2
set_option maxRecDepth 100000 in
theorem opens129 : Opens Try.prog k129 129 okHead := fun n => by
  refine opensAt_struct (g := fun p => (⟨p.1, p.2.1, p.2.2.1, p.2.2.2.1, p.2.2.2.2⟩ : S129)) (G := GA G1 (GA G1 (GA G3 (GA G2 G2)))) Try.underlying129 cells129 (fun m _ => ?_) (fun a => rfl) ?_
  · refine opensF_cons (off := 0) (a := Kd.string) (Ga := G1) (Gb := (GA G1 (GA G3 (GA G2 G2)))) rfl cells9 (opens_string Try.underlying9 m) ?_
    refine opensF_cons (off := 1) (a := Kd.string) (Ga := G1) (Gb := (GA G3 (GA G2 G2))) rfl cells9 (opens_string Try.underlying9 m) ?_
    refine opensF_cons (off := 2) (a := Kd.bool) (Ga := G3) (Gb := GA G2 G2) rfl cells4 (opens_bool Try.underlying4 m) ?_
    refine opensF_cons (off := 3) (a := Kd.int .i64) (Ga := G2) (Gb := G2) rfl cells3 (opens_int Try.underlying3 m) ?_
    exact opensF_one (off := 4) rfl cells3 (opens_int Try.underlying3 m)
  · exact fun a h => ⟨h.1, h.2.1, h.2.2.2.1, h.2.2.2.2⟩
set_option maxRecDepth 100000 in
theorem opens22 : Opens Try.prog (Kd.slice 129 k129) 22 (fun l => ∀ x ∈ l, okHead x) := opens_slice Try.underlying22 cells129 opens129
end Go.Proofs.Ytoakelgcbbbieaa
