/- A part of the proof: The row of ClassAlone: for every input the statement returns true; and its card. -/
import Derived.Below
import Derived.Deep.Draws
import Derived.Deep.AppendLies
import Derived.Maps.AppendAt
import Derived.OwnWalk
import Derived.Laws.BytesArg
import Derived.Laws.MakeOwn
import Derived.Laws.OwnMore
import Derived.Deep.OwnRows
import Derived.Tactics
import Derived.Lib.ConvBytes
import Derived.Laws.Slices
import Derived.WalkKit
import Derived.KernelRfl
import Derived.RowKit3
import Derived.Deep.LoopGhost
import Derived.Deep.QuietTactic
import Derived.BigQuiet
import Derived.WideLaws
import Derived.Deep.DeepCutAuto
import Derived.Deep.CutBlock
import Derived.Deep.RegionHeld3
import Derived.Laws.Rows
import Derived.Lib.AppendStr
import Derived.ArgAppend
import Derived.Laws.IdiomCopy
import Derived.RowKit
import Derived.OrdersHeld
import Derived.Laws.BitsLemmas
import Derived.Laws.StructEq
import GoSem.Core.Value
import Derived.RangeFuncRecord
import Derived.Test.YtbfkkepdeepdeaaGreatDoorProg
import Derived.Lib.Hide
import Derived.Laws.DeepStrings4
import Derived.Laws.AppendOwn
import Derived.Lib.SliceRun
section
set_option linter.unusedVariables false
set_option linter.unusedSimpArgs false
namespace Go.Proofs.YtbfkkepdeepdeaaGreatDoorW.PrintWords
open Go.RowKit
structure Drawn0 (w w' : World) : Prop where mk :: (out : ∃ n, w' = w.drewN n)
theorem Drawn0.refl (w : World) : Drawn0 w w := ⟨⟨0, rfl⟩⟩
theorem Drawn0.step {w w' : World} (h : Drawn0 w w') (n : Nat) : Drawn0 w (w'.drewN n) := by
  obtain ⟨m, rfl⟩ := h
  exact ⟨⟨m + n, World.drewN_drewN ..⟩⟩
theorem Drawn0.grown {w w' : World} (h : Drawn0 w w') : Grown w w' := by
  obtain ⟨n, rfl⟩ := h
  induction n with
  | zero => exact Grown.refl _
  | succ n ih => rw [← World.drew_drewN]; exact Grown.drew ih
theorem Drawn0.below {w w' : World} (h : Drawn0 w w') : Below w.heap.size w w' := by
  obtain ⟨n, rfl⟩ := h
  induction n with
  | zero => exact Below.refl _ _
  | succ n ih => rw [← World.drew_drewN]; exact ih.drew
def rd (xs : List Int) (i : Int) : Int := xs.getD i.toNat 0
def bt (s : ByteArray) (i : Int) : Int := if h : i.toNat < s.size then ((s[i.toNat]'h).toNat : Int) else 0
theorem below_alloc {w W : World} (h : Below w.heap.size w W) (o : Obj) : Below w.heap.size w (W.alloc o) := h.alloc h.size o
theorem below_drew {B : Nat} {w W : World} (h : Below B w W) : Below B w W.drew := ⟨h.os, h.tape, h.output, h.size, h.block⟩
theorem pw_below_drewN {B : Nat} {w W : World} (h : Below B w W) (n : Nat) : Below B w (W.drewN n) := ⟨h.os, h.tape, h.output, h.size, h.block⟩
theorem below_then {B : Nat} {w w1 w2 : World} (h : Below B w w1) (hB : B ≤ w1.heap.size) (k : Below w1.heap.size w1 w2) : Below B w w2 :=
  h.trans ⟨k.os, k.tape, k.output, k.size, fun i hi => k.block i (Nat.lt_of_lt_of_le hi hB)⟩
theorem grown_of_below {w w1 : World} (h : Below w.heap.size w w1) (row : Option Nat) : w.grownBy w1 row := ⟨h.os, h.tape, h.output, h.size, fun i hi _ => h.block i hi⟩
theorem pw_cell_below {w w1 : World} (h : Below w.heap.size w w1) {a : Addr} {v : Value} (hc : w.cell? a = some v) : w1.cell? a = some v := (h.cell (World.block_lt_of_cell? w a hc)).trans hc
def ReadsInt (w : World) (k : IntKind) (A : Option Addr) (n : Nat) (xs : List Int) : Prop :=
  xs.length = n ∧ n ≤ 9223372036854775807 ∧ (0 < n → ∃ ad, A = some ad ∧ ∀ j, j < n → w.cell? (ad.add j) = some (.int k (xs.getD j 0)))
theorem ReadsInt.at_ {w : World} {k : IntKind} {A : Option Addr} {n : Nat} {xs : List Int} (h : ReadsInt w k A n xs) (i : Int) (h0 : 0 ≤ i) (h1 : i < n) : ∃ ad, A = some ad ∧ w.cell? (ad.add i.toNat) = some (.int k (rd xs i)) := by
  obtain ⟨ad, e, hc⟩ := h.2.2 (by omega)
  exact ⟨ad, e, hc _ (by omega)⟩
theorem ReadsInt.below {w w1 : World} {k : IntKind} {A : Option Addr} {n : Nat} {xs : List Int} (h : ReadsInt w k A n xs) (hb : Below w.heap.size w w1) : ReadsInt w1 k A n xs :=
  ⟨h.1, h.2.1, fun hn => by
    obtain ⟨ad, e, hc⟩ := h.2.2 hn
    exact ⟨ad, e, fun j hj => pw_cell_below hb (hc j hj)⟩⟩
theorem own_nil (W : World) (base : Nat) (e : TypeId) (size : Nat) : W.ownsRow base e size (.slice none 0 0) 0 [] := ⟨by simp, .inl ⟨rfl, rfl⟩⟩
theorem own_base {w : World} {base : Nat} {e : TypeId} {size n : Nat} {v : Value} {xs : List Value} (h : w.ownsRow base e size v n xs) (k : Nat) (hk : v.ownBlock = some k) : base ≤ k := by
  rcases h.2 with ⟨rfl, _⟩ | ⟨g, cap, cur, rfl, hb, _⟩
  · simp [Value.ownBlock] at hk
  · have : g = k := by simpa [Value.ownBlock] using hk
    omega
theorem own_lt {w : World} {base : Nat} {e : TypeId} {size n : Nat} {v : Value} {xs : List Value} (h : w.ownsRow base e size v n xs) (k : Nat) (hk : v.ownBlock = some k) : k < w.heap.size := by
  rcases h.2 with ⟨rfl, _⟩ | ⟨g, cap, cur, rfl, hb, hh, _⟩
  · simp [Value.ownBlock] at hk
  · have : g = k := by simpa [Value.ownBlock] using hk
    subst this
    exact (Array.getElem?_eq_some_iff.1 hh).1
theorem pw_own_below {w w1 : World} {base : Nat} {e : TypeId} {size n : Nat} {v : Value} {xs : List Value} (h : w.ownsRow base e size v n xs) (hb : Below w.heap.size w w1) : w1.ownsRow base e size v n xs :=
  h.kept (grown_of_below hb none) (by cases v.ownBlock <;> simp)
theorem own_slice {w : World} {base n : Nat} {e : TypeId} {size : Nat} {v : Value} {xs : List Value} (h : w.ownsRow base e size v n xs) : ∃ A c, v = .slice A n c := by
  rcases h.2 with ⟨rfl, rfl⟩ | ⟨g, cap, cur, rfl, _⟩
  · exact ⟨none, 0, rfl⟩
  · exact ⟨_, cap, rfl⟩
def bytesOf (s : ByteArray) : List Int := s.data.toList.map fun b => (b.toNat : Int)
theorem bytes_below {B : Nat} {w W : World} (h : Below B w W) (hB : B ≤ W.heap.size) (e : TypeId) (s : ByteArray) : Below B w (Lib.bytesWorld W e s) :=
  h.trans ⟨rfl, rfl, rfl, by rw [Lib.bytesWorld_size]; omega, fun i hi => Lib.bytesWorld_at_old W e s i (by omega)⟩
def LeO {α : Type} (a b : Option α) : Prop := ∀ r, a = some r → b = some r
theorem LeO.refl {α : Type} (a : Option α) : LeO a a := fun _ h => h
theorem LeO.none {α : Type} (b : Option α) : LeO Option.none b := fun _ h => by cases h
theorem LeO.trans {α : Type} {a b c : Option α} (h : LeO a b) (k : LeO b c) : LeO a c := fun r hr => k r (h r hr)
theorem LeO.map {α β : Type} {a a' : Option α} (f : α → β) (h : LeO a a') : LeO (a.map f) (a'.map f) := by
  intro r hr
  obtain ⟨x, hx, hf⟩ := Option.map_eq_some_iff.1 hr
  exact Option.map_eq_some_iff.2 ⟨x, h x hx, hf⟩
theorem more_rounds {α : Type} {g : Nat → Option α} (h : ∀ k, LeO (g k) (g (k + 1))) (k : Nat) : ∀ j, LeO (g k) (g (k + j))
  | 0 => LeO.refl _
  | j + 1 => (more_rounds h k j).trans (h (k + j))
theorem at_rounds {α : Type} {g : Nat → Option α} (h : ∀ k, LeO (g k) (g (k + 1))) {k k' : Nat} (hk : k ≤ k') {r : α} (hr : g k = some r) : g k' = some r := by
  have := more_rounds h k (k' - k) r hr
  rwa [Nat.add_sub_cancel' hk] at this
def Reps {α : Type} (R : α → List Value → Prop) (size : Nat) (ps : List α) (cs : List Value) : Prop :=
  cs.length = ps.length * size ∧ ∀ j p, ps[j]? = some p → R p ((cs.drop (j * size)).take size)
theorem Reps.none {α : Type} (R : α → List Value → Prop) (size : Nat) : Reps R size [] [] := ⟨by simp, fun j p h => by simp at h⟩
theorem Reps.snoc {α : Type} {R : α → List Value → Prop} {size : Nat} {ps : List α} {cs c : List Value} {p : α} (h : Reps R size ps cs) (hp : R p c) (hc : c.length = size) : Reps R size (ps ++ [p]) (cs ++ c) := by
  refine ⟨by rw [List.length_append, h.1, hc, List.length_append, List.length_singleton, Nat.add_mul, Nat.one_mul], fun j q hq => ?_⟩
  rcases Nat.lt_or_ge j ps.length with hj | hj
  · rw [List.getElem?_append_left hj] at hq
    have h1 : j * size + size ≤ cs.length := by rw [h.1, ← Nat.succ_mul]; exact Nat.mul_le_mul_right _ hj
    have h2 := h.2 j q hq
    rw [List.drop_append_of_le_length (by omega), List.take_append_of_le_length (by rw [List.length_drop]; omega)]
    exact h2
  · have hj' : j = ps.length := by
      have := (List.getElem?_eq_some_iff.1 hq).1
      rw [List.length_append, List.length_singleton] at this
      omega
    subst hj'
    have hq' : p = q := by simpa using hq
    subst hq'
    rw [← h.1, List.drop_left, ← hc, List.take_length]
    exact hp
theorem Reps.imp_ {α : Type} {R R' : α → List Value → Prop} {size : Nat} {ps : List α} {cs : List Value} (h : Reps R size ps cs) (hR : ∀ p c, R p c → R' p c) : Reps R' size ps cs := ⟨h.1, fun j p hj => hR _ _ (h.2 j p hj)⟩
def ReadsRow {α : Type} (R : α → List Value → Prop) (size : Nat) (w : World) (A : Option Addr) (n : Nat) (ps : List α) : Prop :=
  ps.length = n ∧ n ≤ 9223372036854775807 ∧ (0 < n → ∃ ad, A = some ad ∧ ∀ j p, ps[j]? = some p → ∃ c, c.length = size ∧ R p c ∧ ∀ i u, c[i]? = some u → w.cell? (ad.add (j * size + i)) = some u)
theorem ReadsRow.get_ {α : Type} {R : α → List Value → Prop} {size : Nat} {w : World} {A : Option Addr} {n : Nat} {ps : List α} (h : ReadsRow R size w A n ps) (d : α) (i : Int) (h0 : 0 ≤ i) (h1 : i < n) :
    ∃ ad c, A = some ad ∧ c.length = size ∧ R (ps.getD i.toNat d) c ∧ ∀ j u, c[j]? = some u → w.cell? (ad.add (i.toNat * size + j)) = some u := by
  obtain ⟨ad, e, hc⟩ := h.2.2 (by omega)
  have hl : i.toNat < ps.length := by have := h.1; omega
  obtain ⟨c, hs, hr, hcell⟩ := hc i.toNat _ (List.getElem?_eq_getElem hl)
  refine ⟨ad, c, e, hs, ?_, hcell⟩
  rw [List.getD_eq_getElem?_getD, List.getElem?_eq_getElem hl]
  exact hr
theorem ReadsRow.imp_ {α : Type} {R R' : α → List Value → Prop} {size : Nat} {w w1 : World} {A : Option Addr} {n : Nat} {ps : List α} (h : ReadsRow R size w A n ps) (hb : Below w.heap.size w w1) (hR : ∀ p c, R p c → R' p c) : ReadsRow R' size w1 A n ps :=
  ⟨h.1, h.2.1, fun hn => by
    obtain ⟨ad, e, hc⟩ := h.2.2 hn
    refine ⟨ad, e, fun j p hj => ?_⟩
    obtain ⟨c, hs, hr, hcell⟩ := hc j p hj
    exact ⟨c, hs, hR _ _ hr, fun i u hu => pw_cell_below hb (hcell i u hu)⟩⟩
theorem own_reads_row {α : Type} {R : α → List Value → Prop} {w : World} {base n size : Nat} {e : TypeId} {v : Value} {ps : List α} {cs : List Value} (h : w.ownsRow base e size v n cs) (hR : Reps R size ps cs) (hn : ps.length = n) :
    ∃ A c, v = .slice A n c ∧ ReadsRow R size w A n ps := by
  rcases Nat.eq_zero_or_pos n with h0 | h0
  · rcases h.2 with ⟨rfl, rfl⟩ | ⟨g, cap, cur, rfl, _⟩
    · exact ⟨none, 0, rfl, hn, by omega, fun hp => absurd hp (by omega)⟩
    · exact ⟨_, cap, rfl, hn, by omega, fun hp => absurd hp (by omega)⟩
  · obtain ⟨g, cap, rfl, _, _⟩ := h.form h0
    have hm : n ≤ 9223372036854775807 := by
      rcases h.2 with ⟨_, h1⟩ | ⟨g', cap', cur, he, _, _, h1, h2, _⟩
      · omega
      · simp only [maxLen] at h2
        omega
    refine ⟨_, cap, rfl, hn, hm, fun _ => ⟨_, rfl, fun j p hj => ⟨(cs.drop (j * size)).take size, ?_, hR.2 j p hj, fun i u hu => ?_⟩⟩⟩
    · have hjl := (List.getElem?_eq_some_iff.1 hj).1
      have h1 : j * size + size ≤ cs.length := by rw [hR.1, ← Nat.succ_mul]; exact Nat.mul_le_mul_right _ hjl
      rw [List.length_take, List.length_drop]
      omega
    · refine h.cells (g := g) rfl _ u ?_
      rw [List.getElem?_take] at hu
      split at hu
      · rw [List.getElem?_drop] at hu
        exact hu
      · cases hu
theorem add_field (ad : Addr) (m j : Nat) (hj : 0 < j) : ad.add (m + j) = ⟨(ad.add m).block, (ad.add m).off + j, none⟩ := by
  unfold Addr.add
  by_cases hm : m = 0
  · subst hm
    simp [Nat.ne_of_gt hj]
  · simp [hm, Nat.add_assoc]
section
variable {P : Program} {ops : Array Oper} {rest : List Oper} {o : Oper} {a : Act} {Q : Exit → Act → World → Prop}
theorem print_append_cells {w0 W : World} (base : Nat) (hgd : o.guard = none) (s x : Operand) (t e : TypeId) (z : Value) (size bytes : Nat)
    (ho : o.op = .call { callee := .builtin .append, args := #[s, x], argTypes := #[t, t] })
    (ht : P.underlying t = some (.slice e)) (hinfo : (P.info? e).map (fun i => (i.zero, i.size, i.bytes)) = some (some z, size, bytes)) (hz : z.cells.size = size) (hs0 : 0 < size) (hb0 : 0 < bytes)
    (v : Value) (n : Nat) (xs ys : List Value) (hs : a.eval s = v) (hx : a.eval x = .slice (some ⟨W.heap.size, 0, none⟩) 1 1) (hys : ys.length = size) (h1 : ∀ u ∈ ys, u.oneCell' = true)
    (HO : W.ownsRow base e size v n xs) (HB : Below base w0 W) (hbase : base ≤ W.heap.size) (hl : (n + 1) * bytes ≤ 140737488355328)
    (h : ∀ v1 w1, w1.ownsRow base e size v1 (n + 1) (xs ++ ys) → Below base w0 w1 → W.grownBy w1 v.ownBlock → (v1.ownBlock = v.ownBlock ∨ ∃ b, v1.ownBlock = some b ∧ W.heap.size ≤ b) → wpList P ops Q rest (a.put o.dst v1) w1) :
    wpList P ops Q (o :: rest) a (W.alloc (.cells ys.toArray e)) := by
  obtain ⟨i0, hi, hzz⟩ := Option.map_eq_some_iff.1 hinfo
  simp only [Prod.mk.injEq] at hzz
  obtain ⟨hz0, hz1, hz2⟩ := hzz
  have hlen : n + 1 ≤ 140737488355328 := Nat.le_trans (Nat.le_mul_of_pos_right _ hb0) hl
  refine wpList_append_own_at (W.alloc (.cells ys.toArray e)) hgd s x t ho base e i0 z size bytes ht hi hz0 hz1 hz2 hz hs0 v n xs hs (HO.alloc _) ⟨W.heap.size, 0, none⟩ 1 1 ys hx (by rw [hys]; simp)
    (by simpa using World.news_of_block (cs := ys.toArray) (t := e) (fr := (0, 0)) (heap_alloc_new W (.cells ys.toArray e))) h1 (by simp only [maxLen]; omega) hl (by simp; omega) ?_
  intro v1 w1 hown hg _ hat
  refine h v1 w1 hown ((HB.alloc hbase _).grown hg (by simp; omega) (own_base HO)) (World.grownBy.trans (World.grownBy_alloc W _ _) hg) ?_
  rcases hat with hat | hat
  · exact .inl hat
  · exact .inr ⟨_, hat, by simp⟩
end
theorem own_ne {w : World} {base : Nat} {e t : TypeId} {size n g : Nat} {v : Value} {xs : List Value} {cs : Array Value} (h : w.ownsRow base e size v n xs) (hg : w.heap[g]? = some (.cells cs t (0, 0))) (hne : e ≠ t) : some g ≠ v.ownBlock := by
  rcases h.2 with ⟨rfl, _⟩ | ⟨g', cap, cur, rfl, _, hh, _⟩
  · simp [Value.ownBlock]
  · intro he
    have : g = g' := by simpa [Value.ownBlock] using he
    subst this
    rw [hg] at hh
    injection hh with hh
    injection hh with _ ht
    exact hne ht.symm
theorem blk_lt {w : World} {g : Nat} {o : Obj} (h : w.heap[g]? = some o) : g < w.heap.size := (Array.getElem?_eq_some_iff.1 h).1
theorem blk_grown {w w1 : World} {g : Nat} {o : Obj} {row : Option Nat} (h : w.heap[g]? = some o) (hg : w.grownBy w1 row) (hne : some g ≠ row) : w1.heap[g]? = some o := (hg.block g (blk_lt h) hne).trans h
def KeepBut (w w' : World) (g : Nat) (row : Option Nat) : Prop := w.heap.size ≤ w'.heap.size ∧ ∀ i, i < w.heap.size → i ≠ g → some i ≠ row → w'.heap[i]? = w.heap[i]?
theorem KeepBut.refl (w : World) (g : Nat) (row : Option Nat) : KeepBut w w g row := ⟨Nat.le_refl _, fun _ _ _ _ => rfl⟩
theorem KeepBut.of_below {w w1 : World} (h : Below w.heap.size w w1) (g : Nat) (row : Option Nat) : KeepBut w w1 g row := ⟨h.size, fun i hi _ _ => h.block i hi⟩
theorem KeepBut.trans {w w1 w2 : World} {g : Nat} {row row1 : Option Nat} (h : KeepBut w w1 g row) (k : KeepBut w1 w2 g row1) (hr : row1 = row ∨ ∃ b, row1 = some b ∧ w.heap.size ≤ b) : KeepBut w w2 g row :=
  ⟨Nat.le_trans h.1 k.1, fun i hi hg hn => by
    refine (k.2 i (Nat.lt_of_lt_of_le hi h.1) hg ?_).trans (h.2 i hi hg hn)
    rcases hr with rfl | ⟨b, rfl, hb⟩
    · exact hn
    · intro e
      injection e with e
      omega⟩
theorem KeepBut.blk {w w1 : World} {g g' : Nat} {row : Option Nat} {o : Obj} (h : KeepBut w w1 g row) (hb : w.heap[g']? = some o) (hg : g' ≠ g) (hr : some g' ≠ row) : w1.heap[g']? = some o := (h.2 g' (blk_lt hb) hg hr).trans hb
theorem KeepBut.own {w w1 : World} {g : Nat} {row : Option Nat} {base : Nat} {e : TypeId} {size n : Nat} {v : Value} {xs : List Value} (h : KeepBut w w1 g row) (ho : w.ownsRow base e size v n xs) (hg : v.ownBlock ≠ some g) (hr : v.ownBlock = none ∨ v.ownBlock ≠ row) : w1.ownsRow base e size v n xs := by
  obtain ⟨h1, h2⟩ := ho
  refine ⟨h1, ?_⟩
  rcases h2 with h2 | ⟨b, cap, cur, rfl, hb, hh, r⟩
  · exact .inl h2
  · refine .inr ⟨b, cap, cur, rfl, hb, h.blk hh ?_ ?_, r⟩
    · intro e
      exact hg (by rw [← e]; rfl)
    · rcases hr with hr | hr
      · simp [Value.ownBlock] at hr
      · exact hr
def Ev {α : Type} (g : Nat → Option α) (r : α) : Prop := ∃ K, ∀ k, K ≤ k → g k = some r
theorem Ev.of {α : Type} {g : Nat → Option α} {r : α} (hg : ∀ k, LeO (g k) (g (k + 1))) {k : Nat} (h : g k = some r) : Ev g r := ⟨k, fun _ hk => at_rounds hg hk h⟩
theorem Ev.step {α : Type} {g f : Nat → Option α} {r : α} (h : ∀ k, g (k + 1) = f k) (k : Ev f r) : Ev g r := by
  obtain ⟨K, k⟩ := k
  refine ⟨K + 1, fun n hn => ?_⟩
  obtain ⟨m, rfl⟩ : ∃ m, n = m + 1 := ⟨n - 1, by omega⟩
  rw [h]
  exact k m (by omega)
theorem Ev.congr {α : Type} {g f : Nat → Option α} {r : α} (h : ∀ k, g k = f k) (k : Ev f r) : Ev g r := by
  obtain ⟨K, k⟩ := k
  exact ⟨K, fun n hn => (h n).trans (k n hn)⟩
section
variable {P : Program} {ops : Array Oper} {o : Oper} {a : Act} {Q : Exit → Act → World → Prop} {K : Act → World → Prop}
theorem step_append_cells {w0 W : World} (base : Nat) (hw : Region.wanted o (yielded ops a.tmps) = true) (s x : Operand) (t e : TypeId) (z : Value) (size bytes : Nat)
    (ho : o.op = .call { callee := .builtin .append, args := #[s, x], argTypes := #[t, t] })
    (ht : P.underlying t = some (.slice e)) (hinfo : (P.info? e).map (fun i => (i.zero, i.size, i.bytes)) = some (some z, size, bytes)) (hz : z.cells.size = size) (hs0 : 0 < size) (hb0 : 0 < bytes)
    (v : Value) (n : Nat) (xs ys : List Value) (hs : a.eval s = v) (hx : a.eval x = .slice (some ⟨W.heap.size, 0, none⟩) 1 1) (hys : ys.length = size) (h1 : ∀ u ∈ ys, u.oneCell' = true)
    (HO : W.ownsRow base e size v n xs) (HB : Below base w0 W) (hbase : base ≤ W.heap.size) (hl : (n + 1) * bytes ≤ 140737488355328)
    (h : ∀ v1 w1, w1.ownsRow base e size v1 (n + 1) (xs ++ ys) → Below base w0 w1 → W.grownBy w1 v.ownBlock → (v1.ownBlock = v.ownBlock ∨ ∃ b, v1.ownBlock = some b ∧ W.heap.size ≤ b) → K (a.put o.dst v1) w1) :
    if Region.wanted o (yielded ops a.tmps) = true then Oper.wp P o a (W.alloc (.cells ys.toArray e)) K Q else K (a.put o.dst undef) (W.alloc (.cells ys.toArray e)) := by
  obtain ⟨i0, hi, hzz⟩ := Option.map_eq_some_iff.1 hinfo
  simp only [Prod.mk.injEq] at hzz
  obtain ⟨hz0, hz1, hz2⟩ := hzz
  have hlen : n + 1 ≤ 140737488355328 := Nat.le_trans (Nat.le_mul_of_pos_right _ hb0) hl
  rw [if_pos hw]
  obtain ⟨v1, w1, hr, hown, hg, _, hat⟩ := run_append_own_at (P := P) (W.alloc (.cells ys.toArray e)) base t o.type e i0 z size bytes ht hi hz0 hz1 hz2 hz hs0 v n xs (HO.alloc _) ⟨W.heap.size, 0, none⟩ 1 1 ys (by rw [hys]; simp)
    (by simpa using World.news_of_block (cs := ys.toArray) (t := e) (fr := (0, 0)) (heap_alloc_new W (.cells ys.toArray e))) h1 (by simp only [maxLen]; omega) hl (by simp; omega)
  unfold Oper.wp execOp
  simp only [ho, resolve, invoke, builtin, Sem.run_bind, Sem.run_pure, Result.andThen_ok, List.map_toArray, List.map_cons, List.map_nil, hs, hx, hr]
  refine h v1 w1 hown ((HB.alloc hbase _).grown hg (by simp; omega) (own_base HO)) (World.grownBy.trans (World.grownBy_alloc W _ _) hg) ?_
  rcases hat with hat | hat
  · exact .inl hat
  · exact .inr ⟨_, hat, by simp⟩
end
theorem own_weaken {w : World} {base base' : Nat} {e : TypeId} {size n : Nat} {v : Value} {xs : List Value} (h : w.ownsRow base e size v n xs) (hb : base' ≤ base) : w.ownsRow base' e size v n xs := by
  obtain ⟨h1, h2⟩ := h
  refine ⟨h1, ?_⟩
  rcases h2 with h2 | ⟨g, cap, cur, rfl, hg, r⟩
  · exact .inl h2
  · exact .inr ⟨g, cap, cur, rfl, Nat.le_trans hb hg, r⟩
section
variable {α : Type} {enc : α → Value} {d : α}
def rdOf (d : α) (xs : List α) (i : Int) : α := xs.getD i.toNat d
def ReadsOf (enc : α → Value) (d : α) (w : World) (A : Option Addr) (n : Nat) (xs : List α) : Prop :=
  xs.length = n ∧ n ≤ 9223372036854775807 ∧ (0 < n → ∃ ad, A = some ad ∧ ∀ j, j < n → w.cell? (ad.add j) = some (enc (xs.getD j d)))
theorem ReadsOf.at_ {w : World} {A : Option Addr} {n : Nat} {xs : List α} (h : ReadsOf enc d w A n xs) (i : Int) (h0 : 0 ≤ i) (h1 : i < n) : ∃ ad, A = some ad ∧ w.cell? (ad.add i.toNat) = some (enc (rdOf d xs i)) := by
  obtain ⟨ad, e, hc⟩ := h.2.2 (by omega)
  exact ⟨ad, e, hc _ (by omega)⟩
theorem ReadsOf.below {w w1 : World} {A : Option Addr} {n : Nat} {xs : List α} (h : ReadsOf enc d w A n xs) (hb : Below w.heap.size w w1) : ReadsOf enc d w1 A n xs :=
  ⟨h.1, h.2.1, fun hn => by
    obtain ⟨ad, e, hc⟩ := h.2.2 hn
    exact ⟨ad, e, fun j hj => pw_cell_below hb (hc j hj)⟩⟩
end
theorem own_le {w : World} {base n m c size : Nat} {e : TypeId} {A : Option Addr} {xs : List Value} (h : w.ownsRow base e size (.slice A m c) n xs) : m ≤ c := by
  rcases h.2 with ⟨he, _⟩ | ⟨g, cap, cur, he, _, _, hnc, _⟩
  · injection he with _ h2 h3
    omega
  · injection he with _ h2 h3
    omega
def OwnRow {α : Type} (R : α → List Value → Prop) (e : TypeId) (size : Nat) (w : World) (base : Nat) (v : Value) (ps : List α) : Prop :=
  ∃ inner, w.ownsRow base e size v ps.length inner ∧ Reps R size ps inner
section
variable {α : Type} {R R' : α → List Value → Prop} {e : TypeId} {size : Nat} {w w1 : World} {base : Nat} {v : Value} {ps : List α}
theorem OwnRow.none_ (R : α → List Value → Prop) (e : TypeId) (size : Nat) (w : World) (base : Nat) : OwnRow R e size w base (.slice none 0 0) [] := ⟨[], own_nil _ _ _ _, Reps.none _ _⟩
theorem OwnRow.imp_ (h : OwnRow R e size w base v ps) (hR : ∀ p c, R p c → R' p c) : OwnRow R' e size w base v ps := by
  obtain ⟨inner, ho, hr⟩ := h
  exact ⟨inner, ho, hr.imp_ hR⟩
theorem OwnRow.below (h : OwnRow R e size w base v ps) (hb : Below w.heap.size w w1) : OwnRow R e size w1 base v ps := by
  obtain ⟨inner, ho, hr⟩ := h
  exact ⟨inner, pw_own_below ho hb, hr⟩
theorem OwnRow.keep (h : OwnRow R e size w base v ps) {g : Nat} {t : TypeId} {cells : Array Value} (hb : w.heap[g]? = some (.cells cells t (0, 0))) (ht : e ≠ t) (hk : KeepBut w w1 g none) : OwnRow R e size w1 base v ps := by
  obtain ⟨inner, ho, hr⟩ := h
  exact ⟨inner, hk.own ho (Ne.symm (own_ne ho hb ht)) (by cases v.ownBlock <;> simp), hr⟩
theorem OwnRow.lower (h : OwnRow R e size w base v ps) {base' : Nat} (hb : base' ≤ base) : OwnRow R e size w base' v ps := by
  obtain ⟨inner, ho, hr⟩ := h
  exact ⟨inner, own_weaken ho hb, hr⟩
theorem OwnRow.slice_ (h : OwnRow R e size w base v ps) : ∃ A c, v = .slice A ps.length c ∧ ps.length ≤ c := by
  obtain ⟨inner, ho, hr⟩ := h
  obtain ⟨A, c, rfl⟩ := own_slice ho
  exact ⟨A, c, rfl, own_le ho⟩
theorem OwnRow.reads (h : OwnRow R e size w base v ps) : ∃ A c, v = .slice A ps.length c ∧ ps.length ≤ c ∧ ReadsRow R size w A ps.length ps := by
  obtain ⟨inner, ho, hr⟩ := h
  obtain ⟨A, c, rfl, hrow⟩ := own_reads_row ho hr rfl
  exact ⟨A, c, rfl, own_le ho, hrow⟩
theorem OwnRow.lit (W : World) (base : Nat) {inner : List Value} (hr : Reps R size ps inner) (hb : base ≤ W.heap.size) (hm : ps.length ≤ 9223372036854775807) :
    OwnRow R e size (W.alloc (.cells inner.toArray e)) base (.slice (some ⟨W.heap.size, 0, none⟩) ps.length ps.length) ps := by
  have h := World.ownsRow_lit (base := base) (e := e) (size := size) W inner.toArray ps.length hb (by simpa [maxLen] using hm) (by simpa using hr.1)
  exact ⟨inner, by simpa using h, hr⟩
end
section
variable {P : Program} {ops : Array Oper} {rest : List Oper} {o : Oper} {a : Act} {Q : Exit → Act → World → Prop} {α : Type} {R : α → List Value → Prop}
theorem OwnRow.append {w0 W : World} (base : Nat) (hgd : o.guard = none) (s x : Operand) (t e : TypeId) (z : Value) (size bytes : Nat)
    (ho : o.op = .call { callee := .builtin .append, args := #[s, x], argTypes := #[t, t] })
    (ht : P.underlying t = some (.slice e)) (hinfo : (P.info? e).map (fun i => (i.zero, i.size, i.bytes)) = some (some z, size, bytes)) (hz : z.cells.size = size) (hs0 : 0 < size) (hb0 : 0 < bytes)
    (v : Value) (ps : List α) (p : α) (cs : List Value) (hs : a.eval s = v) (hx : a.eval x = .slice (some ⟨W.heap.size, 0, none⟩) 1 1) (hp : R p cs) (hcs : cs.length = size) (h1 : ∀ u ∈ cs, u.oneCell' = true)
    (HO : OwnRow R e size W base v ps) (HB : Below base w0 W) (hbase : base ≤ W.heap.size) (hl : (ps.length + 1) * bytes ≤ 140737488355328)
    (h : ∀ v1 w1, OwnRow R e size w1 base v1 (ps ++ [p]) → Below base w0 w1 → W.grownBy w1 v.ownBlock → (v1.ownBlock = v.ownBlock ∨ ∃ b, v1.ownBlock = some b ∧ W.heap.size ≤ b) → wpList P ops Q rest (a.put o.dst v1) w1) :
    wpList P ops Q (o :: rest) a (W.alloc (.cells cs.toArray e)) := by
  obtain ⟨inner, hown, hr⟩ := HO
  refine print_append_cells base hgd s x t e z size bytes ho ht hinfo hz hs0 hb0 v ps.length inner cs hs hx hcs h1 hown HB hbase hl ?_
  intro v1 w1 hown1 hb1 hg1 hat1
  exact h v1 w1 ⟨inner ++ cs, by rw [List.length_append, List.length_singleton]; exact hown1, hr.snoc hp hcs⟩ hb1 hg1 hat1
end
theorem ReadsRow.inner_ {α : Type} {R : α → List Value → Prop} {size : Nat} {w : World} {ad : Addr} {n : Nat} {ps : List α} (h : ReadsRow R size w (some ad) n ps) :
    ∃ inner, Reps R size ps inner ∧ ∀ j u, inner[j]? = some u → w.cell? (ad.add j) = some u := by
  have key : ∀ m, m ≤ ps.length → ∃ inner, Reps R size (ps.take m) inner ∧ ∀ j u, inner[j]? = some u → w.cell? (ad.add j) = some u := by
    intro m
    induction m with
    | zero => exact fun _ => ⟨[], Reps.none _ _, fun j u hu => by simp at hu⟩
    | succ m ih =>
      intro hm
      obtain ⟨inner, hr, hc⟩ := ih (by omega)
      obtain ⟨ad', he, hcell⟩ := h.2.2 (by have := h.1; omega)
      injection he with he
      subst he
      obtain ⟨c, hcl, hp, hcc⟩ := hcell m _ (List.getElem?_eq_getElem (show m < ps.length by omega))
      refine ⟨inner ++ c, ?_, fun j u hu => ?_⟩
      · rw [List.take_succ_eq_append_getElem (show m < ps.length by omega)]
        exact hr.snoc hp hcl
      · have hil : inner.length = m * size := by rw [hr.1, List.length_take, Nat.min_eq_left (by omega)]
        rcases Nat.lt_or_ge j inner.length with hj | hj
        · rw [List.getElem?_append_left hj] at hu
          exact hc j u hu
        · rw [List.getElem?_append_right hj] at hu
          have := hcc (j - inner.length) u hu
          rwa [hil, Nat.add_sub_cancel' (by omega)] at this
  obtain ⟨inner, hr, hc⟩ := key ps.length (Nat.le_refl _)
  rw [List.take_length] at hr
  exact ⟨inner, hr, hc⟩
structure Kd (α : Type) where
  sz : Nat
  E : List Nat
  K : World → α → List Value → Prop
  M : World → Nat → (Nat → Prop) → α → List Value → Prop
  K_len : ∀ {w x cs}, K w x cs → cs.length = sz
  K_one : ∀ {w x cs}, K w x cs → ∀ u ∈ cs, u.oneCell' = true
  K_below : ∀ {w w1 : World} {x cs}, Below w.heap.size w w1 → K w x cs → K w1 x cs
  K_of_M : ∀ {w base ok x cs}, M w base ok x cs → K w x cs
  M_mono : ∀ {w base ok ok' x cs}, (∀ k, ok k → ok' k) → M w base ok x cs → M w base ok' x cs
  M_bound : ∀ {w : World} {base ok x cs}, M w base ok x cs → M w base (fun k => ok k ∧ base ≤ k ∧ k < w.heap.size ∧ ∃ q, q ∈ E ∧ ∃ cells, w.heap[k]? = some (.cells cells q (0, 0))) x cs
  M_move : ∀ {w w1 : World} {base ok x cs}, (∀ k, ok k → w1.heap[k]? = w.heap[k]?) → M w base ok x cs → M w1 base ok x cs
  M_lower : ∀ {w base base' ok x cs}, base' ≤ base → M w base ok x cs → M w base' ok x cs
theorem own_move {w w1 : World} {base : Nat} {e : TypeId} {size n : Nat} {v : Value} {xs : List Value} (h : w.ownsRow base e size v n xs) (hm : ∀ k, v.ownBlock = some k → w1.heap[k]? = w.heap[k]?) : w1.ownsRow base e size v n xs := by
  obtain ⟨h1, h2⟩ := h
  refine ⟨h1, ?_⟩
  rcases h2 with h2 | ⟨g, cap, cur, rfl, hg, hh, r⟩
  · exact .inl h2
  · exact .inr ⟨g, cap, cur, rfl, hg, (hm g (by simp [Value.ownBlock])).trans hh, r⟩
theorem own_typed {w : World} {base : Nat} {e : TypeId} {size n : Nat} {v : Value} {xs : List Value} (h : w.ownsRow base e size v n xs) (k : Nat) (hk : v.ownBlock = some k) : ∃ cells, w.heap[k]? = some (.cells cells e (0, 0)) := by
  rcases h.2 with ⟨rfl, _⟩ | ⟨g, cap, cur, rfl, hg, hh, r⟩
  · simp [Value.ownBlock] at hk
  · have : g = k := by simpa [Value.ownBlock] using hk
    subst this
    exact ⟨cur, hh⟩
namespace Kd
def C {α : Type} (d : Kd α) (w : World) (A : Option Addr) (n : Nat) (xs : List α) : Prop := ReadsRow (d.K w) d.sz w A n xs
def R {α : Type} (d : Kd α) (e : Nat) (w : World) (base : Nat) (ok : Nat → Prop) (v : Value) (xs : List α) : Prop :=
  (∀ k, v.ownBlock = some k → ok k) ∧ OwnRow (d.M w base (fun k => ok k ∧ some k ≠ v.ownBlock)) e d.sz w base v xs
section
variable {α : Type} {d : Kd α} {e : Nat} {w w1 : World} {base : Nat} {ok ok' : Nat → Prop} {v : Value} {xs : List α}
theorem C_below {A : Option Addr} {n : Nat} (h : d.C w A n xs) (hb : Below w.heap.size w w1) : d.C w1 A n xs := ReadsRow.imp_ h hb (fun _ _ hp => d.K_below hb hp)
theorem R_nil (d : Kd α) (e : Nat) (w : World) (base : Nat) (ok : Nat → Prop) : d.R e w base ok (.slice none 0 0) [] := ⟨fun k hk => by simp [Value.ownBlock] at hk, OwnRow.none_ _ _ _ _ _⟩
theorem R_mono (h : d.R e w base ok v xs) (hok : ∀ k, ok k → ok' k) : d.R e w base ok' v xs := ⟨fun k hk => hok k (h.1 k hk), h.2.imp_ (fun _ _ hp => d.M_mono (fun k hk => ⟨hok k hk.1, hk.2⟩) hp)⟩
theorem R_bound (h : d.R e w base ok v xs) : d.R e w base (fun k => ok k ∧ base ≤ k ∧ k < w.heap.size ∧ ∃ q, q ∈ e :: d.E ∧ ∃ cells, w.heap[k]? = some (.cells cells q (0, 0))) v xs := by
  obtain ⟨h0, inner, ho, hr⟩ := h
  refine ⟨fun k hk => ?_, inner, ho, hr.imp_ (fun _ _ hp => d.M_mono (fun k hk => ?_) (d.M_bound hp))⟩
  · obtain ⟨cells, hc⟩ := own_typed ho k hk
    exact ⟨h0 k hk, own_base ho k hk, own_lt ho k hk, e, List.mem_cons_self, cells, hc⟩
  · obtain ⟨⟨h1, h2⟩, h3, h4, q, hq, hc⟩ := hk
    exact ⟨⟨h1, h3, h4, q, List.mem_cons_of_mem _ hq, hc⟩, h2⟩
theorem R_move (h : d.R e w base ok v xs) (hm : ∀ k, ok k → w1.heap[k]? = w.heap[k]?) : d.R e w1 base ok v xs := by
  obtain ⟨h0, inner, ho, hr⟩ := h
  exact ⟨h0, inner, own_move ho (fun k hk => hm k (h0 k hk)), hr.imp_ (fun _ _ hp => d.M_move (fun k hk => hm k hk.1) hp)⟩
theorem R_lower {base' : Nat} (h : d.R e w base ok v xs) (hb : base' ≤ base) : d.R e w base' ok v xs := by
  obtain ⟨h0, inner, ho, hr⟩ := h
  exact ⟨h0, inner, own_weaken ho hb, hr.imp_ (fun _ _ hp => d.M_lower hb hp)⟩
theorem R_step (h : d.R e w base ok v xs) (hm : ∀ k, ok k → k < w.heap.size → w1.heap[k]? = w.heap[k]?) : d.R e w1 base ok v xs :=
  R_mono (R_move (R_bound h) (fun k hk => hm k hk.1 hk.2.2.1)) (fun _ hk => hk.1)
theorem R_below (h : d.R e w base ok v xs) (hb : Below w.heap.size w w1) : d.R e w1 base ok v xs := R_step h (fun k _ hk => hb.block k hk)
theorem R_grown (h : d.R e w base ok v xs) {row : Option Nat} (hg : w.grownBy w1 row) (hok : ∀ k, ok k → some k ≠ row) : d.R e w1 base ok v xs := R_step h (fun k ho hk => hg.block k hk (hok k ho))
theorem R_far (h : d.R e w base ok v xs) {p : Addr} (hok : ∀ k, ok k → k ≠ p.block) (u : Value) : d.R e (w.setCell p u) base ok v xs := R_step h (fun k ho _ => Below.heap_setCell w p u k (hok k ho))
theorem R_reads (h : d.R e w base ok v xs) : ∃ A c, v = .slice A xs.length c ∧ xs.length ≤ c ∧ d.C w A xs.length xs := by
  obtain ⟨A, c, he, hl, hr⟩ := OwnRow.reads h.2
  exact ⟨A, c, he, hl, hr.imp_ (Below.refl _ _) (fun _ _ hp => d.K_of_M hp)⟩
theorem R_slice (h : d.R e w base ok v xs) : ∃ A c, v = .slice A xs.length c := by
  obtain ⟨A, c, he, _⟩ := R_reads h
  exact ⟨A, c, he⟩
theorem R_own (h : d.R e w base ok v xs) : ∃ inner, w.ownsRow base e d.sz v xs.length inner := by
  obtain ⟨_, inner, ho, _⟩ := h
  exact ⟨inner, ho⟩
end
def scalar {α : Type} (enc : α → Value) (h1 : ∀ x, (enc x).oneCell' = true) : Kd α where
  sz := 1
  E := []
  K := fun _ x cs => cs = [enc x]
  M := fun _ _ _ x cs => cs = [enc x]
  K_len := fun h => by rw [h]; rfl
  K_one := fun h u hu => by
    rw [h] at hu
    rw [List.mem_singleton.1 hu]
    exact h1 _
  K_below := fun _ h => h
  K_of_M := fun h => h
  M_mono := fun _ h => h
  M_bound := fun h => h
  M_move := fun _ h => h
  M_lower := fun _ h => h
def int (k : IntKind) : Kd Int := scalar (Value.int k) (fun _ => rfl)
def bool : Kd Bool := scalar Value.bool (fun _ => rfl)
def string : Kd ByteArray := scalar Value.string (fun _ => rfl)
def slice {α : Type} (e : Nat) (d : Kd α) : Kd (List α) where
  sz := 1
  E := e :: d.E
  K := fun w xs cs => ∃ A c, cs = [.slice A xs.length c] ∧ xs.length ≤ c ∧ d.C w A xs.length xs
  M := fun w base ok xs cs => ∃ v, cs = [v] ∧ d.R e w base ok v xs
  K_len := by
    rintro w x cs ⟨A, c, rfl, _⟩
    rfl
  K_one := by
    rintro w x cs ⟨A, c, rfl, _⟩ u hu
    rw [List.mem_singleton.1 hu]
    rfl
  K_below := by
    rintro w w1 x cs hb ⟨A, c, rfl, hl, hr⟩
    exact ⟨A, c, rfl, hl, C_below hr hb⟩
  K_of_M := by
    rintro w base ok x cs ⟨v, rfl, h⟩
    obtain ⟨A, c, rfl, hl, hr⟩ := R_reads h
    exact ⟨A, c, rfl, hl, hr⟩
  M_mono := by
    rintro w base ok ok' x cs hok ⟨v, rfl, h⟩
    exact ⟨v, rfl, R_mono h hok⟩
  M_bound := by
    rintro w base ok x cs ⟨v, rfl, h⟩
    exact ⟨v, rfl, R_bound h⟩
  M_move := by
    rintro w w1 base ok x cs hm ⟨v, rfl, h⟩
    exact ⟨v, rfl, R_move h hm⟩
  M_lower := by
    rintro w base base' ok x cs hb ⟨v, rfl, h⟩
    exact ⟨v, rfl, R_lower h hb⟩
def pair {α β : Type} (a : Kd α) (b : Kd β) : Kd (α × β) where
  sz := a.sz + b.sz
  E := a.E ++ b.E
  K := fun w x cs => ∃ c0 c1, cs = c0 ++ c1 ∧ a.K w x.1 c0 ∧ b.K w x.2 c1
  M := fun w base ok x cs => ∃ c0 c1, cs = c0 ++ c1 ∧ a.M w base ok x.1 c0 ∧ b.M w base ok x.2 c1
  K_len := by
    rintro w x cs ⟨c0, c1, rfl, h0, h1⟩
    rw [List.length_append, a.K_len h0, b.K_len h1]
  K_one := by
    rintro w x cs ⟨c0, c1, rfl, h0, h1⟩ u hu
    rcases List.mem_append.1 hu with hu | hu
    · exact a.K_one h0 u hu
    · exact b.K_one h1 u hu
  K_below := by
    rintro w w1 x cs hb ⟨c0, c1, rfl, h0, h1⟩
    exact ⟨c0, c1, rfl, a.K_below hb h0, b.K_below hb h1⟩
  K_of_M := by
    rintro w base ok x cs ⟨c0, c1, rfl, h0, h1⟩
    exact ⟨c0, c1, rfl, a.K_of_M h0, b.K_of_M h1⟩
  M_mono := by
    rintro w base ok ok' x cs hok ⟨c0, c1, rfl, h0, h1⟩
    exact ⟨c0, c1, rfl, a.M_mono hok h0, b.M_mono hok h1⟩
  M_bound := by
    rintro w base ok x cs ⟨c0, c1, rfl, h0, h1⟩
    refine ⟨c0, c1, rfl, a.M_mono ?_ (a.M_bound h0), b.M_mono ?_ (b.M_bound h1)⟩
    · rintro k ⟨h2, h3, h4, q, hq, hc⟩
      exact ⟨h2, h3, h4, q, List.mem_append_left _ hq, hc⟩
    · rintro k ⟨h2, h3, h4, q, hq, hc⟩
      exact ⟨h2, h3, h4, q, List.mem_append_right _ hq, hc⟩
  M_move := by
    rintro w w1 base ok x cs hm ⟨c0, c1, rfl, h0, h1⟩
    exact ⟨c0, c1, rfl, a.M_move hm h0, b.M_move hm h1⟩
  M_lower := by
    rintro w base base' ok x cs hb ⟨c0, c1, rfl, h0, h1⟩
    exact ⟨c0, c1, rfl, a.M_lower hb h0, b.M_lower hb h1⟩
def iso {α β : Type} (d : Kd α) (f : β → α) : Kd β where
  sz := d.sz
  E := d.E
  K := fun w x cs => d.K w (f x) cs
  M := fun w base ok x cs => d.M w base ok (f x) cs
  K_len := d.K_len
  K_one := d.K_one
  K_below := d.K_below
  K_of_M := d.K_of_M
  M_mono := d.M_mono
  M_bound := d.M_bound
  M_move := d.M_move
  M_lower := d.M_lower
def bot {α : Type} (sz : Nat) (E : List Nat) : Kd α where
  sz := sz
  E := E
  K := fun _ _ _ => False
  M := fun _ _ _ _ _ => False
  K_len := fun h => h.elim
  K_one := fun h => h.elim
  K_below := fun _ h => h
  K_of_M := fun h => h
  M_mono := fun _ h => h
  M_bound := fun h => h
  M_move := fun _ h => h
  M_lower := fun _ h => h
def upto {α : Type} (F : Kd α → Kd α) (sz : Nat) (E : List Nat) : Nat → Kd α
  | 0 => bot sz E
  | n + 1 => F (upto F sz E n)
def fix {α : Type} (F : Kd α → Kd α) (sz : Nat) (E : List Nat) (hs : ∀ n, (upto F sz E n).sz = sz) (hE : ∀ n q, q ∈ (upto F sz E n).E → q ∈ E) : Kd α where
  sz := sz
  E := E
  K := fun w x cs => ∃ n, (upto F sz E n).K w x cs
  M := fun w base ok x cs => ∃ n, (upto F sz E n).M w base ok x cs
  K_len := by
    rintro w x cs ⟨n, h⟩
    rw [(upto F sz E n).K_len h, hs n]
  K_one := by
    rintro w x cs ⟨n, h⟩
    exact (upto F sz E n).K_one h
  K_below := by
    rintro w w1 x cs hb ⟨n, h⟩
    exact ⟨n, (upto F sz E n).K_below hb h⟩
  K_of_M := by
    rintro w base ok x cs ⟨n, h⟩
    exact ⟨n, (upto F sz E n).K_of_M h⟩
  M_mono := by
    rintro w base ok ok' x cs hok ⟨n, h⟩
    exact ⟨n, (upto F sz E n).M_mono hok h⟩
  M_bound := by
    rintro w base ok x cs ⟨n, h⟩
    refine ⟨n, (upto F sz E n).M_mono ?_ ((upto F sz E n).M_bound h)⟩
    rintro k ⟨h2, h3, h4, q, hq, hc⟩
    exact ⟨h2, h3, h4, q, hE n q hq, hc⟩
  M_move := by
    rintro w w1 base ok x cs hm ⟨n, h⟩
    exact ⟨n, (upto F sz E n).M_move hm h⟩
  M_lower := by
    rintro w base base' ok x cs hb ⟨n, h⟩
    exact ⟨n, (upto F sz E n).M_lower hb h⟩
theorem C_get {α : Type} {d : Kd α} {w : World} {A : Option Addr} {n : Nat} {xs : List α} (h : d.C w A n xs) (z : α) (i : Int) (h0 : 0 ≤ i) (h1 : i < n) :
    ∃ ad c, A = some ad ∧ c.length = d.sz ∧ d.K w (xs.getD i.toNat z) c ∧ ∀ j u, c[j]? = some u → w.cell? (ad.add (i.toNat * d.sz + j)) = some u := ReadsRow.get_ h z i h0 h1
theorem R_appended {α : Type} {d : Kd α} {e base : Nat} {ok okp : Nat → Prop} {W w1 : World} {v v1 : Value} {xs : List α} {p : α} {inner cs : List Value} (h0 : ∀ k, v.ownBlock = some k → ok k) (hr : Reps (d.M W base (fun k => ok k ∧ some k ≠ v.ownBlock)) d.sz xs inner) (hp : d.M W base okp p cs) (hokp : ∀ k, okp k → ok k ∧ some k ≠ v.ownBlock) (hfresh : ∀ k, W.heap.size ≤ k → ok k)
    (hown : w1.ownsRow base e d.sz v1 (xs.length + 1) (inner ++ cs)) (hg : W.grownBy w1 v.ownBlock) (hat : v1.ownBlock = v.ownBlock ∨ ∃ b, v1.ownBlock = some b ∧ W.heap.size ≤ b) : d.R e w1 base ok v1 (xs ++ [p]) := by
  have hne : ∀ k, some k ≠ v.ownBlock → k < W.heap.size → some k ≠ v1.ownBlock := by
    intro k hk hlt
    rcases hat with hat | ⟨b, hb, hle⟩
    · rw [hat]; exact hk
    · rw [hb]
      intro he
      injection he with he
      omega
  have step : ∀ {q : α} {c : List Value} {o : Nat → Prop}, d.M W base o q c → (∀ k, o k → ok k ∧ some k ≠ v.ownBlock) → d.M w1 base (fun k => ok k ∧ some k ≠ v1.ownBlock) q c := by
    intro q c o hq ho
    have h1 := d.M_move (w1 := w1) (fun k hk => hg.block k hk.2.2.1 (ho k hk.1).2) (d.M_bound hq)
    exact d.M_mono (fun k hk => ⟨(ho k hk.1).1, hne k (ho k hk.1).2 hk.2.2.1⟩) h1
  refine ⟨fun k hk => ?_, inner ++ cs, by rw [List.length_append, List.length_singleton]; exact hown, ?_⟩
  · rcases hat with hat | ⟨b, hb, hle⟩
    · exact h0 k (hat ▸ hk)
    · rw [hb] at hk
      injection hk with hk
      exact hfresh k (by omega)
  · exact (hr.imp_ (fun _ _ hq => step hq (fun _ hk => hk))).snoc (step hp hokp) (d.K_len (d.K_of_M hp))
section
variable {P : Program} {ops : Array Oper} {o : Oper} {a : Act} {Q : Exit → Act → World → Prop} {Kc : Act → World → Prop} {α : Type}
theorem R_append_step (d : Kd α) {w0 W : World} (base : Nat) (hw : Region.wanted o (yielded ops a.tmps) = true) (s x : Operand) (t e : TypeId) (z : Value) (bytes : Nat)
    (ho : o.op = .call { callee := .builtin .append, args := #[s, x], argTypes := #[t, t] })
    (ht : P.underlying t = some (.slice e)) (hinfo : (P.info? e).map (fun i => (i.zero, i.size, i.bytes)) = some (some z, d.sz, bytes)) (hz : z.cells.size = d.sz) (hs0 : 0 < d.sz) (hb0 : 0 < bytes)
    (v : Value) (xs : List α) (p : α) (cs : List Value) (ok okp : Nat → Prop) (hs : a.eval s = v) (hx : a.eval x = .slice (some ⟨W.heap.size, 0, none⟩) 1 1) (hp : d.M W base okp p cs) (hokp : ∀ k, okp k → ok k ∧ some k ≠ v.ownBlock) (hfresh : ∀ k, W.heap.size ≤ k → ok k)
    (HO : d.R e W base ok v xs) (HB : Below base w0 W) (hbase : base ≤ W.heap.size) (hl : (xs.length + 1) * bytes ≤ 140737488355328)
    (h : ∀ v1 w1, d.R e w1 base ok v1 (xs ++ [p]) → Below base w0 w1 → W.grownBy w1 v.ownBlock → (v1.ownBlock = v.ownBlock ∨ ∃ b, v1.ownBlock = some b ∧ W.heap.size ≤ b) → Kc (a.put o.dst v1) w1) :
    if Region.wanted o (yielded ops a.tmps) = true then Oper.wp P o a (W.alloc (.cells cs.toArray e)) Kc Q else Kc (a.put o.dst undef) (W.alloc (.cells cs.toArray e)) := by
  obtain ⟨h0, inner, hown, hr⟩ := HO
  refine step_append_cells base hw s x t e z d.sz bytes ho ht hinfo hz hs0 hb0 v xs.length inner cs hs hx (d.K_len (d.K_of_M hp)) (d.K_one (d.K_of_M hp)) hown HB hbase hl ?_
  intro v1 w1 hown1 hb1 hg1 hat1
  exact h v1 w1 (R_appended h0 hr hp hokp hfresh hown1 hg1 hat1) hb1 hg1 hat1
end
theorem reads_of_C {α : Type} {enc : α → Value} {d : α} {h1 : ∀ x, (enc x).oneCell' = true} {w : World} {A : Option Addr} {n : Nat} {xs : List α} (h : (scalar enc h1).C w A n xs) : ReadsOf enc d w A n xs := by
  refine ⟨h.1, h.2.1, fun hn => ?_⟩
  obtain ⟨ad, e, hc⟩ := h.2.2 hn
  refine ⟨ad, e, fun j hj => ?_⟩
  have hl : j < xs.length := by have := h.1; omega
  obtain ⟨c, _, hK, hcell⟩ := hc j _ (List.getElem?_eq_getElem hl)
  have hK' : c = [enc xs[j]] := hK
  subst hK'
  have := hcell 0 _ rfl
  simpa [scalar, List.getD_eq_getElem?_getD, List.getElem?_eq_getElem hl] using this
end Kd
namespace Kd
structure Mono {α β : Type} (F : Kd α → Kd β) : Prop where
  sz : ∀ d d' : Kd α, d.sz = d'.sz → (F d).sz = (F d').sz
  K : ∀ d d' : Kd α, d.sz = d'.sz → (∀ w x cs, d.K w x cs → d'.K w x cs) → ∀ w x cs, (F d).K w x cs → (F d').K w x cs
  M : ∀ d d' : Kd α, d.sz = d'.sz → (∀ w base ok x cs, d.M w base ok x cs → d'.M w base ok x cs) → ∀ w base ok x cs, (F d).M w base ok x cs → (F d').M w base ok x cs
theorem mono_const {α β : Type} (k : Kd β) : Mono (fun _ : Kd α => k) := ⟨fun _ _ _ => rfl, fun _ _ _ _ _ _ _ h => h, fun _ _ _ _ _ _ _ _ _ h => h⟩
theorem mono_id {α : Type} : Mono (fun d : Kd α => d) := ⟨fun _ _ h => h, fun _ _ _ h => h, fun _ _ _ h => h⟩
theorem C_imp {α : Type} {d d' : Kd α} (hs : d.sz = d'.sz) (h : ∀ w x cs, d.K w x cs → d'.K w x cs) {w : World} {A : Option Addr} {n : Nat} {xs : List α} (hc : d.C w A n xs) : d'.C w A n xs := by
  unfold C at hc ⊢
  rw [← hs]
  exact hc.imp_ (Below.refl _ _) (fun _ _ hp => h _ _ _ hp)
theorem R_imp {α : Type} {d d' : Kd α} (hs : d.sz = d'.sz) (h : ∀ w base ok x cs, d.M w base ok x cs → d'.M w base ok x cs) {e : Nat} {w : World} {base : Nat} {ok : Nat → Prop} {v : Value} {xs : List α} (hr : d.R e w base ok v xs) : d'.R e w base ok v xs := by
  unfold R at hr ⊢
  rw [← hs]
  exact ⟨hr.1, hr.2.imp_ (fun _ _ hp => h _ _ _ _ _ hp)⟩
theorem mono_slice {α β : Type} (e : Nat) {G : Kd α → Kd β} (hG : Mono G) : Mono (fun d => slice e (G d)) := by
  refine ⟨fun _ _ _ => rfl, ?_, ?_⟩
  · rintro d d' hs h w x cs ⟨A, c, rfl, hl, hr⟩
    exact ⟨A, c, rfl, hl, C_imp (hG.sz d d' hs) (hG.K d d' hs h) hr⟩
  · rintro d d' hs h w base ok x cs ⟨v, rfl, hr⟩
    exact ⟨v, rfl, R_imp (hG.sz d d' hs) (hG.M d d' hs h) hr⟩
theorem mono_pair {α β γ : Type} {G : Kd α → Kd β} {H : Kd α → Kd γ} (hG : Mono G) (hH : Mono H) : Mono (fun d => pair (G d) (H d)) := by
  refine ⟨fun d d' hs => ?_, ?_, ?_⟩
  · show (G d).sz + (H d).sz = (G d').sz + (H d').sz
    rw [hG.sz d d' hs, hH.sz d d' hs]
  · rintro d d' hs h w x cs ⟨c0, c1, rfl, h0, h1⟩
    exact ⟨c0, c1, rfl, hG.K d d' hs h _ _ _ h0, hH.K d d' hs h _ _ _ h1⟩
  · rintro d d' hs h w base ok x cs ⟨c0, c1, rfl, h0, h1⟩
    exact ⟨c0, c1, rfl, hG.M d d' hs h _ _ _ _ _ h0, hH.M d d' hs h _ _ _ _ _ h1⟩
theorem mono_iso {α β γ : Type} {G : Kd α → Kd β} (f : γ → β) (hG : Mono G) : Mono (fun d => iso (G d) f) :=
  ⟨hG.sz, fun d d' hs h w x cs => hG.K d d' hs h w (f x) cs, fun d d' hs h w base ok x cs => hG.M d d' hs h w base ok (f x) cs⟩
def Sub {α β : Type} (F : Kd α → Kd β) (E : List Nat) : Prop := ∀ d : Kd α, (∀ q, q ∈ d.E → q ∈ E) → ∀ q, q ∈ (F d).E → q ∈ E
theorem sub_const {α β : Type} {E : List Nat} (k : Kd β) (h : ∀ q, q ∈ k.E → q ∈ E) : Sub (fun _ : Kd α => k) E := fun _ _ => h
theorem sub_id {α : Type} {E : List Nat} : Sub (fun d : Kd α => d) E := fun _ h => h
theorem sub_slice {α β : Type} {E : List Nat} (e : Nat) {G : Kd α → Kd β} (he : e ∈ E) (hG : Sub G E) : Sub (fun d => slice e (G d)) E := fun d h q hq => by
  rcases List.mem_cons.1 hq with rfl | hq
  · exact he
  · exact hG d h q hq
theorem sub_pair {α β γ : Type} {E : List Nat} {G : Kd α → Kd β} {H : Kd α → Kd γ} (hG : Sub G E) (hH : Sub H E) : Sub (fun d => pair (G d) (H d)) E := fun d h q hq => by
  rcases List.mem_append.1 hq with hq | hq
  · exact hG d h q hq
  · exact hH d h q hq
theorem sub_iso {α β γ : Type} {E : List Nat} {G : Kd α → Kd β} (f : γ → β) (hG : Sub G E) : Sub (fun d => iso (G d) f) E := hG
theorem upto_E {α : Type} {F : Kd α → Kd α} {sz : Nat} {E : List Nat} (h : Sub F E) : ∀ n q, q ∈ (upto F sz E n).E → q ∈ E
  | 0, _, hq => hq
  | n + 1, q, hq => h _ (upto_E h n) q hq
theorem upto_sz {α : Type} {F : Kd α → Kd α} {sz : Nat} {E : List Nat} (h : ∀ d : Kd α, (F d).sz = sz) : ∀ n, (upto F sz E n).sz = sz
  | 0 => rfl
  | _ + 1 => h _
section
variable {α : Type} {F : Kd α → Kd α} {sz : Nat} {E : List Nat} {hs : ∀ n, (upto F sz E n).sz = sz} {hE : ∀ n q, q ∈ (upto F sz E n).E → q ∈ E}
theorem upto_K (hm : Mono F) (hs : ∀ n, (upto F sz E n).sz = sz) : ∀ n {w x cs}, (upto F sz E n).K w x cs → (upto F sz E (n + 1)).K w x cs
  | 0, _, _, _, h => h.elim
  | n + 1, _, _, _, h => hm.K _ _ (by rw [hs n, hs (n + 1)]) (fun _ _ _ hk => upto_K hm hs n hk) _ _ _ h
theorem upto_K_le (hm : Mono F) (hs : ∀ n, (upto F sz E n).sz = sz) {n m : Nat} (hnm : n ≤ m) {w x cs} (h : (upto F sz E n).K w x cs) : (upto F sz E m).K w x cs := by
  obtain ⟨j, rfl⟩ := Nat.exists_eq_add_of_le hnm
  induction j with
  | zero => exact h
  | succ j ih => exact upto_K hm hs _ (ih (by omega))
theorem fix_C {n : Nat} {w : World} {A : Option Addr} {m : Nat} {xs : List α} (h : (upto F sz E n).C w A m xs) : (fix F sz E hs hE).C w A m xs := C_imp (d' := fix F sz E hs hE) (hs n) (fun w x cs hp => (⟨n, hp⟩ : ∃ n, (upto F sz E n).K w x cs)) h
theorem bounded {P : Nat → Nat → Prop} (hP : ∀ n m j, n ≤ m → P n j → P m j) : ∀ m, (∀ j, j < m → ∃ n, P n j) → ∃ N, ∀ j, j < m → P N j
  | 0, _ => ⟨0, fun j hj => absurd hj (Nat.not_lt_zero j)⟩
  | m + 1, h => by
    obtain ⟨N, hN⟩ := bounded hP m (fun j hj => h j (by omega))
    obtain ⟨n, hn⟩ := h m (by omega)
    refine ⟨max N n, fun j hj => ?_⟩
    rcases Nat.lt_or_ge j m with hj' | hj'
    · exact hP N _ j (Nat.le_max_left _ _) (hN j hj')
    · have : j = m := by omega
      subst this
      exact hP n _ j (Nat.le_max_right _ _) hn
theorem fix_C_back (hm : Mono F) {w : World} {A : Option Addr} {m : Nat} {xs : List α} (h : (fix F sz E hs hE).C w A m xs) : ∃ n, (upto F sz E n).C w A m xs := by
  rcases Nat.eq_zero_or_pos m with hz | hpos
  · subst hz
    exact ⟨0, h.1, h.2.1, fun hp => absurd hp (Nat.lt_irrefl 0)⟩
  · obtain ⟨ad, e, hc⟩ := h.2.2 hpos
    obtain ⟨N, hN⟩ := bounded (P := fun n j => ∀ p, xs[j]? = some p → ∃ c, c.length = sz ∧ (upto F sz E n).K w p c ∧ ∀ i u, c[i]? = some u → w.cell? (ad.add (j * sz + i)) = some u)
      (fun n n' j hnm hp p hj => by
        obtain ⟨c, h1, h2, h3⟩ := hp p hj
        exact ⟨c, h1, upto_K_le hm hs hnm h2, h3⟩) xs.length
      (fun j hj => by
        obtain ⟨c, h1, ⟨n, h2⟩, h3⟩ := hc j _ (List.getElem?_eq_getElem hj)
        refine ⟨n, fun p hp => ?_⟩
        rw [List.getElem?_eq_getElem hj] at hp
        injection hp with hp
        rw [← hp]
        exact ⟨c, h1, h2, h3⟩)
    refine ⟨N, h.1, h.2.1, fun _ => ⟨ad, e, fun j p hj => ?_⟩⟩
    rw [hs N]
    exact hN j (List.getElem?_eq_some_iff.1 hj).1 p hj
end
end Kd
namespace Kd
end Kd
namespace Kd
section
variable {α β : Type} {d : Kd α} {d' : Kd β} {e e' : Nat} {w w1 W : World} {base b b' : Nat} {ok ok' okv oku : Nat → Prop} {v u : Value} {xs : List α} {ys : List β}
theorem R_alloc (h : d.R e w base ok v xs) (o : Obj) : d.R e (w.alloc o) base ok v xs := R_below h (below_alloc (Below.refl _ _) o)
theorem R_drew (h : d.R e w base ok v xs) : d.R e w.drew base ok v xs := R_below h (below_drew (Below.refl _ _))
theorem R_drewN (h : d.R e w base ok v xs) (m : Nat) : d.R e (w.drewN m) base ok v xs := R_below h (pw_below_drewN (Below.refl _ _) m)
theorem C_nil (d : Kd α) (w : World) : d.C w none ([] : List α).length [] := ⟨rfl, by simp, fun h => absurd h (Nat.lt_irrefl 0)⟩
theorem C_len {A : Option Addr} {n : Nat} (h : d.C w A n xs) : xs.length = n := h.1
theorem C_max {A : Option Addr} {n : Nat} (h : d.C w A n xs) : n ≤ 9223372036854775807 := h.2.1
theorem R_lt (h : d.R e w base ok v xs) : ∀ k, v.ownBlock = some k → k < w.heap.size := by
  obtain ⟨inner, ho⟩ := R_own h
  exact own_lt ho
end
section
variable {w W : World} {A : Option Addr} {n : Nat}
theorem at_int {k : IntKind} {xs : List Int} (h : (Kd.int k).C w A n xs) (i : Int) (h0 : 0 ≤ i) (h1 : i < n) : ∃ ad, A = some ad ∧ w.cell? (ad.add i.toNat) = some (.int k (rd xs i)) :=
  ReadsOf.at_ (reads_of_C (enc := Value.int k) (d := (0 : Int)) (h1 := fun _ => rfl) h) i h0 h1
variable {α : Type} {enc : α → Value} {h1 : ∀ x, (enc x).oneCell' = true} {e base g cap : Nat} {ok : Nat → Prop} {xs : List α}
end
end Kd
def QRow (w : World) (base : Nat) (e : TypeId) (size : Nat) (v : Value) (n : Nat) (xs : List Value) : Prop :=
  xs.length = n * size ∧
  ((n = 0 ∧ ∃ A, v = .slice A 0 0 ∧ ∀ a, A = some a → base ≤ a.block ∧ ∃ cur, w.heap[a.block]? = some (.cells cur e (0, 0))) ∨
   ∃ g off cap cur, v = .slice (some ⟨g, off * size, none⟩) n cap ∧ base ≤ g ∧ w.heap[g]? = some (.cells cur e (0, 0)) ∧ n ≤ cap ∧ off + cap ≤ maxLen ∧ cur.size = (off + cap) * size ∧ (cur.toList.drop (off * size)).take (n * size) = xs)
namespace Kd
def Q {α : Type} (d : Kd α) (e : Nat) (w : World) (base : Nat) (ok : Nat → Prop) (v : Value) (xs : List α) : Prop :=
  (∀ k, v.ownBlock = some k → ok k) ∧ ∃ inner, QRow w base e d.sz v xs.length inner ∧ Reps (d.M w base (fun k => ok k ∧ some k ≠ v.ownBlock)) d.sz xs inner
end Kd
namespace Kd
end Kd
namespace Kd
end Kd
namespace Kd
def fixed {α : Type} (d : Kd α) (w0 : World) : Kd α where
  sz := d.sz
  E := []
  K := fun _ x cs => d.K w0 x cs
  M := fun _ _ _ x cs => d.K w0 x cs
  K_len := d.K_len
  K_one := d.K_one
  K_below := fun _ h => h
  K_of_M := fun h => h
  M_mono := fun _ h => h
  M_bound := fun h => h
  M_move := fun _ h => h
  M_lower := fun _ h => h
end Kd
namespace Kd
theorem reps_append {α : Type} {R : α → List Value → Prop} {size : Nat} {ps qs : List α} {cs ds : List Value} (h : Reps R size ps cs) (h' : Reps R size qs ds) : Reps R size (ps ++ qs) (cs ++ ds) := by
  refine ⟨by rw [List.length_append, List.length_append, h.1, h'.1, Nat.add_mul], fun j p hj => ?_⟩
  rcases Nat.lt_or_ge j ps.length with hlt | hge
  · rw [List.getElem?_append_left hlt] at hj
    have hle : j * size + size ≤ cs.length := by rw [h.1, ← Nat.succ_mul]; exact Nat.mul_le_mul_right _ hlt
    rw [List.drop_append_of_le_length (by omega), List.take_append_of_le_length (by rw [List.length_drop]; omega)]
    exact h.2 j p hj
  · rw [List.getElem?_append_right hge] at hj
    have h2 := h'.2 (j - ps.length) p hj
    have hle : ps.length * size ≤ j * size := Nat.mul_le_mul_right _ hge
    rw [List.drop_append, List.drop_eq_nil_of_le (by rw [h.1]; exact hle), List.nil_append, h.1, ← Nat.sub_mul]
    exact h2
section
variable {P : Program} {ops : Array Oper} {rest : List Oper} {o : Oper} {a : Act} {Q : Exit → Act → World → Prop} {α : Type}
theorem R_append_rows (d : Kd α) {Rr : α → List Value → Prop} {w0 W : World} (base : Nat) (hgd : o.guard = none) (s x : Operand) (t e : TypeId) (z : Value) (bytes : Nat)
    (ho : o.op = .call { callee := .builtin .append, args := #[s, x], argTypes := #[t, t] })
    (ht : P.underlying t = some (.slice e)) (hinfo : (P.info? e).map (fun i => (i.zero, i.size, i.bytes)) = some (some z, d.sz, bytes)) (hz : z.cells.size = d.sz) (hs0 : 0 < d.sz) (hb0 : 0 < bytes)
    (v : Value) (xs ys : List α) (A : Option Addr) (m c : Nat) (ok okp : Nat → Prop) (hs : a.eval s = v) (hx : a.eval x = .slice A m c)
    (HO : d.R e W base ok v xs) (HR : ReadsRow Rr d.sz W A m ys) (hKM : ∀ x cs, Rr x cs → d.M W base okp x cs) (hokp : ∀ k, okp k → ok k ∧ some k ≠ v.ownBlock) (hfresh : ∀ k, W.heap.size ≤ k → ok k)
    (HB : Below base w0 W) (hbase : base ≤ W.heap.size) (hl : (xs.length + m) * bytes ≤ 140737488355328)
    (h : ∀ v1 w1, d.R e w1 base ok v1 (xs ++ ys) → Below base w0 w1 → W.grownBy w1 v.ownBlock → (v1.ownBlock = v.ownBlock ∨ ∃ b, v1.ownBlock = some b ∧ W.heap.size ≤ b) → wpList P ops Q rest (a.put o.dst v1) w1) :
    wpList P ops Q (o :: rest) a W := by
  obtain ⟨i0, hi, hzz⟩ := Option.map_eq_some_iff.1 hinfo
  simp only [Prod.mk.injEq] at hzz
  obtain ⟨hz0, hz1, hz2⟩ := hzz
  have hm : ys.length = m := HR.1
  have hlen : xs.length + m ≤ 140737488355328 := Nat.le_trans (Nat.le_mul_of_pos_right _ hb0) hl
  obtain ⟨hok, inner, hown, hr⟩ := HO
  have hrun : ∃ v1 w1, (Builtin.append_ #[t, t] o.type #[v, .slice A m c]).run P W = .ok v1 w1 ∧ d.R e w1 base ok v1 (xs ++ ys) ∧ W.grownBy w1 v.ownBlock ∧ (v1.ownBlock = v.ownBlock ∨ ∃ b, v1.ownBlock = some b ∧ W.heap.size ≤ b) := by
    rcases A with _ | ad
    · have h0 : m = 0 := by
        rcases Nat.eq_zero_or_pos m with h0 | h0
        · exact h0
        · obtain ⟨ad, h, _⟩ := HR.2.2 h0
          cases h
      subst h0
      obtain rfl : ys = [] := List.eq_nil_of_length_eq_zero hm
      refine ⟨v, W, ?_, by rw [List.append_nil]; exact ⟨hok, inner, hown, hr⟩, World.grownBy.refl W _, .inl rfl⟩
      rcases hown.2 with ⟨rfl, hn⟩ | ⟨g, cap, cur, rfl, _, _, hnc, _⟩
      · simp [Builtin.append_, run_underlying ht, sizeOf, typeInfo, hi, Builtin.lenOf, Builtin.firstCells]
      · simp [Builtin.append_, run_underlying ht, sizeOf, typeInfo, hi, Builtin.lenOf, Builtin.firstCells, hnc, storeCells]
    · obtain ⟨news, hnr, hnc⟩ := ReadsRow.inner_ HR
      have hnM : Reps (d.M W base okp) d.sz ys news := hnr.imp_ (fun p c hp => hKM p c hp)
      have hone : ∀ u ∈ news, u.oneCell' = true := by
        intro u hu
        obtain ⟨q, hq, rfl⟩ := List.mem_iff_getElem.1 hu
        have hql : q / d.sz < ys.length := by
          rw [Nat.div_lt_iff_lt_mul hs0]
          rw [← hnM.1]
          exact hq
        have hc := hnM.2 (q / d.sz) _ (List.getElem?_eq_getElem hql)
        refine d.K_one (d.K_of_M hc) _ ?_
        rw [List.mem_iff_getElem?]
        refine ⟨q % d.sz, ?_⟩
        rw [List.getElem?_take, if_pos (Nat.mod_lt _ hs0), List.getElem?_drop, Nat.mul_comm, Nat.div_add_mod, List.getElem?_eq_getElem hq]
      obtain ⟨v1, w1, hrun, h2, hg, _, hat⟩ := run_append_own_at (P := P) W base t o.type e i0 z d.sz bytes ht hi hz0 hz1 hz2 hz hs0 v xs.length inner hown ad m c news (by rw [hnM.1, hm]) hnc hone (by simp only [maxLen]; omega) hl hbase
      have hat' : v1.ownBlock = v.ownBlock ∨ ∃ b, v1.ownBlock = some b ∧ W.heap.size ≤ b := by
        rcases hat with hat | hat
        · exact .inl hat
        · exact .inr ⟨_, hat, Nat.le_refl _⟩
      have hne : ∀ k, some k ≠ v.ownBlock → k < W.heap.size → some k ≠ v1.ownBlock := by
        intro k hk hlt
        rcases hat' with hat | ⟨b, hb, hle⟩
        · rw [hat]; exact hk
        · rw [hb]
          intro he
          injection he with he
          omega
      have step : ∀ {q : α} {c : List Value} {o : Nat → Prop}, d.M W base o q c → (∀ k, o k → ok k ∧ some k ≠ v.ownBlock) → d.M w1 base (fun k => ok k ∧ some k ≠ v1.ownBlock) q c := by
        intro q c o hq ho
        have h1 := d.M_move (w1 := w1) (fun k hk => hg.block k hk.2.2.1 (ho k hk.1).2) (d.M_bound hq)
        exact d.M_mono (fun k hk => ⟨(ho k hk.1).1, hne k (ho k hk.1).2 hk.2.2.1⟩) h1
      refine ⟨v1, w1, hrun, ⟨fun k hk => ?_, inner ++ news, by rw [List.length_append, hm]; exact h2, reps_append (hr.imp_ (fun _ _ hq => step hq (fun _ hk => hk))) (hnM.imp_ (fun _ _ hq => step hq hokp))⟩, hg, hat'⟩
      rcases hat' with hat | ⟨b, hb, hle⟩
      · exact hok k (hat ▸ hk)
      · rw [hb] at hk
        injection hk with hk
        exact hfresh k (by omega)
  obtain ⟨v1, w1, hr1, h1, hg, hat⟩ := hrun
  refine wpList_plain hgd fun K hK => ?_
  unfold Oper.wp execOp
  simp only [ho, resolve, invoke, builtin, Sem.run_bind, Sem.run_pure, Result.andThen_ok, List.map_toArray, List.map_cons, List.map_nil, hs, hx, hr1]
  exact hK _ _ (h v1 w1 h1 (HB.grown hg hbase (own_base hown)) hg hat)
end
end Kd
namespace Kd
end Kd
theorem add_add (a : Addr) (i j : Nat) : (a.add i).add j = a.add (i + j) := by
  unfold Addr.add
  by_cases h1 : i = 0 <;> by_cases h2 : j = 0 <;> simp [h1, h2, Nat.add_assoc]
namespace Kd
end Kd
theorem below_step {w W w2 : World} (h : Below w.heap.size w W) (k : Below W.heap.size W w2) : Below w.heap.size w w2 := below_then h h.size k
theorem ReadsInt.nil (W : World) (k : IntKind) : ReadsInt W k none ([] : List Int).length [] := ⟨rfl, by simp, fun h => absurd h (Nat.lt_irrefl 0)⟩
theorem ReadsInt.drewN {W : World} {k : IntKind} {A : Option Addr} {n : Nat} {xs : List Int} (h : ReadsInt W k A n xs) (m : Nat) : ReadsInt (W.drewN m) k A n xs := h
theorem keep_cell {w W : World} {g : Nat} (h : KeepBut w W g none) {a : Addr} {v : Value} (hc : w.cell? a = some v) (hne : a.block ≠ g) : W.cell? a = some v := by
  have := h.2 a.block (World.block_lt_of_cell? w a hc) hne (by simp)
  simpa [World.cell?, this] using hc
theorem add_block (a : Addr) (i : Nat) : (a.add i).block = a.block := by unfold Addr.add; split <;> rfl
theorem ReadsOf.nil {α : Type} (enc : α → Value) (d : α) (W : World) : ReadsOf enc d W none ([] : List α).length [] := ⟨rfl, by simp, fun h => absurd h (Nat.lt_irrefl 0)⟩
theorem ReadsOf.drewN {α : Type} {enc : α → Value} {d : α} {W : World} {A : Option Addr} {n : Nat} {xs : List α} (h : ReadsOf enc d W A n xs) (m : Nat) : ReadsOf enc d (W.drewN m) A n xs := h
theorem ReadsInt.keep {w W : World} {k : IntKind} {A : Option Addr} {n g : Nat} {xs : List Int} (h : ReadsInt w k A n xs) (hk : KeepBut w W g none) (hf : ∀ ad, A = some ad → 0 < n → ad.block ≠ g) : ReadsInt W k A n xs :=
  ⟨h.1, h.2.1, fun hn => by
    obtain ⟨ad, e, hc⟩ := h.2.2 hn
    exact ⟨ad, e, fun j hj => keep_cell hk (hc j hj) (by rw [add_block]; exact hf ad e hn)⟩⟩
theorem ReadsOf.keep {α : Type} {enc : α → Value} {d : α} {w W : World} {A : Option Addr} {n g : Nat} {xs : List α} (h : ReadsOf enc d w A n xs) (hk : KeepBut w W g none) (hf : ∀ ad, A = some ad → 0 < n → ad.block ≠ g) : ReadsOf enc d W A n xs :=
  ⟨h.1, h.2.1, fun hn => by
    obtain ⟨ad, e, hc⟩ := h.2.2 hn
    exact ⟨ad, e, fun j hj => keep_cell hk (hc j hj) (by rw [add_block]; exact hf ad e hn)⟩⟩
theorem below_drew1 {base : Nat} {w W : World} (h : Below base w W) : Below base w W.drew := h.drew
namespace Kd
end Kd
namespace Kd
end Kd
namespace Kd
end Kd
namespace Kd
end Kd
section
variable {P : Program} {ops : Array Oper} {o : Oper} {a : Act} {Q : Exit → Act → World → Prop} {Kc : Act → World → Prop}
namespace Kd
variable {α : Type}
end Kd
end
namespace Kd
end Kd
end Go.Proofs.YtbfkkepdeepdeaaGreatDoorW.PrintWords
end
section
namespace Go.Proofs.YtbfkkepdeepdeaaGreatDoorW.PrintLast
section
variable {P : Program} {ops : Array Oper} {Q : Exit → Act → World → Prop} {md : Region.Mode} {S : World → Prop} {ds : List Nat}
def Region.reachB (md : Region.Mode) (ops : Array Oper) (i : Nat) : Nat → Nat → Bool
  | 0, _ => false
  | fuel + 1, d => match ops[d]? with
    | some o => o.after.any fun e => Region.binds md e && (e.on == i || Region.reachB md ops i fuel e.on)
    | none => false
def Region.closedB (md : Region.Mode) (ops : Array Oper) (listed : Array Bool) : Bool :=
  (List.range ops.size).all fun j => !listed.getD j false || match ops[j]? with
    | some o => o.after.all fun e => !Region.binds md e || listed.getD e.on false
    | none => true
def Region.lastB (md : Region.Mode) (ops : Array Oper) (listed : Array Bool) (ds : List Nat) (i : Nat) : Bool :=
  ds.all fun d => listed.getD d true || Region.reachB md ops i ops.size d
def ListedClosed (md : Region.Mode) (ops : Array Oper) (listed : Array Bool) : Prop :=
  ∀ j oj, ops[j]? = some oj → listed.getD j false = true → ∀ e ∈ oj.after, Region.binds md e = true → listed.getD e.on false = true
theorem Region.closedB_spec {listed : Array Bool} (h : Region.closedB md ops listed = true) : ListedClosed md ops listed := by
  intro j oj hj hl e he hb
  have hlt : j < ops.size := (Array.getElem?_eq_some_iff.1 hj).1
  have h1 := List.all_eq_true.1 h j (List.mem_range.2 hlt)
  simp only [hl, hj, Bool.not_true, Bool.false_or] at h1
  have h2 := Array.all_eq_true_iff_forall_mem.1 h1 e he
  simpa [hb] using h2
theorem ListedClosed.set {listed : Array Bool} {i : Nat} (h : ListedClosed md ops listed) (hi : i ∈ Region.ready md ops listed) : ListedClosed md ops (listed.setIfInBounds i true) := by
  obtain ⟨_, oi, hoi, hall⟩ := mem_ready.1 hi
  intro j oj hj hl e he hb
  by_cases hij : i = j
  · subst hij
    have : oj = oi := Option.some.inj (hj.symm.trans hoi)
    subst this
    exact getD_set_true (hall e he hb)
  · rw [getD_set_ne false hij] at hl
    exact getD_set_true (h j oj hj hl e he hb)
theorem Region.reach_listed {listed : Array Bool} {i : Nat} (hc : ListedClosed md ops listed) : ∀ (fuel d : Nat), Region.reachB md ops i fuel d = true → listed.getD d false = true → listed.getD i false = true
  | 0, _, h, _ => by simp [Region.reachB] at h
  | fuel + 1, d, h, hl => by
    unfold Region.reachB at h
    cases ho : ops[d]? with
    | none => rw [ho] at h; simp at h
    | some o =>
      rw [ho] at h
      obtain ⟨e, he, h1⟩ := Array.any_eq_true'.1 h
      simp only [Bool.and_eq_true, Bool.or_eq_true, beq_iff_eq] at h1
      have hle := hc d o ho hl e he h1.1
      rcases h1.2 with h2 | h2
      · rw [← h2]; exact hle
      · exact Region.reach_listed hc fuel e.on h2 hle
theorem Region.reach_not_ready {listed : Array Bool} {i d fuel : Nat} (hc : ListedClosed md ops listed) (hr : Region.reachB md ops i fuel d = true) (hun : listed.getD i true = false) : d ∉ Region.ready md ops listed := by
  intro hd
  obtain ⟨_, o, ho, hall⟩ := mem_ready.1 hd
  have hi : listed.getD i false = true := by
    cases fuel with
    | zero => simp [Region.reachB] at hr
    | succ n =>
      unfold Region.reachB at hr
      rw [ho] at hr
      obtain ⟨e, he, h1⟩ := Array.any_eq_true'.1 hr
      simp only [Bool.and_eq_true, Bool.or_eq_true, beq_iff_eq] at h1
      have hle := hall e he h1.1
      rcases h1.2 with h2 | h2
      · rw [← h2]; exact hle
      · exact Region.reach_listed hc n e.on h2 hle
  rcases Nat.lt_or_ge i listed.size with h' | h'
  · simp [h'] at hun hi
    rw [hun] at hi
    cases hi
  · simp [Array.getElem?_eq_none h'] at hun
def wpAnyLast (P : Program) (md : Region.Mode) (ops : Array Oper) (Q : Exit → Act → World → Prop) (S : World → Prop) (ds : List Nat) : Nat → Array Bool → Act → World → Prop
  | 0, listed, a, w => Region.ready md ops listed = [] ∧ Q .normal a w
  | fuel + 1, listed, a, w =>
    (Region.ready md ops listed = [] → Q .normal a w) ∧
    ∀ i ∈ Region.ready md ops listed, wpOp P ops Q i (fun a' w' => (i ∉ ds → S w → S w') ∧ wpAnyLast P md ops Q S ds fuel (listed.setIfInBounds i true) a' w') a w
theorem wpAny_of_last : ∀ (fuel : Nat) (listed : Array Bool) (a : Act) (w : World), wpAnyLast P md ops Q S ds fuel listed a w → wpAny P md ops Q fuel listed a w
  | 0, _, _, _, h => h
  | fuel + 1, _, _, _, h => ⟨h.1, fun i hi => wpOp_mono (fun a' w' h' => wpAny_of_last fuel _ a' w' h'.2) (h.2 i hi)⟩
theorem wpAnyLast_first {i : Nat} {oi : Oper} {v : Value} (hi : ops[i]? = some oi) (hsel : ∀ (j : Nat) (o : Oper) cs b, ops[j]? = some o → o.op ≠ .select cs b)
    (hQ : ∀ c a w, Q (.panic c) (a.put oi.dst v) w → Q (.panic c) a w) (n : Nat) :
    ∀ (fuel : Nat) (listed : Array Bool) (a : Act) (w : World),
      (∀ j oj, ops[j]? = some oj → j ≠ i → listed.getD j true = false → (∀ e ∈ oj.after, Region.binds md e = true → e.on ≠ i) → oi.apart ops oj = true) →
      ListedClosed md ops listed → (∀ d ∈ ds, listed.getD d true = false → Region.reachB md ops i n d = true) →
      i ∈ Region.ready md ops listed → YieldsIf P ops S oi v a → S w →
      wpAnyLast P md ops Q S ds fuel (listed.setIfInBounds i true) (a.put oi.dst v) w → wpAnyLast P md ops Q S ds (fuel + 1) listed a w := by
  intro fuel
  induction fuel with
  | zero =>
    intro listed a w _ _ _ hr hy hS H
    refine ⟨fun h => (by rw [h] at hr; cases hr), fun j hj => ?_⟩
    by_cases hji : j = i
    · subst hji; exact hy.wpOp hi hS ⟨fun _ h => h, H⟩
    · have := ready_mono hj hji
      rw [H.1] at this
      cases this
  | succ fuel ih =>
    intro listed a w hfree hc hd hr hy hS H
    refine ⟨fun h => (by rw [h] at hr; cases hr), fun j hj => ?_⟩
    by_cases hji : j = i
    · subst hji; exact hy.wpOp hi hS ⟨fun _ h => h, H⟩
    · have h1 := H.2 j (ready_mono hj hji)
      obtain ⟨hjun, oj, hoj, hall⟩ := mem_ready.1 hj
      have hiun := (mem_ready.1 hr).1
      have hnot : ∀ e ∈ oj.after, Region.binds md e = true → e.on ≠ i := fun e he hb heq => by
        have h1 := hall e he hb
        rw [heq] at h1
        rcases Nat.lt_or_ge i listed.size with h' | h'
        · simp [h'] at hiun h1; rw [hiun] at h1; cases h1
        · simp [Array.getElem?_eq_none h'] at h1
      have hjd : j ∉ ds := fun hm => Region.reach_not_ready hc (hd j hm hjun) hiun hj
      have h2 := wpOp_putIf hoj (hfree j oj hoj hji hjun hnot) (fun cs b => hsel i oi cs b hi) (fun cs b => hsel j oj cs b hoj) hQ hy h1
      have hfree' : ∀ k ok, ops[k]? = some ok → k ≠ i → (listed.setIfInBounds j true).getD k true = false →
          (∀ e ∈ ok.after, Region.binds md e = true → e.on ≠ i) → oi.apart ops ok = true := fun k ok hk hki hun hno => by
        refine hfree k ok hk hki ?_ hno
        by_cases hjk : j = k
        · subst hjk; exact hjun
        · rw [getD_set_ne true hjk] at hun; exact hun
      have hd' : ∀ d ∈ ds, (listed.setIfInBounds j true).getD d true = false → Region.reachB md ops i n d = true := fun d hm hun => by
        refine hd d hm ?_
        by_cases hjk : j = d
        · subst hjk; exact hjun
        · rw [getD_set_ne true hjk] at hun; exact hun
      refine wpOp_mono (fun a' w' h3 => ⟨h3.2.1, ih (listed.setIfInBounds j true) a' w' hfree' (hc.set hj) hd' (ready_mono hr (Ne.symm hji)) h3.1 (h3.2.1 hjd hS) ?_⟩) h2
      rw [Array.setIfInBounds_comm _ _ hji]
      exact h3.2.2
theorem wpAnyLast_any {i : Nat} {oi : Oper} {v : Value} (hi : ops[i]? = some oi) (hsel : ∀ (j : Nat) (o : Oper) cs b, ops[j]? = some o → o.op ≠ .select cs b)
    (hQ : ∀ c a w, Q (.panic c) (a.put oi.dst v) w → Q (.panic c) a w) :
    ∀ (fuel : Nat) (listed : Array Bool) (a : Act) (w : World),
      (∀ j oj, ops[j]? = some oj → j ≠ i → listed.getD j true = false → (∀ e ∈ oj.after, Region.binds md e = true → e.on ≠ i) → oi.apart ops oj = true) →
      i ∈ Region.ready md ops listed → Yields P ops oi v a →
      wpAnyLast P md ops Q S ds fuel (listed.setIfInBounds i true) (a.put oi.dst v) w → wpAnyLast P md ops Q S ds (fuel + 1) listed a w := by
  intro fuel
  induction fuel with
  | zero =>
    intro listed a w _ hr hy H
    refine ⟨fun h => (by rw [h] at hr; cases hr), fun j hj => ?_⟩
    by_cases hji : j = i
    · subst hji; exact (hy.yieldsIf (S := fun _ => True)).wpOp hi trivial ⟨fun _ h => h, H⟩
    · have := ready_mono hj hji
      rw [H.1] at this
      cases this
  | succ fuel ih =>
    intro listed a w hfree hr hy H
    refine ⟨fun h => (by rw [h] at hr; cases hr), fun j hj => ?_⟩
    by_cases hji : j = i
    · subst hji; exact (hy.yieldsIf (S := fun _ => True)).wpOp hi trivial ⟨fun _ h => h, H⟩
    · have h1 := H.2 j (ready_mono hj hji)
      obtain ⟨hjun, oj, hoj, hall⟩ := mem_ready.1 hj
      have hiun := (mem_ready.1 hr).1
      have hnot : ∀ e ∈ oj.after, Region.binds md e = true → e.on ≠ i := fun e he hb heq => by
        have h1 := hall e he hb
        rw [heq] at h1
        rcases Nat.lt_or_ge i listed.size with h' | h'
        · simp [h'] at hiun h1; rw [hiun] at h1; cases h1
        · simp [Array.getElem?_eq_none h'] at h1
      have h2 := wpOp_put hoj (hfree j oj hoj hji hjun hnot) (fun cs b => hsel i oi cs b hi) (fun cs b => hsel j oj cs b hoj) hQ hy h1
      have hfree' : ∀ k ok, ops[k]? = some ok → k ≠ i → (listed.setIfInBounds j true).getD k true = false →
          (∀ e ∈ ok.after, Region.binds md e = true → e.on ≠ i) → oi.apart ops ok = true := fun k ok hk hki hun hno => by
        refine hfree k ok hk hki ?_ hno
        by_cases hjk : j = k
        · subst hjk; exact hjun
        · rw [getD_set_ne true hjk] at hun; exact hun
      refine wpOp_mono (fun a' w' h3 => ⟨h3.2.1, ih (listed.setIfInBounds j true) a' w' hfree' (ready_mono hr (Ne.symm hji)) h3.1 ?_⟩) h2
      rw [Array.setIfInBounds_comm _ _ hji]
      exact h3.2.2
theorem wpAnyLast_take {i : Nat} {oi : Oper} {v : Value} {fuel : Nat} {listed : Array Bool} {a : Act} {w : World} (hi : ops[i]? = some oi)
    (hs : Region.noSelect ops = true) (hf : Region.free md ops listed i = true) (hr : (Region.ready md ops listed).contains i = true)
    (hc : Region.closedB md ops listed = true) (hl : Region.lastB md ops listed ds i = true)
    (hQ : ∀ c a w, Q (.panic c) (a.put oi.dst v) w → Q (.panic c) a w) (hy : YieldsIf P ops S oi v a) (hS : S w)
    (h : wpAnyLast P md ops Q S ds fuel (listed.setIfInBounds i true) (a.put oi.dst v) w) : wpAnyLast P md ops Q S ds (fuel + 1) listed a w :=
  wpAnyLast_first hi (Region.noSelect_spec hs) hQ ops.size fuel listed a w (Region.free_spec hi hf) (Region.closedB_spec hc)
    (fun d hm hun => by have := List.all_eq_true.1 hl d hm; rw [hun] at this; simpa using this) (by simpa using hr) hy hS h
theorem wpAnyLast_all {rs : List Nat} {fuel : Nat} {listed : Array Bool} {a : Act} {w : World} (hr : Region.ready md ops listed = rs) (hne : rs ≠ [])
    (h : ∀ i ∈ rs, wpOp P ops Q i (fun a' w' => (i ∉ ds → S w → S w') ∧ wpAnyLast P md ops Q S ds fuel (listed.setIfInBounds i true) a' w') a w) : wpAnyLast P md ops Q S ds (fuel + 1) listed a w :=
  ⟨fun h0 => absurd (hr ▸ h0) hne, hr ▸ h⟩
theorem wp_region_last {id : Nat} {a : Act} {w : World} (hm : P.follows .mixedOrders = true)
    (h : wpAnyLast P .any ops Q S ds ops.size (Array.replicate ops.size false) a { w with drawn := w.drawn + 1 }) : (Code.region id ops true).wp P Q a w :=
  wp_region_any hm (wpAny_of_last _ _ _ _ h)
end
section
variable {P : Program} {ops : Array Oper} {Q : Exit → Act → World → Prop} {md : Region.Mode} {S : World → Prop} {ds : List Nat}
def AllReadyL (P : Program) (md : Region.Mode) (ops : Array Oper) (Q : Exit → Act → World → Prop) (S : World → Prop) (ds : List Nat) (fuel : Nat) (listed : Array Bool) (a : Act) (w : World) (rs : List Nat) : Prop :=
  ∀ i ∈ rs, wpOp P ops Q i (fun a' w' => (i ∉ ds → S w → S w') ∧ wpAnyLast P md ops Q S ds fuel (listed.setIfInBounds i true) a' w') a w
theorem AllReadyL.nil {fuel : Nat} {listed : Array Bool} {a : Act} {w : World} : AllReadyL P md ops Q S ds fuel listed a w [] := fun _ h => by cases h
theorem AllReadyL.cons {fuel : Nat} {listed : Array Bool} {a : Act} {w : World} {i : Nat} {o : Oper} {rs : List Nat} (ho : ops[i]? = some o) (hd : i ∉ ds)
    (h : ∀ K' : Act → World → Prop, Shut (∀ a w, S w → (S w → wpAnyLast P md ops Q S ds fuel (listed.setIfInBounds i true) a w) → K' a w) → if Region.wanted o (yielded ops a.tmps) = true then Oper.wp P o a w K' Q else K' (a.put o.dst undef) w)
    (hs : AllReadyL P md ops Q S ds fuel listed a w rs) : AllReadyL P md ops Q S ds fuel listed a w (i :: rs) := fun j hj => by
  rcases List.mem_cons.1 hj with rfl | hj
  · exact wpOp_step ho (fun K' hK => h K' (fun a w hS hW => hK a w ⟨fun _ _ => hS, hW hS⟩))
  · exact hs j hj
end
end Go.Proofs.YtbfkkepdeepdeaaGreatDoorW.PrintLast
end
section
namespace Go.Proofs.YtbfkkepdeepdeaaGreatDoorW.PrintWords
open Go.RowKit
namespace Kd
def tag {α : Type} (f : Nat → Nat) (d : Kd α) : Kd (α × Nat) where
  sz := d.sz
  E := d.E
  K := fun w x cs => d.K w x.1 cs
  M := fun w base ok x cs => d.M w base (fun k => ok k ∧ f k = x.2) x.1 cs
  K_len := fun h => d.K_len h
  K_one := fun h => d.K_one h
  K_below := fun hb h => d.K_below hb h
  K_of_M := fun h => d.K_of_M h
  M_mono := fun hok h => d.M_mono (fun k hk => ⟨hok k hk.1, hk.2⟩) h
  M_bound := fun h => d.M_mono (fun _ hk => ⟨⟨hk.1.1, hk.2⟩, hk.1.2⟩) (d.M_bound h)
  M_move := fun hm h => d.M_move (fun k hk => hm k hk.1) h
  M_lower := fun hb h => d.M_lower hb h
def raw (sz : Nat) : Kd (List Value) where
  sz := sz
  E := []
  K := fun _ x cs => cs = x ∧ cs.length = sz ∧ ∀ u ∈ cs, u.oneCell' = true
  M := fun _ _ _ x cs => cs = x ∧ cs.length = sz ∧ ∀ u ∈ cs, u.oneCell' = true
  K_len := fun h => h.2.1
  K_one := fun h => h.2.2
  K_below := fun _ h => h
  K_of_M := fun h => h
  M_mono := fun _ h => h
  M_bound := fun h => h
  M_move := fun _ h => h
  M_lower := fun _ h => h
def S {α : Type} (d : Kd α) (e : Nat) (w : World) (base : Nat) (ok : Nat → Prop) (v : Value) (xs : List α) : Prop := ∃ f, (tag f d).R e w base ok v xs.zipIdx
def gap {α : Type} (f : Nat → Nat) (d : Kd α) (i : Nat) (c : List Value) : Kd (α × Nat) where
  sz := d.sz
  E := d.E
  K := fun w x cs => (x.2 = i → cs = c ∧ cs.length = d.sz ∧ ∀ u ∈ cs, u.oneCell' = true) ∧ (x.2 ≠ i → d.K w x.1 cs)
  M := fun w base ok x cs => (x.2 = i → cs = c ∧ cs.length = d.sz ∧ ∀ u ∈ cs, u.oneCell' = true) ∧ (x.2 ≠ i → d.M w base (fun k => ok k ∧ f k = x.2) x.1 cs)
  K_len := fun {w x cs} h => by
    by_cases hx : x.2 = i
    · exact (h.1 hx).2.1
    · exact d.K_len (h.2 hx)
  K_one := fun {w x cs} h => by
    by_cases hx : x.2 = i
    · exact (h.1 hx).2.2
    · exact d.K_one (h.2 hx)
  K_below := fun hb h => ⟨h.1, fun hx => d.K_below hb (h.2 hx)⟩
  K_of_M := fun h => ⟨h.1, fun hx => d.K_of_M (h.2 hx)⟩
  M_mono := fun hok h => ⟨h.1, fun hx => d.M_mono (fun k hk => ⟨hok k hk.1, hk.2⟩) (h.2 hx)⟩
  M_bound := fun h => ⟨h.1, fun hx => d.M_mono (fun _ hk => ⟨⟨hk.1.1, hk.2⟩, hk.1.2⟩) (d.M_bound (h.2 hx))⟩
  M_move := fun hm h => ⟨h.1, fun hx => d.M_move (fun k hk => hm k hk.1) (h.2 hx)⟩
  M_lower := fun hb h => ⟨h.1, fun hx => d.M_lower hb (h.2 hx)⟩
def H {α : Type} (d : Kd α) (e : Nat) (w : World) (base : Nat) (ok : Nat → Prop) (v : Value) (xs : List α) (i : Int) (oki : Nat → Prop) (c : List Value) : Prop :=
  (∀ k, oki k → ok k) ∧ ∃ f, (gap f d i.toNat c).R e w base (fun k => ok k ∧ ¬ oki k) v xs.zipIdx
end Kd
end Go.Proofs.YtbfkkepdeepdeaaGreatDoorW.PrintWords
end
section
namespace Go.Proofs.YtbfkkepdeepdeaaGreatDoorW.PrintWords
open Go.RowKit
namespace Kd
theorem reps_one {α : Type} {R : α → List Value → Prop} {size : Nat} {ps : List α} {cs : List Value} (h : Reps R size ps cs) (hs0 : 0 < size) (hR : ∀ p c, R p c → ∀ u ∈ c, u.oneCell' = true) : ∀ u ∈ cs, u.oneCell' = true := by
  intro u hu
  obtain ⟨q, hq, rfl⟩ := List.mem_iff_getElem.1 hu
  have hql : q / size < ps.length := by
    rw [Nat.div_lt_iff_lt_mul hs0, ← h.1]
    exact hq
  refine hR _ _ (h.2 (q / size) _ (List.getElem?_eq_getElem hql)) _ ?_
  rw [List.mem_iff_getElem?]
  refine ⟨q % size, ?_⟩
  rw [List.getElem?_take, if_pos (Nat.mod_lt _ hs0), List.getElem?_drop, Nat.mul_comm, Nat.div_add_mod, List.getElem?_eq_getElem hq]
end Kd
end Go.Proofs.YtbfkkepdeepdeaaGreatDoorW.PrintWords
end
section
namespace Go.Proofs.YtbfkkepdeepdeaaGreatDoorW.PrintWords
open Go.RowKit
namespace Kd
structure Heap {α : Type} (d : Kd α) : Prop where
  K : ∀ {w w1 : World} {x : α} {cs : List Value}, (∀ k, k < w.heap.size → w1.heap[k]? = w.heap[k]?) → d.K w x cs → d.K w1 x cs
theorem cell_heap {w w1 : World} (hb : ∀ k, k < w.heap.size → w1.heap[k]? = w.heap[k]?) {a : Addr} {v : Value} (h : w.cell? a = some v) : w1.cell? a = some v := by
  have := hb a.block (World.block_lt_of_cell? w a h)
  simpa [World.cell?, this] using h
theorem Heap.C {α : Type} {d : Kd α} (hd : Heap d) {w w1 : World} {A : Option Addr} {n : Nat} {xs : List α} (hb : ∀ k, k < w.heap.size → w1.heap[k]? = w.heap[k]?) (h : d.C w A n xs) : d.C w1 A n xs :=
  ⟨h.1, h.2.1, fun hn => by
    obtain ⟨ad, e, hc⟩ := h.2.2 hn
    refine ⟨ad, e, fun j p hj => ?_⟩
    obtain ⟨c, hs, hr, hcell⟩ := hc j p hj
    exact ⟨c, hs, hd.K hb hr, fun i u hu => cell_heap hb (hcell i u hu)⟩⟩
end Kd
end Go.Proofs.YtbfkkepdeepdeaaGreatDoorW.PrintWords
end
section
namespace Go.Proofs.YtbfkkepdeepdeaaGreatDoorW.PrintWords
open Go.RowKit
def Kept (w W : World) (S : Nat → Prop) : Prop := w.heap.size ≤ W.heap.size ∧ ∀ i, i < w.heap.size → ¬ S i → W.heap[i]? = w.heap[i]?
section
variable {w W W2 : World} {S S2 S' : Nat → Prop}
theorem Kept.refl (w : World) (S : Nat → Prop) : Kept w w S := ⟨Nat.le_refl _, fun _ _ _ => rfl⟩
theorem Kept.of_below (h : Below w.heap.size w W) (S : Nat → Prop) : Kept w W S := ⟨h.size, fun i hi _ => h.block i hi⟩
theorem Kept.mono (h : Kept w W S) (hs : ∀ k, S k → S' k) : Kept w W S' := ⟨h.1, fun i hi hn => h.2 i hi (fun hk => hn (hs i hk))⟩
theorem Kept.then_ (h : Kept w W S) (k : Kept W W2 S2) (hs : ∀ k, S2 k → S k ∨ w.heap.size ≤ k) : Kept w W2 S :=
  ⟨Nat.le_trans h.1 k.1, fun i hi hn => (k.2 i (Nat.lt_of_lt_of_le hi h.1) (fun h2 => (hs i h2).elim hn (fun h3 => by omega))).trans (h.2 i hi hn)⟩
theorem Kept.below (h : Kept w W S) (hb : Below W.heap.size W W2) : Kept w W2 S := h.then_ (Kept.of_below hb (fun _ => False)) (fun _ hk => hk.elim)
theorem Kept.alloc (h : Kept w W S) (o : Obj) : Kept w (W.alloc o) S := h.below (below_alloc (Below.refl _ _) o)
theorem Kept.drew (h : Kept w W S) : Kept w W.drew S := h
theorem Kept.drewN (h : Kept w W S) (m : Nat) : Kept w (W.drewN m) S := h
theorem Kept.setCell (h : Kept w W S) {p : Addr} (hp : S p.block ∨ w.heap.size ≤ p.block) (u : Value) : Kept w (W.setCell p u) S :=
  h.then_ (S2 := fun k => k = p.block) ⟨by simp [World.setCell], fun i _ hn => Below.heap_setCell W p u i hn⟩ (fun k hk => by rw [hk]; exact hp)
theorem Kept.keep {g : Nat} (h : KeepBut w W g none) (k : Kept W W2 S2) (hs : ∀ k, S2 k → w.heap.size ≤ k) : KeepBut w W2 g none :=
  ⟨Nat.le_trans h.1 k.1, fun i hi hg hr => (k.2 i (Nat.lt_of_lt_of_le hi h.1) (fun h2 => by have := hs i h2; omega)).trans (h.2 i hi hg hr)⟩
end
namespace Kd
end Kd
end Go.Proofs.YtbfkkepdeepdeaaGreatDoorW.PrintWords
end
section
namespace Go.Proofs.YtbfkkepdeepdeaaGreatDoorW.PrintWords
open Go.RowKit
def Foot (P : World → Prop) (W : World) (ok : Nat → Prop) : Prop := ∀ W' : World, (∀ k, ok k → k < W.heap.size → W'.heap[k]? = W.heap[k]?) → P W'
theorem heap_lt {W W1 : World} {k : Nat} (h : W1.heap[k]? = W.heap[k]?) (hlt : k < W.heap.size) : k < W1.heap.size := by
  rw [Array.getElem?_eq_getElem hlt] at h
  exact (Array.getElem?_eq_some_iff.1 h).1
namespace Foot
variable {P Q : World → Prop} {W W1 : World} {ok ok' : Nat → Prop}
theorem mono (h : Foot P W ok) (hok : ∀ k, ok k → ok' k) : Foot P W ok' := fun W' hW => h W' (fun k hk hlt => hW k (hok k hk) hlt)
theorem bound (h : Foot P W ok) : Foot P W (fun k => ok k ∧ k < W.heap.size) := fun W' hW => h W' (fun k hk hlt => hW k ⟨hk, hlt⟩ hlt)
theorem step (h : Foot P W ok) (hm : ∀ k, ok k → k < W.heap.size → W1.heap[k]? = W.heap[k]?) : Foot P W1 ok := fun W' hW => h W' (fun k hk hlt => (hW k hk (heap_lt (hm k hk hlt) hlt)).trans (hm k hk hlt))
theorem imp (h : Foot P W ok) (hi : ∀ W', P W' → Q W') : Foot Q W ok := fun W' hW => hi W' (h W' hW)
theorem old (h : Foot P W ok) (hb : Below W.heap.size W W1) : Foot P W1 (fun k => ok k ∧ k < W.heap.size) := (h.bound).step (fun k _ hlt => hb.block k hlt)
end Foot
namespace Kd
def F {α : Type} (d : Kd α) (W : World) (ok : Nat → Prop) (A : Option Addr) (n : Nat) (xs : List α) : Prop := Foot (fun W => d.C W A n xs) W ok
def FK {α : Type} (d : Kd α) (W : World) (ok : Nat → Prop) (x : α) (c : List Value) : Prop := Foot (fun W => d.K W x c) W ok
end Kd
end Go.Proofs.YtbfkkepdeepdeaaGreatDoorW.PrintWords
end
section
namespace Go.Proofs.YtbfkkepdeepdeaaGreatDoorW.PrintWords
open Go.RowKit
namespace Kd
section
variable {α : Type} {d : Kd α} {e base n cc g : Nat} {ok ok' okp S : Nat → Prop} {w w1 W W1 : World} {A : Option Addr} {u v v1 : Value} {xs : List α} {x : α} {c : List Value}
def N {α : Type} (d : Kd α) (e : Nat) (w : World) (base : Nat) (ok : Nat → Prop) (v : Value) (xs : List α) : Prop :=
  (∀ k, v.ownBlock = some k → ok k) ∧ ∃ rows : List (List Value), rows.length = xs.length ∧ (raw d.sz).R e w base (fun k => some k = v.ownBlock) v rows ∧ ∀ (j : Nat) (x : α) (c : List Value), xs[j]? = some x → rows[j]? = some c → FK d w (fun k => ok k ∧ some k ≠ v.ownBlock) x c
end
end Kd
end Go.Proofs.YtbfkkepdeepdeaaGreatDoorW.PrintWords
end
section
namespace Go.Proofs.YtbfkkepdeepdeaaGreatDoorW.PrintMore
open Go.RowKit Go.Proofs.YtbfkkepdeepdeaaGreatDoorW.PrintWords
namespace Kd
open Go.Proofs.YtbfkkepdeepdeaaGreatDoorW.PrintWords.Kd
end Kd
namespace Kd
open Go.Proofs.YtbfkkepdeepdeaaGreatDoorW.PrintWords.Kd
end Kd
end Go.Proofs.YtbfkkepdeepdeaaGreatDoorW.PrintMore
namespace Go.Proofs.YtbfkkepdeepdeaaGreatDoorW.PrintWords
open Go.RowKit
section
variable {P : Program} {ops : Array Oper} {rest : List Oper} {o : Oper} {a : Act} {Q : Exit → Act → World → Prop} {W : World}
theorem gate_builtin {b : Builtin} {xs : Array Operand} {ts : Array TypeId} (_ho : o.op = .call { callee := .builtin b, args := xs, argTypes := ts }) (h : wpList P ops Q (o :: rest) a W) : wpList P ops Q (o :: rest) a W := h
end
def mx (a b : Int) : Int := if a < b then b else a
def mn (a b : Int) : Int := if b < a then b else a
namespace Kd
end Kd
end Go.Proofs.YtbfkkepdeepdeaaGreatDoorW.PrintWords
namespace Go.Proofs.YtbfkkepdeepdeaaGreatDoorW.PrintWords
open Go.RowKit
namespace Kd
def V {α : Type} (d : Kd α) (_e : Nat) (W : World) (_base : Nat) (ok : Nat → Prop) (v : Value) (xs : List α) : Prop := ∃ A c, v = .slice A xs.length c ∧ xs.length ≤ c ∧ F d W ok A xs.length xs
end Kd
end Go.Proofs.YtbfkkepdeepdeaaGreatDoorW.PrintWords
end
section
namespace Go.Proofs.YtbfkkepdeepdeaaGreatDoorW.PrintWords
theorem Reps.one {α : Type} {R : α → List Value → Prop} {ps : List α} {cs : List Value} {p : α} {v : Value} (hp : R p [v]) (h : Reps R 1 ps cs) : Reps R 1 (p :: ps) (v :: cs) := by
  refine ⟨by simp [h.1], fun j q hq => ?_⟩
  cases j with
  | zero =>
    simp only [List.getElem?_cons_zero, Option.some.injEq] at hq
    subst hq
    simpa using hp
  | succ j =>
    simp only [List.getElem?_cons_succ] at hq
    have h1 := h.2 j q hq
    simpa [Nat.mul_one] using h1
theorem Reps.front {α : Type} {R : α → List Value → Prop} {size : Nat} {ps : List α} {cs c all : List Value} {p : α} (hp : R p c) (hc : c.length = size) (h : Reps R size ps cs) (ha : c ++ cs = all) : Reps R size (p :: ps) all := by
  subst ha
  refine ⟨by rw [List.length_append, hc, h.1, List.length_cons, Nat.succ_mul, Nat.add_comm], fun j q hq => ?_⟩
  cases j with
  | zero =>
    simp only [List.getElem?_cons_zero, Option.some.injEq] at hq
    subst hq
    rw [Nat.zero_mul, List.drop_zero, List.take_append_of_le_length (by omega), List.take_of_length_le (by omega)]
    exact hp
  | succ j =>
    simp only [List.getElem?_cons_succ] at hq
    have h1 := h.2 j q hq
    rw [Nat.succ_mul, List.drop_append, List.drop_of_length_le (by rw [hc]; exact Nat.le_add_left _ _), List.nil_append, hc, Nat.add_sub_cancel]
    exact h1
theorem Reps.c2 {α : Type} {R : α → List Value → Prop} {ps : List α} {cs : List Value} {p : α} {va vb : Value} (hp : R p [va, vb]) (h : Reps R 2 ps cs) : Reps R 2 (p :: ps) (va :: vb :: cs) := Reps.front hp rfl h rfl
theorem Reps.c3 {α : Type} {R : α → List Value → Prop} {ps : List α} {cs : List Value} {p : α} {va vb vc : Value} (hp : R p [va, vb, vc]) (h : Reps R 3 ps cs) : Reps R 3 (p :: ps) (va :: vb :: vc :: cs) := Reps.front hp rfl h rfl
theorem Reps.c4 {α : Type} {R : α → List Value → Prop} {ps : List α} {cs : List Value} {p : α} {va vb vc vd : Value} (hp : R p [va, vb, vc, vd]) (h : Reps R 4 ps cs) : Reps R 4 (p :: ps) (va :: vb :: vc :: vd :: cs) := Reps.front hp rfl h rfl
theorem Reps.c5 {α : Type} {R : α → List Value → Prop} {ps : List α} {cs : List Value} {p : α} {va vb vc vd ve : Value} (hp : R p [va, vb, vc, vd, ve]) (h : Reps R 5 ps cs) : Reps R 5 (p :: ps) (va :: vb :: vc :: vd :: ve :: cs) := Reps.front hp rfl h rfl
theorem Reps.c6 {α : Type} {R : α → List Value → Prop} {ps : List α} {cs : List Value} {p : α} {va vb vc vd ve vf : Value} (hp : R p [va, vb, vc, vd, ve, vf]) (h : Reps R 6 ps cs) : Reps R 6 (p :: ps) (va :: vb :: vc :: vd :: ve :: vf :: cs) := Reps.front hp rfl h rfl
theorem Reps.c7 {α : Type} {R : α → List Value → Prop} {ps : List α} {cs : List Value} {p : α} {va vb vc vd ve vf vg : Value} (hp : R p [va, vb, vc, vd, ve, vf, vg]) (h : Reps R 7 ps cs) : Reps R 7 (p :: ps) (va :: vb :: vc :: vd :: ve :: vf :: vg :: cs) := Reps.front hp rfl h rfl
theorem Reps.c8 {α : Type} {R : α → List Value → Prop} {ps : List α} {cs : List Value} {p : α} {va vb vc vd ve vf vg vh : Value} (hp : R p [va, vb, vc, vd, ve, vf, vg, vh]) (h : Reps R 8 ps cs) : Reps R 8 (p :: ps) (va :: vb :: vc :: vd :: ve :: vf :: vg :: vh :: cs) := Reps.front hp rfl h rfl
theorem Reps.c9 {α : Type} {R : α → List Value → Prop} {ps : List α} {cs : List Value} {p : α} {va vb vc vd ve vf vg vh vi : Value} (hp : R p [va, vb, vc, vd, ve, vf, vg, vh, vi]) (h : Reps R 9 ps cs) : Reps R 9 (p :: ps) (va :: vb :: vc :: vd :: ve :: vf :: vg :: vh :: vi :: cs) := Reps.front hp rfl h rfl
theorem Reps.c10 {α : Type} {R : α → List Value → Prop} {ps : List α} {cs : List Value} {p : α} {va vb vc vd ve vf vg vh vi vj : Value} (hp : R p [va, vb, vc, vd, ve, vf, vg, vh, vi, vj]) (h : Reps R 10 ps cs) : Reps R 10 (p :: ps) (va :: vb :: vc :: vd :: ve :: vf :: vg :: vh :: vi :: vj :: cs) := Reps.front hp rfl h rfl
end Go.Proofs.YtbfkkepdeepdeaaGreatDoorW.PrintWords
end
section
namespace Go.Proofs.YtbfkkepdeepdeaaGreatDoorW.PrintWords
open Go.RowKit
section
variable {P : Program} {d : Nat} {xs ys : Array Value} {f : Field} {fs : List Field} {a b : Value} {r s : Bool} {w : World}
theorem eqf_last (hn : (f.name == "_") = false) (ha : (part f.type xs f.offset).run P w = .ok a w) (hb : (part f.type ys f.offset).run P w = .ok b w) (he : (Op.equalIn d f.type a b).run P w = .ok r w) : (Op.eqFields d xs ys [f]).run P w = .ok r w := by
  have hn' : f.name ≠ "_" := by simpa using hn
  simp only [Op.eqFields, if_pos hn', Sem.run_bind, ha, hb, he, Result.andThen_ok]
  cases r <;> simp
theorem eqf_cons (hn : (f.name == "_") = false) (ha : (part f.type xs f.offset).run P w = .ok a w) (hb : (part f.type ys f.offset).run P w = .ok b w) (he : (Op.equalIn d f.type a b).run P w = .ok r w) (hr : (Op.eqFields d xs ys fs).run P w = .ok s w) : (Op.eqFields d xs ys (f :: fs)).run P w = .ok (r && s) w := by
  have hn' : f.name ≠ "_" := by simpa using hn
  rw [Op.eqFields]
  simp only [if_pos hn', Sem.run_bind, ha, hb, he, Result.andThen_ok]
  cases r
  · simp
  · simpa using hr
theorem eqA_of {t : TypeId} {fs : Array Field} (hu : P.underlying t = some (.struct fs)) (hp : P.stoodInHeld t = false) (h : (Op.eqFields d xs ys fs.toList).run P w = .ok r w) : (Op.equalIn (d + 1) t (.agg xs) (.agg ys)).run P w = .ok r w := by
  have hf : P.fieldsOf t = fs := by simp [Program.fieldsOf, hu]
  rw [run_equalIn_struct (P := P) w d t xs ys (by rw [hf]; exact hu) hp, hf]
  exact h
end
end Go.Proofs.YtbfkkepdeepdeaaGreatDoorW.PrintWords
end
section
namespace Go.Proofs.YtbfkkepdeepdeaaGreatDoor
set_option linter.unusedVariables false
structure Tok where
  kind : Int
  fr : Int
  «to» : Int
structure Nd where
  kind : Int
  gap : ByteArray
  text : ByteArray
  pos : Int
  kids : List Nd
structure Cu where
  next : Nat
  deep : Nat
  pos : Int
  err : Int
abbrev wClass : ByteArray := ⟨#[99, 108, 97, 115, 115]⟩
abbrev wExtends : ByteArray := ⟨#[101, 120, 116, 101, 110, 100, 115]⟩
abbrev wPublic : ByteArray := ⟨#[112, 117, 98, 108, 105, 99]⟩
abbrev wStatic : ByteArray := ⟨#[115, 116, 97, 116, 105, 99]⟩
abbrev wVoid : ByteArray := ⟨#[118, 111, 105, 100]⟩
abbrev wMain : ByteArray := ⟨#[109, 97, 105, 110]⟩
abbrev wStr : ByteArray := ⟨#[83, 116, 114, 105, 110, 103]⟩
abbrev wInt : ByteArray := ⟨#[105, 110, 116]⟩
abbrev wBoolean : ByteArray := ⟨#[98, 111, 111, 108, 101, 97, 110]⟩
abbrev wReturn : ByteArray := ⟨#[114, 101, 116, 117, 114, 110]⟩
abbrev wIf : ByteArray := ⟨#[105, 102]⟩
abbrev wElse : ByteArray := ⟨#[101, 108, 115, 101]⟩
abbrev wWhile : ByteArray := ⟨#[119, 104, 105, 108, 101]⟩
abbrev wTrue : ByteArray := ⟨#[116, 114, 117, 101]⟩
abbrev wFalse : ByteArray := ⟨#[102, 97, 108, 115, 101]⟩
abbrev wThis : ByteArray := ⟨#[116, 104, 105, 115]⟩
abbrev wNew : ByteArray := ⟨#[110, 101, 119]⟩
abbrev wLength : ByteArray := ⟨#[108, 101, 110, 103, 116, 104]⟩
abbrev wPrint : ByteArray := ⟨#[83, 121, 115, 116, 101, 109, 46, 111, 117, 116, 46, 112, 114, 105, 110, 116, 108, 110]⟩
abbrev wAnd : ByteArray := ⟨#[38, 38]⟩
abbrev wLt : ByteArray := ⟨#[60]⟩
abbrev wPlus : ByteArray := ⟨#[43]⟩
abbrev wMinus : ByteArray := ⟨#[45]⟩
abbrev wStar : ByteArray := ⟨#[42]⟩
abbrev wBang : ByteArray := ⟨#[33]⟩
abbrev wLB : ByteArray := ⟨#[91]⟩
abbrev wRB : ByteArray := ⟨#[93]⟩
abbrev wLP : ByteArray := ⟨#[40]⟩
abbrev wRP : ByteArray := ⟨#[41]⟩
abbrev wLC : ByteArray := ⟨#[123]⟩
abbrev wRC : ByteArray := ⟨#[125]⟩
abbrev wDot : ByteArray := ⟨#[46]⟩
abbrev wComma : ByteArray := ⟨#[44]⟩
abbrev wSemi : ByteArray := ⟨#[59]⟩
abbrev wEq : ByteArray := ⟨#[61]⟩
abbrev noB : ByteArray := ⟨#[]⟩
def zN : Nd := ⟨0, noB, noB, 0, []⟩
def mk (k : Int) (l : List Nd) : Nd := ⟨k, noB, noB, 0, l⟩
def asN (k : Int) (l : List Nd) (c : Cu) : Nd := if c.err = 0 then mk k l else zN
section
variable (s : ByteArray) (L : List Tok)
def Tok.text (t : Tok) : ByteArray := s.extract t.fr.toNat t.to.toNat
def left (c : Cu) : Nat := if c.err = 0 then L.length - c.next else 0
def tokAt (c : Cu) (k : Nat) : Option Tok := if c.err = 0 then L[c.next + k]? else none
def peek (c : Cu) (k : Nat) : Int × ByteArray := match tokAt L c k with
  | some t => (t.kind, t.text s)
  | none => (0, noB)
def isB (c : Cu) (k : Nat) (t : ByteArray) : Bool := ((peek s L c k).1 == 3 || (peek s L c k).1 == 6) && decide ((peek s L c k).2 = t)
def posOf (c : Cu) : Int := match tokAt L c 0 with
  | some t => t.fr
  | none => s.size
def failB (c : Cu) (e : Int) : Cu := if c.err = 0 then { c with pos := posOf s L c, err := e } else c
def lastOf (n : Nat) : Int := match n with
  | 0 => 0
  | k + 1 => match L[k]? with
    | some t => t.to
    | none => 0
def leafOf (c : Cu) (t : Tok) : Nd := ⟨1, s.extract (lastOf L c.next).toNat t.fr.toNat, t.text s, t.fr, []⟩
def take (c : Cu) (b : Bool) : Nd × Cu := match b, tokAt L c 0 with
  | true, some t => (leafOf s L c t, { c with next := c.next + 1 })
  | _, _ => (zN, failB s L c 2)
def anyK (c : Cu) (k : Int) : Nd × Cu := take s L c ((peek s L c 0).1 == k)
def want (c : Cu) (t : ByteArray) : Nd × Cu := take s L c (isB s L c 0 t)
def down (c : Cu) : Bool × Cu := if c.err = 0 then (if c.deep < 200 then (true, { c with deep := c.deep + 1 }) else (false, failB s L c 3)) else (false, c)
def up (c : Cu) : Cu := { c with deep := c.deep - 1 }
def opKind (lvl : Nat) (t : ByteArray) : Int :=
  if lvl = 0 ∧ t = wAnd then 16 else if lvl = 1 ∧ t = wLt then 17 else if lvl = 2 ∧ t = wPlus then 18 else if lvl = 2 ∧ t = wMinus then 19 else if lvl = 3 ∧ t = wStar then 20 else 0
def binLoop (lvl : Nat) (sub : Cu → Nd × Cu) : Nat → Nd → Cu → Nd × Cu
  | 0, n, c => (n, c)
  | f + 1, n, c =>
    if opKind lvl (peek s L c 0).2 ≠ 0 ∧ isB s L c 0 (peek s L c 0).2 = true then
      binLoop lvl sub f (mk (opKind lvl (peek s L c 0).2) [n, (want s L c (peek s L c 0).2).1, (sub (want s L c (peek s L c 0).2).2).1]) (sub (want s L c (peek s L c 0).2).2).2
    else (n, c)
def bin (lvl : Nat) (sub : Cu → Nd × Cu) (c : Cu) : Nd × Cu := binLoop s L lvl sub (L.length + 1) (sub c).1 (sub c).2
def within (inner : Cu → List Nd × Cu) (o e : ByteArray) (c : Cu) : List Nd × Cu :=
  match down s L c with
  | (false, c1) => ([], c1)
  | (true, c1) =>
    let r1 := want s L c1 o
    let r2 := inner r1.2
    let r3 := want s L r2.2 e
    (r1.1 :: (r2.1 ++ [r3.1]), up r3.2)
def oneE (exp : Cu → Nd × Cu) (c : Cu) : List Nd × Cu := ([(exp c).1], (exp c).2)
def argLoop (exp : Cu → Nd × Cu) : Nat → List Nd → Cu → List Nd × Cu
  | 0, l, c => (l, c)
  | f + 1, l, c =>
    if isB s L c 0 wComma = true then
      argLoop exp f (l ++ [(want s L c wComma).1] ++ [(exp (want s L c wComma).2).1]) (exp (want s L c wComma).2).2
    else (l, c)
def argsE (exp : Cu → Nd × Cu) (c : Cu) : List Nd × Cu :=
  if isB s L c 0 wRP = true then ([], c) else argLoop s L exp (L.length + 1) [(exp c).1] (exp c).2
def point (exp : Cu → Nd × Cu) (n : Nd) (c : Cu) : Nd × Cu :=
  let r1 := want s L c wDot
  if isB s L r1.2 0 wLength = true then
    let r2 := want s L r1.2 wLength
    (mk 23 [n, r1.1, r2.1], r2.2)
  else
    let r2 := anyK s L r1.2 4
    let r3 := within s L (argsE s L exp) wLP wRP r2.2
    (mk 24 ([n, r1.1, r2.1] ++ r3.1), r3.2)
def behind (exp : Cu → Nd × Cu) : Nat → Nd → Cu → Nd × Cu
  | 0, n, c => (n, c)
  | f + 1, n, c =>
    if isB s L c 0 wLB = true then
      behind exp f (mk 22 ([n] ++ (within s L (oneE exp) wLB wRB c).1)) (within s L (oneE exp) wLB wRB c).2
    else if isB s L c 0 wDot = true then behind exp f (point s L exp n c).1 (point s L exp n c).2
    else (n, c)
def single (k : Int) (t : ByteArray) : Int :=
  if k = 5 then 25 else if k = 4 then 28 else if k ≠ 3 then 0 else if t = wTrue then 26 else if t = wFalse then 27 else if t = wThis then 29 else 0
def fresh (exp : Cu → Nd × Cu) (c : Cu) : Nd × Cu :=
  let r1 := want s L c wNew
  if isB s L r1.2 0 wInt = true then
    let r2 := want s L r1.2 wInt
    let r3 := within s L (oneE exp) wLB wRB r2.2
    (mk 30 ([r1.1, r2.1] ++ r3.1), r3.2)
  else
    let r2 := anyK s L r1.2 4
    let r3 := want s L r2.2 wLP
    let r4 := want s L r3.2 wRP
    (mk 31 [r1.1, r2.1, r3.1, r4.1], r4.2)
def operand (exp : Cu → Nd × Cu) (c : Cu) : Nd × Cu :=
  if single (peek s L c 0).1 (peek s L c 0).2 ≠ 0 then
    (mk (single (peek s L c 0).1 (peek s L c 0).2) [(anyK s L c (peek s L c 0).1).1], (anyK s L c (peek s L c 0).1).2)
  else if isB s L c 0 wNew = true then fresh s L exp c
  else if isB s L c 0 wLP = true then (mk 32 (within s L (oneE exp) wLP wRP c).1, (within s L (oneE exp) wLP wRP c).2)
  else (zN, failB s L c 2)
def factorF (exp fac : Cu → Nd × Cu) (c : Cu) : Nd × Cu :=
  if isB s L c 0 wBang = true then
    match down s L c with
    | (false, c1) => (zN, c1)
    | (true, c1) =>
      let r1 := want s L c1 wBang
      let r2 := fac r1.2
      (mk 21 [r1.1, r2.1], up r2.2)
  else behind s L exp (L.length + 1) (operand s L exp c).1 (operand s L exp c).2
def expOf (fac : Cu → Nd × Cu) : Cu → Nd × Cu := bin s L 0 (bin s L 1 (bin s L 2 (bin s L 3 fac)))
def facD : Nat → Cu → Nd × Cu
  | 0 => factorF s L (fun c => (zN, c)) (fun c => (zN, c))
  | d + 1 => factorF s L (expOf s L (facD d)) (facD d)
def expD (d : Nat) : Cu → Nd × Cu := expOf s L (facD s L d)
def exprD (d : Nat) (c : Cu) : Nd × Cu := (if (expD s L d c).2.err = 0 then (expD s L d c).1 else zN, (expD s L d c).2)
def expr (c : Cu) : Nd × Cu := exprD s L (200 - c.deep) c
def wants : List ByteArray → Cu → List Nd × Cu
  | [], c => ([], c)
  | t :: r, c => ((want s L c t).1 :: (wants r (want s L c t).2).1, (wants r (want s L c t).2).2)
def typW (c : Cu) : List ByteArray :=
  if isB s L c 0 wInt = true then (if isB s L c 1 wLB = true then [wInt, wLB, wRB] else [wInt]) else [wBoolean]
def typ (c : Cu) : Nd × Cu :=
  if isB s L c 0 wInt = true ∨ isB s L c 0 wBoolean = true then (asN 9 (wants s L (typW s L c) c).1 (wants s L (typW s L c) c).2, (wants s L (typW s L c) c).2)
  else (asN 9 [(anyK s L c 4).1] (anyK s L c 4).2, (anyK s L c 4).2)
def var (c : Cu) : Nd × Cu :=
  let r1 := typ s L c
  let r2 := anyK s L r1.2 4
  let r3 := want s L r2.2 wSemi
  (asN 8 [r1.1, r2.1, r3.1] r3.2, r3.2)
def named (c : Cu) (k : Nat) : Bool := (peek s L c k).1 == 4
def varB (c : Cu) : Bool := isB s L c 0 wInt || (isB s L c 0 wBoolean || (named s L c 0 && named s L c 1))
def stmtB (c : Cu) : Bool := isB s L c 0 wLC || (isB s L c 0 wIf || (isB s L c 0 wWhile || (isB s L c 0 wPrint || named s L c 0)))
def sevLoop (b : Cu → Bool) (rd : Cu → Nd × Cu) : Nat → List Nd → Cu → List Nd × Cu
  | 0, l, c => (l, c)
  | f + 1, l, c => if b c = true then sevLoop b rd f (l ++ [(rd c).1]) (rd c).2 else (l, c)
def several (b : Cu → Bool) (rd : Cu → Nd × Cu) (c : Cu) : List Nd × Cu :=
  (if (sevLoop b rd (L.length + 1) [] c).2.err = 0 then (sevLoop b rd (L.length + 1) [] c).1 else [], (sevLoop b rd (L.length + 1) [] c).2)
def vars (c : Cu) : List Nd × Cu := several L (varB s L) (var s L) c
def stmtsF (st : Cu → Nd × Cu) (c : Cu) : List Nd × Cu := several L (stmtB s L) st c
def oneF (st : Cu → Nd × Cu) (ex : Cu → Nd × Cu) (c : Cu) : Nd × Cu :=
  if isB s L c 0 wLC = true then
    let r1 := want s L c wLC
    let r2 := stmtsF s L st r1.2
    let r3 := want s L r2.2 wRC
    (asN 10 ([r1.1] ++ r2.1 ++ [r3.1]) r3.2, r3.2)
  else if isB s L c 0 wIf = true then
    let r1 := wants s L [wIf, wLP] c
    let r2 := ex r1.2
    let r3 := want s L r2.2 wRP
    let r4 := st r3.2
    let r5 := want s L r4.2 wElse
    let r6 := st r5.2
    (asN 11 (r1.1 ++ [r2.1] ++ [r3.1] ++ [r4.1] ++ [r5.1] ++ [r6.1]) r6.2, r6.2)
  else if isB s L c 0 wWhile = true then
    let r1 := wants s L [wWhile, wLP] c
    let r2 := ex r1.2
    let r3 := want s L r2.2 wRP
    let r4 := st r3.2
    (asN 12 (r1.1 ++ [r2.1] ++ [r3.1] ++ [r4.1]) r4.2, r4.2)
  else if isB s L c 0 wPrint = true then
    let r1 := wants s L [wPrint, wLP] c
    let r2 := ex r1.2
    let r3 := wants s L [wRP, wSemi] r2.2
    (asN 13 (r1.1 ++ [r2.1] ++ r3.1) r3.2, r3.2)
  else if named s L c 0 = false then (zN, failB s L c 2)
  else if isB s L c 1 wLB = true then
    let r1 := anyK s L c 4
    let r2 := want s L r1.2 wLB
    let r3 := ex r2.2
    let r4 := wants s L [wRB, wEq] r3.2
    let r5 := ex r4.2
    let r6 := want s L r5.2 wSemi
    (asN 15 ([r1.1] ++ [r2.1] ++ [r3.1] ++ r4.1 ++ [r5.1] ++ [r6.1]) r6.2, r6.2)
  else
    let r1 := anyK s L c 4
    let r2 := want s L r1.2 wEq
    let r3 := ex r2.2
    let r4 := want s L r3.2 wSemi
    (asN 14 ([r1.1] ++ [r2.1] ++ [r3.1] ++ [r4.1]) r4.2, r4.2)
def stmtF (st : Cu → Nd × Cu) (ex : Cu → Nd × Cu) (c : Cu) : Nd × Cu :=
  match down s L c with
  | (false, c1) => (zN, c1)
  | (true, c1) => ((oneF s L st ex c1).1, up (oneF s L st ex c1).2)
def stmtD : Nat → Cu → Nd × Cu
  | 0 => stmtF s L (fun c => (zN, c)) (fun c => (zN, c))
  | d + 1 => stmtF s L (stmtD d) (exprD s L d)
def stmts (c : Cu) : List Nd × Cu := stmtsF s L (stmtD s L (200 - c.deep)) c
def named2 (k : Int) (c : Cu) : Nd × Cu :=
  let r1 := typ s L c
  let r2 := anyK s L r1.2 4
  (asN k [r1.1, r2.1] r2.2, r2.2)
def field (c : Cu) : Nd × Cu :=
  let r1 := typ s L c
  let r2 := anyK s L r1.2 4
  let r3 := want s L r2.2 wSemi
  (asN 5 [r1.1, r2.1, r3.1] r3.2, r3.2)
def parLoop : Nat → List Nd → Cu → List Nd × Cu
  | 0, l, c => (l, c)
  | f + 1, l, c => if isB s L c 0 wComma = true then parLoop f (l ++ [(want s L c wComma).1] ++ [(named2 s L 7 (want s L c wComma).2).1]) (named2 s L 7 (want s L c wComma).2).2 else (l, c)
def params (l : List Nd) (c : Cu) : List Nd × Cu :=
  if isB s L c 0 wRP = true then (l, c) else parLoop s L (L.length + 1) (l ++ [(named2 s L 7 c).1]) (named2 s L 7 c).2
def method (c : Cu) : Nd × Cu :=
  let r1 := want s L c wPublic
  let r2 := typ s L r1.2
  let r3 := anyK s L r2.2 4
  let r4 := want s L r3.2 wLP
  let r5 := params s L [r1.1, r2.1, r3.1, r4.1] r4.2
  let r6 := wants s L [wRP, wLC] r5.2
  let r7 := vars s L r6.2
  let r8 := stmts s L r7.2
  let r9 := want s L r8.2 wReturn
  let ra := expr s L r9.2
  let rb := wants s L [wSemi, wRC] ra.2
  (asN 6 (r5.1 ++ r6.1 ++ r7.1 ++ r8.1 ++ [r9.1] ++ [ra.1] ++ rb.1) rb.2, rb.2)
def mainB (c : Cu) : Bool := isB s L c 2 wLC && (isB s L c 3 wPublic && isB s L c 4 wStatic)
def main (c : Cu) : Nd × Cu :=
  let r1 := want s L c wClass
  let r2 := anyK s L r1.2 4
  let r3 := wants s L [wLC, wPublic, wStatic, wVoid, wMain, wLP, wStr, wLB, wRB] r2.2
  let r4 := anyK s L r3.2 4
  let r5 := wants s L [wRP, wLC] r4.2
  let r6 := stmts s L r5.2
  let r7 := wants s L [wRC, wRC] r6.2
  (asN 3 ([r1.1] ++ [r2.1] ++ r3.1 ++ [r4.1] ++ r5.1 ++ r6.1 ++ r7.1) r7.2, r7.2)
def fieldB (c : Cu) : Bool := decide (0 < left L c) && (!isB s L c 0 wPublic && !isB s L c 0 wRC)
def super (c : Cu) : List Nd × Cu :=
  if isB s L c 0 wExtends = true then ([(want s L c wExtends).1, (anyK s L (want s L c wExtends).2 4).1], (anyK s L (want s L c wExtends).2 4).2) else ([], c)
def cls (c : Cu) : Nd × Cu :=
  if mainB s L c = true then main s L c else
  let r1 := want s L c wClass
  let r2 := anyK s L r1.2 4
  let r3 := super s L r2.2
  let r4 := want s L r3.2 wLC
  let r5 := sevLoop (fieldB s L) (field s L) (L.length + 1) ([r1.1, r2.1] ++ r3.1 ++ [r4.1]) r4.2
  let r6 := sevLoop (fun c => isB s L c 0 wPublic) (method s L) (L.length + 1) r5.1 r5.2
  let r7 := want s L r6.2 wRC
  (asN 4 (r6.1 ++ [r7.1]) r7.2, r7.2)
def classes : List Nd × Cu := sevLoop (fun c => decide (0 < left L c)) (cls s L) (L.length + 1) [] ⟨0, 0, 0, 0⟩
end
end Go.Proofs.YtbfkkepdeepdeaaGreatDoor
end
section
namespace Go.Proofs.YtbfkkepdeepdeaaGreatDoor
set_option linter.unusedVariables false
structure Nm where
  text : ByteArray
  pos : Int
structure Vr where
  typ : Nm
  name : Nm
  fr : Int
  «to» : Int
structure Ex where
  kind : Int
  name : Nm
  num : Int
  fr : Int
  «to» : Int
  kids : List Ex
structure St where
  kind : Int
  name : Nm
  fr : Int
  «to» : Int
  exps : List Ex
  kids : List St
structure Me where
  typ : Nm
  name : Nm
  params : List Vr
  vars : List Vr
  body : List St
  ret : Ex
structure Cl where
  main : Bool
  name : Nm
  super : Nm
  fields : List Vr
  methods : List Me
  arg : Nm
  body : List St
structure En where
  file : Int
  cls : Cl
def zNm : Nm := ⟨noB, 0⟩
def zVr : Vr := ⟨zNm, zNm, 0, 0⟩
def zEx : Ex := ⟨0, zNm, 0, 0, 0, []⟩
def zSt : St := ⟨0, zNm, 0, 0, [], []⟩
def zMe : Me := ⟨zNm, zNm, [], [], [], zEx⟩
def zCl : Cl := ⟨false, zNm, zNm, [], [], zNm, []⟩
def figB (c : UInt8) : Bool := decide (48 ≤ c.toNat) && decide (c.toNat ≤ 57)
def numVal (l : List UInt8) : Nat := l.foldl (fun n c => 10 * n + (c.toNat - 48)) 0
def numOf (l : List UInt8) : Option Int :=
  if 0 < l.length ∧ l.length ≤ 10 ∧ l.all figB = true ∧ (l.length = 1 ∨ l.head? ≠ some 48) ∧ numVal l ≤ 2147483647 then some (numVal l : Nat) else none
def kidOf (n : Nd) (i : Nat) : Nd := n.kids.getD i zN
def nmOf (n : Nd) : Nm := ⟨n.text, n.pos⟩
def leavesF : Nat → Nd → List Nd
  | 0, _ => []
  | f + 1, n => if n.kind = 1 then [n] else n.kids.flatMap (leavesF f)
def deepF : Nat := 20000
def leaves (n : Nd) : List Nd := leavesF deepF n
def spanL (l : List Nd) : Int × Int := match l.head?, l.getLast? with
  | some a, some b => (a.pos, b.pos + b.text.size)
  | _, _ => (0, 0)
def spanOf (n : Nd) : Int × Int := spanL (leaves n)
abbrev wBrackets : ByteArray := ⟨#[91, 93]⟩
def typedOf (n : Nd) : Nm := if 1 < n.kids.length then ⟨(nmOf (kidOf n 0)).text ++ wBrackets, (nmOf (kidOf n 0)).pos⟩ else nmOf (kidOf n 0)
def varOf (n : Nd) : Vr := ⟨typedOf (kidOf n 0), nmOf (kidOf n 1), (spanOf n).1, (spanOf n).2⟩
def whereOf (k : Int) : Int := if k = 28 then 0 else if k = 24 then 2 else if k = 31 then 1 else -1
def vexp : Nat → Nd → Ex
  | 0, _ => zEx
  | f + 1, n =>
    if n.kind = 32 then vexp f (kidOf n 1)
    else ⟨n.kind, (if whereOf n.kind < 0 then zNm else nmOf (kidOf n (whereOf n.kind).toNat)),
      (if n.kind = 25 then (numOf (kidOf n 0).text.data.toList).getD 0 else 0), (spanOf n).1, (spanOf n).2, (n.kids.filter (fun k => k.kind ≠ 1)).map (vexp f)⟩
def expOfN (n : Nd) : Ex := vexp deepF n
def isStB (k : Int) : Bool := decide (10 ≤ k) && decide (k ≤ 15)
def vstmt : Nat → Nd → St
  | 0, _ => zSt
  | f + 1, n => ⟨n.kind, (if n.kind = 14 ∨ n.kind = 15 then nmOf (kidOf n 0) else zNm), (spanOf n).1, (spanOf n).2,
      (n.kids.filter (fun k => !isStB k.kind && decide (k.kind ≠ 1))).map expOfN, (n.kids.filter (fun k => isStB k.kind)).map (vstmt f)⟩
def stmtOfN (n : Nd) : St := vstmt deepF n
def otherB (k : Int) : Bool := !decide (k = 7) && (!decide (k = 8) && (!isStB k && decide (k ≠ 1)))
def methodOf (n : Nd) : Me :=
  let l := n.kids.drop 3
  ⟨typedOf (kidOf n 1), nmOf (kidOf n 2), (l.filter (fun k => k.kind = 7)).map varOf, (l.filter (fun k => k.kind = 8)).map varOf,
    (l.filter (fun k => isStB k.kind)).map stmtOfN, (((l.filter (fun k => otherB k.kind)).map expOfN).getLast?).getD zEx⟩
def bodyOf (n : Nd) : List St := (n.kids.filter (fun k => isStB k.kind)).map stmtOfN
def classOf (n : Nd) : Cl :=
  if n.kind = 3 then ⟨true, nmOf (kidOf n 1), zNm, [], [], nmOf (kidOf n 11), bodyOf n⟩
  else ⟨false, nmOf (kidOf n 1), (if (kidOf n 2).text = wExtends then nmOf (kidOf n 3) else zNm),
    (n.kids.filter (fun k => k.kind = 5)).map varOf, (n.kids.filter (fun k => k.kind = 6)).map methodOf, zNm, []⟩
end Go.Proofs.YtbfkkepdeepdeaaGreatDoor
end
section
namespace Go.Proofs.YtbfkkepdeepdeaaGreatDoor
set_option linter.unusedVariables false
def letB (c : UInt8) : Bool := (decide (97 ≤ c.toNat) && decide (c.toNat ≤ 122)) || ((decide (65 ≤ c.toNat) && decide (c.toNat ≤ 90)) || decide (c.toNat = 95))
def blankB (c : UInt8) : Bool := decide (c.toNat = 9) || (decide (c.toNat = 10) || (decide (c.toNat = 13) || decide (c.toNat = 32)))
def insB (c : UInt8) : Bool := letB c || figB c
def keyL : List ByteArray := [wClass, wExtends, wPublic, wStatic, wVoid, wMain, wStr, wInt, wBoolean, wReturn, wIf, wElse, wWhile, wTrue, wFalse, wThis, wNew, wLength]
def keyB (l : List UInt8) : Bool := keyL.any (fun w => decide (w.data.toList = l))
def wordB (l : List UInt8) : Bool := match l with
  | [] => false
  | c :: r => letB c && (r.all insB && decide (l.length ≤ 64))
def runL (p : UInt8 → Bool) (l : List UInt8) : Nat := (l.takeWhile p).length
def closeL : List UInt8 → Option Nat
  | 42 :: 47 :: _ => some 2
  | _ :: r => (closeL r).map (· + 1)
  | [] => none
def pre (p l : List UInt8) : Bool := p.isPrefixOf l
def printL : List UInt8 := wPrint.data.toList
def signL : List UInt8 := [123, 125, 40, 41, 91, 93, 59, 44, 46, 61, 60, 43, 45, 42, 33]
structure Fl where
  name : ByteArray
  text : ByteArray
end Go.Proofs.YtbfkkepdeepdeaaGreatDoor
end
section
namespace Go.Proofs.YtbfkkepdeepdeaaGreatDoor
set_option linter.unusedVariables false
set_option maxRecDepth 100000
structure Adv (L : List Tok) (c c' : Cu) : Prop where
  err : c'.err = 0 → c.err = 0
  next : c.next ≤ c'.next
  top : c.next ≤ L.length → c'.next ≤ L.length
  deep : c'.deep = c.deep
section
variable {s : ByteArray} {L : List Tok}
theorem Adv.refl (c : Cu) : Adv L c c := ⟨id, Nat.le_refl _, id, rfl⟩
theorem Adv.trans {a b c : Cu} (h : Adv L a b) (k : Adv L b c) : Adv L a c := ⟨fun e => h.err (k.err e), Nat.le_trans h.next k.next, fun e => k.top (h.top e), k.deep.trans h.deep⟩
theorem Adv.leftLe {c c' : Cu} (h : Adv L c c') : left L c' ≤ left L c := by
  unfold left
  by_cases e : c'.err = 0
  · rw [if_pos e, if_pos (h.err e)]; have := h.next; omega
  · rw [if_neg e]; omega
theorem failB_adv (c : Cu) (e : Int) (he : e ≠ 0) : Adv L c (failB s L c e) := by
  unfold failB; split
  · exact ⟨fun h => absurd h he, Nat.le_refl _, id, rfl⟩
  · exact Adv.refl _
theorem tokAt_zero {c : Cu} {t : Tok} (h : tokAt L c 0 = some t) : c.err = 0 ∧ c.next < L.length := by
  unfold tokAt at h
  split at h
  · rename_i e; exact ⟨e, by have := (List.getElem?_eq_some_iff.1 h).1; simpa using this⟩
  · cases h
theorem take_adv (c : Cu) (b : Bool) : Adv L c (take s L c b).2 := by
  unfold take; split
  · rename_i t h; have := tokAt_zero h; exact ⟨fun _ => this.1, Nat.le_succ _, fun _ => this.2, rfl⟩
  · exact failB_adv c 2 (by decide)
theorem any_adv (c : Cu) (k : Int) : Adv L c (anyK s L c k).2 := take_adv c _
theorem want_adv (c : Cu) (t : ByteArray) : Adv L c (want s L c t).2 := take_adv c _
theorem isB_tok {c : Cu} {k : Nat} {t : ByteArray} (h : isB s L c k t = true) : ∃ x, tokAt L c k = some x ∧ (x.kind = 3 ∨ x.kind = 6) ∧ x.text s = t := by
  unfold isB peek at h
  cases hx : tokAt L c k with
  | none => rw [hx] at h; simp at h
  | some x => rw [hx] at h; simp at h; exact ⟨x, rfl, h.1, h.2⟩
theorem want_ok {c : Cu} {t : ByteArray} (h : isB s L c 0 t = true) : ∃ x, tokAt L c 0 = some x ∧ want s L c t = (leafOf s L c x, { c with next := c.next + 1 }) := by
  obtain ⟨x, hx, -, -⟩ := isB_tok h
  refine ⟨x, hx, ?_⟩
  unfold want take
  rw [h, hx]
theorem left_pos {c : Cu} {t : Tok} (h : tokAt L c 0 = some t) : 0 < left L c := by
  obtain ⟨e, hn⟩ := tokAt_zero h
  unfold left; rw [if_pos e]; omega
theorem want_left {c : Cu} {t : ByteArray} (h : isB s L c 0 t = true) : left L (want s L c t).2 < left L c := by
  obtain ⟨x, hx, hw⟩ := want_ok h
  rw [hw]
  obtain ⟨e, hn⟩ := tokAt_zero hx
  show (if c.err = 0 then L.length - (c.next + 1) else 0) < (if c.err = 0 then L.length - c.next else 0)
  rw [if_pos e, if_pos e]; omega
theorem isB_left {c : Cu} {k : Nat} {t : ByteArray} (h : left L c = 0) : isB s L c k t = false := by
  cases hb : isB s L c k t with
  | false => rfl
  | true =>
    obtain ⟨x, hx, -, -⟩ := isB_tok hb
    unfold tokAt at hx
    unfold left at h
    split at hx
    · rename_i e; rw [if_pos e] at h
      have := (List.getElem?_eq_some_iff.1 hx).1; omega
    · cases hx
theorem down_adv {c c1 : Cu} (h : down s L c = (false, c1)) : Adv L c c1 := by
  unfold down at h
  split at h
  · split at h
    · cases h
    · injection h with _ h; subst h; exact failB_adv c 3 (by decide)
  · injection h with _ h; subst h; exact Adv.refl _
theorem down_true {c c1 : Cu} (h : down s L c = (true, c1)) : c.err = 0 ∧ c.deep < 200 ∧ c1 = { c with deep := c.deep + 1 } := by
  unfold down at h
  split at h
  · rename_i e
    split at h
    · rename_i d; injection h with _ h; exact ⟨e, d, h.symm⟩
    · injection h with h; cases h
  · injection h with h; cases h
theorem deeper_adv {c c1 c2 : Cu} (h : down s L c = (true, c1)) (k : Adv L c1 c2) : Adv L c (up c2) := by
  obtain ⟨e, d, rfl⟩ := down_true h
  exact ⟨fun _ => e, k.next, k.top, by show c2.deep - 1 = c.deep; rw [k.deep]; rfl⟩
theorem binLoop_adv {lvl : Nat} {sub : Cu → Nd × Cu} (hs : ∀ c, Adv L c (sub c).2) : ∀ (f : Nat) (n : Nd) (c : Cu), Adv L c (binLoop s L lvl sub f n c).2
  | 0, n, c => Adv.refl c
  | f + 1, n, c => by
    unfold binLoop; split
    · exact ((want_adv _ _).trans (hs _)).trans (binLoop_adv hs f _ _)
    · exact Adv.refl c
theorem bin_adv {lvl : Nat} {sub : Cu → Nd × Cu} (hs : ∀ c, Adv L c (sub c).2) (c : Cu) : Adv L c (bin s L lvl sub c).2 := (hs c).trans (binLoop_adv hs _ _ _)
theorem within_adv {inner : Cu → List Nd × Cu} (hi : ∀ c, Adv L c (inner c).2) (o e : ByteArray) (c : Cu) : Adv L c (within s L inner o e c).2 := by
  unfold within
  cases hd : down s L c with
  | mk b c1 =>
    cases b with
    | false => exact down_adv hd
    | true => exact deeper_adv hd (((want_adv _ _).trans (hi _)).trans (want_adv _ _))
theorem argLoop_adv {exp : Cu → Nd × Cu} (he : ∀ c, Adv L c (exp c).2) : ∀ (f : Nat) (l : List Nd) (c : Cu), Adv L c (argLoop s L exp f l c).2
  | 0, l, c => Adv.refl c
  | f + 1, l, c => by
    unfold argLoop; split
    · exact ((want_adv _ _).trans (he _)).trans (argLoop_adv he f _ _)
    · exact Adv.refl c
theorem args_adv {exp : Cu → Nd × Cu} (he : ∀ c, Adv L c (exp c).2) (c : Cu) : Adv L c (argsE s L exp c).2 := by
  unfold argsE; split
  · exact Adv.refl c
  · exact (he c).trans (argLoop_adv he _ _ _)
theorem point_adv {exp : Cu → Nd × Cu} (he : ∀ c, Adv L c (exp c).2) (n : Nd) (c : Cu) : Adv L c (point s L exp n c).2 := by
  unfold point
  simp only
  split
  · exact (want_adv _ _).trans (want_adv _ _)
  · exact ((want_adv _ _).trans (any_adv _ _)).trans (within_adv (args_adv he) _ _ _)
theorem behind_adv {exp : Cu → Nd × Cu} (he : ∀ c, Adv L c (exp c).2) : ∀ (f : Nat) (n : Nd) (c : Cu), Adv L c (behind s L exp f n c).2
  | 0, n, c => Adv.refl c
  | f + 1, n, c => by
    unfold behind; split
    · exact (within_adv (inner := oneE exp) (fun c => he c) _ _ _).trans (behind_adv he f _ _)
    · split
      · exact (point_adv he _ _).trans (behind_adv he f _ _)
      · exact Adv.refl c
theorem fresh_adv {exp : Cu → Nd × Cu} (he : ∀ c, Adv L c (exp c).2) (c : Cu) : Adv L c (fresh s L exp c).2 := by
  unfold fresh
  simp only
  split
  · exact ((want_adv _ _).trans (want_adv _ _)).trans (within_adv (inner := oneE exp) (fun c => he c) _ _ _)
  · exact (((want_adv _ _).trans (any_adv _ _)).trans (want_adv _ _)).trans (want_adv _ _)
theorem operand_adv {exp : Cu → Nd × Cu} (he : ∀ c, Adv L c (exp c).2) (c : Cu) : Adv L c (operand s L exp c).2 := by
  unfold operand; split
  · exact any_adv _ _
  · split
    · exact fresh_adv he c
    · split
      · exact within_adv (inner := oneE exp) (fun c => he c) _ _ _
      · exact failB_adv c 2 (by decide)
theorem factor_adv {exp fac : Cu → Nd × Cu} (he : ∀ c, Adv L c (exp c).2) (hf : ∀ c, Adv L c (fac c).2) (c : Cu) : Adv L c (factorF s L exp fac c).2 := by
  unfold factorF; split
  · cases hd : down s L c with
    | mk b c1 =>
      cases b with
      | false => exact down_adv hd
      | true => exact deeper_adv hd ((want_adv _ _).trans (hf _))
  · exact (operand_adv he c).trans (behind_adv he _ _ _)
theorem expOf_adv {fac : Cu → Nd × Cu} (hf : ∀ c, Adv L c (fac c).2) (c : Cu) : Adv L c (expOf s L fac c).2 := bin_adv (bin_adv (bin_adv (bin_adv hf))) c
theorem facD_adv : ∀ (d : Nat) (c : Cu), Adv L c (facD s L d c).2
  | 0, c => factor_adv (fun c => Adv.refl c) (fun c => Adv.refl c) c
  | d + 1, c => factor_adv (expOf_adv (facD_adv d)) (facD_adv d) c
theorem expD_adv (d : Nat) (c : Cu) : Adv L c (expD s L d c).2 := expOf_adv (facD_adv d) c
theorem exprD_adv (d : Nat) (c : Cu) : Adv L c (exprD s L d c).2 := expD_adv d c
theorem expr_adv (c : Cu) : Adv L c (expr s L c).2 := expD_adv _ c
theorem wants_adv : ∀ (l : List ByteArray) (c : Cu), Adv L c (wants s L l c).2
  | [], c => Adv.refl c
  | t :: r, c => (want_adv c t).trans (wants_adv r _)
theorem typ_adv (c : Cu) : Adv L c (typ s L c).2 := by
  unfold typ; split
  · exact wants_adv _ _
  · exact any_adv _ _
theorem var_adv (c : Cu) : Adv L c (var s L c).2 := ((typ_adv c).trans (any_adv _ _)).trans (want_adv _ _)
theorem field_adv (c : Cu) : Adv L c (field s L c).2 := ((typ_adv c).trans (any_adv _ _)).trans (want_adv _ _)
theorem named2_adv (k : Int) (c : Cu) : Adv L c (named2 s L k c).2 := (typ_adv c).trans (any_adv _ _)
theorem sevLoop_adv {b : Cu → Bool} {rd : Cu → Nd × Cu} (hr : ∀ c, Adv L c (rd c).2) : ∀ (f : Nat) (l : List Nd) (c : Cu), Adv L c (sevLoop b rd f l c).2
  | 0, l, c => Adv.refl c
  | f + 1, l, c => by
    unfold sevLoop; split
    · exact (hr _).trans (sevLoop_adv hr f _ _)
    · exact Adv.refl c
theorem several_adv {b : Cu → Bool} {rd : Cu → Nd × Cu} (hr : ∀ c, Adv L c (rd c).2) (c : Cu) : Adv L c (several L b rd c).2 := sevLoop_adv hr _ _ _
theorem vars_adv (c : Cu) : Adv L c (vars s L c).2 := several_adv var_adv c
theorem stmtsF_adv {st : Cu → Nd × Cu} (hs : ∀ c, Adv L c (st c).2) (c : Cu) : Adv L c (stmtsF s L st c).2 := several_adv hs c
theorem oneF_adv {st ex : Cu → Nd × Cu} (hs : ∀ c, Adv L c (st c).2) (he : ∀ c, Adv L c (ex c).2) (c : Cu) : Adv L c (oneF s L st ex c).2 := by
  unfold oneF
  simp only
  split
  · exact ((want_adv _ _).trans (stmtsF_adv hs _)).trans (want_adv _ _)
  · split
    · exact (((((wants_adv _ _).trans (he _)).trans (want_adv _ _)).trans (hs _)).trans (want_adv _ _)).trans (hs _)
    · split
      · exact (((wants_adv _ _).trans (he _)).trans (want_adv _ _)).trans (hs _)
      · split
        · exact ((wants_adv _ _).trans (he _)).trans (wants_adv _ _)
        · split
          · exact failB_adv c 2 (by decide)
          · split
            · exact (((((any_adv _ _).trans (want_adv _ _)).trans (he _)).trans (wants_adv _ _)).trans (he _)).trans (want_adv _ _)
            · exact (((any_adv _ _).trans (want_adv _ _)).trans (he _)).trans (want_adv _ _)
theorem stmtF_adv {st ex : Cu → Nd × Cu} (hs : ∀ c, Adv L c (st c).2) (he : ∀ c, Adv L c (ex c).2) (c : Cu) : Adv L c (stmtF s L st ex c).2 := by
  unfold stmtF
  cases hd : down s L c with
  | mk b c1 =>
    cases b with
    | false => exact down_adv hd
    | true => exact deeper_adv hd (oneF_adv hs he _)
theorem stmtD_adv : ∀ (d : Nat) (c : Cu), Adv L c (stmtD s L d c).2
  | 0, c => stmtF_adv (fun c => Adv.refl c) (fun c => Adv.refl c) c
  | d + 1, c => stmtF_adv (stmtD_adv d) (exprD_adv d) c
theorem stmts_adv (c : Cu) : Adv L c (stmts s L c).2 := stmtsF_adv (stmtD_adv _) c
theorem parLoop_adv : ∀ (f : Nat) (l : List Nd) (c : Cu), Adv L c (parLoop s L f l c).2
  | 0, l, c => Adv.refl c
  | f + 1, l, c => by
    unfold parLoop; split
    · exact ((want_adv _ _).trans (named2_adv _ _)).trans (parLoop_adv f _ _)
    · exact Adv.refl c
theorem params_adv (l : List Nd) (c : Cu) : Adv L c (params s L l c).2 := by
  unfold params; split
  · exact Adv.refl c
  · exact (named2_adv _ _).trans (parLoop_adv _ _ _)
theorem method_adv (c : Cu) : Adv L c (method s L c).2 :=
  ((((((((((want_adv _ _).trans (typ_adv _)).trans (any_adv _ _)).trans (want_adv _ _)).trans (params_adv _ _)).trans (wants_adv _ _)).trans (vars_adv _)).trans (stmts_adv _)).trans (want_adv _ _)).trans (expr_adv _)).trans (wants_adv _ _)
theorem main_adv (c : Cu) : Adv L c (main s L c).2 :=
  ((((((want_adv _ _).trans (any_adv _ _)).trans (wants_adv _ _)).trans (any_adv _ _)).trans (wants_adv _ _)).trans (stmts_adv _)).trans (wants_adv _ _)
theorem super_adv (c : Cu) : Adv L c (super s L c).2 := by
  unfold super; split
  · exact (want_adv _ _).trans (any_adv _ _)
  · exact Adv.refl c
theorem cls_adv (c : Cu) : Adv L c (cls s L c).2 := by
  unfold cls; split
  · exact main_adv c
  · exact ((((((want_adv _ _).trans (any_adv _ _)).trans (super_adv _)).trans (want_adv _ _)).trans (sevLoop_adv field_adv _ _ _)).trans (sevLoop_adv method_adv _ _ _)).trans (want_adv _ _)
end
end Go.Proofs.YtbfkkepdeepdeaaGreatDoor
end
section
namespace Go.Proofs.YtbfkkepdeepdeaaGreatDoor
open Go.RowKit Go.Proofs.YtbfkkepdeepdeaaGreatDoorW.PrintWords Go.Proofs.YtbfkkepdeepdeaaGreatDoorW.PrintLast Go.Proofs.YtbfkkepdeepdeaaGreatDoorW.PrintMore
set_option linter.unusedVariables false
set_option linter.unusedSimpArgs false
def zTok : Tok := ⟨0, 0, 0⟩
def zEn : En := ⟨0, zCl⟩
def zNd : Nd := zN
abbrev cTok (x : Tok) : List Value := [.int .i64 x.kind, .int .i64 x.fr, .int .i64 x.to]
abbrev aTok (x : Tok) : Array Value := #[.int .i64 x.kind, .int .i64 x.fr, .int .i64 x.to]
abbrev cNd (x : Nd) (A0 : Option Addr) (c0 : Nat) : List Value := [.int .i64 x.kind, .string x.gap, .string x.text, .int .i64 x.pos, .slice A0 x.kids.length c0]
abbrev aNd (x : Nd) (A0 : Option Addr) (c0 : Nat) : Array Value := #[.int .i64 x.kind, .string x.gap, .string x.text, .int .i64 x.pos, .slice A0 x.kids.length c0]
abbrev cNm (x : Nm) : List Value := [.string x.text, .int .i64 x.pos]
abbrev aNm (x : Nm) : Array Value := #[.string x.text, .int .i64 x.pos]
abbrev cVr (x : Vr) : List Value := [.string x.typ.text, .int .i64 x.typ.pos, .string x.name.text, .int .i64 x.name.pos, .int .i64 x.fr, .int .i64 x.to]
abbrev cEx (x : Ex) (A0 : Option Addr) (c0 : Nat) : List Value := [.int .i64 x.kind, .string x.name.text, .int .i64 x.name.pos, .int .i64 x.num, .int .i64 x.fr, .int .i64 x.to, .slice A0 x.kids.length c0]
abbrev aEx (x : Ex) (A0 : Option Addr) (c0 : Nat) : Array Value := #[.int .i64 x.kind, .string x.name.text, .int .i64 x.name.pos, .int .i64 x.num, .int .i64 x.fr, .int .i64 x.to, .slice A0 x.kids.length c0]
abbrev cSt (x : St) (A0 : Option Addr) (c0 : Nat) (A1 : Option Addr) (c1 : Nat) : List Value := [.int .i64 x.kind, .string x.name.text, .int .i64 x.name.pos, .int .i64 x.fr, .int .i64 x.to, .slice A0 x.exps.length c0, .slice A1 x.kids.length c1]
abbrev aSt (x : St) (A0 : Option Addr) (c0 : Nat) (A1 : Option Addr) (c1 : Nat) : Array Value := #[.int .i64 x.kind, .string x.name.text, .int .i64 x.name.pos, .int .i64 x.fr, .int .i64 x.to, .slice A0 x.exps.length c0, .slice A1 x.kids.length c1]
abbrev cMe (x : Me) (A0 : Option Addr) (c0 : Nat) (A1 : Option Addr) (c1 : Nat) (A2 : Option Addr) (c2 : Nat) (A3 : Option Addr) (c3 : Nat) : List Value := [.string x.typ.text, .int .i64 x.typ.pos, .string x.name.text, .int .i64 x.name.pos, .slice A0 x.params.length c0, .slice A1 x.vars.length c1, .slice A2 x.body.length c2, .int .i64 x.ret.kind, .string x.ret.name.text, .int .i64 x.ret.name.pos, .int .i64 x.ret.num, .int .i64 x.ret.fr, .int .i64 x.ret.to, .slice A3 x.ret.kids.length c3]
abbrev aMe (x : Me) (A0 : Option Addr) (c0 : Nat) (A1 : Option Addr) (c1 : Nat) (A2 : Option Addr) (c2 : Nat) (A3 : Option Addr) (c3 : Nat) : Array Value := #[.string x.typ.text, .int .i64 x.typ.pos, .string x.name.text, .int .i64 x.name.pos, .slice A0 x.params.length c0, .slice A1 x.vars.length c1, .slice A2 x.body.length c2, .int .i64 x.ret.kind, .string x.ret.name.text, .int .i64 x.ret.name.pos, .int .i64 x.ret.num, .int .i64 x.ret.fr, .int .i64 x.ret.to, .slice A3 x.ret.kids.length c3]
abbrev cCl (x : Cl) (A0 : Option Addr) (c0 : Nat) (A1 : Option Addr) (c1 : Nat) (A2 : Option Addr) (c2 : Nat) : List Value := [.bool x.main, .string x.name.text, .int .i64 x.name.pos, .string x.super.text, .int .i64 x.super.pos, .slice A0 x.fields.length c0, .slice A1 x.methods.length c1, .string x.arg.text, .int .i64 x.arg.pos, .slice A2 x.body.length c2]
abbrev aCl (x : Cl) (A0 : Option Addr) (c0 : Nat) (A1 : Option Addr) (c1 : Nat) (A2 : Option Addr) (c2 : Nat) : Array Value := #[.bool x.main, .string x.name.text, .int .i64 x.name.pos, .string x.super.text, .int .i64 x.super.pos, .slice A0 x.fields.length c0, .slice A1 x.methods.length c1, .string x.arg.text, .int .i64 x.arg.pos, .slice A2 x.body.length c2]
abbrev cEn (x : En) (A0 : Option Addr) (c0 : Nat) (A1 : Option Addr) (c1 : Nat) (A2 : Option Addr) (c2 : Nat) : List Value := [.int .i64 x.file, .bool x.cls.main, .string x.cls.name.text, .int .i64 x.cls.name.pos, .string x.cls.super.text, .int .i64 x.cls.super.pos, .slice A0 x.cls.fields.length c0, .slice A1 x.cls.methods.length c1, .string x.cls.arg.text, .int .i64 x.cls.arg.pos, .slice A2 x.cls.body.length c2]
def kTok : Kd Tok := Kd.iso (Kd.pair (Kd.int .i64) (Kd.pair (Kd.int .i64) (Kd.int .i64))) (fun x : Tok => (x.kind, x.fr, x.to))
theorem kTok_open {w : World} {x : Tok} {cs : List Value} (h : kTok.K w x cs) : cs = cTok x := by
  obtain ⟨_, _, rfl, rfl, ⟨_, _, rfl, rfl, rfl⟩⟩ := h
  rfl
theorem kTok_mk (w : World) (x : Tok) : kTok.K w x (cTok x) := by
  exact ⟨[.int .i64 x.kind], [.int .i64 x.fr, .int .i64 x.to], rfl, rfl, ⟨[.int .i64 x.fr], [.int .i64 x.to], rfl, rfl, rfl⟩⟩
theorem kTok_at {w w' : World} (up : ∀ a v, w.cell? a = some v → w'.cell? a = some v) {A : Option Addr} {n : Nat} {xs : List Tok} (h : kTok.C w A n xs) (i : Nat) (hi : i < n) : ∃ ad, A = some ad ∧ w'.cell? (ad.add (i * 3)) = some (.int .i64 (xs.getD i zTok).kind) ∧ w'.cell? ⟨(ad.add (i * 3)).block, (ad.add (i * 3)).off + 1, none⟩ = some (.int .i64 (xs.getD i zTok).fr) ∧ w'.cell? ⟨(ad.add (i * 3)).block, (ad.add (i * 3)).off + 2, none⟩ = some (.int .i64 (xs.getD i zTok).to) := by
  obtain ⟨ad, c, e, _, hK, hc0⟩ := Kd.C_get h zTok (i : Int) (by omega) (by omega)
  rw [Int.toNat_natCast] at hK hc0
  have hc : ∀ j u, c[j]? = some u → w'.cell? (ad.add (i * 3 + j)) = some u := fun j u h => up _ _ (hc0 j u h)
  obtain rfl := kTok_open hK
  exact ⟨ad, e, hc 0 _ rfl, by rw [← add_field _ _ 1 (by omega)]; exact hc 1 _ rfl, by rw [← add_field _ _ 2 (by omega)]; exact hc 2 _ rfl⟩
def FkNd (d : Kd Nd) : Kd Nd := Kd.iso (Kd.pair (Kd.int .i64) (Kd.pair Kd.string (Kd.pair Kd.string (Kd.pair (Kd.int .i64) (Kd.slice 122 d))))) (fun x : Nd => (x.kind, x.gap, x.text, x.pos, x.kids))
theorem monokNd : Kd.Mono FkNd := Kd.mono_iso _ (Kd.mono_pair (Kd.mono_const _) (Kd.mono_pair (Kd.mono_const _) (Kd.mono_pair (Kd.mono_const _) (Kd.mono_pair (Kd.mono_const _) (Kd.mono_slice 122 Kd.mono_id)))))
theorem subkNd : Kd.Sub FkNd [122] := Kd.sub_iso _ (Kd.sub_pair (Kd.sub_const _ (by decide)) (Kd.sub_pair (Kd.sub_const _ (by decide)) (Kd.sub_pair (Kd.sub_const _ (by decide)) (Kd.sub_pair (Kd.sub_const _ (by decide)) (Kd.sub_slice 122 (by decide) Kd.sub_id)))))
theorem szkNd : ∀ n, (Kd.upto FkNd 5 [122] n).sz = 5 := Kd.upto_sz (fun _ => rfl)
def kNd : Kd Nd := Kd.fix FkNd 5 [122] szkNd (Kd.upto_E subkNd)
theorem kNd_open {w : World} {x : Nd} {cs : List Value} (h : kNd.K w x cs) : ∃ A0 c0, cs = cNd x A0 c0 ∧ x.kids.length ≤ c0 ∧ kNd.C w A0 x.kids.length x.kids := by
  obtain ⟨n, h⟩ := h
  cases n with
  | zero => exact h.elim
  | succ n =>
    obtain ⟨_, _, rfl, rfl, ⟨_, _, rfl, rfl, ⟨_, _, rfl, rfl, ⟨_, _, rfl, rfl, ⟨A0, c0, rfl, l0, g0⟩⟩⟩⟩⟩ := h
    exact ⟨A0, c0, rfl, l0, (Kd.fix_C g0)⟩
theorem kNd_mk (w : World) (x : Nd) {A0 : Option Addr} {c0 : Nat} (l0 : x.kids.length ≤ c0) (g0 : kNd.C w A0 x.kids.length x.kids) : kNd.K w x (cNd x A0 c0) := by
  obtain ⟨n0, q0⟩ := Kd.fix_C_back monokNd g0
  exact ⟨n0 + 1, ⟨[.int .i64 x.kind], [.string x.gap, .string x.text, .int .i64 x.pos, .slice A0 x.kids.length c0], rfl, rfl, ⟨[.string x.gap], [.string x.text, .int .i64 x.pos, .slice A0 x.kids.length c0], rfl, rfl, ⟨[.string x.text], [.int .i64 x.pos, .slice A0 x.kids.length c0], rfl, rfl, ⟨[.int .i64 x.pos], [.slice A0 x.kids.length c0], rfl, rfl, ⟨A0, c0, rfl, l0, q0⟩⟩⟩⟩⟩⟩
theorem kNd_at {w w' : World} (up : ∀ a v, w.cell? a = some v → w'.cell? a = some v) {A : Option Addr} {n : Nat} {xs : List Nd} (h : kNd.C w A n xs) (i : Nat) (hi : i < n) : ∃ ad A0 c0, A = some ad ∧ w'.cell? (ad.add (i * 5)) = some (.int .i64 (xs.getD i zNd).kind) ∧ w'.cell? ⟨(ad.add (i * 5)).block, (ad.add (i * 5)).off + 1, none⟩ = some (.string (xs.getD i zNd).gap) ∧ w'.cell? ⟨(ad.add (i * 5)).block, (ad.add (i * 5)).off + 2, none⟩ = some (.string (xs.getD i zNd).text) ∧ w'.cell? ⟨(ad.add (i * 5)).block, (ad.add (i * 5)).off + 3, none⟩ = some (.int .i64 (xs.getD i zNd).pos) ∧ w'.cell? ⟨(ad.add (i * 5)).block, (ad.add (i * 5)).off + 4, none⟩ = some (.slice A0 (xs.getD i zNd).kids.length c0) ∧ (xs.getD i zNd).kids.length ≤ c0 ∧ kNd.C w A0 (xs.getD i zNd).kids.length (xs.getD i zNd).kids := by
  obtain ⟨ad, c, e, _, hK, hc0⟩ := Kd.C_get h zNd (i : Int) (by omega) (by omega)
  rw [Int.toNat_natCast] at hK hc0
  have hc : ∀ j u, c[j]? = some u → w'.cell? (ad.add (i * 5 + j)) = some u := fun j u h => up _ _ (hc0 j u h)
  obtain ⟨A0, c0, rfl, l0, g0⟩ := kNd_open hK
  exact ⟨ad, A0, c0, e, hc 0 _ rfl, by rw [← add_field _ _ 1 (by omega)]; exact hc 1 _ rfl, by rw [← add_field _ _ 2 (by omega)]; exact hc 2 _ rfl, by rw [← add_field _ _ 3 (by omega)]; exact hc 3 _ rfl, by rw [← add_field _ _ 4 (by omega)]; exact hc 4 _ rfl, l0, g0⟩
def kNm : Kd Nm := Kd.iso (Kd.pair Kd.string (Kd.int .i64)) (fun x : Nm => (x.text, x.pos))
theorem kNm_open {w : World} {x : Nm} {cs : List Value} (h : kNm.K w x cs) : cs = cNm x := by
  obtain ⟨_, _, rfl, rfl, rfl⟩ := h
  rfl
theorem kNm_mk (w : World) (x : Nm) : kNm.K w x (cNm x) := by
  exact ⟨[.string x.text], [.int .i64 x.pos], rfl, rfl, rfl⟩
def kVr : Kd Vr := Kd.iso (Kd.pair kNm (Kd.pair kNm (Kd.pair (Kd.int .i64) (Kd.int .i64)))) (fun x : Vr => (x.typ, x.name, x.fr, x.to))
theorem kVr_open {w : World} {x : Vr} {cs : List Value} (h : kVr.K w x cs) : cs = cVr x := by
  obtain ⟨_, _, rfl, s0, ⟨_, _, rfl, s1, ⟨_, _, rfl, rfl, rfl⟩⟩⟩ := h
  obtain rfl := kNm_open s0
  obtain rfl := kNm_open s1
  rfl
theorem kVr_at {w w' : World} (up : ∀ a v, w.cell? a = some v → w'.cell? a = some v) {A : Option Addr} {n : Nat} {xs : List Vr} (h : kVr.C w A n xs) (i : Nat) (hi : i < n) : ∃ ad, A = some ad ∧ w'.cell? (ad.add (i * 6)) = some (.string (xs.getD i zVr).typ.text) ∧ w'.cell? ⟨(ad.add (i * 6)).block, (ad.add (i * 6)).off + 1, none⟩ = some (.int .i64 (xs.getD i zVr).typ.pos) ∧ w'.cell? ⟨(ad.add (i * 6)).block, (ad.add (i * 6)).off + 2, none⟩ = some (.string (xs.getD i zVr).name.text) ∧ w'.cell? ⟨(ad.add (i * 6)).block, (ad.add (i * 6)).off + 3, none⟩ = some (.int .i64 (xs.getD i zVr).name.pos) ∧ w'.cell? ⟨(ad.add (i * 6)).block, (ad.add (i * 6)).off + 4, none⟩ = some (.int .i64 (xs.getD i zVr).fr) ∧ w'.cell? ⟨(ad.add (i * 6)).block, (ad.add (i * 6)).off + 5, none⟩ = some (.int .i64 (xs.getD i zVr).to) := by
  obtain ⟨ad, c, e, _, hK, hc0⟩ := Kd.C_get h zVr (i : Int) (by omega) (by omega)
  rw [Int.toNat_natCast] at hK hc0
  have hc : ∀ j u, c[j]? = some u → w'.cell? (ad.add (i * 6 + j)) = some u := fun j u h => up _ _ (hc0 j u h)
  obtain rfl := kVr_open hK
  exact ⟨ad, e, hc 0 _ rfl, by rw [← add_field _ _ 1 (by omega)]; exact hc 1 _ rfl, by rw [← add_field _ _ 2 (by omega)]; exact hc 2 _ rfl, by rw [← add_field _ _ 3 (by omega)]; exact hc 3 _ rfl, by rw [← add_field _ _ 4 (by omega)]; exact hc 4 _ rfl, by rw [← add_field _ _ 5 (by omega)]; exact hc 5 _ rfl⟩
def FkEx (d : Kd Ex) : Kd Ex := Kd.iso (Kd.pair (Kd.int .i64) (Kd.pair kNm (Kd.pair (Kd.int .i64) (Kd.pair (Kd.int .i64) (Kd.pair (Kd.int .i64) (Kd.slice 113 d)))))) (fun x : Ex => (x.kind, x.name, x.num, x.fr, x.to, x.kids))
theorem monokEx : Kd.Mono FkEx := Kd.mono_iso _ (Kd.mono_pair (Kd.mono_const _) (Kd.mono_pair (Kd.mono_const _) (Kd.mono_pair (Kd.mono_const _) (Kd.mono_pair (Kd.mono_const _) (Kd.mono_pair (Kd.mono_const _) (Kd.mono_slice 113 Kd.mono_id))))))
theorem subkEx : Kd.Sub FkEx [113] := Kd.sub_iso _ (Kd.sub_pair (Kd.sub_const _ (by decide)) (Kd.sub_pair (Kd.sub_const _ (by decide)) (Kd.sub_pair (Kd.sub_const _ (by decide)) (Kd.sub_pair (Kd.sub_const _ (by decide)) (Kd.sub_pair (Kd.sub_const _ (by decide)) (Kd.sub_slice 113 (by decide) Kd.sub_id))))))
theorem szkEx : ∀ n, (Kd.upto FkEx 7 [113] n).sz = 7 := Kd.upto_sz (fun _ => rfl)
def kEx : Kd Ex := Kd.fix FkEx 7 [113] szkEx (Kd.upto_E subkEx)
theorem kEx_open {w : World} {x : Ex} {cs : List Value} (h : kEx.K w x cs) : ∃ A0 c0, cs = cEx x A0 c0 ∧ x.kids.length ≤ c0 ∧ kEx.C w A0 x.kids.length x.kids := by
  obtain ⟨n, h⟩ := h
  cases n with
  | zero => exact h.elim
  | succ n =>
    obtain ⟨_, _, rfl, rfl, ⟨_, _, rfl, s1, ⟨_, _, rfl, rfl, ⟨_, _, rfl, rfl, ⟨_, _, rfl, rfl, ⟨A0, c0, rfl, l0, g0⟩⟩⟩⟩⟩⟩ := h
    obtain rfl := kNm_open s1
    exact ⟨A0, c0, rfl, l0, (Kd.fix_C g0)⟩
theorem kEx_mk (w : World) (x : Ex) {A0 : Option Addr} {c0 : Nat} (l0 : x.kids.length ≤ c0) (g0 : kEx.C w A0 x.kids.length x.kids) : kEx.K w x (cEx x A0 c0) := by
  obtain ⟨n0, q0⟩ := Kd.fix_C_back monokEx g0
  exact ⟨n0 + 1, ⟨[.int .i64 x.kind], [.string x.name.text, .int .i64 x.name.pos, .int .i64 x.num, .int .i64 x.fr, .int .i64 x.to, .slice A0 x.kids.length c0], rfl, rfl, ⟨[.string x.name.text, .int .i64 x.name.pos], [.int .i64 x.num, .int .i64 x.fr, .int .i64 x.to, .slice A0 x.kids.length c0], rfl, (kNm_mk w x.name), ⟨[.int .i64 x.num], [.int .i64 x.fr, .int .i64 x.to, .slice A0 x.kids.length c0], rfl, rfl, ⟨[.int .i64 x.fr], [.int .i64 x.to, .slice A0 x.kids.length c0], rfl, rfl, ⟨[.int .i64 x.to], [.slice A0 x.kids.length c0], rfl, rfl, ⟨A0, c0, rfl, l0, q0⟩⟩⟩⟩⟩⟩⟩
theorem kEx_at {w w' : World} (up : ∀ a v, w.cell? a = some v → w'.cell? a = some v) {A : Option Addr} {n : Nat} {xs : List Ex} (h : kEx.C w A n xs) (i : Nat) (hi : i < n) : ∃ ad A0 c0, A = some ad ∧ w'.cell? (ad.add (i * 7)) = some (.int .i64 (xs.getD i zEx).kind) ∧ w'.cell? ⟨(ad.add (i * 7)).block, (ad.add (i * 7)).off + 1, none⟩ = some (.string (xs.getD i zEx).name.text) ∧ w'.cell? ⟨(ad.add (i * 7)).block, (ad.add (i * 7)).off + 2, none⟩ = some (.int .i64 (xs.getD i zEx).name.pos) ∧ w'.cell? ⟨(ad.add (i * 7)).block, (ad.add (i * 7)).off + 3, none⟩ = some (.int .i64 (xs.getD i zEx).num) ∧ w'.cell? ⟨(ad.add (i * 7)).block, (ad.add (i * 7)).off + 4, none⟩ = some (.int .i64 (xs.getD i zEx).fr) ∧ w'.cell? ⟨(ad.add (i * 7)).block, (ad.add (i * 7)).off + 5, none⟩ = some (.int .i64 (xs.getD i zEx).to) ∧ w'.cell? ⟨(ad.add (i * 7)).block, (ad.add (i * 7)).off + 6, none⟩ = some (.slice A0 (xs.getD i zEx).kids.length c0) ∧ (xs.getD i zEx).kids.length ≤ c0 ∧ kEx.C w A0 (xs.getD i zEx).kids.length (xs.getD i zEx).kids := by
  obtain ⟨ad, c, e, _, hK, hc0⟩ := Kd.C_get h zEx (i : Int) (by omega) (by omega)
  rw [Int.toNat_natCast] at hK hc0
  have hc : ∀ j u, c[j]? = some u → w'.cell? (ad.add (i * 7 + j)) = some u := fun j u h => up _ _ (hc0 j u h)
  obtain ⟨A0, c0, rfl, l0, g0⟩ := kEx_open hK
  exact ⟨ad, A0, c0, e, hc 0 _ rfl, by rw [← add_field _ _ 1 (by omega)]; exact hc 1 _ rfl, by rw [← add_field _ _ 2 (by omega)]; exact hc 2 _ rfl, by rw [← add_field _ _ 3 (by omega)]; exact hc 3 _ rfl, by rw [← add_field _ _ 4 (by omega)]; exact hc 4 _ rfl, by rw [← add_field _ _ 5 (by omega)]; exact hc 5 _ rfl, by rw [← add_field _ _ 6 (by omega)]; exact hc 6 _ rfl, l0, g0⟩
def FkSt (d : Kd St) : Kd St := Kd.iso (Kd.pair (Kd.int .i64) (Kd.pair kNm (Kd.pair (Kd.int .i64) (Kd.pair (Kd.int .i64) (Kd.pair (Kd.slice 113 kEx) (Kd.slice 150 d)))))) (fun x : St => (x.kind, x.name, x.fr, x.to, x.exps, x.kids))
theorem monokSt : Kd.Mono FkSt := Kd.mono_iso _ (Kd.mono_pair (Kd.mono_const _) (Kd.mono_pair (Kd.mono_const _) (Kd.mono_pair (Kd.mono_const _) (Kd.mono_pair (Kd.mono_const _) (Kd.mono_pair (Kd.mono_const _) (Kd.mono_slice 150 Kd.mono_id))))))
theorem subkSt : Kd.Sub FkSt [113, 150] := Kd.sub_iso _ (Kd.sub_pair (Kd.sub_const _ (by decide)) (Kd.sub_pair (Kd.sub_const _ (by decide)) (Kd.sub_pair (Kd.sub_const _ (by decide)) (Kd.sub_pair (Kd.sub_const _ (by decide)) (Kd.sub_pair (Kd.sub_const _ (by decide)) (Kd.sub_slice 150 (by decide) Kd.sub_id))))))
theorem szkSt : ∀ n, (Kd.upto FkSt 7 [113, 150] n).sz = 7 := Kd.upto_sz (fun _ => rfl)
def kSt : Kd St := Kd.fix FkSt 7 [113, 150] szkSt (Kd.upto_E subkSt)
theorem kSt_open {w : World} {x : St} {cs : List Value} (h : kSt.K w x cs) : ∃ A0 c0 A1 c1, cs = cSt x A0 c0 A1 c1 ∧ x.exps.length ≤ c0 ∧ kEx.C w A0 x.exps.length x.exps ∧ x.kids.length ≤ c1 ∧ kSt.C w A1 x.kids.length x.kids := by
  obtain ⟨n, h⟩ := h
  cases n with
  | zero => exact h.elim
  | succ n =>
    obtain ⟨_, _, rfl, rfl, ⟨_, _, rfl, s1, ⟨_, _, rfl, rfl, ⟨_, _, rfl, rfl, ⟨_, _, rfl, ⟨A0, c0, rfl, l0, g0⟩, ⟨A1, c1, rfl, l1, g1⟩⟩⟩⟩⟩⟩ := h
    obtain rfl := kNm_open s1
    exact ⟨A0, c0, A1, c1, rfl, l0, g0, l1, (Kd.fix_C g1)⟩
theorem kSt_mk (w : World) (x : St) {A0 : Option Addr} {c0 : Nat} (l0 : x.exps.length ≤ c0) (g0 : kEx.C w A0 x.exps.length x.exps) {A1 : Option Addr} {c1 : Nat} (l1 : x.kids.length ≤ c1) (g1 : kSt.C w A1 x.kids.length x.kids) : kSt.K w x (cSt x A0 c0 A1 c1) := by
  obtain ⟨n1, q1⟩ := Kd.fix_C_back monokSt g1
  exact ⟨n1 + 1, ⟨[.int .i64 x.kind], [.string x.name.text, .int .i64 x.name.pos, .int .i64 x.fr, .int .i64 x.to, .slice A0 x.exps.length c0, .slice A1 x.kids.length c1], rfl, rfl, ⟨[.string x.name.text, .int .i64 x.name.pos], [.int .i64 x.fr, .int .i64 x.to, .slice A0 x.exps.length c0, .slice A1 x.kids.length c1], rfl, (kNm_mk w x.name), ⟨[.int .i64 x.fr], [.int .i64 x.to, .slice A0 x.exps.length c0, .slice A1 x.kids.length c1], rfl, rfl, ⟨[.int .i64 x.to], [.slice A0 x.exps.length c0, .slice A1 x.kids.length c1], rfl, rfl, ⟨[.slice A0 x.exps.length c0], [.slice A1 x.kids.length c1], rfl, ⟨A0, c0, rfl, l0, g0⟩, ⟨A1, c1, rfl, l1, q1⟩⟩⟩⟩⟩⟩⟩
theorem kSt_at {w w' : World} (up : ∀ a v, w.cell? a = some v → w'.cell? a = some v) {A : Option Addr} {n : Nat} {xs : List St} (h : kSt.C w A n xs) (i : Nat) (hi : i < n) : ∃ ad A0 c0 A1 c1, A = some ad ∧ w'.cell? (ad.add (i * 7)) = some (.int .i64 (xs.getD i zSt).kind) ∧ w'.cell? ⟨(ad.add (i * 7)).block, (ad.add (i * 7)).off + 1, none⟩ = some (.string (xs.getD i zSt).name.text) ∧ w'.cell? ⟨(ad.add (i * 7)).block, (ad.add (i * 7)).off + 2, none⟩ = some (.int .i64 (xs.getD i zSt).name.pos) ∧ w'.cell? ⟨(ad.add (i * 7)).block, (ad.add (i * 7)).off + 3, none⟩ = some (.int .i64 (xs.getD i zSt).fr) ∧ w'.cell? ⟨(ad.add (i * 7)).block, (ad.add (i * 7)).off + 4, none⟩ = some (.int .i64 (xs.getD i zSt).to) ∧ w'.cell? ⟨(ad.add (i * 7)).block, (ad.add (i * 7)).off + 5, none⟩ = some (.slice A0 (xs.getD i zSt).exps.length c0) ∧ w'.cell? ⟨(ad.add (i * 7)).block, (ad.add (i * 7)).off + 6, none⟩ = some (.slice A1 (xs.getD i zSt).kids.length c1) ∧ (xs.getD i zSt).exps.length ≤ c0 ∧ kEx.C w A0 (xs.getD i zSt).exps.length (xs.getD i zSt).exps ∧ (xs.getD i zSt).kids.length ≤ c1 ∧ kSt.C w A1 (xs.getD i zSt).kids.length (xs.getD i zSt).kids := by
  obtain ⟨ad, c, e, _, hK, hc0⟩ := Kd.C_get h zSt (i : Int) (by omega) (by omega)
  rw [Int.toNat_natCast] at hK hc0
  have hc : ∀ j u, c[j]? = some u → w'.cell? (ad.add (i * 7 + j)) = some u := fun j u h => up _ _ (hc0 j u h)
  obtain ⟨A0, c0, A1, c1, rfl, l0, g0, l1, g1⟩ := kSt_open hK
  exact ⟨ad, A0, c0, A1, c1, e, hc 0 _ rfl, by rw [← add_field _ _ 1 (by omega)]; exact hc 1 _ rfl, by rw [← add_field _ _ 2 (by omega)]; exact hc 2 _ rfl, by rw [← add_field _ _ 3 (by omega)]; exact hc 3 _ rfl, by rw [← add_field _ _ 4 (by omega)]; exact hc 4 _ rfl, by rw [← add_field _ _ 5 (by omega)]; exact hc 5 _ rfl, by rw [← add_field _ _ 6 (by omega)]; exact hc 6 _ rfl, l0, g0, l1, g1⟩
def kMe : Kd Me := Kd.iso (Kd.pair kNm (Kd.pair kNm (Kd.pair (Kd.slice 152 kVr) (Kd.pair (Kd.slice 152 kVr) (Kd.pair (Kd.slice 150 kSt) kEx))))) (fun x : Me => (x.typ, x.name, x.params, x.vars, x.body, x.ret))
theorem kMe_open {w : World} {x : Me} {cs : List Value} (h : kMe.K w x cs) : ∃ A0 c0 A1 c1 A2 c2 A3 c3, cs = cMe x A0 c0 A1 c1 A2 c2 A3 c3 ∧ x.params.length ≤ c0 ∧ kVr.C w A0 x.params.length x.params ∧ x.vars.length ≤ c1 ∧ kVr.C w A1 x.vars.length x.vars ∧ x.body.length ≤ c2 ∧ kSt.C w A2 x.body.length x.body ∧ x.ret.kids.length ≤ c3 ∧ kEx.C w A3 x.ret.kids.length x.ret.kids := by
  obtain ⟨_, _, rfl, s0, ⟨_, _, rfl, s1, ⟨_, _, rfl, ⟨A0, c0, rfl, l0, g0⟩, ⟨_, _, rfl, ⟨A1, c1, rfl, l1, g1⟩, ⟨_, _, rfl, ⟨A2, c2, rfl, l2, g2⟩, s5⟩⟩⟩⟩⟩ := h
  obtain rfl := kNm_open s0
  obtain rfl := kNm_open s1
  obtain ⟨A3, c3, rfl, l3, g3⟩ := kEx_open s5
  exact ⟨A0, c0, A1, c1, A2, c2, A3, c3, rfl, l0, g0, l1, g1, l2, g2, l3, g3⟩
theorem kMe_at {w w' : World} (up : ∀ a v, w.cell? a = some v → w'.cell? a = some v) {A : Option Addr} {n : Nat} {xs : List Me} (h : kMe.C w A n xs) (i : Nat) (hi : i < n) : ∃ ad A0 c0 A1 c1 A2 c2 A3 c3, A = some ad ∧ w'.cell? (ad.add (i * 14)) = some (.string (xs.getD i zMe).typ.text) ∧ w'.cell? ⟨(ad.add (i * 14)).block, (ad.add (i * 14)).off + 1, none⟩ = some (.int .i64 (xs.getD i zMe).typ.pos) ∧ w'.cell? ⟨(ad.add (i * 14)).block, (ad.add (i * 14)).off + 2, none⟩ = some (.string (xs.getD i zMe).name.text) ∧ w'.cell? ⟨(ad.add (i * 14)).block, (ad.add (i * 14)).off + 3, none⟩ = some (.int .i64 (xs.getD i zMe).name.pos) ∧ w'.cell? ⟨(ad.add (i * 14)).block, (ad.add (i * 14)).off + 4, none⟩ = some (.slice A0 (xs.getD i zMe).params.length c0) ∧ w'.cell? ⟨(ad.add (i * 14)).block, (ad.add (i * 14)).off + 5, none⟩ = some (.slice A1 (xs.getD i zMe).vars.length c1) ∧ w'.cell? ⟨(ad.add (i * 14)).block, (ad.add (i * 14)).off + 6, none⟩ = some (.slice A2 (xs.getD i zMe).body.length c2) ∧ w'.cell? ⟨(ad.add (i * 14)).block, (ad.add (i * 14)).off + 7, none⟩ = some (.int .i64 (xs.getD i zMe).ret.kind) ∧ w'.cell? ⟨(ad.add (i * 14)).block, (ad.add (i * 14)).off + 8, none⟩ = some (.string (xs.getD i zMe).ret.name.text) ∧ w'.cell? ⟨(ad.add (i * 14)).block, (ad.add (i * 14)).off + 9, none⟩ = some (.int .i64 (xs.getD i zMe).ret.name.pos) ∧ w'.cell? ⟨(ad.add (i * 14)).block, (ad.add (i * 14)).off + 10, none⟩ = some (.int .i64 (xs.getD i zMe).ret.num) ∧ w'.cell? ⟨(ad.add (i * 14)).block, (ad.add (i * 14)).off + 11, none⟩ = some (.int .i64 (xs.getD i zMe).ret.fr) ∧ w'.cell? ⟨(ad.add (i * 14)).block, (ad.add (i * 14)).off + 12, none⟩ = some (.int .i64 (xs.getD i zMe).ret.to) ∧ w'.cell? ⟨(ad.add (i * 14)).block, (ad.add (i * 14)).off + 13, none⟩ = some (.slice A3 (xs.getD i zMe).ret.kids.length c3) ∧ (xs.getD i zMe).params.length ≤ c0 ∧ kVr.C w A0 (xs.getD i zMe).params.length (xs.getD i zMe).params ∧ (xs.getD i zMe).vars.length ≤ c1 ∧ kVr.C w A1 (xs.getD i zMe).vars.length (xs.getD i zMe).vars ∧ (xs.getD i zMe).body.length ≤ c2 ∧ kSt.C w A2 (xs.getD i zMe).body.length (xs.getD i zMe).body ∧ (xs.getD i zMe).ret.kids.length ≤ c3 ∧ kEx.C w A3 (xs.getD i zMe).ret.kids.length (xs.getD i zMe).ret.kids := by
  obtain ⟨ad, c, e, _, hK, hc0⟩ := Kd.C_get h zMe (i : Int) (by omega) (by omega)
  rw [Int.toNat_natCast] at hK hc0
  have hc : ∀ j u, c[j]? = some u → w'.cell? (ad.add (i * 14 + j)) = some u := fun j u h => up _ _ (hc0 j u h)
  obtain ⟨A0, c0, A1, c1, A2, c2, A3, c3, rfl, l0, g0, l1, g1, l2, g2, l3, g3⟩ := kMe_open hK
  exact ⟨ad, A0, c0, A1, c1, A2, c2, A3, c3, e, hc 0 _ rfl, by rw [← add_field _ _ 1 (by omega)]; exact hc 1 _ rfl, by rw [← add_field _ _ 2 (by omega)]; exact hc 2 _ rfl, by rw [← add_field _ _ 3 (by omega)]; exact hc 3 _ rfl, by rw [← add_field _ _ 4 (by omega)]; exact hc 4 _ rfl, by rw [← add_field _ _ 5 (by omega)]; exact hc 5 _ rfl, by rw [← add_field _ _ 6 (by omega)]; exact hc 6 _ rfl, by rw [← add_field _ _ 7 (by omega)]; exact hc 7 _ rfl, by rw [← add_field _ _ 8 (by omega)]; exact hc 8 _ rfl, by rw [← add_field _ _ 9 (by omega)]; exact hc 9 _ rfl, by rw [← add_field _ _ 10 (by omega)]; exact hc 10 _ rfl, by rw [← add_field _ _ 11 (by omega)]; exact hc 11 _ rfl, by rw [← add_field _ _ 12 (by omega)]; exact hc 12 _ rfl, by rw [← add_field _ _ 13 (by omega)]; exact hc 13 _ rfl, l0, g0, l1, g1, l2, g2, l3, g3⟩
def kCl : Kd Cl := Kd.iso (Kd.pair Kd.bool (Kd.pair kNm (Kd.pair kNm (Kd.pair (Kd.slice 152 kVr) (Kd.pair (Kd.slice 115 kMe) (Kd.pair kNm (Kd.slice 150 kSt))))))) (fun x : Cl => (x.main, x.name, x.super, x.fields, x.methods, x.arg, x.body))
theorem kCl_open {w : World} {x : Cl} {cs : List Value} (h : kCl.K w x cs) : ∃ A0 c0 A1 c1 A2 c2, cs = cCl x A0 c0 A1 c1 A2 c2 ∧ x.fields.length ≤ c0 ∧ kVr.C w A0 x.fields.length x.fields ∧ x.methods.length ≤ c1 ∧ kMe.C w A1 x.methods.length x.methods ∧ x.body.length ≤ c2 ∧ kSt.C w A2 x.body.length x.body := by
  obtain ⟨_, _, rfl, rfl, ⟨_, _, rfl, s1, ⟨_, _, rfl, s2, ⟨_, _, rfl, ⟨A0, c0, rfl, l0, g0⟩, ⟨_, _, rfl, ⟨A1, c1, rfl, l1, g1⟩, ⟨_, _, rfl, s5, ⟨A2, c2, rfl, l2, g2⟩⟩⟩⟩⟩⟩⟩ := h
  obtain rfl := kNm_open s1
  obtain rfl := kNm_open s2
  obtain rfl := kNm_open s5
  exact ⟨A0, c0, A1, c1, A2, c2, rfl, l0, g0, l1, g1, l2, g2⟩
theorem kCl_mk (w : World) (x : Cl) {A0 : Option Addr} {c0 : Nat} (l0 : x.fields.length ≤ c0) (g0 : kVr.C w A0 x.fields.length x.fields) {A1 : Option Addr} {c1 : Nat} (l1 : x.methods.length ≤ c1) (g1 : kMe.C w A1 x.methods.length x.methods) {A2 : Option Addr} {c2 : Nat} (l2 : x.body.length ≤ c2) (g2 : kSt.C w A2 x.body.length x.body) : kCl.K w x (cCl x A0 c0 A1 c1 A2 c2) := by
  exact ⟨[.bool x.main], [.string x.name.text, .int .i64 x.name.pos, .string x.super.text, .int .i64 x.super.pos, .slice A0 x.fields.length c0, .slice A1 x.methods.length c1, .string x.arg.text, .int .i64 x.arg.pos, .slice A2 x.body.length c2], rfl, rfl, ⟨[.string x.name.text, .int .i64 x.name.pos], [.string x.super.text, .int .i64 x.super.pos, .slice A0 x.fields.length c0, .slice A1 x.methods.length c1, .string x.arg.text, .int .i64 x.arg.pos, .slice A2 x.body.length c2], rfl, (kNm_mk w x.name), ⟨[.string x.super.text, .int .i64 x.super.pos], [.slice A0 x.fields.length c0, .slice A1 x.methods.length c1, .string x.arg.text, .int .i64 x.arg.pos, .slice A2 x.body.length c2], rfl, (kNm_mk w x.super), ⟨[.slice A0 x.fields.length c0], [.slice A1 x.methods.length c1, .string x.arg.text, .int .i64 x.arg.pos, .slice A2 x.body.length c2], rfl, ⟨A0, c0, rfl, l0, g0⟩, ⟨[.slice A1 x.methods.length c1], [.string x.arg.text, .int .i64 x.arg.pos, .slice A2 x.body.length c2], rfl, ⟨A1, c1, rfl, l1, g1⟩, ⟨[.string x.arg.text, .int .i64 x.arg.pos], [.slice A2 x.body.length c2], rfl, (kNm_mk w x.arg), ⟨A2, c2, rfl, l2, g2⟩⟩⟩⟩⟩⟩⟩
theorem kCl_at {w w' : World} (up : ∀ a v, w.cell? a = some v → w'.cell? a = some v) {A : Option Addr} {n : Nat} {xs : List Cl} (h : kCl.C w A n xs) (i : Nat) (hi : i < n) : ∃ ad A0 c0 A1 c1 A2 c2, A = some ad ∧ w'.cell? (ad.add (i * 10)) = some (.bool (xs.getD i zCl).main) ∧ w'.cell? ⟨(ad.add (i * 10)).block, (ad.add (i * 10)).off + 1, none⟩ = some (.string (xs.getD i zCl).name.text) ∧ w'.cell? ⟨(ad.add (i * 10)).block, (ad.add (i * 10)).off + 2, none⟩ = some (.int .i64 (xs.getD i zCl).name.pos) ∧ w'.cell? ⟨(ad.add (i * 10)).block, (ad.add (i * 10)).off + 3, none⟩ = some (.string (xs.getD i zCl).super.text) ∧ w'.cell? ⟨(ad.add (i * 10)).block, (ad.add (i * 10)).off + 4, none⟩ = some (.int .i64 (xs.getD i zCl).super.pos) ∧ w'.cell? ⟨(ad.add (i * 10)).block, (ad.add (i * 10)).off + 5, none⟩ = some (.slice A0 (xs.getD i zCl).fields.length c0) ∧ w'.cell? ⟨(ad.add (i * 10)).block, (ad.add (i * 10)).off + 6, none⟩ = some (.slice A1 (xs.getD i zCl).methods.length c1) ∧ w'.cell? ⟨(ad.add (i * 10)).block, (ad.add (i * 10)).off + 7, none⟩ = some (.string (xs.getD i zCl).arg.text) ∧ w'.cell? ⟨(ad.add (i * 10)).block, (ad.add (i * 10)).off + 8, none⟩ = some (.int .i64 (xs.getD i zCl).arg.pos) ∧ w'.cell? ⟨(ad.add (i * 10)).block, (ad.add (i * 10)).off + 9, none⟩ = some (.slice A2 (xs.getD i zCl).body.length c2) ∧ (xs.getD i zCl).fields.length ≤ c0 ∧ kVr.C w A0 (xs.getD i zCl).fields.length (xs.getD i zCl).fields ∧ (xs.getD i zCl).methods.length ≤ c1 ∧ kMe.C w A1 (xs.getD i zCl).methods.length (xs.getD i zCl).methods ∧ (xs.getD i zCl).body.length ≤ c2 ∧ kSt.C w A2 (xs.getD i zCl).body.length (xs.getD i zCl).body := by
  obtain ⟨ad, c, e, _, hK, hc0⟩ := Kd.C_get h zCl (i : Int) (by omega) (by omega)
  rw [Int.toNat_natCast] at hK hc0
  have hc : ∀ j u, c[j]? = some u → w'.cell? (ad.add (i * 10 + j)) = some u := fun j u h => up _ _ (hc0 j u h)
  obtain ⟨A0, c0, A1, c1, A2, c2, rfl, l0, g0, l1, g1, l2, g2⟩ := kCl_open hK
  exact ⟨ad, A0, c0, A1, c1, A2, c2, e, hc 0 _ rfl, by rw [← add_field _ _ 1 (by omega)]; exact hc 1 _ rfl, by rw [← add_field _ _ 2 (by omega)]; exact hc 2 _ rfl, by rw [← add_field _ _ 3 (by omega)]; exact hc 3 _ rfl, by rw [← add_field _ _ 4 (by omega)]; exact hc 4 _ rfl, by rw [← add_field _ _ 5 (by omega)]; exact hc 5 _ rfl, by rw [← add_field _ _ 6 (by omega)]; exact hc 6 _ rfl, by rw [← add_field _ _ 7 (by omega)]; exact hc 7 _ rfl, by rw [← add_field _ _ 8 (by omega)]; exact hc 8 _ rfl, by rw [← add_field _ _ 9 (by omega)]; exact hc 9 _ rfl, l0, g0, l1, g1, l2, g2⟩
def kEn : Kd En := Kd.iso (Kd.pair (Kd.int .i64) kCl) (fun x : En => (x.file, x.cls))
theorem kEn_open {w : World} {x : En} {cs : List Value} (h : kEn.K w x cs) : ∃ A0 c0 A1 c1 A2 c2, cs = cEn x A0 c0 A1 c1 A2 c2 ∧ x.cls.fields.length ≤ c0 ∧ kVr.C w A0 x.cls.fields.length x.cls.fields ∧ x.cls.methods.length ≤ c1 ∧ kMe.C w A1 x.cls.methods.length x.cls.methods ∧ x.cls.body.length ≤ c2 ∧ kSt.C w A2 x.cls.body.length x.cls.body := by
  obtain ⟨_, _, rfl, rfl, s1⟩ := h
  obtain ⟨A0, c0, A1, c1, A2, c2, rfl, l0, g0, l1, g1, l2, g2⟩ := kCl_open s1
  exact ⟨A0, c0, A1, c1, A2, c2, rfl, l0, g0, l1, g1, l2, g2⟩
theorem kEn_mk (w : World) (x : En) {A0 : Option Addr} {c0 : Nat} (l0 : x.cls.fields.length ≤ c0) (g0 : kVr.C w A0 x.cls.fields.length x.cls.fields) {A1 : Option Addr} {c1 : Nat} (l1 : x.cls.methods.length ≤ c1) (g1 : kMe.C w A1 x.cls.methods.length x.cls.methods) {A2 : Option Addr} {c2 : Nat} (l2 : x.cls.body.length ≤ c2) (g2 : kSt.C w A2 x.cls.body.length x.cls.body) : kEn.K w x (cEn x A0 c0 A1 c1 A2 c2) := by
  exact ⟨[.int .i64 x.file], [.bool x.cls.main, .string x.cls.name.text, .int .i64 x.cls.name.pos, .string x.cls.super.text, .int .i64 x.cls.super.pos, .slice A0 x.cls.fields.length c0, .slice A1 x.cls.methods.length c1, .string x.cls.arg.text, .int .i64 x.cls.arg.pos, .slice A2 x.cls.body.length c2], rfl, rfl, (kCl_mk w x.cls l0 g0 l1 g1 l2 g2)⟩
theorem kEn_at {w w' : World} (up : ∀ a v, w.cell? a = some v → w'.cell? a = some v) {A : Option Addr} {n : Nat} {xs : List En} (h : kEn.C w A n xs) (i : Nat) (hi : i < n) : ∃ ad A0 c0 A1 c1 A2 c2, A = some ad ∧ w'.cell? (ad.add (i * 11)) = some (.int .i64 (xs.getD i zEn).file) ∧ w'.cell? ⟨(ad.add (i * 11)).block, (ad.add (i * 11)).off + 1, none⟩ = some (.bool (xs.getD i zEn).cls.main) ∧ w'.cell? ⟨(ad.add (i * 11)).block, (ad.add (i * 11)).off + 2, none⟩ = some (.string (xs.getD i zEn).cls.name.text) ∧ w'.cell? ⟨(ad.add (i * 11)).block, (ad.add (i * 11)).off + 3, none⟩ = some (.int .i64 (xs.getD i zEn).cls.name.pos) ∧ w'.cell? ⟨(ad.add (i * 11)).block, (ad.add (i * 11)).off + 4, none⟩ = some (.string (xs.getD i zEn).cls.super.text) ∧ w'.cell? ⟨(ad.add (i * 11)).block, (ad.add (i * 11)).off + 5, none⟩ = some (.int .i64 (xs.getD i zEn).cls.super.pos) ∧ w'.cell? ⟨(ad.add (i * 11)).block, (ad.add (i * 11)).off + 6, none⟩ = some (.slice A0 (xs.getD i zEn).cls.fields.length c0) ∧ w'.cell? ⟨(ad.add (i * 11)).block, (ad.add (i * 11)).off + 7, none⟩ = some (.slice A1 (xs.getD i zEn).cls.methods.length c1) ∧ w'.cell? ⟨(ad.add (i * 11)).block, (ad.add (i * 11)).off + 8, none⟩ = some (.string (xs.getD i zEn).cls.arg.text) ∧ w'.cell? ⟨(ad.add (i * 11)).block, (ad.add (i * 11)).off + 9, none⟩ = some (.int .i64 (xs.getD i zEn).cls.arg.pos) ∧ w'.cell? ⟨(ad.add (i * 11)).block, (ad.add (i * 11)).off + 10, none⟩ = some (.slice A2 (xs.getD i zEn).cls.body.length c2) ∧ (xs.getD i zEn).cls.fields.length ≤ c0 ∧ kVr.C w A0 (xs.getD i zEn).cls.fields.length (xs.getD i zEn).cls.fields ∧ (xs.getD i zEn).cls.methods.length ≤ c1 ∧ kMe.C w A1 (xs.getD i zEn).cls.methods.length (xs.getD i zEn).cls.methods ∧ (xs.getD i zEn).cls.body.length ≤ c2 ∧ kSt.C w A2 (xs.getD i zEn).cls.body.length (xs.getD i zEn).cls.body := by
  obtain ⟨ad, c, e, _, hK, hc0⟩ := Kd.C_get h zEn (i : Int) (by omega) (by omega)
  rw [Int.toNat_natCast] at hK hc0
  have hc : ∀ j u, c[j]? = some u → w'.cell? (ad.add (i * 11 + j)) = some u := fun j u h => up _ _ (hc0 j u h)
  obtain ⟨A0, c0, A1, c1, A2, c2, rfl, l0, g0, l1, g1, l2, g2⟩ := kEn_open hK
  exact ⟨ad, A0, c0, A1, c1, A2, c2, e, hc 0 _ rfl, by rw [← add_field _ _ 1 (by omega)]; exact hc 1 _ rfl, by rw [← add_field _ _ 2 (by omega)]; exact hc 2 _ rfl, by rw [← add_field _ _ 3 (by omega)]; exact hc 3 _ rfl, by rw [← add_field _ _ 4 (by omega)]; exact hc 4 _ rfl, by rw [← add_field _ _ 5 (by omega)]; exact hc 5 _ rfl, by rw [← add_field _ _ 6 (by omega)]; exact hc 6 _ rfl, by rw [← add_field _ _ 7 (by omega)]; exact hc 7 _ rfl, by rw [← add_field _ _ 8 (by omega)]; exact hc 8 _ rfl, by rw [← add_field _ _ 9 (by omega)]; exact hc 9 _ rfl, by rw [← add_field _ _ 10 (by omega)]; exact hc 10 _ rfl, l0, g0, l1, g1, l2, g2⟩
end Go.Proofs.YtbfkkepdeepdeaaGreatDoor
end
section
namespace Go.Proofs.YtbfkkepdeepdeaaGreatDoor
open Go.RowKit Go.Proofs.YtbfkkepdeepdeaaGreatDoorW.PrintWords Go.Proofs.YtbfkkepdeepdeaaGreatDoorW.PrintLast Go.Proofs.YtbfkkepdeepdeaaGreatDoorW.PrintMore
set_option linter.unusedVariables false
def Sub (w w' : World) : Prop := ∀ a v, w.cell? a = some v → w'.cell? a = some v
theorem Sub.refl (w : World) : Sub w w := fun _ _ h => h
theorem Sub.trans {a b c : World} (h : Sub a b) (k : Sub b c) : Sub a c := fun p v e => k p v (h p v e)
def Up {α : Type} (d : Kd α) : Prop := ∀ {w w' : World} {x cs}, Sub w w' → d.K w x cs → d.K w' x cs
theorem up_C {α : Type} {d : Kd α} (u : Up d) {w w' : World} (hs : Sub w w') {A : Option Addr} {n : Nat} {xs : List α} (h : Kd.C d w A n xs) : Kd.C d w' A n xs := by
  obtain ⟨h1, h2, h3⟩ := h
  refine ⟨h1, h2, fun hp => ?_⟩
  obtain ⟨ad, e, hr⟩ := h3 hp
  refine ⟨ad, e, fun j p hj => ?_⟩
  obtain ⟨cs, hl, hK, hc⟩ := hr j p hj
  exact ⟨cs, hl, u hs hK, fun i v hv => hs _ _ (hc i v hv)⟩
theorem up_int (k : IntKind) : Up (Kd.int k) := fun _ h => h
theorem up_bool : Up Kd.bool := fun _ h => h
theorem up_string : Up Kd.string := fun _ h => h
theorem up_pair {α β : Type} {a : Kd α} {b : Kd β} (ha : Up a) (hb : Up b) : Up (Kd.pair a b) := fun hs ⟨c0, c1, e, h0, h1⟩ => ⟨c0, c1, e, ha hs h0, hb hs h1⟩
theorem up_iso {α β : Type} {d : Kd α} (f : β → α) (hd : Up d) : Up (Kd.iso d f) := fun hs h => hd hs h
theorem up_slice {α : Type} {e : Nat} {d : Kd α} (hd : Up d) : Up (Kd.slice e d) := fun hs ⟨A, c, e, hl, h⟩ => ⟨A, c, e, hl, up_C hd hs h⟩
theorem up_fix {α : Type} {F : Kd α → Kd α} {sz : Nat} {E : List Nat} {h1 : ∀ n, (Kd.upto F sz E n).sz = sz} {h2 : ∀ n q, q ∈ (Kd.upto F sz E n).E → q ∈ E} (hF : ∀ d, Up d → Up (F d)) : Up (Kd.fix F sz E h1 h2) := by
  have hu : ∀ n, Up (Kd.upto F sz E n) := fun n => by
    induction n with
    | zero => intro w w' x cs _ h; exact h.elim
    | succ n ih => exact hF _ ih
  intro w w' x cs hs h
  obtain ⟨n, h⟩ := h
  exact ⟨n, hu n hs h⟩
theorem up_kTok : Up kTok := up_iso _ (up_pair (up_int _) (up_pair (up_int _) (up_int _)))
theorem up_kNd : Up kNd := up_fix fun d hd => up_iso _ (up_pair (up_int _) (up_pair up_string (up_pair up_string (up_pair (up_int _) (up_slice hd)))))
theorem up_kNm : Up kNm := up_iso _ (up_pair up_string (up_int _))
theorem up_kVr : Up kVr := up_iso _ (up_pair up_kNm (up_pair up_kNm (up_pair (up_int _) (up_int _))))
theorem up_kEx : Up kEx := up_fix fun d hd => up_iso _ (up_pair (up_int _) (up_pair up_kNm (up_pair (up_int _) (up_pair (up_int _) (up_pair (up_int _) (up_slice hd))))))
theorem up_kSt : Up kSt := up_fix fun d hd => up_iso _ (up_pair (up_int _) (up_pair up_kNm (up_pair (up_int _) (up_pair (up_int _) (up_pair (up_slice up_kEx) (up_slice hd))))))
theorem up_kMe : Up kMe := up_iso _ (up_pair up_kNm (up_pair up_kNm (up_pair (up_slice up_kVr) (up_pair (up_slice up_kVr) (up_pair (up_slice up_kSt) up_kEx)))))
theorem up_kCl : Up kCl := up_iso _ (up_pair up_bool (up_pair up_kNm (up_pair up_kNm (up_pair (up_slice up_kVr) (up_pair (up_slice up_kMe) (up_pair up_kNm (up_slice up_kSt)))))))
def hole (H : List Nat) (w : World) : World := { w with heap := w.heap.mapIdx fun i o => if i ∈ H then .deferred none else o }
theorem hole_other {H : List Nat} {k : Nat} (w : World) (h : k ∉ H) : (hole H w).heap[k]? = w.heap[k]? := by
  simp only [hole, Array.getElem?_mapIdx]
  cases w.heap[k]? with
  | none => rfl
  | some o => simp [h]
theorem hole_cell_iff {H : List Nat} {w : World} {a : Addr} {v : Value} : (hole H w).cell? a = some v ↔ a.block ∉ H ∧ w.cell? a = some v := by
  by_cases e : a.block ∈ H
  · constructor
    · intro h
      exfalso
      unfold World.cell? at h
      simp only [hole, Array.getElem?_mapIdx] at h
      cases hb : w.heap[a.block]? with
      | none => rw [hb] at h; cases h
      | some o => rw [hb] at h; simp [e] at h
    · exact fun h => absurd e h.1
  · rw [World.cell?_of_block (hole_other w e)]
    exact ⟨fun h => ⟨e, h⟩, fun h => h.2⟩
theorem hole_sub (H : List Nat) (w : World) : Sub (hole H w) w := fun _ _ h => (hole_cell_iff.1 h).2
theorem cell_block {w : World} {a : Addr} {v : Value} (h : w.cell? a = some v) : a.block < w.heap.size := by
  unfold World.cell? at h
  by_cases hl : a.block < w.heap.size
  · exact hl
  · rw [Array.getElem?_eq_none (by omega)] at h; cases h
structure Keep (H : List Nat) (w w' : World) : Prop where
  os : w'.os = w.os
  tape : w'.tape = w.tape
  output : w'.output = w.output
  size : w.heap.size ≤ w'.heap.size
  block : ∀ k, k < w.heap.size → k ∉ H → w'.heap[k]? = w.heap[k]?
theorem Keep.refl (H : List Nat) (w : World) : Keep H w w := ⟨rfl, rfl, rfl, Nat.le_refl _, fun _ _ _ => rfl⟩
theorem Keep.trans {H : List Nat} {A B C : World} (h : Keep H A B) (k : Keep H B C) : Keep H A C :=
  ⟨k.os.trans h.os, k.tape.trans h.tape, k.output.trans h.output, Nat.le_trans h.size k.size, fun i hi hn => (k.block i (by have := h.size; omega) hn).trans (h.block i hi hn)⟩
theorem Keep.of_below {H : List Nat} {w w' : World} (h : Below w.heap.size w w') : Keep H w w' := ⟨h.os, h.tape, h.output, h.size, fun k hk _ => h.block k hk⟩
theorem Keep.below {w w' : World} (h : Keep [] w w') : Below w.heap.size w w' := ⟨h.os, h.tape, h.output, h.size, fun k hk => h.block k hk (by simp)⟩
theorem Keep.mono {H H' : List Nat} {w w' : World} (h : Keep H w w') (hs : ∀ k, k ∈ H → k < w.heap.size → k ∈ H') : Keep H' w w' :=
  ⟨h.os, h.tape, h.output, h.size, fun k hk hn => h.block k hk (fun e => hn (hs k e hk))⟩
theorem Keep.set {H : List Nat} {b j : Nat} (w : World) (v : Value) (hb : b ∈ H) : Keep H w (w.setCell ⟨b, j, none⟩ v) :=
  ⟨rfl, rfl, rfl, by simp, fun k hk hn => Below.heap_setCell _ _ _ k (by show k ≠ b; intro e; exact hn (e ▸ hb))⟩
theorem Keep.alloc {H : List Nat} (w : World) (o : Obj) : Keep H w (w.alloc o) := Keep.of_below ((Below.refl _ _).alloc (Nat.le_refl _) _)
theorem Keep.drew {H : List Nat} (w : World) : Keep H w w.drew := Keep.of_below (Below.refl _ _).drew
theorem Keep.setNew {H : List Nat} {b j : Nat} {w W : World} (v : Value) (h : Keep H w W) (hb : w.heap.size ≤ b) : Keep H w (W.setCell ⟨b, j, none⟩ v) :=
  ⟨h.os, h.tape, h.output, by simpa using h.size, fun k hk hn => (Below.heap_setCell _ _ _ k (by show k ≠ b; omega)).trans (h.block k hk hn)⟩
theorem Keep.row {H : List Nat} {w W W' : World} {r : Option Nat} (h : Keep H w W) (g : W.grownBy W' r) (hr : ∀ b, r = some b → w.heap.size ≤ b) : Keep H w W' :=
  ⟨g.os.trans h.os, g.tape.trans h.tape, g.output.trans h.output, Nat.le_trans h.size g.size, fun k hk hn => (g.block k (by have := h.size; omega) (fun e => by have := hr k e.symm; omega)).trans (h.block k hk hn)⟩
theorem Keep.sub {H1 H2 : List Nat} {w w' : World} (h : Keep H1 w w') (hs : ∀ k, k ∈ H1 → k ∈ H2) : Sub (hole H2 w) (hole H2 w') := fun a v hc => by
  obtain ⟨h1, h2⟩ := hole_cell_iff.1 hc
  exact hole_cell_iff.2 ⟨h1, (World.cell?_of_block (h.block _ (cell_block h2) (fun e => h1 (hs _ e)))).trans h2⟩
theorem hole_more {H H' : List Nat} {w w' : World} (h : Keep [] w w') (hs : ∀ k, k ∈ H' → k ∈ H ∨ w.heap.size ≤ k) : Sub (hole H w) (hole H' w') := fun a v hc => by
  obtain ⟨h1, h2⟩ := hole_cell_iff.1 hc
  have hb := cell_block h2
  exact hole_cell_iff.2 ⟨fun e => (hs _ e).elim h1 (fun k => by omega), (World.cell?_of_block (h.block _ hb (by simp))).trans h2⟩
theorem hole_less {H H' : List Nat} (w : World) (hs : ∀ k, k ∈ H' → k ∈ H) : Sub (hole H w) (hole H' w) := fun a v hc => by
  obtain ⟨h1, h2⟩ := hole_cell_iff.1 hc
  exact hole_cell_iff.2 ⟨fun e => h1 (hs _ e), h2⟩
theorem OwnRow.kept {α : Type} {R : α → List Value → Prop} {e : TypeId} {sz : Nat} {w w' : World} {base : Nat} {H : List Nat} {v : Value} {ps : List α} (h : OwnRow R e sz w base v ps) (k : Keep H w w') (hb : ∀ b, v.ownBlock = some b → b ∉ H) : OwnRow R e sz w' base v ps := by
  obtain ⟨inner, ho, hr⟩ := h
  exact ⟨inner, own_move ho (fun g hg => k.block g (own_lt ho g hg) (hb g hg)), hr⟩
theorem OwnRow.up {α : Type} {d : Kd α} (u : Up d) {e : TypeId} {sz : Nat} {W w w' : World} {base : Nat} {v : Value} {ps : List α} (h : OwnRow (d.K w) e sz W base v ps) (hs : Sub w w') : OwnRow (d.K w') e sz W base v ps := h.imp_ (fun _ _ hp => u hs hp)
theorem OwnRow.readsH {α : Type} {d : Kd α} {e : TypeId} {w : World} {base : Nat} {H : List Nat} {v : Value} {ps : List α} (h : OwnRow (d.K (hole H w)) e d.sz w base v ps) (hb : ∀ b, v.ownBlock = some b → b ∉ H) : ∃ A c, v = .slice A ps.length c ∧ ps.length ≤ c ∧ d.C (hole H w) A ps.length ps := by
  obtain ⟨inner, ho, hr⟩ := h
  have ho2 : (hole H w).ownsRow base e d.sz v ps.length inner := own_move ho (fun g hg => hole_other w (hb g hg))
  exact OwnRow.reads ⟨inner, ho2, hr⟩
end Go.Proofs.YtbfkkepdeepdeaaGreatDoor
end
section
namespace Go.Proofs.YtbfkkepdeepdeaaGreatDoor
open Go.RowKit Go.Proofs.YtbfkkepdeepdeaaGreatDoorW.PrintWords Go.Proofs.YtbfkkepdeepdeaaGreatDoorW.PrintLast Go.Proofs.YtbfkkepdeepdeaaGreatDoorW.PrintMore
set_option linter.unusedVariables false
set_option linter.unusedSimpArgs false
structure Ft where
  file : Int
  pos : Int
  code : Int
structure Pd where
  tree : Nd
  tail : ByteArray
def zFl : Fl := ⟨noB, noB⟩
def zFt : Ft := ⟨0, 0, 0⟩
def zPd : Pd := ⟨zN, noB⟩
abbrev cFl (x : Fl) : List Value := [.string x.name, .string x.text]
abbrev aFl (x : Fl) : Array Value := #[.string x.name, .string x.text]
abbrev cFt (x : Ft) : List Value := [.int .i64 x.file, .int .i64 x.pos, .int .i64 x.code]
abbrev cPd (x : Pd) (A0 : Option Addr) (c0 : Nat) : List Value := [.int .i64 x.tree.kind, .string x.tree.gap, .string x.tree.text, .int .i64 x.tree.pos, .slice A0 x.tree.kids.length c0, .string x.tail]
abbrev aPd (x : Pd) (A0 : Option Addr) (c0 : Nat) : Array Value := #[.int .i64 x.tree.kind, .string x.tree.gap, .string x.tree.text, .int .i64 x.tree.pos, .slice A0 x.tree.kids.length c0, .string x.tail]
def kFl : Kd Fl := Kd.iso (Kd.pair Kd.string Kd.string) (fun x : Fl => (x.name, x.text))
theorem kFl_open {w : World} {x : Fl} {cs : List Value} (h : kFl.K w x cs) : cs = cFl x := by
  obtain ⟨_, _, rfl, rfl, rfl⟩ := h
  rfl
theorem kFl_mk (w : World) (x : Fl) : kFl.K w x (cFl x) := by
  exact ⟨[.string x.name], [.string x.text], rfl, rfl, rfl⟩
theorem kFl_at {w w' : World} (up : ∀ a v, w.cell? a = some v → w'.cell? a = some v) {A : Option Addr} {n : Nat} {xs : List Fl} (h : kFl.C w A n xs) (i : Nat) (hi : i < n) : ∃ ad, A = some ad ∧ w'.cell? (ad.add (i * 2)) = some (.string (xs.getD i zFl).name) ∧ w'.cell? ⟨(ad.add (i * 2)).block, (ad.add (i * 2)).off + 1, none⟩ = some (.string (xs.getD i zFl).text) := by
  obtain ⟨ad, c, e, _, hK, hc0⟩ := Kd.C_get h zFl (i : Int) (by omega) (by omega)
  rw [Int.toNat_natCast] at hK hc0
  have hc : ∀ j u, c[j]? = some u → w'.cell? (ad.add (i * 2 + j)) = some u := fun j u h => up _ _ (hc0 j u h)
  obtain rfl := kFl_open hK
  exact ⟨ad, e, hc 0 _ rfl, by rw [← add_field _ _ 1 (by omega)]; exact hc 1 _ rfl⟩
def kFt : Kd Ft := Kd.iso (Kd.pair (Kd.int .i64) (Kd.pair (Kd.int .i64) (Kd.int .i64))) (fun x : Ft => (x.file, x.pos, x.code))
theorem kFt_open {w : World} {x : Ft} {cs : List Value} (h : kFt.K w x cs) : cs = cFt x := by
  obtain ⟨_, _, rfl, rfl, ⟨_, _, rfl, rfl, rfl⟩⟩ := h
  rfl
theorem kFt_mk (w : World) (x : Ft) : kFt.K w x (cFt x) := by
  exact ⟨[.int .i64 x.file], [.int .i64 x.pos, .int .i64 x.code], rfl, rfl, ⟨[.int .i64 x.pos], [.int .i64 x.code], rfl, rfl, rfl⟩⟩
theorem kFt_at {w w' : World} (up : ∀ a v, w.cell? a = some v → w'.cell? a = some v) {A : Option Addr} {n : Nat} {xs : List Ft} (h : kFt.C w A n xs) (i : Nat) (hi : i < n) : ∃ ad, A = some ad ∧ w'.cell? (ad.add (i * 3)) = some (.int .i64 (xs.getD i zFt).file) ∧ w'.cell? ⟨(ad.add (i * 3)).block, (ad.add (i * 3)).off + 1, none⟩ = some (.int .i64 (xs.getD i zFt).pos) ∧ w'.cell? ⟨(ad.add (i * 3)).block, (ad.add (i * 3)).off + 2, none⟩ = some (.int .i64 (xs.getD i zFt).code) := by
  obtain ⟨ad, c, e, _, hK, hc0⟩ := Kd.C_get h zFt (i : Int) (by omega) (by omega)
  rw [Int.toNat_natCast] at hK hc0
  have hc : ∀ j u, c[j]? = some u → w'.cell? (ad.add (i * 3 + j)) = some u := fun j u h => up _ _ (hc0 j u h)
  obtain rfl := kFt_open hK
  exact ⟨ad, e, hc 0 _ rfl, by rw [← add_field _ _ 1 (by omega)]; exact hc 1 _ rfl, by rw [← add_field _ _ 2 (by omega)]; exact hc 2 _ rfl⟩
def kPd : Kd Pd := Kd.iso (Kd.pair kNd Kd.string) (fun x : Pd => (x.tree, x.tail))
theorem kPd_open {w : World} {x : Pd} {cs : List Value} (h : kPd.K w x cs) : ∃ A0 c0, cs = cPd x A0 c0 ∧ x.tree.kids.length ≤ c0 ∧ kNd.C w A0 x.tree.kids.length x.tree.kids := by
  obtain ⟨_, _, rfl, s0, rfl⟩ := h
  obtain ⟨A0, c0, rfl, l0, g0⟩ := kNd_open s0
  exact ⟨A0, c0, rfl, l0, g0⟩
theorem kPd_mk (w : World) (x : Pd) {A0 : Option Addr} {c0 : Nat} (l0 : x.tree.kids.length ≤ c0) (g0 : kNd.C w A0 x.tree.kids.length x.tree.kids) : kPd.K w x (cPd x A0 c0) := by
  exact ⟨[.int .i64 x.tree.kind, .string x.tree.gap, .string x.tree.text, .int .i64 x.tree.pos, .slice A0 x.tree.kids.length c0], [.string x.tail], rfl, (kNd_mk w x.tree l0 g0), rfl⟩
theorem kPd_at {w w' : World} (up : ∀ a v, w.cell? a = some v → w'.cell? a = some v) {A : Option Addr} {n : Nat} {xs : List Pd} (h : kPd.C w A n xs) (i : Nat) (hi : i < n) : ∃ ad A0 c0, A = some ad ∧ w'.cell? (ad.add (i * 6)) = some (.int .i64 (xs.getD i zPd).tree.kind) ∧ w'.cell? ⟨(ad.add (i * 6)).block, (ad.add (i * 6)).off + 1, none⟩ = some (.string (xs.getD i zPd).tree.gap) ∧ w'.cell? ⟨(ad.add (i * 6)).block, (ad.add (i * 6)).off + 2, none⟩ = some (.string (xs.getD i zPd).tree.text) ∧ w'.cell? ⟨(ad.add (i * 6)).block, (ad.add (i * 6)).off + 3, none⟩ = some (.int .i64 (xs.getD i zPd).tree.pos) ∧ w'.cell? ⟨(ad.add (i * 6)).block, (ad.add (i * 6)).off + 4, none⟩ = some (.slice A0 (xs.getD i zPd).tree.kids.length c0) ∧ w'.cell? ⟨(ad.add (i * 6)).block, (ad.add (i * 6)).off + 5, none⟩ = some (.string (xs.getD i zPd).tail) ∧ (xs.getD i zPd).tree.kids.length ≤ c0 ∧ kNd.C w A0 (xs.getD i zPd).tree.kids.length (xs.getD i zPd).tree.kids := by
  obtain ⟨ad, c, e, _, hK, hc0⟩ := Kd.C_get h zPd (i : Int) (by omega) (by omega)
  rw [Int.toNat_natCast] at hK hc0
  have hc : ∀ j u, c[j]? = some u → w'.cell? (ad.add (i * 6 + j)) = some u := fun j u h => up _ _ (hc0 j u h)
  obtain ⟨A0, c0, rfl, l0, g0⟩ := kPd_open hK
  exact ⟨ad, A0, c0, e, hc 0 _ rfl, by rw [← add_field _ _ 1 (by omega)]; exact hc 1 _ rfl, by rw [← add_field _ _ 2 (by omega)]; exact hc 2 _ rfl, by rw [← add_field _ _ 3 (by omega)]; exact hc 3 _ rfl, by rw [← add_field _ _ 4 (by omega)]; exact hc 4 _ rfl, by rw [← add_field _ _ 5 (by omega)]; exact hc 5 _ rfl, l0, g0⟩
end Go.Proofs.YtbfkkepdeepdeaaGreatDoor
end
section
namespace Go.Proofs.YtbfkkepdeepdeaaGreatDoor
open Go.RowKit Go.Proofs.YtbfkkepdeepdeaaGreatDoorW.PrintWords Go.Proofs.YtbfkkepdeepdeaaGreatDoorW.PrintLast
section
variable {P : Program} {ops : Array Oper} {Q : Exit → Act → World → Prop} {S : World → Prop} {ds : List Nat}
def ordHead (P : Program) (ops : Array Oper) (S : World → Prop) (K : Act → Prop) : List (Oper × Bool) → Act → Prop
  | [], a => K a
  | (o, b) :: r, a => ∃ v, YieldsIf P ops (fun w => b = false → S w) o v a ∧ ordHead P ops S K r (a.put o.dst v)
theorem ordHead_nil {K : Act → Prop} {a : Act} (h : K a) : ordHead P ops S K [] a := h
theorem ordHead_pure {K : Act → Prop} {o : Oper} {r : List (Oper × Bool)} {a : Act} {N : Option Tmp} (hg : o.guard = none) (hN : o.dst = N) (h : ∃ v, (∀ w, (execOp a.eval o).run P w = .ok (.value v) w) ∧ ∃ a', a.put N v = a' ∧ ordHead P ops S K r a') : ordHead P ops S K ((o, true) :: r) a := by
  subst hN
  obtain ⟨v, hy, a', rfl, h⟩ := h
  exact ⟨v, .inl ⟨by simp [Region.wanted, hg], fun w _ => hy w⟩, h⟩
theorem ordHead_read {K : Act → Prop} {o : Oper} {r : List (Oper × Bool)} {a : Act} {N : Option Tmp} (hg : o.guard = none) (hN : o.dst = N) (h : ∃ v, (∀ w, S w → (execOp a.eval o).run P w = .ok (.value v) w) ∧ ∃ a', a.put N v = a' ∧ ordHead P ops S K r a') : ordHead P ops S K ((o, false) :: r) a := by
  subst hN
  obtain ⟨v, hy, a', rfl, h⟩ := h
  exact ⟨v, .inl ⟨by simp [Region.wanted, hg], fun w hw => hy w (hw rfl)⟩, h⟩
theorem ordHead_off {K : Act → Prop} {o : Oper} {b : Bool} {r : List (Oper × Bool)} {a : Act} {N : Option Tmp} (hw : Region.wanted o (yielded ops a.tmps) = false) (hN : o.dst = N) (h : ∃ a', a.put N undef = a' ∧ ordHead P ops S K r a') : ordHead P ops S K ((o, b) :: r) a := by
  subst hN
  obtain ⟨a', rfl, h⟩ := h
  exact ⟨undef, .inr ⟨hw, rfl⟩, h⟩
theorem ordHead_on {K : Act → Prop} {o : Oper} {b : Bool} {r : List (Oper × Bool)} {a : Act} {N : Option Tmp} (hw : Region.wanted o (yielded ops a.tmps) = true) (hN : o.dst = N) (h : ∃ v, (∀ w, (b = false → S w) → (execOp a.eval o).run P w = .ok (.value v) w) ∧ ∃ a', a.put N v = a' ∧ ordHead P ops S K r a') : ordHead P ops S K ((o, b) :: r) a := by
  subst hN
  obtain ⟨v, hy, a', rfl, h⟩ := h
  exact ⟨v, .inl ⟨hw, hy⟩, h⟩
def ordTail (P : Program) (ops : Array Oper) (Q : Exit → Act → World → Prop) (S : World → Prop) (l2 : List Oper) : List Oper → Act → World → Prop
  | [], a, w => wpList P ops Q l2 a w
  | o :: l1, a, w => wpList P ops (fun e a' w' => match e with | .normal => S w' ∧ ordTail P ops Q S l2 l1 a' w' | e => Q e a' w') [o] a w
def pickOps (l : List Oper) : List Nat → List Oper
  | [] => []
  | i :: r => match l[i]? with | some o => o :: pickOps l r | none => pickOps l r
def pickHead (l : List Oper) : List (Nat × Bool) → List (Oper × Bool)
  | [] => []
  | (i, b) :: r => match l[i]? with | some o => (o, b) :: pickHead l r | none => pickHead l r
def headB (md : Region.Mode) (ops : Array Oper) (ds : List Nat) : List (Nat × Bool) → Array Bool → Option (Array Bool)
  | [], l => some l
  | (i, b) :: r, l => if decide (i < ops.size) && (Region.free md ops l i && ((Region.ready md ops l).contains i && (b || (Region.closedB md ops l && Region.lastB md ops l ds i)))) then headB md ops ds r (l.setIfInBounds i true) else none
def tailB (md : Region.Mode) (ops : Array Oper) : List Nat → Array Bool → Bool
  | [], l => Region.ready md ops l == []
  | i :: r, l => decide (i < ops.size) && ((Region.ready md ops l == [i]) && tailB md ops r (l.setIfInBounds i true))
def ordB (md : Region.Mode) (ops : Array Oper) (H : List (Nat × Bool)) (T1 T2 : List Nat) : Bool :=
  Region.noSelect ops && (T1.all (fun i => !T2.contains i) && (decide (ops.size = H.length + (T1 ++ T2).length) && match headB md ops T2 H (Array.replicate ops.size false) with | none => false | some l => tailB md ops (T1 ++ T2) l))
theorem ordTail2 {md : Region.Mode} {l : List Oper} : ∀ (T2 : List Nat) (listed : Array Bool) (a : Act) (w : World) (_ : ∀ i ∈ T2, i ∈ ds) (_ : tailB md l.toArray T2 listed = true),
    wpList P l.toArray Q (pickOps l T2) a w → wpAnyLast P md l.toArray Q S ds T2.length listed a w
  | [], listed, a, w, _, hB, h => ⟨by simpa [tailB] using hB, h⟩
  | i :: r, listed, a, w, hd, hB, h => by
    simp only [tailB, Bool.and_eq_true, beq_iff_eq, decide_eq_true_iff] at hB
    obtain ⟨hi, h1, h2⟩ := hB
    have hl : i < l.length := by simpa using hi
    have ho : l[i]? = some l[i] := List.getElem?_eq_getElem hl
    have ho2 : l.toArray[i]? = some l[i] := by simp
    refine wpAnyLast_all h1 (by simp) (fun j hj => ?_)
    rw [List.mem_singleton.1 hj]
    simp only [pickOps, ho] at h
    have hw : wpOp P l.toArray Q i (wpList P l.toArray Q (pickOps l r)) a w := by unfold wpOp; simp only [ho2]; exact h
    exact wpOp_mono (fun a' w' h' => ⟨fun hn => absurd (hd i List.mem_cons_self) hn, ordTail2 r _ a' w' (fun k hk => hd k (List.mem_cons_of_mem _ hk)) h2 h'⟩) hw
theorem upon_exit {Q1 Q2 : Exit → Act → World → Prop} {o : Oper} {a : Act} {K : Act → World → Prop} (hp : ∀ c a w, Q1 (.panic c) a w → Q2 (.panic c) a w) (ho : ∀ a w, Q1 .outgrown a w → Q2 .outgrown a w) (r : Result Next) (h : o.upon P a K Q1 r) : o.upon P a K Q2 r := by
  unfold Oper.upon at h ⊢
  split at h
  · exact h
  · exact h
  · exact h
  · refine h.mono fun e w' he => ?_
    cases e with
    | returned v => exact he
    | panicked c => exact hp _ _ _ he
    | outgrown => obtain ⟨a', w', h'⟩ := he; exact ⟨a', w', ho _ _ h'⟩
  · exact h
  · exact hp _ _ _ h
  · exact h.elim
theorem wp_exit {Q1 Q2 : Exit → Act → World → Prop} {o : Oper} {a : Act} {w : World} {K : Act → World → Prop} (hp : ∀ c a w, Q1 (.panic c) a w → Q2 (.panic c) a w) (ho : ∀ a w, Q1 .outgrown a w → Q2 .outgrown a w) (h : o.wp P a w K Q1) : o.wp P a w K Q2 := upon_exit hp ho _ h
theorem ordTail1 {md : Region.Mode} {l : List Oper} {T2 : List Nat} (hds : ∀ i ∈ T2, i ∈ ds) (hQ : ∀ c (a : Act) t w, Q (.panic c) { a with tmps := t } w → Q (.panic c) a w) : ∀ (T1 : List Nat) (listed : Array Bool) (a : Act) (w : World) (_ : tailB md l.toArray (T1 ++ T2) listed = true),
    ordTail P l.toArray Q S (pickOps l T2) (pickOps l T1) a w → wpAnyLast P md l.toArray Q S ds (T1 ++ T2).length listed a w
  | [], listed, a, w, hB, h => ordTail2 T2 listed a w hds hB h
  | i :: r, listed, a, w, hB, h => by
    simp only [List.cons_append, tailB, Bool.and_eq_true, beq_iff_eq, decide_eq_true_iff] at hB
    obtain ⟨hi, h1, h2⟩ := hB
    have hl : i < l.length := by simpa using hi
    have ho : l[i]? = some l[i] := List.getElem?_eq_getElem hl
    have ho2 : l.toArray[i]? = some l[i] := by simp
    refine wpAnyLast_all h1 (by simp) (fun j hj => ?_)
    rw [List.mem_singleton.1 hj]
    simp only [pickOps, ho, ordTail] at h
    unfold wpOp
    simp only [ho2]
    simp only [wpList] at h
    split
    · rename_i hw
      rw [if_pos hw] at h
      rcases h with h | ⟨h, h'⟩
      · have h3 : Oper.wp P l[i] a w (fun a' w' => S w' ∧ ordTail P l.toArray Q S (pickOps l T2) (pickOps l r) a' w') Q := by
          refine wp_exit ?_ ?_ h
          · exact fun _ _ _ h => h
          · exact fun _ _ h => h
        exact .inl (Oper.wp_mono (fun a' w' h' => ⟨fun _ _ => h'.1, ordTail1 hds hQ r _ _ _ h2 h'.2⟩) h3)
      · exact .inr ⟨h, by obtain ⟨a', w', h''⟩ := h'; exact ⟨a', w', h''⟩⟩
    · rename_i hw
      rw [if_neg hw] at h
      exact ⟨fun _ _ => h.1, ordTail1 hds hQ r _ _ _ h2 h.2⟩
theorem panic_put (hQ : ∀ c (a : Act) t w, Q (.panic c) { a with tmps := t } w → Q (.panic c) a w) (d : Option Tmp) (v : Value) (c : List PanicEntry) (a : Act) (w : World) (h : Q (.panic c) (a.put d v) w) : Q (.panic c) a w := by
  cases d with
  | none => exact h
  | some t => exact hQ c a _ w h
theorem ordHead1 {md : Region.Mode} {l : List Oper} {n : Nat} {K : Act → Prop} {w : World} (hsel : Region.noSelect l.toArray = true) (hQ : ∀ c (a : Act) t w, Q (.panic c) { a with tmps := t } w → Q (.panic c) a w) (hS : S w) :
    ∀ (H : List (Nat × Bool)) (listed l' : Array Bool) (a : Act) (_ : headB md l.toArray ds H listed = some l') (_ : ∀ a, K a → wpAnyLast P md l.toArray Q S ds n l' a w), ordHead P l.toArray S K (pickHead l H) a → wpAnyLast P md l.toArray Q S ds (H.length + n) listed a w
  | [], listed, l', a, hB, hK, h => by
    injection hB with hB
    subst hB
    rw [List.length_nil, Nat.zero_add]
    exact hK _ h
  | (i, b) :: r, listed, l', a, hB, hK, h => by
    simp only [headB] at hB
    split at hB
    · rename_i hc
      simp only [Bool.and_eq_true, Bool.or_eq_true, decide_eq_true_iff] at hc
      obtain ⟨hi, hf, hr, hb⟩ := hc
      have hl : i < l.length := by simpa using hi
      have ho : l[i]? = some l[i] := List.getElem?_eq_getElem hl
      have ho2 : l.toArray[i]? = some l[i] := by simp
      simp only [pickHead, ho, ordHead] at h
      obtain ⟨v, hy, h⟩ := h
      have h2 := ordHead1 hsel hQ hS r _ _ _ hB hK h
      rw [List.length_cons, show r.length + 1 + n = (r.length + n) + 1 by omega]
      cases b with
      | true =>
        refine wpAnyLast_any ho2 (Region.noSelect_spec hsel) (panic_put hQ _ _) _ _ _ _ (Region.free_spec ho2 hf) (by simpa using hr) ?_ h2
        rcases hy with ⟨hw, hy⟩ | hy
        · exact .inl ⟨hw, fun w => hy w (fun h => by cases h)⟩
        · exact .inr hy
      | false =>
        obtain ⟨hc1, hc2⟩ : Region.closedB md l.toArray listed = true ∧ Region.lastB md l.toArray listed ds i = true := by simpa using hb
        refine wpAnyLast_take ho2 hsel hf hr hc1 hc2 (panic_put hQ _ _) ?_ hS h2
        rcases hy with ⟨hw, hy⟩ | hy
        · exact .inl ⟨hw, fun w hw => hy w (fun _ => hw)⟩
        · exact .inr hy
    · cases hB
theorem wp_region_ord {id : Nat} {l : List Oper} {a : Act} {w : World} (S : World → Prop) (H : List (Nat × Bool)) (T1 T2 : List Nat) (hm : P.follows .mixedOrders = true) (hB : ordB .any l.toArray H T1 T2 = true)
    (hQ : ∀ c (a : Act) t w, Q (.panic c) { a with tmps := t } w → Q (.panic c) a w) (hS : S w.drew)
    (h : ∀ K : Act → Prop, (∀ a', ordTail P l.toArray Q S (pickOps l T2) (pickOps l T1) a' w.drew → K a') → ordHead P l.toArray S K (pickHead l H) a) : (Code.region id l.toArray true).wp P Q a w := by
  simp only [ordB, Bool.and_eq_true, decide_eq_true_iff] at hB
  obtain ⟨h1, h2, h3, h4⟩ := hB
  refine wp_region_last (S := S) (ds := T2) hm ?_
  rw [h3] at h4 ⊢
  cases hh : headB .any l.toArray T2 H (Array.replicate (H.length + (T1 ++ T2).length) false) with
  | none => rw [hh] at h4; cases h4
  | some l' =>
    rw [hh] at h4
    exact ordHead1 (w := w.drew) h1 hQ hS H _ _ a hh (fun a' ha' => ordTail1 (fun i hi => hi) hQ T1 l' a' w.drew h4 ha') (h _ (fun a' ha' => ha'))
def ordT (P : Program) (md : Region.Mode) (l : List Oper) (Q : Exit → Act → World → Prop) (S : World → Prop) (T2 : List Nat) : Nat → Array Bool → Act → World → Prop
  | 0, listed, a, w => tailB md l.toArray T2 listed = true ∧ wpList P l.toArray Q (pickOps l T2) a w
  | n + 1, listed, a, w => Region.ready md l.toArray listed ≠ [] ∧ ∀ i ∈ Region.ready md l.toArray listed, ∃ o, l[i]? = some o ∧ wpList P l.toArray (fun e a' w' => match e with | .normal => S w' ∧ ordT P md l Q S T2 n (listed.setIfInBounds i true) a' w' | e => Q e a' w') [o] a w
theorem ordT_one {md : Region.Mode} {l : List Oper} {T2 : List Nat} {n : Nat} {listed : Array Bool} {a : Act} {w : World} (i : Nat) {o : Oper} (h : Region.ready md l.toArray listed = [i]) (ho : l[i]? = some o)
    (hw : wpList P l.toArray (fun e a' w' => match e with | .normal => S w' ∧ ordT P md l Q S T2 n (listed.setIfInBounds i true) a' w' | e => Q e a' w') [o] a w) : ordT P md l Q S T2 (n + 1) listed a w :=
  ⟨by rw [h]; simp, fun j hj => by rw [h] at hj; rw [List.mem_singleton.1 hj]; exact ⟨o, ho, hw⟩⟩
theorem ordT_two {md : Region.Mode} {l : List Oper} {T2 : List Nat} {n : Nat} {listed : Array Bool} {a : Act} {w : World} (i1 i2 : Nat) {o1 o2 : Oper} (h : Region.ready md l.toArray listed = [i1, i2]) (ho1 : l[i1]? = some o1) (ho2 : l[i2]? = some o2)
    (hw1 : wpList P l.toArray (fun e a' w' => match e with | .normal => S w' ∧ ordT P md l Q S T2 n (listed.setIfInBounds i1 true) a' w' | e => Q e a' w') [o1] a w)
    (hw2 : wpList P l.toArray (fun e a' w' => match e with | .normal => S w' ∧ ordT P md l Q S T2 n (listed.setIfInBounds i2 true) a' w' | e => Q e a' w') [o2] a w) : ordT P md l Q S T2 (n + 1) listed a w :=
  ⟨by rw [h]; simp, fun j hj => by
    rw [h] at hj
    rcases List.mem_cons.1 hj with e | e
    · rw [e]; exact ⟨o1, ho1, hw1⟩
    · rw [List.mem_singleton.1 e]; exact ⟨o2, ho2, hw2⟩⟩
theorem ordT_rest {md : Region.Mode} {l : List Oper} {T2 : List Nat} {listed : Array Bool} {a : Act} {w : World} (hB : tailB md l.toArray T2 listed = true) (h : wpList P l.toArray Q (pickOps l T2) a w) : ordT P md l Q S T2 0 listed a w := ⟨hB, h⟩
theorem ordT_last {md : Region.Mode} {l : List Oper} {T2 : List Nat} : ∀ (n : Nat) (listed : Array Bool) (a : Act) (w : World), ordT P md l Q S T2 n listed a w → wpAnyLast P md l.toArray Q S T2 (n + T2.length) listed a w
  | 0, listed, a, w, h => by rw [Nat.zero_add]; exact ordTail2 T2 listed a w (fun _ h => h) h.1 h.2
  | n + 1, listed, a, w, h => by
    rw [show n + 1 + T2.length = (n + T2.length) + 1 by omega]
    refine ⟨fun h0 => absurd h0 h.1, fun i hi => ?_⟩
    obtain ⟨o, ho, hw⟩ := h.2 i hi
    have ho2 : l.toArray[i]? = some o := by simpa using ho
    unfold wpOp
    simp only [ho2]
    simp only [wpList] at hw
    split
    · rename_i hg
      rw [if_pos hg] at hw
      rcases hw with hw | ⟨hw, hw'⟩
      · refine .inl (Oper.wp_mono (fun a' w' h' => ⟨fun _ _ => h'.1, ordT_last n _ _ _ h'.2⟩) (wp_exit ?_ ?_ hw))
        · exact fun _ _ _ h => h
        · exact fun _ _ h => h
      · exact .inr ⟨hw, by obtain ⟨a', w', h''⟩ := hw'; exact ⟨a', w', h''⟩⟩
    · rename_i hg
      rw [if_neg hg] at hw
      exact ⟨fun _ _ => hw.1, ordT_last n _ _ _ hw.2⟩
theorem wp_region_ordT {id : Nat} {l : List Oper} {a : Act} {w : World} (S : World → Prop) (H : List (Nat × Bool)) (n : Nat) (T2 : List Nat) (listed : Array Bool) (hm : P.follows .mixedOrders = true) (hs : Region.noSelect l.toArray = true) (hz : l.toArray.size = H.length + (n + T2.length))
    (hh : headB .any l.toArray T2 H (Array.replicate l.toArray.size false) = some listed) (hQ : ∀ c (a : Act) t w, Q (.panic c) { a with tmps := t } w → Q (.panic c) a w) (hS : S w.drew)
    (h : ∀ K : Act → Prop, (∀ a', ordT P .any l Q S T2 n listed a' w.drew → K a') → ordHead P l.toArray S K (pickHead l H) a) : (Code.region id l.toArray true).wp P Q a w := by
  refine wp_region_last (S := S) (ds := T2) hm ?_
  rw [hz] at hh ⊢
  exact ordHead1 (w := w.drew) hs hQ hS H _ _ a hh (fun a' ha' => ordT_last n _ _ _ ha') (h _ (fun a' ha' => ha'))
end
end Go.Proofs.YtbfkkepdeepdeaaGreatDoor
end
section
namespace Go.Proofs.YtbfkkepdeepdeaaGreatDoor
open Go.RowKit Go.Proofs.YtbfkkepdeepdeaaGreatDoorW.PrintWords Go.Proofs.YtbfkkepdeepdeaaGreatDoorW.PrintLast Go.Proofs.YtbfkkepdeepdeaaGreatDoorW.PrintMore
set_option linter.unusedVariables false
set_option linter.unusedSimpArgs false
set_option maxRecDepth 100000
theorem cell_blk {w : World} {tb : Nat} {cs : Array Value} {t : TypeId} (h : w.heap[tb]? = some (.cells cs t (0, 0))) (j : Nat) : w.cell? ⟨tb, j, none⟩ = cs[j]? := by simp [World.cell?, h]
theorem frozen_blk {w : World} {tb : Nat} {cs : Array Value} {t : TypeId} (h : w.heap[tb]? = some (.cells cs t (0, 0))) (j : Nat) : w.frozen? ⟨tb, j, none⟩ = false := by simp [World.frozen?, h]
theorem heap_setCell_same {w : World} {tb : Nat} {cs : Array Value} {t : TypeId} (h : w.heap[tb]? = some (.cells cs t (0, 0))) (j : Nat) (v : Value) : (w.setCell ⟨tb, j, none⟩ v).heap[tb]? = some (.cells (cs.setIfInBounds j v) t (0, 0)) := by simp [World.setCell, Array.getElem?_modify, h]
theorem below_drawn (W : World) (n : Nat) : Below W.heap.size W (W.drewN n) := (Drawn0.mk ⟨n, rfl⟩).below
theorem ret_int {k : IntKind} {a b : Int} (h : a = b) : Ending.returned (.int k a) = .returned (.int k b) := by rw [h]
theorem resNd {F : Func} {i : Nat} {tmps : Array Value} {W : World} {b : Nat} {x : Nd} {A : Option Addr} {c : Nat} (hF : F.results = #[.cell i 122]) (h : tmps.getD i undef = .pointer (some ⟨b, 0, none⟩)) (hb : W.heap[b]? = some (.cells (aNd x A c) 122 (0, 0))) : (results F tmps).run Tryz.prog W = .ok (.agg (aNd x A c)) W := by
  have h' : tmps[i]?.getD undef = .pointer (some ⟨b, 0, none⟩) := by simpa using h
  have c0 := cell_blk hb 0
  have c1 := cell_blk hb 1
  have c2 := cell_blk hb 2
  have c3 := cell_blk hb 3
  have c4 := cell_blk hb 4
  simp [results, hF, h', go_sem, c0, c1, c2, c3, c4]
theorem cell_later {w w' : World} {a : Addr} {v : Value} (h : Below w.heap.size w w') (hc : w.cell? a = some v) : w'.cell? a = some v := (World.cell?_of_block (a := a) (h.block _ (cell_block hc))).trans hc
theorem bl_loop (b : ByteArray) : ∀ (d i : Nat) (r : List UInt8), b.size - i = d → ByteArray.toList.loop b i r = r.reverse ++ b.data.toList.drop i := by
  intro d
  induction d with
  | zero =>
    intro i r h
    unfold ByteArray.toList.loop
    rw [if_neg (by omega), List.drop_eq_nil_of_le (by rw [Array.length_toList]; show b.size ≤ i; omega), List.append_nil]
  | succ d ih =>
    intro i r h
    have hi : i < b.size := by omega
    unfold ByteArray.toList.loop
    rw [if_pos hi, ih (i + 1) _ (by omega), List.drop_eq_getElem_cons (i := i) (by rw [Array.length_toList]; exact hi)]
    simp [ByteArray.get!, hi]
theorem toList_data (b : ByteArray) : b.toList = b.data.toList := by
  unfold ByteArray.toList
  rw [bl_loop b b.size 0 [] (by omega)]; simp
theorem toList_inj {a b : ByteArray} : a.toList = b.toList ↔ a = b := by
  rw [toList_data, toList_data]
  constructor
  · intro h; cases a; cases b; simp at h; subst h; rfl
  · rintro rfl; rfl
theorem below_step {A B C : World} (h : Below A.heap.size A B) (k : Below B.heap.size B C) : Below A.heap.size A C := h.trans (k.mono h.size)
theorem below_drew1 (W : World) : Below W.heap.size W W.drew := (Below.refl _ _).drew
structure Fit (s : ByteArray) (L : List Tok) : Prop where
  size : s.size ≤ 4000
  len : L.length ≤ 4000
  tok : ∀ k t, L[k]? = some t → 0 ≤ t.fr ∧ t.fr ≤ t.to ∧ t.to ≤ (s.size : Int) ∧ 0 ≤ lastOf L k ∧ lastOf L k ≤ t.fr
structure RdP (w : World) (cb : Nat) (s : ByteArray) (A : Option Addr) (c : Nat) (L : List Tok) (u : Cu) : Prop where
  blk : w.heap[cb]? = some (.cells #[.string s, .slice A L.length c, .int .i64 u.next, .int .i64 (lastOf L u.next), .int .i64 u.deep, .int .i64 u.pos, .int .i64 u.err] 223 (0, 0))
  tok : kTok.C w A L.length L
  low : ∀ ad, A = some ad → ad.block < cb
  fit : Fit s L
  next : u.next ≤ L.length
  deep : u.deep ≤ 200
section
variable {w w' : World} {cb : Nat} {s : ByteArray} {A : Option Addr} {c : Nat} {L : List Tok} {u : Cu}
theorem RdP.lt (R : RdP w cb s A c L u) : cb < w.heap.size := (Array.getElem?_eq_some_iff.1 R.blk).1
theorem RdP.move (R : RdP w cb s A c L u) (hb : w'.heap[cb]? = w.heap[cb]?) (hl : ∀ k, k < cb → w'.heap[k]? = w.heap[k]?) : RdP w' cb s A c L u := by
  refine ⟨hb.trans R.blk, ?_, R.low, R.fit, R.next, R.deep⟩
  obtain ⟨h1, h2, h3⟩ := R.tok
  refine ⟨h1, h2, fun hp => ?_⟩
  obtain ⟨ad, e, hr⟩ := h3 hp
  refine ⟨ad, e, fun j p hj => ?_⟩
  obtain ⟨cs, hs, hK, hc⟩ := hr j p hj
  refine ⟨cs, hs, by rw [kTok_open hK]; exact kTok_mk w' p, fun i v hv => ?_⟩
  have hk : (ad.add (j * 3 + i)).block < cb := by
    have : (ad.add (j * 3 + i)).block = ad.block := by unfold Addr.add; split <;> rfl
    rw [this]; exact R.low ad e
  exact (World.cell?_of_block (hl _ hk)).trans (hc i v hv)
theorem RdP.keep (R : RdP w cb s A c L u) {H : List Nat} (h : Keep H w w') (hH : ∀ k, k ∈ H → cb < k) : RdP w' cb s A c L u :=
  R.move (h.block cb R.lt (fun e => by have := hH _ e; omega)) (fun k hk => h.block k (by have := R.lt; omega) (fun e => by have := hH _ e; omega))
theorem RdP.below (R : RdP w cb s A c L u) (h : Below w.heap.size w w') : RdP w' cb s A c L u := R.move (h.block cb R.lt) (fun k hk => h.block k (by have := R.lt; omega))
theorem RdP.c0 (R : RdP w cb s A c L u) : w.cell? ⟨cb, 0, none⟩ = some (.string s) := (cell_blk R.blk 0).trans rfl
theorem RdP.c1 (R : RdP w cb s A c L u) : w.cell? ⟨cb, 1, none⟩ = some (.slice A L.length c) := (cell_blk R.blk 1).trans rfl
theorem RdP.c2 (R : RdP w cb s A c L u) : w.cell? ⟨cb, 2, none⟩ = some (.int .i64 u.next) := (cell_blk R.blk 2).trans rfl
theorem RdP.c3 (R : RdP w cb s A c L u) : w.cell? ⟨cb, 3, none⟩ = some (.int .i64 (lastOf L u.next)) := (cell_blk R.blk 3).trans rfl
theorem RdP.c4 (R : RdP w cb s A c L u) : w.cell? ⟨cb, 4, none⟩ = some (.int .i64 u.deep) := (cell_blk R.blk 4).trans rfl
theorem RdP.c5 (R : RdP w cb s A c L u) : w.cell? ⟨cb, 5, none⟩ = some (.int .i64 u.pos) := (cell_blk R.blk 5).trans rfl
theorem RdP.c6 (R : RdP w cb s A c L u) : w.cell? ⟨cb, 6, none⟩ = some (.int .i64 u.err) := (cell_blk R.blk 6).trans rfl
theorem tok_at (hk : u.err = 0) {k : Nat} {t : Tok} (h : L[u.next + k]? = some t) : tokAt L u k = some t := by unfold tokAt; rw [if_pos hk]; exact h
theorem left_eq (e : u.err = 0) : left L u = L.length - u.next := by unfold left; rw [if_pos e]
theorem left_bad (e : u.err ≠ 0) : left L u = 0 := by unfold left; rw [if_neg e]
theorem Left_calls (R : RdP w cb s A c L u) :
    Calls Tryz.prog 74 #[.pointer (some ⟨cb, 0, none⟩)] w fun e w' => e = .returned (.int .i64 (left L u)) ∧ Below w.heap.size w w' := by
  have c1 := R.c1
  have c2 := R.c2
  have c6 := R.c6
  have hn := R.next
  have hl := R.fit.len
  by_cases e : u.err = 0
  · have HL := Lib.hid (left_eq (L := L) e)
    rw [e] at c6
    go_enter Tryz.func74, Tryz.ntmps74
    go_wp2
    go_quiet (fail)
    go_wp2
    go_ret
    refine ⟨?_, below_drawn _ _⟩
    rw [HL.out]
    exact ret_int (by omega)
  · have HL := Lib.hid (left_bad (L := L) e)
    have eb : (u.err != 0) = true := by simpa using e
    go_enter Tryz.func74, Tryz.ntmps74
    go_wp2
    go_ret
    refine ⟨?_, Below.refl _ _⟩
    rw [HL.out]; rfl
theorem Text_calls (t : Tok) (h0 : 0 ≤ t.fr) (h1 : t.fr ≤ t.to) (h2 : t.to ≤ (s.size : Int)) (hs : s.size ≤ 4000) :
    Calls Tryz.prog 181 #[.agg (aTok t), .string s] w fun e w' => e = .returned (.string (t.text s)) ∧ Below w.heap.size w w' := by
  go_enter Tryz.func181, Tryz.ntmps181
  go_wp2
  go_ret
  exact ⟨rfl, (Below.refl _ _).alloc (Nat.le_refl _) _⟩
theorem Token_calls (g t : ByteArray) (p : Int) :
    Calls Tryz.prog 218 #[.string g, .string t, .int .i64 p] w fun e w' => e = .returned (.agg (aNd ⟨1, g, t, p, []⟩ none 0)) ∧ Below w.heap.size w w' := by
  go_enter Tryz.func218, Tryz.ntmps218
  go_wp2
  exact bodyPost_ret (resNd (b := w.heap.size) Tryz.results218 rfl (World.alloc_heap_new w _)) rfl ⟨rfl, (Below.refl _ _).alloc (Nat.le_refl _) _⟩
theorem Peek_calls (R : RdP w cb s A c L u) (k : Nat) (hk : k ≤ 10) :
    Calls Tryz.prog 151 #[.pointer (some ⟨cb, 0, none⟩), .int .i64 k] w fun e w' => e = .returned (.tuple #[.int .i64 (peek s L u k).1, .string (peek s L u k).2]) ∧ Below w.heap.size w w' := by
  have hn := R.next
  have hl := R.fit.len
  have HR := Lib.hid R
  clear R
  by_cases hlt : k < left L u
  · have he : u.err = 0 := by
      by_cases e : u.err = 0
      · exact e
      · rw [left_bad e] at hlt; omega
    have hle := left_eq (L := L) he
    have hx : u.next + k < L.length := by omega
    obtain ⟨t, ht⟩ : ∃ t, t = L.getD (u.next + k) zTok := ⟨_, rfl⟩
    have hg : L[u.next + k]? = some t := by rw [ht, List.getD_eq_getElem?_getD, List.getElem?_eq_getElem hx]; rfl
    have HP := Lib.hid (show peek s L u k = (t.kind, t.text s) by unfold peek; rw [tok_at he hg])
    obtain ⟨h0, h1, h2, -, -⟩ := HR.out.fit.tok _ _ hg
    have hsz := HR.out.fit.size
    have HT := Lib.hid (fun (W : World) => Text_calls (w := W) t h0 h1 h2 hsz)
    have hgb : decide (((left L u : Nat) : Int) ≤ (k : Int)) = false := by simp; omega
    have hi0 : (0 : Int) ≤ (u.next : Int) + (k : Int) := by omega
    have hi1 : (u.next : Int) + (k : Int) < (L.length : Int) := by omega
    have hi2 : ((u.next : Int) + (k : Int)).toNat = u.next + k := by omega
    have HTT := Lib.hid ht
    clear ht hg hle he hsz
    go_enter Tryz.func151, Tryz.ntmps151
    go_wp2_with fail
    refine (Left_calls HR.out).mono ?_
    rintro e w1 ⟨rfl, h1⟩
    have R1 := HR.out.below h1
    obtain ⟨ad, rfl, t0, t1, t2⟩ := kTok_at (fun a v h => h) R1.tok (u.next + k) hx
    rw [← HTT.out] at t0 t1 t2
    have c0 := R1.c0
    have c1 := R1.c1
    have c2 := R1.c2
    have hcb := R1.lt
    have hab := cell_block t0
    have HR1 := Lib.hid R1
    have H1 := Lib.hid h1
    clear R1 h1
    go_wp2_with fail
    go_region
    obtain ⟨w2, hw2⟩ : ∃ w2, w2 = (w1.alloc (.cells (aTok t) 262)).drew := ⟨_, rfl⟩
    have h2 : Below w1.heap.size w1 w2 := by rw [hw2]; exact ((Below.refl _ _).alloc (Nat.le_refl _) _).drew
    have hb2 : w2.heap[w1.heap.size]? = some (.cells (aTok t) 262 (0, 0)) := by rw [hw2]; exact World.alloc_heap_new w1 _
    rw [← hw2]
    have s0 : w2.cell? ⟨w1.heap.size, 0, none⟩ = some (.int .i64 t.kind) := (cell_blk hb2 0).trans rfl
    have s1 : w2.cell? ⟨w1.heap.size, 1, none⟩ = some (.int .i64 t.fr) := (cell_blk hb2 1).trans rfl
    have s2 : w2.cell? ⟨w1.heap.size, 2, none⟩ = some (.int .i64 t.to) := (cell_blk hb2 2).trans rfl
    have c0' := (HR1.out.below h2).c0
    have H2 := Lib.hid (H1.out.trans (h2.mono H1.out.size))
    clear c0 c1 c2 t0 t1 t2 hw2 h2 hb2
    go_wp2_with fail
    go_region_held3 (fun w' => w'.cell? ⟨w1.heap.size, 0, none⟩ = some (.int .i64 t.kind) ∧ w'.cell? ⟨w1.heap.size, 1, none⟩ = some (.int .i64 t.fr) ∧ w'.cell? ⟨w1.heap.size, 2, none⟩ = some (.int .i64 t.to) ∧ w'.cell? ⟨cb, 0, none⟩ = some (.string s))
      (first | go_keep | (refine ⟨?_, ?_, ?_, ?_⟩ <;> exact cell_later (by assumption) (by assumption)))
      ((go_at_call 181; refine (HT.out _).mono ?_; rintro e w3 ⟨rfl, h3⟩))
    go_wp2
    go_ret2
    exact ⟨by rw [HP.out]; rfl, below_step H2.out (below_step (below_drew1 _) h3)⟩
  · have HP := Lib.hid (show peek s L u k = (0, noB) by
      unfold peek tokAt
      by_cases e : u.err = 0
      · rw [if_pos e, List.getElem?_eq_none (by rw [left_eq e] at hlt; omega)]
      · rw [if_neg e])
    have hgb : decide (((left L u : Nat) : Int) ≤ (k : Int)) = true := by simp; omega
    go_enter Tryz.func151, Tryz.ntmps151
    go_wp2_with fail
    refine (Left_calls HR.out).mono ?_
    rintro e w1 ⟨rfl, h1⟩
    go_wp2_with fail
    go_ret2
    exact ⟨by rw [HP.out]; rfl, h1⟩
theorem Is_calls (R : RdP w cb s A c L u) (k : Nat) (hk : k ≤ 10) (t : ByteArray) :
    Calls Tryz.prog 114 #[.pointer (some ⟨cb, 0, none⟩), .int .i64 k, .string t] w fun e w' => e = .returned (.bool (isB s L u k t)) ∧ Below w.heap.size w w' := by
  have HR := Lib.hid R
  obtain ⟨p, hp⟩ : ∃ p, p = peek s L u k := ⟨_, rfl⟩
  have HI := Lib.hid (show isB s L u k t = ((p.1 == 3 || p.1 == 6) && decide (p.2 = t)) by rw [hp]; rfl)
  have HP := Lib.hid hp
  obtain ⟨p1, p2⟩ := p
  have ht : (p2.toList == t.toList) = decide (p2 = t) := by
    by_cases e : p2 = t
    · subst e; simp
    · rw [decide_eq_false e, beq_eq_false_iff_ne]; exact fun h => e (toList_inj.1 h)
  have HTT := Lib.hid ht
  clear R hp ht
  go_enter Tryz.func114, Tryz.ntmps114
  go_wp2_with fail
  refine (Peek_calls HR.out k hk).mono ?_
  rw [← HP.out]
  rintro e w1 ⟨rfl, h1⟩
  go_wp2_with fail
  all_goals
    go_ret
    refine ⟨?_, h1⟩
    rw [HI.out, ← HTT.out]
    first
      | (have h3 : p1 = 3 := by assumption
         subst h3; rfl)
      | (have h6 : p1 = 6 := by assumption
         subst h6; rfl)
      | (have h3 : ¬ p1 = 3 := by assumption
         have h6 : ¬ p1 = 6 := by assumption
         rw [beq_eq_false_iff_ne.2 h3, beq_eq_false_iff_ne.2 h6]; rfl)
theorem At_calls (R : RdP w cb s A c L u) (he : u.err = 0) :
    Calls Tryz.prog 248 #[.pointer (some ⟨cb, 0, none⟩)] w fun e w' => e = .returned (.int .i64 (posOf s L u)) ∧ Below w.heap.size w w' := by
  have HR := Lib.hid R
  have hle := left_eq (L := L) he
  have hn := R.next
  have hl := R.fit.len
  by_cases hlt : u.next < L.length
  · have hx : ∃ t, L[u.next]? = some t ∧ L.getD u.next zTok = t := ⟨L[u.next], List.getElem?_eq_getElem hlt, by rw [List.getD_eq_getElem?_getD, List.getElem?_eq_getElem hlt]; rfl⟩
    obtain ⟨t, hg, hd⟩ := hx
    have HD := Lib.hid hd
    have HP := Lib.hid (show posOf s L u = t.fr by unfold posOf; rw [tok_at he (k := 0) hg])
    have hz : ((left L u : Nat) : Int) = 0 → False := fun h => by omega
    have hzb : (((left L u : Nat) : Int) == 0) = false := by simp; omega
    have hi0 : (0 : Int) ≤ (u.next : Int) := by omega
    have hi1 : (u.next : Int) < (L.length : Int) := by omega
    clear R hd hg hle he
    go_enter Tryz.func248, Tryz.ntmps248
    go_wp2_with fail
    refine (Left_calls HR.out).mono ?_
    rintro e w1 ⟨rfl, h1⟩
    have R1 := HR.out.below h1
    obtain ⟨ad, rfl, t0, t1, t2⟩ := kTok_at (fun a v h => h) R1.tok u.next hlt
    rw [HD.out] at t0 t1 t2
    have c1 := R1.c1
    have c2 := R1.c2
    clear R1
    go_wp2_with fail
    go_quiet (fail)
    go_wp2
    go_ret
    exact ⟨by rw [HP.out]; rfl, below_step h1 (below_drawn _ _)⟩
  · have HP := Lib.hid (show posOf s L u = s.size by unfold posOf tokAt; rw [if_pos he, List.getElem?_eq_none (by omega)])
    have hz : left L u = 0 := by omega
    have HL := Lib.hid (fun (W : World) (R' : RdP W cb s A c L u) => Left_calls R')
    have HZ := Lib.hid hz
    clear R hle he hz
    go_enter Tryz.func248, Tryz.ntmps248
    go_wp2_with fail
    refine (HL.out _ HR.out).mono ?_
    rw [HZ.out]
    rintro e w1 ⟨rfl, h1⟩
    have c0 := (HR.out.below h1).c0
    go_wp2_with fail
    go_ret
    exact ⟨by rw [HP.out]; rfl, h1⟩
theorem RdP.write (R : RdP w cb s A c L u) {u2 : Cu} (hb : w'.heap[cb]? = some (.cells #[.string s, .slice A L.length c, .int .i64 u2.next, .int .i64 (lastOf L u2.next), .int .i64 u2.deep, .int .i64 u2.pos, .int .i64 u2.err] 223 (0, 0)))
    (hl : ∀ k, k < cb → w'.heap[k]? = w.heap[k]?) (h1 : u2.next ≤ L.length) (h2 : u2.deep ≤ 200) : RdP w' cb s A c L u2 := by
  have h : RdP (w'.putObj cb (.cells #[.string s, .slice A L.length c, .int .i64 u.next, .int .i64 (lastOf L u.next), .int .i64 u.deep, .int .i64 u.pos, .int .i64 u.err] 223 (0, 0))) cb s A c L u :=
    R.move ((World.putObj_heap_same (Array.getElem?_eq_some_iff.1 hb).1).trans R.blk.symm) (fun k hk => (World.putObj_heap_other (by omega)).trans (hl k hk))
  refine ⟨hb, ?_, R.low, R.fit, h1, h2⟩
  refine up_C up_kTok (w := hole [cb] (w'.putObj cb (.cells #[.string s, .slice A L.length c, .int .i64 u.next, .int .i64 (lastOf L u.next), .int .i64 u.deep, .int .i64 u.pos, .int .i64 u.err] 223 (0, 0)))) (fun a v hc => ?_) ?_
  · obtain ⟨k1, k2⟩ := hole_cell_iff.1 hc
    exact (World.cell?_of_block (World.putObj_heap_other (by simpa using k1)).symm).trans k2
  · obtain ⟨h1, h2, h3⟩ := h.tok
    refine ⟨h1, h2, fun hp => ?_⟩
    obtain ⟨ad, e, hr⟩ := h3 hp
    refine ⟨ad, e, fun j p hj => ?_⟩
    obtain ⟨cs, hs, hK, hc⟩ := hr j p hj
    refine ⟨cs, hs, by rw [kTok_open hK]; exact kTok_mk _ p, fun i v hv => hole_cell_iff.2 ⟨?_, hc i v hv⟩⟩
    have hbk : ∀ n, (ad.add n).block = ad.block := fun n => by unfold Addr.add; split <;> rfl
    rw [hbk]
    have := R.low ad e
    simp; omega
theorem low_set (b j : Nat) (v : Value) (W : World) : ∀ k, k < b → (W.setCell ⟨b, j, none⟩ v).heap[k]? = W.heap[k]? := fun k hk => Below.heap_setCell _ _ _ k (by show k ≠ b; omega)
theorem RdP.set2 (R : RdP w cb s A c L u) (p e : Int) : RdP ((w.setCell ⟨cb, 5, none⟩ (.int .i64 p)).setCell ⟨cb, 6, none⟩ (.int .i64 e)) cb s A c L { u with pos := p, err := e } :=
  R.write (heap_setCell_same (heap_setCell_same R.blk 5 (.int .i64 p)) 6 (.int .i64 e)) (fun k hk => (low_set _ _ _ _ k hk).trans (low_set _ _ _ _ k hk)) R.next R.deep
theorem RdP.setDeep (R : RdP w cb s A c L u) (d : Nat) (hd : d ≤ 200) : RdP (w.setCell ⟨cb, 4, none⟩ (.int .i64 d)) cb s A c L { u with deep := d } :=
  R.write (heap_setCell_same R.blk 4 (.int .i64 d)) (low_set _ _ _ _) R.next hd
theorem Fail_calls (R : RdP w cb s A c L u) (x : Int) (h1 : 1 ≤ x) (h2 : x ≤ 15) :
    Calls Tryz.prog 217 #[.pointer (some ⟨cb, 0, none⟩), .int .i64 x] w fun e w' => e = .returned (.tuple #[]) ∧ RdP w' cb s A c L (failB s L u x) ∧ Keep [cb] w w' := by
  have c6 := R.c6
  have HR := Lib.hid R
  by_cases e : u.err = 0
  · have HF := Lib.hid (show failB s L u x = { u with pos := posOf s L u, err := x } by unfold failB; rw [if_pos e])
    have HE := Lib.hid e
    rw [e] at c6
    clear R e
    go_enter Tryz.func217, Tryz.ntmps217
    go_wp2_with fail
    refine (At_calls HR.out HE.out).mono ?_
    rintro e w1 ⟨rfl, hb⟩
    have R1 := HR.out.below hb
    have d5 := R1.c5
    have d6 := R1.c6
    have f5 := frozen_blk R1.blk 5
    have f6 := frozen_blk R1.blk 6
    have HR1 := Lib.hid R1
    clear R1
    go_wp2_with fail
    go_end0
    exact ⟨rfl, by rw [HF.out]; exact HR1.out.set2 _ _, (Keep.of_below hb).trans ((Keep.set _ _ (by simp)).trans (Keep.set _ _ (by simp)))⟩
  · have HF := Lib.hid (show failB s L u x = u by unfold failB; rw [if_neg e])
    have eb : (u.err != 0) = true := by simpa using e
    clear R
    go_enter Tryz.func217, Tryz.ntmps217
    go_wp2
    exact bodyPost_ret (v := .tuple #[]) (results_none rfl _ _ _) rfl ⟨rfl, by rw [HF.out]; exact HR.out, Keep.refl _ _⟩
theorem Down_calls (R : RdP w cb s A c L u) :
    Calls Tryz.prog 214 #[.pointer (some ⟨cb, 0, none⟩)] w fun e w' => e = .returned (.bool (down s L u).1) ∧ RdP w' cb s A c L (down s L u).2 ∧ Keep [cb] w w' := by
  have c4 := R.c4
  have c6 := R.c6
  have f4 := frozen_blk R.blk 4
  have hd := R.deep
  have HR := Lib.hid R
  by_cases e : u.err = 0
  · by_cases h200 : u.deep < 200
    · have HD := Lib.hid (show down s L u = (true, { u with deep := u.deep + 1 }) by unfold down; rw [if_pos e, if_pos h200])
      rw [e] at c6
      have hb : decide ((200 : Int) ≤ (u.deep : Int)) = false := by simp; omega
      clear R e
      go_enter Tryz.func214, Tryz.ntmps214
      go_wp2
      go_ret
      exact ⟨by rw [HD.out]; rfl, by rw [HD.out]; exact HR.out.setDeep (u.deep + 1) (by omega), Keep.set _ _ (by simp)⟩
    · have HD := Lib.hid (show down s L u = (false, failB s L u 3) by unfold down; rw [if_pos e, if_neg h200])
      rw [e] at c6
      have hb : decide ((200 : Int) ≤ (u.deep : Int)) = true := by simp; omega
      clear R e
      go_enter Tryz.func214, Tryz.ntmps214
      go_wp2_with fail
      refine (Fail_calls HR.out 3 (by decide) (by decide)).mono ?_
      rintro e w1 ⟨rfl, R1, k1⟩
      clear c4 c6 f4
      go_wp2_with fail
      go_ret
      exact ⟨by rw [HD.out]; rfl, by rw [HD.out]; exact R1, k1⟩
  · have HD := Lib.hid (show down s L u = (false, u) by unfold down; rw [if_neg e])
    have eb : (u.err != 0) = true := by simpa using e
    clear R
    go_enter Tryz.func214, Tryz.ntmps214
    go_wp2
    go_ret
    exact ⟨by rw [HD.out]; rfl, by rw [HD.out]; exact HR.out, Keep.refl _ _⟩
theorem Up_calls (R : RdP w cb s A c L u) :
    Calls Tryz.prog 216 #[.pointer (some ⟨cb, 0, none⟩)] w fun e w' => e = .returned (.tuple #[]) ∧ RdP w' cb s A c L (up u) ∧ Keep [cb] w w' := by
  have c4 := R.c4
  have f4 := frozen_blk R.blk 4
  have hd := R.deep
  have HR := Lib.hid R
  have HM := Lib.hid (show max 0 ((u.deep : Int) - 1) = ((u.deep - 1 : Nat) : Int) by omega)
  clear R
  go_enter Tryz.func216, Tryz.ntmps216
  go_wp2
  · have e : ((u.deep : Int) - 1) = ((u.deep - 1 : Nat) : Int) := by omega
    rw [e]
    go_end0
    exact ⟨rfl, HR.out.setDeep (u.deep - 1) (by omega), Keep.set _ _ (by simp)⟩
  · have e : (0 : Int) = ((u.deep - 1 : Nat) : Int) := by omega
    rw [show (w.setCell ⟨cb, 4, none⟩ (.int .i64 0)) = w.setCell ⟨cb, 4, none⟩ (.int .i64 ((u.deep - 1 : Nat) : Int)) by rw [← e]]
    go_end0
    exact ⟨rfl, HR.out.setDeep (u.deep - 1) (by omega), Keep.set _ _ (by simp)⟩
theorem set5 {W : World} {b : Nat} {a0 a1 a2 a3 a4 : Value} {T : TypeId} (hb : W.heap[b]? = some (.cells #[a0, a1, a2, a3, a4] T (0, 0))) (v0 v1 v2 v3 v4 : Value) :
    (((((W.setCell ⟨b, 0, none⟩ v0).setCell ⟨b, 1, none⟩ v1).setCell ⟨b, 2, none⟩ v2).setCell ⟨b, 3, none⟩ v3).setCell ⟨b, 4, none⟩ v4).heap[b]? = some (.cells #[v0, v1, v2, v3, v4] T (0, 0)) :=
  heap_setCell_same (heap_setCell_same (heap_setCell_same (heap_setCell_same (heap_setCell_same hb 0 v0) 1 v1) 2 v2) 3 v3) 4 v4
theorem keep5 {H : List Nat} {w W : World} {b : Nat} (h : Keep H w W) (hb : w.heap.size ≤ b) (v0 v1 v2 v3 v4 : Value) :
    Keep H w (((((W.setCell ⟨b, 0, none⟩ v0).setCell ⟨b, 1, none⟩ v1).setCell ⟨b, 2, none⟩ v2).setCell ⟨b, 3, none⟩ v3).setCell ⟨b, 4, none⟩ v4) :=
  ((((h.setNew _ hb).setNew _ hb).setNew _ hb).setNew _ hb).setNew _ hb
theorem RdP.setNext (R : RdP w cb s A c L u) (h : u.next < L.length) : RdP ((w.setCell ⟨cb, 2, none⟩ (.int .i64 ((u.next : Int) + 1))).setCell ⟨cb, 3, none⟩ (.int .i64 (lastOf L (u.next + 1)))) cb s A c L { u with next := u.next + 1 } :=
  R.write (heap_setCell_same (heap_setCell_same R.blk 2 (.int .i64 ((u.next : Int) + 1))) 3 (.int .i64 (lastOf L (u.next + 1)))) (fun k hk => (low_set _ _ _ _ k hk).trans (low_set _ _ _ _ k hk)) h R.deep
theorem RdP.set (R : RdP w cb s A c L u) {b j : Nat} (v : Value) (hb : cb < b) : RdP (w.setCell ⟨b, j, none⟩ v) cb s A c L u :=
  R.move (Below.heap_setCell _ _ _ cb (by show cb ≠ b; omega)) (fun k hk => Below.heap_setCell _ _ _ k (by show k ≠ b; omega))
theorem RdP.set5 (R : RdP w cb s A c L u) {b : Nat} (hb : cb < b) (v0 v1 v2 v3 v4 : Value) :
    RdP (((((w.setCell ⟨b, 0, none⟩ v0).setCell ⟨b, 1, none⟩ v1).setCell ⟨b, 2, none⟩ v2).setCell ⟨b, 3, none⟩ v3).setCell ⟨b, 4, none⟩ v4) cb s A c L u :=
  ((((R.set v0 hb).set v1 hb).set v2 hb).set v3 hb).set v4 hb
end
end Go.Proofs.YtbfkkepdeepdeaaGreatDoor
end
section
namespace Go.Proofs.YtbfkkepdeepdeaaGreatDoor
open Go.RowKit Go.Proofs.YtbfkkepdeepdeaaGreatDoorW.PrintWords Go.Proofs.YtbfkkepdeepdeaaGreatDoorW.PrintLast Go.Proofs.YtbfkkepdeepdeaaGreatDoorW.PrintMore
set_option linter.unusedVariables false
set_option linter.unusedSimpArgs false
set_option maxRecDepth 100000
section
variable {w w' : World} {cb : Nat} {s : ByteArray} {A : Option Addr} {c : Nat} {L : List Tok} {u : Cu}
structure Box5 (W : World) (b : Nat) (a0 a1 a2 a3 a4 : Value) : Prop where
  blk : W.heap[b]? = some (.cells #[a0, a1, a2, a3, a4] 122 (0, 0))
theorem Box5.all {W : World} {b : Nat} {a0 a1 a2 a3 a4 : Value} (h : Box5 W b a0 a1 a2 a3 a4) :
    (W.cell? ⟨b, 0, none⟩ = some a0 ∧ W.cell? ⟨b, 1, none⟩ = some a1 ∧ W.cell? ⟨b, 2, none⟩ = some a2 ∧ W.cell? ⟨b, 3, none⟩ = some a3 ∧ W.cell? ⟨b, 4, none⟩ = some a4) ∧
    (W.frozen? ⟨b, 0, none⟩ = false ∧ W.frozen? ⟨b, 1, none⟩ = false ∧ W.frozen? ⟨b, 2, none⟩ = false ∧ W.frozen? ⟨b, 3, none⟩ = false ∧ W.frozen? ⟨b, 4, none⟩ = false) :=
  ⟨⟨(cell_blk h.blk 0).trans rfl, (cell_blk h.blk 1).trans rfl, (cell_blk h.blk 2).trans rfl, (cell_blk h.blk 3).trans rfl, (cell_blk h.blk 4).trans rfl⟩, frozen_blk h.blk 0, frozen_blk h.blk 1, frozen_blk h.blk 2, frozen_blk h.blk 3, frozen_blk h.blk 4⟩
theorem keep5b {w W : World} {b : Nat} (h : Below w.heap.size w W) (hb : w.heap.size ≤ b) (v0 v1 v2 v3 v4 : Value) :
    Below w.heap.size w (((((W.setCell ⟨b, 0, none⟩ v0).setCell ⟨b, 1, none⟩ v1).setCell ⟨b, 2, none⟩ v2).setCell ⟨b, 3, none⟩ v3).setCell ⟨b, 4, none⟩ v4) :=
  ((((h.setCell (p := ⟨b, 0, none⟩) hb _).setCell (p := ⟨b, 1, none⟩) hb _).setCell (p := ⟨b, 2, none⟩) hb _).setCell (p := ⟨b, 3, none⟩) hb _).setCell (p := ⟨b, 4, none⟩) hb _
theorem held5 {W W' : World} {a0 a1 a2 a3 a4 : Addr} {v0 v1 v2 v3 v4 : Value} (h : Below W.heap.size W W') (hh : W.cell? a0 = some v0 ∧ W.cell? a1 = some v1 ∧ W.cell? a2 = some v2 ∧ W.cell? a3 = some v3 ∧ W.cell? a4 = some v4) :
    W'.cell? a0 = some v0 ∧ W'.cell? a1 = some v1 ∧ W'.cell? a2 = some v2 ∧ W'.cell? a3 = some v3 ∧ W'.cell? a4 = some v4 :=
  ⟨cell_later h hh.1, cell_later h hh.2.1, cell_later h hh.2.2.1, cell_later h hh.2.2.2.1, cell_later h hh.2.2.2.2⟩
theorem box_new {W w' : World} (h : Below (W.alloc (.cells #[.int .i64 0, .string ⟨#[]⟩, .string ⟨#[]⟩, .int .i64 0, .slice none 0 0] 122)).heap.size (W.alloc (.cells #[.int .i64 0, .string ⟨#[]⟩, .string ⟨#[]⟩, .int .i64 0, .slice none 0 0] 122)) w') : Box5 w' W.heap.size (.int .i64 0) (.string ⟨#[]⟩) (.string ⟨#[]⟩) (.int .i64 0) (.slice none 0 0) :=
  ⟨(h.block _ (by simp)).trans (World.alloc_heap_new W _)⟩
theorem Box5.later {W W' : World} {b : Nat} {a0 a1 a2 a3 a4 : Value} (h : Box5 W b a0 a1 a2 a3 a4) (hb : Below W.heap.size W W') : Box5 W' b a0 a1 a2 a3 a4 := ⟨(hb.block b (Array.getElem?_eq_some_iff.1 h.blk).1).trans h.blk⟩
theorem new_of {f : FuncId} {args : Array Value} {X : Ending} (h : ∀ W : World, Calls Tryz.prog f args W fun e w' => e = X ∧ Below W.heap.size W w') (W : World) :
    Calls Tryz.prog f args (W.alloc (.cells #[.int .i64 0, .string ⟨#[]⟩, .string ⟨#[]⟩, .int .i64 0, .slice none 0 0] 122)) fun e w' => e = X ∧ Below W.heap.size W w' ∧ Box5 w' W.heap.size (.int .i64 0) (.string ⟨#[]⟩) (.string ⟨#[]⟩) (.int .i64 0) (.slice none 0 0) :=
  (h _).mono fun e w' ⟨he, hb⟩ => ⟨he, below_step ((Below.refl _ _).alloc (Nat.le_refl _) _) hb, box_new hb⟩
theorem new_ofD {f : FuncId} {args : Array Value} {X : Ending} (h : ∀ W : World, Calls Tryz.prog f args W fun e w' => e = X ∧ Below W.heap.size W w') (W : World) :
    Calls Tryz.prog f args (W.alloc (.cells #[.int .i64 0, .string ⟨#[]⟩, .string ⟨#[]⟩, .int .i64 0, .slice none 0 0] 122)).drew fun e w' => e = X ∧ Below W.heap.size W w' ∧ Box5 w' W.heap.size (.int .i64 0) (.string ⟨#[]⟩) (.string ⟨#[]⟩) (.int .i64 0) (.slice none 0 0) :=
  (h _).mono fun e w' ⟨he, hb⟩ => ⟨he, below_step ((Below.refl _ _).alloc (Nat.le_refl _) _) (below_step (below_drew1 _) hb), box_new (below_step (below_drew1 _) hb)⟩
theorem keep_of {f : FuncId} {args : Array Value} {X : Ending} (h : ∀ W : World, Calls Tryz.prog f args W fun e w' => e = X ∧ Below W.heap.size W w') {W : World} {b : Nat} {a0 a1 a2 a3 a4 : Value} (hb : Box5 W b a0 a1 a2 a3 a4) :
    Calls Tryz.prog f args W fun e w' => e = X ∧ Below W.heap.size W w' ∧ Box5 w' b a0 a1 a2 a3 a4 := (h _).mono fun e w' ⟨he, hw⟩ => ⟨he, hw, hb.later hw⟩
set_option maxHeartbeats 4000000 in
theorem take_calls (R : RdP w cb s A c L u) (b : Bool) :
    Calls Tryz.prog 180 #[.pointer (some ⟨cb, 0, none⟩), .bool b] w fun e w' => e = .returned (.agg (aNd (take s L u b).1 none 0)) ∧ (take s L u b).1.kids = [] ∧ RdP w' cb s A c L (take s L u b).2 ∧ Keep [cb] w w' := by
  have hcb := R.lt
  have HR := Lib.hid R
  have hA1 : Below w.heap.size w (w.alloc (.cells (aNd zN none 0) 122)) := (Below.refl _ _).alloc (Nat.le_refl _) _
  have HR1 := Lib.hid (R.below hA1)
  have HX1 := Lib.hid (World.alloc_heap_new w (.cells (aNd zN none 0) 122))
  have HA1 := Lib.hid hA1
  have hn := R.next
  have hl := R.fit.len
  by_cases hbad : b = false ∨ left L u = 0
  · have HT := Lib.hid (show take s L u b = (zN, failB s L u 2) by
      rcases hbad with rfl | h0
      · rfl
      · have : tokAt L u 0 = none := by
          cases ht : tokAt L u 0 with
          | none => rfl
          | some t => have := left_pos ht; omega
        unfold take; rw [this]; cases b <;> rfl)
    have HB := Lib.hid hbad
    clear R hA1 hbad
    have hcase : b = false ∨ (b = true ∧ left L u = 0) := by rcases HB.out with h | h; exact .inl h; cases b; exact .inl rfl; exact .inr ⟨rfl, h⟩
    clear HB
    rcases hcase with rfl | ⟨rfl, h0⟩
    · go_enter Tryz.func180, Tryz.ntmps180
      go_wp2_with fail
      refine (Fail_calls HR1.out 2 (by decide) (by decide)).mono ?_
      rintro e w2 ⟨rfl, R2, k2⟩
      have hx2 := (k2.block w.heap.size (by simp) (by simp; omega)).trans HX1.out
      obtain ⟨⟨b0, b1, b2, b3, b4⟩, f0, f1, f2, f3, f4⟩ := (Box5.mk hx2).all
      have hX := Lib.hid hx2
      clear hx2
      have hK := (Keep.of_below (H := [cb]) HA1.out).trans k2
      go_wp2_with fail
      exact bodyPost_ret (resNd (x := zN) (b := w.heap.size) Tryz.results180 rfl (set5 hX.out _ _ _ _ _)) rfl ⟨by rw [HT.out], by rw [HT.out]; rfl, by rw [HT.out]; exact R2.set5 hcb _ _ _ _ _, keep5 hK (Nat.le_refl _) _ _ _ _ _⟩
    · have HZ := Lib.hid h0
      clear h0
      go_enter Tryz.func180, Tryz.ntmps180
      go_wp2_with fail
      refine (Left_calls HR1.out).mono ?_
      rw [HZ.out]
      rintro e w1 ⟨rfl, h1⟩
      have HR2 := Lib.hid (HR1.out.below h1)
      have HX2 := Lib.hid ((h1.block w.heap.size (by simp)).trans HX1.out)
      have HA2 := Lib.hid (below_step HA1.out h1)
      have hz := HA2.out.size
      have hz1 : w.heap.size < w1.heap.size := by have := h1.size; simp at this; omega
      clear h1
      go_wp2_with fail
      refine (Fail_calls HR2.out 2 (by decide) (by decide)).mono ?_
      rintro e w2 ⟨rfl, R2, k2⟩
      have hx2 := (k2.block w.heap.size hz1 (by simp; omega)).trans HX2.out
      obtain ⟨⟨b0, b1, b2, b3, b4⟩, f0, f1, f2, f3, f4⟩ := (Box5.mk hx2).all
      have hX := Lib.hid hx2
      clear hx2
      have hK := (Keep.of_below (H := [cb]) HA2.out).trans k2
      go_wp2_with fail
      exact bodyPost_ret (resNd (x := zN) (b := w.heap.size) Tryz.results180 rfl (set5 hX.out _ _ _ _ _)) rfl ⟨by rw [HT.out], by rw [HT.out]; rfl, by rw [HT.out]; exact R2.set5 hcb _ _ _ _ _, keep5 hK (Nat.le_refl _) _ _ _ _ _⟩
  · have hb : b = true := by cases b; exact absurd (.inl rfl) hbad; rfl
    subst hb
    have hpos : 0 < left L u := by rcases Nat.eq_zero_or_pos (left L u) with h | h; exact absurd (.inr h) hbad; exact h
    have he : u.err = 0 := by
      by_cases e : u.err = 0
      · exact e
      · rw [left_bad e] at hpos; omega
    have hle := left_eq (L := L) he
    have hx : u.next < L.length := by omega
    obtain ⟨t, ht⟩ : ∃ t, t = L.getD u.next zTok := ⟨_, rfl⟩
    have hg : L[u.next]? = some t := by rw [ht, List.getD_eq_getElem?_getD, List.getElem?_eq_getElem hx]; rfl
    have htk : tokAt L u 0 = some t := tok_at he (k := 0) hg
    have HT := Lib.hid (show take s L u true = (leafOf s L u t, { u with next := u.next + 1 }) by unfold take; rw [htk])
    obtain ⟨q0, q1, q2, q3, q4⟩ := HR.out.fit.tok _ _ hg
    have q5 : t.fr ≤ (s.size : Int) := by omega
    have hsz := HR.out.fit.size
    have HTX := Lib.hid (fun (W : World) => Text_calls (w := W) t q0 q1 q2 hsz)
    have HLAST := Lib.hid (show lastOf L (u.next + 1) = t.to by show (match L[u.next]? with | some t => t.to | none => 0) = t.to; rw [hg])
    have hz : (((left L u : Nat) : Int) == 0) = false := by simp; omega
    have HTT := Lib.hid ht
    have hi0 : (0 : Int) ≤ (u.next : Int) := by omega
    have hi1 : (u.next : Int) < (L.length : Int) := by omega
    clear R hA1 hbad hle hg htk ht he
    go_enter Tryz.func180, Tryz.ntmps180
    go_wp2_with fail
    refine (Left_calls HR1.out).mono ?_
    rintro e w1 ⟨rfl, hb1⟩
    have R2 := HR1.out.below hb1
    have HX2 := Lib.hid ((hb1.block w.heap.size (by simp)).trans HX1.out)
    have HA2 := Lib.hid (below_step HA1.out hb1)
    have hz1 : w.heap.size < w1.heap.size := by have := hb1.size; simp at this; omega
    obtain ⟨ad, rfl, t0, t1, t2⟩ := kTok_at (fun a v h => h) R2.tok u.next hx
    rw [← HTT.out] at t0 t1 t2
    have c1 := R2.c1
    have c2 := R2.c2
    have hcb1 := R2.lt
    have hab := cell_block t0
    have HR2 := Lib.hid R2
    clear R2 hb1
    go_wp2_with fail
    go_region
    obtain ⟨w2, hw2⟩ : ∃ w2, w2 = (w1.alloc (.cells (aTok t) 262)).drew := ⟨_, rfl⟩
    have hb2 : Below w1.heap.size w1 w2 := by rw [hw2]; exact ((Below.refl _ _).alloc (Nat.le_refl _) _).drew
    have hk2 : w2.heap[w1.heap.size]? = some (.cells (aTok t) 262 (0, 0)) := by rw [hw2]; exact World.alloc_heap_new w1 _
    rw [← hw2]
    have s0 : w2.cell? ⟨w1.heap.size, 0, none⟩ = some (.int .i64 t.kind) := (cell_blk hk2 0).trans rfl
    have s1 : w2.cell? ⟨w1.heap.size, 1, none⟩ = some (.int .i64 t.fr) := (cell_blk hk2 1).trans rfl
    have s2 : w2.cell? ⟨w1.heap.size, 2, none⟩ = some (.int .i64 t.to) := (cell_blk hk2 2).trans rfl
    have R3 := HR2.out.below hb2
    have HX3 := Lib.hid ((hb2.block w.heap.size hz1).trans HX2.out)
    have HA3 := Lib.hid (below_step HA2.out hb2)
    have c0 := R3.c0
    have c3 := R3.c3
    have HR3 := Lib.hid R3
    have hz2 : w1.heap.size < w2.heap.size := (Array.getElem?_eq_some_iff.1 hk2).1
    have HK2 := Lib.hid hk2
    have hcb2 := Nat.lt_trans hcb1 hz2
    clear c1 c2 t0 t1 t2 hw2 hb2 hk2 R3 hab
    have HTK := Lib.hid (fun (W : World) => Token_calls (w := W) (s.extract (lastOf L u.next).toNat t.fr.toNat) (t.text s) t.fr)
    go_upto_region 5 with (fail)
    go_cut [6] (fun v6 wx => ∃ b, v6 = .pointer (some ⟨b, 0, none⟩) ∧ Hid (Box5 wx b (.int .i64 1) (.string (s.extract (lastOf L u.next).toNat t.fr.toNat)) (.string (t.text s)) (.int .i64 t.fr) (.slice none 0 0)) ∧ Hid (w2.heap.size ≤ b) ∧ Hid (Below w2.heap.size w2 wx))
    case first =>
      refine wp_region_ordT (fun w' => w'.cell? ⟨w1.heap.size, 0, none⟩ = some (.int .i64 t.kind) ∧ w'.cell? ⟨w1.heap.size, 1, none⟩ = some (.int .i64 t.fr) ∧ w'.cell? ⟨w1.heap.size, 2, none⟩ = some (.int .i64 t.to) ∧ w'.cell? ⟨cb, 0, none⟩ = some (.string s) ∧ w'.cell? ⟨cb, 3, none⟩ = some (.int .i64 (lastOf L u.next)))
        [(0, true), (1, true), (2, true), (3, false), (4, true), (5, true), (6, true), (7, false), (8, true), (9, false), (10, true), (11, false), (12, true), (13, true), (14, true), (15, false), (17, true), (18, false)] 3 [21] #[true, true, true, true, true, true, true, true, true, true, true, true, true, true, true, true, false, true, true, false, false, false] (by kernel_rfl) (by kernel_rfl) (by kernel_rfl) (by kernel_rfl) (fun _ _ _ _ h => h) (by go_keep) (fun K hK => ?_)
      simp only [pickHead, List.getElem?_cons_succ, List.getElem?_cons_zero]
      repeat (first
        | (refine ordHead_pure rfl rfl ?_; apply Exists.intro; refine ⟨fun w' => ?_, ?_⟩; (go_simp; with_reducible rfl); apply Exists.intro; refine ⟨?_, ?_⟩; (simp only [Act.put, List.setIfInBounds_toArray, List.set_cons_zero, List.set_cons_succ]; rfl))
        | (refine ordHead_read rfl rfl ?_; apply Exists.intro; refine ⟨?_, ?_⟩; (rintro w' ⟨z0, z1, z2, z3, z4⟩; go_simp; with_reducible rfl); apply Exists.intro; refine ⟨?_, ?_⟩; (simp only [Act.put, List.setIfInBounds_toArray, List.set_cons_zero, List.set_cons_succ]; rfl)))
      refine ordHead_nil (hK _ ?_)
      refine ordT_two 16 20 (by kernel_rfl) rfl rfl ?_ ?_
      · go_wp2_with fail
        refine (HTX.out _).mono ?_
        rintro e w3 ⟨rfl, h3⟩
        have H3 := Lib.hid (below_step (below_drew1 w2) h3)
        have S3 := held5 H3.out ⟨s0, s1, s2, c0, c3⟩
        have e3 := Nat.lt_of_lt_of_le hz2 H3.out.size
        have e3' := Nat.lt_trans hcb1 e3
        have hs3 := H3.out.size
        go_wp2_with fail
        clear S3
        refine ordT_two 19 20 (by kernel_rfl) rfl rfl ?_ ?_
        · go_wp2_with fail
          refine (HTK.out _).mono ?_
          rintro e w4 ⟨rfl, h4⟩
          have H4 := Lib.hid (below_step H3.out h4)
          have S4 := held5 H4.out ⟨s0, s1, s2, c0, c3⟩
          have hs4 := h4.size
          go_wp2_with fail
          clear S4
          refine ordT_one 20 (by kernel_rfl) rfl ?_
          go_wp2_with fail
          refine ⟨held5 (below_step H4.out ((Below.refl _ _).alloc (Nat.le_refl _) _)) ⟨s0, s1, s2, c0, c3⟩, ?_⟩
          refine ordT_rest (by kernel_rfl) ?_
          simp only [pickOps, List.getElem?_cons_succ, List.getElem?_cons_zero]
          go_wp2_with fail
          go_meet
          exact ⟨_, rfl, ⟨World.alloc_heap_new w4 _⟩, Nat.le_trans hs3 hs4, below_step H4.out ((Below.refl _ _).alloc (Nat.le_refl _) _)⟩
        · go_wp2_with fail
          refine ⟨held5 H3.out ⟨s0, s1, s2, c0, c3⟩, ?_⟩
          refine ordT_one 19 (by kernel_rfl) rfl ?_
          go_wp2_with fail
          refine (new_of HTK.out _).mono ?_
          rintro e w4 ⟨rfl, h4, bx4⟩
          have H4 := Lib.hid (below_step H3.out h4)
          have S4 := held5 H4.out ⟨s0, s1, s2, c0, c3⟩
          obtain ⟨⟨k0, k1, k2, k3, k4⟩, m0, m1, m2, m3, m4⟩ := bx4.all
          have HX4 := Lib.hid bx4
          clear bx4 h4
          go_wp2_with fail
          clear S4
          refine ordT_rest (by kernel_rfl) ?_
          simp only [pickOps, List.getElem?_cons_succ, List.getElem?_cons_zero]
          go_wp2_with fail
          go_meet
          exact ⟨_, rfl, ⟨set5 HX4.out.blk _ _ _ _ _⟩, hs3, keep5b H4.out hs3 _ _ _ _ _⟩
      · go_wp2_with fail
        refine ordT_one 16 (by kernel_rfl) rfl ?_
        go_wp2_with fail
        refine (new_ofD HTX.out _).mono ?_
        rintro e w3 ⟨rfl, h3, bx3⟩
        have H3 := Lib.hid h3
        have S3 := held5 H3.out ⟨s0, s1, s2, c0, c3⟩
        have HX3 := Lib.hid bx3
        clear h3 bx3
        go_wp2_with fail
        clear S3
        refine ordT_one 19 (by kernel_rfl) rfl ?_
        go_wp2_with fail
        refine (keep_of HTK.out HX3.out).mono ?_
        rintro e w4 ⟨rfl, h4, bx4⟩
        have H4 := Lib.hid (below_step H3.out h4)
        have S4 := held5 H4.out ⟨s0, s1, s2, c0, c3⟩
        obtain ⟨⟨k0, k1, k2, k3, k4⟩, m0, m1, m2, m3, m4⟩ := bx4.all
        have HX4 := Lib.hid bx4
        clear bx4 h4
        go_wp2_with fail
        clear S4
        refine ordT_rest (by kernel_rfl) ?_
        simp only [pickOps, List.getElem?_cons_succ, List.getElem?_cons_zero]
        go_wp2_with fail
        go_meet
        exact ⟨_, rfl, ⟨set5 HX4.out.blk _ _ _ _ _⟩, Nat.le_refl _, keep5b H4.out (Nat.le_refl _) _ _ _ _ _⟩
    case rest =>
      obtain ⟨b, rfl, HX, HBW, HW⟩ := hcut
      have R4 := HR3.out.below HW.out
      have HX4 := Lib.hid ((HW.out.block w.heap.size (Nat.lt_trans hz1 hz2)).trans HX3.out)
      have k0 := cell_later HW.out s2
      have d2 := R4.c2
      have d3 := R4.c3
      have f2 := frozen_blk R4.blk 2
      have f3 := frozen_blk R4.blk 3
      have HR4 := Lib.hid R4
      clear s0 s1 s2 c0 c3 R4
      go_wp2_with fail
      go_region
      obtain ⟨w5, hw5⟩ : ∃ w5, w5 = ((wc.setCell ⟨cb, 2, none⟩ (.int .i64 ((u.next : Int) + 1))).setCell ⟨cb, 3, none⟩ (.int .i64 t.to)).drew := ⟨_, rfl⟩
      have K5 : Keep [cb] wc w5 := by rw [hw5]; exact ((Keep.set _ _ (by simp)).trans (Keep.set _ _ (by simp))).trans (Keep.drew _)
      have R5 : RdP w5 cb s (some ad) c L { u with next := u.next + 1 } := by
        rw [hw5]
        refine RdP.below ?_ (below_drew1 _)
        rw [← HLAST.out]
        exact HR4.out.setNext hx
      have hwb := HW.out.size
      have hwc := HR4.out.lt
      have hBb := HBW.out
      have hX5 : w5.heap[w.heap.size]? = some (.cells (aNd zN none 0) 122 (0, 0)) := (K5.block w.heap.size (by omega) (by simp; omega)).trans HX4.out
      have hY5 : Box5 w5 b _ _ _ _ _ := ⟨(K5.block b (Array.getElem?_eq_some_iff.1 HX.out.blk).1 (by simp; omega)).trans HX.out.blk⟩
      have HR5 := Lib.hid R5
      have HK5 := Lib.hid (show Keep [cb] w w5 from (Keep.of_below (below_step HA3.out HW.out)).trans K5)
      rw [← hw5]
      obtain ⟨⟨y0, y1, y2, y3, y4⟩, -⟩ := hY5.all
      obtain ⟨⟨x0, x1, x2, x3, x4⟩, f0, f1, f2, f3, f4⟩ := (Box5.mk hX5).all
      have HX5 := Lib.hid hX5
      clear hw5 K5 R5 hX5 hY5 d2 d3 k0
      go_wp2_with fail
      exact bodyPost_ret (resNd (x := leafOf s L u t) (b := w.heap.size) Tryz.results180 rfl (set5 HX5.out _ _ _ _ _)) rfl ⟨by rw [HT.out], by rw [HT.out]; rfl, by rw [HT.out]; exact HR5.out.set5 hcb _ _ _ _ _, keep5 HK5.out (Nat.le_refl _) _ _ _ _ _⟩
theorem Any_calls (R : RdP w cb s A c L u) (k : Int) :
    Calls Tryz.prog 149 #[.pointer (some ⟨cb, 0, none⟩), .int .i64 k] w fun e w' => e = .returned (.agg (aNd (anyK s L u k).1 none 0)) ∧ (anyK s L u k).1.kids = [] ∧ RdP w' cb s A c L (anyK s L u k).2 ∧ Keep [cb] w w' := by
  have hcb := R.lt
  have hA1 : Below w.heap.size w (w.alloc (.cells (aNd zN none 0) 122)) := (Below.refl _ _).alloc (Nat.le_refl _) _
  have HR1 := Lib.hid (R.below hA1)
  have HX1 := Lib.hid (World.alloc_heap_new w (.cells (aNd zN none 0) 122))
  have HA1 := Lib.hid hA1
  obtain ⟨p, hp⟩ : ∃ p, p = peek s L u 0 := ⟨_, rfl⟩
  have HP := Lib.hid hp
  have HAK := Lib.hid (show anyK s L u k = take s L u (p.1 == k) by rw [hp]; rfl)
  obtain ⟨p1, p2⟩ := p
  clear R hA1 hp
  go_enter Tryz.func149, Tryz.ntmps149
  go_wp2_with fail
  refine (Peek_calls HR1.out 0 (by decide)).mono ?_
  rw [← HP.out]
  rintro e w1 ⟨rfl, h1⟩
  have HR2 := Lib.hid (HR1.out.below h1)
  have HX2 := Lib.hid ((h1.block w.heap.size (by simp)).trans HX1.out)
  have HA2 := Lib.hid (below_step HA1.out h1)
  have hz1 : w.heap.size < w1.heap.size := by have := h1.size; simp at this; omega
  clear h1
  go_wp2_with fail
  refine (take_calls HR2.out (p1 == k)).mono ?_
  rintro e w2 ⟨rfl, hk, R2, k2⟩
  have hx2 := (k2.block w.heap.size hz1 (by simp; omega)).trans HX2.out
  obtain ⟨⟨b0, b1, b2, b3, b4⟩, f0, f1, f2, f3, f4⟩ := (Box5.mk hx2).all
  have HX3 := Lib.hid hx2
  have HK := Lib.hid ((Keep.of_below (H := [cb]) HA2.out).trans k2)
  obtain ⟨n, hn⟩ : ∃ n, n = (take s L u (p1 == k)).1 := ⟨_, rfl⟩
  rw [← hn]
  have HN := Lib.hid hn
  have HR3 := Lib.hid R2
  clear hx2 k2 hn R2
  go_wp2_with fail
  exact bodyPost_ret (resNd (x := n) (b := w.heap.size) Tryz.results149 rfl (set5 HX3.out _ _ _ _ _)) rfl ⟨by rw [HAK.out, HN.out], by rw [HAK.out]; exact hk, by rw [HAK.out]; exact HR3.out.set5 hcb _ _ _ _ _, keep5 HK.out (Nat.le_refl _) _ _ _ _ _⟩
theorem Want_calls (R : RdP w cb s A c L u) (t : ByteArray) :
    Calls Tryz.prog 150 #[.pointer (some ⟨cb, 0, none⟩), .string t] w fun e w' => e = .returned (.agg (aNd (want s L u t).1 none 0)) ∧ (want s L u t).1.kids = [] ∧ RdP w' cb s A c L (want s L u t).2 ∧ Keep [cb] w w' := by
  have hcb := R.lt
  have hA1 : Below w.heap.size w (w.alloc (.cells (aNd zN none 0) 122)) := (Below.refl _ _).alloc (Nat.le_refl _) _
  have HR1 := Lib.hid (R.below hA1)
  have HX1 := Lib.hid (World.alloc_heap_new w (.cells (aNd zN none 0) 122))
  have HA1 := Lib.hid hA1
  obtain ⟨b, hb⟩ : ∃ b, b = isB s L u 0 t := ⟨_, rfl⟩
  have HAK := Lib.hid (show want s L u t = take s L u b by rw [hb]; rfl)
  have HB := Lib.hid hb
  clear R hA1 hb
  go_enter Tryz.func150, Tryz.ntmps150
  go_wp2_with fail
  refine (Is_calls HR1.out 0 (by decide) t).mono ?_
  rw [← HB.out]
  rintro e w1 ⟨rfl, h1⟩
  have HR2 := Lib.hid (HR1.out.below h1)
  have HX2 := Lib.hid ((h1.block w.heap.size (by simp)).trans HX1.out)
  have HA2 := Lib.hid (below_step HA1.out h1)
  have hz1 : w.heap.size < w1.heap.size := by have := h1.size; simp at this; omega
  clear h1
  go_wp2_with fail
  refine (take_calls HR2.out b).mono ?_
  rintro e w2 ⟨rfl, hk, R2, k2⟩
  have hx2 := (k2.block w.heap.size hz1 (by simp; omega)).trans HX2.out
  obtain ⟨⟨b0, b1, b2, b3, b4⟩, f0, f1, f2, f3, f4⟩ := (Box5.mk hx2).all
  have HX3 := Lib.hid hx2
  have HK := Lib.hid ((Keep.of_below (H := [cb]) HA2.out).trans k2)
  obtain ⟨n, hn⟩ : ∃ n, n = (take s L u b).1 := ⟨_, rfl⟩
  rw [← hn]
  have HN := Lib.hid hn
  have HR3 := Lib.hid R2
  clear hx2 k2 hn R2
  go_wp2_with fail
  exact bodyPost_ret (resNd (x := n) (b := w.heap.size) Tryz.results150 rfl (set5 HX3.out _ _ _ _ _)) rfl ⟨by rw [HAK.out, HN.out], by rw [HAK.out]; exact hk, by rw [HAK.out]; exact HR3.out.set5 hcb _ _ _ _ _, keep5 HK.out (Nat.le_refl _) _ _ _ _ _⟩
def errV (e : Int) : Value := if e = 0 then .nilIface else .iface 77 (.int .i64 e)
theorem Failed_calls (R : RdP w cb s A c L u) :
    Calls Tryz.prog 76 #[.pointer (some ⟨cb, 0, none⟩)] w fun e w' => ∃ p, e = .returned (.tuple #[.int .i64 p, errV u.err]) ∧ (u.err ≠ 0 → p = u.pos) ∧ Below w.heap.size w w' := by
  have c5 := R.c5
  have c6 := R.c6
  by_cases e : u.err = 0
  · have HE := Lib.hid e
    rw [e] at c6
    clear e
    go_enter Tryz.func76, Tryz.ntmps76
    go_wp2
    go_ret2
    exact ⟨0, by unfold errV; rw [if_pos HE.out]; rfl, fun h => absurd HE.out h, Below.refl _ _⟩
  · have eb : (u.err == 0) = false := by simpa using e
    have HE := Lib.hid e
    go_enter Tryz.func76, Tryz.ntmps76
    go_wp2
    go_quiet (fail)
    go_wp2
    go_ret2
    exact ⟨u.pos, by unfold errV; rw [if_neg HE.out]; rfl, fun _ => rfl, below_drawn _ _⟩
def endOf (s : ByteArray) (L : List Tok) (u : Cu) : ByteArray := s.extract (lastOf L u.next).toNat s.size
theorem End_calls (R : RdP w cb s A c L u) (he : u.err = 0) (hl : left L u = 0) (h0 : 0 ≤ lastOf L u.next) (h1 : lastOf L u.next ≤ (s.size : Int)) :
    Calls Tryz.prog 78 #[.pointer (some ⟨cb, 0, none⟩)] w fun e w' => e = .returned (.string (endOf s L u)) ∧ Below w.heap.size w w' := by
  have c6 := R.c6
  have HL := Lib.hid hl
  rw [he] at c6
  have HR := Lib.hid R
  have hs := R.fit.size
  clear R he hl
  go_enter Tryz.func78, Tryz.ntmps78
  go_wp2_with fail
  refine (Left_calls HR.out).mono ?_
  rw [HL.out]
  rintro e w1 ⟨rfl, hb⟩
  have c0 := (HR.out.below hb).c0
  have c3 := (HR.out.below hb).c3
  clear c6
  go_wp2_with fail
  go_quiet (fail)
  go_wp2
  go_ret
  exact ⟨rfl, below_step hb (below_drawn _ _)⟩
end
end Go.Proofs.YtbfkkepdeepdeaaGreatDoor
end
section
namespace Go.Proofs.YtbfkkepdeepdeaaGreatDoor
open Go.RowKit Go.Proofs.YtbfkkepdeepdeaaGreatDoorW.PrintWords Go.Proofs.YtbfkkepdeepdeaaGreatDoorW.PrintLast Go.Proofs.YtbfkkepdeepdeaaGreatDoorW.PrintMore
set_option linter.unusedVariables false
set_option linter.unusedSimpArgs false
set_option maxRecDepth 100000
abbrev zNdV : Value := .agg #[.int .i64 0, .string ⟨#[]⟩, .string ⟨#[]⟩, .int .i64 0, .slice none 0 0]
theorem infoNd : (Tryz.prog.info? 122).map (fun i => (i.zero, i.size, i.bytes)) = some (some zNdV, 5, 72) := by kernel_rfl
theorem reps_one {α : Type} {R : α → List Value → Prop} {size : Nat} {ps : List α} {cs : List Value} (h : Reps R size ps cs) (hone : ∀ p c, R p c → ∀ u ∈ c, u.oneCell' = true) : ∀ u ∈ cs, u.oneCell' = true := by
  intro u hu
  obtain ⟨i, hi, rfl⟩ := List.getElem_of_mem hu
  have hl := h.1
  have hs : 0 < size := by
    rcases Nat.eq_zero_or_pos size with e | e
    · subst e; simp at hl; subst hl; simp at hi
    · exact e
  have hj : i / size < ps.length := by
    rw [Nat.div_lt_iff_lt_mul hs]; omega
  have hr := h.2 (i / size) _ (List.getElem?_eq_getElem hj)
  refine hone _ _ hr _ (List.mem_of_getElem? (i := i % size) ?_)
  rw [List.getElem?_take, if_pos (Nat.mod_lt _ hs), List.getElem?_drop, Nat.div_add_mod' i size, List.getElem?_eq_getElem hi]
section
variable {P : Program} {ops : Array Oper} {o : Oper} {rest : List Oper} {a : Act} {Q : Exit → Act → World → Prop}
theorem OwnRow.appendRow {α : Type} {R : α → List Value → Prop} {W : World} (base : Nat) (hgd : o.guard = none) (s x : Operand) (t e : TypeId) (z : Value) (size bytes : Nat)
    (ho : o.op = .call { callee := .builtin .append, args := #[s, x], argTypes := #[t, t] })
    (ht : P.underlying t = some (.slice e)) (hinfo : (P.info? e).map (fun i => (i.zero, i.size, i.bytes)) = some (some z, size, bytes)) (hz : z.cells.size = size) (hs0 : 0 < size)
    (v : Value) (ps : List α) (hs : a.eval s = v) (HO : OwnRow R e size W base v ps) (ad : Addr) (m c : Nat) (qs : List α) (hx : a.eval x = .slice (some ad) m c) (HQ : ReadsRow R size W (some ad) m qs)
    (hone : ∀ p cs, R p cs → ∀ u ∈ cs, u.oneCell' = true) (hbase : base ≤ W.heap.size) (h63 : ps.length + m ≤ maxLen) (hl : (ps.length + m) * bytes ≤ 140737488355328)
    (h : ∀ v1 w1, OwnRow R e size w1 base v1 (ps ++ qs) → W.grownBy w1 v.ownBlock → (v1 = .slice none 0 0 ↔ v = .slice none 0 0 ∧ m = 0) → wpList P ops Q rest (a.put o.dst v1) w1) : wpList P ops Q (o :: rest) a W := by
  obtain ⟨inner, hown, hr⟩ := HO
  obtain ⟨inner2, hr2, hc2⟩ := HQ.inner_
  obtain ⟨i0, hi, hz0, hz1, hz2⟩ := info_parts hinfo
  have hlq : qs.length = m := HQ.1
  refine wpList_append_own W hgd s x t ho base e i0 z size bytes ht hi hz0 hz1 hz2 hz hs0 v ps.length inner hs hown ad m c inner2 hx (by rw [← hlq]; exact hr2.1) hc2 (reps_one hr2 hone) h63 hl hbase (fun v1 w1 h1 h2 h3 => h v1 w1 ⟨inner ++ inner2, by rw [List.length_append, hlq]; exact h1, Kd.reps_append hr hr2⟩ h2 h3)
end
theorem addr_none (H : List Nat) {w : World} {α : Type} {d : Kd α} {n : Nat} {l : List α} (h : d.C (hole H w) none n l) : l = [] ∧ n = 0 := by
  obtain ⟨h1, h2, h3⟩ := h
  rcases Nat.eq_zero_or_pos n with e | e
  · exact ⟨List.length_eq_zero_iff.1 (h1.trans e), e⟩
  · obtain ⟨ad, e2, -⟩ := h3 e; cases e2
theorem one_kNd {w : World} {p : Nd} {cs : List Value} (h : kNd.K w p cs) : ∀ u ∈ cs, u.oneCell' = true := kNd.K_one h
set_option maxHeartbeats 1000000 in
theorem Clone_calls {w : World} {A : Option Addr} {c : Nat} {l : List Nd} (H : List Nat) (hH : ∀ k, k ∈ H → k < w.heap.size) (hC : kNd.C (hole H w) A l.length l) (hl : l.length ≤ 1000000) :
    Calls Tryz.prog 119 #[.slice A l.length c] w fun e w' => ∃ A' c', e = .returned (.slice A' l.length c') ∧ l.length ≤ c' ∧ kNd.C (hole H w') A' l.length l ∧ Below w.heap.size w w' := by
  have q : ∀ (w : World) (a : Option Addr) (n c n' c' : Nat), (binOp .eql 120 (.slice a n c) (.slice none n' c')).run Tryz.prog w = .ok (.bool a.isNone) w := fun w a n c n' c' => Lib.run_eql_slice_nil w _ _ a n c n' c' Tryz.underlying120
  cases A with
  | none =>
    obtain ⟨rfl, -⟩ := addr_none H hC
    have HC := Lib.hid hC
    clear hC
    go_enter Tryz.func119, Tryz.ntmps119
    go_wp2
    go_ret
    exact ⟨none, 0, rfl, Nat.le_refl _, HC.out, Below.refl _ _⟩
  | some ad =>
    have hm : ReadsRow (kNd.K (hole H w)) 5 (w.alloc (.cells #[] 122)) (some ad) l.length l := by
      refine ReadsRow.imp_ (w := w) ?_ ((Below.refl _ _).alloc (Nat.le_refl _) _) (fun _ _ h => h)
      obtain ⟨h1, h2, h3⟩ := hC
      exact ⟨h1, h2, fun hp => by
        obtain ⟨ad2, e, hr⟩ := h3 hp
        exact ⟨ad2, e, fun j p hj => by obtain ⟨cs, h4, h5, h6⟩ := hr j p hj; exact ⟨cs, h4, h5, fun i v hv => hole_sub H w _ _ (h6 i v hv)⟩⟩⟩
    have HM := Lib.hid hm
    have HC := Lib.hid hC
    have hbnd : ([] : List Nd).length + l.length ≤ maxLen := by unfold maxLen; simp; omega
    have hbnd2 : (([] : List Nd).length + l.length) * 72 ≤ 140737488355328 := by simp; omega
    have HB1 := Lib.hid hbnd
    have HB2 := Lib.hid hbnd2
    clear hm hC hbnd hbnd2
    go_enter Tryz.func119, Tryz.ntmps119
    go_wp2_with (at_builtin; refine OwnRow.appendRow (R := kNd.K (hole H w)) w.heap.size rfl (.tmp 5) (.tmp 6) 120 122 zNdV 5 72 rfl Tryz.underlying120 infoNd rfl (by decide) (.slice (some ⟨w.heap.size, 0, none⟩) 0 0) [] rfl ⟨[], World.ownsRow_made w #[] 0 (Nat.le_refl _) (Nat.zero_le _) rfl, Reps.none _ _⟩ ad l.length c l rfl HM.out (fun _ _ h => one_kNd h) (by simp) HB1.out HB2.out ?_; intro v1 w1 hO hg hn; (obtain ⟨A', c', rfl, hc'⟩ := hO.slice_))
    have hb : Below w.heap.size w w1 := ((Below.refl _ w).alloc (Nat.le_refl _) _).grown hg (by simp) (by intro k hk; simp [Value.ownBlock] at hk; omega)
    have hO2 : OwnRow (kNd.K (hole H w1)) 122 kNd.sz w1 w.heap.size _ _ := OwnRow.up up_kNd hO ((Keep.of_below (H := []) hb).sub (fun _ h => by cases h))
    obtain ⟨A2, c2, e2, h2, hC2⟩ := OwnRow.readsH (H := H) hO2 (fun b e hbH => by
      obtain ⟨inner, ho, -⟩ := hO
      have := own_base ho b e
      have := hH b hbH
      omega)
    injection e2 with e2 e3 e4
    subst e2 e4
    go_ret
    exact ⟨A', c', rfl, h2, hC2, hb⟩
theorem Make_calls {w : World} {A : Option Addr} {c : Nat} {l : List Nd} (k : Int) (H : List Nat) (hH : ∀ k, k ∈ H → k < w.heap.size) (hC : kNd.C (hole H w) A l.length l) (hl : l.length ≤ 1000000) :
    Calls Tryz.prog 77 #[.int .i64 k, .slice A l.length c] w fun e w' => ∃ A' c', e = .returned (.agg (aNd (mk k l) A' c')) ∧ l.length ≤ c' ∧ kNd.C (hole H w') A' l.length l ∧ Below w.heap.size w w' := by
  have hA1 : Below w.heap.size w (w.alloc (.cells (aNd zN none 0) 122)) := (Below.refl _ _).alloc (Nat.le_refl _) _
  have HX1 := Lib.hid (World.alloc_heap_new w (.cells (aNd zN none 0) 122))
  have HA1 := Lib.hid hA1
  have HCL := Lib.hid (Clone_calls (w := w.alloc (.cells (aNd zN none 0) 122)) (c := c) (w.heap.size :: H) (fun k hk => by
    simp only [World.size_alloc]
    rcases List.mem_cons.1 hk with e | e
    · omega
    · have := hH k e; omega) (up_C up_kNd (hole_more (Keep.of_below (H := []) hA1) (fun k hk => (List.mem_cons.1 hk).elim (fun e => .inr (by omega)) .inl)) hC) hl)
  clear hA1 hC
  go_enter Tryz.func77, Tryz.ntmps77
  go_wp2_with fail
  refine HCL.out.mono ?_
  rintro e w1 ⟨A', c', rfl, hc, hC1, h1⟩
  have hx1 := (h1.block w.heap.size (by simp)).trans HX1.out
  obtain ⟨⟨b0, b1, b2, b3, b4⟩, f0, f1, f2, f3, f4⟩ := (Box5.mk hx1).all
  have HX2 := Lib.hid hx1
  have HC1 := Lib.hid hC1
  have hb1 := below_step HA1.out h1
  have HB1 := Lib.hid hb1
  clear hx1 hC1 h1 hb1
  go_wp2_with fail
  have hK := keep5b HB1.out (Nat.le_refl _) (.int .i64 k) (.string ⟨#[]⟩) (.string ⟨#[]⟩) (.int .i64 0) (.slice A' l.length c')
  refine bodyPost_ret (resNd (x := mk k l) (A := A') (c := c') (b := w.heap.size) Tryz.results77 rfl (set5 HX2.out _ _ _ _ _)) rfl ⟨A', c', rfl, hc, ?_, hK⟩
  refine up_C up_kNd (w := hole (w.heap.size :: H) w1) (fun a v h => ?_) HC1.out
  obtain ⟨n1, n2⟩ := hole_cell_iff.1 h
  refine hole_cell_iff.2 ⟨fun e => n1 (List.mem_cons_of_mem _ e), ?_⟩
  have hne : a.block ≠ w.heap.size := fun e => n1 (by rw [e]; exact List.mem_cons_self)
  exact (World.cell?_of_block (a := a) (by
    rw [Below.heap_setCell _ _ _ _ hne, Below.heap_setCell _ _ _ _ hne, Below.heap_setCell _ _ _ _ hne, Below.heap_setCell _ _ _ _ hne, Below.heap_setCell _ _ _ _ hne])).trans n2
end Go.Proofs.YtbfkkepdeepdeaaGreatDoor
end
section
namespace Go.Proofs.YtbfkkepdeepdeaaGreatDoor
open Go.RowKit Go.Proofs.YtbfkkepdeepdeaaGreatDoorW.PrintWords Go.Proofs.YtbfkkepdeepdeaaGreatDoorW.PrintLast Go.Proofs.YtbfkkepdeepdeaaGreatDoorW.PrintMore
set_option linter.unusedVariables false
set_option linter.unusedSimpArgs false
set_option maxRecDepth 100000
structure Good (H : List Nat) (cb : Nat) (w : World) : Prop where
  cb : cb ∈ H
  all : ∀ k, k ∈ H → k < w.heap.size
theorem Good.later {H : List Nat} {cb : Nat} {w w' : World} (g : Good H cb w) (h : w.heap.size ≤ w'.heap.size) : Good H cb w' := ⟨g.cb, fun k hk => Nat.lt_of_lt_of_le (g.all k hk) h⟩
theorem Good.push {H : List Nat} {cb b : Nat} {w : World} (g : Good H cb w) (h : b < w.heap.size) : Good (b :: H) cb w := ⟨List.mem_cons_of_mem _ g.cb, fun k hk => (List.mem_cons.1 hk).elim (fun e => e ▸ h) (g.all k)⟩
section
variable {w w' : World} {cb : Nat} {s : ByteArray} {A : Option Addr} {c : Nat} {L : List Tok} {u : Cu} {H : List Nat}
structure NdRes (w : World) (cb : Nat) (s : ByteArray) (A : Option Addr) (c : Nat) (L : List Tok) (H : List Nat) (r : Nd × Cu) (e : Ending) (w' : World) : Prop where
  val : ∃ A' c', e = .returned (.agg (aNd r.1 A' c')) ∧ r.1.kids.length ≤ c' ∧ kNd.C (hole H w') A' r.1.kids.length r.1.kids
  rd : RdP w' cb s A c L r.2
  keep : Keep [cb] w w'
abbrev rdV (cb : Nat) : Value := .agg #[.pointer (some ⟨cb, 0, none⟩)]
structure Lst (base : Nat) (H : List Nat) (W : World) (H' : List Nat) (v : Value) (l : List Nd) : Prop where
  sup : ∀ k, k ∈ H → k ∈ H'
  lt : ∀ k, k ∈ H' → k < W.heap.size
  own : ∀ b, v.ownBlock = some b → b ∈ H'
  row : OwnRow (kNd.K (hole H' W)) 122 5 W base v l
theorem Lst.nil (base : Nat) {W : World} (hH : ∀ k, k ∈ H → k < W.heap.size) : Lst base H W H (.slice none 0 0) [] :=
  ⟨fun _ h => h, hH, fun b h => by simp [Value.ownBlock] at h, OwnRow.none_ _ _ _ _ _⟩
theorem Lst.base {base : Nat} {W : World} {H' : List Nat} {v : Value} {l : List Nd} (h : Lst base H W H' v l) : ∀ b, v.ownBlock = some b → base ≤ b := fun b hb => by
  obtain ⟨inner, ho, -⟩ := h.row
  exact own_base ho b hb
theorem Lst.good {base : Nat} {W : World} {H' : List Nat} {v : Value} {l : List Nd} (h : Lst base H W H' v l) (hc : cb ∈ H) : Good H' cb W := ⟨h.sup _ hc, h.lt⟩
theorem Lst.keep {base : Nat} {W W' : World} {H' : List Nat} {v : Value} {l : List Nd} (h : Lst base H W H' v l) (k : Keep [cb] W W') (hc : cb ∈ H) (hb : cb < base) : Lst base H W' H' v l :=
  ⟨h.sup, fun j hj => Nat.lt_of_lt_of_le (h.lt j hj) k.size, h.own,
    OwnRow.up up_kNd (OwnRow.kept h.row k (fun b e hm => by have := h.base b e; rw [List.mem_singleton.1 hm] at this; omega)) (k.sub (fun j hj => by rw [List.mem_singleton.1 hj]; exact h.sup _ hc))⟩
theorem Lst.grown {base : Nat} {W w1 : World} {H' : List Nat} {v v1 : Value} {l l1 : List Nd} (h : Lst base H W H' v l) (hO : OwnRow (kNd.K (hole H' W)) 122 5 w1 base v1 l1) (hg : W.grownBy w1 v.ownBlock) (hat : v1.ownBlock = v.ownBlock ∨ ∃ b, v1.ownBlock = some b ∧ W.heap.size ≤ b) :
    ∃ H2, Lst base H w1 H2 v1 l1 ∧ ∀ k, k ∈ H' → k ∈ H2 := by
  have hsub : ∀ {H2 : List Nat}, (∀ k, k ∈ H2 → k ∈ H' ∨ W.heap.size ≤ k) → Sub (hole H' W) (hole H2 w1) := fun {H2} hh a v hc => by
    obtain ⟨n1, n2⟩ := hole_cell_iff.1 hc
    have hb := cell_block n2
    exact hole_cell_iff.2 ⟨fun e => (hh _ e).elim n1 (fun k => by omega), (World.cell?_of_block (a := a) (hg.block _ hb (fun e => n1 (h.own _ e.symm)))).trans n2⟩
  rcases hat with e | ⟨b, e, hb⟩
  · exact ⟨H', ⟨h.sup, fun k hk => Nat.lt_of_lt_of_le (h.lt k hk) hg.size, fun b hb => h.own b (by rw [← e]; exact hb), OwnRow.up up_kNd hO (hsub (fun k hk => .inl hk))⟩, fun _ h => h⟩
  · refine ⟨b :: H', ⟨fun k hk => List.mem_cons_of_mem _ (h.sup k hk), fun k hk => ?_, fun b2 h2 => ?_, OwnRow.up up_kNd hO (hsub (fun k hk => (List.mem_cons.1 hk).elim (fun e => .inr (by omega)) .inl))⟩, fun _ h => List.mem_cons_of_mem _ h⟩
    · rcases List.mem_cons.1 hk with e2 | e2
      · obtain ⟨inner, ho, -⟩ := hO; rw [e2]; exact own_lt ho b e
      · exact Nat.lt_of_lt_of_le (h.lt k e2) hg.size
    · rw [e] at h2; injection h2 with h2; rw [← h2]; exact List.mem_cons_self
theorem Lst.reads {base : Nat} {W : World} {H' : List Nat} {v : Value} {l : List Nd} (h : Lst base H W H' v l) (hH : ∀ k, k ∈ H → k < base) : ∃ A c, v = .slice A l.length c ∧ l.length ≤ c ∧ kNd.C (hole H W) A l.length l :=
  OwnRow.readsH (d := kNd) (OwnRow.up up_kNd h.row (hole_less W h.sup)) (fun b e hm => by have := h.base b e; have := hH b hm; omega)
structure LsRes (w : World) (cb : Nat) (s : ByteArray) (A : Option Addr) (c : Nat) (L : List Tok) (H : List Nat) (r : List Nd × Cu) (e : Ending) (w' : World) : Prop where
  val : ∃ v H', e = .returned v ∧ Lst w.heap.size H w' H' v r.1
  rd : RdP w' cb s A c L r.2
  keep : Keep [cb] w w'
theorem Lst.lower {base base' : Nat} {W : World} {H' : List Nat} {v : Value} {l : List Nd} (h : Lst base H W H' v l) (hb : base' ≤ base) : Lst base' H W H' v l := ⟨h.sup, h.lt, h.own, h.row.lower hb⟩
theorem Lst.lit {base : Nat} {W : World} {n : Nd} {A' : Option Addr} {c' : Nat} (hH : ∀ k, k ∈ H → k < W.heap.size) (hb : base ≤ W.heap.size) (hl : n.kids.length ≤ c') (hC : kNd.C (hole H W) A' n.kids.length n.kids) :
    Lst base H (W.alloc (.cells (aNd n A' c') 122)) (W.heap.size :: H) (.slice (some ⟨W.heap.size, 0, none⟩) 1 1) [n] := by
  have hb1 : Below W.heap.size W (W.alloc (.cells (aNd n A' c') 122)) := (Below.refl _ _).alloc (Nat.le_refl _) _
  have hK : kNd.K (hole (W.heap.size :: H) (W.alloc (.cells (aNd n A' c') 122))) n (cNd n A' c') := up_kNd (hole_more (Keep.of_below (H := []) hb1) (fun k hk => (List.mem_cons.1 hk).elim (fun e => .inr (by omega)) .inl)) (kNd_mk (hole H W) n hl hC)
  refine ⟨fun _ h => List.mem_cons_of_mem _ h, fun k hk => ?_, fun b hb => ?_, ?_⟩
  · simp only [World.size_alloc]
    rcases List.mem_cons.1 hk with h | h
    · omega
    · have := hH k h; omega
  · simp [Value.ownBlock] at hb; rw [← hb]; exact List.mem_cons_self
  · exact OwnRow.lit (R := kNd.K (hole (W.heap.size :: H) (W.alloc (.cells (aNd n A' c') 122)))) (e := 122) (size := 5) W base (inner := cNd n A' c') ((Reps.none _ 5).snoc hK rfl) hb (by simp)
theorem one_calls {exp : Cu → Nd × Cu} (hE : ∀ W u2 H2, RdP W cb s A c L u2 → u2.deep = u.deep → Good H2 cb W → Calls Tryz.prog 189 #[rdV cb, .int .i64 0] W (NdRes W cb s A c L H2 (exp u2))) (R : RdP w cb s A c L u) (G : Good H cb w) :
    Calls Tryz.prog 267 #[rdV cb] w (LsRes w cb s A c L H (oneE exp u)) := by
  have hA1 : Below w.heap.size w (w.alloc (.cells #[.pointer (some ⟨cb, 0, none⟩)] 300)) := (Below.refl _ _).alloc (Nat.le_refl _) _
  have HE := Lib.hid (hE _ u H (R.below hA1) rfl (G.later hA1.size))
  have HA1 := Lib.hid hA1
  have HG := Lib.hid G
  clear R hA1 G hE
  go_enter Tryz.func267, Tryz.ntmps267
  go_wp2_with fail
  refine HE.out.mono ?_
  rintro e w1 ⟨⟨A', c', rfl, hl, hC⟩, R1, k1⟩
  have HR1 := Lib.hid R1
  have HK1 := Lib.hid ((Keep.of_below (H := [cb]) HA1.out).trans k1)
  have hg := HG.out.later HK1.out.size
  have HL := Lib.hid (Lst.lit (H := H) (base := w.heap.size) hg.all HK1.out.size hl hC)
  clear R1 k1 hC hl
  go_wp2_with fail
  go_ret
  exact ⟨⟨_, _, rfl, HL.out⟩, HR1.out.below ((Below.refl _ _).alloc (Nat.le_refl _) _), HK1.out.trans (Keep.alloc _ _)⟩
theorem row_now {W : World} {A2 : Option Addr} {m : Nat} {qs : List Nd} {H' : List Nat} (hC : kNd.C (hole H' W) A2 m qs) : ReadsRow (kNd.K (hole H' W)) 5 W A2 m qs := by
  obtain ⟨h1, h2, h3⟩ := hC
  exact ⟨h1, h2, fun hp => by
    obtain ⟨ad2, e, hr⟩ := h3 hp
    exact ⟨ad2, e, fun j p hj => by obtain ⟨cs, h4, h5, h6⟩ := hr j p hj; exact ⟨cs, h4, h5, fun i v hv => hole_sub H' W _ _ (h6 i v hv)⟩⟩⟩
section
variable {ops : Array Oper} {o : Oper} {rest : List Oper} {a : Act} {Q : Exit → Act → World → Prop}
theorem Lst.appendRow {base : Nat} {W : World} {H' : List Nat} {v : Value} {l qs : List Nd} {A2 : Option Addr} {m c2 : Nat} (h : Lst base H W H' v l) (hgd : o.guard = none) (s x : Operand)
    (ho : o.op = .call { callee := .builtin .append, args := #[s, x], argTypes := #[120, 120] }) (hs : a.eval s = v) (hx : a.eval x = .slice A2 m c2) (hC : kNd.C (hole H' W) A2 m qs) (hb : base ≤ W.heap.size) (hlen : l.length + m ≤ 1000000)
    (K : ∀ v1 w1 H2, Lst base H w1 H2 v1 (l ++ qs) → (∀ k, k ∈ H' → k ∈ H2) → W.grownBy w1 v.ownBlock → wpList Tryz.prog ops Q rest (a.put o.dst v1) w1) : wpList Tryz.prog ops Q (o :: rest) a W :=
  Kd.R_append_rows (Kd.fixed kNd (hole H' W)) (Rr := kNd.K (hole H' W)) (w0 := W) base hgd s x 120 122 zNdV 72 ho Tryz.underlying120 infoNd rfl (show 0 < 5 by decide) (by decide) v l qs A2 m c2 (fun _ => True) (fun _ => False) hs hx
    ⟨fun _ _ => trivial, h.row⟩ (row_now hC) (fun _ _ hk => hk) (fun _ hk => hk.elim) (fun _ _ => trivial) (Below.refl _ _) hb (by omega)
    (fun v1 w1 hR _ hg hat => by
      obtain ⟨H2, h2, h3⟩ := h.grown (v1 := v1) (l1 := l ++ qs) hR.2 hg hat
      exact K v1 w1 H2 h2 h3 hg)
theorem Lst.appendOne {base : Nat} {W : World} {H' : List Nat} {v : Value} {l : List Nd} {n : Nd} {A' : Option Addr} {c' : Nat} (h : Lst base H W H' v l) (hgd : o.guard = none) (s x : Operand)
    (ho : o.op = .call { callee := .builtin .append, args := #[s, x], argTypes := #[120, 120] }) (hs : a.eval s = v) (hx : a.eval x = .slice (some ⟨W.heap.size, 0, none⟩) 1 1) (hl : n.kids.length ≤ c') (hC : kNd.C (hole H' W) A' n.kids.length n.kids) (hb : base ≤ W.heap.size) (hlen : l.length + 1 ≤ 1000000)
    (K : ∀ v1 w1 H2, Lst base H w1 H2 v1 (l ++ [n]) → (∀ k, k ∈ H' → k ∈ H2) → W.grownBy w1 v.ownBlock → wpList Tryz.prog ops Q rest (a.put o.dst v1) w1) : wpList Tryz.prog ops Q (o :: rest) a (W.alloc (.cells (aNd n A' c') 122)) :=
  OwnRow.append (R := kNd.K (hole H' W)) (w0 := W) base hgd s x 120 122 zNdV 5 72 ho Tryz.underlying120 infoNd rfl (by decide) (by decide) v l n (cNd n A' c') hs hx (kNd_mk _ n hl hC) rfl (kNd.K_one (kNd_mk (hole H' W) n hl hC)) h.row (Below.refl _ _) hb (by omega)
    (fun v1 w1 hO _ hg hat => by
      obtain ⟨H2, h2, h3⟩ := h.grown (v1 := v1) (l1 := l ++ [n]) hO hg hat
      exact K v1 w1 H2 h2 h3 hg)
end
end
end Go.Proofs.YtbfkkepdeepdeaaGreatDoor
end
