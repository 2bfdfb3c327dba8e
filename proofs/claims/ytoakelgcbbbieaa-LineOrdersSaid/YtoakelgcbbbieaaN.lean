/- The table of any views, walked: one entry for each class, file by file. -/
import Derived.Test.YtoakelgcbbbieaaM
import Derived.Deep.AppendLies
import Derived.Deep.DrawnRows
import Derived.Deep.RegionLaw
import Derived.StillTailTactics
import Derived.Deep.DeepCutAuto
namespace Go.Proofs.Ytoakelgcbbbieaa
open Go.RowKit Go.Maps Go.Proofs.YtoakelgcbbbieaaW.PrintWords Go.Proofs.YtoakelgcbbbieaaW.PrintLast Go.Proofs.YtoakelgcbbbieaaW.PrintMore
set_option linter.unusedVariables false
set_option linter.unusedSimpArgs false
set_option maxRecDepth 100000
attribute [local go_sem ↓] Go.wp_at_zero Go.wp_at_succ

theorem info124 : (Try.prog.info? 124).map (fun i => (i.zero, i.size, i.bytes)) = some (some zEntry, 11, 160) := by kernel_rfl

/-- the entries of views, file by file -/
def entsFrom (f : Nat) : List (List S122) → List S124
  | [] => []
  | l :: r => l.map (fun c => (⟨f, c⟩ : S124)) ++ entsFrom (f + 1) r
def ents (all : List (List S122)) : List S124 := entsFrom 0 all
theorem entsFrom_append (a b : List (List S122)) : ∀ f, entsFrom f (a ++ b) = entsFrom f a ++ entsFrom (f + a.length) b := by
  induction a with
  | nil => intro f; simp [entsFrom]
  | cons x a ih => intro f; simp only [List.cons_append, entsFrom, ih, List.append_assoc, List.length_cons]; rw [show f + 1 + a.length = f + (a.length + 1) by omega]
theorem ents_snoc (a : List (List S122)) (l : List S122) : ents (a ++ [l]) = ents a ++ l.map (fun c => (⟨a.length, c⟩ : S124)) := by
  simp [ents, entsFrom_append, entsFrom]
theorem ents_le (a b : List (List S122)) : (ents a).length ≤ (ents (a ++ b)).length := by simp [ents, entsFrom_append]
/-- the number of the main class; -1: none -/
def mainOf (xs : List S124) : Int := match xs.findIdx? (fun e => e.f1.f0) with | none => -1 | some k => k

/-- a table under construction: its own three cells, its row, its map -/
structure Tb (w wr : World) (tb mb : Nat) (v : Value) (es em : List S124) (mn : Int) : Prop where
  cells : wr.heap[tb]? = some (.cells #[v, .map (some mb), .int .i64 mn] 171 (0, 0))
  row : Kd.R (Kd.fixed k124 w) 124 wr w.heap.size (fun b => tb < b) v es
  map : ∃ N D, N ≤ em.length ∧ wr.ownsMap Try.prog 9 (plainElem (H := Unit) Try.prog 3) mb N D ∧ Names D em
  below : Below w.heap.size w wr

theorem names_nil : Names (.map [] : DataW Unit) [] := fun s _ => ⟨rfl, rfl⟩

/-- a table's cells, as the walk asks for them -/
theorem Tb.cell {w wr : World} {tb mb : Nat} {v : Value} {es em : List S124} {mn : Int} (h : Tb w wr tb mb v es em mn) : wr.cell? ⟨tb, 0, none⟩ = some v ∧ wr.cell? ⟨tb, 1, none⟩ = some (.map (some mb)) ∧ wr.cell? ⟨tb, 2, none⟩ = some (.int .i64 mn) ∧ wr.frozen? ⟨tb, 0, none⟩ = false ∧ wr.frozen? ⟨tb, 2, none⟩ = false := by
  have := h.cells
  simp [World.cell?, World.frozen?, this]

theorem blk_grown {wr w2 : World} {o : Obj} {row : Option Nat} {tb : Nat} {O : Obj} (h : wr.heap[tb]? = some O) (hG : ((wr.alloc o).drew).grownBy w2 row) (hne : some tb ≠ row) : w2.heap[tb]? = some O := by
  have hlt := (Array.getElem?_eq_some_iff.1 h).1
  exact (hG.block tb (by show tb < (wr.alloc o).heap.size; simp; omega) hne).trans ((Below.heap_alloc wr o tb hlt).trans h)
theorem cell_blk {w : World} {tb : Nat} {cs : Array Value} {t : TypeId} (h : w.heap[tb]? = some (.cells cs t (0, 0))) (j : Nat) : w.cell? ⟨tb, j, none⟩ = cs[j]? := by simp [World.cell?, h]
theorem frozen_blk {w : World} {tb : Nat} {cs : Array Value} {t : TypeId} (h : w.heap[tb]? = some (.cells cs t (0, 0))) (j : Nat) : w.frozen? ⟨tb, j, none⟩ = false := by simp [World.frozen?, h]

theorem heap_setCell_same {w : World} {tb : Nat} {cs : Array Value} {t : TypeId} (h : w.heap[tb]? = some (.cells cs t (0, 0))) (j : Nat) (v : Value) : (w.setCell ⟨tb, j, none⟩ v).heap[tb]? = some (.cells (cs.setIfInBounds j v) t (0, 0)) := by
  simp [World.setCell, Array.getElem?_modify, h]
theorem ownsMap_block {w w' : World} {P : Program} {k : TypeId} {R : Value → Option (DataW Unit × List MemPlace)} {b n : Nat} {D : DataW Unit} (h : w.ownsMap P k R b n D) (e : w'.heap[b]? = w.heap[b]?) : w'.ownsMap P k R b n D := by
  obtain ⟨es, clock, h1, F, hs, hD⟩ := h
  exact ⟨es, clock, e.trans h1, F, hs, hD⟩

/-- a name's look-up in a table's map -/
theorem look_run {w : World} {mb N : Nat} {D : DataW Unit} {es : List S124} (h : w.ownsMap Try.prog 9 (plainElem (H := Unit) Try.prog 3) mb N D) (hD : Names D es) {s : ByteArray} (hs : s.size ≤ maxLen) :
    (Instr.lookup 95 (.map (some mb)) (.string s) true).run Try.prog w = .ok (optV (fnd es s)) w := by
  obtain ⟨v, ps, hrun, hv⟩ := h.look_ok law9 Try.underlying95 (zero3 w) (plainElem_int (q := .i64) Try.underlying3 (by decide)) (Go.WideMaps.keyOf_string_mk Try.underlying9 hs)
  obtain ⟨c, rfl, hc, _⟩ := plainElem_int_inv Try.underlying3 hv
  obtain ⟨h1, h2⟩ := hD s hs
  have hc' := congrArg Prod.fst hc
  rw [h2] at hc'
  injection hc' with hc'
  injection hc' with _ hc'
  rw [hrun, h1, ← hc']

theorem look_runN {w : World} {mb N : Nat} {D : DataW Unit} {es : List S124} (h : w.ownsMap Try.prog 9 (plainElem (H := Unit) Try.prog 3) mb N D) (hD : Names D es) {s : ByteArray} (hs : s.size ≤ maxLen) (nq : Nat) :
    (Instr.lookup 95 (.map (some mb)) (.string s) true).run Try.prog (w.drewN nq) = .ok (optV (fnd es s)) (w.drewN nq) := look_run (w := w.drewN nq) h hD hs

theorem Tb.draw {w wr : World} {tb mb : Nat} {v : Value} {es em : List S124} {mn : Int} (h : Tb w wr tb mb v es em mn) (n : Nat) : Tb w (wr.drewN n) tb mb v es em mn :=
  ⟨h.cells, Kd.R_drewN h.row n, h.map, pw_below_drewN h.below n⟩

theorem mainOf_snoc (es : List S124) (e : S124) : mainOf (es ++ [e]) = if mainOf es < 0 ∧ e.f1.f0 = true then (es.length : Int) else mainOf es := by
  unfold mainOf
  rw [List.findIdx?_append]
  cases h : es.findIdx? (fun e => e.f1.f0) with
  | none =>
    cases he : e.f1.f0 <;> simp [List.findIdx?_cons, he]
  | some k => simp; omega

theorem fnd_snoc (es : List S124) (e : S124) (s : ByteArray) : fnd (es ++ [e]) s = match fnd es s with | some k => some k | none => if e.f1.f1.f0 = s then some es.length else none := by
  unfold fnd
  rw [List.findIdx?_append]
  cases h : es.findIdx? (fun e => decide (e.f1.f1.f0 = s)) with
  | none => by_cases he : e.f1.f1.f0 = s <;> simp [List.findIdx?_cons, he]
  | some k => rfl

theorem Names.old {D : DataW Unit} {es : List S124} {e : S124} {k : Nat} (h : Names D es) (hf : fnd es e.f1.f1.f0 = some k) : Names D (es ++ [e]) := by
  intro s hs
  rw [fnd_snoc]
  have := h s hs
  cases h1 : fnd es s with
  | some j => rw [h1] at this; exact this
  | none =>
    have hne : e.f1.f1.f0 ≠ s := by rintro rfl; rw [h1] at hf; cases hf
    rw [h1] at this
    simpa [hne] using this

theorem data_inj {s t : ByteArray} (h : s.data.toList = t.data.toList) : s = t := by
  cases s; cases t; simp at h; subst h; rfl

theorem Names.put {D : DataW Unit} {es : List S124} {e : S124} (h : Names D es) (hD : Maps.IsMap D) (hf : fnd es e.f1.f1.f0 = none) :
    Names (D.put (.string e.f1.f1.f0.data.toList) (.lit (.int .i64 es.length))) (es ++ [e]) := by
  intro s hs
  rw [fnd_snoc]
  by_cases he : e.f1.f1.f0 = s
  · subst he
    rw [hf]
    refine ⟨?_, ?_⟩
    · rw [Maps.has_put_same hD (by first | exact trivial | simp [WideAt.IsKeyLit])]; simp
    · rw [Maps.atKey_put_same hD (by first | exact trivial | simp [WideAt.IsKeyLit])]; simp
  · have hne : (Lit.string s.data.toList) ≠ Lit.string e.f1.f1.f0.data.toList := by
      intro hc; injection hc with hc; exact he (data_inj hc).symm
    rw [Maps.has_put_other hne, Maps.atKey_put_other hne]
    have := h s hs
    cases h1 : fnd es s with
    | some j => rw [h1] at this; exact this
    | none => rw [h1] at this; simpa [he] using this

/-- the map has taken a name -/
theorem Tb.put {w wr w1 : World} {tb mb N : Nat} {v : Value} {es em : List S124} {mn : Int} {D : DataW Unit} {e : S124} (h : Tb w wr tb mb v es em mn) (hmt : mb < tb) (hD : Names D em) (hI : Maps.IsMap D) (hN : N ≤ em.length) (hf : fnd em e.f1.f1.f0 = none)
    (hown : w1.ownsMap Try.prog 9 (plainElem (H := Unit) Try.prog 3) mb (N + 1) (D.put (.string e.f1.f1.f0.data.toList) (.lit (.int .i64 em.length)))) (hg : wr.grownBy w1 (some mb)) (hmb : w.heap.size ≤ mb) : Tb w w1 tb mb v es (em ++ [e]) mn := by
  refine ⟨(hg.block tb (Array.getElem?_eq_some_iff.1 h.cells).1 (by simp; omega)).trans h.cells, Kd.R_grown h.row hg (fun k hk => by simp; omega), ⟨N + 1, _, by simp; omega, hown, hD.put hI hf⟩, h.below.grown hg h.below.size (fun k hk => by cases hk; exact hmb)⟩

/-- the main class's number is kept -/
theorem Tb.main {w wr : World} {tb mb : Nat} {v : Value} {es em : List S124} {mn : Int} (h : Tb w wr tb mb v es em mn) (hmt : mb ≠ tb) (hw : w.heap.size ≤ tb) (m2 : Int) : Tb w (wr.setCell ⟨tb, 2, none⟩ (.int .i64 m2)) tb mb v es em m2 := by
  obtain ⟨N, D, hN, hown, hD⟩ := h.map
  exact ⟨heap_setCell_same h.cells 2 _, Kd.R_far h.row (fun k hk => by show k ≠ tb; omega) _, ⟨N, D, hN, ownsMap_block hown (Below.heap_setCell wr ⟨tb, 2, none⟩ _ _ hmt), hD⟩, h.below.setCell (p := ⟨tb, 2, none⟩) hw _⟩

theorem ents_at (all : List (List S122)) (i k : Nat) (hi : i < all.length) (hk : k < (rd_L13 all i).length) :
    ∃ r, ents all = (ents (all.take i) ++ ((rd_L13 all i).take k).map (fun c => (⟨i, c⟩ : S124))) ++ ⟨i, rd_T122 (rd_L13 all i) k⟩ :: r := by
  have e1 : rd_L13 all i = all[i] := by unfold rd_L13; rw [Int.toNat_natCast, List.getD_eq_getElem?_getD, List.getElem?_eq_getElem hi]; rfl
  have e2 : rd_T122 (rd_L13 all i) k = (rd_L13 all i)[k] := by unfold rd_T122; rw [Int.toNat_natCast, List.getD_eq_getElem?_getD, List.getElem?_eq_getElem hk]; rfl
  have e3 : all = (all.take i ++ [rd_L13 all i]) ++ all.drop (i + 1) := by rw [e1, ← List.take_succ_eq_append_getElem hi, List.take_append_drop]
  have e4 : rd_L13 all i = (rd_L13 all i).take k ++ rd_T122 (rd_L13 all i) k :: (rd_L13 all i).drop (k + 1) := by
    rw [e2, ← List.drop_eq_getElem_cons hk, List.take_append_drop]
  have e5 : (ents ((all.take i ++ [rd_L13 all i]) ++ all.drop (i + 1))) = ents (all.take i) ++ (rd_L13 all i).map (fun c => (⟨i, c⟩ : S124)) ++ entsFrom (i + 1) (all.drop (i + 1)) := by
    unfold ents
    rw [entsFrom_append, entsFrom_append]
    simp [entsFrom, Nat.min_eq_left (Nat.le_of_lt hi)]
  refine ⟨((rd_L13 all i).drop (k + 1)).map (fun c => (⟨i, c⟩ : S124)) ++ entsFrom (i + 1) (all.drop (i + 1)), ?_⟩
  calc ents all = ents ((all.take i ++ [rd_L13 all i]) ++ all.drop (i + 1)) := by rw [← e3]
    _ = ents (all.take i) ++ ((rd_L13 all i).take k ++ rd_T122 (rd_L13 all i) k :: (rd_L13 all i).drop (k + 1)).map (fun c => (⟨i, c⟩ : S124)) ++ entsFrom (i + 1) (all.drop (i + 1)) := by rw [e5, ← e4]
    _ = _ := by simp

theorem isMap_of {w : World} {mb N : Nat} {D : DataW Unit} (h : w.ownsMap Try.prog 9 (plainElem (H := Unit) Try.prog 3) mb N D) : Maps.IsMap D := by
  obtain ⟨es, clock, h1, F, hs, hD⟩ := h
  exact ⟨_, hD⟩

theorem wf64 {n : Nat} (h : n ≤ 1000000000) : (Lit.int .i64 (n : Int)).wf = true := by
  have h1 : IntKind.i64.min = -9223372036854775808 := by decide
  have h2 : IntKind.i64.max = 9223372036854775807 := by decide
  show (decide (IntKind.i64.min ≤ (n : Int)) && decide ((n : Int) ≤ IntKind.i64.max)) = true
  rw [h1, h2, Bool.and_eq_true, decide_eq_true_iff, decide_eq_true_iff]
  omega

theorem Tb.tab {w wr : World} {tb mb : Nat} {v : Value} {es : List S124} {mn : Int} (h : Tb w wr tb mb v es es mn) (hn : ∀ e ∈ es, e.f1.f1.f0.size ≤ maxLen ∧ e.f1.f2.f0.size ≤ maxLen) (hs : es.length ≤ 1000000000) : Tab wr tb es mn := by
  obtain ⟨A, c, rfl, hl, hC⟩ := Kd.R_reads h.row
  obtain ⟨N, D, hN, hown, hD⟩ := h.map
  obtain ⟨g0, g1, g2, -, -⟩ := h.cell
  exact ⟨⟨A, c, mb, N, D, g0, g1, g2, ReadsRow.imp_ hC (Below.refl _ _) (fun _ _ hp => k124.K_below h.below hp), hown, hD⟩, hn, hs⟩

set_option maxHeartbeats 4000000 in
theorem New_calls {w : World} {A : Option Addr} {n c : Nat} {all : List (List S122)} (h : Kd.C (Kd.slice 122 k122) w A n all) (hnames : ∀ e ∈ ents all, e.f1.f1.f0.size ≤ maxLen ∧ e.f1.f2.f0.size ≤ maxLen) (hsh : (ents all).length ≤ 1000000000) :
    Calls Try.prog 59 #[.slice A n c] w fun e w' => ∃ tb, e = .returned (.pointer (some ⟨tb, 0, none⟩)) ∧ Tab w' tb (ents all) (mainOf (ents all)) ∧ Below w.heap.size w w' := by
  have HNM := Lib.hid hnames
  have HSH := Lib.hid hsh
  clear hnames hsh
  obtain rfl := C_len h
  have hm := C_max h
  have H := Lib.hid h
  clear h
  have hmm := @run_makeMap Try.prog
  go_enter Try.func59, Try.ntmps59
  go_wp2
  go_loopw [16] (fun v16 wr => ∃ (i : Nat) (v : Value), i ≤ all.length ∧ v16 = .int .i64 i ∧ Hid (Tb w wr (w.heap.size + 1) w.heap.size v (ents (all.take i)) (ents (all.take i)) (mainOf (ents (all.take i))))) (fun v16 wr => all.length - (intOf v16).toNat)
  case atStart =>
    refine ⟨0, .slice none 0 0, Nat.zero_le _, rfl, ?_⟩
    show Tb _ _ _ _ _ _ _ _
    refine ⟨by have := heap_alloc_new (w.alloc (.map #[] 0)) (.cells #[.slice none 0 0, .map (some w.heap.size), .int .i64 (-1)] 171); rwa [World.size_alloc] at this, Kd.R_nil _ _ _ _ _, ⟨0, _, Nat.le_refl _, (World.ownsMap_made w _ _ _).alloc _, names_nil⟩, ((Below.refl _ _).alloc (Nat.le_refl _) _).alloc (by simp) _⟩
  case round =>
    obtain ⟨i, v, hi, rfl, hT⟩ := hrel
    by_cases hlti : i < all.length
    · obtain ⟨ad, A0, c0, rfl, hx, hl0, hC0⟩ := at_L13 H.out (i : Int) (by omega) (by omega)
      rw [Int.toNat_natCast] at hx
      replace hx := cell_later hT.out.below hx
      have hm0 := C_max hC0
      have HC0 := Lib.hid hC0
      clear hC0
      go_wp2
      go_loopw [23] (fun v23 wr => ∃ (k : Nat) (v : Value), k ≤ (rd_L13 all i).length ∧ v23 = .int .i64 k ∧ ∃ es, Hid (es = ents (all.take i) ++ ((rd_L13 all i).take k).map (fun c => (⟨i, c⟩ : S124))) ∧ Hid (Tb w wr (w.heap.size + 1) w.heap.size v es es (mainOf es))) (fun v23 wr => (rd_L13 all i).length - (intOf v23).toNat)
      case atStart => exact ⟨0, v, Nat.zero_le _, rfl, ents (all.take i), by show _ = _; simp, hT.out⟩
      case round =>
        obtain ⟨k, v, hk, rfl, es, HES, hT⟩ := hrel
        by_cases hlt : k < (rd_L13 all i).length
        · obtain ⟨er, her⟩ := ents_at all i k hlti hlt
          rw [← HES.out] at her
          have hesl : es.length < 1000000000 := by have := HSH.out; rw [her] at this; simp at this; omega
          have HNX := Lib.hid (HNM.out ⟨i, rd_T122 (rd_L13 all i) k⟩ (by rw [her]; simp)).1
          clear her
          obtain ⟨ad, A5, c5, A6, c6, A9, c9, rfl, hx0, hx1, hx2, hx3, hx4, hx5, hx6, hx7, hx8, hx9, hxl5, hxg5, hxl6, hxg6, hxl9, hxg9⟩ := at_T122 HC0.out (k : Int) (by omega) (by omega)
          obtain ⟨x, hx⟩ : ∃ x, x = rd_T122 (rd_L13 all i) k := ⟨_, rfl⟩
          rw [← hx, Int.toNat_natCast] at hx0 hx1 hx2 hx3 hx4 hx5 hx6 hx7 hx8 hx9
          rw [← hx] at HNX
          rw [← hx] at hxl5 hxg5 hxl6 hxg6 hxl9 hxg9
          have HXX := Lib.hid hx
          have HK := Lib.hid (k124_mk w (⟨i, x⟩ : S124) hxl5 hxg5 hxl6 hxg6 hxl9 hxg9)
          have hbl := hT.out.below
          replace hx0 := cell_later hbl hx0
          replace hx1 := cell_later hbl hx1
          replace hx2 := cell_later hbl hx2
          replace hx3 := cell_later hbl hx3
          replace hx4 := cell_later hbl hx4
          replace hx5 := cell_later hbl hx5
          replace hx6 := cell_later hbl hx6
          replace hx7 := cell_later hbl hx7
          replace hx8 := cell_later hbl hx8
          replace hx9 := cell_later hbl hx9
          clear hx hxl5 hxg5 hxl6 hxg6 hxl9 hxg9 hbl
          obtain ⟨hc0, hc1, hc2, hf0, hf2⟩ := hT.out.cell
          obtain ⟨Av, cv, rfl, hlv, hCv⟩ := Kd.R_reads hT.out.row
          clear hCv
          have hob1 := Lib.hid (fun b hb => hT.out.row.1 b hb)
          have hob2 := Lib.hid (Kd.R_lt hT.out.row)
          have HL := Lib.hid (show (es.length + 1) * 160 ≤ 140737488355328 by omega)
          have htb : w.heap.size + 1 < wr.heap.size := cell_block hc0
          have htb2 : w.heap.size < wr.heap.size := by omega
          go_upto_region 9 with fail
          go_cut [] (fun wx => ∃ A1 c1, Hid (Tb w wx (w.heap.size + 1) w.heap.size (.slice A1 (es.length + 1) c1) (es ++ [(⟨i, x⟩ : S124)]) es (mainOf es)) ∧
            Hid (wx.heap[wr.heap.size]? = some (.cells #[.bool x.f0, .string x.f1.f0, .int .i64 x.f1.f1, .string x.f2.f0, .int .i64 x.f2.f1, .slice A5 x.f3.length c5, .slice A6 x.f4.length c6, .string x.f5.f0, .int .i64 x.f5.f1, .slice A9 x.f6.length c9] 122 (0, 0))))
          case first =>
            go_region_law
            ((refine Kd.R_append_step (Kd.fixed k124 w) (w0 := w) (W := (wr.alloc (.cells #[.bool x.f0, .string x.f1.f0, .int .i64 x.f1.f1, .string x.f2.f0, .int .i64 x.f2.f1, .slice A5 x.f3.length c5, .slice A6 x.f4.length c6, .string x.f5.f0, .int .i64 x.f5.f1, .slice A9 x.f6.length c9] 122)).drew) w.heap.size (by rfl) (.tmp 36) (.tmp 40) 169 124 zEntry 160 (by rfl) Try.underlying169 info124 rfl (by show 0 < 11; decide) (by decide) (.slice Av es.length cv) es (⟨i, x⟩ : S124)
                [.int .i64 i, .bool x.f0, .string x.f1.f0, .int .i64 x.f1.f1, .string x.f2.f0, .int .i64 x.f2.f1, .slice A5 x.f3.length c5, .slice A6 x.f4.length c6, .string x.f5.f0, .int .i64 x.f5.f1, .slice A9 x.f6.length c9]
                (fun b => w.heap.size + 1 < b) (fun _ => False) (by rfl) (by show Value.slice (some ⟨wr.heap.size + 1, 0, none⟩) 1 1 = _; simp) HK.out (fun _ h => h.elim) (by intro b hb; simp at hb; omega) (by with_reducible repeat (first | exact hT.out.row | apply Kd.R_alloc | apply Kd.R_drew | apply Kd.R_drewN))
                (by repeat (first | exact hT.out.below | apply below_alloc | apply below_drew)) (by have := hT.out.below.size; simp; omega) HL.out ?_; intro v1 w2 hR1 hB1 hG1 hA1; (obtain ⟨A1, c1, rfl⟩ := Kd.R_slice hR1); have hq := Lib.hid (blk_grown hT.out.cells hG1 (fun e => Nat.lt_irrefl _ (hob1.out _ e.symm))); have hq0 := (cell_blk hq.out 0).trans rfl; have hqf := frozen_blk hq.out 0; have hqm := Lib.hid (hG1.block w.heap.size (by simp; omega) (fun e => by have := hob1.out _ e.symm; omega)); have hqc := Lib.hid (hG1.block wr.heap.size (by simp) (fun e => Nat.lt_irrefl _ (hob2.out _ e.symm)))))
            all_goals
              go_wp2_with fail
              go_meet
              obtain ⟨N, D, hN, hown, hD⟩ := hT.out.map
              rw [List.length_append] at hR1
              exact ⟨A1, c1, ⟨heap_setCell_same hq.out 0 _, Kd.R_far hR1 (fun k hk => by show k ≠ w.heap.size + 1; omega) _, ⟨N, D, hN, ownsMap_block hown ((Below.heap_setCell w2 ⟨w.heap.size + 1, 0, none⟩ _ _ (by show w.heap.size ≠ w.heap.size + 1; omega)).trans (hqm.out.trans (Below.heap_alloc wr _ _ htb2))), hD⟩,
                hB1.setCell (p := ⟨w.heap.size + 1, 0, none⟩) (Nat.le_succ _) _⟩, (Below.heap_setCell w2 ⟨w.heap.size + 1, 0, none⟩ _ _ (by show wr.heap.size ≠ w.heap.size + 1; omega)).trans (hqc.out.trans (heap_alloc_new wr _))⟩
          case rest =>
            obtain ⟨A1, c1, hT2, hcb⟩ := hcut
            obtain ⟨hd0, hd1, hd2, hg0, hg2⟩ := hT2.out.cell
            have he0 := (cell_blk hcb.out 0).trans rfl
            have he1 := (cell_blk hcb.out 1).trans rfl
            clear hc0 hc1 hc2 hf0 hf2 hx0 hx1 hx2 hx3 hx4 hx5 hx6 hx7 hx8 hx9 hx
            obtain ⟨Nm, D, hN, hown, hD⟩ := hT2.out.map
            have hlk := look_runN hown hD HNX.out
            have HOwn := Lib.hid hown
            have HD := Lib.hid hD
            have HI := Lib.hid (isMap_of hown)
            clear hown hD
            have HSN := Lib.hid (show es ++ [(⟨i, x⟩ : S124)] = ents (all.take i) ++ ((rd_L13 all i).take (k + 1)).map (fun c => (⟨i, c⟩ : S124)) by
              rw [HES.out, HXX.out, List.take_succ_eq_append_getElem hlt, List.map_append, List.append_assoc]
              unfold rd_T122
              rw [Int.toNat_natCast, List.getD_eq_getElem?_getD, List.getElem?_eq_getElem hlt]; rfl)
            have HMN := Lib.hid (mainOf_snoc es (⟨i, x⟩ : S124))
            cases hf : fnd es x.f1.f0 with
            | none =>
              rw [hf] at hlk
              have HF := Lib.hid hf
              clear hf
              have HW := Lib.hid (wf64 (n := es.length) (by omega))
              have HKY := Lib.hid (Go.WideMaps.keyOf_string_mk (P := Try.prog) (k := 9) Try.underlying9 HNX.out)
              have hcs : x.f0 = false ∨ (x.f0 = true ∧ mainOf es < 0) ∨ (x.f0 = true ∧ ¬ mainOf es < 0) := by cases x.f0 <;> simp <;> omega
              rcases hcs with hmx | ⟨hmx, hmn⟩ | ⟨hmx, hmn⟩
              · have HM := Lib.hid (HMN.out.trans (if_neg (by rintro ⟨-, h2⟩; exact absurd (show x.f0 = true from h2) (by rw [hmx]; decide))))
                go_wp2
                go_quiet (fail)
                go_wp2
                refine wp_region_still_tail 8 (by kernel_rfl) (by kernel_rfl) ?_
                simp only [List.take_succ_cons, List.take_zero, List.drop_succ_cons, List.drop_zero]
                change wpStill _ _ (wc.drewN (nq + 1)) (fun a' => wpList _ _ _ _ a' (wc.drewN (nq + 1))) _ _
                repeat still_step
                refine wpStill_nil ?_
                go_wp2_with (at_mapUpdate; refine wpList_mapUpdate_own _ rfl _ _ _ 95 rfl 9 3 law9 Try.underlying95 _ w.heap.size Nm D rfl HOwn.out (by unfold maxLen; omega) _ _ _ rfl rfl HKY.out _ [] (plainElem_int Try.underlying3 HW.out) ?_; intro w1 hown1 hgrow1; have hT4 := Lib.hid ((hT2.out.draw (nq + 1)).put (e := (⟨i, x⟩ : S124)) (by omega) HD.out HI.out hN HF.out hown1 hgrow1 (Nat.le_refl _)); (obtain ⟨-, -, hd2', -, hg2'⟩ := hT4.out.cell); have he0' := (cell_blk ((hgrow1.block wr.heap.size (Array.getElem?_eq_some_iff.1 hcb.out).1 (by simp; omega)).trans hcb.out) 0).trans rfl; clear hown1 hgrow1)
                go_roundw
                case rel => exact ⟨k + 1, .slice A1 (es.length + 1) c1, by omega, by go_num, es ++ [(⟨i, x⟩ : S124)], HSN, by show Tb _ _ _ _ _ _ _ _; rw [HM.out]; exact hT4.out⟩
                case measure => simp [intOf]; omega
              · have HM := Lib.hid (HMN.out.trans (if_pos ⟨hmn, hmx⟩))
                go_wp2
                go_quiet (fail)
                go_wp2
                refine wp_region_still_tail 8 (by kernel_rfl) (by kernel_rfl) ?_
                simp only [List.take_succ_cons, List.take_zero, List.drop_succ_cons, List.drop_zero]
                change wpStill _ _ (wc.drewN (nq + 1)) (fun a' => wpList _ _ _ _ a' (wc.drewN (nq + 1))) _ _
                repeat still_step
                refine wpStill_nil ?_
                go_wp2_with (at_mapUpdate; refine wpList_mapUpdate_own _ rfl _ _ _ 95 rfl 9 3 law9 Try.underlying95 _ w.heap.size Nm D rfl HOwn.out (by unfold maxLen; omega) _ _ _ rfl rfl HKY.out _ [] (plainElem_int Try.underlying3 HW.out) ?_; intro w1 hown1 hgrow1; have hT4 := Lib.hid ((hT2.out.draw (nq + 1)).put (e := (⟨i, x⟩ : S124)) (by omega) HD.out HI.out hN HF.out hown1 hgrow1 (Nat.le_refl _)); (obtain ⟨-, -, hd2', -, hg2'⟩ := hT4.out.cell); have he0' := (cell_blk ((hgrow1.block wr.heap.size (Array.getElem?_eq_some_iff.1 hcb.out).1 (by simp; omega)).trans hcb.out) 0).trans rfl; clear hown1 hgrow1)
                go_roundw
                case rel => exact ⟨k + 1, .slice A1 (es.length + 1) c1, by omega, by go_num, es ++ [(⟨i, x⟩ : S124)], HSN, by show Tb _ _ _ _ _ _ _ _; rw [HM.out]; exact hT4.out.main (by omega) (by omega) _⟩
                case measure => simp [intOf]; omega
              · have HM := Lib.hid (HMN.out.trans (if_neg (fun h => hmn h.1)))
                go_wp2
                go_quiet (fail)
                go_wp2
                refine wp_region_still_tail 8 (by kernel_rfl) (by kernel_rfl) ?_
                simp only [List.take_succ_cons, List.take_zero, List.drop_succ_cons, List.drop_zero]
                change wpStill _ _ (wc.drewN (nq + 1)) (fun a' => wpList _ _ _ _ a' (wc.drewN (nq + 1))) _ _
                repeat still_step
                refine wpStill_nil ?_
                go_wp2_with (at_mapUpdate; refine wpList_mapUpdate_own _ rfl _ _ _ 95 rfl 9 3 law9 Try.underlying95 _ w.heap.size Nm D rfl HOwn.out (by unfold maxLen; omega) _ _ _ rfl rfl HKY.out _ [] (plainElem_int Try.underlying3 HW.out) ?_; intro w1 hown1 hgrow1; have hT4 := Lib.hid ((hT2.out.draw (nq + 1)).put (e := (⟨i, x⟩ : S124)) (by omega) HD.out HI.out hN HF.out hown1 hgrow1 (Nat.le_refl _)); (obtain ⟨-, -, hd2', -, hg2'⟩ := hT4.out.cell); have he0' := (cell_blk ((hgrow1.block wr.heap.size (Array.getElem?_eq_some_iff.1 hcb.out).1 (by simp; omega)).trans hcb.out) 0).trans rfl; clear hown1 hgrow1)
                go_roundw
                case rel => exact ⟨k + 1, .slice A1 (es.length + 1) c1, by omega, by go_num, es ++ [(⟨i, x⟩ : S124)], HSN, by show Tb _ _ _ _ _ _ _ _; rw [HM.out]; exact hT4.out⟩
                case measure => simp [intOf]; omega
            | some kf =>
              rw [hf] at hlk
              have HT3 := Lib.hid (fun nq => (⟨hT2.out.cells, Kd.R_drewN hT2.out.row nq, ⟨Nm, D, by simp; omega, HOwn.out, HD.out.old hf⟩, pw_below_drewN hT2.out.below nq⟩ : Tb w (World.drewN _ nq) (w.heap.size + 1) w.heap.size _ (es ++ [(⟨i, x⟩ : S124)]) (es ++ [(⟨i, x⟩ : S124)]) (mainOf es)))
              clear hf
              cases hmx : x.f0
              · have HM := Lib.hid (HMN.out.trans (if_neg (by rintro ⟨-, h2⟩; exact absurd (show x.f0 = true from h2) (by rw [hmx]; decide))))
                go_wp2
                go_quiet (fail)
                go_wp2
                go_roundw
                case rel => exact ⟨k + 1, .slice A1 (es.length + 1) c1, by omega, by go_num, es ++ [(⟨i, x⟩ : S124)], HSN, by show Tb _ _ _ _ _ _ _ _; rw [HM.out]; exact HT3.out _⟩
                case measure => simp [intOf]; omega
              · by_cases hmn : mainOf es < 0
                · have HM := Lib.hid (HMN.out.trans (if_pos ⟨hmn, hmx⟩))
                  go_wp2
                  go_quiet (fail)
                  go_wp2
                  go_roundw
                  case rel => exact ⟨k + 1, .slice A1 (es.length + 1) c1, by omega, by go_num, es ++ [(⟨i, x⟩ : S124)], HSN, by show Tb _ _ _ _ _ _ _ _; rw [HM.out]; exact (HT3.out _).main (by omega) (by omega) _⟩
                  case measure => simp [intOf]; omega
                · have HM := Lib.hid (HMN.out.trans (if_neg (fun h => hmn h.1)))
                  go_wp2
                  go_quiet (fail)
                  go_wp2
                  go_roundw
                  case rel => exact ⟨k + 1, .slice A1 (es.length + 1) c1, by omega, by go_num, es ++ [(⟨i, x⟩ : S124)], HSN, by show Tb _ _ _ _ _ _ _ _; rw [HM.out]; exact HT3.out _⟩
                  case measure => simp [intOf]; omega
        · have HE2 := Lib.hid (show es = ents (all.take (i + 1)) by
            rw [HES.out, List.take_of_length_le (l := rd_L13 all i) (by omega), List.take_succ_eq_append_getElem hlti, ents_snoc]
            have e1 : rd_L13 all i = all[i]'(by omega) := by unfold rd_L13; rw [Int.toNat_natCast, List.getD_eq_getElem?_getD, List.getElem?_eq_getElem (by omega)]; rfl
            rw [e1]; simp [Nat.min_eq_left hi])
          go_wp2
          go_roundw
          case rel => exact ⟨i + 1, v, by omega, by go_num, by show Tb _ _ _ _ _ _ _ _; rw [← HE2.out]; exact hT.out⟩
          case measure => simp [intOf]; omega
    · have hi2 : i = all.length := by omega
      have HTB := Lib.hid (show Tab wr (w.heap.size + 1) (ents all) (mainOf (ents all)) by
        have := hT.out
        rw [List.take_of_length_le (by omega)] at this
        exact this.tab HNM.out HSH.out)
      have HB := Lib.hid hT.out.below
      clear hi2
      go_wp2
      go_ret
      exact ⟨w.heap.size + 1, rfl, HTB.out, HB.out⟩
end Go.Proofs.Ytoakelgcbbbieaa
