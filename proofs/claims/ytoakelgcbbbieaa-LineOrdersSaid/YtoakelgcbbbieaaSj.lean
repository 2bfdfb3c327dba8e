/- class.Sorted, walked: the faults in order and without twins. -/
import Derived.Test.YtoakelgcbbbieaaSe
import Derived.Test.YtoakelgcbbbieaaSg
import Derived.Test.YtoakelgcbbbieaaSh
import Derived.Test.YtoakelgcbbbieaaSi
import Derived.Shelf.SlSortCmp.WholeK
import Derived.Shelf.SlSortCmp.NoneTotal
namespace Go.Proofs.Ytoakelgcbbbieaa
open Go.RowKit Go.Maps Go.Shelf Go.Lib Go.Sort Go.Proofs.YtoakelgcbbbieaaW.PrintWords Go.Proofs.YtoakelgcbbbieaaW.PrintLast Go.Proofs.YtoakelgcbbbieaaW.PrintMore
set_option linter.unusedVariables false
set_option linter.unusedSimpArgs false
set_option maxRecDepth 100000

theorem fCells_len (x : S113) : (fCells x).length = 3 := rfl
theorem fCells_one (x : S113) : ∀ v ∈ fCells x, v.oneCell' = true := by intro v hv; simp [fCells] at hv; rcases hv with rfl | rfl | rfl <;> rfl

theorem cmpLaysF (blk off size : Nat) (w : World) : CmpLays Try.prog 94 #[] fCells 3 cmpF blk off size w :=
  fun m os dk _ x y => by
    refine (before_calls x y _).mono ?_
    rintro e w' ⟨rfl, rfl⟩
    exact ⟨rfl, 1, _, by rw [alloc_eq_grow, alloc_eq_grow, alloc_eq_grow, grow_grow, grow_grow]; rfl⟩

theorem ltOf_F : ltOf cmpF = ltFB := rfl

/-- slices.SortFunc at faults. -/
theorem SortFunc_calls (blk off cap : Nat) (d : Array S113) (w : World) (hH : HoldsK fCells 3 w blk off d) (hblk : blk < w.heap.size) (hsz : d.size < 4611686018427387904) :
    Calls Try.prog 97 #[.slice (some ⟨blk, off, none⟩) d.size cap, .func (.func 94) #[] #[]] w fun e w' => e = .returned (.tuple #[]) ∧ ∃ d' n os, PermIn 0 d.size d d' ∧ SortedIn ltFB 0 d.size d' ∧ w' = sortWorldK fCells 3 w blk off n d' os := by
  have eg : ∀ args w, (callFunc 94 args).run Try.prog w = .ok (.enter 94 args) w := enters_of Try.func94 (by kernel_rfl) rfl
  exact AnyQ.slices_SortFunc layF 3 Try.isAgg113 Try.sizeOf113 fCells fCells_len fCells_one cmpF swoF 94 #[] blk off cap d w eg (cmpLaysF blk off d.size w) hH hblk hsz

theorem SortFunc_none (p : Option Addr) (cap : Nat) (fv : Value) (w : World) :
    Calls Try.prog 97 #[.slice p 0 cap, fv] w fun e w' => e = .returned (.tuple #[]) ∧ w' = w :=
  AnyF.slices_SortFunc_none layF p cap fv w

theorem fRow_get : ∀ (fs : List S113) (t : Nat), t < fs.length * 3 → (fRow fs)[t]? = some ((fCells (fs.toArray[t / 3]!))[t % 3]!)
  | [], t, h => by simp at h
  | x :: l, t, h => by
    rw [show fRow (x :: l) = fCells x ++ fRow l by simp [fRow]]
    by_cases ht : t < 3
    · rw [List.getElem?_append_left (by exact ht), show t / 3 = 0 by omega, show t % 3 = t by omega]
      have h3 : t = 0 ∨ t = 1 ∨ t = 2 := by omega
      rcases h3 with rfl | rfl | rfl <;> rfl
    · rw [List.getElem?_append_right (by show 3 ≤ t; omega), show (fCells x).length = 3 from rfl]
      have hl : t - 3 < l.length * 3 := by simp at h; omega
      rw [fRow_get l (t - 3) hl, show t / 3 = (t - 3) / 3 + 1 by omega, show (t - 3) % 3 = t % 3 by omega]
      congr 3
      simp

theorem holds_own {w : World} {g e : Nat} {cur : Array Value} {fs : List S113} (hb : w.heap[g]? = some (.cells cur e (0, 0))) (hr : cur.toList.take (fs.length * 3) = fRow fs) : HoldsK fCells 3 w g 0 fs.toArray := by
  intro j hj
  have hj' : j < fs.length * 3 := by simpa using hj
  rw [Nat.zero_add]
  refine ⟨?_, frozen_blk hb j⟩
  rw [cell_blk hb j, get_flatK _ _ _ j (by simpa using hj'), ← Array.getElem?_toList]
  have h1 := fRow_get fs j hj'
  rw [← hr, List.getElem?_take_of_lt hj'] at h1
  exact h1

theorem below_sortF {B : Nat} {w0 w : World} {g n : Nat} {d : Array S113} {os : Array Obj} (h : Below B w0 w) (hg : B ≤ g) (hB : B ≤ w.heap.size) : Below B w0 (sortWorldK fCells 3 w g 0 n d os) := by
  have h1 : Below B w0 (putRowK fCells 3 (Sort.ahead w n) g 0 d) :=
    ⟨h.os, h.tape, h.output, by simpa [putRowK, putRow, mapBlock, Sort.ahead] using h.size, fun k hk => by
      rw [← h.block k hk]
      simp [putRowK, putRow, mapBlock, Sort.ahead, Array.getElem?_modify, show g ≠ k by omega]⟩
  have hs : (putRowK fCells 3 (Sort.ahead w n) g 0 d).heap.size = w.heap.size := by simp [putRowK, putRow, mapBlock, Sort.ahead]
  exact h1.trans ⟨rfl, rfl, rfl, by unfold sortWorldK; simp, fun k hk => by unfold sortWorldK; exact heap_grow_old _ os (by omega)⟩

theorem C_RowF {w : World} {g : Nat} {L : List S113} (h : RowF w g 0 L) (hm : L.length ≤ 9223372036854775807) : Kd.C k113 w (some ⟨g, 0, none⟩) L.length L := by
  refine ⟨rfl, hm, fun _ => ⟨_, rfl, fun j p hj => ⟨_, rfl, k113_mk w p, fun i u hu => ?_⟩⟩⟩
  obtain ⟨h0, h1, h2⟩ := h j p hj
  have hi : i < 3 := (List.getElem?_eq_some_iff.1 hu).1
  have ha : (⟨g, 0, none⟩ : Addr).add (j * 3 + i) = ⟨g, j * 3 + i, none⟩ := by
    unfold Addr.add
    split
    · next e0 => rw [e0]
    · simp
  have hA : (⟨g, 0, none⟩ : Addr).add (j * k113.sz + i) = ⟨g, j * 3 + i, none⟩ := ha
  rw [hA]
  have hi' : i = 0 ∨ i = 1 ∨ i = 2 := by omega
  rw [Nat.zero_add] at h0 h1 h2
  rcases hi' with rfl | rfl | rfl
  · cases hu; exact h0
  · cases hu; exact h1
  · cases hu; exact h2

theorem SortedFunc_calls {w : World} {bs : Nat} {A : Option Addr} {c : Nat} {fs : List S113} (hC : Kd.C k113 w A fs.length fs) (hs : w.cell? ⟨bs, 0, none⟩ = some (.slice A fs.length c)) (hlt : bs < w.heap.size) (hsh : fs.length ≤ 1000000) :
    Calls Try.prog 92 #[.func (.func 98) #[] #[.pointer (some ⟨bs, 0, none⟩)], .func (.func 94) #[] #[]] w fun e w' => ∃ v, e = .returned v ∧ Below w.heap.size w w' ∧
      ((fs = [] ∧ ∃ p cap, v = .slice p 0 cap) ∨ (∃ g cap d', v = .slice (some ⟨g, 0, none⟩) fs.length cap ∧ w.heap.size ≤ g ∧ fs.length ≤ cap ∧ cap ≤ maxLen ∧ HoldsK fCells 3 w' g 0 d' ∧ PermIn 0 fs.length fs.toArray d' ∧ SortedIn ltFB 0 fs.length d')) := by
  have HC := Lib.hid hC
  have HS := Lib.hid hs
  clear hC hs
  go_enter Try.func92, Try.ntmps92
  go_wp2_with fail
  refine (Collect_calls HC.out HS.out hlt hsh).mono ?_
  rintro e w1 ⟨v, rfl, ⟨hl, hr⟩, hB⟩
  have HB := Lib.hid hB
  have hsz := hB.size
  clear hB
  rcases hr with ⟨rfl, h0⟩ | ⟨g, cap, cur, rfl, hg, hb, hn, hcm, hcs, ht⟩
  · go_wp2_with fail
    refine (SortFunc_none _ _ _ _).mono ?_
    rintro e w2 ⟨rfl, rfl⟩
    go_wp2
    go_ret
    exact ⟨_, rfl, HB.out, .inl ⟨List.length_eq_zero_iff.1 h0, _, _, rfl⟩⟩
  · have hblk : g < w1.heap.size := (Array.getElem?_eq_some_iff.1 hb).1
    have HH := Lib.hid (holds_own hb ht)
    have hS := SortFunc_calls g 0 cap fs.toArray w1 (holds_own hb ht) hblk (by simp; omega)
    rw [List.size_toArray] at hS
    have HSc := Lib.hid hS
    clear hS hb ht
    go_wp2_with fail
    refine HSc.out.mono ?_
    rintro e w2 ⟨rfl, d', n, os, hp, hso, rfl⟩
    have hd : d'.size = fs.toArray.size := hp.1
    have HK := Lib.hid (holdsK_sortWorldK_c fCells 3 w1 g 0 fs.toArray d' n os HH.out hblk hd)
    have HB2 := Lib.hid (below_sortF (n := n) (d := d') (os := os) HB.out hg hsz)
    have HP := Lib.hid hp
    have HSo := Lib.hid hso
    clear hp hso
    generalize sortWorldK fCells 3 w1 g 0 n d' os = w2 at HK HB2 ⊢
    go_wp2
    go_ret
    exact ⟨_, rfl, HB2.out, .inr ⟨g, cap, d', rfl, hg, hn, hcm, HK.out, HP.out, HSo.out⟩⟩

theorem Compact_none (p : Option Addr) (cap : Nat) (w : World) :
    Calls Try.prog 91 #[.slice p 0 cap] w fun e w' => e = .returned (.slice p 0 cap) ∧ w' = w := by
  go_enter Try.func91, Try.ntmps91
  go_wp2
  go_ret
  exact ⟨rfl, rfl⟩

theorem Sorted_calls {w : World} {A : Option Addr} {c : Nat} {fs : List S113} (hC : Kd.C k113 w A fs.length fs) (hsh : fs.length ≤ 1000000) :
    Calls Try.prog 76 #[.slice A fs.length c] w fun e w' => ∃ A' c', e = .returned (.slice A' (setF fs).length c') ∧ Kd.C k113 w' A' (setF fs).length (setF fs) ∧ Below w.heap.size w w' := by
  have HC := Lib.hid hC
  clear hC
  go_enter Try.func76, Try.ntmps76
  go_wp2_with fail
  refine (Values_calls _ _ _).mono ?_
  rintro e w1 ⟨rfl, hw1⟩
  have hB1 : Below w.heap.size w w1 := by rw [hw1]; exact (Below.refl _ w).alloc (Nat.le_refl _) _
  have hcl : w1.cell? ⟨w.heap.size, 0, none⟩ = some (.slice A fs.length c) := by rw [hw1]; exact (cell_blk (heap_alloc_new w _) 0).trans rfl
  have hlt : w.heap.size < w1.heap.size := by rw [hw1]; simp
  have hC1 : Kd.C k113 w1 A fs.length fs := Kd.C_below HC.out hB1
  have HS := Lib.hid (SortedFunc_calls hC1 hcl hlt hsh)
  have HB1 := Lib.hid hB1
  clear hw1 hB1 hcl hC1
  go_wp2_with fail
  refine HS.out.mono ?_
  rintro e w2 ⟨v, rfl, hB2, hv⟩
  have HB2 := Lib.hid (HB1.out.trans (hB2.mono (Nat.le_of_lt hlt)))
  clear hB2
  rcases hv with ⟨rfl, p, cap, rfl⟩ | ⟨g, cap, d', rfl, hg, hn, hcm, hH, hp, hso⟩
  · go_wp2_with fail
    refine (Compact_none _ _ _).mono ?_
    rintro e w3 ⟨rfl, rfl⟩
    go_wp2
    go_ret
    exact ⟨p, cap, rfl, ⟨rfl, by simp [setF], fun h => absurd h (by simp [setF])⟩, HB2.out⟩
  · obtain ⟨hd, hset⟩ := compact_set hp hso
    have hCo := Compact_calls w.heap.size g 0 cap (by omega) d' w2 hH (by omega) (by omega) hcm
    rw [hset, hd] at hCo
    have HCo := Lib.hid hCo
    clear hH hp hso hCo hset
    go_wp2_with fail
    refine HCo.out.mono ?_
    rintro e w3 ⟨rfl, hB3, hR⟩
    have hlen : (setF fs).length ≤ 9223372036854775807 := by have := len_setF fs; omega
    have HF := Lib.hid (C_RowF hR hlen)
    have HB3 := Lib.hid (HB2.out.trans hB3)
    clear hR hB3
    go_wp2
    go_ret
    exact ⟨_, _, rfl, HF.out, HB3.out⟩
end Go.Proofs.Ytoakelgcbbbieaa
