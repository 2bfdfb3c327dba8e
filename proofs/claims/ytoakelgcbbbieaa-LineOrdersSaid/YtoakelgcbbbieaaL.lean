/- The line of a class, walked: for any table. -/
import Derived.Test.YtoakelgcbbbieaaS
import Derived.LoopTactic
import Derived.Deep.LoopGhost
namespace Go.Proofs.Ytoakelgcbbbieaa
open Go.RowKit Go.Maps Go.Proofs.YtoakelgcbbbieaaW.PrintWords Go.Proofs.YtoakelgcbbbieaaW.PrintLast Go.Proofs.YtoakelgcbbbieaaW.PrintMore
set_option linter.unusedVariables false
set_option linter.unusedSimpArgs false
set_option maxRecDepth 100000

/-! ### slices of ints -/
theorem info3 : (Try.prog.info? 3).map (fun i => (i.zero, i.size, i.bytes)) = some (some (.int .i64 0), 1, 8) := by kernel_rfl

theorem at_int {w : World} {A : Option Addr} {n : Nat} {xs : List Int} (h : Kd.C (Kd.int .i64) w A n xs) (k : Nat) (h1 : k < xs.length) : ∃ ad, A = some ad ∧ w.cell? (ad.add k) = some (.int .i64 xs[k]) := by
  have hl := h.1
  obtain ⟨ad, c, e, _, hK, hc⟩ := Kd.C_get h (0 : Int) (k : Int) (by omega) (by omega)
  obtain rfl : c = [.int .i64 (xs.getD (k : Int).toNat 0)] := hK
  have := hc 0 _ rfl
  refine ⟨ad, e, ?_⟩
  rw [show (Kd.int IntKind.i64).sz = 1 from rfl] at this
  simpa [List.getElem?_eq_getElem h1] using this

theorem C_len {α : Type} {d : Kd α} {w : World} {A : Option Addr} {n : Nat} {xs : List α} (h : d.C w A n xs) : xs.length = n := h.1
theorem C_max {α : Type} {d : Kd α} {w : World} {A : Option Addr} {n : Nat} {xs : List α} (h : d.C w A n xs) : n ≤ 9223372036854775807 := h.2.1

theorem ret_bool {a b : Bool} (h : a = b) : Ending.returned (.bool a) = .returned (.bool b) := by rw [h]
theorem ret_int {k : IntKind} {a b : Int} (h : a = b) : Ending.returned (.int k a) = .returned (.int k b) := by rw [h]

/-- is a number in a list -/
def hasI (l : List Int) (x : Int) : Bool := l.contains x

def IdxPost (l : List Int) (x : Int) (w : World) (e : Ending) (w' : World) : Prop := ∃ r : Int, e = .returned (.int .i64 r) ∧ Hid (decide (0 ≤ r) = l.contains x) ∧ w = w'

theorem Index_calls {w : World} {A : Option Addr} {n c : Nat} {l : List Int} (h : Kd.C (Kd.int .i64) w A n l) (x : Int) :
    Calls Try.prog 79 #[.slice A n c, .int .i64 x] w (IdxPost l x w) := by
  obtain rfl := C_len h
  have hm := C_max h
  have H := Lib.hid h
  clear h
  go_enter Try.func79, Try.ntmps79
  go_wp2
  go_loop [5, 8] (fun _ i => ∃ k : Nat, k ≤ l.length ∧ i = .int .i64 k ∧ Hid (x ∉ l.take k)) (fun _ i => l.length - (intOf i).toNat)
  case atStart => exact ⟨0, Nat.zero_le _, rfl, by show x ∉ _; simp⟩
  case round =>
    obtain ⟨k, hk, rfl, hx⟩ := hrel
    by_cases hlt : k < l.length
    · obtain ⟨ad, rfl, hc⟩ := at_int H.out k hlt
      by_cases he : x = l[k]
      · have HE := Lib.hid he
        have he' : (x == l[k]) = true := by simpa using he
        clear he
        go_wp2
        go_ret
        refine ⟨k, rfl, ?_, rfl⟩
        have : x ∈ l := by
          rw [HE.out]; exact List.getElem_mem _
        show decide _ = _
        simp [this]
      · have HE := Lib.hid he
        have he' : (x == l[k]) = false := by simpa using he
        clear he
        go_wp2
        go_round
        case rel =>
          refine ⟨k + 1, by omega, by go_num, ?_⟩
          show x ∉ _
          rw [List.take_succ_eq_append_getElem hlt]
          have h1 := hx.out
          have h2 := HE.out
          simp only [List.mem_append, List.mem_singleton, not_or]
          exact ⟨h1, by simpa using h2⟩
        case measure => simp [intOf]; omega
    · go_wp2
      go_ret
      refine ⟨-1, rfl, ?_, rfl⟩
      have h1 := hx.out
      rw [List.take_of_length_le (by omega)] at h1
      show decide _ = _
      simp [h1]

theorem Contains_calls {w : World} {A : Option Addr} {n c : Nat} {l : List Int} (h : Kd.C (Kd.int .i64) w A n l) (x : Int) :
    Calls Try.prog 64 #[.slice A n c, .int .i64 x] w fun e w' => e = .returned (.bool (hasI l x)) ∧ w = w' := by
  have H := Lib.hid h
  clear h
  go_enter Try.func64, Try.ntmps64
  go_wp2_with (go_at_call 79; refine (Index_calls H.out x).mono ?_; rintro e w1 ⟨r, rfl, hr, rfl⟩)
  go_ret
  exact ⟨ret_bool hr.out, rfl⟩

/-! ### lines -/
abbrev ni (l : List Nat) : List Int := l.map (fun (k : Nat) => (k : Int))
def lineGo (xs : List S124) : Nat → List Nat → Option Nat → List Nat
  | 0, acc, _ => acc
  | f + 1, acc, none => acc
  | f + 1, acc, some i => if i ∈ acc then acc else lineGo xs f (acc ++ [i]) (sup xs i)
def lineOf (xs : List S124) (i : Int) : List Nat := if 0 ≤ i ∧ i < xs.length then lineGo xs (xs.length + 1) [] (some i.toNat) else []

theorem sup_lt {xs : List S124} {i : Int} {k : Nat} (h : sup xs i = some k) : k < xs.length := by
  unfold sup at h
  split at h
  · split at h
    · cases h
    · split at h
      · cases h
      · rename_i hf
        split at h
        · cases h
        · injection h with h; subst h; exact fnd_lt hf
  · cases h

/-- numbers of a table, each once: no more than there are -/
theorem nodup_le {n : Nat} {acc : List Nat} (h : acc.Nodup) (hl : ∀ k ∈ acc, k < n) : acc.length ≤ n := by
  have := h.length_le_of_subset (l₂ := List.range n) (fun k hk => List.mem_range.2 (hl k hk))
  simpa using this

theorem len_ni (l : List Nat) : (ni l).length = l.length := by simp [ni]
theorem contains_ni {l : List Nat} {k : Nat} : hasI (ni l) (k : Int) = decide (k ∈ l) := by
  unfold hasI
  rw [Bool.eq_iff_iff, List.contains_iff_mem, decide_eq_true_iff, List.mem_map]
  constructor
  · rintro ⟨a, ha, he⟩
    rwa [← Int.ofNat.inj he]
  · exact fun h => ⟨k, h, rfl⟩

theorem lineGo_none (xs : List S124) (f : Nat) (acc : List Nat) : lineGo xs f acc none = acc := by cases f <;> rfl

theorem Line_calls {w : World} {tb : Nat} {xs : List S124} {m : Int} (T : Tab w tb xs m) (i : Int) :
    Calls Try.prog 50 #[.pointer (some ⟨tb, 0, none⟩), .int .i64 i] w fun e w' => ∃ v, e = .returned v ∧ Kd.R (Kd.int .i64) 3 w' w.heap.size (fun _ => True) v (ni (lineOf xs i)) ∧ Below w.heap.size w w' := by
  by_cases hin : 0 ≤ i ∧ i < xs.length
  · obtain ⟨n, rfl⟩ := Int.eq_ofNat_of_zero_le hin.1
    have HE := Lib.hid (show lineOf xs n = lineGo xs (xs.length + 1) [] (some n) by unfold lineOf; rw [if_pos hin]; rfl)
    go_enter Try.func50, Try.ntmps50
    go_wp2_with (go_at_call 62; refine (At_in T n hin.1 hin.2).mono ?_; rintro e w1 ⟨A6, c6, A7, c7, A10, c10, rfl, hK, hb⟩)
    have HB := Lib.hid ((hb.alloc hb.size (.cells (eCells (rd_T124 xs n) A6 c6 A7 c7 A10 c10) 124)))
    clear hb hK
    have hn : n < xs.length := by omega
    clear hin
    go_loopw [1, 5, 7] (fun v1 v5 v7 wr => ∃ (acc : List Nat) (cur : Option Nat) (j : Int) (f : Nat), v7 = .bool cur.isSome ∧ v1 = .int .i64 j ∧ Hid (∀ c, cur = some c → j = c ∧ c < xs.length) ∧
        Hid (lineGo xs f acc cur = lineOf xs n) ∧ Hid (f + acc.length = xs.length + 1) ∧ Hid (acc.Nodup ∧ ∀ k ∈ acc, k < xs.length) ∧ Kd.R (Kd.int .i64) 3 wr w.heap.size (fun _ => True) v5 (ni acc) ∧ Below w.heap.size w wr)
      (fun v1 v5 v7 wr => xs.length + 1 - (match v5 with | .slice _ n _ => n | _ => 0))
    case atStart => exact ⟨[], some n, n, xs.length + 1, rfl, rfl, by intro c hc; injection hc with hc; subst hc; exact ⟨rfl, hn⟩, HE.out.symm, rfl, ⟨List.nodup_nil, by simp⟩, Kd.R_nil _ _ _ _ _, HB.out⟩
    case round =>
      obtain ⟨acc, cur, j, f, rfl, rfl, hj, hg, hf, hd, hR, hB⟩ := hrel
      obtain ⟨A, cp, rfl, hcp, hC⟩ := Kd.R_reads hR
      rw [len_ni] at hcp hC hR
      cases cur with
      | none =>
        have HE2 := Lib.hid (show lineOf xs n = acc by rw [← hg.out, lineGo_none])
        go_wp2
        go_ret
        exact ⟨.slice A acc.length cp, rfl, by rw [HE2.out]; exact hR, hB⟩
      | some c =>
        obtain ⟨rfl, hc⟩ := hj.out c rfl
        by_cases hmem : c ∈ acc
        · have HM := Lib.hid (contains_ni.trans (decide_eq_true hmem))
          have HE2 := Lib.hid (show lineOf xs n = acc by
            rw [← hg.out]
            have h1 := nodup_le hd.out.1 hd.out.2
            have h2 := hf.out
            obtain ⟨f', rfl⟩ : ∃ f', f = f' + 1 := ⟨f - 1, by omega⟩
            show (if c ∈ acc then acc else _) = acc
            rw [if_pos hmem])
          clear hmem
          go_wp2_with (go_at_call 64; refine (Contains_calls hC (c : Int)).mono ?_; rintro e w2 ⟨rfl, rfl⟩; rw [HM.out])
          go_ret
          exact ⟨.slice A acc.length cp, rfl, by rw [HE2.out]; exact hR, hB⟩
        · have HM := Lib.hid (contains_ni.trans (decide_eq_false hmem))
          have h1 := nodup_le hd.out.1 hd.out.2
          have h2 := hf.out
          have hs := T.short
          obtain ⟨f', rfl⟩ : ∃ f', f = f' + 1 := ⟨f - 1, by omega⟩
          have HG := Lib.hid (show lineGo xs f' (acc ++ [c]) (sup xs c) = lineOf xs n by
            rw [← hg.out]
            show _ = (if c ∈ acc then acc else _)
            rw [if_neg hmem])
          have HD := Lib.hid (show (acc ++ [c]).Nodup ∧ ∀ k ∈ acc ++ [c], k < xs.length by
            refine ⟨List.nodup_append.2 ⟨hd.out.1, by simp, fun a ha b hb e => hmem (by rw [List.mem_singleton.1 hb] at e; rw [← e]; exact ha)⟩, fun k hk => ?_⟩
            rcases List.mem_append.1 hk with hk | hk
            · exact hd.out.2 k hk
            · rw [List.mem_singleton.1 hk]; exact hc)
          have HL := Lib.hid (show ((ni acc).length + 1) * 8 ≤ 140737488355328 by rw [len_ni]; omega)
          have HF := Lib.hid (show f' + (acc ++ [c]).length = xs.length + 1 by simp; omega)
          have HX := Lib.hid (show ni acc ++ [(c : Int)] = ni (acc ++ [c]) by simp [ni])
          clear hmem h1 h2 hs hg hf hd
          go_wp2_with (first
            | (go_at_call 64; refine (Contains_calls hC (c : Int)).mono ?_; rintro e w2 ⟨rfl, rfl⟩; rw [HM.out])
            | ((with_reducible refine gate_builtin (b := .append) (xs := #[.tmp 21, .tmp 23]) rfl ?_); at_builtin; refine Kd.R_append (Kd.int .i64) (w0 := w) w.heap.size rfl (.tmp 21) (.tmp 23) 41 3 (.int .i64 0) 8 rfl Try.underlying41 info3 rfl (by decide) (by omega) (.slice A acc.length cp) (ni acc) (c : Int) [.int .i64 c] (fun _ => True) (fun _ => False) rfl rfl rfl (fun _ hk => hk.elim) (fun _ _ => trivial) hR hB hB.size HL.out ?_; rw [HX.out]; intro v1 w2 hR1 hB1 _ _; clear hR hC hB hcp)
            | (go_at_call 47; refine (Super_calls (T.later hB1) (c : Int)).mono ?_; rintro e w3 ⟨rfl, hB2⟩))
          go_roundw
          case rel =>
            exact ⟨acc ++ [c], sup xs c, ((sup xs c).getD 0 : Nat), f', rfl, rfl, fun d hd => by (rw [hd]; exact ⟨rfl, sup_lt hd⟩), HG.out, HF.out, HD.out, Kd.R_below hR1 hB2, hB1.trans (hB2.mono hB1.size)⟩
          case measure =>
            obtain ⟨A1, c1, rfl, -⟩ := Kd.R_reads hR1
            have := HF.out
            have h3 := len_ni (acc ++ [c])
            simp at this h3 ⊢
            omega
  · have HE := Lib.hid (show lineOf xs i = [] by unfold lineOf; rw [if_neg hin])
    have h : i < 0 ∨ (xs.length : Int) ≤ i := by omega
    clear hin
    go_enter Try.func50, Try.ntmps50
    go_wp2_with (go_at_call 62; refine (At_out T i h).mono ?_; rintro e w1 ⟨rfl, hb⟩)
    have HB := hb.alloc hb.size (.cells #[.int .i64 0, .bool false, .string ⟨#[]⟩, .int .i64 0, .string ⟨#[]⟩, .int .i64 0, .slice none 0 0, .slice none 0 0, .string ⟨#[]⟩, .int .i64 0, .slice none 0 0] 124)
    clear hb
    go_loopw [5, 7] (fun v5 v7 wr => v5 = .slice none 0 0 ∧ v7 = .bool false ∧ Below w.heap.size w wr) (fun _ _ _ => 0)
    case atStart => exact ⟨rfl, rfl, HB⟩
    case round =>
      obtain ⟨rfl, rfl, hB⟩ := hrel
      go_wp2
      go_ret
      exact ⟨_, rfl, by rw [HE.out]; exact Kd.R_nil _ _ _ _ _, hB⟩
end Go.Proofs.Ytoakelgcbbbieaa
