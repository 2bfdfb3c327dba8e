/- The document's line, below, basic, class and known, walked. -/
import Derived.Test.YtoakelgcbbbieaaF
namespace Go.Proofs.Ytoakelgcbbbieaa
open Go.RowKit Go.Maps Go.Proofs.YtoakelgcbbbieaaW.PrintWords Go.Proofs.YtoakelgcbbbieaaW.PrintLast Go.Proofs.YtoakelgcbbbieaaW.PrintMore
set_option linter.unusedVariables false
set_option linter.unusedSimpArgs false
set_option maxRecDepth 100000

theorem RIn_calls {w : World} {A : Option Addr} {n c : Nat} {l : List Int} (h : Kd.C (Kd.int .i64) w A n l) (x : Int) :
    Calls Try.prog 65 #[.slice A n c, .int .i64 x] w fun e w' => e = .returned (.bool (hasI l x)) ∧ w = w' := by
  obtain rfl := C_len h
  have hm := C_max h
  have H := Lib.hid h
  clear h
  go_enter Try.func65, Try.ntmps65
  go_wp2
  go_loop [5] (fun v5 => ∃ k : Nat, k ≤ l.length ∧ v5 = .int .i64 k ∧ Hid (x ∉ l.take k)) (fun v5 => l.length - (intOf v5).toNat)
  case atStart => exact ⟨0, Nat.zero_le _, rfl, by show x ∉ _; simp⟩
  case round =>
    obtain ⟨k, hk, rfl, hx⟩ := hrel
    by_cases hlt : k < l.length
    · obtain ⟨ad, rfl, hc⟩ := at_int H.out k hlt
      by_cases he : l[k] = x
      · have HE := Lib.hid (show hasI l x = true by unfold hasI; rw [← he]; simp)
        have he' : (l[k] == x) = true := by simpa using he
        clear he
        go_wp2
        go_ret
        exact ⟨by rw [HE.out]; rfl, rfl⟩
      · have HE := Lib.hid he
        have he' : (l[k] == x) = false := by simpa using he
        clear he
        go_wp2
        go_round
        case rel =>
          refine ⟨k + 1, by omega, by go_num, ?_⟩
          show x ∉ _
          rw [List.take_succ_eq_append_getElem hlt]
          simp only [List.mem_append, List.mem_singleton, not_or]
          exact ⟨hx.out, fun h => HE.out h.symm⟩
        case measure => simp [intOf]; omega
    · have HE := Lib.hid (show hasI l x = false by
        have h1 := hx.out
        rw [List.take_of_length_le (by omega)] at h1
        unfold hasI; simp [h1])
      go_wp2
      go_ret
      exact ⟨by rw [HE.out]; rfl, rfl⟩

theorem RLine_calls {w : World} {A : Option Addr} {n c : Nat} {xs : List S124} {rs : List S145} (h : Kd.C k145 w A n rs) (ag : Ag xs rs) (hsh : xs.length ≤ 1000000000) (i : Int) :
    Calls Try.prog 51 #[.slice A n c, .int .i64 i] w fun e w' => ∃ v, e = .returned v ∧ Kd.R (Kd.int .i64) 3 w' w.heap.size (fun _ => True) v (ni (lineOf xs i)) ∧ Below w.heap.size w w' := by
  have hl : n = xs.length := (C_len h).symm.trans ag.len
  have H := Lib.hid h
  have AG := Lib.hid ag
  have HL := Lib.hid hl
  have HS := Lib.hid hsh
  have hst : ∃ cur, Hid (lineGo xs (xs.length + 1) [] cur = lineOf xs i) ∧ Hid (∀ c : Nat, cur = some c → i = (c : Int) ∧ c < xs.length) ∧ Hid (cur = none → i < 0 ∨ (xs.length : Int) ≤ i) := by
    by_cases hin : 0 ≤ i ∧ i < xs.length
    · refine ⟨some i.toNat, ?_, ?_, ?_⟩
      · show _ = _; unfold lineOf; rw [if_pos hin]
      · intro c hc; injection hc with hc; subst hc; omega
      · intro hc; cases hc
    · refine ⟨none, ?_, ?_, ?_⟩
      · show _ = _; unfold lineOf; rw [if_neg hin, lineGo_none]
      · intro c hc; cases hc
      · intro _; omega
  obtain ⟨cur0, hg0, hj0, hn0⟩ := hst
  clear h ag hl hsh
  go_enter Try.func51, Try.ntmps51
  go_wp2
  go_loopw [1, 5] (fun v1 v5 wr => ∃ (acc : List Nat) (cur : Option Nat) (j : Int) (f : Nat), v1 = .int .i64 j ∧ Hid (∀ c : Nat, cur = some c → j = (c : Int) ∧ c < xs.length) ∧ Hid (cur = none → j < 0 ∨ (xs.length : Int) ≤ j) ∧
      Hid (lineGo xs f acc cur = lineOf xs i) ∧ Hid (f + acc.length = xs.length + 1) ∧ Hid (acc.Nodup ∧ ∀ k ∈ acc, k < xs.length) ∧ Kd.R (Kd.int .i64) 3 wr w.heap.size (fun _ => True) v5 (ni acc) ∧ Below w.heap.size w wr)
    (fun v1 v5 wr => xs.length + 1 - (match v5 with | .slice _ n _ => n | _ => 0))
  case atStart => exact ⟨[], cur0, i, xs.length + 1, rfl, hj0, hn0, hg0, rfl, ⟨List.nodup_nil, by simp⟩, Kd.R_nil _ _ _ _ _, Below.refl _ _⟩
  case round =>
    obtain ⟨acc, cur, j, f, rfl, hj, hn, hg, hf, hd, hR, hB⟩ := hrel
    obtain ⟨Al, cp, rfl, hcp, hC⟩ := Kd.R_reads hR
    rw [len_ni] at hcp hC hR
    cases cur with
    | none =>
      have HE2 := Lib.hid (show lineOf xs i = acc by rw [← hg.out, lineGo_none])
      have hjn := hn.out rfl
      rw [← HL.out] at hjn
      rcases hjn with hjn | hjn
      · have d1 : decide (0 ≤ j) = false := by simp; omega
        go_wp2
        go_ret
        exact ⟨.slice Al acc.length cp, rfl, by rw [HE2.out]; exact hR, hB⟩
      · have d1 : 0 ≤ j := by omega
        have d2 : decide (j < n) = false := by simp; omega
        go_wp2
        go_ret
        exact ⟨.slice Al acc.length cp, rfl, by rw [HE2.out]; exact hR, hB⟩
    | some c =>
      obtain ⟨rfl, hc⟩ := hj.out c rfl
      have hcn : (c : Int) < (n : Int) := by have := HL.out; omega
      have hcn' : c < n := by omega
      have d1 : 0 ≤ (c : Int) := by omega
      by_cases hmem : c ∈ acc
      · have HM := Lib.hid (contains_ni.trans (decide_eq_true hmem))
        have HE2 := Lib.hid (show lineOf xs i = acc by
          rw [← hg.out]
          have h1 := nodup_le hd.out.1 hd.out.2
          have h2 := hf.out
          obtain ⟨f', rfl⟩ : ∃ f', f = f' + 1 := ⟨f - 1, by omega⟩
          show (if c ∈ acc then acc else _) = acc
          rw [if_pos hmem])
        clear hmem
        go_wp2_with (go_at_call 65; refine (RIn_calls hC (c : Int)).mono ?_; rintro e w2 ⟨rfl, rfl⟩; rw [HM.out])
        go_ret
        exact ⟨.slice Al acc.length cp, rfl, by rw [HE2.out]; exact hR, hB⟩
      · have HM := Lib.hid (contains_ni.trans (decide_eq_false hmem))
        have h1 := nodup_le hd.out.1 hd.out.2
        have h2 := hf.out
        have hs := HS.out
        obtain ⟨f', rfl⟩ : ∃ f', f = f' + 1 := ⟨f - 1, by omega⟩
        have HG := Lib.hid (show lineGo xs f' (acc ++ [c]) (sup xs c) = lineOf xs i by
          rw [← hg.out]
          show _ = (if c ∈ acc then acc else _)
          rw [if_neg hmem])
        have HD := Lib.hid (show (acc ++ [c]).Nodup ∧ ∀ k ∈ acc ++ [c], k < xs.length by
          refine ⟨List.nodup_append.2 ⟨hd.out.1, by simp, fun a ha b hb e => hmem (by rw [List.mem_singleton.1 hb] at e; rw [← e]; exact ha)⟩, fun k hk => ?_⟩
          rcases List.mem_append.1 hk with hk | hk
          · exact hd.out.2 k hk
          · rw [List.mem_singleton.1 hk]; exact hc)
        have HLL := Lib.hid (show ((ni acc).length + 1) * 8 ≤ 140737488355328 by rw [len_ni]; omega)
        have HF := Lib.hid (show f' + (acc ++ [c]).length = xs.length + 1 by simp; omega)
        have HX := Lib.hid (show ni acc ++ [(c : Int)] = ni (acc ++ [c]) by simp [ni])
        clear hmem h1 h2 hs hg hf hd
        go_wp2_with (first
          | (go_at_call 65; refine (RIn_calls hC (c : Int)).mono ?_; rintro e w2 ⟨rfl, rfl⟩; rw [HM.out])
          | ((with_reducible refine gate_builtin (b := .append) (xs := #[.tmp 20, .tmp 22]) rfl ?_); at_builtin; refine Kd.R_append (Kd.int .i64) (w0 := w) w.heap.size rfl (.tmp 20) (.tmp 22) 41 3 (.int .i64 0) 8 rfl Try.underlying41 info3 rfl (by decide) (by omega) (.slice Al acc.length cp) (ni acc) (c : Int) [.int .i64 c] (fun _ => True) (fun _ => False) rfl rfl rfl (fun _ hk => hk.elim) (fun _ _ => trivial) hR hB hB.size HLL.out ?_; rw [HX.out]; intro v1 w1 hR1 hB1 _ _; clear hR hC hB hcp)
          | (go_at_call 48; refine (RSuper_calls (Kd.C_below H.out hB1) AG.out (c : Int)).mono ?_; rintro e w3 ⟨rfl, rfl⟩))
        go_roundw
        case rel =>
          refine ⟨acc ++ [c], sup xs c, optI (sup xs c), f', rfl, fun d hd => by (rw [hd]; exact ⟨rfl, sup_lt hd⟩), fun hd => by (rw [hd]; exact .inl (by decide)), HG.out, HF.out, HD.out, hR1, hB1⟩
        case measure =>
          obtain ⟨A1, c1, rfl, -⟩ := Kd.R_reads hR1
          have := HF.out
          have h3 := len_ni (acc ++ [c])
          simp at this h3 ⊢
          omega

theorem RBelow_calls {w : World} {A : Option Addr} {n c : Nat} {xs : List S124} {rs : List S145} (h : Kd.C k145 w A n rs) (ag : Ag xs rs) (hsh : xs.length ≤ 1000000000) (i k : Int) :
    Calls Try.prog 27 #[.slice A n c, .int .i64 i, .int .i64 k] w fun e w' => e = .returned (.bool (belowB xs i k)) ∧ Below w.heap.size w w' := by
  have H := Lib.hid h
  have AG := Lib.hid ag
  have HS := Lib.hid hsh
  clear h ag hsh
  go_enter Try.func27, Try.ntmps27
  go_wp2_with (first
    | (go_at_call 51; refine (RLine_calls H.out AG.out HS.out i).mono ?_; rintro e w1 ⟨v, rfl, hR, hb⟩; obtain ⟨A, c, rfl, -, hC⟩ := Kd.R_reads hR; rw [len_ni] at hC; clear hR)
    | (go_at_call 65; refine (RIn_calls hC k).mono ?_; rintro e w2 ⟨rfl, rfl⟩))
  go_ret
  exact ⟨rfl, hb⟩

theorem RBasic_calls (s : ByteArray) (w : World) :
    Calls Try.prog 19 #[.string s] w fun e w' => e = .returned (.bool (basicB s)) ∧ w = w' := by
  go_enter Try.func19, Try.ntmps19
  go_wp2
  all_goals (go_ret; exact ⟨ret_bool (by unfold basicB; simp [*, Bool.or_assoc]), rfl⟩)

theorem RKClass_calls {w : World} {A : Option Addr} {n c : Nat} {xs : List S124} {rs : List S145} (h : Kd.C k145 w A n rs) (ag : Ag xs rs) (s : ByteArray) :
    Calls Try.prog 17 #[.slice A n c, .string s] w fun e w' => e = .returned (.int .i64 (optI (kclass xs s))) ∧ w = w' := by
  have hl : n = xs.length := (C_len h).symm.trans ag.len
  have H := Lib.hid h
  have AG := Lib.hid ag
  have HL := Lib.hid hl
  clear h ag hl
  cases hb : basicB s
  · have HB := Lib.hid hb
    cases hf : fnd xs s with
    | none =>
      have HE := Lib.hid (show kclass xs s = none by unfold kclass; rw [hf, hb]; rfl)
      have HF := Lib.hid hf
      clear hf hb
      go_enter Try.func17, Try.ntmps17
      go_wp2_with (first
        | (go_at_call 19; refine (RBasic_calls s _).mono ?_; rintro e w1 ⟨rfl, rfl⟩; rw [HB.out])
        | (go_at_call 63; refine (RFind_calls H.out AG.out _).mono ?_; rintro e w1 ⟨rfl, rfl⟩; rw [HF.out, optI_none]))
      go_ret
      exact ⟨by rw [HE.out]; rfl, rfl⟩
    | some j =>
      have hj := fnd_lt hf
      have HE := Lib.hid (show kclass xs s = if (rd_T124 xs j).f1.f0 = true then none else some j by unfold kclass; rw [hf, hb]; rfl)
      have HF := Lib.hid hf
      clear hf hb
      obtain ⟨ad2, rfl, hy1, hy4⟩ := RAt H.out AG.out j (by rw [HL.out]; exact hj)
      have hjn : (j : Int) < (n : Int) := by have := HL.out; omega
      have hj0 : (0 : Int) ≤ (j : Int) := by omega
      clear hj
      cases hm : (rd_T124 xs j).f1.f0
      all_goals
        go_enter Try.func17, Try.ntmps17
        go_wp2_with (first
          | (go_at_call 19; refine (RBasic_calls s _).mono ?_; rintro e w1 ⟨rfl, rfl⟩; rw [HB.out])
          | (go_at_call 63; refine (RFind_calls H.out AG.out _).mono ?_; rintro e w1 ⟨rfl, rfl⟩; rw [HF.out, optI_some]))
        go_ret
        exact ⟨by rw [HE.out, hm]; rfl, rfl⟩
  · have HE := Lib.hid (show kclass xs s = none by unfold kclass; rw [if_pos hb])
    have HB := Lib.hid hb
    clear hb
    go_enter Try.func17, Try.ntmps17
    go_wp2_with (go_at_call 19; refine (RBasic_calls s _).mono ?_; rintro e w1 ⟨rfl, rfl⟩; rw [HB.out])
    go_ret
    exact ⟨by rw [HE.out]; rfl, rfl⟩

theorem optI_ge (o : Option Nat) : decide (0 ≤ optI o) = o.isSome := by cases o <;> simp [optI]

theorem RKnown_calls {w : World} {A : Option Addr} {n c : Nat} {xs : List S124} {rs : List S145} (h : Kd.C k145 w A n rs) (ag : Ag xs rs) (s : ByteArray) :
    Calls Try.prog 21 #[.slice A n c, .string s] w fun e w' => e = .returned (.bool (knownB xs s)) ∧ w = w' := by
  have H := Lib.hid h
  have AG := Lib.hid ag
  clear h ag
  cases hb : basicB s
  all_goals
    have HB := Lib.hid hb
    have HE := Lib.hid (show knownB xs s = _ by unfold knownB; rw [hb])
    clear hb
    go_enter Try.func21, Try.ntmps21
    go_wp2_with (first
      | (go_at_call 19; refine (RBasic_calls s _).mono ?_; rintro e w1 ⟨rfl, rfl⟩; rw [HB.out])
      | (go_at_call 17; refine (RKClass_calls H.out AG.out s).mono ?_; rintro e w1 ⟨rfl, rfl⟩))
    go_ret
    exact ⟨by rw [HE.out]; simp [optI_ge], rfl⟩
end Go.Proofs.Ytoakelgcbbbieaa
