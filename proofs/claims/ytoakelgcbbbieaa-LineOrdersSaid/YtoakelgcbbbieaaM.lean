/- Below, circular, basic, class, known and fits, walked: for any table and any two names. -/
import Derived.Test.YtoakelgcbbbieaaL
namespace Go.Proofs.Ytoakelgcbbbieaa
open Go.RowKit Go.Maps Go.Proofs.YtoakelgcbbbieaaW.PrintWords Go.Proofs.YtoakelgcbbbieaaW.PrintLast Go.Proofs.YtoakelgcbbbieaaW.PrintMore
set_option linter.unusedVariables false
set_option linter.unusedSimpArgs false
set_option maxRecDepth 100000

def belowB (xs : List S124) (i k : Int) : Bool := hasI (ni (lineOf xs i)) k

theorem Below_calls {w : World} {tb : Nat} {xs : List S124} {m : Int} (T : Tab w tb xs m) (i k : Int) :
    Calls Try.prog 26 #[.pointer (some ⟨tb, 0, none⟩), .int .i64 i, .int .i64 k] w fun e w' => e = .returned (.bool (belowB xs i k)) ∧ Below w.heap.size w w' := by
  go_enter Try.func26, Try.ntmps26
  go_wp2_with (first
    | (go_at_call 50; refine (Line_calls T i).mono ?_; rintro e w1 ⟨v, rfl, hR, hb⟩; obtain ⟨A, c, rfl, -, hC⟩ := Kd.R_reads hR; rw [len_ni] at hC; clear hR)
    | (go_at_call 64; refine (Contains_calls hC k).mono ?_; rintro e w2 ⟨rfl, rfl⟩))
  go_ret
  exact ⟨rfl, hb⟩


/-- the last of a line -/
def circB (xs : List S124) (i : Int) : Bool :=
  match (lineOf xs i).getLast? with
  | none => false
  | some l => match sup xs l with
    | none => false
    | some k => (k : Int) == i

theorem Circular_calls {w : World} {tb : Nat} {xs : List S124} {m : Int} (T : Tab w tb xs m) (i : Int) :
    Calls Try.prog 52 #[.pointer (some ⟨tb, 0, none⟩), .int .i64 i] w fun e w' => e = .returned (.bool (circB xs i)) ∧ Below w.heap.size w w' := by
  rcases List.eq_nil_or_concat (lineOf xs i) with hl | ⟨pre, last, hl⟩
  · have HL := Lib.hid hl
    have HC := Lib.hid (show circB xs i = false by unfold circB; rw [hl]; rfl)
    clear hl
    go_enter Try.func52, Try.ntmps52
    go_wp2_with (go_at_call 50; refine (Line_calls T i).mono ?_; rw [HL.out]; rintro e w1 ⟨v, rfl, hR, hb⟩; obtain ⟨A, c, rfl, -, -⟩ := Kd.R_reads hR; clear hR)
    go_ret
    exact ⟨by rw [HC.out]; rfl, hb⟩
  · rw [List.concat_eq_append] at hl
    have HL := Lib.hid hl
    have hs := Lib.hid (show circB xs i = match sup xs last with | none => false | some k => (k : Int) == i by unfold circB; rw [hl, List.getLast?_concat])
    clear hl
    have hne : ((pre.length : Int) + 1 == 0) = false := by rw [beq_eq_false_iff_ne]; omega
    cases hsup : sup xs last with
    | none =>
      rw [hsup] at hs
      have HS := Lib.hid hsup
      clear hsup
      go_enter Try.func52, Try.ntmps52
      go_wp2_with (first
        | (go_at_call 50; refine (Line_calls T i).mono ?_; rw [HL.out]; rintro e w1 ⟨v, rfl, hR, hb⟩; obtain ⟨A, c, rfl, -, hC⟩ := Kd.R_reads hR; clear hR; (obtain ⟨ad, rfl, hc0⟩ := at_int hC pre.length (by simp [ni])); have hmx := C_max hC; rw [len_ni] at hC; rw [show (ni (pre ++ [last])).length = pre.length + 1 by simp [ni]] at hmx ⊢; (have hc : w1.cell? (ad.add pre.length) = some (.int .i64 last) := by rw [hc0]; simp [ni]); clear hc0)
        | (go_at_call 47; refine (Super_calls (T.later hb) last).mono ?_; rw [HS.out]; rintro e w2 ⟨rfl, hb2⟩))
      go_ret
      exact ⟨by rw [hs.out]; rfl, hb.trans (hb2.mono hb.size)⟩
    | some k =>
      rw [hsup] at hs
      have HS := Lib.hid hsup
      clear hsup
      go_enter Try.func52, Try.ntmps52
      go_wp2_with (first
        | (go_at_call 50; refine (Line_calls T i).mono ?_; rw [HL.out]; rintro e w1 ⟨v, rfl, hR, hb⟩; obtain ⟨A, c, rfl, -, hC⟩ := Kd.R_reads hR; clear hR; (obtain ⟨ad, rfl, hc0⟩ := at_int hC pre.length (by simp [ni])); have hmx := C_max hC; rw [len_ni] at hC; rw [show (ni (pre ++ [last])).length = pre.length + 1 by simp [ni]] at hmx ⊢; (have hc : w1.cell? (ad.add pre.length) = some (.int .i64 last) := by rw [hc0]; simp [ni]); clear hc0)
        | (go_at_call 47; refine (Super_calls (T.later hb) last).mono ?_; rw [HS.out]; rintro e w2 ⟨rfl, hb2⟩))
      go_ret
      exact ⟨by rw [hs.out]; rfl, hb.trans (hb2.mono hb.size)⟩

/-- is a type basic -/
def basicB (s : ByteArray) : Bool := s.toList == [105, 110, 116] || (s.toList == [98, 111, 111, 108, 101, 97, 110] || s.toList == [105, 110, 116, 91, 93])

theorem Basic_calls (s : ByteArray) (w : World) :
    Calls Try.prog 18 #[.string s] w fun e w' => e = .returned (.bool (basicB s)) ∧ w = w' := by
  go_enter Try.func18, Try.ntmps18
  go_wp2
  all_goals (go_ret; exact ⟨ret_bool (by unfold basicB; simp [*, Bool.or_assoc]), rfl⟩)

/-- the class of a known type -/
def kclass (xs : List S124) (s : ByteArray) : Option Nat :=
  if basicB s = true then none else
  match fnd xs s with
  | none => none
  | some k => if (rd_T124 xs k).f1.f0 = true then none else some k

theorem KClass_calls {w : World} {tb : Nat} {xs : List S124} {m : Int} (T : Tab w tb xs m) (s : ByteArray) (hs : s.size ≤ maxLen) :
    Calls Try.prog 16 #[.pointer (some ⟨tb, 0, none⟩), .string s] w fun e w' => e = .returned (optV (kclass xs s)) ∧ Below w.heap.size w w' := by
  have HN := Lib.hid hs
  cases hf : fnd xs s with
  | none =>
    have HF := Lib.hid hf
    have HE := Lib.hid (show kclass xs s = none by unfold kclass; rw [hf]; split <;> rfl)
    clear hf hs
    go_enter Try.func16, Try.ntmps16
    go_wp2_with (go_at_call 61; refine (Find_calls T _ HN.out).mono ?_; rintro e w2 ⟨rfl, rfl⟩; rw [HF.out])
    go_ret2
    exact ⟨by rw [HE.out]; rfl, Below.refl _ _⟩
  | some k =>
    have hk := fnd_lt hf
    have hk0 : (0 : Int) ≤ (k : Int) := by omega
    have hk1 : (k : Int) < xs.length := by omega
    have HF := Lib.hid hf
    clear hs hk
    cases hb : basicB s
    · have HE := Lib.hid (show kclass xs s = if (rd_T124 xs k).f1.f0 = true then none else some k by unfold kclass; rw [hf, hb]; rfl)
      clear hf
      have HB := Lib.hid hb
      clear hb
      cases hm : (rd_T124 xs k).f1.f0
      all_goals
        go_enter Try.func16, Try.ntmps16
        go_wp2_with (first
          | (go_at_call 61; refine (Find_calls T _ HN.out).mono ?_; rintro e w2 ⟨rfl, rfl⟩; rw [HF.out])
          | (go_at_call 18; refine (Basic_calls s _).mono ?_; rintro e w2 ⟨rfl, rfl⟩; rw [HB.out])
          | (go_at_call 62; refine (At_in T k hk0 hk1).mono ?_; rintro e w1 ⟨A6, c6, A7, c7, A10, c10, rfl, hK, hb⟩))
        go_ret2
        exact ⟨by rw [HE.out, hm]; rfl, hb.alloc hb.size _⟩
    · have HE := Lib.hid (show kclass xs s = none by unfold kclass; rw [if_pos hb])
      clear hf
      have HB := Lib.hid hb
      clear hb
      go_enter Try.func16, Try.ntmps16
      go_wp2_with (first
          | (go_at_call 61; refine (Find_calls T _ HN.out).mono ?_; rintro e w2 ⟨rfl, rfl⟩; rw [HF.out])
          | (go_at_call 18; refine (Basic_calls s _).mono ?_; rintro e w2 ⟨rfl, rfl⟩; rw [HB.out]))
      go_ret2
      exact ⟨by rw [HE.out]; rfl, Below.refl _ _⟩

def knownB (xs : List S124) (s : ByteArray) : Bool := (kclass xs s).isSome || basicB s

theorem Known_calls {w : World} {tb : Nat} {xs : List S124} {m : Int} (T : Tab w tb xs m) (s : ByteArray) (hs : s.size ≤ maxLen) :
    Calls Try.prog 20 #[.pointer (some ⟨tb, 0, none⟩), .string s] w fun e w' => e = .returned (.bool (knownB xs s)) ∧ Below w.heap.size w w' := by
  have HN := Lib.hid hs
  clear hs
  cases hc : kclass xs s
  all_goals
    have HC := Lib.hid hc
    have HE := Lib.hid (show knownB xs s = _ by unfold knownB; rw [hc])
    clear hc
    go_enter Try.func20, Try.ntmps20
    go_wp2_with (first
      | (go_at_call 16; refine (KClass_calls T s HN.out).mono ?_; rw [HC.out]; rintro e w1 ⟨rfl, hb⟩)
      | (go_at_call 18; refine (Basic_calls s _).mono ?_; rintro e w2 ⟨rfl, rfl⟩))
    go_ret
    exact ⟨by rw [HE.out]; rfl, hb⟩

def fitsB (xs : List S124) (a b : ByteArray) : Bool :=
  match kclass xs a with
  | none => basicB a && a.toList == b.toList
  | some i => match kclass xs b with
    | none => false
    | some k => belowB xs i k

theorem Fits_calls {w : World} {tb : Nat} {xs : List S124} {m : Int} (T : Tab w tb xs m) (a b : ByteArray) (ha : a.size ≤ maxLen) (hb : b.size ≤ maxLen) :
    Calls Try.prog 22 #[.pointer (some ⟨tb, 0, none⟩), .string a, .string b] w fun e w' => e = .returned (.bool (fitsB xs a b)) ∧ Below w.heap.size w w' := by
  have HA := Lib.hid ha
  have HBB := Lib.hid hb
  clear ha hb
  cases hc : kclass xs a with
  | none =>
    have HC := Lib.hid hc
    cases hbs : basicB a
    all_goals
      have HE := Lib.hid (show fitsB xs a b = _ by unfold fitsB; rw [hc, hbs])
      have HS := Lib.hid hbs
      clear hbs
      go_enter Try.func22, Try.ntmps22
      go_wp2_with (first
        | (go_at_call 16; refine (KClass_calls T a HA.out).mono ?_; rw [HC.out]; rintro e w1 ⟨rfl, hb⟩)
        | (go_at_call 18; refine (Basic_calls a _).mono ?_; rintro e w2 ⟨rfl, rfl⟩; rw [HS.out]))
      go_ret
      exact ⟨by rw [HE.out]; rfl, hb⟩
  | some i =>
    have HC := Lib.hid hc
    cases hd : kclass xs b with
    | none =>
      have HE := Lib.hid (show fitsB xs a b = false by unfold fitsB; rw [hc, hd])
      have HD := Lib.hid hd
      clear hd hc
      go_enter Try.func22, Try.ntmps22
      go_wp2_with fail
      refine (KClass_calls T a HA.out).mono ?_
      rw [HC.out]
      rintro e w1 ⟨rfl, hb⟩
      go_wp2_with fail
      refine (KClass_calls (T.later hb) b HBB.out).mono ?_
      rw [HD.out]
      rintro e w2 ⟨rfl, hb2⟩
      go_wp2
      go_ret
      exact ⟨by rw [HE.out]; rfl, hb.trans (hb2.mono hb.size)⟩
    | some k =>
      have HE := Lib.hid (show fitsB xs a b = belowB xs i k by unfold fitsB; rw [hc, hd])
      have HD := Lib.hid hd
      clear hd hc
      go_enter Try.func22, Try.ntmps22
      go_wp2_with fail
      refine (KClass_calls T a HA.out).mono ?_
      rw [HC.out]
      rintro e w1 ⟨rfl, hb⟩
      go_wp2_with fail
      refine (KClass_calls (T.later hb) b HBB.out).mono ?_
      rw [HD.out]
      rintro e w2 ⟨rfl, hb2⟩
      have hb3 := hb.trans (hb2.mono hb.size)
      go_wp2_with (go_at_call 26; refine (Below_calls (T.later hb3) _ _).mono ?_; rintro e w4 ⟨rfl, hb4⟩)
      go_ret
      exact ⟨by rw [HE.out]; rfl, hb3.trans (hb4.mono hb3.size)⟩
end Go.Proofs.Ytoakelgcbbbieaa
