/- What a block of each type of the program holds, as a value of a plain type: the kinds of the program and of the document. -/
import Derived.Test.YtoakelgcbbbieaaWWords
import Derived.Test.YtoakelgcbbbieaaWN
import Derived.Test.YtoakelgcbbbieaaWLast
import Derived.Test.YtoakelgcbbbieaaWMore
import Derived.WalkKit
namespace Go.Proofs.Ytoakelgcbbbieaa
open Go.RowKit Go.Proofs.YtoakelgcbbbieaaW.PrintWords Go.Proofs.YtoakelgcbbbieaaW.PrintLast Go.Proofs.YtoakelgcbbbieaaW.PrintMore
set_option linter.unusedVariables false
set_option linter.unusedSimpArgs false
/-! #### struct type 55 -/
structure S55 where
  f0 : ByteArray
  f1 : Int
def z55 : S55 := ⟨(⟨#[]⟩ : ByteArray), (0 : Int)⟩
def k55 : Kd S55 := Kd.iso (Kd.pair Kd.string (Kd.int .i64)) (fun x : S55 => (x.f0, x.f1))
theorem k55_open {w : World} {x : S55} {cs : List Value} (h : k55.K w x cs) : cs = [.string x.f0, .int .i64 x.f1] := by
  obtain ⟨_, _, rfl, rfl, rfl⟩ := h
  exact rfl
theorem k55_openM {w : World} {base : Nat} {ok : Nat → Prop} {x : S55} {cs : List Value} (h : k55.M w base ok x cs) : cs = [.string x.f0, .int .i64 x.f1] := by
  obtain ⟨_, _, rfl, rfl, rfl⟩ := h
  exact rfl
theorem k55_mk (w : World) (x : S55)  : k55.K w x [.string x.f0, .int .i64 x.f1] := ⟨[.string x.f0], [.int .i64 x.f1], rfl, rfl, rfl⟩
theorem k55_mkM (w : World) (base : Nat) (ok : Nat → Prop) (x : S55)  : k55.M w base ok x [.string x.f0, .int .i64 x.f1] := ⟨[.string x.f0], [.int .i64 x.f1], rfl, rfl, rfl⟩
theorem k55_mkF (W : World) (ok : Nat → Prop) (x : S55) : Kd.FK k55 W ok x [.string x.f0, .int .i64 x.f1] := fun W2 _ => k55_mk W2 x
def rd_T55 (xs : List S55) (i : Int) : S55 := xs.getD i.toNat z55
theorem at_T55 {w : World} {A : Option Addr} {n : Nat} {xs : List S55} (h : Kd.C k55 w A n xs) (i : Int) (h0 : 0 ≤ i) (h1 : i < n) : ∃ ad , A = some ad ∧ w.cell? (ad.add (i.toNat * 2)) = some (.string (rd_T55 xs i).f0) ∧ w.cell? ⟨(ad.add (i.toNat * 2)).block, (ad.add (i.toNat * 2)).off + 1, none⟩ = some (.int .i64 (rd_T55 xs i).f1) := by
  obtain ⟨ad, c, e, _, hK, hc0⟩ := Kd.C_get h z55 i h0 h1
  have hc : ∀ j u, c[j]? = some u → w.cell? (ad.add (i.toNat * 2 + j)) = some u := hc0
  obtain rfl := k55_open hK
  exact ⟨ad, e, hc 0 _ rfl, by rw [← add_field _ _ 1 (by omega)]; exact hc 1 _ rfl⟩

/-! #### struct type 193 -/
structure S193 where
  f0 : S55
  f1 : S55
  f2 : Int
  f3 : Int
def z193 : S193 := ⟨z55, z55, (0 : Int), (0 : Int)⟩
def k193 : Kd S193 := Kd.iso (Kd.pair k55 (Kd.pair k55 (Kd.pair (Kd.int .i64) (Kd.int .i64)))) (fun x : S193 => (x.f0, x.f1, x.f2, x.f3))
theorem k193_open {w : World} {x : S193} {cs : List Value} (h : k193.K w x cs) : cs = [.string x.f0.f0, .int .i64 x.f0.f1, .string x.f1.f0, .int .i64 x.f1.f1, .int .i64 x.f2, .int .i64 x.f3] := by
  obtain ⟨_, _, rfl, s0, ⟨_, _, rfl, s2, ⟨_, _, rfl, rfl, rfl⟩⟩⟩ := h
  obtain rfl := k55_open s0
  obtain rfl := k55_open s2
  exact rfl
theorem k193_openM {w : World} {base : Nat} {ok : Nat → Prop} {x : S193} {cs : List Value} (h : k193.M w base ok x cs) : cs = [.string x.f0.f0, .int .i64 x.f0.f1, .string x.f1.f0, .int .i64 x.f1.f1, .int .i64 x.f2, .int .i64 x.f3] := by
  obtain ⟨_, _, rfl, s0, ⟨_, _, rfl, s2, ⟨_, _, rfl, rfl, rfl⟩⟩⟩ := h
  obtain rfl := k55_openM s0
  obtain rfl := k55_openM s2
  exact rfl
theorem k193_mk (w : World) (x : S193)  : k193.K w x [.string x.f0.f0, .int .i64 x.f0.f1, .string x.f1.f0, .int .i64 x.f1.f1, .int .i64 x.f2, .int .i64 x.f3] := ⟨[.string x.f0.f0, .int .i64 x.f0.f1], [.string x.f1.f0, .int .i64 x.f1.f1, .int .i64 x.f2, .int .i64 x.f3], rfl, (k55_mk w x.f0 ), ⟨[.string x.f1.f0, .int .i64 x.f1.f1], [.int .i64 x.f2, .int .i64 x.f3], rfl, (k55_mk w x.f1 ), ⟨[.int .i64 x.f2], [.int .i64 x.f3], rfl, rfl, rfl⟩⟩⟩
theorem k193_mkM (w : World) (base : Nat) (ok : Nat → Prop) (x : S193)  : k193.M w base ok x [.string x.f0.f0, .int .i64 x.f0.f1, .string x.f1.f0, .int .i64 x.f1.f1, .int .i64 x.f2, .int .i64 x.f3] := ⟨[.string x.f0.f0, .int .i64 x.f0.f1], [.string x.f1.f0, .int .i64 x.f1.f1, .int .i64 x.f2, .int .i64 x.f3], rfl, (k55_mkM w base ok x.f0 ), ⟨[.string x.f1.f0, .int .i64 x.f1.f1], [.int .i64 x.f2, .int .i64 x.f3], rfl, (k55_mkM w base ok x.f1 ), ⟨[.int .i64 x.f2], [.int .i64 x.f3], rfl, rfl, rfl⟩⟩⟩
theorem k193_mkF (W : World) (ok : Nat → Prop) (x : S193) : Kd.FK k193 W ok x [.string x.f0.f0, .int .i64 x.f0.f1, .string x.f1.f0, .int .i64 x.f1.f1, .int .i64 x.f2, .int .i64 x.f3] := fun W2 _ => k193_mk W2 x
def rd_T193 (xs : List S193) (i : Int) : S193 := xs.getD i.toNat z193
theorem at_T193 {w : World} {A : Option Addr} {n : Nat} {xs : List S193} (h : Kd.C k193 w A n xs) (i : Int) (h0 : 0 ≤ i) (h1 : i < n) : ∃ ad , A = some ad ∧ w.cell? (ad.add (i.toNat * 6)) = some (.string (rd_T193 xs i).f0.f0) ∧ w.cell? ⟨(ad.add (i.toNat * 6)).block, (ad.add (i.toNat * 6)).off + 1, none⟩ = some (.int .i64 (rd_T193 xs i).f0.f1) ∧ w.cell? ⟨(ad.add (i.toNat * 6)).block, (ad.add (i.toNat * 6)).off + 2, none⟩ = some (.string (rd_T193 xs i).f1.f0) ∧ w.cell? ⟨(ad.add (i.toNat * 6)).block, (ad.add (i.toNat * 6)).off + 3, none⟩ = some (.int .i64 (rd_T193 xs i).f1.f1) ∧ w.cell? ⟨(ad.add (i.toNat * 6)).block, (ad.add (i.toNat * 6)).off + 4, none⟩ = some (.int .i64 (rd_T193 xs i).f2) ∧ w.cell? ⟨(ad.add (i.toNat * 6)).block, (ad.add (i.toNat * 6)).off + 5, none⟩ = some (.int .i64 (rd_T193 xs i).f3) := by
  obtain ⟨ad, c, e, _, hK, hc0⟩ := Kd.C_get h z193 i h0 h1
  have hc : ∀ j u, c[j]? = some u → w.cell? (ad.add (i.toNat * 6 + j)) = some u := hc0
  obtain rfl := k193_open hK
  exact ⟨ad, e, hc 0 _ rfl, by rw [← add_field _ _ 1 (by omega)]; exact hc 1 _ rfl, by rw [← add_field _ _ 2 (by omega)]; exact hc 2 _ rfl, by rw [← add_field _ _ 3 (by omega)]; exact hc 3 _ rfl, by rw [← add_field _ _ 4 (by omega)]; exact hc 4 _ rfl, by rw [← add_field _ _ 5 (by omega)]; exact hc 5 _ rfl⟩

def rd_L5 (xs : List (List S193)) (i : Int) : (List S193) := xs.getD i.toNat ([] : List S193)
theorem at_L5 {w : World} {A : Option Addr} {n : Nat} {xs : List (List S193)} (h : Kd.C (Kd.slice 193 k193) w A n xs) (i : Int) (h0 : 0 ≤ i) (h1 : i < n) : ∃ ad A0 c0, A = some ad ∧ w.cell? (ad.add i.toNat) = some (.slice A0 (rd_L5 xs i).length c0) ∧ (rd_L5 xs i).length ≤ c0 ∧ k193.C w A0 (rd_L5 xs i).length (rd_L5 xs i) := by
  obtain ⟨ad, c, e, _, hK, hc0⟩ := Kd.C_get h ([] : List S193) i h0 h1
  have hc : ∀ j u, c[j]? = some u → w.cell? (ad.add (i.toNat * 1 + j)) = some u := hc0
  obtain ⟨A0, c0, rfl, l0, g0⟩ := hK
  exact ⟨ad, A0, c0, e, by have hq := hc 0 _ rfl; rwa [Nat.mul_one, Nat.add_zero] at hq, l0, g0⟩

/-! #### struct type 58, nested in itself -/
structure S58 where
  f0 : Int
  f1 : S55
  f2 : Int
  f3 : Int
  f4 : Int
  f5 : (List S58)
def z58 : S58 := ⟨(0 : Int), z55, (0 : Int), (0 : Int), (0 : Int), ([] : List S58)⟩
def F58 (d : Kd S58) : Kd S58 := Kd.iso (Kd.pair (Kd.int .i64) (Kd.pair k55 (Kd.pair (Kd.int .i64) (Kd.pair (Kd.int .i64) (Kd.pair (Kd.int .i64) (Kd.slice 58 d)))))) (fun x : S58 => (x.f0, x.f1, x.f2, x.f3, x.f4, x.f5))
theorem mono58 : Kd.Mono F58 := Kd.mono_iso _ (Kd.mono_pair (Kd.mono_const _) (Kd.mono_pair (Kd.mono_const _) (Kd.mono_pair (Kd.mono_const _) (Kd.mono_pair (Kd.mono_const _) (Kd.mono_pair (Kd.mono_const _) (Kd.mono_slice 58 Kd.mono_id))))))
theorem sub58 : Kd.Sub F58 [58] := Kd.sub_iso _ (Kd.sub_pair (Kd.sub_const _ (by decide)) (Kd.sub_pair (Kd.sub_const _ (by decide)) (Kd.sub_pair (Kd.sub_const _ (by decide)) (Kd.sub_pair (Kd.sub_const _ (by decide)) (Kd.sub_pair (Kd.sub_const _ (by decide)) (Kd.sub_slice 58 (by decide) Kd.sub_id))))))
theorem sz58 : ∀ n, (Kd.upto F58 7 [58] n).sz = 7 := Kd.upto_sz (fun _ => rfl)
def k58 : Kd S58 := Kd.fix F58 7 [58] sz58 (Kd.upto_E sub58)
theorem k58_open {w : World} {x : S58} {cs : List Value} (h : k58.K w x cs) : ∃ A6 c6, cs = [.int .i64 x.f0, .string x.f1.f0, .int .i64 x.f1.f1, .int .i64 x.f2, .int .i64 x.f3, .int .i64 x.f4, .slice A6 x.f5.length c6] ∧ x.f5.length ≤ c6 ∧ k58.C w A6 x.f5.length x.f5 := by
  obtain ⟨n, h⟩ := h
  cases n with
  | zero => exact h.elim
  | succ n =>
    obtain ⟨_, _, rfl, rfl, ⟨_, _, rfl, s1, ⟨_, _, rfl, rfl, ⟨_, _, rfl, rfl, ⟨_, _, rfl, rfl, ⟨A6, c6, rfl, l6, g6⟩⟩⟩⟩⟩⟩ := h
    obtain rfl := k55_open s1
    exact ⟨A6, c6, rfl, l6, Kd.fix_C g6⟩
theorem k58_openM {w : World} {base : Nat} {ok : Nat → Prop} {x : S58} {cs : List Value} (h : k58.M w base ok x cs) : ∃ v6, cs = [.int .i64 x.f0, .string x.f1.f0, .int .i64 x.f1.f1, .int .i64 x.f2, .int .i64 x.f3, .int .i64 x.f4, v6] ∧ k58.R 58 w base ok v6 x.f5 := by
  obtain ⟨n, h⟩ := h
  cases n with
  | zero => exact h.elim
  | succ n =>
    obtain ⟨_, _, rfl, rfl, ⟨_, _, rfl, s1, ⟨_, _, rfl, rfl, ⟨_, _, rfl, rfl, ⟨_, _, rfl, rfl, ⟨v6, rfl, g6⟩⟩⟩⟩⟩⟩ := h
    obtain rfl := k55_openM s1
    exact ⟨v6, rfl, Kd.fix_R g6⟩
theorem k58_mk (w : World) (x : S58) {A6 : Option Addr} {c6 : Nat} (l6 : x.f5.length ≤ c6) (g6 : k58.C w A6 x.f5.length x.f5) : k58.K w x [.int .i64 x.f0, .string x.f1.f0, .int .i64 x.f1.f1, .int .i64 x.f2, .int .i64 x.f3, .int .i64 x.f4, .slice A6 x.f5.length c6] := by
  obtain ⟨n6, q6⟩ := Kd.fix_C_back mono58 g6
  have r6 := Kd.upto_C_le mono58 sz58 (show n6 ≤ n6 by omega) q6
  exact ⟨n6 + 1, ⟨[.int .i64 x.f0], [.string x.f1.f0, .int .i64 x.f1.f1, .int .i64 x.f2, .int .i64 x.f3, .int .i64 x.f4, .slice A6 x.f5.length c6], rfl, rfl, ⟨[.string x.f1.f0, .int .i64 x.f1.f1], [.int .i64 x.f2, .int .i64 x.f3, .int .i64 x.f4, .slice A6 x.f5.length c6], rfl, (k55_mk w x.f1 ), ⟨[.int .i64 x.f2], [.int .i64 x.f3, .int .i64 x.f4, .slice A6 x.f5.length c6], rfl, rfl, ⟨[.int .i64 x.f3], [.int .i64 x.f4, .slice A6 x.f5.length c6], rfl, rfl, ⟨[.int .i64 x.f4], [.slice A6 x.f5.length c6], rfl, rfl, ⟨A6, c6, rfl, l6, r6⟩⟩⟩⟩⟩⟩⟩
theorem k58_mkM (w : World) (base : Nat) (ok : Nat → Prop) (x : S58) {v6 : Value} (g6 : k58.R 58 w base ok v6 x.f5) : k58.M w base ok x [.int .i64 x.f0, .string x.f1.f0, .int .i64 x.f1.f1, .int .i64 x.f2, .int .i64 x.f3, .int .i64 x.f4, v6] := by
  obtain ⟨n6, q6⟩ := Kd.fix_R_back mono58 g6
  have r6 := Kd.upto_R_le mono58 sz58 (show n6 ≤ n6 by omega) q6
  exact ⟨n6 + 1, ⟨[.int .i64 x.f0], [.string x.f1.f0, .int .i64 x.f1.f1, .int .i64 x.f2, .int .i64 x.f3, .int .i64 x.f4, v6], rfl, rfl, ⟨[.string x.f1.f0, .int .i64 x.f1.f1], [.int .i64 x.f2, .int .i64 x.f3, .int .i64 x.f4, v6], rfl, (k55_mkM w base ok x.f1 ), ⟨[.int .i64 x.f2], [.int .i64 x.f3, .int .i64 x.f4, v6], rfl, rfl, ⟨[.int .i64 x.f3], [.int .i64 x.f4, v6], rfl, rfl, ⟨[.int .i64 x.f4], [v6], rfl, rfl, ⟨v6, rfl, r6⟩⟩⟩⟩⟩⟩⟩
theorem k58_openF {W : World} {ok : Nat → Prop} {x : S58} {cs : List Value} (h : Kd.FK k58 W ok x cs) : ∃ A6 c6, cs = [.int .i64 x.f0, .string x.f1.f0, .int .i64 x.f1.f1, .int .i64 x.f2, .int .i64 x.f3, .int .i64 x.f4, .slice A6 x.f5.length c6] ∧ x.f5.length ≤ c6 ∧ Kd.F k58 W ok A6 x.f5.length x.f5 := by
  obtain ⟨A6, c6, rfl, l6, _⟩ := k58_open (Kd.FK_now h)
  exact ⟨A6, c6, rfl, l6, (fun W' hW => by obtain ⟨A6_, c6_, he, l6_, g6_⟩ := k58_open (h W' hW); injection (Option.some.inj (show some (Value.slice A6 x.f5.length c6) = some (Value.slice A6_ x.f5.length c6_) from congrArg (fun l => l[6]?) he)) with ha_ _ _; rw [ha_]; exact g6_)⟩
theorem k58_mkF (W : World) (ok : Nat → Prop) (x : S58) {A6 : Option Addr} {c6 : Nat} (l6 : x.f5.length ≤ c6) (g6 : Kd.F k58 W ok A6 x.f5.length x.f5) : Kd.FK k58 W ok x [.int .i64 x.f0, .string x.f1.f0, .int .i64 x.f1.f1, .int .i64 x.f2, .int .i64 x.f3, .int .i64 x.f4, .slice A6 x.f5.length c6] := fun W2 hW => k58_mk W2 x l6 (g6 W2 hW)
def rd_T58 (xs : List S58) (i : Int) : S58 := xs.getD i.toNat z58
theorem at_T58 {w : World} {A : Option Addr} {n : Nat} {xs : List S58} (h : Kd.C k58 w A n xs) (i : Int) (h0 : 0 ≤ i) (h1 : i < n) : ∃ ad A6 c6, A = some ad ∧ w.cell? (ad.add (i.toNat * 7)) = some (.int .i64 (rd_T58 xs i).f0) ∧ w.cell? ⟨(ad.add (i.toNat * 7)).block, (ad.add (i.toNat * 7)).off + 1, none⟩ = some (.string (rd_T58 xs i).f1.f0) ∧ w.cell? ⟨(ad.add (i.toNat * 7)).block, (ad.add (i.toNat * 7)).off + 2, none⟩ = some (.int .i64 (rd_T58 xs i).f1.f1) ∧ w.cell? ⟨(ad.add (i.toNat * 7)).block, (ad.add (i.toNat * 7)).off + 3, none⟩ = some (.int .i64 (rd_T58 xs i).f2) ∧ w.cell? ⟨(ad.add (i.toNat * 7)).block, (ad.add (i.toNat * 7)).off + 4, none⟩ = some (.int .i64 (rd_T58 xs i).f3) ∧ w.cell? ⟨(ad.add (i.toNat * 7)).block, (ad.add (i.toNat * 7)).off + 5, none⟩ = some (.int .i64 (rd_T58 xs i).f4) ∧ w.cell? ⟨(ad.add (i.toNat * 7)).block, (ad.add (i.toNat * 7)).off + 6, none⟩ = some (.slice A6 (rd_T58 xs i).f5.length c6) ∧ (rd_T58 xs i).f5.length ≤ c6 ∧ k58.C w A6 (rd_T58 xs i).f5.length (rd_T58 xs i).f5 := by
  obtain ⟨ad, c, e, _, hK, hc0⟩ := Kd.C_get h z58 i h0 h1
  have hc : ∀ j u, c[j]? = some u → w.cell? (ad.add (i.toNat * 7 + j)) = some u := hc0
  obtain ⟨A6, c6, rfl, l6, g6⟩ := k58_open hK
  exact ⟨ad, A6, c6, e, hc 0 _ rfl, by rw [← add_field _ _ 1 (by omega)]; exact hc 1 _ rfl, by rw [← add_field _ _ 2 (by omega)]; exact hc 2 _ rfl, by rw [← add_field _ _ 3 (by omega)]; exact hc 3 _ rfl, by rw [← add_field _ _ 4 (by omega)]; exact hc 4 _ rfl, by rw [← add_field _ _ 5 (by omega)]; exact hc 5 _ rfl, by rw [← add_field _ _ 6 (by omega)]; exact hc 6 _ rfl, l6, g6⟩

def rd_L7 (xs : List (List S58)) (i : Int) : (List S58) := xs.getD i.toNat ([] : List S58)
theorem at_L7 {w : World} {A : Option Addr} {n : Nat} {xs : List (List S58)} (h : Kd.C (Kd.slice 58 k58) w A n xs) (i : Int) (h0 : 0 ≤ i) (h1 : i < n) : ∃ ad A0 c0, A = some ad ∧ w.cell? (ad.add i.toNat) = some (.slice A0 (rd_L7 xs i).length c0) ∧ (rd_L7 xs i).length ≤ c0 ∧ k58.C w A0 (rd_L7 xs i).length (rd_L7 xs i) := by
  obtain ⟨ad, c, e, _, hK, hc0⟩ := Kd.C_get h ([] : List S58) i h0 h1
  have hc : ∀ j u, c[j]? = some u → w.cell? (ad.add (i.toNat * 1 + j)) = some u := hc0
  obtain ⟨A0, c0, rfl, l0, g0⟩ := hK
  exact ⟨ad, A0, c0, e, by have hq := hc 0 _ rfl; rwa [Nat.mul_one, Nat.add_zero] at hq, l0, g0⟩

/-! #### struct type 151, nested in itself -/
structure S151 where
  f0 : Int
  f1 : S55
  f2 : Int
  f3 : Int
  f4 : (List S58)
  f5 : (List S151)
def z151 : S151 := ⟨(0 : Int), z55, (0 : Int), (0 : Int), ([] : List S58), ([] : List S151)⟩
def F151 (d : Kd S151) : Kd S151 := Kd.iso (Kd.pair (Kd.int .i64) (Kd.pair k55 (Kd.pair (Kd.int .i64) (Kd.pair (Kd.int .i64) (Kd.pair (Kd.slice 58 k58) (Kd.slice 151 d)))))) (fun x : S151 => (x.f0, x.f1, x.f2, x.f3, x.f4, x.f5))
theorem mono151 : Kd.Mono F151 := Kd.mono_iso _ (Kd.mono_pair (Kd.mono_const _) (Kd.mono_pair (Kd.mono_const _) (Kd.mono_pair (Kd.mono_const _) (Kd.mono_pair (Kd.mono_const _) (Kd.mono_pair (Kd.mono_const _) (Kd.mono_slice 151 Kd.mono_id))))))
theorem sub151 : Kd.Sub F151 [58, 151] := Kd.sub_iso _ (Kd.sub_pair (Kd.sub_const _ (by decide)) (Kd.sub_pair (Kd.sub_const _ (by decide)) (Kd.sub_pair (Kd.sub_const _ (by decide)) (Kd.sub_pair (Kd.sub_const _ (by decide)) (Kd.sub_pair (Kd.sub_const _ (by decide)) (Kd.sub_slice 151 (by decide) Kd.sub_id))))))
theorem sz151 : ∀ n, (Kd.upto F151 7 [58, 151] n).sz = 7 := Kd.upto_sz (fun _ => rfl)
def k151 : Kd S151 := Kd.fix F151 7 [58, 151] sz151 (Kd.upto_E sub151)
theorem k151_open {w : World} {x : S151} {cs : List Value} (h : k151.K w x cs) : ∃ A5 c5 A6 c6, cs = [.int .i64 x.f0, .string x.f1.f0, .int .i64 x.f1.f1, .int .i64 x.f2, .int .i64 x.f3, .slice A5 x.f4.length c5, .slice A6 x.f5.length c6] ∧ x.f4.length ≤ c5 ∧ k58.C w A5 x.f4.length x.f4 ∧ x.f5.length ≤ c6 ∧ k151.C w A6 x.f5.length x.f5 := by
  obtain ⟨n, h⟩ := h
  cases n with
  | zero => exact h.elim
  | succ n =>
    obtain ⟨_, _, rfl, rfl, ⟨_, _, rfl, s1, ⟨_, _, rfl, rfl, ⟨_, _, rfl, rfl, ⟨_, _, rfl, ⟨A5, c5, rfl, l5, g5⟩, ⟨A6, c6, rfl, l6, g6⟩⟩⟩⟩⟩⟩ := h
    obtain rfl := k55_open s1
    exact ⟨A5, c5, A6, c6, rfl, l5, g5, l6, Kd.fix_C g6⟩
theorem k151_openM {w : World} {base : Nat} {ok : Nat → Prop} {x : S151} {cs : List Value} (h : k151.M w base ok x cs) : ∃ v5 v6, cs = [.int .i64 x.f0, .string x.f1.f0, .int .i64 x.f1.f1, .int .i64 x.f2, .int .i64 x.f3, v5, v6] ∧ k58.R 58 w base ok v5 x.f4 ∧ k151.R 151 w base ok v6 x.f5 := by
  obtain ⟨n, h⟩ := h
  cases n with
  | zero => exact h.elim
  | succ n =>
    obtain ⟨_, _, rfl, rfl, ⟨_, _, rfl, s1, ⟨_, _, rfl, rfl, ⟨_, _, rfl, rfl, ⟨_, _, rfl, ⟨v5, rfl, g5⟩, ⟨v6, rfl, g6⟩⟩⟩⟩⟩⟩ := h
    obtain rfl := k55_openM s1
    exact ⟨v5, v6, rfl, g5, Kd.fix_R g6⟩
theorem k151_mk (w : World) (x : S151) {A5 : Option Addr} {c5 : Nat} (l5 : x.f4.length ≤ c5) (g5 : k58.C w A5 x.f4.length x.f4) {A6 : Option Addr} {c6 : Nat} (l6 : x.f5.length ≤ c6) (g6 : k151.C w A6 x.f5.length x.f5) : k151.K w x [.int .i64 x.f0, .string x.f1.f0, .int .i64 x.f1.f1, .int .i64 x.f2, .int .i64 x.f3, .slice A5 x.f4.length c5, .slice A6 x.f5.length c6] := by
  obtain ⟨n6, q6⟩ := Kd.fix_C_back mono151 g6
  have r6 := Kd.upto_C_le mono151 sz151 (show n6 ≤ n6 by omega) q6
  exact ⟨n6 + 1, ⟨[.int .i64 x.f0], [.string x.f1.f0, .int .i64 x.f1.f1, .int .i64 x.f2, .int .i64 x.f3, .slice A5 x.f4.length c5, .slice A6 x.f5.length c6], rfl, rfl, ⟨[.string x.f1.f0, .int .i64 x.f1.f1], [.int .i64 x.f2, .int .i64 x.f3, .slice A5 x.f4.length c5, .slice A6 x.f5.length c6], rfl, (k55_mk w x.f1 ), ⟨[.int .i64 x.f2], [.int .i64 x.f3, .slice A5 x.f4.length c5, .slice A6 x.f5.length c6], rfl, rfl, ⟨[.int .i64 x.f3], [.slice A5 x.f4.length c5, .slice A6 x.f5.length c6], rfl, rfl, ⟨[.slice A5 x.f4.length c5], [.slice A6 x.f5.length c6], rfl, ⟨A5, c5, rfl, l5, g5⟩, ⟨A6, c6, rfl, l6, r6⟩⟩⟩⟩⟩⟩⟩
theorem k151_mkM (w : World) (base : Nat) (ok : Nat → Prop) (x : S151) {v5 : Value} (g5 : k58.R 58 w base ok v5 x.f4) {v6 : Value} (g6 : k151.R 151 w base ok v6 x.f5) : k151.M w base ok x [.int .i64 x.f0, .string x.f1.f0, .int .i64 x.f1.f1, .int .i64 x.f2, .int .i64 x.f3, v5, v6] := by
  obtain ⟨n6, q6⟩ := Kd.fix_R_back mono151 g6
  have r6 := Kd.upto_R_le mono151 sz151 (show n6 ≤ n6 by omega) q6
  exact ⟨n6 + 1, ⟨[.int .i64 x.f0], [.string x.f1.f0, .int .i64 x.f1.f1, .int .i64 x.f2, .int .i64 x.f3, v5, v6], rfl, rfl, ⟨[.string x.f1.f0, .int .i64 x.f1.f1], [.int .i64 x.f2, .int .i64 x.f3, v5, v6], rfl, (k55_mkM w base ok x.f1 ), ⟨[.int .i64 x.f2], [.int .i64 x.f3, v5, v6], rfl, rfl, ⟨[.int .i64 x.f3], [v5, v6], rfl, rfl, ⟨[v5], [v6], rfl, ⟨v5, rfl, g5⟩, ⟨v6, rfl, r6⟩⟩⟩⟩⟩⟩⟩
theorem k151_openF {W : World} {ok : Nat → Prop} {x : S151} {cs : List Value} (h : Kd.FK k151 W ok x cs) : ∃ A5 c5 A6 c6, cs = [.int .i64 x.f0, .string x.f1.f0, .int .i64 x.f1.f1, .int .i64 x.f2, .int .i64 x.f3, .slice A5 x.f4.length c5, .slice A6 x.f5.length c6] ∧ x.f4.length ≤ c5 ∧ Kd.F k58 W ok A5 x.f4.length x.f4 ∧ x.f5.length ≤ c6 ∧ Kd.F k151 W ok A6 x.f5.length x.f5 := by
  obtain ⟨A5, c5, A6, c6, rfl, l5, _, l6, _⟩ := k151_open (Kd.FK_now h)
  exact ⟨A5, c5, A6, c6, rfl, l5, (fun W' hW => by obtain ⟨A5_, c5_, A6_, c6_, he, l5_, g5_, l6_, g6_⟩ := k151_open (h W' hW); injection (Option.some.inj (show some (Value.slice A5 x.f4.length c5) = some (Value.slice A5_ x.f4.length c5_) from congrArg (fun l => l[5]?) he)) with ha_ _ _; rw [ha_]; exact g5_), l6, (fun W' hW => by obtain ⟨A5_, c5_, A6_, c6_, he, l5_, g5_, l6_, g6_⟩ := k151_open (h W' hW); injection (Option.some.inj (show some (Value.slice A6 x.f5.length c6) = some (Value.slice A6_ x.f5.length c6_) from congrArg (fun l => l[6]?) he)) with ha_ _ _; rw [ha_]; exact g6_)⟩
theorem k151_mkF (W : World) (ok : Nat → Prop) (x : S151) {A5 : Option Addr} {c5 : Nat} (l5 : x.f4.length ≤ c5) (g5 : Kd.F k58 W ok A5 x.f4.length x.f4) {A6 : Option Addr} {c6 : Nat} (l6 : x.f5.length ≤ c6) (g6 : Kd.F k151 W ok A6 x.f5.length x.f5) : Kd.FK k151 W ok x [.int .i64 x.f0, .string x.f1.f0, .int .i64 x.f1.f1, .int .i64 x.f2, .int .i64 x.f3, .slice A5 x.f4.length c5, .slice A6 x.f5.length c6] := fun W2 hW => k151_mk W2 x l5 (g5 W2 hW) l6 (g6 W2 hW)
def rd_T151 (xs : List S151) (i : Int) : S151 := xs.getD i.toNat z151
theorem at_T151 {w : World} {A : Option Addr} {n : Nat} {xs : List S151} (h : Kd.C k151 w A n xs) (i : Int) (h0 : 0 ≤ i) (h1 : i < n) : ∃ ad A5 c5 A6 c6, A = some ad ∧ w.cell? (ad.add (i.toNat * 7)) = some (.int .i64 (rd_T151 xs i).f0) ∧ w.cell? ⟨(ad.add (i.toNat * 7)).block, (ad.add (i.toNat * 7)).off + 1, none⟩ = some (.string (rd_T151 xs i).f1.f0) ∧ w.cell? ⟨(ad.add (i.toNat * 7)).block, (ad.add (i.toNat * 7)).off + 2, none⟩ = some (.int .i64 (rd_T151 xs i).f1.f1) ∧ w.cell? ⟨(ad.add (i.toNat * 7)).block, (ad.add (i.toNat * 7)).off + 3, none⟩ = some (.int .i64 (rd_T151 xs i).f2) ∧ w.cell? ⟨(ad.add (i.toNat * 7)).block, (ad.add (i.toNat * 7)).off + 4, none⟩ = some (.int .i64 (rd_T151 xs i).f3) ∧ w.cell? ⟨(ad.add (i.toNat * 7)).block, (ad.add (i.toNat * 7)).off + 5, none⟩ = some (.slice A5 (rd_T151 xs i).f4.length c5) ∧ w.cell? ⟨(ad.add (i.toNat * 7)).block, (ad.add (i.toNat * 7)).off + 6, none⟩ = some (.slice A6 (rd_T151 xs i).f5.length c6) ∧ (rd_T151 xs i).f4.length ≤ c5 ∧ k58.C w A5 (rd_T151 xs i).f4.length (rd_T151 xs i).f4 ∧ (rd_T151 xs i).f5.length ≤ c6 ∧ k151.C w A6 (rd_T151 xs i).f5.length (rd_T151 xs i).f5 := by
  obtain ⟨ad, c, e, _, hK, hc0⟩ := Kd.C_get h z151 i h0 h1
  have hc : ∀ j u, c[j]? = some u → w.cell? (ad.add (i.toNat * 7 + j)) = some u := hc0
  obtain ⟨A5, c5, A6, c6, rfl, l5, g5, l6, g6⟩ := k151_open hK
  exact ⟨ad, A5, c5, A6, c6, e, hc 0 _ rfl, by rw [← add_field _ _ 1 (by omega)]; exact hc 1 _ rfl, by rw [← add_field _ _ 2 (by omega)]; exact hc 2 _ rfl, by rw [← add_field _ _ 3 (by omega)]; exact hc 3 _ rfl, by rw [← add_field _ _ 4 (by omega)]; exact hc 4 _ rfl, by rw [← add_field _ _ 5 (by omega)]; exact hc 5 _ rfl, by rw [← add_field _ _ 6 (by omega)]; exact hc 6 _ rfl, l5, g5, l6, g6⟩

def rd_L9 (xs : List (List S151)) (i : Int) : (List S151) := xs.getD i.toNat ([] : List S151)
theorem at_L9 {w : World} {A : Option Addr} {n : Nat} {xs : List (List S151)} (h : Kd.C (Kd.slice 151 k151) w A n xs) (i : Int) (h0 : 0 ≤ i) (h1 : i < n) : ∃ ad A0 c0, A = some ad ∧ w.cell? (ad.add i.toNat) = some (.slice A0 (rd_L9 xs i).length c0) ∧ (rd_L9 xs i).length ≤ c0 ∧ k151.C w A0 (rd_L9 xs i).length (rd_L9 xs i) := by
  obtain ⟨ad, c, e, _, hK, hc0⟩ := Kd.C_get h ([] : List S151) i h0 h1
  have hc : ∀ j u, c[j]? = some u → w.cell? (ad.add (i.toNat * 1 + j)) = some u := hc0
  obtain ⟨A0, c0, rfl, l0, g0⟩ := hK
  exact ⟨ad, A0, c0, e, by have hq := hc 0 _ rfl; rwa [Nat.mul_one, Nat.add_zero] at hq, l0, g0⟩

/-! #### struct type 177 -/
structure S177 where
  f0 : S55
  f1 : S55
  f2 : (List S193)
  f3 : (List S193)
  f4 : (List S151)
  f5 : S58
def z177 : S177 := ⟨z55, z55, ([] : List S193), ([] : List S193), ([] : List S151), z58⟩
def k177 : Kd S177 := Kd.iso (Kd.pair k55 (Kd.pair k55 (Kd.pair (Kd.slice 193 k193) (Kd.pair (Kd.slice 193 k193) (Kd.pair (Kd.slice 151 k151) k58))))) (fun x : S177 => (x.f0, x.f1, x.f2, x.f3, x.f4, x.f5))
theorem k177_open {w : World} {x : S177} {cs : List Value} (h : k177.K w x cs) : ∃ A4 c4 A5 c5 A6 c6 A13 c13, cs = [.string x.f0.f0, .int .i64 x.f0.f1, .string x.f1.f0, .int .i64 x.f1.f1, .slice A4 x.f2.length c4, .slice A5 x.f3.length c5, .slice A6 x.f4.length c6, .int .i64 x.f5.f0, .string x.f5.f1.f0, .int .i64 x.f5.f1.f1, .int .i64 x.f5.f2, .int .i64 x.f5.f3, .int .i64 x.f5.f4, .slice A13 x.f5.f5.length c13] ∧ x.f2.length ≤ c4 ∧ k193.C w A4 x.f2.length x.f2 ∧ x.f3.length ≤ c5 ∧ k193.C w A5 x.f3.length x.f3 ∧ x.f4.length ≤ c6 ∧ k151.C w A6 x.f4.length x.f4 ∧ x.f5.f5.length ≤ c13 ∧ k58.C w A13 x.f5.f5.length x.f5.f5 := by
  obtain ⟨_, _, rfl, s0, ⟨_, _, rfl, s2, ⟨_, _, rfl, ⟨A4, c4, rfl, l4, g4⟩, ⟨_, _, rfl, ⟨A5, c5, rfl, l5, g5⟩, ⟨_, _, rfl, ⟨A6, c6, rfl, l6, g6⟩, s7⟩⟩⟩⟩⟩ := h
  obtain rfl := k55_open s0
  obtain rfl := k55_open s2
  obtain ⟨A13, c13, rfl, l13, g13⟩ := k58_open s7
  exact ⟨A4, c4, A5, c5, A6, c6, A13, c13, rfl, l4, g4, l5, g5, l6, g6, l13, g13⟩
theorem k177_openM {w : World} {base : Nat} {ok : Nat → Prop} {x : S177} {cs : List Value} (h : k177.M w base ok x cs) : ∃ v4 v5 v6 v13, cs = [.string x.f0.f0, .int .i64 x.f0.f1, .string x.f1.f0, .int .i64 x.f1.f1, v4, v5, v6, .int .i64 x.f5.f0, .string x.f5.f1.f0, .int .i64 x.f5.f1.f1, .int .i64 x.f5.f2, .int .i64 x.f5.f3, .int .i64 x.f5.f4, v13] ∧ k193.R 193 w base ok v4 x.f2 ∧ k193.R 193 w base ok v5 x.f3 ∧ k151.R 151 w base ok v6 x.f4 ∧ k58.R 58 w base ok v13 x.f5.f5 := by
  obtain ⟨_, _, rfl, s0, ⟨_, _, rfl, s2, ⟨_, _, rfl, ⟨v4, rfl, g4⟩, ⟨_, _, rfl, ⟨v5, rfl, g5⟩, ⟨_, _, rfl, ⟨v6, rfl, g6⟩, s7⟩⟩⟩⟩⟩ := h
  obtain rfl := k55_openM s0
  obtain rfl := k55_openM s2
  obtain ⟨v13, rfl, g13⟩ := k58_openM s7
  exact ⟨v4, v5, v6, v13, rfl, g4, g5, g6, g13⟩
theorem k177_mk (w : World) (x : S177) {A4 : Option Addr} {c4 : Nat} (l4 : x.f2.length ≤ c4) (g4 : k193.C w A4 x.f2.length x.f2) {A5 : Option Addr} {c5 : Nat} (l5 : x.f3.length ≤ c5) (g5 : k193.C w A5 x.f3.length x.f3) {A6 : Option Addr} {c6 : Nat} (l6 : x.f4.length ≤ c6) (g6 : k151.C w A6 x.f4.length x.f4) {A13 : Option Addr} {c13 : Nat} (l13 : x.f5.f5.length ≤ c13) (g13 : k58.C w A13 x.f5.f5.length x.f5.f5) : k177.K w x [.string x.f0.f0, .int .i64 x.f0.f1, .string x.f1.f0, .int .i64 x.f1.f1, .slice A4 x.f2.length c4, .slice A5 x.f3.length c5, .slice A6 x.f4.length c6, .int .i64 x.f5.f0, .string x.f5.f1.f0, .int .i64 x.f5.f1.f1, .int .i64 x.f5.f2, .int .i64 x.f5.f3, .int .i64 x.f5.f4, .slice A13 x.f5.f5.length c13] := ⟨[.string x.f0.f0, .int .i64 x.f0.f1], [.string x.f1.f0, .int .i64 x.f1.f1, .slice A4 x.f2.length c4, .slice A5 x.f3.length c5, .slice A6 x.f4.length c6, .int .i64 x.f5.f0, .string x.f5.f1.f0, .int .i64 x.f5.f1.f1, .int .i64 x.f5.f2, .int .i64 x.f5.f3, .int .i64 x.f5.f4, .slice A13 x.f5.f5.length c13], rfl, (k55_mk w x.f0 ), ⟨[.string x.f1.f0, .int .i64 x.f1.f1], [.slice A4 x.f2.length c4, .slice A5 x.f3.length c5, .slice A6 x.f4.length c6, .int .i64 x.f5.f0, .string x.f5.f1.f0, .int .i64 x.f5.f1.f1, .int .i64 x.f5.f2, .int .i64 x.f5.f3, .int .i64 x.f5.f4, .slice A13 x.f5.f5.length c13], rfl, (k55_mk w x.f1 ), ⟨[.slice A4 x.f2.length c4], [.slice A5 x.f3.length c5, .slice A6 x.f4.length c6, .int .i64 x.f5.f0, .string x.f5.f1.f0, .int .i64 x.f5.f1.f1, .int .i64 x.f5.f2, .int .i64 x.f5.f3, .int .i64 x.f5.f4, .slice A13 x.f5.f5.length c13], rfl, ⟨A4, c4, rfl, l4, g4⟩, ⟨[.slice A5 x.f3.length c5], [.slice A6 x.f4.length c6, .int .i64 x.f5.f0, .string x.f5.f1.f0, .int .i64 x.f5.f1.f1, .int .i64 x.f5.f2, .int .i64 x.f5.f3, .int .i64 x.f5.f4, .slice A13 x.f5.f5.length c13], rfl, ⟨A5, c5, rfl, l5, g5⟩, ⟨[.slice A6 x.f4.length c6], [.int .i64 x.f5.f0, .string x.f5.f1.f0, .int .i64 x.f5.f1.f1, .int .i64 x.f5.f2, .int .i64 x.f5.f3, .int .i64 x.f5.f4, .slice A13 x.f5.f5.length c13], rfl, ⟨A6, c6, rfl, l6, g6⟩, (k58_mk w x.f5 l13 g13)⟩⟩⟩⟩⟩
theorem k177_mkM (w : World) (base : Nat) (ok : Nat → Prop) (x : S177) {v4 : Value} (g4 : k193.R 193 w base ok v4 x.f2) {v5 : Value} (g5 : k193.R 193 w base ok v5 x.f3) {v6 : Value} (g6 : k151.R 151 w base ok v6 x.f4) {v13 : Value} (g13 : k58.R 58 w base ok v13 x.f5.f5) : k177.M w base ok x [.string x.f0.f0, .int .i64 x.f0.f1, .string x.f1.f0, .int .i64 x.f1.f1, v4, v5, v6, .int .i64 x.f5.f0, .string x.f5.f1.f0, .int .i64 x.f5.f1.f1, .int .i64 x.f5.f2, .int .i64 x.f5.f3, .int .i64 x.f5.f4, v13] := ⟨[.string x.f0.f0, .int .i64 x.f0.f1], [.string x.f1.f0, .int .i64 x.f1.f1, v4, v5, v6, .int .i64 x.f5.f0, .string x.f5.f1.f0, .int .i64 x.f5.f1.f1, .int .i64 x.f5.f2, .int .i64 x.f5.f3, .int .i64 x.f5.f4, v13], rfl, (k55_mkM w base ok x.f0 ), ⟨[.string x.f1.f0, .int .i64 x.f1.f1], [v4, v5, v6, .int .i64 x.f5.f0, .string x.f5.f1.f0, .int .i64 x.f5.f1.f1, .int .i64 x.f5.f2, .int .i64 x.f5.f3, .int .i64 x.f5.f4, v13], rfl, (k55_mkM w base ok x.f1 ), ⟨[v4], [v5, v6, .int .i64 x.f5.f0, .string x.f5.f1.f0, .int .i64 x.f5.f1.f1, .int .i64 x.f5.f2, .int .i64 x.f5.f3, .int .i64 x.f5.f4, v13], rfl, ⟨v4, rfl, g4⟩, ⟨[v5], [v6, .int .i64 x.f5.f0, .string x.f5.f1.f0, .int .i64 x.f5.f1.f1, .int .i64 x.f5.f2, .int .i64 x.f5.f3, .int .i64 x.f5.f4, v13], rfl, ⟨v5, rfl, g5⟩, ⟨[v6], [.int .i64 x.f5.f0, .string x.f5.f1.f0, .int .i64 x.f5.f1.f1, .int .i64 x.f5.f2, .int .i64 x.f5.f3, .int .i64 x.f5.f4, v13], rfl, ⟨v6, rfl, g6⟩, (k58_mkM w base ok x.f5 g13)⟩⟩⟩⟩⟩
theorem k177_openF {W : World} {ok : Nat → Prop} {x : S177} {cs : List Value} (h : Kd.FK k177 W ok x cs) : ∃ A4 c4 A5 c5 A6 c6 A13 c13, cs = [.string x.f0.f0, .int .i64 x.f0.f1, .string x.f1.f0, .int .i64 x.f1.f1, .slice A4 x.f2.length c4, .slice A5 x.f3.length c5, .slice A6 x.f4.length c6, .int .i64 x.f5.f0, .string x.f5.f1.f0, .int .i64 x.f5.f1.f1, .int .i64 x.f5.f2, .int .i64 x.f5.f3, .int .i64 x.f5.f4, .slice A13 x.f5.f5.length c13] ∧ x.f2.length ≤ c4 ∧ Kd.F k193 W ok A4 x.f2.length x.f2 ∧ x.f3.length ≤ c5 ∧ Kd.F k193 W ok A5 x.f3.length x.f3 ∧ x.f4.length ≤ c6 ∧ Kd.F k151 W ok A6 x.f4.length x.f4 ∧ x.f5.f5.length ≤ c13 ∧ Kd.F k58 W ok A13 x.f5.f5.length x.f5.f5 := by
  obtain ⟨A4, c4, A5, c5, A6, c6, A13, c13, rfl, l4, _, l5, _, l6, _, l13, _⟩ := k177_open (Kd.FK_now h)
  exact ⟨A4, c4, A5, c5, A6, c6, A13, c13, rfl, l4, (fun W' hW => by obtain ⟨A4_, c4_, A5_, c5_, A6_, c6_, A13_, c13_, he, l4_, g4_, l5_, g5_, l6_, g6_, l13_, g13_⟩ := k177_open (h W' hW); injection (Option.some.inj (show some (Value.slice A4 x.f2.length c4) = some (Value.slice A4_ x.f2.length c4_) from congrArg (fun l => l[4]?) he)) with ha_ _ _; rw [ha_]; exact g4_), l5, (fun W' hW => by obtain ⟨A4_, c4_, A5_, c5_, A6_, c6_, A13_, c13_, he, l4_, g4_, l5_, g5_, l6_, g6_, l13_, g13_⟩ := k177_open (h W' hW); injection (Option.some.inj (show some (Value.slice A5 x.f3.length c5) = some (Value.slice A5_ x.f3.length c5_) from congrArg (fun l => l[5]?) he)) with ha_ _ _; rw [ha_]; exact g5_), l6, (fun W' hW => by obtain ⟨A4_, c4_, A5_, c5_, A6_, c6_, A13_, c13_, he, l4_, g4_, l5_, g5_, l6_, g6_, l13_, g13_⟩ := k177_open (h W' hW); injection (Option.some.inj (show some (Value.slice A6 x.f4.length c6) = some (Value.slice A6_ x.f4.length c6_) from congrArg (fun l => l[6]?) he)) with ha_ _ _; rw [ha_]; exact g6_), l13, (fun W' hW => by obtain ⟨A4_, c4_, A5_, c5_, A6_, c6_, A13_, c13_, he, l4_, g4_, l5_, g5_, l6_, g6_, l13_, g13_⟩ := k177_open (h W' hW); injection (Option.some.inj (show some (Value.slice A13 x.f5.f5.length c13) = some (Value.slice A13_ x.f5.f5.length c13_) from congrArg (fun l => l[13]?) he)) with ha_ _ _; rw [ha_]; exact g13_)⟩
theorem k177_mkF (W : World) (ok : Nat → Prop) (x : S177) {A4 : Option Addr} {c4 : Nat} (l4 : x.f2.length ≤ c4) (g4 : Kd.F k193 W ok A4 x.f2.length x.f2) {A5 : Option Addr} {c5 : Nat} (l5 : x.f3.length ≤ c5) (g5 : Kd.F k193 W ok A5 x.f3.length x.f3) {A6 : Option Addr} {c6 : Nat} (l6 : x.f4.length ≤ c6) (g6 : Kd.F k151 W ok A6 x.f4.length x.f4) {A13 : Option Addr} {c13 : Nat} (l13 : x.f5.f5.length ≤ c13) (g13 : Kd.F k58 W ok A13 x.f5.f5.length x.f5.f5) : Kd.FK k177 W ok x [.string x.f0.f0, .int .i64 x.f0.f1, .string x.f1.f0, .int .i64 x.f1.f1, .slice A4 x.f2.length c4, .slice A5 x.f3.length c5, .slice A6 x.f4.length c6, .int .i64 x.f5.f0, .string x.f5.f1.f0, .int .i64 x.f5.f1.f1, .int .i64 x.f5.f2, .int .i64 x.f5.f3, .int .i64 x.f5.f4, .slice A13 x.f5.f5.length c13] := fun W2 hW => k177_mk W2 x l4 (g4 W2 hW) l5 (g5 W2 hW) l6 (g6 W2 hW) l13 (g13 W2 hW)
def rd_T177 (xs : List S177) (i : Int) : S177 := xs.getD i.toNat z177
theorem at_T177 {w : World} {A : Option Addr} {n : Nat} {xs : List S177} (h : Kd.C k177 w A n xs) (i : Int) (h0 : 0 ≤ i) (h1 : i < n) : ∃ ad A4 c4 A5 c5 A6 c6 A13 c13, A = some ad ∧ w.cell? (ad.add (i.toNat * 14)) = some (.string (rd_T177 xs i).f0.f0) ∧ w.cell? ⟨(ad.add (i.toNat * 14)).block, (ad.add (i.toNat * 14)).off + 1, none⟩ = some (.int .i64 (rd_T177 xs i).f0.f1) ∧ w.cell? ⟨(ad.add (i.toNat * 14)).block, (ad.add (i.toNat * 14)).off + 2, none⟩ = some (.string (rd_T177 xs i).f1.f0) ∧ w.cell? ⟨(ad.add (i.toNat * 14)).block, (ad.add (i.toNat * 14)).off + 3, none⟩ = some (.int .i64 (rd_T177 xs i).f1.f1) ∧ w.cell? ⟨(ad.add (i.toNat * 14)).block, (ad.add (i.toNat * 14)).off + 4, none⟩ = some (.slice A4 (rd_T177 xs i).f2.length c4) ∧ w.cell? ⟨(ad.add (i.toNat * 14)).block, (ad.add (i.toNat * 14)).off + 5, none⟩ = some (.slice A5 (rd_T177 xs i).f3.length c5) ∧ w.cell? ⟨(ad.add (i.toNat * 14)).block, (ad.add (i.toNat * 14)).off + 6, none⟩ = some (.slice A6 (rd_T177 xs i).f4.length c6) ∧ w.cell? ⟨(ad.add (i.toNat * 14)).block, (ad.add (i.toNat * 14)).off + 7, none⟩ = some (.int .i64 (rd_T177 xs i).f5.f0) ∧ w.cell? ⟨(ad.add (i.toNat * 14)).block, (ad.add (i.toNat * 14)).off + 8, none⟩ = some (.string (rd_T177 xs i).f5.f1.f0) ∧ w.cell? ⟨(ad.add (i.toNat * 14)).block, (ad.add (i.toNat * 14)).off + 9, none⟩ = some (.int .i64 (rd_T177 xs i).f5.f1.f1) ∧ w.cell? ⟨(ad.add (i.toNat * 14)).block, (ad.add (i.toNat * 14)).off + 10, none⟩ = some (.int .i64 (rd_T177 xs i).f5.f2) ∧ w.cell? ⟨(ad.add (i.toNat * 14)).block, (ad.add (i.toNat * 14)).off + 11, none⟩ = some (.int .i64 (rd_T177 xs i).f5.f3) ∧ w.cell? ⟨(ad.add (i.toNat * 14)).block, (ad.add (i.toNat * 14)).off + 12, none⟩ = some (.int .i64 (rd_T177 xs i).f5.f4) ∧ w.cell? ⟨(ad.add (i.toNat * 14)).block, (ad.add (i.toNat * 14)).off + 13, none⟩ = some (.slice A13 (rd_T177 xs i).f5.f5.length c13) ∧ (rd_T177 xs i).f2.length ≤ c4 ∧ k193.C w A4 (rd_T177 xs i).f2.length (rd_T177 xs i).f2 ∧ (rd_T177 xs i).f3.length ≤ c5 ∧ k193.C w A5 (rd_T177 xs i).f3.length (rd_T177 xs i).f3 ∧ (rd_T177 xs i).f4.length ≤ c6 ∧ k151.C w A6 (rd_T177 xs i).f4.length (rd_T177 xs i).f4 ∧ (rd_T177 xs i).f5.f5.length ≤ c13 ∧ k58.C w A13 (rd_T177 xs i).f5.f5.length (rd_T177 xs i).f5.f5 := by
  obtain ⟨ad, c, e, _, hK, hc0⟩ := Kd.C_get h z177 i h0 h1
  have hc : ∀ j u, c[j]? = some u → w.cell? (ad.add (i.toNat * 14 + j)) = some u := hc0
  obtain ⟨A4, c4, A5, c5, A6, c6, A13, c13, rfl, l4, g4, l5, g5, l6, g6, l13, g13⟩ := k177_open hK
  exact ⟨ad, A4, c4, A5, c5, A6, c6, A13, c13, e, hc 0 _ rfl, by rw [← add_field _ _ 1 (by omega)]; exact hc 1 _ rfl, by rw [← add_field _ _ 2 (by omega)]; exact hc 2 _ rfl, by rw [← add_field _ _ 3 (by omega)]; exact hc 3 _ rfl, by rw [← add_field _ _ 4 (by omega)]; exact hc 4 _ rfl, by rw [← add_field _ _ 5 (by omega)]; exact hc 5 _ rfl, by rw [← add_field _ _ 6 (by omega)]; exact hc 6 _ rfl, by rw [← add_field _ _ 7 (by omega)]; exact hc 7 _ rfl, by rw [← add_field _ _ 8 (by omega)]; exact hc 8 _ rfl, by rw [← add_field _ _ 9 (by omega)]; exact hc 9 _ rfl, by rw [← add_field _ _ 10 (by omega)]; exact hc 10 _ rfl, by rw [← add_field _ _ 11 (by omega)]; exact hc 11 _ rfl, by rw [← add_field _ _ 12 (by omega)]; exact hc 12 _ rfl, by rw [← add_field _ _ 13 (by omega)]; exact hc 13 _ rfl, l4, g4, l5, g5, l6, g6, l13, g13⟩

def rd_L11 (xs : List (List S177)) (i : Int) : (List S177) := xs.getD i.toNat ([] : List S177)
theorem at_L11 {w : World} {A : Option Addr} {n : Nat} {xs : List (List S177)} (h : Kd.C (Kd.slice 177 k177) w A n xs) (i : Int) (h0 : 0 ≤ i) (h1 : i < n) : ∃ ad A0 c0, A = some ad ∧ w.cell? (ad.add i.toNat) = some (.slice A0 (rd_L11 xs i).length c0) ∧ (rd_L11 xs i).length ≤ c0 ∧ k177.C w A0 (rd_L11 xs i).length (rd_L11 xs i) := by
  obtain ⟨ad, c, e, _, hK, hc0⟩ := Kd.C_get h ([] : List S177) i h0 h1
  have hc : ∀ j u, c[j]? = some u → w.cell? (ad.add (i.toNat * 1 + j)) = some u := hc0
  obtain ⟨A0, c0, rfl, l0, g0⟩ := hK
  exact ⟨ad, A0, c0, e, by have hq := hc 0 _ rfl; rwa [Nat.mul_one, Nat.add_zero] at hq, l0, g0⟩

/-! #### struct type 122 -/
structure S122 where
  f0 : Bool
  f1 : S55
  f2 : S55
  f3 : (List S193)
  f4 : (List S177)
  f5 : S55
  f6 : (List S151)
def z122 : S122 := ⟨false, z55, z55, ([] : List S193), ([] : List S177), z55, ([] : List S151)⟩
def k122 : Kd S122 := Kd.iso (Kd.pair Kd.bool (Kd.pair k55 (Kd.pair k55 (Kd.pair (Kd.slice 193 k193) (Kd.pair (Kd.slice 177 k177) (Kd.pair k55 (Kd.slice 151 k151))))))) (fun x : S122 => (x.f0, x.f1, x.f2, x.f3, x.f4, x.f5, x.f6))
theorem k122_open {w : World} {x : S122} {cs : List Value} (h : k122.K w x cs) : ∃ A5 c5 A6 c6 A9 c9, cs = [.bool x.f0, .string x.f1.f0, .int .i64 x.f1.f1, .string x.f2.f0, .int .i64 x.f2.f1, .slice A5 x.f3.length c5, .slice A6 x.f4.length c6, .string x.f5.f0, .int .i64 x.f5.f1, .slice A9 x.f6.length c9] ∧ x.f3.length ≤ c5 ∧ k193.C w A5 x.f3.length x.f3 ∧ x.f4.length ≤ c6 ∧ k177.C w A6 x.f4.length x.f4 ∧ x.f6.length ≤ c9 ∧ k151.C w A9 x.f6.length x.f6 := by
  obtain ⟨_, _, rfl, rfl, ⟨_, _, rfl, s1, ⟨_, _, rfl, s3, ⟨_, _, rfl, ⟨A5, c5, rfl, l5, g5⟩, ⟨_, _, rfl, ⟨A6, c6, rfl, l6, g6⟩, ⟨_, _, rfl, s7, ⟨A9, c9, rfl, l9, g9⟩⟩⟩⟩⟩⟩⟩ := h
  obtain rfl := k55_open s1
  obtain rfl := k55_open s3
  obtain rfl := k55_open s7
  exact ⟨A5, c5, A6, c6, A9, c9, rfl, l5, g5, l6, g6, l9, g9⟩
theorem k122_openM {w : World} {base : Nat} {ok : Nat → Prop} {x : S122} {cs : List Value} (h : k122.M w base ok x cs) : ∃ v5 v6 v9, cs = [.bool x.f0, .string x.f1.f0, .int .i64 x.f1.f1, .string x.f2.f0, .int .i64 x.f2.f1, v5, v6, .string x.f5.f0, .int .i64 x.f5.f1, v9] ∧ k193.R 193 w base ok v5 x.f3 ∧ k177.R 177 w base ok v6 x.f4 ∧ k151.R 151 w base ok v9 x.f6 := by
  obtain ⟨_, _, rfl, rfl, ⟨_, _, rfl, s1, ⟨_, _, rfl, s3, ⟨_, _, rfl, ⟨v5, rfl, g5⟩, ⟨_, _, rfl, ⟨v6, rfl, g6⟩, ⟨_, _, rfl, s7, ⟨v9, rfl, g9⟩⟩⟩⟩⟩⟩⟩ := h
  obtain rfl := k55_openM s1
  obtain rfl := k55_openM s3
  obtain rfl := k55_openM s7
  exact ⟨v5, v6, v9, rfl, g5, g6, g9⟩
theorem k122_mk (w : World) (x : S122) {A5 : Option Addr} {c5 : Nat} (l5 : x.f3.length ≤ c5) (g5 : k193.C w A5 x.f3.length x.f3) {A6 : Option Addr} {c6 : Nat} (l6 : x.f4.length ≤ c6) (g6 : k177.C w A6 x.f4.length x.f4) {A9 : Option Addr} {c9 : Nat} (l9 : x.f6.length ≤ c9) (g9 : k151.C w A9 x.f6.length x.f6) : k122.K w x [.bool x.f0, .string x.f1.f0, .int .i64 x.f1.f1, .string x.f2.f0, .int .i64 x.f2.f1, .slice A5 x.f3.length c5, .slice A6 x.f4.length c6, .string x.f5.f0, .int .i64 x.f5.f1, .slice A9 x.f6.length c9] := ⟨[.bool x.f0], [.string x.f1.f0, .int .i64 x.f1.f1, .string x.f2.f0, .int .i64 x.f2.f1, .slice A5 x.f3.length c5, .slice A6 x.f4.length c6, .string x.f5.f0, .int .i64 x.f5.f1, .slice A9 x.f6.length c9], rfl, rfl, ⟨[.string x.f1.f0, .int .i64 x.f1.f1], [.string x.f2.f0, .int .i64 x.f2.f1, .slice A5 x.f3.length c5, .slice A6 x.f4.length c6, .string x.f5.f0, .int .i64 x.f5.f1, .slice A9 x.f6.length c9], rfl, (k55_mk w x.f1 ), ⟨[.string x.f2.f0, .int .i64 x.f2.f1], [.slice A5 x.f3.length c5, .slice A6 x.f4.length c6, .string x.f5.f0, .int .i64 x.f5.f1, .slice A9 x.f6.length c9], rfl, (k55_mk w x.f2 ), ⟨[.slice A5 x.f3.length c5], [.slice A6 x.f4.length c6, .string x.f5.f0, .int .i64 x.f5.f1, .slice A9 x.f6.length c9], rfl, ⟨A5, c5, rfl, l5, g5⟩, ⟨[.slice A6 x.f4.length c6], [.string x.f5.f0, .int .i64 x.f5.f1, .slice A9 x.f6.length c9], rfl, ⟨A6, c6, rfl, l6, g6⟩, ⟨[.string x.f5.f0, .int .i64 x.f5.f1], [.slice A9 x.f6.length c9], rfl, (k55_mk w x.f5 ), ⟨A9, c9, rfl, l9, g9⟩⟩⟩⟩⟩⟩⟩
theorem k122_mkM (w : World) (base : Nat) (ok : Nat → Prop) (x : S122) {v5 : Value} (g5 : k193.R 193 w base ok v5 x.f3) {v6 : Value} (g6 : k177.R 177 w base ok v6 x.f4) {v9 : Value} (g9 : k151.R 151 w base ok v9 x.f6) : k122.M w base ok x [.bool x.f0, .string x.f1.f0, .int .i64 x.f1.f1, .string x.f2.f0, .int .i64 x.f2.f1, v5, v6, .string x.f5.f0, .int .i64 x.f5.f1, v9] := ⟨[.bool x.f0], [.string x.f1.f0, .int .i64 x.f1.f1, .string x.f2.f0, .int .i64 x.f2.f1, v5, v6, .string x.f5.f0, .int .i64 x.f5.f1, v9], rfl, rfl, ⟨[.string x.f1.f0, .int .i64 x.f1.f1], [.string x.f2.f0, .int .i64 x.f2.f1, v5, v6, .string x.f5.f0, .int .i64 x.f5.f1, v9], rfl, (k55_mkM w base ok x.f1 ), ⟨[.string x.f2.f0, .int .i64 x.f2.f1], [v5, v6, .string x.f5.f0, .int .i64 x.f5.f1, v9], rfl, (k55_mkM w base ok x.f2 ), ⟨[v5], [v6, .string x.f5.f0, .int .i64 x.f5.f1, v9], rfl, ⟨v5, rfl, g5⟩, ⟨[v6], [.string x.f5.f0, .int .i64 x.f5.f1, v9], rfl, ⟨v6, rfl, g6⟩, ⟨[.string x.f5.f0, .int .i64 x.f5.f1], [v9], rfl, (k55_mkM w base ok x.f5 ), ⟨v9, rfl, g9⟩⟩⟩⟩⟩⟩⟩
theorem k122_openF {W : World} {ok : Nat → Prop} {x : S122} {cs : List Value} (h : Kd.FK k122 W ok x cs) : ∃ A5 c5 A6 c6 A9 c9, cs = [.bool x.f0, .string x.f1.f0, .int .i64 x.f1.f1, .string x.f2.f0, .int .i64 x.f2.f1, .slice A5 x.f3.length c5, .slice A6 x.f4.length c6, .string x.f5.f0, .int .i64 x.f5.f1, .slice A9 x.f6.length c9] ∧ x.f3.length ≤ c5 ∧ Kd.F k193 W ok A5 x.f3.length x.f3 ∧ x.f4.length ≤ c6 ∧ Kd.F k177 W ok A6 x.f4.length x.f4 ∧ x.f6.length ≤ c9 ∧ Kd.F k151 W ok A9 x.f6.length x.f6 := by
  obtain ⟨A5, c5, A6, c6, A9, c9, rfl, l5, _, l6, _, l9, _⟩ := k122_open (Kd.FK_now h)
  exact ⟨A5, c5, A6, c6, A9, c9, rfl, l5, (fun W' hW => by obtain ⟨A5_, c5_, A6_, c6_, A9_, c9_, he, l5_, g5_, l6_, g6_, l9_, g9_⟩ := k122_open (h W' hW); injection (Option.some.inj (show some (Value.slice A5 x.f3.length c5) = some (Value.slice A5_ x.f3.length c5_) from congrArg (fun l => l[5]?) he)) with ha_ _ _; rw [ha_]; exact g5_), l6, (fun W' hW => by obtain ⟨A5_, c5_, A6_, c6_, A9_, c9_, he, l5_, g5_, l6_, g6_, l9_, g9_⟩ := k122_open (h W' hW); injection (Option.some.inj (show some (Value.slice A6 x.f4.length c6) = some (Value.slice A6_ x.f4.length c6_) from congrArg (fun l => l[6]?) he)) with ha_ _ _; rw [ha_]; exact g6_), l9, (fun W' hW => by obtain ⟨A5_, c5_, A6_, c6_, A9_, c9_, he, l5_, g5_, l6_, g6_, l9_, g9_⟩ := k122_open (h W' hW); injection (Option.some.inj (show some (Value.slice A9 x.f6.length c9) = some (Value.slice A9_ x.f6.length c9_) from congrArg (fun l => l[9]?) he)) with ha_ _ _; rw [ha_]; exact g9_)⟩
theorem k122_mkF (W : World) (ok : Nat → Prop) (x : S122) {A5 : Option Addr} {c5 : Nat} (l5 : x.f3.length ≤ c5) (g5 : Kd.F k193 W ok A5 x.f3.length x.f3) {A6 : Option Addr} {c6 : Nat} (l6 : x.f4.length ≤ c6) (g6 : Kd.F k177 W ok A6 x.f4.length x.f4) {A9 : Option Addr} {c9 : Nat} (l9 : x.f6.length ≤ c9) (g9 : Kd.F k151 W ok A9 x.f6.length x.f6) : Kd.FK k122 W ok x [.bool x.f0, .string x.f1.f0, .int .i64 x.f1.f1, .string x.f2.f0, .int .i64 x.f2.f1, .slice A5 x.f3.length c5, .slice A6 x.f4.length c6, .string x.f5.f0, .int .i64 x.f5.f1, .slice A9 x.f6.length c9] := fun W2 hW => k122_mk W2 x l5 (g5 W2 hW) l6 (g6 W2 hW) l9 (g9 W2 hW)
def rd_T122 (xs : List S122) (i : Int) : S122 := xs.getD i.toNat z122
theorem at_T122 {w : World} {A : Option Addr} {n : Nat} {xs : List S122} (h : Kd.C k122 w A n xs) (i : Int) (h0 : 0 ≤ i) (h1 : i < n) : ∃ ad A5 c5 A6 c6 A9 c9, A = some ad ∧ w.cell? (ad.add (i.toNat * 10)) = some (.bool (rd_T122 xs i).f0) ∧ w.cell? ⟨(ad.add (i.toNat * 10)).block, (ad.add (i.toNat * 10)).off + 1, none⟩ = some (.string (rd_T122 xs i).f1.f0) ∧ w.cell? ⟨(ad.add (i.toNat * 10)).block, (ad.add (i.toNat * 10)).off + 2, none⟩ = some (.int .i64 (rd_T122 xs i).f1.f1) ∧ w.cell? ⟨(ad.add (i.toNat * 10)).block, (ad.add (i.toNat * 10)).off + 3, none⟩ = some (.string (rd_T122 xs i).f2.f0) ∧ w.cell? ⟨(ad.add (i.toNat * 10)).block, (ad.add (i.toNat * 10)).off + 4, none⟩ = some (.int .i64 (rd_T122 xs i).f2.f1) ∧ w.cell? ⟨(ad.add (i.toNat * 10)).block, (ad.add (i.toNat * 10)).off + 5, none⟩ = some (.slice A5 (rd_T122 xs i).f3.length c5) ∧ w.cell? ⟨(ad.add (i.toNat * 10)).block, (ad.add (i.toNat * 10)).off + 6, none⟩ = some (.slice A6 (rd_T122 xs i).f4.length c6) ∧ w.cell? ⟨(ad.add (i.toNat * 10)).block, (ad.add (i.toNat * 10)).off + 7, none⟩ = some (.string (rd_T122 xs i).f5.f0) ∧ w.cell? ⟨(ad.add (i.toNat * 10)).block, (ad.add (i.toNat * 10)).off + 8, none⟩ = some (.int .i64 (rd_T122 xs i).f5.f1) ∧ w.cell? ⟨(ad.add (i.toNat * 10)).block, (ad.add (i.toNat * 10)).off + 9, none⟩ = some (.slice A9 (rd_T122 xs i).f6.length c9) ∧ (rd_T122 xs i).f3.length ≤ c5 ∧ k193.C w A5 (rd_T122 xs i).f3.length (rd_T122 xs i).f3 ∧ (rd_T122 xs i).f4.length ≤ c6 ∧ k177.C w A6 (rd_T122 xs i).f4.length (rd_T122 xs i).f4 ∧ (rd_T122 xs i).f6.length ≤ c9 ∧ k151.C w A9 (rd_T122 xs i).f6.length (rd_T122 xs i).f6 := by
  obtain ⟨ad, c, e, _, hK, hc0⟩ := Kd.C_get h z122 i h0 h1
  have hc : ∀ j u, c[j]? = some u → w.cell? (ad.add (i.toNat * 10 + j)) = some u := hc0
  obtain ⟨A5, c5, A6, c6, A9, c9, rfl, l5, g5, l6, g6, l9, g9⟩ := k122_open hK
  exact ⟨ad, A5, c5, A6, c6, A9, c9, e, hc 0 _ rfl, by rw [← add_field _ _ 1 (by omega)]; exact hc 1 _ rfl, by rw [← add_field _ _ 2 (by omega)]; exact hc 2 _ rfl, by rw [← add_field _ _ 3 (by omega)]; exact hc 3 _ rfl, by rw [← add_field _ _ 4 (by omega)]; exact hc 4 _ rfl, by rw [← add_field _ _ 5 (by omega)]; exact hc 5 _ rfl, by rw [← add_field _ _ 6 (by omega)]; exact hc 6 _ rfl, by rw [← add_field _ _ 7 (by omega)]; exact hc 7 _ rfl, by rw [← add_field _ _ 8 (by omega)]; exact hc 8 _ rfl, by rw [← add_field _ _ 9 (by omega)]; exact hc 9 _ rfl, l5, g5, l6, g6, l9, g9⟩

def rd_L13 (xs : List (List S122)) (i : Int) : (List S122) := xs.getD i.toNat ([] : List S122)
theorem at_L13 {w : World} {A : Option Addr} {n : Nat} {xs : List (List S122)} (h : Kd.C (Kd.slice 122 k122) w A n xs) (i : Int) (h0 : 0 ≤ i) (h1 : i < n) : ∃ ad A0 c0, A = some ad ∧ w.cell? (ad.add i.toNat) = some (.slice A0 (rd_L13 xs i).length c0) ∧ (rd_L13 xs i).length ≤ c0 ∧ k122.C w A0 (rd_L13 xs i).length (rd_L13 xs i) := by
  obtain ⟨ad, c, e, _, hK, hc0⟩ := Kd.C_get h ([] : List S122) i h0 h1
  have hc : ∀ j u, c[j]? = some u → w.cell? (ad.add (i.toNat * 1 + j)) = some u := hc0
  obtain ⟨A0, c0, rfl, l0, g0⟩ := hK
  exact ⟨ad, A0, c0, e, by have hq := hc 0 _ rfl; rwa [Nat.mul_one, Nat.add_zero] at hq, l0, g0⟩

def rd_L14 (xs : List (List (List S122))) (i : Int) : (List (List S122)) := xs.getD i.toNat ([] : List (List S122))
theorem at_L14 {w : World} {A : Option Addr} {n : Nat} {xs : List (List (List S122))} (h : Kd.C (Kd.slice 132 (Kd.slice 122 k122)) w A n xs) (i : Int) (h0 : 0 ≤ i) (h1 : i < n) : ∃ ad A0 c0, A = some ad ∧ w.cell? (ad.add i.toNat) = some (.slice A0 (rd_L14 xs i).length c0) ∧ (rd_L14 xs i).length ≤ c0 ∧ (Kd.slice 122 k122).C w A0 (rd_L14 xs i).length (rd_L14 xs i) := by
  obtain ⟨ad, c, e, _, hK, hc0⟩ := Kd.C_get h ([] : List (List S122)) i h0 h1
  have hc : ∀ j u, c[j]? = some u → w.cell? (ad.add (i.toNat * 1 + j)) = some u := hc0
  obtain ⟨A0, c0, rfl, l0, g0⟩ := hK
  exact ⟨ad, A0, c0, e, by have hq := hc 0 _ rfl; rwa [Nat.mul_one, Nat.add_zero] at hq, l0, g0⟩

/-! #### struct type 124 -/
structure S124 where
  f0 : Int
  f1 : S122
def z124 : S124 := ⟨(0 : Int), z122⟩
def k124 : Kd S124 := Kd.iso (Kd.pair (Kd.int .i64) k122) (fun x : S124 => (x.f0, x.f1))
theorem k124_open {w : World} {x : S124} {cs : List Value} (h : k124.K w x cs) : ∃ A6 c6 A7 c7 A10 c10, cs = [.int .i64 x.f0, .bool x.f1.f0, .string x.f1.f1.f0, .int .i64 x.f1.f1.f1, .string x.f1.f2.f0, .int .i64 x.f1.f2.f1, .slice A6 x.f1.f3.length c6, .slice A7 x.f1.f4.length c7, .string x.f1.f5.f0, .int .i64 x.f1.f5.f1, .slice A10 x.f1.f6.length c10] ∧ x.f1.f3.length ≤ c6 ∧ k193.C w A6 x.f1.f3.length x.f1.f3 ∧ x.f1.f4.length ≤ c7 ∧ k177.C w A7 x.f1.f4.length x.f1.f4 ∧ x.f1.f6.length ≤ c10 ∧ k151.C w A10 x.f1.f6.length x.f1.f6 := by
  obtain ⟨_, _, rfl, rfl, s1⟩ := h
  obtain ⟨A6, c6, A7, c7, A10, c10, rfl, l6, g6, l7, g7, l10, g10⟩ := k122_open s1
  exact ⟨A6, c6, A7, c7, A10, c10, rfl, l6, g6, l7, g7, l10, g10⟩
theorem k124_openM {w : World} {base : Nat} {ok : Nat → Prop} {x : S124} {cs : List Value} (h : k124.M w base ok x cs) : ∃ v6 v7 v10, cs = [.int .i64 x.f0, .bool x.f1.f0, .string x.f1.f1.f0, .int .i64 x.f1.f1.f1, .string x.f1.f2.f0, .int .i64 x.f1.f2.f1, v6, v7, .string x.f1.f5.f0, .int .i64 x.f1.f5.f1, v10] ∧ k193.R 193 w base ok v6 x.f1.f3 ∧ k177.R 177 w base ok v7 x.f1.f4 ∧ k151.R 151 w base ok v10 x.f1.f6 := by
  obtain ⟨_, _, rfl, rfl, s1⟩ := h
  obtain ⟨v6, v7, v10, rfl, g6, g7, g10⟩ := k122_openM s1
  exact ⟨v6, v7, v10, rfl, g6, g7, g10⟩
theorem k124_mk (w : World) (x : S124) {A6 : Option Addr} {c6 : Nat} (l6 : x.f1.f3.length ≤ c6) (g6 : k193.C w A6 x.f1.f3.length x.f1.f3) {A7 : Option Addr} {c7 : Nat} (l7 : x.f1.f4.length ≤ c7) (g7 : k177.C w A7 x.f1.f4.length x.f1.f4) {A10 : Option Addr} {c10 : Nat} (l10 : x.f1.f6.length ≤ c10) (g10 : k151.C w A10 x.f1.f6.length x.f1.f6) : k124.K w x [.int .i64 x.f0, .bool x.f1.f0, .string x.f1.f1.f0, .int .i64 x.f1.f1.f1, .string x.f1.f2.f0, .int .i64 x.f1.f2.f1, .slice A6 x.f1.f3.length c6, .slice A7 x.f1.f4.length c7, .string x.f1.f5.f0, .int .i64 x.f1.f5.f1, .slice A10 x.f1.f6.length c10] := ⟨[.int .i64 x.f0], [.bool x.f1.f0, .string x.f1.f1.f0, .int .i64 x.f1.f1.f1, .string x.f1.f2.f0, .int .i64 x.f1.f2.f1, .slice A6 x.f1.f3.length c6, .slice A7 x.f1.f4.length c7, .string x.f1.f5.f0, .int .i64 x.f1.f5.f1, .slice A10 x.f1.f6.length c10], rfl, rfl, (k122_mk w x.f1 l6 g6 l7 g7 l10 g10)⟩
theorem k124_mkM (w : World) (base : Nat) (ok : Nat → Prop) (x : S124) {v6 : Value} (g6 : k193.R 193 w base ok v6 x.f1.f3) {v7 : Value} (g7 : k177.R 177 w base ok v7 x.f1.f4) {v10 : Value} (g10 : k151.R 151 w base ok v10 x.f1.f6) : k124.M w base ok x [.int .i64 x.f0, .bool x.f1.f0, .string x.f1.f1.f0, .int .i64 x.f1.f1.f1, .string x.f1.f2.f0, .int .i64 x.f1.f2.f1, v6, v7, .string x.f1.f5.f0, .int .i64 x.f1.f5.f1, v10] := ⟨[.int .i64 x.f0], [.bool x.f1.f0, .string x.f1.f1.f0, .int .i64 x.f1.f1.f1, .string x.f1.f2.f0, .int .i64 x.f1.f2.f1, v6, v7, .string x.f1.f5.f0, .int .i64 x.f1.f5.f1, v10], rfl, rfl, (k122_mkM w base ok x.f1 g6 g7 g10)⟩
theorem k124_openF {W : World} {ok : Nat → Prop} {x : S124} {cs : List Value} (h : Kd.FK k124 W ok x cs) : ∃ A6 c6 A7 c7 A10 c10, cs = [.int .i64 x.f0, .bool x.f1.f0, .string x.f1.f1.f0, .int .i64 x.f1.f1.f1, .string x.f1.f2.f0, .int .i64 x.f1.f2.f1, .slice A6 x.f1.f3.length c6, .slice A7 x.f1.f4.length c7, .string x.f1.f5.f0, .int .i64 x.f1.f5.f1, .slice A10 x.f1.f6.length c10] ∧ x.f1.f3.length ≤ c6 ∧ Kd.F k193 W ok A6 x.f1.f3.length x.f1.f3 ∧ x.f1.f4.length ≤ c7 ∧ Kd.F k177 W ok A7 x.f1.f4.length x.f1.f4 ∧ x.f1.f6.length ≤ c10 ∧ Kd.F k151 W ok A10 x.f1.f6.length x.f1.f6 := by
  obtain ⟨A6, c6, A7, c7, A10, c10, rfl, l6, _, l7, _, l10, _⟩ := k124_open (Kd.FK_now h)
  exact ⟨A6, c6, A7, c7, A10, c10, rfl, l6, (fun W' hW => by obtain ⟨A6_, c6_, A7_, c7_, A10_, c10_, he, l6_, g6_, l7_, g7_, l10_, g10_⟩ := k124_open (h W' hW); injection (Option.some.inj (show some (Value.slice A6 x.f1.f3.length c6) = some (Value.slice A6_ x.f1.f3.length c6_) from congrArg (fun l => l[6]?) he)) with ha_ _ _; rw [ha_]; exact g6_), l7, (fun W' hW => by obtain ⟨A6_, c6_, A7_, c7_, A10_, c10_, he, l6_, g6_, l7_, g7_, l10_, g10_⟩ := k124_open (h W' hW); injection (Option.some.inj (show some (Value.slice A7 x.f1.f4.length c7) = some (Value.slice A7_ x.f1.f4.length c7_) from congrArg (fun l => l[7]?) he)) with ha_ _ _; rw [ha_]; exact g7_), l10, (fun W' hW => by obtain ⟨A6_, c6_, A7_, c7_, A10_, c10_, he, l6_, g6_, l7_, g7_, l10_, g10_⟩ := k124_open (h W' hW); injection (Option.some.inj (show some (Value.slice A10 x.f1.f6.length c10) = some (Value.slice A10_ x.f1.f6.length c10_) from congrArg (fun l => l[10]?) he)) with ha_ _ _; rw [ha_]; exact g10_)⟩
theorem k124_mkF (W : World) (ok : Nat → Prop) (x : S124) {A6 : Option Addr} {c6 : Nat} (l6 : x.f1.f3.length ≤ c6) (g6 : Kd.F k193 W ok A6 x.f1.f3.length x.f1.f3) {A7 : Option Addr} {c7 : Nat} (l7 : x.f1.f4.length ≤ c7) (g7 : Kd.F k177 W ok A7 x.f1.f4.length x.f1.f4) {A10 : Option Addr} {c10 : Nat} (l10 : x.f1.f6.length ≤ c10) (g10 : Kd.F k151 W ok A10 x.f1.f6.length x.f1.f6) : Kd.FK k124 W ok x [.int .i64 x.f0, .bool x.f1.f0, .string x.f1.f1.f0, .int .i64 x.f1.f1.f1, .string x.f1.f2.f0, .int .i64 x.f1.f2.f1, .slice A6 x.f1.f3.length c6, .slice A7 x.f1.f4.length c7, .string x.f1.f5.f0, .int .i64 x.f1.f5.f1, .slice A10 x.f1.f6.length c10] := fun W2 hW => k124_mk W2 x l6 (g6 W2 hW) l7 (g7 W2 hW) l10 (g10 W2 hW)
def rd_T124 (xs : List S124) (i : Int) : S124 := xs.getD i.toNat z124
theorem at_T124 {w : World} {A : Option Addr} {n : Nat} {xs : List S124} (h : Kd.C k124 w A n xs) (i : Int) (h0 : 0 ≤ i) (h1 : i < n) : ∃ ad A6 c6 A7 c7 A10 c10, A = some ad ∧ w.cell? (ad.add (i.toNat * 11)) = some (.int .i64 (rd_T124 xs i).f0) ∧ w.cell? ⟨(ad.add (i.toNat * 11)).block, (ad.add (i.toNat * 11)).off + 1, none⟩ = some (.bool (rd_T124 xs i).f1.f0) ∧ w.cell? ⟨(ad.add (i.toNat * 11)).block, (ad.add (i.toNat * 11)).off + 2, none⟩ = some (.string (rd_T124 xs i).f1.f1.f0) ∧ w.cell? ⟨(ad.add (i.toNat * 11)).block, (ad.add (i.toNat * 11)).off + 3, none⟩ = some (.int .i64 (rd_T124 xs i).f1.f1.f1) ∧ w.cell? ⟨(ad.add (i.toNat * 11)).block, (ad.add (i.toNat * 11)).off + 4, none⟩ = some (.string (rd_T124 xs i).f1.f2.f0) ∧ w.cell? ⟨(ad.add (i.toNat * 11)).block, (ad.add (i.toNat * 11)).off + 5, none⟩ = some (.int .i64 (rd_T124 xs i).f1.f2.f1) ∧ w.cell? ⟨(ad.add (i.toNat * 11)).block, (ad.add (i.toNat * 11)).off + 6, none⟩ = some (.slice A6 (rd_T124 xs i).f1.f3.length c6) ∧ w.cell? ⟨(ad.add (i.toNat * 11)).block, (ad.add (i.toNat * 11)).off + 7, none⟩ = some (.slice A7 (rd_T124 xs i).f1.f4.length c7) ∧ w.cell? ⟨(ad.add (i.toNat * 11)).block, (ad.add (i.toNat * 11)).off + 8, none⟩ = some (.string (rd_T124 xs i).f1.f5.f0) ∧ w.cell? ⟨(ad.add (i.toNat * 11)).block, (ad.add (i.toNat * 11)).off + 9, none⟩ = some (.int .i64 (rd_T124 xs i).f1.f5.f1) ∧ w.cell? ⟨(ad.add (i.toNat * 11)).block, (ad.add (i.toNat * 11)).off + 10, none⟩ = some (.slice A10 (rd_T124 xs i).f1.f6.length c10) ∧ (rd_T124 xs i).f1.f3.length ≤ c6 ∧ k193.C w A6 (rd_T124 xs i).f1.f3.length (rd_T124 xs i).f1.f3 ∧ (rd_T124 xs i).f1.f4.length ≤ c7 ∧ k177.C w A7 (rd_T124 xs i).f1.f4.length (rd_T124 xs i).f1.f4 ∧ (rd_T124 xs i).f1.f6.length ≤ c10 ∧ k151.C w A10 (rd_T124 xs i).f1.f6.length (rd_T124 xs i).f1.f6 := by
  obtain ⟨ad, c, e, _, hK, hc0⟩ := Kd.C_get h z124 i h0 h1
  have hc : ∀ j u, c[j]? = some u → w.cell? (ad.add (i.toNat * 11 + j)) = some u := hc0
  obtain ⟨A6, c6, A7, c7, A10, c10, rfl, l6, g6, l7, g7, l10, g10⟩ := k124_open hK
  exact ⟨ad, A6, c6, A7, c7, A10, c10, e, hc 0 _ rfl, by rw [← add_field _ _ 1 (by omega)]; exact hc 1 _ rfl, by rw [← add_field _ _ 2 (by omega)]; exact hc 2 _ rfl, by rw [← add_field _ _ 3 (by omega)]; exact hc 3 _ rfl, by rw [← add_field _ _ 4 (by omega)]; exact hc 4 _ rfl, by rw [← add_field _ _ 5 (by omega)]; exact hc 5 _ rfl, by rw [← add_field _ _ 6 (by omega)]; exact hc 6 _ rfl, by rw [← add_field _ _ 7 (by omega)]; exact hc 7 _ rfl, by rw [← add_field _ _ 8 (by omega)]; exact hc 8 _ rfl, by rw [← add_field _ _ 9 (by omega)]; exact hc 9 _ rfl, by rw [← add_field _ _ 10 (by omega)]; exact hc 10 _ rfl, l6, g6, l7, g7, l10, g10⟩

def rd_L16 (xs : List (List S124)) (i : Int) : (List S124) := xs.getD i.toNat ([] : List S124)
theorem at_L16 {w : World} {A : Option Addr} {n : Nat} {xs : List (List S124)} (h : Kd.C (Kd.slice 124 k124) w A n xs) (i : Int) (h0 : 0 ≤ i) (h1 : i < n) : ∃ ad A0 c0, A = some ad ∧ w.cell? (ad.add i.toNat) = some (.slice A0 (rd_L16 xs i).length c0) ∧ (rd_L16 xs i).length ≤ c0 ∧ k124.C w A0 (rd_L16 xs i).length (rd_L16 xs i) := by
  obtain ⟨ad, c, e, _, hK, hc0⟩ := Kd.C_get h ([] : List S124) i h0 h1
  have hc : ∀ j u, c[j]? = some u → w.cell? (ad.add (i.toNat * 1 + j)) = some u := hc0
  obtain ⟨A0, c0, rfl, l0, g0⟩ := hK
  exact ⟨ad, A0, c0, e, by have hq := hc 0 _ rfl; rwa [Nat.mul_one, Nat.add_zero] at hq, l0, g0⟩

/-! #### struct type 72 -/
structure S72 where
  f0 : ByteArray
  f1 : Int
def z72 : S72 := ⟨(⟨#[]⟩ : ByteArray), (0 : Int)⟩
def k72 : Kd S72 := Kd.iso (Kd.pair Kd.string (Kd.int .i64)) (fun x : S72 => (x.f0, x.f1))
theorem k72_open {w : World} {x : S72} {cs : List Value} (h : k72.K w x cs) : cs = [.string x.f0, .int .i64 x.f1] := by
  obtain ⟨_, _, rfl, rfl, rfl⟩ := h
  exact rfl
theorem k72_openM {w : World} {base : Nat} {ok : Nat → Prop} {x : S72} {cs : List Value} (h : k72.M w base ok x cs) : cs = [.string x.f0, .int .i64 x.f1] := by
  obtain ⟨_, _, rfl, rfl, rfl⟩ := h
  exact rfl
theorem k72_mk (w : World) (x : S72)  : k72.K w x [.string x.f0, .int .i64 x.f1] := ⟨[.string x.f0], [.int .i64 x.f1], rfl, rfl, rfl⟩
theorem k72_mkM (w : World) (base : Nat) (ok : Nat → Prop) (x : S72)  : k72.M w base ok x [.string x.f0, .int .i64 x.f1] := ⟨[.string x.f0], [.int .i64 x.f1], rfl, rfl, rfl⟩
theorem k72_mkF (W : World) (ok : Nat → Prop) (x : S72) : Kd.FK k72 W ok x [.string x.f0, .int .i64 x.f1] := fun W2 _ => k72_mk W2 x
def rd_T72 (xs : List S72) (i : Int) : S72 := xs.getD i.toNat z72
theorem at_T72 {w : World} {A : Option Addr} {n : Nat} {xs : List S72} (h : Kd.C k72 w A n xs) (i : Int) (h0 : 0 ≤ i) (h1 : i < n) : ∃ ad , A = some ad ∧ w.cell? (ad.add (i.toNat * 2)) = some (.string (rd_T72 xs i).f0) ∧ w.cell? ⟨(ad.add (i.toNat * 2)).block, (ad.add (i.toNat * 2)).off + 1, none⟩ = some (.int .i64 (rd_T72 xs i).f1) := by
  obtain ⟨ad, c, e, _, hK, hc0⟩ := Kd.C_get h z72 i h0 h1
  have hc : ∀ j u, c[j]? = some u → w.cell? (ad.add (i.toNat * 2 + j)) = some u := hc0
  obtain rfl := k72_open hK
  exact ⟨ad, e, hc 0 _ rfl, by rw [← add_field _ _ 1 (by omega)]; exact hc 1 _ rfl⟩

/-! #### struct type 239 -/
structure S239 where
  f0 : S72
  f1 : S72
  f2 : Int
  f3 : Int
def z239 : S239 := ⟨z72, z72, (0 : Int), (0 : Int)⟩
def k239 : Kd S239 := Kd.iso (Kd.pair k72 (Kd.pair k72 (Kd.pair (Kd.int .i64) (Kd.int .i64)))) (fun x : S239 => (x.f0, x.f1, x.f2, x.f3))
theorem k239_open {w : World} {x : S239} {cs : List Value} (h : k239.K w x cs) : cs = [.string x.f0.f0, .int .i64 x.f0.f1, .string x.f1.f0, .int .i64 x.f1.f1, .int .i64 x.f2, .int .i64 x.f3] := by
  obtain ⟨_, _, rfl, s0, ⟨_, _, rfl, s2, ⟨_, _, rfl, rfl, rfl⟩⟩⟩ := h
  obtain rfl := k72_open s0
  obtain rfl := k72_open s2
  exact rfl
theorem k239_openM {w : World} {base : Nat} {ok : Nat → Prop} {x : S239} {cs : List Value} (h : k239.M w base ok x cs) : cs = [.string x.f0.f0, .int .i64 x.f0.f1, .string x.f1.f0, .int .i64 x.f1.f1, .int .i64 x.f2, .int .i64 x.f3] := by
  obtain ⟨_, _, rfl, s0, ⟨_, _, rfl, s2, ⟨_, _, rfl, rfl, rfl⟩⟩⟩ := h
  obtain rfl := k72_openM s0
  obtain rfl := k72_openM s2
  exact rfl
theorem k239_mk (w : World) (x : S239)  : k239.K w x [.string x.f0.f0, .int .i64 x.f0.f1, .string x.f1.f0, .int .i64 x.f1.f1, .int .i64 x.f2, .int .i64 x.f3] := ⟨[.string x.f0.f0, .int .i64 x.f0.f1], [.string x.f1.f0, .int .i64 x.f1.f1, .int .i64 x.f2, .int .i64 x.f3], rfl, (k72_mk w x.f0 ), ⟨[.string x.f1.f0, .int .i64 x.f1.f1], [.int .i64 x.f2, .int .i64 x.f3], rfl, (k72_mk w x.f1 ), ⟨[.int .i64 x.f2], [.int .i64 x.f3], rfl, rfl, rfl⟩⟩⟩
theorem k239_mkM (w : World) (base : Nat) (ok : Nat → Prop) (x : S239)  : k239.M w base ok x [.string x.f0.f0, .int .i64 x.f0.f1, .string x.f1.f0, .int .i64 x.f1.f1, .int .i64 x.f2, .int .i64 x.f3] := ⟨[.string x.f0.f0, .int .i64 x.f0.f1], [.string x.f1.f0, .int .i64 x.f1.f1, .int .i64 x.f2, .int .i64 x.f3], rfl, (k72_mkM w base ok x.f0 ), ⟨[.string x.f1.f0, .int .i64 x.f1.f1], [.int .i64 x.f2, .int .i64 x.f3], rfl, (k72_mkM w base ok x.f1 ), ⟨[.int .i64 x.f2], [.int .i64 x.f3], rfl, rfl, rfl⟩⟩⟩
theorem k239_mkF (W : World) (ok : Nat → Prop) (x : S239) : Kd.FK k239 W ok x [.string x.f0.f0, .int .i64 x.f0.f1, .string x.f1.f0, .int .i64 x.f1.f1, .int .i64 x.f2, .int .i64 x.f3] := fun W2 _ => k239_mk W2 x
def rd_T239 (xs : List S239) (i : Int) : S239 := xs.getD i.toNat z239
theorem at_T239 {w : World} {A : Option Addr} {n : Nat} {xs : List S239} (h : Kd.C k239 w A n xs) (i : Int) (h0 : 0 ≤ i) (h1 : i < n) : ∃ ad , A = some ad ∧ w.cell? (ad.add (i.toNat * 6)) = some (.string (rd_T239 xs i).f0.f0) ∧ w.cell? ⟨(ad.add (i.toNat * 6)).block, (ad.add (i.toNat * 6)).off + 1, none⟩ = some (.int .i64 (rd_T239 xs i).f0.f1) ∧ w.cell? ⟨(ad.add (i.toNat * 6)).block, (ad.add (i.toNat * 6)).off + 2, none⟩ = some (.string (rd_T239 xs i).f1.f0) ∧ w.cell? ⟨(ad.add (i.toNat * 6)).block, (ad.add (i.toNat * 6)).off + 3, none⟩ = some (.int .i64 (rd_T239 xs i).f1.f1) ∧ w.cell? ⟨(ad.add (i.toNat * 6)).block, (ad.add (i.toNat * 6)).off + 4, none⟩ = some (.int .i64 (rd_T239 xs i).f2) ∧ w.cell? ⟨(ad.add (i.toNat * 6)).block, (ad.add (i.toNat * 6)).off + 5, none⟩ = some (.int .i64 (rd_T239 xs i).f3) := by
  obtain ⟨ad, c, e, _, hK, hc0⟩ := Kd.C_get h z239 i h0 h1
  have hc : ∀ j u, c[j]? = some u → w.cell? (ad.add (i.toNat * 6 + j)) = some u := hc0
  obtain rfl := k239_open hK
  exact ⟨ad, e, hc 0 _ rfl, by rw [← add_field _ _ 1 (by omega)]; exact hc 1 _ rfl, by rw [← add_field _ _ 2 (by omega)]; exact hc 2 _ rfl, by rw [← add_field _ _ 3 (by omega)]; exact hc 3 _ rfl, by rw [← add_field _ _ 4 (by omega)]; exact hc 4 _ rfl, by rw [← add_field _ _ 5 (by omega)]; exact hc 5 _ rfl⟩

def rd_L19 (xs : List (List S239)) (i : Int) : (List S239) := xs.getD i.toNat ([] : List S239)
theorem at_L19 {w : World} {A : Option Addr} {n : Nat} {xs : List (List S239)} (h : Kd.C (Kd.slice 239 k239) w A n xs) (i : Int) (h0 : 0 ≤ i) (h1 : i < n) : ∃ ad A0 c0, A = some ad ∧ w.cell? (ad.add i.toNat) = some (.slice A0 (rd_L19 xs i).length c0) ∧ (rd_L19 xs i).length ≤ c0 ∧ k239.C w A0 (rd_L19 xs i).length (rd_L19 xs i) := by
  obtain ⟨ad, c, e, _, hK, hc0⟩ := Kd.C_get h ([] : List S239) i h0 h1
  have hc : ∀ j u, c[j]? = some u → w.cell? (ad.add (i.toNat * 1 + j)) = some u := hc0
  obtain ⟨A0, c0, rfl, l0, g0⟩ := hK
  exact ⟨ad, A0, c0, e, by have hq := hc 0 _ rfl; rwa [Nat.mul_one, Nat.add_zero] at hq, l0, g0⟩

/-! #### struct type 75, nested in itself -/
structure S75 where
  f0 : Int
  f1 : S72
  f2 : Int
  f3 : Int
  f4 : Int
  f5 : (List S75)
def z75 : S75 := ⟨(0 : Int), z72, (0 : Int), (0 : Int), (0 : Int), ([] : List S75)⟩
def F75 (d : Kd S75) : Kd S75 := Kd.iso (Kd.pair (Kd.int .i64) (Kd.pair k72 (Kd.pair (Kd.int .i64) (Kd.pair (Kd.int .i64) (Kd.pair (Kd.int .i64) (Kd.slice 75 d)))))) (fun x : S75 => (x.f0, x.f1, x.f2, x.f3, x.f4, x.f5))
theorem mono75 : Kd.Mono F75 := Kd.mono_iso _ (Kd.mono_pair (Kd.mono_const _) (Kd.mono_pair (Kd.mono_const _) (Kd.mono_pair (Kd.mono_const _) (Kd.mono_pair (Kd.mono_const _) (Kd.mono_pair (Kd.mono_const _) (Kd.mono_slice 75 Kd.mono_id))))))
theorem sub75 : Kd.Sub F75 [75] := Kd.sub_iso _ (Kd.sub_pair (Kd.sub_const _ (by decide)) (Kd.sub_pair (Kd.sub_const _ (by decide)) (Kd.sub_pair (Kd.sub_const _ (by decide)) (Kd.sub_pair (Kd.sub_const _ (by decide)) (Kd.sub_pair (Kd.sub_const _ (by decide)) (Kd.sub_slice 75 (by decide) Kd.sub_id))))))
theorem sz75 : ∀ n, (Kd.upto F75 7 [75] n).sz = 7 := Kd.upto_sz (fun _ => rfl)
def k75 : Kd S75 := Kd.fix F75 7 [75] sz75 (Kd.upto_E sub75)
theorem k75_open {w : World} {x : S75} {cs : List Value} (h : k75.K w x cs) : ∃ A6 c6, cs = [.int .i64 x.f0, .string x.f1.f0, .int .i64 x.f1.f1, .int .i64 x.f2, .int .i64 x.f3, .int .i64 x.f4, .slice A6 x.f5.length c6] ∧ x.f5.length ≤ c6 ∧ k75.C w A6 x.f5.length x.f5 := by
  obtain ⟨n, h⟩ := h
  cases n with
  | zero => exact h.elim
  | succ n =>
    obtain ⟨_, _, rfl, rfl, ⟨_, _, rfl, s1, ⟨_, _, rfl, rfl, ⟨_, _, rfl, rfl, ⟨_, _, rfl, rfl, ⟨A6, c6, rfl, l6, g6⟩⟩⟩⟩⟩⟩ := h
    obtain rfl := k72_open s1
    exact ⟨A6, c6, rfl, l6, Kd.fix_C g6⟩
theorem k75_openM {w : World} {base : Nat} {ok : Nat → Prop} {x : S75} {cs : List Value} (h : k75.M w base ok x cs) : ∃ v6, cs = [.int .i64 x.f0, .string x.f1.f0, .int .i64 x.f1.f1, .int .i64 x.f2, .int .i64 x.f3, .int .i64 x.f4, v6] ∧ k75.R 75 w base ok v6 x.f5 := by
  obtain ⟨n, h⟩ := h
  cases n with
  | zero => exact h.elim
  | succ n =>
    obtain ⟨_, _, rfl, rfl, ⟨_, _, rfl, s1, ⟨_, _, rfl, rfl, ⟨_, _, rfl, rfl, ⟨_, _, rfl, rfl, ⟨v6, rfl, g6⟩⟩⟩⟩⟩⟩ := h
    obtain rfl := k72_openM s1
    exact ⟨v6, rfl, Kd.fix_R g6⟩
theorem k75_mk (w : World) (x : S75) {A6 : Option Addr} {c6 : Nat} (l6 : x.f5.length ≤ c6) (g6 : k75.C w A6 x.f5.length x.f5) : k75.K w x [.int .i64 x.f0, .string x.f1.f0, .int .i64 x.f1.f1, .int .i64 x.f2, .int .i64 x.f3, .int .i64 x.f4, .slice A6 x.f5.length c6] := by
  obtain ⟨n6, q6⟩ := Kd.fix_C_back mono75 g6
  have r6 := Kd.upto_C_le mono75 sz75 (show n6 ≤ n6 by omega) q6
  exact ⟨n6 + 1, ⟨[.int .i64 x.f0], [.string x.f1.f0, .int .i64 x.f1.f1, .int .i64 x.f2, .int .i64 x.f3, .int .i64 x.f4, .slice A6 x.f5.length c6], rfl, rfl, ⟨[.string x.f1.f0, .int .i64 x.f1.f1], [.int .i64 x.f2, .int .i64 x.f3, .int .i64 x.f4, .slice A6 x.f5.length c6], rfl, (k72_mk w x.f1 ), ⟨[.int .i64 x.f2], [.int .i64 x.f3, .int .i64 x.f4, .slice A6 x.f5.length c6], rfl, rfl, ⟨[.int .i64 x.f3], [.int .i64 x.f4, .slice A6 x.f5.length c6], rfl, rfl, ⟨[.int .i64 x.f4], [.slice A6 x.f5.length c6], rfl, rfl, ⟨A6, c6, rfl, l6, r6⟩⟩⟩⟩⟩⟩⟩
theorem k75_mkM (w : World) (base : Nat) (ok : Nat → Prop) (x : S75) {v6 : Value} (g6 : k75.R 75 w base ok v6 x.f5) : k75.M w base ok x [.int .i64 x.f0, .string x.f1.f0, .int .i64 x.f1.f1, .int .i64 x.f2, .int .i64 x.f3, .int .i64 x.f4, v6] := by
  obtain ⟨n6, q6⟩ := Kd.fix_R_back mono75 g6
  have r6 := Kd.upto_R_le mono75 sz75 (show n6 ≤ n6 by omega) q6
  exact ⟨n6 + 1, ⟨[.int .i64 x.f0], [.string x.f1.f0, .int .i64 x.f1.f1, .int .i64 x.f2, .int .i64 x.f3, .int .i64 x.f4, v6], rfl, rfl, ⟨[.string x.f1.f0, .int .i64 x.f1.f1], [.int .i64 x.f2, .int .i64 x.f3, .int .i64 x.f4, v6], rfl, (k72_mkM w base ok x.f1 ), ⟨[.int .i64 x.f2], [.int .i64 x.f3, .int .i64 x.f4, v6], rfl, rfl, ⟨[.int .i64 x.f3], [.int .i64 x.f4, v6], rfl, rfl, ⟨[.int .i64 x.f4], [v6], rfl, rfl, ⟨v6, rfl, r6⟩⟩⟩⟩⟩⟩⟩
theorem k75_openF {W : World} {ok : Nat → Prop} {x : S75} {cs : List Value} (h : Kd.FK k75 W ok x cs) : ∃ A6 c6, cs = [.int .i64 x.f0, .string x.f1.f0, .int .i64 x.f1.f1, .int .i64 x.f2, .int .i64 x.f3, .int .i64 x.f4, .slice A6 x.f5.length c6] ∧ x.f5.length ≤ c6 ∧ Kd.F k75 W ok A6 x.f5.length x.f5 := by
  obtain ⟨A6, c6, rfl, l6, _⟩ := k75_open (Kd.FK_now h)
  exact ⟨A6, c6, rfl, l6, (fun W' hW => by obtain ⟨A6_, c6_, he, l6_, g6_⟩ := k75_open (h W' hW); injection (Option.some.inj (show some (Value.slice A6 x.f5.length c6) = some (Value.slice A6_ x.f5.length c6_) from congrArg (fun l => l[6]?) he)) with ha_ _ _; rw [ha_]; exact g6_)⟩
theorem k75_mkF (W : World) (ok : Nat → Prop) (x : S75) {A6 : Option Addr} {c6 : Nat} (l6 : x.f5.length ≤ c6) (g6 : Kd.F k75 W ok A6 x.f5.length x.f5) : Kd.FK k75 W ok x [.int .i64 x.f0, .string x.f1.f0, .int .i64 x.f1.f1, .int .i64 x.f2, .int .i64 x.f3, .int .i64 x.f4, .slice A6 x.f5.length c6] := fun W2 hW => k75_mk W2 x l6 (g6 W2 hW)
def rd_T75 (xs : List S75) (i : Int) : S75 := xs.getD i.toNat z75
theorem at_T75 {w : World} {A : Option Addr} {n : Nat} {xs : List S75} (h : Kd.C k75 w A n xs) (i : Int) (h0 : 0 ≤ i) (h1 : i < n) : ∃ ad A6 c6, A = some ad ∧ w.cell? (ad.add (i.toNat * 7)) = some (.int .i64 (rd_T75 xs i).f0) ∧ w.cell? ⟨(ad.add (i.toNat * 7)).block, (ad.add (i.toNat * 7)).off + 1, none⟩ = some (.string (rd_T75 xs i).f1.f0) ∧ w.cell? ⟨(ad.add (i.toNat * 7)).block, (ad.add (i.toNat * 7)).off + 2, none⟩ = some (.int .i64 (rd_T75 xs i).f1.f1) ∧ w.cell? ⟨(ad.add (i.toNat * 7)).block, (ad.add (i.toNat * 7)).off + 3, none⟩ = some (.int .i64 (rd_T75 xs i).f2) ∧ w.cell? ⟨(ad.add (i.toNat * 7)).block, (ad.add (i.toNat * 7)).off + 4, none⟩ = some (.int .i64 (rd_T75 xs i).f3) ∧ w.cell? ⟨(ad.add (i.toNat * 7)).block, (ad.add (i.toNat * 7)).off + 5, none⟩ = some (.int .i64 (rd_T75 xs i).f4) ∧ w.cell? ⟨(ad.add (i.toNat * 7)).block, (ad.add (i.toNat * 7)).off + 6, none⟩ = some (.slice A6 (rd_T75 xs i).f5.length c6) ∧ (rd_T75 xs i).f5.length ≤ c6 ∧ k75.C w A6 (rd_T75 xs i).f5.length (rd_T75 xs i).f5 := by
  obtain ⟨ad, c, e, _, hK, hc0⟩ := Kd.C_get h z75 i h0 h1
  have hc : ∀ j u, c[j]? = some u → w.cell? (ad.add (i.toNat * 7 + j)) = some u := hc0
  obtain ⟨A6, c6, rfl, l6, g6⟩ := k75_open hK
  exact ⟨ad, A6, c6, e, hc 0 _ rfl, by rw [← add_field _ _ 1 (by omega)]; exact hc 1 _ rfl, by rw [← add_field _ _ 2 (by omega)]; exact hc 2 _ rfl, by rw [← add_field _ _ 3 (by omega)]; exact hc 3 _ rfl, by rw [← add_field _ _ 4 (by omega)]; exact hc 4 _ rfl, by rw [← add_field _ _ 5 (by omega)]; exact hc 5 _ rfl, by rw [← add_field _ _ 6 (by omega)]; exact hc 6 _ rfl, l6, g6⟩

def rd_L21 (xs : List (List S75)) (i : Int) : (List S75) := xs.getD i.toNat ([] : List S75)
theorem at_L21 {w : World} {A : Option Addr} {n : Nat} {xs : List (List S75)} (h : Kd.C (Kd.slice 75 k75) w A n xs) (i : Int) (h0 : 0 ≤ i) (h1 : i < n) : ∃ ad A0 c0, A = some ad ∧ w.cell? (ad.add i.toNat) = some (.slice A0 (rd_L21 xs i).length c0) ∧ (rd_L21 xs i).length ≤ c0 ∧ k75.C w A0 (rd_L21 xs i).length (rd_L21 xs i) := by
  obtain ⟨ad, c, e, _, hK, hc0⟩ := Kd.C_get h ([] : List S75) i h0 h1
  have hc : ∀ j u, c[j]? = some u → w.cell? (ad.add (i.toNat * 1 + j)) = some u := hc0
  obtain ⟨A0, c0, rfl, l0, g0⟩ := hK
  exact ⟨ad, A0, c0, e, by have hq := hc 0 _ rfl; rwa [Nat.mul_one, Nat.add_zero] at hq, l0, g0⟩

/-! #### struct type 243, nested in itself -/
structure S243 where
  f0 : Int
  f1 : S72
  f2 : Int
  f3 : Int
  f4 : (List S75)
  f5 : (List S243)
def z243 : S243 := ⟨(0 : Int), z72, (0 : Int), (0 : Int), ([] : List S75), ([] : List S243)⟩
def F243 (d : Kd S243) : Kd S243 := Kd.iso (Kd.pair (Kd.int .i64) (Kd.pair k72 (Kd.pair (Kd.int .i64) (Kd.pair (Kd.int .i64) (Kd.pair (Kd.slice 75 k75) (Kd.slice 243 d)))))) (fun x : S243 => (x.f0, x.f1, x.f2, x.f3, x.f4, x.f5))
theorem mono243 : Kd.Mono F243 := Kd.mono_iso _ (Kd.mono_pair (Kd.mono_const _) (Kd.mono_pair (Kd.mono_const _) (Kd.mono_pair (Kd.mono_const _) (Kd.mono_pair (Kd.mono_const _) (Kd.mono_pair (Kd.mono_const _) (Kd.mono_slice 243 Kd.mono_id))))))
theorem sub243 : Kd.Sub F243 [75, 243] := Kd.sub_iso _ (Kd.sub_pair (Kd.sub_const _ (by decide)) (Kd.sub_pair (Kd.sub_const _ (by decide)) (Kd.sub_pair (Kd.sub_const _ (by decide)) (Kd.sub_pair (Kd.sub_const _ (by decide)) (Kd.sub_pair (Kd.sub_const _ (by decide)) (Kd.sub_slice 243 (by decide) Kd.sub_id))))))
theorem sz243 : ∀ n, (Kd.upto F243 7 [75, 243] n).sz = 7 := Kd.upto_sz (fun _ => rfl)
def k243 : Kd S243 := Kd.fix F243 7 [75, 243] sz243 (Kd.upto_E sub243)
theorem k243_open {w : World} {x : S243} {cs : List Value} (h : k243.K w x cs) : ∃ A5 c5 A6 c6, cs = [.int .i64 x.f0, .string x.f1.f0, .int .i64 x.f1.f1, .int .i64 x.f2, .int .i64 x.f3, .slice A5 x.f4.length c5, .slice A6 x.f5.length c6] ∧ x.f4.length ≤ c5 ∧ k75.C w A5 x.f4.length x.f4 ∧ x.f5.length ≤ c6 ∧ k243.C w A6 x.f5.length x.f5 := by
  obtain ⟨n, h⟩ := h
  cases n with
  | zero => exact h.elim
  | succ n =>
    obtain ⟨_, _, rfl, rfl, ⟨_, _, rfl, s1, ⟨_, _, rfl, rfl, ⟨_, _, rfl, rfl, ⟨_, _, rfl, ⟨A5, c5, rfl, l5, g5⟩, ⟨A6, c6, rfl, l6, g6⟩⟩⟩⟩⟩⟩ := h
    obtain rfl := k72_open s1
    exact ⟨A5, c5, A6, c6, rfl, l5, g5, l6, Kd.fix_C g6⟩
theorem k243_openM {w : World} {base : Nat} {ok : Nat → Prop} {x : S243} {cs : List Value} (h : k243.M w base ok x cs) : ∃ v5 v6, cs = [.int .i64 x.f0, .string x.f1.f0, .int .i64 x.f1.f1, .int .i64 x.f2, .int .i64 x.f3, v5, v6] ∧ k75.R 75 w base ok v5 x.f4 ∧ k243.R 243 w base ok v6 x.f5 := by
  obtain ⟨n, h⟩ := h
  cases n with
  | zero => exact h.elim
  | succ n =>
    obtain ⟨_, _, rfl, rfl, ⟨_, _, rfl, s1, ⟨_, _, rfl, rfl, ⟨_, _, rfl, rfl, ⟨_, _, rfl, ⟨v5, rfl, g5⟩, ⟨v6, rfl, g6⟩⟩⟩⟩⟩⟩ := h
    obtain rfl := k72_openM s1
    exact ⟨v5, v6, rfl, g5, Kd.fix_R g6⟩
theorem k243_mk (w : World) (x : S243) {A5 : Option Addr} {c5 : Nat} (l5 : x.f4.length ≤ c5) (g5 : k75.C w A5 x.f4.length x.f4) {A6 : Option Addr} {c6 : Nat} (l6 : x.f5.length ≤ c6) (g6 : k243.C w A6 x.f5.length x.f5) : k243.K w x [.int .i64 x.f0, .string x.f1.f0, .int .i64 x.f1.f1, .int .i64 x.f2, .int .i64 x.f3, .slice A5 x.f4.length c5, .slice A6 x.f5.length c6] := by
  obtain ⟨n6, q6⟩ := Kd.fix_C_back mono243 g6
  have r6 := Kd.upto_C_le mono243 sz243 (show n6 ≤ n6 by omega) q6
  exact ⟨n6 + 1, ⟨[.int .i64 x.f0], [.string x.f1.f0, .int .i64 x.f1.f1, .int .i64 x.f2, .int .i64 x.f3, .slice A5 x.f4.length c5, .slice A6 x.f5.length c6], rfl, rfl, ⟨[.string x.f1.f0, .int .i64 x.f1.f1], [.int .i64 x.f2, .int .i64 x.f3, .slice A5 x.f4.length c5, .slice A6 x.f5.length c6], rfl, (k72_mk w x.f1 ), ⟨[.int .i64 x.f2], [.int .i64 x.f3, .slice A5 x.f4.length c5, .slice A6 x.f5.length c6], rfl, rfl, ⟨[.int .i64 x.f3], [.slice A5 x.f4.length c5, .slice A6 x.f5.length c6], rfl, rfl, ⟨[.slice A5 x.f4.length c5], [.slice A6 x.f5.length c6], rfl, ⟨A5, c5, rfl, l5, g5⟩, ⟨A6, c6, rfl, l6, r6⟩⟩⟩⟩⟩⟩⟩
theorem k243_mkM (w : World) (base : Nat) (ok : Nat → Prop) (x : S243) {v5 : Value} (g5 : k75.R 75 w base ok v5 x.f4) {v6 : Value} (g6 : k243.R 243 w base ok v6 x.f5) : k243.M w base ok x [.int .i64 x.f0, .string x.f1.f0, .int .i64 x.f1.f1, .int .i64 x.f2, .int .i64 x.f3, v5, v6] := by
  obtain ⟨n6, q6⟩ := Kd.fix_R_back mono243 g6
  have r6 := Kd.upto_R_le mono243 sz243 (show n6 ≤ n6 by omega) q6
  exact ⟨n6 + 1, ⟨[.int .i64 x.f0], [.string x.f1.f0, .int .i64 x.f1.f1, .int .i64 x.f2, .int .i64 x.f3, v5, v6], rfl, rfl, ⟨[.string x.f1.f0, .int .i64 x.f1.f1], [.int .i64 x.f2, .int .i64 x.f3, v5, v6], rfl, (k72_mkM w base ok x.f1 ), ⟨[.int .i64 x.f2], [.int .i64 x.f3, v5, v6], rfl, rfl, ⟨[.int .i64 x.f3], [v5, v6], rfl, rfl, ⟨[v5], [v6], rfl, ⟨v5, rfl, g5⟩, ⟨v6, rfl, r6⟩⟩⟩⟩⟩⟩⟩
theorem k243_openF {W : World} {ok : Nat → Prop} {x : S243} {cs : List Value} (h : Kd.FK k243 W ok x cs) : ∃ A5 c5 A6 c6, cs = [.int .i64 x.f0, .string x.f1.f0, .int .i64 x.f1.f1, .int .i64 x.f2, .int .i64 x.f3, .slice A5 x.f4.length c5, .slice A6 x.f5.length c6] ∧ x.f4.length ≤ c5 ∧ Kd.F k75 W ok A5 x.f4.length x.f4 ∧ x.f5.length ≤ c6 ∧ Kd.F k243 W ok A6 x.f5.length x.f5 := by
  obtain ⟨A5, c5, A6, c6, rfl, l5, _, l6, _⟩ := k243_open (Kd.FK_now h)
  exact ⟨A5, c5, A6, c6, rfl, l5, (fun W' hW => by obtain ⟨A5_, c5_, A6_, c6_, he, l5_, g5_, l6_, g6_⟩ := k243_open (h W' hW); injection (Option.some.inj (show some (Value.slice A5 x.f4.length c5) = some (Value.slice A5_ x.f4.length c5_) from congrArg (fun l => l[5]?) he)) with ha_ _ _; rw [ha_]; exact g5_), l6, (fun W' hW => by obtain ⟨A5_, c5_, A6_, c6_, he, l5_, g5_, l6_, g6_⟩ := k243_open (h W' hW); injection (Option.some.inj (show some (Value.slice A6 x.f5.length c6) = some (Value.slice A6_ x.f5.length c6_) from congrArg (fun l => l[6]?) he)) with ha_ _ _; rw [ha_]; exact g6_)⟩
theorem k243_mkF (W : World) (ok : Nat → Prop) (x : S243) {A5 : Option Addr} {c5 : Nat} (l5 : x.f4.length ≤ c5) (g5 : Kd.F k75 W ok A5 x.f4.length x.f4) {A6 : Option Addr} {c6 : Nat} (l6 : x.f5.length ≤ c6) (g6 : Kd.F k243 W ok A6 x.f5.length x.f5) : Kd.FK k243 W ok x [.int .i64 x.f0, .string x.f1.f0, .int .i64 x.f1.f1, .int .i64 x.f2, .int .i64 x.f3, .slice A5 x.f4.length c5, .slice A6 x.f5.length c6] := fun W2 hW => k243_mk W2 x l5 (g5 W2 hW) l6 (g6 W2 hW)
def rd_T243 (xs : List S243) (i : Int) : S243 := xs.getD i.toNat z243
theorem at_T243 {w : World} {A : Option Addr} {n : Nat} {xs : List S243} (h : Kd.C k243 w A n xs) (i : Int) (h0 : 0 ≤ i) (h1 : i < n) : ∃ ad A5 c5 A6 c6, A = some ad ∧ w.cell? (ad.add (i.toNat * 7)) = some (.int .i64 (rd_T243 xs i).f0) ∧ w.cell? ⟨(ad.add (i.toNat * 7)).block, (ad.add (i.toNat * 7)).off + 1, none⟩ = some (.string (rd_T243 xs i).f1.f0) ∧ w.cell? ⟨(ad.add (i.toNat * 7)).block, (ad.add (i.toNat * 7)).off + 2, none⟩ = some (.int .i64 (rd_T243 xs i).f1.f1) ∧ w.cell? ⟨(ad.add (i.toNat * 7)).block, (ad.add (i.toNat * 7)).off + 3, none⟩ = some (.int .i64 (rd_T243 xs i).f2) ∧ w.cell? ⟨(ad.add (i.toNat * 7)).block, (ad.add (i.toNat * 7)).off + 4, none⟩ = some (.int .i64 (rd_T243 xs i).f3) ∧ w.cell? ⟨(ad.add (i.toNat * 7)).block, (ad.add (i.toNat * 7)).off + 5, none⟩ = some (.slice A5 (rd_T243 xs i).f4.length c5) ∧ w.cell? ⟨(ad.add (i.toNat * 7)).block, (ad.add (i.toNat * 7)).off + 6, none⟩ = some (.slice A6 (rd_T243 xs i).f5.length c6) ∧ (rd_T243 xs i).f4.length ≤ c5 ∧ k75.C w A5 (rd_T243 xs i).f4.length (rd_T243 xs i).f4 ∧ (rd_T243 xs i).f5.length ≤ c6 ∧ k243.C w A6 (rd_T243 xs i).f5.length (rd_T243 xs i).f5 := by
  obtain ⟨ad, c, e, _, hK, hc0⟩ := Kd.C_get h z243 i h0 h1
  have hc : ∀ j u, c[j]? = some u → w.cell? (ad.add (i.toNat * 7 + j)) = some u := hc0
  obtain ⟨A5, c5, A6, c6, rfl, l5, g5, l6, g6⟩ := k243_open hK
  exact ⟨ad, A5, c5, A6, c6, e, hc 0 _ rfl, by rw [← add_field _ _ 1 (by omega)]; exact hc 1 _ rfl, by rw [← add_field _ _ 2 (by omega)]; exact hc 2 _ rfl, by rw [← add_field _ _ 3 (by omega)]; exact hc 3 _ rfl, by rw [← add_field _ _ 4 (by omega)]; exact hc 4 _ rfl, by rw [← add_field _ _ 5 (by omega)]; exact hc 5 _ rfl, by rw [← add_field _ _ 6 (by omega)]; exact hc 6 _ rfl, l5, g5, l6, g6⟩

def rd_L23 (xs : List (List S243)) (i : Int) : (List S243) := xs.getD i.toNat ([] : List S243)
theorem at_L23 {w : World} {A : Option Addr} {n : Nat} {xs : List (List S243)} (h : Kd.C (Kd.slice 243 k243) w A n xs) (i : Int) (h0 : 0 ≤ i) (h1 : i < n) : ∃ ad A0 c0, A = some ad ∧ w.cell? (ad.add i.toNat) = some (.slice A0 (rd_L23 xs i).length c0) ∧ (rd_L23 xs i).length ≤ c0 ∧ k243.C w A0 (rd_L23 xs i).length (rd_L23 xs i) := by
  obtain ⟨ad, c, e, _, hK, hc0⟩ := Kd.C_get h ([] : List S243) i h0 h1
  have hc : ∀ j u, c[j]? = some u → w.cell? (ad.add (i.toNat * 1 + j)) = some u := hc0
  obtain ⟨A0, c0, rfl, l0, g0⟩ := hK
  exact ⟨ad, A0, c0, e, by have hq := hc 0 _ rfl; rwa [Nat.mul_one, Nat.add_zero] at hq, l0, g0⟩

/-! #### struct type 241 -/
structure S241 where
  f0 : S72
  f1 : S72
  f2 : (List S239)
  f3 : (List S239)
  f4 : (List S243)
  f5 : S75
def z241 : S241 := ⟨z72, z72, ([] : List S239), ([] : List S239), ([] : List S243), z75⟩
def k241 : Kd S241 := Kd.iso (Kd.pair k72 (Kd.pair k72 (Kd.pair (Kd.slice 239 k239) (Kd.pair (Kd.slice 239 k239) (Kd.pair (Kd.slice 243 k243) k75))))) (fun x : S241 => (x.f0, x.f1, x.f2, x.f3, x.f4, x.f5))
theorem k241_open {w : World} {x : S241} {cs : List Value} (h : k241.K w x cs) : ∃ A4 c4 A5 c5 A6 c6 A13 c13, cs = [.string x.f0.f0, .int .i64 x.f0.f1, .string x.f1.f0, .int .i64 x.f1.f1, .slice A4 x.f2.length c4, .slice A5 x.f3.length c5, .slice A6 x.f4.length c6, .int .i64 x.f5.f0, .string x.f5.f1.f0, .int .i64 x.f5.f1.f1, .int .i64 x.f5.f2, .int .i64 x.f5.f3, .int .i64 x.f5.f4, .slice A13 x.f5.f5.length c13] ∧ x.f2.length ≤ c4 ∧ k239.C w A4 x.f2.length x.f2 ∧ x.f3.length ≤ c5 ∧ k239.C w A5 x.f3.length x.f3 ∧ x.f4.length ≤ c6 ∧ k243.C w A6 x.f4.length x.f4 ∧ x.f5.f5.length ≤ c13 ∧ k75.C w A13 x.f5.f5.length x.f5.f5 := by
  obtain ⟨_, _, rfl, s0, ⟨_, _, rfl, s2, ⟨_, _, rfl, ⟨A4, c4, rfl, l4, g4⟩, ⟨_, _, rfl, ⟨A5, c5, rfl, l5, g5⟩, ⟨_, _, rfl, ⟨A6, c6, rfl, l6, g6⟩, s7⟩⟩⟩⟩⟩ := h
  obtain rfl := k72_open s0
  obtain rfl := k72_open s2
  obtain ⟨A13, c13, rfl, l13, g13⟩ := k75_open s7
  exact ⟨A4, c4, A5, c5, A6, c6, A13, c13, rfl, l4, g4, l5, g5, l6, g6, l13, g13⟩
theorem k241_openM {w : World} {base : Nat} {ok : Nat → Prop} {x : S241} {cs : List Value} (h : k241.M w base ok x cs) : ∃ v4 v5 v6 v13, cs = [.string x.f0.f0, .int .i64 x.f0.f1, .string x.f1.f0, .int .i64 x.f1.f1, v4, v5, v6, .int .i64 x.f5.f0, .string x.f5.f1.f0, .int .i64 x.f5.f1.f1, .int .i64 x.f5.f2, .int .i64 x.f5.f3, .int .i64 x.f5.f4, v13] ∧ k239.R 239 w base ok v4 x.f2 ∧ k239.R 239 w base ok v5 x.f3 ∧ k243.R 243 w base ok v6 x.f4 ∧ k75.R 75 w base ok v13 x.f5.f5 := by
  obtain ⟨_, _, rfl, s0, ⟨_, _, rfl, s2, ⟨_, _, rfl, ⟨v4, rfl, g4⟩, ⟨_, _, rfl, ⟨v5, rfl, g5⟩, ⟨_, _, rfl, ⟨v6, rfl, g6⟩, s7⟩⟩⟩⟩⟩ := h
  obtain rfl := k72_openM s0
  obtain rfl := k72_openM s2
  obtain ⟨v13, rfl, g13⟩ := k75_openM s7
  exact ⟨v4, v5, v6, v13, rfl, g4, g5, g6, g13⟩
theorem k241_mk (w : World) (x : S241) {A4 : Option Addr} {c4 : Nat} (l4 : x.f2.length ≤ c4) (g4 : k239.C w A4 x.f2.length x.f2) {A5 : Option Addr} {c5 : Nat} (l5 : x.f3.length ≤ c5) (g5 : k239.C w A5 x.f3.length x.f3) {A6 : Option Addr} {c6 : Nat} (l6 : x.f4.length ≤ c6) (g6 : k243.C w A6 x.f4.length x.f4) {A13 : Option Addr} {c13 : Nat} (l13 : x.f5.f5.length ≤ c13) (g13 : k75.C w A13 x.f5.f5.length x.f5.f5) : k241.K w x [.string x.f0.f0, .int .i64 x.f0.f1, .string x.f1.f0, .int .i64 x.f1.f1, .slice A4 x.f2.length c4, .slice A5 x.f3.length c5, .slice A6 x.f4.length c6, .int .i64 x.f5.f0, .string x.f5.f1.f0, .int .i64 x.f5.f1.f1, .int .i64 x.f5.f2, .int .i64 x.f5.f3, .int .i64 x.f5.f4, .slice A13 x.f5.f5.length c13] := ⟨[.string x.f0.f0, .int .i64 x.f0.f1], [.string x.f1.f0, .int .i64 x.f1.f1, .slice A4 x.f2.length c4, .slice A5 x.f3.length c5, .slice A6 x.f4.length c6, .int .i64 x.f5.f0, .string x.f5.f1.f0, .int .i64 x.f5.f1.f1, .int .i64 x.f5.f2, .int .i64 x.f5.f3, .int .i64 x.f5.f4, .slice A13 x.f5.f5.length c13], rfl, (k72_mk w x.f0 ), ⟨[.string x.f1.f0, .int .i64 x.f1.f1], [.slice A4 x.f2.length c4, .slice A5 x.f3.length c5, .slice A6 x.f4.length c6, .int .i64 x.f5.f0, .string x.f5.f1.f0, .int .i64 x.f5.f1.f1, .int .i64 x.f5.f2, .int .i64 x.f5.f3, .int .i64 x.f5.f4, .slice A13 x.f5.f5.length c13], rfl, (k72_mk w x.f1 ), ⟨[.slice A4 x.f2.length c4], [.slice A5 x.f3.length c5, .slice A6 x.f4.length c6, .int .i64 x.f5.f0, .string x.f5.f1.f0, .int .i64 x.f5.f1.f1, .int .i64 x.f5.f2, .int .i64 x.f5.f3, .int .i64 x.f5.f4, .slice A13 x.f5.f5.length c13], rfl, ⟨A4, c4, rfl, l4, g4⟩, ⟨[.slice A5 x.f3.length c5], [.slice A6 x.f4.length c6, .int .i64 x.f5.f0, .string x.f5.f1.f0, .int .i64 x.f5.f1.f1, .int .i64 x.f5.f2, .int .i64 x.f5.f3, .int .i64 x.f5.f4, .slice A13 x.f5.f5.length c13], rfl, ⟨A5, c5, rfl, l5, g5⟩, ⟨[.slice A6 x.f4.length c6], [.int .i64 x.f5.f0, .string x.f5.f1.f0, .int .i64 x.f5.f1.f1, .int .i64 x.f5.f2, .int .i64 x.f5.f3, .int .i64 x.f5.f4, .slice A13 x.f5.f5.length c13], rfl, ⟨A6, c6, rfl, l6, g6⟩, (k75_mk w x.f5 l13 g13)⟩⟩⟩⟩⟩
theorem k241_mkM (w : World) (base : Nat) (ok : Nat → Prop) (x : S241) {v4 : Value} (g4 : k239.R 239 w base ok v4 x.f2) {v5 : Value} (g5 : k239.R 239 w base ok v5 x.f3) {v6 : Value} (g6 : k243.R 243 w base ok v6 x.f4) {v13 : Value} (g13 : k75.R 75 w base ok v13 x.f5.f5) : k241.M w base ok x [.string x.f0.f0, .int .i64 x.f0.f1, .string x.f1.f0, .int .i64 x.f1.f1, v4, v5, v6, .int .i64 x.f5.f0, .string x.f5.f1.f0, .int .i64 x.f5.f1.f1, .int .i64 x.f5.f2, .int .i64 x.f5.f3, .int .i64 x.f5.f4, v13] := ⟨[.string x.f0.f0, .int .i64 x.f0.f1], [.string x.f1.f0, .int .i64 x.f1.f1, v4, v5, v6, .int .i64 x.f5.f0, .string x.f5.f1.f0, .int .i64 x.f5.f1.f1, .int .i64 x.f5.f2, .int .i64 x.f5.f3, .int .i64 x.f5.f4, v13], rfl, (k72_mkM w base ok x.f0 ), ⟨[.string x.f1.f0, .int .i64 x.f1.f1], [v4, v5, v6, .int .i64 x.f5.f0, .string x.f5.f1.f0, .int .i64 x.f5.f1.f1, .int .i64 x.f5.f2, .int .i64 x.f5.f3, .int .i64 x.f5.f4, v13], rfl, (k72_mkM w base ok x.f1 ), ⟨[v4], [v5, v6, .int .i64 x.f5.f0, .string x.f5.f1.f0, .int .i64 x.f5.f1.f1, .int .i64 x.f5.f2, .int .i64 x.f5.f3, .int .i64 x.f5.f4, v13], rfl, ⟨v4, rfl, g4⟩, ⟨[v5], [v6, .int .i64 x.f5.f0, .string x.f5.f1.f0, .int .i64 x.f5.f1.f1, .int .i64 x.f5.f2, .int .i64 x.f5.f3, .int .i64 x.f5.f4, v13], rfl, ⟨v5, rfl, g5⟩, ⟨[v6], [.int .i64 x.f5.f0, .string x.f5.f1.f0, .int .i64 x.f5.f1.f1, .int .i64 x.f5.f2, .int .i64 x.f5.f3, .int .i64 x.f5.f4, v13], rfl, ⟨v6, rfl, g6⟩, (k75_mkM w base ok x.f5 g13)⟩⟩⟩⟩⟩
theorem k241_openF {W : World} {ok : Nat → Prop} {x : S241} {cs : List Value} (h : Kd.FK k241 W ok x cs) : ∃ A4 c4 A5 c5 A6 c6 A13 c13, cs = [.string x.f0.f0, .int .i64 x.f0.f1, .string x.f1.f0, .int .i64 x.f1.f1, .slice A4 x.f2.length c4, .slice A5 x.f3.length c5, .slice A6 x.f4.length c6, .int .i64 x.f5.f0, .string x.f5.f1.f0, .int .i64 x.f5.f1.f1, .int .i64 x.f5.f2, .int .i64 x.f5.f3, .int .i64 x.f5.f4, .slice A13 x.f5.f5.length c13] ∧ x.f2.length ≤ c4 ∧ Kd.F k239 W ok A4 x.f2.length x.f2 ∧ x.f3.length ≤ c5 ∧ Kd.F k239 W ok A5 x.f3.length x.f3 ∧ x.f4.length ≤ c6 ∧ Kd.F k243 W ok A6 x.f4.length x.f4 ∧ x.f5.f5.length ≤ c13 ∧ Kd.F k75 W ok A13 x.f5.f5.length x.f5.f5 := by
  obtain ⟨A4, c4, A5, c5, A6, c6, A13, c13, rfl, l4, _, l5, _, l6, _, l13, _⟩ := k241_open (Kd.FK_now h)
  exact ⟨A4, c4, A5, c5, A6, c6, A13, c13, rfl, l4, (fun W' hW => by obtain ⟨A4_, c4_, A5_, c5_, A6_, c6_, A13_, c13_, he, l4_, g4_, l5_, g5_, l6_, g6_, l13_, g13_⟩ := k241_open (h W' hW); injection (Option.some.inj (show some (Value.slice A4 x.f2.length c4) = some (Value.slice A4_ x.f2.length c4_) from congrArg (fun l => l[4]?) he)) with ha_ _ _; rw [ha_]; exact g4_), l5, (fun W' hW => by obtain ⟨A4_, c4_, A5_, c5_, A6_, c6_, A13_, c13_, he, l4_, g4_, l5_, g5_, l6_, g6_, l13_, g13_⟩ := k241_open (h W' hW); injection (Option.some.inj (show some (Value.slice A5 x.f3.length c5) = some (Value.slice A5_ x.f3.length c5_) from congrArg (fun l => l[5]?) he)) with ha_ _ _; rw [ha_]; exact g5_), l6, (fun W' hW => by obtain ⟨A4_, c4_, A5_, c5_, A6_, c6_, A13_, c13_, he, l4_, g4_, l5_, g5_, l6_, g6_, l13_, g13_⟩ := k241_open (h W' hW); injection (Option.some.inj (show some (Value.slice A6 x.f4.length c6) = some (Value.slice A6_ x.f4.length c6_) from congrArg (fun l => l[6]?) he)) with ha_ _ _; rw [ha_]; exact g6_), l13, (fun W' hW => by obtain ⟨A4_, c4_, A5_, c5_, A6_, c6_, A13_, c13_, he, l4_, g4_, l5_, g5_, l6_, g6_, l13_, g13_⟩ := k241_open (h W' hW); injection (Option.some.inj (show some (Value.slice A13 x.f5.f5.length c13) = some (Value.slice A13_ x.f5.f5.length c13_) from congrArg (fun l => l[13]?) he)) with ha_ _ _; rw [ha_]; exact g13_)⟩
theorem k241_mkF (W : World) (ok : Nat → Prop) (x : S241) {A4 : Option Addr} {c4 : Nat} (l4 : x.f2.length ≤ c4) (g4 : Kd.F k239 W ok A4 x.f2.length x.f2) {A5 : Option Addr} {c5 : Nat} (l5 : x.f3.length ≤ c5) (g5 : Kd.F k239 W ok A5 x.f3.length x.f3) {A6 : Option Addr} {c6 : Nat} (l6 : x.f4.length ≤ c6) (g6 : Kd.F k243 W ok A6 x.f4.length x.f4) {A13 : Option Addr} {c13 : Nat} (l13 : x.f5.f5.length ≤ c13) (g13 : Kd.F k75 W ok A13 x.f5.f5.length x.f5.f5) : Kd.FK k241 W ok x [.string x.f0.f0, .int .i64 x.f0.f1, .string x.f1.f0, .int .i64 x.f1.f1, .slice A4 x.f2.length c4, .slice A5 x.f3.length c5, .slice A6 x.f4.length c6, .int .i64 x.f5.f0, .string x.f5.f1.f0, .int .i64 x.f5.f1.f1, .int .i64 x.f5.f2, .int .i64 x.f5.f3, .int .i64 x.f5.f4, .slice A13 x.f5.f5.length c13] := fun W2 hW => k241_mk W2 x l4 (g4 W2 hW) l5 (g5 W2 hW) l6 (g6 W2 hW) l13 (g13 W2 hW)
def rd_T241 (xs : List S241) (i : Int) : S241 := xs.getD i.toNat z241
theorem at_T241 {w : World} {A : Option Addr} {n : Nat} {xs : List S241} (h : Kd.C k241 w A n xs) (i : Int) (h0 : 0 ≤ i) (h1 : i < n) : ∃ ad A4 c4 A5 c5 A6 c6 A13 c13, A = some ad ∧ w.cell? (ad.add (i.toNat * 14)) = some (.string (rd_T241 xs i).f0.f0) ∧ w.cell? ⟨(ad.add (i.toNat * 14)).block, (ad.add (i.toNat * 14)).off + 1, none⟩ = some (.int .i64 (rd_T241 xs i).f0.f1) ∧ w.cell? ⟨(ad.add (i.toNat * 14)).block, (ad.add (i.toNat * 14)).off + 2, none⟩ = some (.string (rd_T241 xs i).f1.f0) ∧ w.cell? ⟨(ad.add (i.toNat * 14)).block, (ad.add (i.toNat * 14)).off + 3, none⟩ = some (.int .i64 (rd_T241 xs i).f1.f1) ∧ w.cell? ⟨(ad.add (i.toNat * 14)).block, (ad.add (i.toNat * 14)).off + 4, none⟩ = some (.slice A4 (rd_T241 xs i).f2.length c4) ∧ w.cell? ⟨(ad.add (i.toNat * 14)).block, (ad.add (i.toNat * 14)).off + 5, none⟩ = some (.slice A5 (rd_T241 xs i).f3.length c5) ∧ w.cell? ⟨(ad.add (i.toNat * 14)).block, (ad.add (i.toNat * 14)).off + 6, none⟩ = some (.slice A6 (rd_T241 xs i).f4.length c6) ∧ w.cell? ⟨(ad.add (i.toNat * 14)).block, (ad.add (i.toNat * 14)).off + 7, none⟩ = some (.int .i64 (rd_T241 xs i).f5.f0) ∧ w.cell? ⟨(ad.add (i.toNat * 14)).block, (ad.add (i.toNat * 14)).off + 8, none⟩ = some (.string (rd_T241 xs i).f5.f1.f0) ∧ w.cell? ⟨(ad.add (i.toNat * 14)).block, (ad.add (i.toNat * 14)).off + 9, none⟩ = some (.int .i64 (rd_T241 xs i).f5.f1.f1) ∧ w.cell? ⟨(ad.add (i.toNat * 14)).block, (ad.add (i.toNat * 14)).off + 10, none⟩ = some (.int .i64 (rd_T241 xs i).f5.f2) ∧ w.cell? ⟨(ad.add (i.toNat * 14)).block, (ad.add (i.toNat * 14)).off + 11, none⟩ = some (.int .i64 (rd_T241 xs i).f5.f3) ∧ w.cell? ⟨(ad.add (i.toNat * 14)).block, (ad.add (i.toNat * 14)).off + 12, none⟩ = some (.int .i64 (rd_T241 xs i).f5.f4) ∧ w.cell? ⟨(ad.add (i.toNat * 14)).block, (ad.add (i.toNat * 14)).off + 13, none⟩ = some (.slice A13 (rd_T241 xs i).f5.f5.length c13) ∧ (rd_T241 xs i).f2.length ≤ c4 ∧ k239.C w A4 (rd_T241 xs i).f2.length (rd_T241 xs i).f2 ∧ (rd_T241 xs i).f3.length ≤ c5 ∧ k239.C w A5 (rd_T241 xs i).f3.length (rd_T241 xs i).f3 ∧ (rd_T241 xs i).f4.length ≤ c6 ∧ k243.C w A6 (rd_T241 xs i).f4.length (rd_T241 xs i).f4 ∧ (rd_T241 xs i).f5.f5.length ≤ c13 ∧ k75.C w A13 (rd_T241 xs i).f5.f5.length (rd_T241 xs i).f5.f5 := by
  obtain ⟨ad, c, e, _, hK, hc0⟩ := Kd.C_get h z241 i h0 h1
  have hc : ∀ j u, c[j]? = some u → w.cell? (ad.add (i.toNat * 14 + j)) = some u := hc0
  obtain ⟨A4, c4, A5, c5, A6, c6, A13, c13, rfl, l4, g4, l5, g5, l6, g6, l13, g13⟩ := k241_open hK
  exact ⟨ad, A4, c4, A5, c5, A6, c6, A13, c13, e, hc 0 _ rfl, by rw [← add_field _ _ 1 (by omega)]; exact hc 1 _ rfl, by rw [← add_field _ _ 2 (by omega)]; exact hc 2 _ rfl, by rw [← add_field _ _ 3 (by omega)]; exact hc 3 _ rfl, by rw [← add_field _ _ 4 (by omega)]; exact hc 4 _ rfl, by rw [← add_field _ _ 5 (by omega)]; exact hc 5 _ rfl, by rw [← add_field _ _ 6 (by omega)]; exact hc 6 _ rfl, by rw [← add_field _ _ 7 (by omega)]; exact hc 7 _ rfl, by rw [← add_field _ _ 8 (by omega)]; exact hc 8 _ rfl, by rw [← add_field _ _ 9 (by omega)]; exact hc 9 _ rfl, by rw [← add_field _ _ 10 (by omega)]; exact hc 10 _ rfl, by rw [← add_field _ _ 11 (by omega)]; exact hc 11 _ rfl, by rw [← add_field _ _ 12 (by omega)]; exact hc 12 _ rfl, by rw [← add_field _ _ 13 (by omega)]; exact hc 13 _ rfl, l4, g4, l5, g5, l6, g6, l13, g13⟩

def rd_L25 (xs : List (List S241)) (i : Int) : (List S241) := xs.getD i.toNat ([] : List S241)
theorem at_L25 {w : World} {A : Option Addr} {n : Nat} {xs : List (List S241)} (h : Kd.C (Kd.slice 241 k241) w A n xs) (i : Int) (h0 : 0 ≤ i) (h1 : i < n) : ∃ ad A0 c0, A = some ad ∧ w.cell? (ad.add i.toNat) = some (.slice A0 (rd_L25 xs i).length c0) ∧ (rd_L25 xs i).length ≤ c0 ∧ k241.C w A0 (rd_L25 xs i).length (rd_L25 xs i) := by
  obtain ⟨ad, c, e, _, hK, hc0⟩ := Kd.C_get h ([] : List S241) i h0 h1
  have hc : ∀ j u, c[j]? = some u → w.cell? (ad.add (i.toNat * 1 + j)) = some u := hc0
  obtain ⟨A0, c0, rfl, l0, g0⟩ := hK
  exact ⟨ad, A0, c0, e, by have hq := hc 0 _ rfl; rwa [Nat.mul_one, Nat.add_zero] at hq, l0, g0⟩

/-! #### struct type 138 -/
structure S138 where
  f0 : Bool
  f1 : S72
  f2 : S72
  f3 : (List S239)
  f4 : (List S241)
  f5 : S72
  f6 : (List S243)
def z138 : S138 := ⟨false, z72, z72, ([] : List S239), ([] : List S241), z72, ([] : List S243)⟩
def k138 : Kd S138 := Kd.iso (Kd.pair Kd.bool (Kd.pair k72 (Kd.pair k72 (Kd.pair (Kd.slice 239 k239) (Kd.pair (Kd.slice 241 k241) (Kd.pair k72 (Kd.slice 243 k243))))))) (fun x : S138 => (x.f0, x.f1, x.f2, x.f3, x.f4, x.f5, x.f6))
theorem k138_open {w : World} {x : S138} {cs : List Value} (h : k138.K w x cs) : ∃ A5 c5 A6 c6 A9 c9, cs = [.bool x.f0, .string x.f1.f0, .int .i64 x.f1.f1, .string x.f2.f0, .int .i64 x.f2.f1, .slice A5 x.f3.length c5, .slice A6 x.f4.length c6, .string x.f5.f0, .int .i64 x.f5.f1, .slice A9 x.f6.length c9] ∧ x.f3.length ≤ c5 ∧ k239.C w A5 x.f3.length x.f3 ∧ x.f4.length ≤ c6 ∧ k241.C w A6 x.f4.length x.f4 ∧ x.f6.length ≤ c9 ∧ k243.C w A9 x.f6.length x.f6 := by
  obtain ⟨_, _, rfl, rfl, ⟨_, _, rfl, s1, ⟨_, _, rfl, s3, ⟨_, _, rfl, ⟨A5, c5, rfl, l5, g5⟩, ⟨_, _, rfl, ⟨A6, c6, rfl, l6, g6⟩, ⟨_, _, rfl, s7, ⟨A9, c9, rfl, l9, g9⟩⟩⟩⟩⟩⟩⟩ := h
  obtain rfl := k72_open s1
  obtain rfl := k72_open s3
  obtain rfl := k72_open s7
  exact ⟨A5, c5, A6, c6, A9, c9, rfl, l5, g5, l6, g6, l9, g9⟩
theorem k138_openM {w : World} {base : Nat} {ok : Nat → Prop} {x : S138} {cs : List Value} (h : k138.M w base ok x cs) : ∃ v5 v6 v9, cs = [.bool x.f0, .string x.f1.f0, .int .i64 x.f1.f1, .string x.f2.f0, .int .i64 x.f2.f1, v5, v6, .string x.f5.f0, .int .i64 x.f5.f1, v9] ∧ k239.R 239 w base ok v5 x.f3 ∧ k241.R 241 w base ok v6 x.f4 ∧ k243.R 243 w base ok v9 x.f6 := by
  obtain ⟨_, _, rfl, rfl, ⟨_, _, rfl, s1, ⟨_, _, rfl, s3, ⟨_, _, rfl, ⟨v5, rfl, g5⟩, ⟨_, _, rfl, ⟨v6, rfl, g6⟩, ⟨_, _, rfl, s7, ⟨v9, rfl, g9⟩⟩⟩⟩⟩⟩⟩ := h
  obtain rfl := k72_openM s1
  obtain rfl := k72_openM s3
  obtain rfl := k72_openM s7
  exact ⟨v5, v6, v9, rfl, g5, g6, g9⟩
theorem k138_mk (w : World) (x : S138) {A5 : Option Addr} {c5 : Nat} (l5 : x.f3.length ≤ c5) (g5 : k239.C w A5 x.f3.length x.f3) {A6 : Option Addr} {c6 : Nat} (l6 : x.f4.length ≤ c6) (g6 : k241.C w A6 x.f4.length x.f4) {A9 : Option Addr} {c9 : Nat} (l9 : x.f6.length ≤ c9) (g9 : k243.C w A9 x.f6.length x.f6) : k138.K w x [.bool x.f0, .string x.f1.f0, .int .i64 x.f1.f1, .string x.f2.f0, .int .i64 x.f2.f1, .slice A5 x.f3.length c5, .slice A6 x.f4.length c6, .string x.f5.f0, .int .i64 x.f5.f1, .slice A9 x.f6.length c9] := ⟨[.bool x.f0], [.string x.f1.f0, .int .i64 x.f1.f1, .string x.f2.f0, .int .i64 x.f2.f1, .slice A5 x.f3.length c5, .slice A6 x.f4.length c6, .string x.f5.f0, .int .i64 x.f5.f1, .slice A9 x.f6.length c9], rfl, rfl, ⟨[.string x.f1.f0, .int .i64 x.f1.f1], [.string x.f2.f0, .int .i64 x.f2.f1, .slice A5 x.f3.length c5, .slice A6 x.f4.length c6, .string x.f5.f0, .int .i64 x.f5.f1, .slice A9 x.f6.length c9], rfl, (k72_mk w x.f1 ), ⟨[.string x.f2.f0, .int .i64 x.f2.f1], [.slice A5 x.f3.length c5, .slice A6 x.f4.length c6, .string x.f5.f0, .int .i64 x.f5.f1, .slice A9 x.f6.length c9], rfl, (k72_mk w x.f2 ), ⟨[.slice A5 x.f3.length c5], [.slice A6 x.f4.length c6, .string x.f5.f0, .int .i64 x.f5.f1, .slice A9 x.f6.length c9], rfl, ⟨A5, c5, rfl, l5, g5⟩, ⟨[.slice A6 x.f4.length c6], [.string x.f5.f0, .int .i64 x.f5.f1, .slice A9 x.f6.length c9], rfl, ⟨A6, c6, rfl, l6, g6⟩, ⟨[.string x.f5.f0, .int .i64 x.f5.f1], [.slice A9 x.f6.length c9], rfl, (k72_mk w x.f5 ), ⟨A9, c9, rfl, l9, g9⟩⟩⟩⟩⟩⟩⟩
theorem k138_mkM (w : World) (base : Nat) (ok : Nat → Prop) (x : S138) {v5 : Value} (g5 : k239.R 239 w base ok v5 x.f3) {v6 : Value} (g6 : k241.R 241 w base ok v6 x.f4) {v9 : Value} (g9 : k243.R 243 w base ok v9 x.f6) : k138.M w base ok x [.bool x.f0, .string x.f1.f0, .int .i64 x.f1.f1, .string x.f2.f0, .int .i64 x.f2.f1, v5, v6, .string x.f5.f0, .int .i64 x.f5.f1, v9] := ⟨[.bool x.f0], [.string x.f1.f0, .int .i64 x.f1.f1, .string x.f2.f0, .int .i64 x.f2.f1, v5, v6, .string x.f5.f0, .int .i64 x.f5.f1, v9], rfl, rfl, ⟨[.string x.f1.f0, .int .i64 x.f1.f1], [.string x.f2.f0, .int .i64 x.f2.f1, v5, v6, .string x.f5.f0, .int .i64 x.f5.f1, v9], rfl, (k72_mkM w base ok x.f1 ), ⟨[.string x.f2.f0, .int .i64 x.f2.f1], [v5, v6, .string x.f5.f0, .int .i64 x.f5.f1, v9], rfl, (k72_mkM w base ok x.f2 ), ⟨[v5], [v6, .string x.f5.f0, .int .i64 x.f5.f1, v9], rfl, ⟨v5, rfl, g5⟩, ⟨[v6], [.string x.f5.f0, .int .i64 x.f5.f1, v9], rfl, ⟨v6, rfl, g6⟩, ⟨[.string x.f5.f0, .int .i64 x.f5.f1], [v9], rfl, (k72_mkM w base ok x.f5 ), ⟨v9, rfl, g9⟩⟩⟩⟩⟩⟩⟩
theorem k138_openF {W : World} {ok : Nat → Prop} {x : S138} {cs : List Value} (h : Kd.FK k138 W ok x cs) : ∃ A5 c5 A6 c6 A9 c9, cs = [.bool x.f0, .string x.f1.f0, .int .i64 x.f1.f1, .string x.f2.f0, .int .i64 x.f2.f1, .slice A5 x.f3.length c5, .slice A6 x.f4.length c6, .string x.f5.f0, .int .i64 x.f5.f1, .slice A9 x.f6.length c9] ∧ x.f3.length ≤ c5 ∧ Kd.F k239 W ok A5 x.f3.length x.f3 ∧ x.f4.length ≤ c6 ∧ Kd.F k241 W ok A6 x.f4.length x.f4 ∧ x.f6.length ≤ c9 ∧ Kd.F k243 W ok A9 x.f6.length x.f6 := by
  obtain ⟨A5, c5, A6, c6, A9, c9, rfl, l5, _, l6, _, l9, _⟩ := k138_open (Kd.FK_now h)
  exact ⟨A5, c5, A6, c6, A9, c9, rfl, l5, (fun W' hW => by obtain ⟨A5_, c5_, A6_, c6_, A9_, c9_, he, l5_, g5_, l6_, g6_, l9_, g9_⟩ := k138_open (h W' hW); injection (Option.some.inj (show some (Value.slice A5 x.f3.length c5) = some (Value.slice A5_ x.f3.length c5_) from congrArg (fun l => l[5]?) he)) with ha_ _ _; rw [ha_]; exact g5_), l6, (fun W' hW => by obtain ⟨A5_, c5_, A6_, c6_, A9_, c9_, he, l5_, g5_, l6_, g6_, l9_, g9_⟩ := k138_open (h W' hW); injection (Option.some.inj (show some (Value.slice A6 x.f4.length c6) = some (Value.slice A6_ x.f4.length c6_) from congrArg (fun l => l[6]?) he)) with ha_ _ _; rw [ha_]; exact g6_), l9, (fun W' hW => by obtain ⟨A5_, c5_, A6_, c6_, A9_, c9_, he, l5_, g5_, l6_, g6_, l9_, g9_⟩ := k138_open (h W' hW); injection (Option.some.inj (show some (Value.slice A9 x.f6.length c9) = some (Value.slice A9_ x.f6.length c9_) from congrArg (fun l => l[9]?) he)) with ha_ _ _; rw [ha_]; exact g9_)⟩
theorem k138_mkF (W : World) (ok : Nat → Prop) (x : S138) {A5 : Option Addr} {c5 : Nat} (l5 : x.f3.length ≤ c5) (g5 : Kd.F k239 W ok A5 x.f3.length x.f3) {A6 : Option Addr} {c6 : Nat} (l6 : x.f4.length ≤ c6) (g6 : Kd.F k241 W ok A6 x.f4.length x.f4) {A9 : Option Addr} {c9 : Nat} (l9 : x.f6.length ≤ c9) (g9 : Kd.F k243 W ok A9 x.f6.length x.f6) : Kd.FK k138 W ok x [.bool x.f0, .string x.f1.f0, .int .i64 x.f1.f1, .string x.f2.f0, .int .i64 x.f2.f1, .slice A5 x.f3.length c5, .slice A6 x.f4.length c6, .string x.f5.f0, .int .i64 x.f5.f1, .slice A9 x.f6.length c9] := fun W2 hW => k138_mk W2 x l5 (g5 W2 hW) l6 (g6 W2 hW) l9 (g9 W2 hW)
def rd_T138 (xs : List S138) (i : Int) : S138 := xs.getD i.toNat z138
theorem at_T138 {w : World} {A : Option Addr} {n : Nat} {xs : List S138} (h : Kd.C k138 w A n xs) (i : Int) (h0 : 0 ≤ i) (h1 : i < n) : ∃ ad A5 c5 A6 c6 A9 c9, A = some ad ∧ w.cell? (ad.add (i.toNat * 10)) = some (.bool (rd_T138 xs i).f0) ∧ w.cell? ⟨(ad.add (i.toNat * 10)).block, (ad.add (i.toNat * 10)).off + 1, none⟩ = some (.string (rd_T138 xs i).f1.f0) ∧ w.cell? ⟨(ad.add (i.toNat * 10)).block, (ad.add (i.toNat * 10)).off + 2, none⟩ = some (.int .i64 (rd_T138 xs i).f1.f1) ∧ w.cell? ⟨(ad.add (i.toNat * 10)).block, (ad.add (i.toNat * 10)).off + 3, none⟩ = some (.string (rd_T138 xs i).f2.f0) ∧ w.cell? ⟨(ad.add (i.toNat * 10)).block, (ad.add (i.toNat * 10)).off + 4, none⟩ = some (.int .i64 (rd_T138 xs i).f2.f1) ∧ w.cell? ⟨(ad.add (i.toNat * 10)).block, (ad.add (i.toNat * 10)).off + 5, none⟩ = some (.slice A5 (rd_T138 xs i).f3.length c5) ∧ w.cell? ⟨(ad.add (i.toNat * 10)).block, (ad.add (i.toNat * 10)).off + 6, none⟩ = some (.slice A6 (rd_T138 xs i).f4.length c6) ∧ w.cell? ⟨(ad.add (i.toNat * 10)).block, (ad.add (i.toNat * 10)).off + 7, none⟩ = some (.string (rd_T138 xs i).f5.f0) ∧ w.cell? ⟨(ad.add (i.toNat * 10)).block, (ad.add (i.toNat * 10)).off + 8, none⟩ = some (.int .i64 (rd_T138 xs i).f5.f1) ∧ w.cell? ⟨(ad.add (i.toNat * 10)).block, (ad.add (i.toNat * 10)).off + 9, none⟩ = some (.slice A9 (rd_T138 xs i).f6.length c9) ∧ (rd_T138 xs i).f3.length ≤ c5 ∧ k239.C w A5 (rd_T138 xs i).f3.length (rd_T138 xs i).f3 ∧ (rd_T138 xs i).f4.length ≤ c6 ∧ k241.C w A6 (rd_T138 xs i).f4.length (rd_T138 xs i).f4 ∧ (rd_T138 xs i).f6.length ≤ c9 ∧ k243.C w A9 (rd_T138 xs i).f6.length (rd_T138 xs i).f6 := by
  obtain ⟨ad, c, e, _, hK, hc0⟩ := Kd.C_get h z138 i h0 h1
  have hc : ∀ j u, c[j]? = some u → w.cell? (ad.add (i.toNat * 10 + j)) = some u := hc0
  obtain ⟨A5, c5, A6, c6, A9, c9, rfl, l5, g5, l6, g6, l9, g9⟩ := k138_open hK
  exact ⟨ad, A5, c5, A6, c6, A9, c9, e, hc 0 _ rfl, by rw [← add_field _ _ 1 (by omega)]; exact hc 1 _ rfl, by rw [← add_field _ _ 2 (by omega)]; exact hc 2 _ rfl, by rw [← add_field _ _ 3 (by omega)]; exact hc 3 _ rfl, by rw [← add_field _ _ 4 (by omega)]; exact hc 4 _ rfl, by rw [← add_field _ _ 5 (by omega)]; exact hc 5 _ rfl, by rw [← add_field _ _ 6 (by omega)]; exact hc 6 _ rfl, by rw [← add_field _ _ 7 (by omega)]; exact hc 7 _ rfl, by rw [← add_field _ _ 8 (by omega)]; exact hc 8 _ rfl, by rw [← add_field _ _ 9 (by omega)]; exact hc 9 _ rfl, l5, g5, l6, g6, l9, g9⟩

def rd_L27 (xs : List (List S138)) (i : Int) : (List S138) := xs.getD i.toNat ([] : List S138)
theorem at_L27 {w : World} {A : Option Addr} {n : Nat} {xs : List (List S138)} (h : Kd.C (Kd.slice 138 k138) w A n xs) (i : Int) (h0 : 0 ≤ i) (h1 : i < n) : ∃ ad A0 c0, A = some ad ∧ w.cell? (ad.add i.toNat) = some (.slice A0 (rd_L27 xs i).length c0) ∧ (rd_L27 xs i).length ≤ c0 ∧ k138.C w A0 (rd_L27 xs i).length (rd_L27 xs i) := by
  obtain ⟨ad, c, e, _, hK, hc0⟩ := Kd.C_get h ([] : List S138) i h0 h1
  have hc : ∀ j u, c[j]? = some u → w.cell? (ad.add (i.toNat * 1 + j)) = some u := hc0
  obtain ⟨A0, c0, rfl, l0, g0⟩ := hK
  exact ⟨ad, A0, c0, e, by have hq := hc 0 _ rfl; rwa [Nat.mul_one, Nat.add_zero] at hq, l0, g0⟩

def rd_L28 (xs : List (List (List S138))) (i : Int) : (List (List S138)) := xs.getD i.toNat ([] : List (List S138))
theorem at_L28 {w : World} {A : Option Addr} {n : Nat} {xs : List (List (List S138))} (h : Kd.C (Kd.slice 133 (Kd.slice 138 k138)) w A n xs) (i : Int) (h0 : 0 ≤ i) (h1 : i < n) : ∃ ad A0 c0, A = some ad ∧ w.cell? (ad.add i.toNat) = some (.slice A0 (rd_L28 xs i).length c0) ∧ (rd_L28 xs i).length ≤ c0 ∧ (Kd.slice 138 k138).C w A0 (rd_L28 xs i).length (rd_L28 xs i) := by
  obtain ⟨ad, c, e, _, hK, hc0⟩ := Kd.C_get h ([] : List (List S138)) i h0 h1
  have hc : ∀ j u, c[j]? = some u → w.cell? (ad.add (i.toNat * 1 + j)) = some u := hc0
  obtain ⟨A0, c0, rfl, l0, g0⟩ := hK
  exact ⟨ad, A0, c0, e, by have hq := hc 0 _ rfl; rwa [Nat.mul_one, Nat.add_zero] at hq, l0, g0⟩

/-! #### struct type 145 -/
structure S145 where
  f0 : Int
  f1 : S138
def z145 : S145 := ⟨(0 : Int), z138⟩
def k145 : Kd S145 := Kd.iso (Kd.pair (Kd.int .i64) k138) (fun x : S145 => (x.f0, x.f1))
theorem k145_open {w : World} {x : S145} {cs : List Value} (h : k145.K w x cs) : ∃ A6 c6 A7 c7 A10 c10, cs = [.int .i64 x.f0, .bool x.f1.f0, .string x.f1.f1.f0, .int .i64 x.f1.f1.f1, .string x.f1.f2.f0, .int .i64 x.f1.f2.f1, .slice A6 x.f1.f3.length c6, .slice A7 x.f1.f4.length c7, .string x.f1.f5.f0, .int .i64 x.f1.f5.f1, .slice A10 x.f1.f6.length c10] ∧ x.f1.f3.length ≤ c6 ∧ k239.C w A6 x.f1.f3.length x.f1.f3 ∧ x.f1.f4.length ≤ c7 ∧ k241.C w A7 x.f1.f4.length x.f1.f4 ∧ x.f1.f6.length ≤ c10 ∧ k243.C w A10 x.f1.f6.length x.f1.f6 := by
  obtain ⟨_, _, rfl, rfl, s1⟩ := h
  obtain ⟨A6, c6, A7, c7, A10, c10, rfl, l6, g6, l7, g7, l10, g10⟩ := k138_open s1
  exact ⟨A6, c6, A7, c7, A10, c10, rfl, l6, g6, l7, g7, l10, g10⟩
theorem k145_openM {w : World} {base : Nat} {ok : Nat → Prop} {x : S145} {cs : List Value} (h : k145.M w base ok x cs) : ∃ v6 v7 v10, cs = [.int .i64 x.f0, .bool x.f1.f0, .string x.f1.f1.f0, .int .i64 x.f1.f1.f1, .string x.f1.f2.f0, .int .i64 x.f1.f2.f1, v6, v7, .string x.f1.f5.f0, .int .i64 x.f1.f5.f1, v10] ∧ k239.R 239 w base ok v6 x.f1.f3 ∧ k241.R 241 w base ok v7 x.f1.f4 ∧ k243.R 243 w base ok v10 x.f1.f6 := by
  obtain ⟨_, _, rfl, rfl, s1⟩ := h
  obtain ⟨v6, v7, v10, rfl, g6, g7, g10⟩ := k138_openM s1
  exact ⟨v6, v7, v10, rfl, g6, g7, g10⟩
theorem k145_mk (w : World) (x : S145) {A6 : Option Addr} {c6 : Nat} (l6 : x.f1.f3.length ≤ c6) (g6 : k239.C w A6 x.f1.f3.length x.f1.f3) {A7 : Option Addr} {c7 : Nat} (l7 : x.f1.f4.length ≤ c7) (g7 : k241.C w A7 x.f1.f4.length x.f1.f4) {A10 : Option Addr} {c10 : Nat} (l10 : x.f1.f6.length ≤ c10) (g10 : k243.C w A10 x.f1.f6.length x.f1.f6) : k145.K w x [.int .i64 x.f0, .bool x.f1.f0, .string x.f1.f1.f0, .int .i64 x.f1.f1.f1, .string x.f1.f2.f0, .int .i64 x.f1.f2.f1, .slice A6 x.f1.f3.length c6, .slice A7 x.f1.f4.length c7, .string x.f1.f5.f0, .int .i64 x.f1.f5.f1, .slice A10 x.f1.f6.length c10] := ⟨[.int .i64 x.f0], [.bool x.f1.f0, .string x.f1.f1.f0, .int .i64 x.f1.f1.f1, .string x.f1.f2.f0, .int .i64 x.f1.f2.f1, .slice A6 x.f1.f3.length c6, .slice A7 x.f1.f4.length c7, .string x.f1.f5.f0, .int .i64 x.f1.f5.f1, .slice A10 x.f1.f6.length c10], rfl, rfl, (k138_mk w x.f1 l6 g6 l7 g7 l10 g10)⟩
theorem k145_mkM (w : World) (base : Nat) (ok : Nat → Prop) (x : S145) {v6 : Value} (g6 : k239.R 239 w base ok v6 x.f1.f3) {v7 : Value} (g7 : k241.R 241 w base ok v7 x.f1.f4) {v10 : Value} (g10 : k243.R 243 w base ok v10 x.f1.f6) : k145.M w base ok x [.int .i64 x.f0, .bool x.f1.f0, .string x.f1.f1.f0, .int .i64 x.f1.f1.f1, .string x.f1.f2.f0, .int .i64 x.f1.f2.f1, v6, v7, .string x.f1.f5.f0, .int .i64 x.f1.f5.f1, v10] := ⟨[.int .i64 x.f0], [.bool x.f1.f0, .string x.f1.f1.f0, .int .i64 x.f1.f1.f1, .string x.f1.f2.f0, .int .i64 x.f1.f2.f1, v6, v7, .string x.f1.f5.f0, .int .i64 x.f1.f5.f1, v10], rfl, rfl, (k138_mkM w base ok x.f1 g6 g7 g10)⟩
theorem k145_openF {W : World} {ok : Nat → Prop} {x : S145} {cs : List Value} (h : Kd.FK k145 W ok x cs) : ∃ A6 c6 A7 c7 A10 c10, cs = [.int .i64 x.f0, .bool x.f1.f0, .string x.f1.f1.f0, .int .i64 x.f1.f1.f1, .string x.f1.f2.f0, .int .i64 x.f1.f2.f1, .slice A6 x.f1.f3.length c6, .slice A7 x.f1.f4.length c7, .string x.f1.f5.f0, .int .i64 x.f1.f5.f1, .slice A10 x.f1.f6.length c10] ∧ x.f1.f3.length ≤ c6 ∧ Kd.F k239 W ok A6 x.f1.f3.length x.f1.f3 ∧ x.f1.f4.length ≤ c7 ∧ Kd.F k241 W ok A7 x.f1.f4.length x.f1.f4 ∧ x.f1.f6.length ≤ c10 ∧ Kd.F k243 W ok A10 x.f1.f6.length x.f1.f6 := by
  obtain ⟨A6, c6, A7, c7, A10, c10, rfl, l6, _, l7, _, l10, _⟩ := k145_open (Kd.FK_now h)
  exact ⟨A6, c6, A7, c7, A10, c10, rfl, l6, (fun W' hW => by obtain ⟨A6_, c6_, A7_, c7_, A10_, c10_, he, l6_, g6_, l7_, g7_, l10_, g10_⟩ := k145_open (h W' hW); injection (Option.some.inj (show some (Value.slice A6 x.f1.f3.length c6) = some (Value.slice A6_ x.f1.f3.length c6_) from congrArg (fun l => l[6]?) he)) with ha_ _ _; rw [ha_]; exact g6_), l7, (fun W' hW => by obtain ⟨A6_, c6_, A7_, c7_, A10_, c10_, he, l6_, g6_, l7_, g7_, l10_, g10_⟩ := k145_open (h W' hW); injection (Option.some.inj (show some (Value.slice A7 x.f1.f4.length c7) = some (Value.slice A7_ x.f1.f4.length c7_) from congrArg (fun l => l[7]?) he)) with ha_ _ _; rw [ha_]; exact g7_), l10, (fun W' hW => by obtain ⟨A6_, c6_, A7_, c7_, A10_, c10_, he, l6_, g6_, l7_, g7_, l10_, g10_⟩ := k145_open (h W' hW); injection (Option.some.inj (show some (Value.slice A10 x.f1.f6.length c10) = some (Value.slice A10_ x.f1.f6.length c10_) from congrArg (fun l => l[10]?) he)) with ha_ _ _; rw [ha_]; exact g10_)⟩
theorem k145_mkF (W : World) (ok : Nat → Prop) (x : S145) {A6 : Option Addr} {c6 : Nat} (l6 : x.f1.f3.length ≤ c6) (g6 : Kd.F k239 W ok A6 x.f1.f3.length x.f1.f3) {A7 : Option Addr} {c7 : Nat} (l7 : x.f1.f4.length ≤ c7) (g7 : Kd.F k241 W ok A7 x.f1.f4.length x.f1.f4) {A10 : Option Addr} {c10 : Nat} (l10 : x.f1.f6.length ≤ c10) (g10 : Kd.F k243 W ok A10 x.f1.f6.length x.f1.f6) : Kd.FK k145 W ok x [.int .i64 x.f0, .bool x.f1.f0, .string x.f1.f1.f0, .int .i64 x.f1.f1.f1, .string x.f1.f2.f0, .int .i64 x.f1.f2.f1, .slice A6 x.f1.f3.length c6, .slice A7 x.f1.f4.length c7, .string x.f1.f5.f0, .int .i64 x.f1.f5.f1, .slice A10 x.f1.f6.length c10] := fun W2 hW => k145_mk W2 x l6 (g6 W2 hW) l7 (g7 W2 hW) l10 (g10 W2 hW)
def rd_T145 (xs : List S145) (i : Int) : S145 := xs.getD i.toNat z145
theorem at_T145 {w : World} {A : Option Addr} {n : Nat} {xs : List S145} (h : Kd.C k145 w A n xs) (i : Int) (h0 : 0 ≤ i) (h1 : i < n) : ∃ ad A6 c6 A7 c7 A10 c10, A = some ad ∧ w.cell? (ad.add (i.toNat * 11)) = some (.int .i64 (rd_T145 xs i).f0) ∧ w.cell? ⟨(ad.add (i.toNat * 11)).block, (ad.add (i.toNat * 11)).off + 1, none⟩ = some (.bool (rd_T145 xs i).f1.f0) ∧ w.cell? ⟨(ad.add (i.toNat * 11)).block, (ad.add (i.toNat * 11)).off + 2, none⟩ = some (.string (rd_T145 xs i).f1.f1.f0) ∧ w.cell? ⟨(ad.add (i.toNat * 11)).block, (ad.add (i.toNat * 11)).off + 3, none⟩ = some (.int .i64 (rd_T145 xs i).f1.f1.f1) ∧ w.cell? ⟨(ad.add (i.toNat * 11)).block, (ad.add (i.toNat * 11)).off + 4, none⟩ = some (.string (rd_T145 xs i).f1.f2.f0) ∧ w.cell? ⟨(ad.add (i.toNat * 11)).block, (ad.add (i.toNat * 11)).off + 5, none⟩ = some (.int .i64 (rd_T145 xs i).f1.f2.f1) ∧ w.cell? ⟨(ad.add (i.toNat * 11)).block, (ad.add (i.toNat * 11)).off + 6, none⟩ = some (.slice A6 (rd_T145 xs i).f1.f3.length c6) ∧ w.cell? ⟨(ad.add (i.toNat * 11)).block, (ad.add (i.toNat * 11)).off + 7, none⟩ = some (.slice A7 (rd_T145 xs i).f1.f4.length c7) ∧ w.cell? ⟨(ad.add (i.toNat * 11)).block, (ad.add (i.toNat * 11)).off + 8, none⟩ = some (.string (rd_T145 xs i).f1.f5.f0) ∧ w.cell? ⟨(ad.add (i.toNat * 11)).block, (ad.add (i.toNat * 11)).off + 9, none⟩ = some (.int .i64 (rd_T145 xs i).f1.f5.f1) ∧ w.cell? ⟨(ad.add (i.toNat * 11)).block, (ad.add (i.toNat * 11)).off + 10, none⟩ = some (.slice A10 (rd_T145 xs i).f1.f6.length c10) ∧ (rd_T145 xs i).f1.f3.length ≤ c6 ∧ k239.C w A6 (rd_T145 xs i).f1.f3.length (rd_T145 xs i).f1.f3 ∧ (rd_T145 xs i).f1.f4.length ≤ c7 ∧ k241.C w A7 (rd_T145 xs i).f1.f4.length (rd_T145 xs i).f1.f4 ∧ (rd_T145 xs i).f1.f6.length ≤ c10 ∧ k243.C w A10 (rd_T145 xs i).f1.f6.length (rd_T145 xs i).f1.f6 := by
  obtain ⟨ad, c, e, _, hK, hc0⟩ := Kd.C_get h z145 i h0 h1
  have hc : ∀ j u, c[j]? = some u → w.cell? (ad.add (i.toNat * 11 + j)) = some u := hc0
  obtain ⟨A6, c6, A7, c7, A10, c10, rfl, l6, g6, l7, g7, l10, g10⟩ := k145_open hK
  exact ⟨ad, A6, c6, A7, c7, A10, c10, e, hc 0 _ rfl, by rw [← add_field _ _ 1 (by omega)]; exact hc 1 _ rfl, by rw [← add_field _ _ 2 (by omega)]; exact hc 2 _ rfl, by rw [← add_field _ _ 3 (by omega)]; exact hc 3 _ rfl, by rw [← add_field _ _ 4 (by omega)]; exact hc 4 _ rfl, by rw [← add_field _ _ 5 (by omega)]; exact hc 5 _ rfl, by rw [← add_field _ _ 6 (by omega)]; exact hc 6 _ rfl, by rw [← add_field _ _ 7 (by omega)]; exact hc 7 _ rfl, by rw [← add_field _ _ 8 (by omega)]; exact hc 8 _ rfl, by rw [← add_field _ _ 9 (by omega)]; exact hc 9 _ rfl, by rw [← add_field _ _ 10 (by omega)]; exact hc 10 _ rfl, l6, g6, l7, g7, l10, g10⟩

def rd_L30 (xs : List (List S145)) (i : Int) : (List S145) := xs.getD i.toNat ([] : List S145)
theorem at_L30 {w : World} {A : Option Addr} {n : Nat} {xs : List (List S145)} (h : Kd.C (Kd.slice 145 k145) w A n xs) (i : Int) (h0 : 0 ≤ i) (h1 : i < n) : ∃ ad A0 c0, A = some ad ∧ w.cell? (ad.add i.toNat) = some (.slice A0 (rd_L30 xs i).length c0) ∧ (rd_L30 xs i).length ≤ c0 ∧ k145.C w A0 (rd_L30 xs i).length (rd_L30 xs i) := by
  obtain ⟨ad, c, e, _, hK, hc0⟩ := Kd.C_get h ([] : List S145) i h0 h1
  have hc : ∀ j u, c[j]? = some u → w.cell? (ad.add (i.toNat * 1 + j)) = some u := hc0
  obtain ⟨A0, c0, rfl, l0, g0⟩ := hK
  exact ⟨ad, A0, c0, e, by have hq := hc 0 _ rfl; rwa [Nat.mul_one, Nat.add_zero] at hq, l0, g0⟩

/-! #### struct type 129 -/
structure S129 where
  f0 : ByteArray
  f1 : ByteArray
  f2 : Bool
  f3 : Int
  f4 : Int
def z129 : S129 := ⟨(⟨#[]⟩ : ByteArray), (⟨#[]⟩ : ByteArray), false, (0 : Int), (0 : Int)⟩
def k129 : Kd S129 := Kd.iso (Kd.pair Kd.string (Kd.pair Kd.string (Kd.pair Kd.bool (Kd.pair (Kd.int .i64) (Kd.int .i64))))) (fun x : S129 => (x.f0, x.f1, x.f2, x.f3, x.f4))
theorem k129_open {w : World} {x : S129} {cs : List Value} (h : k129.K w x cs) : cs = [.string x.f0, .string x.f1, .bool x.f2, .int .i64 x.f3, .int .i64 x.f4] := by
  obtain ⟨_, _, rfl, rfl, ⟨_, _, rfl, rfl, ⟨_, _, rfl, rfl, ⟨_, _, rfl, rfl, rfl⟩⟩⟩⟩ := h
  exact rfl
theorem k129_openM {w : World} {base : Nat} {ok : Nat → Prop} {x : S129} {cs : List Value} (h : k129.M w base ok x cs) : cs = [.string x.f0, .string x.f1, .bool x.f2, .int .i64 x.f3, .int .i64 x.f4] := by
  obtain ⟨_, _, rfl, rfl, ⟨_, _, rfl, rfl, ⟨_, _, rfl, rfl, ⟨_, _, rfl, rfl, rfl⟩⟩⟩⟩ := h
  exact rfl
theorem k129_mk (w : World) (x : S129)  : k129.K w x [.string x.f0, .string x.f1, .bool x.f2, .int .i64 x.f3, .int .i64 x.f4] := ⟨[.string x.f0], [.string x.f1, .bool x.f2, .int .i64 x.f3, .int .i64 x.f4], rfl, rfl, ⟨[.string x.f1], [.bool x.f2, .int .i64 x.f3, .int .i64 x.f4], rfl, rfl, ⟨[.bool x.f2], [.int .i64 x.f3, .int .i64 x.f4], rfl, rfl, ⟨[.int .i64 x.f3], [.int .i64 x.f4], rfl, rfl, rfl⟩⟩⟩⟩
theorem k129_mkM (w : World) (base : Nat) (ok : Nat → Prop) (x : S129)  : k129.M w base ok x [.string x.f0, .string x.f1, .bool x.f2, .int .i64 x.f3, .int .i64 x.f4] := ⟨[.string x.f0], [.string x.f1, .bool x.f2, .int .i64 x.f3, .int .i64 x.f4], rfl, rfl, ⟨[.string x.f1], [.bool x.f2, .int .i64 x.f3, .int .i64 x.f4], rfl, rfl, ⟨[.bool x.f2], [.int .i64 x.f3, .int .i64 x.f4], rfl, rfl, ⟨[.int .i64 x.f3], [.int .i64 x.f4], rfl, rfl, rfl⟩⟩⟩⟩
theorem k129_mkF (W : World) (ok : Nat → Prop) (x : S129) : Kd.FK k129 W ok x [.string x.f0, .string x.f1, .bool x.f2, .int .i64 x.f3, .int .i64 x.f4] := fun W2 _ => k129_mk W2 x
def rd_T129 (xs : List S129) (i : Int) : S129 := xs.getD i.toNat z129
theorem at_T129 {w : World} {A : Option Addr} {n : Nat} {xs : List S129} (h : Kd.C k129 w A n xs) (i : Int) (h0 : 0 ≤ i) (h1 : i < n) : ∃ ad , A = some ad ∧ w.cell? (ad.add (i.toNat * 5)) = some (.string (rd_T129 xs i).f0) ∧ w.cell? ⟨(ad.add (i.toNat * 5)).block, (ad.add (i.toNat * 5)).off + 1, none⟩ = some (.string (rd_T129 xs i).f1) ∧ w.cell? ⟨(ad.add (i.toNat * 5)).block, (ad.add (i.toNat * 5)).off + 2, none⟩ = some (.bool (rd_T129 xs i).f2) ∧ w.cell? ⟨(ad.add (i.toNat * 5)).block, (ad.add (i.toNat * 5)).off + 3, none⟩ = some (.int .i64 (rd_T129 xs i).f3) ∧ w.cell? ⟨(ad.add (i.toNat * 5)).block, (ad.add (i.toNat * 5)).off + 4, none⟩ = some (.int .i64 (rd_T129 xs i).f4) := by
  obtain ⟨ad, c, e, _, hK, hc0⟩ := Kd.C_get h z129 i h0 h1
  have hc : ∀ j u, c[j]? = some u → w.cell? (ad.add (i.toNat * 5 + j)) = some u := hc0
  obtain rfl := k129_open hK
  exact ⟨ad, e, hc 0 _ rfl, by rw [← add_field _ _ 1 (by omega)]; exact hc 1 _ rfl, by rw [← add_field _ _ 2 (by omega)]; exact hc 2 _ rfl, by rw [← add_field _ _ 3 (by omega)]; exact hc 3 _ rfl, by rw [← add_field _ _ 4 (by omega)]; exact hc 4 _ rfl⟩

def rd_L32 (xs : List (List S129)) (i : Int) : (List S129) := xs.getD i.toNat ([] : List S129)
theorem at_L32 {w : World} {A : Option Addr} {n : Nat} {xs : List (List S129)} (h : Kd.C (Kd.slice 129 k129) w A n xs) (i : Int) (h0 : 0 ≤ i) (h1 : i < n) : ∃ ad A0 c0, A = some ad ∧ w.cell? (ad.add i.toNat) = some (.slice A0 (rd_L32 xs i).length c0) ∧ (rd_L32 xs i).length ≤ c0 ∧ k129.C w A0 (rd_L32 xs i).length (rd_L32 xs i) := by
  obtain ⟨ad, c, e, _, hK, hc0⟩ := Kd.C_get h ([] : List S129) i h0 h1
  have hc : ∀ j u, c[j]? = some u → w.cell? (ad.add (i.toNat * 1 + j)) = some u := hc0
  obtain ⟨A0, c0, rfl, l0, g0⟩ := hK
  exact ⟨ad, A0, c0, e, by have hq := hc 0 _ rfl; rwa [Nat.mul_one, Nat.add_zero] at hq, l0, g0⟩

/-! #### struct type 113 -/
structure S113 where
  f0 : Int
  f1 : Int
  f2 : Int
def z113 : S113 := ⟨(0 : Int), (0 : Int), (0 : Int)⟩
def k113 : Kd S113 := Kd.iso (Kd.pair (Kd.int .i64) (Kd.pair (Kd.int .i64) (Kd.int .i64))) (fun x : S113 => (x.f0, x.f1, x.f2))
theorem k113_open {w : World} {x : S113} {cs : List Value} (h : k113.K w x cs) : cs = [.int .i64 x.f0, .int .i64 x.f1, .int .i64 x.f2] := by
  obtain ⟨_, _, rfl, rfl, ⟨_, _, rfl, rfl, rfl⟩⟩ := h
  exact rfl
theorem k113_openM {w : World} {base : Nat} {ok : Nat → Prop} {x : S113} {cs : List Value} (h : k113.M w base ok x cs) : cs = [.int .i64 x.f0, .int .i64 x.f1, .int .i64 x.f2] := by
  obtain ⟨_, _, rfl, rfl, ⟨_, _, rfl, rfl, rfl⟩⟩ := h
  exact rfl
theorem k113_mk (w : World) (x : S113)  : k113.K w x [.int .i64 x.f0, .int .i64 x.f1, .int .i64 x.f2] := ⟨[.int .i64 x.f0], [.int .i64 x.f1, .int .i64 x.f2], rfl, rfl, ⟨[.int .i64 x.f1], [.int .i64 x.f2], rfl, rfl, rfl⟩⟩
theorem k113_mkM (w : World) (base : Nat) (ok : Nat → Prop) (x : S113)  : k113.M w base ok x [.int .i64 x.f0, .int .i64 x.f1, .int .i64 x.f2] := ⟨[.int .i64 x.f0], [.int .i64 x.f1, .int .i64 x.f2], rfl, rfl, ⟨[.int .i64 x.f1], [.int .i64 x.f2], rfl, rfl, rfl⟩⟩
theorem k113_mkF (W : World) (ok : Nat → Prop) (x : S113) : Kd.FK k113 W ok x [.int .i64 x.f0, .int .i64 x.f1, .int .i64 x.f2] := fun W2 _ => k113_mk W2 x
def rd_T113 (xs : List S113) (i : Int) : S113 := xs.getD i.toNat z113
theorem at_T113 {w : World} {A : Option Addr} {n : Nat} {xs : List S113} (h : Kd.C k113 w A n xs) (i : Int) (h0 : 0 ≤ i) (h1 : i < n) : ∃ ad , A = some ad ∧ w.cell? (ad.add (i.toNat * 3)) = some (.int .i64 (rd_T113 xs i).f0) ∧ w.cell? ⟨(ad.add (i.toNat * 3)).block, (ad.add (i.toNat * 3)).off + 1, none⟩ = some (.int .i64 (rd_T113 xs i).f1) ∧ w.cell? ⟨(ad.add (i.toNat * 3)).block, (ad.add (i.toNat * 3)).off + 2, none⟩ = some (.int .i64 (rd_T113 xs i).f2) := by
  obtain ⟨ad, c, e, _, hK, hc0⟩ := Kd.C_get h z113 i h0 h1
  have hc : ∀ j u, c[j]? = some u → w.cell? (ad.add (i.toNat * 3 + j)) = some u := hc0
  obtain rfl := k113_open hK
  exact ⟨ad, e, hc 0 _ rfl, by rw [← add_field _ _ 1 (by omega)]; exact hc 1 _ rfl, by rw [← add_field _ _ 2 (by omega)]; exact hc 2 _ rfl⟩

def rd_L34 (xs : List (List S113)) (i : Int) : (List S113) := xs.getD i.toNat ([] : List S113)
theorem at_L34 {w : World} {A : Option Addr} {n : Nat} {xs : List (List S113)} (h : Kd.C (Kd.slice 113 k113) w A n xs) (i : Int) (h0 : 0 ≤ i) (h1 : i < n) : ∃ ad A0 c0, A = some ad ∧ w.cell? (ad.add i.toNat) = some (.slice A0 (rd_L34 xs i).length c0) ∧ (rd_L34 xs i).length ≤ c0 ∧ k113.C w A0 (rd_L34 xs i).length (rd_L34 xs i) := by
  obtain ⟨ad, c, e, _, hK, hc0⟩ := Kd.C_get h ([] : List S113) i h0 h1
  have hc : ∀ j u, c[j]? = some u → w.cell? (ad.add (i.toNat * 1 + j)) = some u := hc0
  obtain ⟨A0, c0, rfl, l0, g0⟩ := hK
  exact ⟨ad, A0, c0, e, by have hq := hc 0 _ rfl; rwa [Nat.mul_one, Nat.add_zero] at hq, l0, g0⟩

/-! #### struct type 97 -/
structure S97 where
  f0 : ByteArray
  f1 : Int
  f2 : Int
def z97 : S97 := ⟨(⟨#[]⟩ : ByteArray), (0 : Int), (0 : Int)⟩
def k97 : Kd S97 := Kd.iso (Kd.pair Kd.string (Kd.pair (Kd.int .i64) (Kd.int .i64))) (fun x : S97 => (x.f0, x.f1, x.f2))
theorem k97_open {w : World} {x : S97} {cs : List Value} (h : k97.K w x cs) : cs = [.string x.f0, .int .i64 x.f1, .int .i64 x.f2] := by
  obtain ⟨_, _, rfl, rfl, ⟨_, _, rfl, rfl, rfl⟩⟩ := h
  exact rfl
theorem k97_openM {w : World} {base : Nat} {ok : Nat → Prop} {x : S97} {cs : List Value} (h : k97.M w base ok x cs) : cs = [.string x.f0, .int .i64 x.f1, .int .i64 x.f2] := by
  obtain ⟨_, _, rfl, rfl, ⟨_, _, rfl, rfl, rfl⟩⟩ := h
  exact rfl
theorem k97_mk (w : World) (x : S97)  : k97.K w x [.string x.f0, .int .i64 x.f1, .int .i64 x.f2] := ⟨[.string x.f0], [.int .i64 x.f1, .int .i64 x.f2], rfl, rfl, ⟨[.int .i64 x.f1], [.int .i64 x.f2], rfl, rfl, rfl⟩⟩
theorem k97_mkM (w : World) (base : Nat) (ok : Nat → Prop) (x : S97)  : k97.M w base ok x [.string x.f0, .int .i64 x.f1, .int .i64 x.f2] := ⟨[.string x.f0], [.int .i64 x.f1, .int .i64 x.f2], rfl, rfl, ⟨[.int .i64 x.f1], [.int .i64 x.f2], rfl, rfl, rfl⟩⟩
theorem k97_mkF (W : World) (ok : Nat → Prop) (x : S97) : Kd.FK k97 W ok x [.string x.f0, .int .i64 x.f1, .int .i64 x.f2] := fun W2 _ => k97_mk W2 x
def rd_T97 (xs : List S97) (i : Int) : S97 := xs.getD i.toNat z97
theorem at_T97 {w : World} {A : Option Addr} {n : Nat} {xs : List S97} (h : Kd.C k97 w A n xs) (i : Int) (h0 : 0 ≤ i) (h1 : i < n) : ∃ ad , A = some ad ∧ w.cell? (ad.add (i.toNat * 3)) = some (.string (rd_T97 xs i).f0) ∧ w.cell? ⟨(ad.add (i.toNat * 3)).block, (ad.add (i.toNat * 3)).off + 1, none⟩ = some (.int .i64 (rd_T97 xs i).f1) ∧ w.cell? ⟨(ad.add (i.toNat * 3)).block, (ad.add (i.toNat * 3)).off + 2, none⟩ = some (.int .i64 (rd_T97 xs i).f2) := by
  obtain ⟨ad, c, e, _, hK, hc0⟩ := Kd.C_get h z97 i h0 h1
  have hc : ∀ j u, c[j]? = some u → w.cell? (ad.add (i.toNat * 3 + j)) = some u := hc0
  obtain rfl := k97_open hK
  exact ⟨ad, e, hc 0 _ rfl, by rw [← add_field _ _ 1 (by omega)]; exact hc 1 _ rfl, by rw [← add_field _ _ 2 (by omega)]; exact hc 2 _ rfl⟩

def rd_L36 (xs : List (List S97)) (i : Int) : (List S97) := xs.getD i.toNat ([] : List S97)
theorem at_L36 {w : World} {A : Option Addr} {n : Nat} {xs : List (List S97)} (h : Kd.C (Kd.slice 97 k97) w A n xs) (i : Int) (h0 : 0 ≤ i) (h1 : i < n) : ∃ ad A0 c0, A = some ad ∧ w.cell? (ad.add i.toNat) = some (.slice A0 (rd_L36 xs i).length c0) ∧ (rd_L36 xs i).length ≤ c0 ∧ k97.C w A0 (rd_L36 xs i).length (rd_L36 xs i) := by
  obtain ⟨ad, c, e, _, hK, hc0⟩ := Kd.C_get h ([] : List S97) i h0 h1
  have hc : ∀ j u, c[j]? = some u → w.cell? (ad.add (i.toNat * 1 + j)) = some u := hc0
  obtain ⟨A0, c0, rfl, l0, g0⟩ := hK
  exact ⟨ad, A0, c0, e, by have hq := hc 0 _ rfl; rwa [Nat.mul_one, Nat.add_zero] at hq, l0, g0⟩

end Go.Proofs.Ytoakelgcbbbieaa
