/- Elements of slices that came in; blocks from world to world. -/
import Derived.Test.YtampgoendkjkhaaExp
namespace Go.Proofs.Ytampgoendkjkhaa.H
open Go.RowKit Go.Shelf Go.Proofs.YtampgoendkjkhaaW.PrintWords
set_option linter.unusedVariables false
set_option linter.unusedSimpArgs false
theorem int_get {W : World} {A : Option Addr} {n : Nat} {xs : List Int} (h : Kd.C (Kd.int .i64) W A n xs) (hn : n = xs.length) {i : Nat} (hi : i < xs.length) : ∃ ad, A = some ad ∧ W.cell? (ad.add i) = some (.int .i64 xs[i]) := by
  subst hn
  obtain ⟨ad, e0, hc0⟩ := Kd.at_int h i (by omega) (by omega)
  refine ⟨ad, e0, ?_⟩
  have hx : rd xs i = xs[i] := by simp [rd, List.getD_eq_getElem?_getD, hi]
  rwa [hx, Int.toNat_natCast] at hc0
theorem row_get {α : Type} {t : TypeId} {kd : Kd α} {W : World} {A : Option Addr} {n : Nat} {xs : List (List α)} (h : Kd.C (Kd.slice t kd) W A n xs) (hn : n = xs.length) {i : Nat} (hi : i < xs.length) : ∃ ad A1 c1, A = some ad ∧ xs[i].length ≤ c1 ∧ Kd.C kd W A1 xs[i].length xs[i] ∧ W.cell? (ad.add i) = some (.slice A1 xs[i].length c1) := by
  subst hn
  obtain ⟨ad, ec, e0, _, ⟨A1, c1, rfl, hle, hrow⟩, hc0⟩ := Kd.C_get h [] i (by omega) (by omega)
  have hx : xs.getD ((i : Int).toNat) [] = xs[i] := by simp [List.getD_eq_getElem?_getD, hi]
  rw [hx] at hle hrow hc0
  refine ⟨ad, A1, c1, e0, hle, hrow, ?_⟩
  simpa [Kd.slice] using hc0 0 _ rfl
theorem C_len {α : Type} {kd : Kd α} {W : World} {A : Option Addr} {n : Nat} {xs : List α} (h : Kd.C kd W A n xs) : xs.length = n ∧ n ≤ 9223372036854775807 := ⟨h.1, h.2.1⟩
theorem take_snoc' {α : Type} (xs : List α) {i : Nat} (h : i < xs.length) : xs.take (i + 1) = xs.take i ++ [xs[i]] := by
  rw [List.take_succ_eq_append_getElem h]
end Go.Proofs.Ytampgoendkjkhaa.H
