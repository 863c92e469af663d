/- Slices of ints cut in two, with names for what comes of it. -/
import Derived.Test.YtampgoendkjkhaaHb
namespace Go.Proofs.Ytampgoendkjkhaa.H
open Go.RowKit Go.Shelf Go.Proofs.YtampgoendkjkhaaW.PrintWords
set_option linter.unusedVariables false
theorem cutA (A : Option Addr) (c n k : Nat) (hk : k ≤ n) (hc : n ≤ c) : ∃ (A' : Option Addr) (m c' : Nat), m = n - k ∧ m ≤ c' ∧ (∀ W, (Instr.slice 22 (.slice A n c) (some (.int .i64 (k : Int))) none none).run Try.prog W = .ok (.slice A' m c') W) ∧ ∀ W (l : List Int), Kd.C (Kd.int .i64) W A n l → Kd.C (Kd.int .i64) W A' m (l.drop k) := by
  obtain ⟨i0, hi, _, hsz, _⟩ := info_parts (show (Try.prog.info? 3).map (fun i => (i.zero, i.size, i.bytes)) = some (some (.int .i64 0), 1, 8) by kernel_rfl)
  refine ⟨_, n - k, c - k, rfl, by omega, fun W => by simpa using cut_from (P := Try.prog) 22 3 .i64 Try.underlying22 hi 1 hsz A n c (k : Int) (by omega) (by omega) W, fun W l h => ?_⟩
  obtain rfl : l.length = n := h.1
  have := Kd.C_drop (m := k) h hk hc
  rw [List.length_drop] at this
  simpa [show (Kd.int .i64).sz = 1 from rfl] using this
theorem cutB (A : Option Addr) (c n k : Nat) (hk : k ≤ n) (hc : n ≤ c) : (∀ W, (Instr.slice 22 (.slice A n c) none (some (.int .i64 (k : Int))) none).run Try.prog W = .ok (.slice A k c) W) ∧ ∀ W (l : List Int), Kd.C (Kd.int .i64) W A n l → Kd.C (Kd.int .i64) W A k (l.take k) := by
  obtain ⟨i0, hi, _, hsz, _⟩ := info_parts (show (Try.prog.info? 3).map (fun i => (i.zero, i.size, i.bytes)) = some (some (.int .i64 0), 1, 8) by kernel_rfl)
  refine ⟨fun W => by simpa using cut_to (P := Try.prog) 22 3 .i64 Try.underlying22 hi A n c (k : Int) (by omega) (by omega) hc W, fun W l h => ?_⟩
  obtain rfl : l.length = n := h.1
  have := Kd.C_take h hk
  rwa [List.length_take, Nat.min_eq_left hk] at this
theorem cutAi (A : Option Addr) (c n : Nat) (j : Int) (h0 : 0 ≤ j) (hk : j ≤ n) (hc : n ≤ c) : ∃ (A' : Option Addr) (m c' : Nat), m = n - j.toNat ∧ m ≤ c' ∧ (∀ W, (Instr.slice 22 (.slice A n c) (some (.int .i64 j)) none none).run Try.prog W = .ok (.slice A' m c') W) ∧ ∀ W (l : List Int), Kd.C (Kd.int .i64) W A n l → Kd.C (Kd.int .i64) W A' m (l.drop j.toNat) := by
  obtain ⟨A', m, c', h⟩ := cutA A c n j.toNat (by omega) hc
  rw [Int.toNat_of_nonneg h0] at h
  exact ⟨A', m, c', h⟩
theorem cutBi (A : Option Addr) (c n : Nat) (j : Int) (h0 : 0 ≤ j) (hk : j ≤ n) (hc : n ≤ c) : ∃ m : Nat, m = j.toNat ∧ (∀ W, (Instr.slice 22 (.slice A n c) none (some (.int .i64 j)) none).run Try.prog W = .ok (.slice A m c) W) ∧ ∀ W (l : List Int), Kd.C (Kd.int .i64) W A n l → Kd.C (Kd.int .i64) W A m (l.take m) := by
  have h := cutB A c n j.toNat (by omega) hc
  rw [Int.toNat_of_nonneg h0] at h
  exact ⟨j.toNat, rfl, h⟩
theorem equal_at (A0 : Option Addr) (c0 : Nat) (l0 : List Int) (A1 : Option Addr) (c1 : Nat) (l1 : List Int) (n n' : Nat) (w : World) (hn : l0.length = n) (hn' : l1.length = n') (hr0 : Kd.C (Kd.int .i64) w A0 n l0) (hc0 : n ≤ c0) (hr1 : Kd.C (Kd.int .i64) w A1 n' l1) (hc1 : n' ≤ c1) (r : Bool) (h : decide (l0 = l1) = r) (hb : n ≤ 9223372036854775807) :
    Calls Try.prog 71 #[.slice A0 n c0, .slice A1 n' c1] w fun e w' => e = .returned (.bool r) ∧ Drawn0 w w' := by
  subst hn hn'
  exact slices_Equal_int_int.calls A0 c0 l0 A1 c1 l1 r w hr0 hc0 hr1 hc1 (by unfold slices_Equal_int_int.f wordsEq; rw [if_pos hb, h])
theorem clone_at (A : Option Addr) (n c : Nat) (l : List Int) (w : World) (hn : l.length = n) (hr : Kd.C (Kd.int .i64) w A n l) (hc : n ≤ c) (hl : n < 17592186044416) :
    Calls Try.prog 53 #[.slice A n c] w fun e w' => ∃ v : Value, e = .returned v ∧ Kd.R (Kd.int .i64) 3 w' w.heap.size (fun _ => True) v l ∧ Below w.heap.size w w' := by
  subst hn
  exact slices_Clone_int_int.calls A c l l w hr hc (by unfold slices_Clone_int_int.f; rw [if_pos hl])
end Go.Proofs.Ytampgoendkjkhaa.H
