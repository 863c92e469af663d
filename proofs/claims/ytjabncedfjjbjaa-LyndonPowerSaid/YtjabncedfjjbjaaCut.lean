/- Slices of ints cut in two, with names for what comes of it. -/
import Derived.Test.YtjabncedfjjbjaaHb
namespace Go.Proofs.Ytjabncedfjjbjaa.H
open Go.RowKit Go.Shelf Go.Proofs.YtjabncedfjjbjaaW.PrintWords
set_option linter.unusedVariables false
theorem cutA (A : Option Addr) (c n k : Nat) (hk : k ≤ n) (hc : n ≤ c) : ∃ (A' : Option Addr) (m c' : Nat), m = n - k ∧ m ≤ c' ∧ (∀ W, (Instr.slice 22 (.slice A n c) (some (.int .i64 (k : Int))) none none).run Try.prog W = .ok (.slice A' m c') W) ∧ ∀ W (l : List Int), Kd.C (Kd.int .i64) W A n l → Kd.C (Kd.int .i64) W A' m (l.drop k) := by
  obtain ⟨i0, hi, _, hsz, _⟩ := info_parts (show (Try.prog.info? 3).map (fun i => (i.zero, i.size, i.bytes)) = some (some (.int .i64 0), 1, 8) by kernel_rfl)
  refine ⟨_, n - k, c - k, rfl, by omega, fun W => by simpa using cut_from (P := Try.prog) 22 3 .i64 Try.underlying22 hi 1 hsz A n c (k : Int) (by omega) (by omega) W, fun W l h => ?_⟩
  obtain rfl : l.length = n := h.1
  have := Kd.C_drop (m := k) h hk hc
  rw [List.length_drop] at this
  simpa [show (Kd.int .i64).sz = 1 from rfl] using this
theorem cutB (A : Option Addr) (c n k : Nat) (hk : k ≤ n) (hc : n ≤ c) : (∀ W, (Instr.slice 22 (.slice A n c) none (some (.int .i64 (k : Int))) none).run Try.prog W = .ok (.slice A k c) W) ∧ ∀ W (l : List Int), Kd.C (Kd.int .i64) W A n l → Kd.C (Kd.int .i64) W A k (l.take k) := by
  obtain ⟨i0, hi, _, hsz, _⟩ := info_parts (show (Try.prog.info? 3).map (fun i => (i.zero, i.size, i.bytes)) = some (some (.int .i64 0), 1, 8) by kernel_rfl)
  refine ⟨fun W => by simpa using cut_to (P := Try.prog) 22 3 .i64 Try.underlying22 hi A n c (k : Int) (by omega) (by omega) hc W, fun W l h => ?_⟩
  obtain rfl : l.length = n := h.1
  have := Kd.C_take h hk
  rwa [List.length_take, Nat.min_eq_left hk] at this
end Go.Proofs.Ytjabncedfjjbjaa.H
