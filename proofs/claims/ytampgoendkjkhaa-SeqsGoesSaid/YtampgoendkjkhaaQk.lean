/- Keys of two ints; maps whose values are all 1. -/
import Derived.Test.YtampgoendkjkhaaQa
import Derived.Test.YtampgoendkjkhaaSlA
import Derived.DeepKeys4
namespace Go.Proofs.Ytampgoendkjkhaa.H
open Go.RowKit Go.Maps Go.Shelf Go.Proofs.YtampgoendkjkhaaW.PrintWords Go.Proofs.Ytampgoendkjkhaa.DtM
set_option linter.unusedVariables false
set_option linter.unusedSimpArgs false
set_option linter.unusedSectionVars false
def encP (x : Int × Int) : Value := .agg #[.int .i64 x.1, .int .i64 x.2]
def okP (x : Int × Int) : Prop := (-9223372036854775808 ≤ x.1 ∧ x.1 ≤ 9223372036854775807) ∧ (-9223372036854775808 ≤ x.2 ∧ x.2 ≤ 9223372036854775807)
theorem kaP_laid : laidOutB Try.prog = true := by kernel_rfl
theorem kaP_row : (111 : TypeId) < Try.prog.types.size := of_decide_eq_true (by kernel_rfl)
theorem kaP_wide : (match Try.prog.underlying 111 with | some (.array _ _) | some (.struct _) => true | _ => false) = true := by kernel_rfl
theorem kaP_kt3 : Try.prog.keyTypeAt 3 111 = true := by kernel_rfl
set_option maxRecDepth 100000 in
theorem kaP_law : WideMaps.KeyLaw Try.prog 111 := deep_law_laid (m := 3) kaP_laid (by decide) kaP_row kaP_kt3 kaP_wide
theorem kaP_kt : Try.prog.keyType 111 = true := by kernel_rfl
theorem kaP_c : Try.prog.cellsOf 111 = 2 := by kernel_rfl
theorem kaP_c3 : Try.prog.cellsOf 3 = 1 := by kernel_rfl
theorem kaP_fm (x0 x1 : Int) : (Value.agg #[.int .i64 x0, .int .i64 x1]).formed Try.prog 111 = true := by
  simp [Value.formed, Try.underlying111, kaP_c]
theorem kaP_kl (n : Nat) (x0 x1 : Int) (h0 : (Lit.int .i64 x0).wf = true) (h1 : (Lit.int .i64 x1).wf = true) : (Try.prog.keyLits (n + 2) 111 [.int .i64 x0, .int .i64 x1]) = some [.int .i64 x0, .int .i64 x1] := by
  simp [Program.keyLits, Try.underlying111, Try.underlying3, kaP_c, kaP_c3, List.range_succ, h0, h1]
theorem kaP_tsz : Try.prog.types.size = (Try.prog.types.size - 1) + 1 := by kernel_rfl
theorem kaP_ko (x0 x1 : Int) (h0 : (Lit.int .i64 x0).wf = true) (h1 : (Lit.int .i64 x1).wf = true) : keyOf Try.prog 111 (.agg #[.int .i64 x0, .int .i64 x1]) = some (.string (keyBytes [.int .i64 x0, .int .i64 x1])) := by
  have hw : ∃ n e, Try.prog.underlying 111 = some (.array n e) := ⟨_, _, Try.underlying111⟩
  obtain ⟨n, e, hu⟩ := hw
  unfold keyOf
  rw [hu]
  simp only [kaP_kt, kaP_fm, Bool.and_self, if_true]
  rw [kaP_tsz]
  have := kaP_kl (Try.prog.types.size - 1) x0 x1 h0 h1
  simp only [Value.cells]
  rw [this]
  rfl
theorem keyP : ∃ E : KeyE Try.prog 111 (Int × Int), E.enc = encP ∧ E.ok = okP := ⟨{
  enc := encP
  ok := okP
  K := Keyed.of_law kaP_law
  lit := fun a => .string (keyBytes [.int .i64 a.1, .int .i64 a.2])
  key := fun a h => kaP_ko a.1 a.2 (wf_i64 (by have q := h.1; omega)) (wf_i64 (by have q := h.2; omega))
  inj := fun a b _ _ e => by
    unfold encP at e
    injection e with e
    have e0 := congrArg (fun z => z[0]?) e; have e1 := congrArg (fun z => z[1]?) e
    simp at e0 e1
    exact Prod.ext e0 (e1) }, rfl, rfl⟩
/-- a set, as a map to 1 -/
def ones {κ : Type} (l : List κ) : List (κ × Value) := l.map fun x => (x, .int .i64 1)
section
variable {κ : Type} [DecidableEq κ]
theorem ones_keys (l : List κ) : (ones l).map (·.1) = l := by
  unfold ones
  rw [List.map_map]
  exact List.map_id' l
theorem lk_ones {l : List κ} (hn : l.Nodup) (x : κ) : lk (ones l) x = if x ∈ l then some (.int .i64 1) else none := by
  by_cases h : x ∈ l
  · rw [if_pos h]
    exact lk_some (by rw [ones_keys]; exact hn) (List.mem_map.2 ⟨x, h, rfl⟩)
  · rw [if_neg h]
    refine lk_none fun p hp e => h ?_
    obtain ⟨y, hy, rfl⟩ := List.mem_map.1 hp
    exact e ▸ hy
theorem put_ones {l : List κ} (hn : l.Nodup) {x : κ} (h : x ∉ l) : put (ones l) x (.int .i64 1) = ones (l ++ [x]) := by
  unfold put
  rw [lk_ones hn, if_neg h]
  simp [ones]
end
theorem info_pl : (Try.prog.info? 152).map (fun i => (i.zero, i.size, i.bytes)) = some (some (.agg #[.int .i64 0, .int .i64 0, .int .i64 0]), 3, 24) := by kernel_rfl
end Go.Proofs.Ytampgoendkjkhaa.H
