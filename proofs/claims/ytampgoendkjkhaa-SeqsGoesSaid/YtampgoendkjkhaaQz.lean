/- seqs.met, the closure of seqs.Kernel, seqs.Kernel at the law's own morphism. -/
import Derived.Test.YtampgoendkjkhaaQd
import Derived.Test.YtampgoendkjkhaaOwn
import Derived.Deep.RegionHeld3
import Derived.Test.YtampgoendkjkhaaCls
import Derived.StringKeys
namespace Go.Proofs.Ytampgoendkjkhaa.H
open Go.RowKit Go.Shelf Go.Proofs.YtampgoendkjkhaaW.PrintWords Go.Proofs.YtampgoendkjkhaaW.PrintMore
set_option linter.unusedVariables false
set_option linter.unusedSimpArgs false
abbrev im01 : List (List Int) := [[0, 1], [1, 0]]
/-- met so far, row i, column j -/
def metL (i j : Nat) : List Int := if i = 0 ∧ j ≤ 1 then [0] else [0, 1]
def metV (i j : Nat) : Int := if i = j then 0 else 1
theorem metL_at {i : Nat} (h : i < 2) : ∃ hl : i < (metL i 0).length, (metL i 0)[i] = (i : Int) := by
  match i, h with
  | 0, _ => exact ⟨by decide, rfl⟩
  | 1, _ => exact ⟨by decide, rfl⟩
theorem metL_next {i : Nat} (h : i < 2) : metL i 2 = metL (i + 1) 0 := by
  match i, h with
  | 0, _ => rfl
  | 1, _ => rfl
theorem metL_len (i j : Nat) : (metL i j).length ≤ 2 := by unfold metL; split <;> decide
theorem metV_at {i j : Nat} (hi : i < 2) (hj : j < 2) (h : i < im01.length) (h' : j < im01[i].length) : im01[i][j] = metV i j := by
  match i, j, hi, hj with
  | 0, 0, _, _ => rfl
  | 0, 1, _, _ => rfl
  | 1, 0, _, _ => rfl
  | 1, 1, _, _ => rfl
theorem im01_row {i : Nat} (h : i < im01.length) : im01[i].length = 2 := by
  match i, h with
  | 0, _ => rfl
  | 1, _ => rfl
theorem metL_in {i j : Nat} (hi : i < 2) (hj : j < 2) (h : ¬ (i = 0 ∧ j = 1)) : slices_Contains_int_int.f (metL i j) (metV i j) = some true ∧ metL i (j + 1) = metL i j := by
  match i, j, hi, hj with
  | 0, 0, _, _ => exact ⟨rfl, rfl⟩
  | 0, 1, _, _ => exact absurd ⟨rfl, rfl⟩ h
  | 1, 0, _, _ => exact ⟨rfl, rfl⟩
  | 1, 1, _, _ => exact ⟨rfl, rfl⟩
theorem metL_out {i j : Nat} (h : i = 0 ∧ j = 1) : slices_Contains_int_int.f (metL i j) (metV i j) = some false ∧ metL i (j + 1) = metL i j ++ [metV i j] := by
  obtain ⟨rfl, rfl⟩ := h
  exact ⟨rfl, rfl⟩
def MetPost (w w' : World) (e : Ending) : Prop := ∃ A c u, e = .returned (.slice A 2 c) ∧ Own (Kd.int .i64) 3 w.heap.size u w' (.slice A 2 c) [0, 1] ∧ Below w.heap.size w w'
set_option maxHeartbeats 4000000 in
set_option maxRecDepth 100000 in
theorem met_calls (A1 A2 : Option Addr) (c1 c2 : Nat) (w : World) (hr : Kd.C (Kd.slice 3 (Kd.int .i64)) w A1 2 im01) :
    Calls Try.prog 55 #[.agg #[.int .i64 2, .slice A1 2 c1, .slice A2 2 c2]] w fun e w' => MetPost w w' e := by
  obtain ⟨ai, rfl⟩ : ∃ a, A1 = some a := by
    obtain ⟨ad, _, _, e, _⟩ := row_get hr rfl (i := 0) (by decide)
    exact ⟨ad, e⟩
  have HR := Aside0.mk hr
  clear hr
  go_enter Try.func55, Try.ntmps55
  go_wp2_with (first
    | ((with_reducible refine gate_dst (N := 7) rfl ?_)
       obtain ⟨W1, hW1⟩ : ∃ W1, W1 = w.alloc (.cells #[.int .i64 2, .slice (some ai) 2 c1, .slice A2 2 c2] 45) := ⟨_, rfl⟩
       have X1 := Aside0.mk (show W1.heap[w.heap.size]? = some (.cells #[.int .i64 2, .slice (some ai) 2 c1, .slice A2 2 c2] 45 (0, 0)) from by rw [hW1]; exact blk_new w _)
       have B1 := Aside0.mk (show Below w.heap.size w W1 from by rw [hW1]; exact below_alloc (Below.refl _ _) _)
       have Z1 := Aside0.mk (show W1.heap.size = w.heap.size + 1 from by rw [hW1]; simp)
       rw [← hW1]
       clear hW1
       refine Kd.S_lit (Kd.int .i64) (w0 := W1) (w.heap.size + 1) 3 ?hg (N := 7) ?hd (xs := [(0 : Int)]) (inner := [.int .i64 0]) (ok := fun _ => True) (okp := fun _ => True) ?hr ?hp (fun _ hk => hk) trivial (Below.refl _ _) (Nat.le_of_eq Z1.out.symm) (by simp) ?_
       (case hd => rfl)
       (case hg => rfl)
       (case hr => first | (go_simp; done) | (go_simp; rfl))
       (case hp => exact reps_single rfl rfl)
       intro v1 w2 hs2 hb2 _ _
       have L2 := Aside0.mk (show Own (Kd.int .i64) 3 (w.heap.size + 1) w2.heap.size w2 v1 (metL 0 0) from ⟨Kd.S_mono (Kd.S_bound hs2) (fun k hk => hk.2.2.1), Nat.le_refl _⟩)
       have X2 := Aside0.mk (show w2.heap[w.heap.size]? = some (.cells #[.int .i64 2, .slice (some ai) 2 c1, .slice A2 2 c2] 45 (0, 0)) from (hb2.block _ (Nat.lt_succ_self _)).trans X1.out)
       have B2 := Aside0.mk (show Below w.heap.size w w2 from below_weaken B1.out (Nat.le_succ _) hb2)
       clear hs2 hb2)
    | fail)
  clear X1 B1 Z1
  go_loopg [3, 4] 2 (fun gg s3 s4 wr => ∃ i u : Nat, i ≤ 2 ∧ 2 - i ≤ gg ∧ s4 = .int .i64 (i : Int) ∧ Aside0 (Own (Kd.int .i64) 3 (w.heap.size + 1) u wr s3 (metL i 0)) ∧ Aside0 (Below w.heap.size w wr) ∧ Aside0 (wr.heap[w.heap.size]? = some (.cells #[.int .i64 2, .slice (some ai) 2 c1, .slice A2 2 c2] 45 (0, 0))))
  case atStart => exact ⟨0, _, by omega, by omega, rfl, L2, B2, X2⟩
  case round =>
    clear L2 B2 X2
    obtain ⟨i, u, hi2, hgg, rfl, LL, BB, XX⟩ := hrel
    obtain ⟨AS, cS, rfl⟩ := LL.out.slice
    by_cases hi : i < 2
    · obtain ⟨hln, hat⟩ := metL_at hi
      obtain ⟨ad, e0, hx⟩ := int_get LL.out.reads.2.2 rfl hln
      subst e0
      rw [hat] at hx
      obtain ⟨ai', Ar, cr, e1, hcr, hrow, hcell⟩ := row_get HR.out rfl (i := i) hi
      replace hcell := pw_cell_below BB.out hcell
      obtain rfl : ai = ai' := by simpa using e1
      rw [im01_row hi] at hcell hrow hcr
      have hlz : (i : Int) < ((metL i 0).length : Int) := by omega
      have hiz : (i : Int) < 2 := by omega
      have HLN := Aside0.mk hln
      clear hat e1
      obtain ⟨wo, hwo⟩ : ∃ wo, wo = wr := ⟨_, rfl⟩
      have HMS := Aside0.mk (show ∀ W', Below wr.heap.size wr W' → (fun W' => Below wr.heap.size wr W' ∧ W'.cell? ⟨w.heap.size, 1, none⟩ = some (.slice (some ai) 2 c1) ∧ W'.cell? (ad.add i) = some (.int .i64 (i : Int)) ∧ W'.cell? (ai.add i) = some (.slice Ar 2 cr)) W' from fun W' hb => ⟨hb, pw_cell_below hb ((blk_cell XX.out 1).trans rfl), pw_cell_below hb hx, pw_cell_below hb hcell⟩)
      subst hwo
      clear hx hcell
      generalize (metL i 0).length = N at LL HLN hlz hln ⊢
      go_wp2_with (fail)
      refine wp_region_held_drew (S := (fun W' => Below wo.heap.size wo W' ∧ W'.cell? ⟨w.heap.size, 1, none⟩ = some (.slice (some ai) 2 c1) ∧ W'.cell? (ad.add i) = some (.int .i64 (i : Int)) ∧ W'.cell? (ai.add i) = some (.slice Ar 2 cr))) (by kernel_rfl) ?_ (fun hHeld => ?_)
      · (try dsimp only); exact HMS.out _ (below_drew1 (Below.refl _ _))
      refine wpAnyH_take (i := 0) (v := ?_) rfl (by kernel_rfl) (by kernel_rfl) (by kernel_rfl) (fun _ _ _ h => h) (Or.inl ⟨by kernel_rfl, ?_⟩) (by assumption) ?_
      rotate_left 1
      · intro w hSw; (try dsimp only at hSw); go_simp; (try with_reducible rfl)
      (try simp only [Act.put, List.getElem_toArray, List.getElem_cons_zero, List.getElem_cons_succ, List.setIfInBounds_toArray, List.set_cons_zero, List.set_cons_succ])
      refine wpAnyH_take (i := 1) (v := ?_) rfl (by kernel_rfl) (by kernel_rfl) (by kernel_rfl) (fun _ _ _ h => h) (Or.inl ⟨by kernel_rfl, ?_⟩) (by assumption) ?_
      rotate_left 1
      · intro w hSw; (try dsimp only at hSw); go_simp; (try with_reducible rfl)
      (try simp only [Act.put, List.getElem_toArray, List.getElem_cons_zero, List.getElem_cons_succ, List.setIfInBounds_toArray, List.set_cons_zero, List.set_cons_succ])
      refine wpAnyH_take (i := 2) (v := ?_) rfl (by kernel_rfl) (by kernel_rfl) (by kernel_rfl) (fun _ _ _ h => h) (Or.inl ⟨by kernel_rfl, ?_⟩) (by assumption) ?_
      rotate_left 1
      · intro w hSw; (try dsimp only at hSw); go_simp; (try with_reducible rfl)
      (try simp only [Act.put, List.getElem_toArray, List.getElem_cons_zero, List.getElem_cons_succ, List.setIfInBounds_toArray, List.set_cons_zero, List.set_cons_succ])
      refine wpAnyH_take (i := 3) (v := ?_) rfl (by kernel_rfl) (by kernel_rfl) (by kernel_rfl) (fun _ _ _ h => h) (Or.inl ⟨by kernel_rfl, ?_⟩) (by assumption) ?_
      rotate_left 1
      · intro w hSw; (try dsimp only at hSw); go_simp; (try with_reducible rfl)
      (try simp only [Act.put, List.getElem_toArray, List.getElem_cons_zero, List.getElem_cons_succ, List.setIfInBounds_toArray, List.set_cons_zero, List.set_cons_succ])
      refine wpAnyH_take (i := 4) (v := ?_) rfl (by kernel_rfl) (by kernel_rfl) (by kernel_rfl) (fun _ _ _ h => h) (Or.inl ⟨by kernel_rfl, ?_⟩) (by assumption) ?_
      rotate_left 1
      · intro w hSw; (try dsimp only at hSw); go_simp; (try with_reducible rfl)
      (try simp only [Act.put, List.getElem_toArray, List.getElem_cons_zero, List.getElem_cons_succ, List.setIfInBounds_toArray, List.set_cons_zero, List.set_cons_succ])
      refine wpAnyH_take (i := 5) (v := ?_) rfl (by kernel_rfl) (by kernel_rfl) (by kernel_rfl) (fun _ _ _ h => h) (Or.inl ⟨by kernel_rfl, ?_⟩) (by assumption) ?_
      rotate_left 1
      · intro w hSw; (try dsimp only at hSw); go_simp; (try with_reducible rfl)
      (try simp only [Act.put, List.getElem_toArray, List.getElem_cons_zero, List.getElem_cons_succ, List.setIfInBounds_toArray, List.set_cons_zero, List.set_cons_succ])
      refine wpAnyH_take (i := 6) (v := ?_) rfl (by kernel_rfl) (by kernel_rfl) (by kernel_rfl) (fun _ _ _ h => h) (Or.inl ⟨by kernel_rfl, ?_⟩) (by assumption) ?_
      rotate_left 1
      · intro w hSw; (try dsimp only at hSw); go_simp; (try with_reducible rfl)
      (try simp only [Act.put, List.getElem_toArray, List.getElem_cons_zero, List.getElem_cons_succ, List.setIfInBounds_toArray, List.set_cons_zero, List.set_cons_succ])
      refine wpAnyH_take (i := 7) (v := ?_) rfl (by kernel_rfl) (by kernel_rfl) (by kernel_rfl) (fun _ _ _ h => h) (Or.inl ⟨by kernel_rfl, ?_⟩) (by assumption) ?_
      rotate_left 1
      · intro w hSw; (try dsimp only at hSw); go_simp; (try with_reducible rfl)
      (try simp only [Act.put, List.getElem_toArray, List.getElem_cons_zero, List.getElem_cons_succ, List.setIfInBounds_toArray, List.set_cons_zero, List.set_cons_succ])
      refine wpAnyH_take (i := 8) (v := ?_) rfl (by kernel_rfl) (by kernel_rfl) (by kernel_rfl) (fun _ _ _ h => h) (Or.inl ⟨by kernel_rfl, ?_⟩) (by assumption) ?_
      rotate_left 1
      · intro w hSw; (try dsimp only at hSw); go_simp; (try with_reducible rfl)
      (try simp only [Act.put, List.getElem_toArray, List.getElem_cons_zero, List.getElem_cons_succ, List.setIfInBounds_toArray, List.set_cons_zero, List.set_cons_succ])
      refine wpAnyH_take (i := 9) (v := ?_) rfl (by kernel_rfl) (by kernel_rfl) (by kernel_rfl) (fun _ _ _ h => h) (Or.inl ⟨by kernel_rfl, ?_⟩) (by assumption) ?_
      rotate_left 1
      · intro w hSw; (try dsimp only at hSw); go_simp; (try with_reducible rfl)
      (try simp only [Act.put, List.getElem_toArray, List.getElem_cons_zero, List.getElem_cons_succ, List.setIfInBounds_toArray, List.set_cons_zero, List.set_cons_succ])
      refine wpAnyH_done (by kernel_rfl) ?_ _
      go_wp2_with (fail)
      have L5 := Aside0.mk (LL.out.below (below_drew1 (Below.refl _ _)))
      have B5 := Aside0.mk (below_drew1 BB.out)
      have X5 := Aside0.mk (show wo.drew.heap[w.heap.size]? = some (.cells #[.int .i64 2, .slice (some ai) 2 c1, .slice A2 2 c2] 45 (0, 0)) from XX.out)
      have C5 := Aside0.mk hrow
      have HI := Aside0.mk (im01_row hi)
      clear LL BB XX hrow HMS HLN
      generalize wo.drew = w5 at L5 B5 X5 ⊢
      go_loopg [3, 23] 2 (fun gg s3 s23 wr => ∃ j u : Nat, j ≤ 2 ∧ 2 - j ≤ gg ∧ s23 = .int .i64 (j : Int) ∧ Aside0 (Own (Kd.int .i64) 3 (w.heap.size + 1) u wr s3 (metL i j)) ∧ Aside0 (Below w.heap.size w wr) ∧ Aside0 (wr.heap[w.heap.size]? = some (.cells #[.int .i64 2, .slice (some ai) 2 c1, .slice A2 2 c2] 45 (0, 0))))
      case atStart => exact ⟨0, _, by omega, by omega, rfl, L5, B5, X5⟩
      case round =>
        clear L5 B5 X5
        obtain ⟨j, u, hj2, hgj, rfl, LL, BB, XX⟩ := hrel
        obtain ⟨AS, cS, rfl⟩ := LL.out.slice
        by_cases hj : j < 2
        · have hjz : (j : Int) < 2 := by omega
          obtain ⟨ar, e1, hx⟩ := int_get (Kd.C_below C5.out BB.out) HI.out.symm (i := j) (by rw [HI.out]; exact hj)
          subst e1
          rw [metV_at hi hj] at hx
          have HCN := Aside0.mk (fun r W (hb : Below wr.heap.size wr W) h => slices_Contains_int_int.calls AS cS (metL i j) (metV i j) r W (LL.out.below hb).reads.2.2 (LL.out.below hb).reads.2.1 h)
          have hln2 := metL_len i j
          by_cases hij : i = 0 ∧ j = 1
          · have HF := Aside0.mk (metL_out hij)
            clear hij
            have NE := Aside0.mk hln2
            clear hln2
            generalize metV i j = x at hx HCN HF
            generalize metL i j = l at LL HCN HF NE ⊢
            go_wp2_with (first
              | (go_at_call 122
                 refine (HCN.out false _ (Below.refl _ _) HF.out.1).mono ?_
                 rintro e w6 ⟨rfl, hd6⟩
                 have L6 := Aside0.mk (LL.out.below hd6.below)
                 have B6 := Aside0.mk (below_step BB.out hd6.below)
                 have X6 := Aside0.mk (blk_below XX.out hd6.below)
                 clear hd6)
              | (at_builtin
                 refine own_push_int (w0 := w6) (w.heap.size + 1) _ _ _ 22 3 (.slice AS l.length cS) l x rfl rfl Try.underlying22 int3 rfl rfl L6.out (Below.refl _ _) (by have := L6.out.2; have := blk_lt X6.out; omega) (by have := NE.out; omega) ?_
                 intro v8 w8 ho8 hb8 hg8
                 have L8 := Aside0.mk (show Own (Kd.int .i64) 3 (w.heap.size + 1) w8.heap.size w8 v8 (metL i (j + 1)) from by rw [HF.out.2]; exact ho8)
                 have B8 := Aside0.mk (below_weaken B6.out (Nat.le_succ _) hb8)
                 have X8 := Aside0.mk ((hb8.block _ (Nat.lt_succ_self _)).trans X6.out)
                 clear ho8 hb8 hg8)
              | fail)
            go_roundg (2 - (j + 1))
            case measure => omega
            case rel => exact ⟨j + 1, _, by omega, by omega, by go_num, L8, B8, X8⟩
          · have HF := Aside0.mk (metL_in hi hj hij)
            clear hij
            clear hln2
            generalize metV i j = x at hx HCN HF
            go_wp2_with (first
              | (go_at_call 122
                 refine (HCN.out true _ (Below.refl _ _) HF.out.1).mono ?_
                 rintro e w6 ⟨rfl, hd6⟩
                 have L6 := Aside0.mk (LL.out.below hd6.below)
                 have B6 := Aside0.mk (below_step BB.out hd6.below)
                 have X6 := Aside0.mk (blk_below XX.out hd6.below)
                 clear hd6)
              | fail)
            go_roundg (2 - (j + 1))
            case measure => omega
            case rel => exact ⟨j + 1, _, by omega, by omega, by go_num, ⟨by rw [HF.out.2]; exact L6.out⟩, B6, X6⟩
        · obtain rfl : j = 2 := by omega
          have LN := Aside0.mk (show Own (Kd.int .i64) 3 (w.heap.size + 1) u wr (.slice AS (metL i 2).length cS) (metL (i + 1) 0) from by
            have := LL.out
            rw [metL_next hi] at this ⊢
            exact this)
          clear LL
          generalize (metL i 2).length = N2 at LN ⊢
          go_wp2_with (fail)
          go_roundg (2 - (i + 1))
          case measure => omega
          case rel => exact ⟨i + 1, _, by omega, by omega, by go_num, LN, BB, XX⟩
    · obtain rfl : i = 2 := by omega
      have LN := Aside0.mk (show Own (Kd.int .i64) 3 (w.heap.size + 1) u wr (.slice AS 2 cS) [0, 1] from LL.out)
      clear LL
      rw [show (metL 2 0).length = 2 from rfl]
      go_wp2_with (fail)
      go_ret
      exact ⟨AS, cS, u, rfl, LN.out.lower (Nat.le_succ _), BB.out⟩
end Go.Proofs.Ytampgoendkjkhaa.H

namespace Go.Proofs.Ytampgoendkjkhaa.H
open Go.RowKit Go.Shelf Go.Proofs.YtampgoendkjkhaaW.PrintWords Go.Proofs.YtampgoendkjkhaaW.PrintMore
set_option linter.unusedVariables false
set_option linter.unusedSimpArgs false
def kA : ByteArray := strOfNums [0, 0, 1, 0]
def kB : ByteArray := strOfNums [1, 0, 0, 0]
theorem kS_a : PBase.det_Key.f 10 [0, 1] = some kA := by
  simp [PBase.det_Key.f, PBase.det_Key.l0, rd, wrap64, kA]
theorem kS_b : PBase.det_Key.f 10 [1, 0] = some kB := by
  simp [PBase.det_Key.f, PBase.det_Key.l0, rd, wrap64, kB]
theorem kS_ne : kA ≠ kB := by
  intro h
  have := congrArg (fun s => s.data.toList) h
  simp [kA, kB, strOfNums] at this
set_option maxHeartbeats 4000000 in
set_option maxRecDepth 100000 in
theorem ker_calls (xs : List Int) (hx2 : xs.length = 2) (A0 AL : Option Addr) (c0 cL B : Nat) (s : ByteArray) (w : World) (hB : w.heap[B]? = some (.cells #[.slice AL 2 cL] 22 (0, 0))) (hL : Kd.C (Kd.int .i64) w AL 2 [0, 1]) (hA : Kd.C (Kd.int .i64) w A0 2 xs) (hs : PBase.det_Key.f 10 xs = some s) :
    Calls Try.prog 56 #[.slice A0 2 c0, .pointer (some ⟨B, 0, none⟩)] w fun e w' => e = .returned (.string s) ∧ Below w.heap.size w w' := by
  have k0 : w.cell? ⟨B, 0, none⟩ = some (.slice AL 2 cL) := (blk_cell hB 0).trans rfl
  have HL := Aside0.mk hL
  have HA := Aside0.mk hA
  have HS := Aside0.mk hs
  have HX := Aside0.mk hx2
  clear hL hA hs hx2 hB
  go_enter Try.func56, Try.ntmps56
  go_wp2_with (fail)
  clear k0
  go_loopg [4, 9] 2 (fun gg s4 s9 wr => ∃ j u : Nat, j ≤ 2 ∧ 2 - j ≤ gg ∧ s9 = .int .i64 (j : Int) ∧ Aside0 (Own (Kd.int .i64) 3 w.heap.size u wr s4 (xs.take j)) ∧ Aside0 (Below w.heap.size w wr))
  case atStart => exact ⟨0, w.heap.size, by omega, by omega, rfl, ⟨own_nil _ _ _ _ _ (Nat.le_refl _)⟩, ⟨Below.refl _ _⟩⟩
  case round =>
    obtain ⟨j, u, hj2, hgj, rfl, LL, BB⟩ := hrel
    obtain ⟨AS, cS, rfl⟩ := LL.out.slice
    by_cases hj : j < 2
    · have hjz : (j : Int) < 2 := by omega
      obtain ⟨al, e1, hx⟩ := int_get (Kd.C_below HL.out BB.out) rfl (i := j) hj
      subst e1
      have hlj : ([0, 1] : List Int)[j] = (j : Int) := by
        match j, hj with
        | 0, _ => rfl
        | 1, _ => rfl
      rw [hlj] at hx
      obtain ⟨a0, e1, hy⟩ := int_get (Kd.C_below HA.out BB.out) HX.out.symm (i := j) (by rw [HX.out]; exact hj)
      subst e1
      have HT := Aside0.mk (show xs.take (j + 1) = xs.take j ++ [xs[j]'(by rw [HX.out]; exact hj)] from List.take_succ_eq_append_getElem (by rw [HX.out]; exact hj))
      have HTL := Aside0.mk (show (xs.take j).length < 1000000 from by rw [List.length_take]; omega)
      generalize xs[j]'(by rw [HX.out]; exact hj) = x at hy HT
      clear hlj
      generalize xs.take j = l at LL HT HTL ⊢
      go_wp2_with (first
        | (at_builtin
           refine own_push_int (w0 := wr) w.heap.size _ _ _ 22 3 (.slice AS l.length cS) l x rfl rfl Try.underlying22 int3 rfl rfl LL.out (Below.refl _ _) BB.out.size HTL.out ?_
           intro v8 w8 ho8 hb8 hg8
           have L8 := Aside0.mk (show Own (Kd.int .i64) 3 w.heap.size w8.heap.size w8 v8 (xs.take (j + 1)) from by rw [HT.out]; exact ho8)
           have B8 := Aside0.mk (below_weaken BB.out (Nat.le_refl _) hb8)
           clear ho8 hb8 hg8)
        | fail)
      go_roundg (2 - (j + 1))
      case measure => omega
      case rel => exact ⟨j + 1, _, by omega, by omega, by go_num, L8, B8⟩
    · obtain rfl : j = 2 := by omega
      have HT := Aside0.mk (show xs.take 2 = xs from List.take_of_length_le (Nat.le_of_eq HX.out))
      have LN := Aside0.mk (show Own (Kd.int .i64) 3 w.heap.size u wr (.slice AS xs.length cS) xs from by have := LL.out; rwa [HT.out] at this)
      clear LL
      rw [HT.out]
      have HK := Aside0.mk (PBase.det_Key.calls 10 AS cS xs s wr LN.out.reads.2.2 LN.out.reads.2.1 HS.out)
      generalize xs.length = N at HK ⊢
      go_wp2_with (first
        | (go_at_call 57
           refine HK.out.mono ?_
           rintro e w6 ⟨rfl, hd6⟩
           have B6 := Aside0.mk hd6
           clear hd6)
        | fail)
      go_ret
      exact ⟨rfl, below_step BB.out B6.out⟩
end Go.Proofs.Ytampgoendkjkhaa.H

namespace Go.Proofs.Ytampgoendkjkhaa.H
open Go.RowKit Go.Maps Go.Shelf Go.Proofs.YtampgoendkjkhaaW.PrintWords Go.Proofs.YtampgoendkjkhaaW.PrintMore Go.Proofs.Ytampgoendkjkhaa.DtM
set_option linter.unusedVariables false
set_option linter.unusedSimpArgs false
theorem keyS : ∃ E : KeyE Try.prog 9 ByteArray, E.enc = Value.string ∧ E.ok = fun s => s.size ≤ maxLen := ⟨{
  enc := Value.string
  ok := fun s => s.size ≤ maxLen
  K := string_keyed Try.underlying9
  lit := fun s => .string s.data.toList
  key := fun s h => Go.WideMaps.keyOf_string_mk Try.underlying9 h
  inj := fun a b _ _ e => by injection e }, rfl, rfl⟩
theorem kA_ok : kA.size ≤ maxLen := by simp [kA, strOfNums_size, maxLen]
theorem kB_ok : kB.size ≤ maxLen := by simp [kB, strOfNums_size, maxLen]
def fr (p : Nat) : List Int := if p = 0 then [0, 1] else [1, 0]
def nrow (p x : Nat) : List Int := if p = x then [0, 1] else [1, 0]
def rowL (p x a : Nat) : List Int := (nrow p x).take a ++ List.replicate (2 - a) 0
def qI (p x : Nat) : List (List Int) := if p = 0 ∧ x = 2 then [[0, 1], [1, 0]] else [fr p]
def sI (p x : Nat) : List ByteArray := if p = 0 ∧ x ≤ 1 then [kA] else [kA, kB]
def qL (p : Nat) : List (List Int) := if p = 2 then [] else [fr p]
def sL (p : Nat) : List ByteArray := if p = 0 then [kA] else [kA, kB]
def kN (p x : Nat) : ByteArray := if p = x then kA else kB
theorem two_of {p : Nat} (h : p < 2) : p = 0 ∨ p = 1 := by omega
theorem q_start {p : Nat} (h : p < 2) : qL p = qI p 0 ∧ sL p = sI p 0 := by rcases two_of h with rfl | rfl <;> exact ⟨rfl, rfl⟩
theorem q_end {p : Nat} (h : p < 2) : qI p 2 = fr p :: qL (p + 1) ∧ sI p 2 = sL (p + 1) := by rcases two_of h with rfl | rfl <;> exact ⟨rfl, rfl⟩
theorem q_front {p x : Nat} (h : p < 2) : ∃ t, qI p x = fr p :: t := by
  unfold qI
  split
  · next e => obtain ⟨rfl, _⟩ := e; exact ⟨_, rfl⟩
  · exact ⟨_, rfl⟩
theorem q_len {p x : Nat} (h : p < 2) : (qI p x).length ≤ 2 := by
  unfold qI
  split <;> simp
theorem q_old {p x : Nat} (h : p < 2) (hx : x < 2) (hn : ¬ (p = 0 ∧ x = 1)) : qI p (x + 1) = qI p x ∧ sI p (x + 1) = sI p x ∧ kN p x ∈ sI p x := by
  rcases two_of h with rfl | rfl <;> rcases two_of hx with rfl | rfl
  · exact ⟨rfl, rfl, by simp [kN, sI]⟩
  · exact absurd ⟨rfl, rfl⟩ hn
  · exact ⟨rfl, rfl, by simp [kN, sI]⟩
  · exact ⟨rfl, rfl, by simp [kN, sI]⟩
theorem q_new {p x : Nat} (hn : p = 0 ∧ x = 1) : qI p (x + 1) = qI p x ++ [nrow p x] ∧ sI p (x + 1) = sI p x ++ [kN p x] ∧ kN p x ∉ sI p x := by
  obtain ⟨rfl, rfl⟩ := hn
  exact ⟨rfl, rfl, by simp [kN, sI]; exact fun e => kS_ne e.symm⟩
theorem s_nodup (p x : Nat) : (sI p x).Nodup := by
  unfold sI
  split
  · simp
  · simp [kS_ne]
theorem fr_len (p : Nat) : (fr p).length = 2 := by unfold fr; split <;> rfl
theorem nrow_len (p x : Nat) : (nrow p x).length = 2 := by unfold nrow; split <;> rfl
theorem kN_ev (p x : Nat) : PBase.det_Key.f 10 (nrow p x) = some (kN p x) := by
  unfold nrow kN
  split
  · exact kS_a
  · exact kS_b
theorem kN_ok (p x : Nat) : (kN p x).size ≤ maxLen := by
  unfold kN
  split
  · exact kA_ok
  · exact kB_ok
theorem rowL_len {p x a : Nat} (ha : a ≤ 2) : (rowL p x a).length = 2 := by
  unfold rowL
  rw [List.length_append, List.length_take, nrow_len, List.length_replicate]
  omega
theorem rowL_all (p x : Nat) : rowL p x 2 = nrow p x := by
  unfold rowL
  rw [List.take_of_length_le (Nat.le_of_eq (nrow_len p x))]
  simp
theorem row_step {p x a : Nat} (hp : p < 2) (hx : x < 2) (ha : a < 2) : ∃ y : Nat, y < 2 ∧ metV a x = (y : Int) ∧ ∀ h : y < (fr p).length, (rowL p x a).set a ((fr p)[y]) = rowL p x (a + 1) := by
  rcases two_of hp with rfl | rfl <;> rcases two_of hx with rfl | rfl <;> rcases two_of ha with rfl | rfl
  · exact ⟨0, by omega, rfl, fun _ => rfl⟩
  · exact ⟨1, by omega, rfl, fun _ => rfl⟩
  · exact ⟨1, by omega, rfl, fun _ => rfl⟩
  · exact ⟨0, by omega, rfl, fun _ => rfl⟩
  · exact ⟨0, by omega, rfl, fun _ => rfl⟩
  · exact ⟨1, by omega, rfl, fun _ => rfl⟩
  · exact ⟨1, by omega, rfl, fun _ => rfl⟩
  · exact ⟨0, by omega, rfl, fun _ => rfl⟩
theorem info_rw : (Try.prog.info? 22).map (fun i => (i.zero, i.size, i.bytes)) = some (some (.slice none 0 0), 1, 24) := by kernel_rfl
theorem cut_rw (A : Option Addr) (c n : Nat) (hn : 0 < n) (hc : n ≤ c) : ∃ A', (∀ W, (Instr.slice 43 (.slice A n c) (some (.int .i64 1)) none none).run Try.prog W = .ok (.slice A' (n - 1) (c - 1)) W) ∧ ∀ W b ok (x : List Int) (xs : List (List Int)), Kd.Q (Kd.slice 3 (Kd.int .i64)) 22 W b ok (.slice A n c) (x :: xs) → Kd.Q (Kd.slice 3 (Kd.int .i64)) 22 W b ok (.slice A' (n - 1) (c - 1)) xs := by
  obtain ⟨i0, hi, _, hsz, _⟩ := info_parts info_rw
  refine ⟨_, fun W => cut_from (P := Try.prog) 43 22 .i64 Try.underlying43 hi 1 hsz A n c 1 (by omega) (by omega) W, fun W b ok x xs h => ?_⟩
  exact Kd.Q_drop (k := 1) h (by simp)
theorem addr0 (a : Addr) : a.add 0 = a := by
  unfold Addr.add
  first
    | rfl
    | (split
       · next h => subst h; rfl
       · next h => first | rfl | exact absurd rfl h | simp_all)
set_option maxHeartbeats 4000000 in
set_option maxRecDepth 100000 in
theorem kernel_calls (A1 A2 : Option Addr) (c1 c2 : Nat) (w : World) (hr1 : Kd.C (Kd.slice 3 (Kd.int .i64)) w A1 2 im01) (hr2 : Kd.C (Kd.int .i64) w A2 2 [0, 1]) (hc2 : 2 ≤ c2) :
    Calls Try.prog 18 #[.agg #[.int .i64 2, .slice A1 2 c1, .slice A2 2 c2]] w fun e w' => e = .returned (.tuple #[.int .i64 2, .int .i64 0]) ∧ Below w.heap.size w w' := by
  have HR1 := Aside0.mk hr1
  have HR2 := Aside0.mk hr2
  have HC2 := Aside0.mk hc2
  have HCK := Aside0.mk (show ∀ W, Below w.heap.size w W → Calls Try.prog 54 #[.agg #[.int .i64 2, .slice A1 2 c1, .slice A2 2 c2]] W fun e w' => e = .returned (.int .i64 0) ∧ Below W.heap.size W w' from fun W hb => by
    have := qc_calls 2 A1 A2 c1 c2 im01 [0, 1] W (Kd.C_below hr1 hb) (Kd.C_below hr2 hb)
    rw [show qChk 2 im01 [0, 1] = 0 from by decide] at this
    exact this)
  clear hr1 hr2 hc2
  obtain ⟨E, hE1, hE2⟩ := keyS
  have E1 := Aside0.mk hE1
  have E2 := Aside0.mk hE2
  clear hE1 hE2
  have hmm := @run_makeMap Try.prog
  go_enter Try.func18, Try.ntmps18
  go_wp2_with (first
    | (go_at_call 54
       refine calls_let ?_
       intro W1 hW1
       have X1 := Aside0.mk (show W1.heap[w.heap.size]? = some (.cells #[.int .i64 2, .slice A1 2 c1, .slice A2 2 c2] 45 (0, 0)) from by rw [hW1]; exact blk_new w _)
       have B1 := Aside0.mk (show Below w.heap.size w W1 from by rw [hW1]; exact below_alloc (Below.refl _ _) _)
       clear hW1
       refine (HCK.out W1 B1.out).mono ?_
       rintro e w2 ⟨rfl, hb2⟩
       have X2 := Aside0.mk (blk_below X1.out hb2)
       have B2 := Aside0.mk (below_step B1.out hb2)
       have p0 : w2.cell? ⟨w.heap.size, 0, none⟩ = some (.int .i64 2) := (blk_cell X2.out 0).trans rfl
       have p1 : w2.cell? ⟨w.heap.size, 1, none⟩ = some (.slice A1 2 c1) := (blk_cell X2.out 1).trans rfl
       have p2 : w2.cell? ⟨w.heap.size, 2, none⟩ = some (.slice A2 2 c2) := (blk_cell X2.out 2).trans rfl
       clear hb2 X1 B1)
    | (go_at_call 55
       refine (met_calls A1 A2 c1 c2 w2 (Kd.C_below HR1.out B2.out)).mono ?_
       rintro e w3 ⟨AL, cL, u, rfl, hO3, hb3⟩
       have X3 := Aside0.mk (blk_below X2.out hb3)
       have B3 := Aside0.mk (below_step B2.out hb3)
       have O3_ := Aside0.mk hO3.reads.2.2
       have p3 : (w3.alloc (.cells #[.slice AL 2 cL] 22)).cell? ⟨w.heap.size, 2, none⟩ = some (.slice A2 2 c2) := (blk_cell (blk_alloc X3.out _) 2).trans rfl
       clear hO3 hb3 X2 B2 p0 p1 p2)
    | (go_at_call 53
       refine calls_let ?_
       intro W4 hW4
       have hb4 : Below w3.heap.size w3 W4 := by rw [hW4]; exact below_alloc (Below.refl _ _) _
       have X4 := Aside0.mk (blk_below X3.out hb4)
       have B4 := Aside0.mk (below_step B3.out hb4)
       have L4 := Aside0.mk (show W4.heap[w3.heap.size]? = some (.cells #[.slice AL 2 cL] 22 (0, 0)) from by rw [hW4]; exact blk_new w3 _)
       have O4 := Aside0.mk (Kd.C_below O3_.out hb4)
       clear hb4 hW4 X3 B3 O3_ p3
       refine (slices_Clone_int_int.calls A2 c2 [0, 1] [0, 1] W4 (Kd.C_below HR2.out B4.out) HC2.out rfl).mono ?_
       rintro e w5 ⟨v5, rfl, hr5, hb5⟩
       obtain ⟨A5, c5, rfl⟩ := Kd.R_slice hr5
       have R5 := Aside0.mk (Kd.R_mono (ok' := fun k => k ≠ w5.heap.size) (Kd.R_bound hr5) (fun k hk => by have := hk.2.2.1; omega))
       have G5 := Aside0.mk hb5
       clear hr5 hb5)
    | (go_at_call 56
       refine calls_let ?_
       intro W6 hW6
       have hb6 : Below w5.heap.size w5 W6 := by rw [hW6]; exact below_alloc (Below.refl _ _) _
       have M6 := Aside0.mk (show MapK E W6 w5.heap.size [] from by rw [hW6]; exact mapK_made E w5)
       have R6 := Aside0.mk (Kd.R_below R5.out hb6)
       have G6 := Aside0.mk (below_step G5.out hb6)
       have ZBM := Aside0.mk G5.out.size
       clear hW6 hb6 R5 G5
       generalize w5.heap.size = bm at M6 R6 ZBM ⊢
       refine (ker_calls [0, 1] rfl A5 AL c5 cL w3.heap.size kA W6 (blk_below L4.out G6.out) (Kd.C_below O4.out G6.out) (Kd.R_reads' R6.out).2.2 kS_a).mono ?_
       rintro e w7 ⟨rfl, hb7⟩
       have M7 := Aside0.mk (M6.out.below hb7)
       have R7 := Aside0.mk (Kd.R_below R6.out hb7)
       have G7 := Aside0.mk (below_step G6.out hb7)
       clear M6 R6 G6 hb7)
    | (refine wpList_upd E _ rfl _ _ _ 145 rfl Try.underlying145 bm [] kA (.int .i64 1) (by rfl) (by rw [E1.out]; rfl) (by rfl) M7.out (by rw [E2.out]; exact kA_ok) ?_
       intro w8 hM8 hT8
       have M8 := Aside0.mk (show MapK E w8 bm (ones [kA]) from hM8)
       have R8 := Aside0.mk (Kd.R_step R7.out (fun k ho _ => hT8.block k ho))
       have G8 := Aside0.mk (hT8.below G7.out ZBM.out)
       clear hM8 hT8 M7 R7 G7)
    | ((with_reducible refine gate_dst (N := 32) rfl ?_)
       have hp0 := Kd.M_row (e := 3) R8.out
       refine Kd.R_lit (Kd.slice 3 (Kd.int .i64)) (w0 := w8) W4.heap.size 22 ?hg (N := 32) ?hd (xs := [[(0 : Int), 1]]) (inner := [.slice A5 ([0, 1] : List Int).length c5]) (ok := fun k => k ≠ bm) (okp := fun k => k ≠ bm) ?hr ?hp (fun _ hk => hk) (by have := M8.out.lt; omega) (Below.refl _ _) G8.out.size (by simp) ?_
       (case hd => rfl)
       (case hg => rfl)
       (case hr => first | (go_simp; done) | (go_simp; rfl))
       (case hp => exact Reps.one hp0 (Reps.none _ _))
       intro v9 w9 hr9 hb9 hg9 _
       have Q9 := Aside0.mk (Kd.Q_of_R hr9)
       have M9 := Aside0.mk (M8.out.keep (hg9.block bm M8.out.lt (by simp)))
       have G9 := Aside0.mk (below_weaken G8.out (Nat.le_refl _) hb9)
       clear hr9 hb9 hg9 hp0 M8 R8 G8)
    | fail)
  clear hmm
  go_loopg [9] 2 (fun gg s9 wr => ∃ p : Nat, p ≤ 2 ∧ 2 - p ≤ gg ∧ Aside0 (Kd.Q (Kd.slice 3 (Kd.int .i64)) 22 wr W4.heap.size (fun k => k ≠ bm) s9 (qL p)) ∧ Aside0 (MapK E wr bm (ones (sL p))) ∧ Aside0 (Below W4.heap.size W4 wr))
  case atStart => exact ⟨0, by omega, by omega, Q9, M9, G9⟩
  case round =>
    clear Q9 M9 G9
    obtain ⟨p, hp2, hgg, QQ, MM, GG⟩ := hrel
    by_cases hp : p < 2
    · obtain ⟨eq0, es0⟩ := q_start hp
      rw [eq0] at QQ
      rw [es0] at MM
      clear eq0 es0
      have p0 : wr.cell? ⟨w.heap.size, 0, none⟩ = some (.int .i64 2) := (blk_cell (blk_below X4.out GG.out) 0).trans rfl
      obtain ⟨A9, c9, e9, hc9⟩ := Kd.Q_slice QQ.out
      have hn9 : 0 < (qI p 0).length := by obtain ⟨t, ht⟩ := q_front (x := 0) hp; rw [ht]; simp
      subst e9
      generalize (qI p 0).length = n9 at QQ hn9 hc9 ⊢
      go_wp2_with (fail)
      clear p0
      go_loopg [9, 40] 2 (fun gg s9 s40 wr => ∃ x : Nat, x ≤ 2 ∧ 2 - x ≤ gg ∧ s40 = .int .i64 (x : Int) ∧ Aside0 (Kd.Q (Kd.slice 3 (Kd.int .i64)) 22 wr W4.heap.size (fun k => k ≠ bm) s9 (qI p x)) ∧ Aside0 (MapK E wr bm (ones (sI p x))) ∧ Aside0 (Below W4.heap.size W4 wr))
      case atStart => exact ⟨0, by omega, by omega, rfl, QQ, MM, GG⟩
      case round =>
        clear QQ MM GG hn9 hc9
        obtain ⟨x, hx2, hgx, rfl, QQ, MM, GG⟩ := hrel
        obtain ⟨A8, c8, e8, hc8⟩ := Kd.Q_slice QQ.out
        have hn8 : 0 < (qI p x).length := by obtain ⟨t, ht⟩ := q_front (x := x) hp; rw [ht]; simp
        have hln8 := q_len (x := x) hp
        obtain ⟨n8, hn8e⟩ : ∃ n8, n8 = (qI p x).length := ⟨_, rfl⟩
        rw [← hn8e] at e8 hc8 hn8 hln8
        subst e8
        have HN8 := Aside0.mk hn8e
        have HC8 := Aside0.mk hc8
        clear hn8e
        by_cases hx : x < 2
        · have hxz : (x : Int) < 2 := by omega
          have p1 : wr.cell? ⟨w.heap.size, 1, none⟩ = some (.slice A1 2 c1) := (blk_cell (blk_below X4.out GG.out) 1).trans rfl
          obtain ⟨wo, hwo⟩ : ∃ wo, wo = wr := ⟨_, rfl⟩
          subst hwo
          go_wp2_with (first
            | ((with_reducible refine gate_dst (N := 45) rfl ?_)
               refine Kd.R_make (Kd.int .i64) (w0 := wo) wo.heap.size 3 rfl rfl 22 (.tmp 44) (.tmp 44) rfl (2 : Int) rfl rfl Try.underlying22 (.int .i64 0) 8 int3 rfl (by decide) (by decide) (0 : Int) (ok := fun k => wo.heap.size ≤ k) (okp := fun _ => False) rfl (fun _ h => h.elim) (Nat.le_refl _) (by omega) (by omega) (Below.refl _ _) (Nat.le_refl _) ?_
               intro v1 w2 hr1 hb1 hg1 hat1
               obtain ⟨bn, ebn, hbn⟩ := hat1
               obtain ⟨A3, cn, ev⟩ := Kd.R_slice hr1
               subst ev
               obtain ⟨a1, rfl⟩ : ∃ a1, A3 = some a1 := (by cases A3 with | none => simp [Value.ownBlock] at ebn | some a => exact ⟨a, rfl⟩)
               obtain ⟨g, rfl, hl1, hrow, hgb, _⟩ := row_of_R hr1
               have R2 := Aside0.mk (show Row w2 g (rowL p x 0) cn from hrow)
               have B2 := Aside0.mk hb1
               have HGB := Aside0.mk hgb
               have p2 := pw_cell_below hb1 p1
               clear hr1 hrow hb1 hg1 hbn ebn hl1 hgb bn p1)
            | fail)
          have QO := Aside0.mk QQ.out
          go_loopg [49] 2 (fun gg s49 wr => ∃ a : Nat, a ≤ 2 ∧ 2 - a ≤ gg ∧ s49 = .int .i64 (a : Int) ∧ Aside0 (Row wr g (rowL p x a) cn) ∧ Aside0 (Below wo.heap.size wo wr))
          case atStart => exact ⟨0, by omega, by omega, rfl, R2, B2⟩
          case round =>
            clear R2 B2
            obtain ⟨a, ha2, hga, rfl, RR, BB⟩ := hrel
            by_cases ha : a < 2
            · have haz : (a : Int) < 2 := by omega
              obtain ⟨ai, Ar, cr, e1, hcr, hrow, hcell⟩ := row_get (Kd.C_below HR1.out (below_step B4.out GG.out)) rfl (i := a) ha
              subst e1
              rw [im01_row ha] at hcell hrow hcr
              obtain ⟨ar, e1, hax⟩ := int_get hrow (im01_row ha).symm (i := x) (by rw [im01_row ha]; exact hx)
              subst e1
              rw [metV_at ha hx] at hax
              obtain ⟨y, hy, hyv, hst⟩ := row_step hp hx ha
              rw [hyv] at hax
              obtain ⟨t, ht⟩ := q_front (x := x) hp
              have hC8 := (Kd.Q_reads' QQ.out).2.2
              rw [ht] at hC8
              obtain ⟨aq, Af, cf, e1, hcf, hfr, hfc⟩ := row_get hC8 rfl (i := 0) (by simp)
              simp only [List.getElem_cons_zero] at hcf hfr hfc
              rw [fr_len] at hcf hfr hfc
              subst e1
              obtain ⟨af, e1, hfy⟩ := int_get hfr (fr_len p).symm (i := y) (by rw [fr_len]; exact hy)
              subst e1
              have hvr := (Row.keep RR.out (show wr.drew.heap[g]? = wr.heap[g]? from rfl)).set (i := a) (by rw [rowL_len ha2]; exact ha) ((fr p)[y]'(by rw [fr_len]; exact hy))
              rw [hst] at hvr
              have kg := RR.out.cell (i := a) (by rw [rowL_len ha2]; exact ha)
              have fg := RR.out.frozen a
              have HVR := Aside0.mk hvr
              clear hst hyv ht hC8 hvr hcf hfr hrow hcr
              generalize (fr p)[y]'(by rw [fr_len]; exact hy) = v at hfy HVR
              generalize (rowL p x a).getD a 0 = old at kg
              have hyz : (y : Int) < 2 := by omega
              have hq0 : wo.cell? aq = some (.slice (some af) 2 cf) := by rw [addr0] at hfc; exact hfc
              have HMS := Aside0.mk (show ∀ W', Below wo.heap.size wo W' → (fun W' => Below wo.heap.size wo W' ∧ W'.cell? aq = some (.slice (some af) 2 cf) ∧ W'.cell? (ar.add x) = some (.int .i64 (y : Int)) ∧ W'.cell? (af.add y) = some (.int .i64 v)) W' from fun W' hb => ⟨hb, pw_cell_below hb hq0, pw_cell_below hb hax, pw_cell_below hb hfy⟩)
              have hc0 := pw_cell_below BB.out hcell
              clear hfc hq0 hax hfy hcell
              go_wp2_with (fail)
              refine wp_region_held_drew (S := (fun W' => Below wo.heap.size wo W' ∧ W'.cell? aq = some (.slice (some af) 2 cf) ∧ W'.cell? (ar.add x) = some (.int .i64 (y : Int)) ∧ W'.cell? (af.add y) = some (.int .i64 v))) (by kernel_rfl) ?_ (fun hHeld => ?_)
              · (try dsimp only); (first | exact HMS.out _ (below_drew1 BB.out) | exact HMS.out _ (below_set (below_drew1 BB.out) (by have := HGB.out; show wo.heap.size ≤ g; omega)))
              refine wpAnyH_take (i := 0) (v := ?_) rfl (by kernel_rfl) (by kernel_rfl) (by kernel_rfl) (fun _ _ _ h => h) (Or.inl ⟨by kernel_rfl, ?_⟩) (by assumption) ?_
              rotate_left 1
              · intro w hSw; (try dsimp only at hSw); go_simp; (try with_reducible rfl)
              (try simp only [Act.put, List.getElem_toArray, List.getElem_cons_zero, List.getElem_cons_succ, List.setIfInBounds_toArray, List.set_cons_zero, List.set_cons_succ])
              refine wpAnyH_take (i := 1) (v := ?_) rfl (by kernel_rfl) (by kernel_rfl) (by kernel_rfl) (fun _ _ _ h => h) (Or.inl ⟨by kernel_rfl, ?_⟩) (by assumption) ?_
              rotate_left 1
              · intro w hSw; (try dsimp only at hSw); go_simp; (try with_reducible rfl)
              (try simp only [Act.put, List.getElem_toArray, List.getElem_cons_zero, List.getElem_cons_succ, List.setIfInBounds_toArray, List.set_cons_zero, List.set_cons_succ])
              refine wpAnyH_take (i := 2) (v := ?_) rfl (by kernel_rfl) (by kernel_rfl) (by kernel_rfl) (fun _ _ _ h => h) (Or.inl ⟨by kernel_rfl, ?_⟩) (by assumption) ?_
              rotate_left 1
              · intro w hSw; (try dsimp only at hSw); go_simp; (try with_reducible rfl)
              (try simp only [Act.put, List.getElem_toArray, List.getElem_cons_zero, List.getElem_cons_succ, List.setIfInBounds_toArray, List.set_cons_zero, List.set_cons_succ])
              refine wpAnyH_take (i := 3) (v := ?_) rfl (by kernel_rfl) (by kernel_rfl) (by kernel_rfl) (fun _ _ _ h => h) (Or.inl ⟨by kernel_rfl, ?_⟩) (by assumption) ?_
              rotate_left 1
              · intro w hSw; (try dsimp only at hSw); go_simp; (try with_reducible rfl)
              (try simp only [Act.put, List.getElem_toArray, List.getElem_cons_zero, List.getElem_cons_succ, List.setIfInBounds_toArray, List.set_cons_zero, List.set_cons_succ])
              refine wpAnyH_take (i := 4) (v := ?_) rfl (by kernel_rfl) (by kernel_rfl) (by kernel_rfl) (fun _ _ _ h => h) (Or.inl ⟨by kernel_rfl, ?_⟩) (by assumption) ?_
              rotate_left 1
              · intro w hSw; (try dsimp only at hSw); go_simp; (try with_reducible rfl)
              (try simp only [Act.put, List.getElem_toArray, List.getElem_cons_zero, List.getElem_cons_succ, List.setIfInBounds_toArray, List.set_cons_zero, List.set_cons_succ])
              refine wpAnyH_take (i := 5) (v := ?_) rfl (by kernel_rfl) (by kernel_rfl) (by kernel_rfl) (fun _ _ _ h => h) (Or.inl ⟨by kernel_rfl, ?_⟩) (by assumption) ?_
              rotate_left 1
              · intro w hSw; (try dsimp only at hSw); go_simp; (try with_reducible rfl)
              (try simp only [Act.put, List.getElem_toArray, List.getElem_cons_zero, List.getElem_cons_succ, List.setIfInBounds_toArray, List.set_cons_zero, List.set_cons_succ])
              refine wpAnyH_take (i := 6) (v := ?_) rfl (by kernel_rfl) (by kernel_rfl) (by kernel_rfl) (fun _ _ _ h => h) (Or.inl ⟨by kernel_rfl, ?_⟩) (by assumption) ?_
              rotate_left 1
              · intro w hSw; (try dsimp only at hSw); go_simp; (try with_reducible rfl)
              (try simp only [Act.put, List.getElem_toArray, List.getElem_cons_zero, List.getElem_cons_succ, List.setIfInBounds_toArray, List.set_cons_zero, List.set_cons_succ])
              refine wpAnyH_take (i := 7) (v := ?_) rfl (by kernel_rfl) (by kernel_rfl) (by kernel_rfl) (fun _ _ _ h => h) (Or.inl ⟨by kernel_rfl, ?_⟩) (by assumption) ?_
              rotate_left 1
              · intro w hSw; (try dsimp only at hSw); go_simp; (try with_reducible rfl)
              (try simp only [Act.put, List.getElem_toArray, List.getElem_cons_zero, List.getElem_cons_succ, List.setIfInBounds_toArray, List.set_cons_zero, List.set_cons_succ])
              refine wpAnyH_take (i := 8) (v := ?_) rfl (by kernel_rfl) (by kernel_rfl) (by kernel_rfl) (fun _ _ _ h => h) (Or.inl ⟨by kernel_rfl, ?_⟩) (by assumption) ?_
              rotate_left 1
              · intro w hSw; (try dsimp only at hSw); go_simp; (try with_reducible rfl)
              (try simp only [Act.put, List.getElem_toArray, List.getElem_cons_zero, List.getElem_cons_succ, List.setIfInBounds_toArray, List.set_cons_zero, List.set_cons_succ])
              refine wpAnyH_take (i := 9) (v := ?_) rfl (by kernel_rfl) (by kernel_rfl) (by kernel_rfl) (fun _ _ _ h => h) (Or.inl ⟨by kernel_rfl, ?_⟩) (by assumption) ?_
              rotate_left 1
              · intro w hSw; (try dsimp only at hSw); go_simp; (try with_reducible rfl)
              (try simp only [Act.put, List.getElem_toArray, List.getElem_cons_zero, List.getElem_cons_succ, List.setIfInBounds_toArray, List.set_cons_zero, List.set_cons_succ])
              refine wpAnyH_take (i := 10) (v := ?_) rfl (by kernel_rfl) (by kernel_rfl) (by kernel_rfl) (fun _ _ _ h => h) (Or.inl ⟨by kernel_rfl, ?_⟩) (by assumption) ?_
              rotate_left 1
              · intro w hSw; (try dsimp only at hSw); go_simp; (try with_reducible rfl)
              (try simp only [Act.put, List.getElem_toArray, List.getElem_cons_zero, List.getElem_cons_succ, List.setIfInBounds_toArray, List.set_cons_zero, List.set_cons_succ])
              refine wpAnyH_take (i := 11) (v := ?_) rfl (by kernel_rfl) (by kernel_rfl) (by kernel_rfl) (fun _ _ _ h => h) (Or.inl ⟨by kernel_rfl, ?_⟩) (by assumption) ?_
              rotate_left 1
              · intro w hSw; (try dsimp only at hSw); go_simp; (try with_reducible rfl)
              (try simp only [Act.put, List.getElem_toArray, List.getElem_cons_zero, List.getElem_cons_succ, List.setIfInBounds_toArray, List.set_cons_zero, List.set_cons_succ])
              refine wpAnyH_ready (rs := [12]) (by kernel_rfl) (by simp) ?_
              refine AllReadyH.cons rfl (fun K hK => ?_) AllReadyH.nil
              rw [if_pos (by kernel_rfl)]
              go_simp
              (try go_simp)
              refine hK.out _ _ ?_ (fun hHeld => ?_)
              · (try dsimp only); (first | exact HMS.out _ (below_drew1 BB.out) | exact HMS.out _ (below_set (below_drew1 BB.out) (by have := HGB.out; show wo.heap.size ≤ g; omega)))
              clear hK K
              (try simp only [Act.put, List.getElem_toArray, List.getElem_cons_zero, List.getElem_cons_succ, List.setIfInBounds_toArray, List.set_cons_zero, List.set_cons_succ])
              refine wpAnyH_done (by kernel_rfl) ?_ _
              go_wp2_with (fail)
              go_roundg (2 - (a + 1))
              case measure => omega
              case rel => exact ⟨a + 1, by omega, by omega, by go_num, HVR, ⟨below_set (below_drew1 BB.out) (by have := HGB.out; show wo.heap.size ≤ g; omega)⟩⟩
            · obtain rfl : a = 2 := by omega
              rw [rowL_all] at RR
              have G8 := Aside0.mk (below_step GG.out BB.out)
              have M8 := Aside0.mk (MM.out.below BB.out)
              have Q8 := Aside0.mk (Kd.Q_below QQ.out BB.out)
              have HQO := Aside0.mk (show ∀ k, (Value.slice A8 n8 c8).ownBlock = some k → k ≠ g from fun k hk => by have := Kd.Q_lt QQ.out k hk; have := HGB.out; omega)
              have HGM := Aside0.mk (show g ≠ bm from by have := MM.out.lt; have := HGB.out; omega)
              have HW4 := Aside0.mk (show W4.heap.size ≤ g from by have := GG.out.size; have := HGB.out; omega)
              clear GG BB MM QQ HGB p2
              have HKC := Aside0.mk (ker_calls (nrow p x) (nrow_len p x) (some ⟨g, 0, none⟩) AL cn cL w3.heap.size (kN p x) wr (blk_below L4.out G8.out) (Kd.C_below O4.out G8.out) (RR.out.C' (nrow_len p x)) (kN_ev p x))
              by_cases hnew : p = 0 ∧ x = 1
              · have HN := Aside0.mk (q_new hnew)
                clear hnew
                go_wp2_with (first
                  | (go_at_call 56
                     refine HKC.out.mono ?_
                     rintro e w7 ⟨rfl, hb7⟩
                     have G7 := Aside0.mk (below_step G8.out hb7)
                     have M7 := Aside0.mk (M8.out.below hb7)
                     have Q7 := Aside0.mk (Kd.Q_below Q8.out hb7)
                     have R7 := Aside0.mk (RR.out.below hb7)
                     have hlk := M7.out.look (kN p x) (by rw [E2.out]; exact kN_ok p x) Try.underlying145 (zero3 w7) false
                     rw [lk_ones (s_nodup p x), if_neg HN.out.2.2, E1.out] at hlk
                     have hlk' : (Instr.lookup 145 (.map (some bm)) (.string (kN p x)) false).run Try.prog w7 = .ok (.int .i64 0) w7 := hlk
                     clear hlk hb7)
                  | (refine wpList_upd E _ rfl _ _ _ 145 rfl Try.underlying145 bm (ones (sI p x)) (kN p x) (.int .i64 1) (by rfl) (by rw [E1.out]; rfl) (by rfl) M7.out (by rw [E2.out]; exact kN_ok p x) ?_
                     intro w6 hM6 hT6
                     rw [put_ones (s_nodup p x) HN.out.2.2] at hM6
                     have M6 := Aside0.mk hM6
                     have Q6 := Aside0.mk (Kd.Q_step Q7.out (fun k ho _ => hT6.block k ho))
                     have G6 := Aside0.mk (hT6.below G7.out ZBM.out)
                     have R6 := Aside0.mk (R7.out.keep (hT6.block g HGM.out))
                     clear hM6 hT6 hlk')
                  | ((with_reducible refine gate_dst (N := 79) rfl ?_)
                     have hrr := R6.out.R (base := W4.heap.size) (ok := fun k => k = g) HW4.out rfl
                     rw [nrow_len] at hrr
                     have hp0 := Kd.M_row (e := 3) hrr
                     refine Kd.Q_append (Kd.slice 3 (Kd.int .i64)) (w0 := w6) W4.heap.size rfl _ _ 43 22 (.slice none 0 0) 24 rfl Try.underlying43 info_rw rfl (by decide) (by decide) (.slice A8 n8 c8) (qI p x) (nrow p x) [.slice (some ⟨g, 0, none⟩) 2 cn] (fun k => k ≠ bm) (fun k => k = g) rfl rfl hp0 (fun k hk => by subst hk; exact ⟨HGM.out, fun e => HQO.out k e.symm rfl⟩) (fun k hk => by have := M6.out.lt; omega) Q6.out (Below.refl _ _) G6.out.size (by have := q_len (x := x) hp; omega) ?_
                     intro v7 w9 h7 hb7 hg7 _
                     have Q9 := Aside0.mk h7
                     have M9 := Aside0.mk (M6.out.keep (hg7.block bm M6.out.lt (fun e => Q6.out.1 bm e.symm rfl)))
                     have G9 := Aside0.mk (below_weaken G6.out (Nat.le_refl _) hb7)
                     clear h7 hb7 hg7 hp0 hrr)
                  | fail)
                go_roundg (2 - (x + 1))
                case measure => omega
                case rel => exact ⟨x + 1, by omega, by omega, by go_num, ⟨by rw [HN.out.1]; exact Q9.out⟩, ⟨by rw [HN.out.2.1]; exact M9.out⟩, G9⟩
              · have HN := Aside0.mk (q_old hp hx hnew)
                clear hnew
                go_wp2_with (first
                  | (go_at_call 56
                     refine HKC.out.mono ?_
                     rintro e w7 ⟨rfl, hb7⟩
                     have G7 := Aside0.mk (below_step G8.out hb7)
                     have M7 := Aside0.mk (M8.out.below hb7)
                     have Q7 := Aside0.mk (Kd.Q_below Q8.out hb7)
                     have hlk := M7.out.look (kN p x) (by rw [E2.out]; exact kN_ok p x) Try.underlying145 (zero3 w7) false
                     rw [lk_ones (s_nodup p x), if_pos HN.out.2.2, E1.out] at hlk
                     have hlk' : (Instr.lookup 145 (.map (some bm)) (.string (kN p x)) false).run Try.prog w7 = .ok (.int .i64 1) w7 := hlk
                     clear hlk hb7)
                  | fail)
                go_roundg (2 - (x + 1))
                case measure => omega
                case rel => exact ⟨x + 1, by omega, by omega, by go_num, ⟨by rw [HN.out.1]; exact Q7.out⟩, ⟨by rw [HN.out.2.1]; exact M7.out⟩, G7⟩
        · obtain rfl : x = 2 := by omega
          have hq := (q_end hp)
          obtain ⟨A', hcut, hQ⟩ := cut_rw A8 c8 n8 hn8 hc8
          have Q9 := Aside0.mk (hQ _ _ _ _ _ (by rw [← hq.1]; exact QQ.out))
          have M9 := Aside0.mk (show MapK E wr bm (ones (sL (p + 1))) from by rw [← hq.2]; exact MM.out)
          clear hQ hq QQ MM
          go_wp2_with (fail)
          go_roundg (2 - (p + 1))
          case measure => omega
          case rel => exact ⟨p + 1, by omega, by omega, Q9, M9, GG⟩
    · obtain rfl : p = 2 := by omega
      obtain ⟨A9, c9, e9, hc9⟩ := Kd.Q_slice QQ.out
      simp only [show (qL 2).length = 0 from rfl] at e9
      subst e9
      have hlen := MM.out.len Try.underlying145 3
      have hlen' : (Builtin.len_ #[145] 3 #[.map (some bm)]).run Try.prog wr = .ok (.int .i64 2) wr := hlen
      clear hlen
      go_wp2_with (fail)
      go_ret2
      exact ⟨rfl, below_step B4.out GG.out⟩
end Go.Proofs.Ytampgoendkjkhaa.H
