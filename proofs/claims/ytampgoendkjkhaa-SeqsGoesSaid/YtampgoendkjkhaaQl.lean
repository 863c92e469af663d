/- seqs.letter, seqs.At. -/
import Derived.Test.YtampgoendkjkhaaQc
import Derived.Deep.RegionHeld3
namespace Go.Proofs.Ytampgoendkjkhaa.H
open Go.RowKit Go.Shelf Go.Proofs.YtampgoendkjkhaaW.PrintWords Go.Proofs.YtampgoendkjkhaaW.PrintMore
set_option linter.unusedVariables false
set_option linter.unusedSimpArgs false
set_option maxHeartbeats 4000000 in
set_option maxRecDepth 100000 in
theorem letter_calls (b : Nat) (im : List (List Int)) (cd : List Int) (A1 A2 : Option Addr) (c1 c2 : Nat) (hok : MorOk b im cd) : ∀ (k n : Nat) (w : World), n ≤ k → n ≤ 2000000000000000 → Kd.C (Kd.slice 3 (Kd.int .i64)) w A1 im.length im →
    Calls Try.prog 59 #[.agg #[.int .i64 (b : Int), .slice A1 im.length c1, .slice A2 cd.length c2], .int .i64 (n : Int)] w fun e w' => e = .returned (.int .i64 (letF b im n : Int)) ∧ Below w.heap.size w w' := by
  intro k
  induction k with
  | zero =>
    intro n w hk hbig hr
    obtain rfl : n = 0 := by omega
    have HB := Aside0.mk (below_alloc (Below.refl w.heap.size w) (.cells #[.int .i64 (b : Int), .slice A1 im.length c1, .slice A2 cd.length c2] 45))
    have HL := Aside0.mk (let_zero b im)
    rw [HL.out]
    go_enter Try.func59, Try.ntmps59
    go_wp2_with fail
    go_ret
    exact ⟨rfl, HB.out⟩
  | succ k ih =>
    intro n w hk hbig hr
    have HB := Aside0.mk (below_alloc (Below.refl w.heap.size w) (.cells #[.int .i64 (b : Int), .slice A1 im.length c1, .slice A2 cd.length c2] 45))
    by_cases hn : n = 0
    · subst hn
      have HL := Aside0.mk (let_zero b im)
      rw [HL.out]
      clear ih hr
      go_enter Try.func59, Try.ntmps59
      go_wp2_with fail
      go_ret
      exact ⟨rfl, HB.out⟩
    · have HL := Aside0.mk (let_step hok.b2 im hn)
      have hb2 := hok.b2
      have hb4 := hok.b4
      have hqk : n / b ≤ k := by have := Nat.div_lt_self (show 0 < n by omega) (show 1 < b by omega); omega
      have hqb : n / b ≤ 2000000000000000 := Nat.le_trans (Nat.div_le_self _ _) hbig
      have hrb := Nat.mod_lt n (show b > 0 by omega)
      have hla := let_lt hok (n / b)
      have hv := im_val hok hla hrb
      have hrow := im_row hok hla
      have HIH := Aside0.mk (fun (W : World) (hb : Below w.heap.size w W) => ih (n / b) W hqk hqb (Kd.C_below hr hb))
      have hd1 : ((n : Int) / (b : Int)) = ((n / b : Nat) : Int) := rfl
      have hm1 : ((n : Int) % (b : Int)) = ((n % b : Nat) : Int) := rfl
      have hm2 : (n : Int).tmod (b : Int) = ((n % b : Nat) : Int) := rfl
      have HR := Aside0.mk hr
      clear ih hr
      generalize n / b = q at HL hqk hqb hla hv hrow HIH hd1
      generalize n % b = r at HL hrb hv hm1 hm2
      rw [HL.out]
      generalize hlq : letF b im q = la at hla hv hrow HIH HL
      generalize hxx : imN im la r = x at hv HL
      obtain ⟨W1, hW1⟩ : ∃ W1, W1 = w.alloc (.cells #[.int .i64 (b : Int), .slice A1 im.length c1, .slice A2 cd.length c2] 45) := ⟨_, rfl⟩
      have hb1 : Below w.heap.size w W1 := by rw [hW1]; exact HB.out
      have X1 : W1.heap[w.heap.size]? = some (.cells #[.int .i64 (b : Int), .slice A1 im.length c1, .slice A2 cd.length c2] 45 (0, 0)) := by rw [hW1]; exact blk_new w _
      obtain ⟨ad, Ar, cr, e0, hcr, hC, hcell⟩ := row_get (Kd.C_below HR.out hb1) rfl hla
      subst e0
      have hg : im.getD la [] = im[la] := by rw [List.getD_eq_getElem?_getD, List.getElem?_eq_getElem hla]; rfl
      rw [hg] at hv hrow
      generalize im[la] = row at hcell hC hv hrow hcr
      rw [hrow.2] at hcell hC
      obtain ⟨ar, e0, hx⟩ := int_get hC hrow.2.symm (i := r) (by rw [hrow.2]; exact hrb)
      subst e0
      have hvx : row[r]'(by rw [hrow.2]; exact hrb) = (x : Int) := by
        rw [← hv.1, List.getD_eq_getElem?_getD, List.getElem?_eq_getElem (by rw [hrow.2]; exact hrb)]
        rfl
      rw [hvx] at hx
      have HMS := Aside0.mk (show ∀ W', Below W1.heap.size W1 W' → (fun W' => Below W1.heap.size W1 W' ∧ W'.cell? ⟨w.heap.size, 0, none⟩ = some (.int .i64 (b : Int)) ∧ W'.cell? ⟨w.heap.size, 1, none⟩ = some (.slice (some ad) im.length c1) ∧ W'.cell? ⟨w.heap.size, 2, none⟩ = some (.slice A2 cd.length c2) ∧ W'.cell? (ad.add la) = some (.slice (some ar) b cr) ∧ W'.cell? (ar.add r) = some (.int .i64 (x : Int))) W' from fun W' hb => ⟨hb, pw_cell_below hb ((blk_cell X1 0).trans rfl), pw_cell_below hb ((blk_cell X1 1).trans rfl), pw_cell_below hb ((blk_cell X1 2).trans rfl), pw_cell_below hb hcell, pw_cell_below hb hx⟩)
      have HB1 := Aside0.mk hb1
      have hbz : (1 : Int) ≤ (b : Int) := by omega
      have hbn : ((b : Int) == 0) = false := by simp; omega
      have hbn' : ¬ b = 0 := by omega
      have hnz : (0 : Int) ≤ (n : Int) := by omega
      have hnb : (n : Int) ≤ 9223372036854775807 := by omega
      have hn0 : ((n : Int) == 0) = false := by simp; omega
      have hlz : (la : Int) < (im.length : Int) := by omega
      have hrz : (r : Int) < (b : Int) := by omega
      have hq1 : IntKind.i64.wrap (q : Int) = (q : Int) := IntWalk.i64_in _ (by omega)
      have hr1 : IntKind.i64.wrap (r : Int) = (r : Int) := IntWalk.i64_in _ (by omega)
      clear hcell hx hC hv hrow hvx hlq hxx hg hcr X1 hb1 hqk hqb hn
      go_enter Try.func59, Try.ntmps59
      go_wp2_with fail
      rw [← hW1]
      clear hW1
      refine wp_region_held_drew (S := (fun W' => Below W1.heap.size W1 W' ∧ W'.cell? ⟨w.heap.size, 0, none⟩ = some (.int .i64 (b : Int)) ∧ W'.cell? ⟨w.heap.size, 1, none⟩ = some (.slice (some ad) im.length c1) ∧ W'.cell? ⟨w.heap.size, 2, none⟩ = some (.slice A2 cd.length c2) ∧ W'.cell? (ad.add la) = some (.slice (some ar) b cr) ∧ W'.cell? (ar.add r) = some (.int .i64 (x : Int)))) (by kernel_rfl) ?_ (fun hHeld => ?_)
      · (try dsimp only); (first | exact HMS.out _ B3.out | exact HMS.out _ (below_drew1 (Below.refl _ _)) | fail)
      refine wpAnyH_take (i := 0) (v := ?_) rfl (by kernel_rfl) (by kernel_rfl) (by kernel_rfl) (fun _ _ _ h => h) (Or.inl ⟨by kernel_rfl, ?_⟩) (by assumption) ?_
      rotate_left 1
      · intro w hSw; (try dsimp only at hSw); go_simp; (try with_reducible rfl)
      (try simp only [Act.put, List.getElem_toArray, List.getElem_cons_zero, List.getElem_cons_succ, List.setIfInBounds_toArray, List.set_cons_zero, List.set_cons_succ])
      refine wpAnyH_take (i := 1) (v := ?_) rfl (by kernel_rfl) (by kernel_rfl) (by kernel_rfl) (fun _ _ _ h => h) (Or.inl ⟨by kernel_rfl, ?_⟩) (by assumption) ?_
      rotate_left 1
      · intro w hSw; (try dsimp only at hSw); go_simp; (try with_reducible rfl)
      (try simp only [Act.put, List.getElem_toArray, List.getElem_cons_zero, List.getElem_cons_succ, List.setIfInBounds_toArray, List.set_cons_zero, List.set_cons_succ])
      refine wpAnyH_take (i := 2) (v := ?_) rfl (by kernel_rfl) (by kernel_rfl) (by kernel_rfl) (fun _ _ _ h => h) (Or.inl ⟨by kernel_rfl, ?_⟩) (by assumption) ?_
      rotate_left 1
      · intro w hSw; (try dsimp only at hSw); go_simp; (try with_reducible rfl)
      (try simp only [Act.put, List.getElem_toArray, List.getElem_cons_zero, List.getElem_cons_succ, List.setIfInBounds_toArray, List.set_cons_zero, List.set_cons_succ])
      refine wpAnyH_take (i := 3) (v := ?_) rfl (by kernel_rfl) (by kernel_rfl) (by kernel_rfl) (fun _ _ _ h => h) (Or.inl ⟨by kernel_rfl, ?_⟩) (by assumption) ?_
      rotate_left 1
      · intro w hSw; (try dsimp only at hSw); go_simp; (try with_reducible rfl)
      (try simp only [Act.put, List.getElem_toArray, List.getElem_cons_zero, List.getElem_cons_succ, List.setIfInBounds_toArray, List.set_cons_zero, List.set_cons_succ])
      refine wpAnyH_take (i := 4) (v := ?_) rfl (by kernel_rfl) (by kernel_rfl) (by kernel_rfl) (fun _ _ _ h => h) (Or.inl ⟨by kernel_rfl, ?_⟩) (by assumption) ?_
      rotate_left 1
      · intro w hSw; (try dsimp only at hSw); go_simp; (try with_reducible rfl)
      (try simp only [Act.put, List.getElem_toArray, List.getElem_cons_zero, List.getElem_cons_succ, List.setIfInBounds_toArray, List.set_cons_zero, List.set_cons_succ])
      refine wpAnyH_take (i := 5) (v := ?_) rfl (by kernel_rfl) (by kernel_rfl) (by kernel_rfl) (fun _ _ _ h => h) (Or.inl ⟨by kernel_rfl, ?_⟩) (by assumption) ?_
      rotate_left 1
      · intro w hSw; (try dsimp only at hSw); go_simp; (try with_reducible rfl)
      (try simp only [Act.put, List.getElem_toArray, List.getElem_cons_zero, List.getElem_cons_succ, List.setIfInBounds_toArray, List.set_cons_zero, List.set_cons_succ])
      refine wpAnyH_take (i := 6) (v := ?_) rfl (by kernel_rfl) (by kernel_rfl) (by kernel_rfl) (fun _ _ _ h => h) (Or.inl ⟨by kernel_rfl, ?_⟩) (by assumption) ?_
      rotate_left 1
      · intro w hSw; (try dsimp only at hSw); go_simp; (try with_reducible rfl)
      (try simp only [Act.put, List.getElem_toArray, List.getElem_cons_zero, List.getElem_cons_succ, List.setIfInBounds_toArray, List.set_cons_zero, List.set_cons_succ])
      refine wpAnyH_take (i := 10) (v := ?_) rfl (by kernel_rfl) (by kernel_rfl) (by kernel_rfl) (fun _ _ _ h => h) (Or.inl ⟨by kernel_rfl, ?_⟩) (by assumption) ?_
      rotate_left 1
      · intro w hSw; (try dsimp only at hSw); go_simp; (try with_reducible rfl)
      (try simp only [Act.put, List.getElem_toArray, List.getElem_cons_zero, List.getElem_cons_succ, List.setIfInBounds_toArray, List.set_cons_zero, List.set_cons_succ])
      refine wpAnyH_take (i := 11) (v := ?_) rfl (by kernel_rfl) (by kernel_rfl) (by kernel_rfl) (fun _ _ _ h => h) (Or.inl ⟨by kernel_rfl, ?_⟩) (by assumption) ?_
      rotate_left 1
      · intro w hSw; (try dsimp only at hSw); go_simp; (try with_reducible rfl)
      (try simp only [Act.put, List.getElem_toArray, List.getElem_cons_zero, List.getElem_cons_succ, List.setIfInBounds_toArray, List.set_cons_zero, List.set_cons_succ])
      refine wpAnyH_take (i := 12) (v := ?_) rfl (by kernel_rfl) (by kernel_rfl) (by kernel_rfl) (fun _ _ _ h => h) (Or.inl ⟨by kernel_rfl, ?_⟩) (by assumption) ?_
      rotate_left 1
      · intro w hSw; (try dsimp only at hSw); go_simp; (try with_reducible rfl)
      (try simp only [Act.put, List.getElem_toArray, List.getElem_cons_zero, List.getElem_cons_succ, List.setIfInBounds_toArray, List.set_cons_zero, List.set_cons_succ])
      refine wpAnyH_take (i := 13) (v := ?_) rfl (by kernel_rfl) (by kernel_rfl) (by kernel_rfl) (fun _ _ _ h => h) (Or.inl ⟨by kernel_rfl, ?_⟩) (by assumption) ?_
      rotate_left 1
      · intro w hSw; (try dsimp only at hSw); go_simp; (try with_reducible rfl)
      (try simp only [Act.put, List.getElem_toArray, List.getElem_cons_zero, List.getElem_cons_succ, List.setIfInBounds_toArray, List.set_cons_zero, List.set_cons_succ])
      refine wpAnyH_ready (rs := [7]) (by kernel_rfl) (by simp) ?_
      refine AllReadyH.cons rfl (fun K hK => ?_) AllReadyH.nil
      rw [if_pos (by kernel_rfl)]
      go_simp
      (go_at_call 59; refine (HIH.out _ (below_drew1 HB1.out)).mono ?_; rintro e w3 ⟨rfl, hb3⟩; have B3 := Aside0.mk (below_step (below_drew1 (Below.refl W1.heap.size W1)) hb3); clear hb3)
      (try go_simp)
      refine hK.out _ _ ?_ (fun hHeld => ?_)
      · (try dsimp only); (first | exact HMS.out _ B3.out | exact HMS.out _ (below_drew1 (Below.refl _ _)) | fail)
      clear hK K
      (try simp only [Act.put, List.getElem_toArray, List.getElem_cons_zero, List.getElem_cons_succ, List.setIfInBounds_toArray, List.set_cons_zero, List.set_cons_succ])
      refine wpAnyH_take (i := 8) (v := ?_) rfl (by kernel_rfl) (by kernel_rfl) (by kernel_rfl) (fun _ _ _ h => h) (Or.inl ⟨by kernel_rfl, ?_⟩) (by assumption) ?_
      rotate_left 1
      · intro w hSw; (try dsimp only at hSw); go_simp; (try with_reducible rfl)
      (try simp only [Act.put, List.getElem_toArray, List.getElem_cons_zero, List.getElem_cons_succ, List.setIfInBounds_toArray, List.set_cons_zero, List.set_cons_succ])
      refine wpAnyH_take (i := 9) (v := ?_) rfl (by kernel_rfl) (by kernel_rfl) (by kernel_rfl) (fun _ _ _ h => h) (Or.inl ⟨by kernel_rfl, ?_⟩) (by assumption) ?_
      rotate_left 1
      · intro w hSw; (try dsimp only at hSw); go_simp; (try with_reducible rfl)
      (try simp only [Act.put, List.getElem_toArray, List.getElem_cons_zero, List.getElem_cons_succ, List.setIfInBounds_toArray, List.set_cons_zero, List.set_cons_succ])
      refine wpAnyH_take (i := 14) (v := ?_) rfl (by kernel_rfl) (by kernel_rfl) (by kernel_rfl) (fun _ _ _ h => h) (Or.inl ⟨by kernel_rfl, ?_⟩) (by assumption) ?_
      rotate_left 1
      · intro w hSw; (try dsimp only at hSw); go_simp; (try with_reducible rfl)
      (try simp only [Act.put, List.getElem_toArray, List.getElem_cons_zero, List.getElem_cons_succ, List.setIfInBounds_toArray, List.set_cons_zero, List.set_cons_succ])
      refine wpAnyH_take (i := 15) (v := ?_) rfl (by kernel_rfl) (by kernel_rfl) (by kernel_rfl) (fun _ _ _ h => h) (Or.inl ⟨by kernel_rfl, ?_⟩) (by assumption) ?_
      rotate_left 1
      · intro w hSw; (try dsimp only at hSw); go_simp; (try with_reducible rfl)
      (try simp only [Act.put, List.getElem_toArray, List.getElem_cons_zero, List.getElem_cons_succ, List.setIfInBounds_toArray, List.set_cons_zero, List.set_cons_succ])
      refine wpAnyH_take (i := 16) (v := ?_) rfl (by kernel_rfl) (by kernel_rfl) (by kernel_rfl) (fun _ _ _ h => h) (Or.inl ⟨by kernel_rfl, ?_⟩) (by assumption) ?_
      rotate_left 1
      · intro w hSw; (try dsimp only at hSw); go_simp; (try with_reducible rfl)
      (try simp only [Act.put, List.getElem_toArray, List.getElem_cons_zero, List.getElem_cons_succ, List.setIfInBounds_toArray, List.set_cons_zero, List.set_cons_succ])
      refine wpAnyH_done (by kernel_rfl) ?_ _
      go_wp2_with fail
      go_ret
      exact ⟨rfl, below_step HB1.out B3.out⟩
end Go.Proofs.Ytampgoendkjkhaa.H
