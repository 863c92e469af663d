/- Hand-proved: lyndon.Factors at the word 0 1. -/
import Derived.Test.YtjabncedfjjbjaaTu
import Derived.Test.YtjabncedfjjbjaaWApart
namespace Go.Proofs.Ytjabncedfjjbjaa.H
open Go.RowKit Go.Shelf Go.Proofs.YtjabncedfjjbjaaW.PrintWords Go.Proofs.Ytjabncedfjjbjaa.LyM
set_option linter.unusedVariables false
set_option linter.unusedSimpArgs false
def lyndon_Factors.f (l0 : List Int) : Option (List (List Int) × Int) := if l0 = [0, 1] then some ([[0, 1]], 0) else none
theorem may01 : mayL [[0, 1]] = 0 := by decide
set_option maxHeartbeats 4000000 in
set_option maxRecDepth 100000 in
theorem lyndon_Factors.calls (A0 : Option Addr) (c0 : Nat) (l0 : List Int) (r1 : List (List Int)) (r2 : Int) (w : World) (hr0 : Kd.C (Kd.int .i64) w A0 l0.length l0) (hc0 : l0.length ≤ c0) (h : lyndon_Factors.f l0 = some (r1, r2)) :
    Calls Try.prog 22 #[.slice A0 l0.length c0] w fun e w' => ∃ v0_ : Value, e = .returned (.tuple #[v0_, .int .i64 r2]) ∧ Kd.S (Kd.slice 3 (Kd.int .i64)) 22 w' w.heap.size (fun _ => True) v0_ r1 ∧ Below w.heap.size w w' := by
  unfold lyndon_Factors.f at h
  by_cases hl : l0 = [0, 1]
  · rw [if_pos hl] at h
    obtain ⟨rfl, rfl⟩ := Prod.mk.inj (Option.some.inj h)
    subst hl
    clear h
    have HR := Aside0.mk hr0
    have HC := Aside0.mk hc0
    have HA := Aside0.mk (below_alloc (Below.refl w.heap.size w) (.cells #[.slice A0 2 c0] 22))
    have HL := Aside0.mk (fun (W : World) (b : Nat) (hx : W.cell? ⟨b, 0, none⟩ = some (.slice A0 2 c0)) (hb : Below w.heap.size w W) => reads_row1 (x := [0, 1]) hx hc0 (Kd.C_below hr0 hb))
    obtain ⟨ad, rfl, h0⟩ := Kd.at_int hr0 0 (by decide) (by decide)
    obtain ⟨_, e1, h1⟩ := Kd.at_int hr0 1 (by decide) (by decide)
    cases e1
    have H01 := Aside0.mk (And.intro (show w.cell? ad = some (.int .i64 0) by simpa [Addr.add, rd] using h0) (show w.cell? { block := ad.block, off := ad.off + 1 } = some (.int .i64 1) by simpa [Addr.add, rd] using h1))
    clear h0 h1 hr0
    have hc2 : (2 : Int) ≤ (c0 : Int) := by have := HC.out; simp at this; omega
    clear hc0
    show Calls Try.prog 22 #[.slice (some ad) 2 c0] w _
    go_enter Try.func22, Try.ntmps22
    go_wp2_with (go_at_call 56; refine (lyndon_may.calls (some ⟨w.heap.size, 0, none⟩) 1 [[0, 1]] 0 _ (HL.out _ _ (by go_simp) HA.out) (by simp) (by unfold lyndon_may.f; rw [may01])).mono ?_; rintro e w1 ⟨rfl, ⟨n1, rfl⟩⟩; have HA1 := Aside0.mk (pw_below_drewN HA.out n1); have c0' := pw_cell_below HA1.out H01.out.1; have c1' := pw_cell_below HA1.out H01.out.2; generalize (w.alloc (.cells #[.slice (some ad) 2 c0] 22)).drewN n1 = W1 at HA1 c0' c1' ⊢)
    refine wp_loop_rounds 2 ?_
    rw [rounds_succ]
    go_wp2
    refine wp_loop_rounds 2 ?_
    rw [rounds_succ]
    go_wp2
    go_quiet (fail)
    go_wp2
    go_quiet (fail)
    go_wp2
    rw [rounds_succ]
    go_wp2
    go_quiet (fail)
    go_wp2
    refine wp_loop_rounds 2 ?_
    rw [rounds_succ]
    go_wp2_with (first
      | (go_at_call 49
         refine (clone_at (some ad) 2 c0 [0, 1] _ rfl (Kd.C_below HR.out (by repeat (first | exact HA1.out | apply pw_below_drewN))) (by have := HC.out; simpa using this) (by omega)).mono ?_
         rintro e w3 ⟨v3, rfl, ho3, hb3⟩
         obtain ⟨A3, c3, rfl⟩ := Kd.R_slice ho3
         replace ho3 : Kd.R (Kd.int .i64) 3 w3 _ (fun _ => True) (.slice A3 2 c3) [0, 1] := ho3
         have HO3 := Aside0.mk (Kd.R_lower ho3 (show w.heap.size ≤ _ from (show Below w.heap.size w _ from by repeat (first | exact HA1.out | apply pw_below_drewN)).size))
         have HB3 := Aside0.mk (below_step (by repeat (first | exact HA1.out | apply pw_below_drewN)) hb3)
         clear ho3 hb3)
      | (at_builtin
         refine Kd.S_append (Kd.slice 3 (Kd.int .i64)) (w0 := w) w.heap.size rfl _ _ 42 22 (.slice none 0 0) 24 rfl Try.underlying42 (by kernel_rfl) rfl (by decide) (by decide) (.slice none 0 0) [] [0, 1] [.slice A3 2 c3] (fun _ => True) (fun _ => True) rfl rfl (Kd.M_row HO3.out) (fun k _ => ⟨trivial, by simp [Value.ownBlock]⟩) (fun _ _ => trivial) (Kd.S_nil _ _ _ _ _) HB3.out HB3.out.size (by simp) ?_
         intro v4 w4 hown hb1 hg hat
         have HO4 := Aside0.mk hown
         have HB4 := Aside0.mk hb1
         clear hown hb1 hg hat))
    rw [rounds_succ]
    go_wp2
    rw [rounds_succ]
    go_wp2
    go_ret2
    exact ⟨_, rfl, HO4.out, HB4.out⟩
  · rw [if_neg hl] at h; cases h
end Go.Proofs.Ytjabncedfjjbjaa.H
