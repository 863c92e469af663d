/- same.Classes. -/
import Derived.Test.YtampgoendkjkhaaSf
namespace Go.Proofs.Ytampgoendkjkhaa.H
open Go.RowKit Go.Shelf Go.Proofs.YtampgoendkjkhaaW.PrintWords Go.Proofs.YtampgoendkjkhaaW.PrintMore
set_option linter.unusedVariables false
set_option linter.unusedSimpArgs false
def ClsPost (L n : Int) (ar : List Arw) (w w' : World) (e : Ending) : Prop :=
  Below w.heap.size w w' ∧ ((gChk L n ar ≠ 0 ∧ e = .returned (.tuple #[.slice none 0 0, .int .i64 (gChk L n ar)])) ∨
    (gChk L n ar = 0 ∧ ∃ (m : Nat) (A : Option Addr) (c : Nat) (cl : List Int), n = (m : Int) ∧ e = .returned (.tuple #[.slice A m c, .int .i64 0]) ∧ Kd.C (Kd.int .i64) w' A m cl ∧ RdEnd ar m cl))
set_option maxHeartbeats 4000000 in
set_option maxRecDepth 100000 in
theorem same_classes_calls (L n : Int) (A2 : Option Addr) (c2 : Nat) (ar : List Arw) (w : World) (hra : Kd.C kAr w A2 ar.length ar) :
    Calls Try.prog 27 #[.agg #[.int .i64 L, .int .i64 n, .slice A2 ar.length c2]] w fun e w' => ClsPost L n ar w w' e := by
  have HB0 := Aside0.mk (below_alloc (Below.refl w.heap.size w) (.cells #[.int .i64 L, .int .i64 n, .slice A2 ar.length c2] 75))
  have HC := Aside0.mk (check_calls L n A2 c2 ar _ (Kd.C_below hra HB0.out))
  have X0 := Aside0.mk (blk_new w (.cells #[.int .i64 L, .int .i64 n, .slice A2 ar.length c2] 75 (0, 0)))
  have HRA := Aside0.mk hra
  clear hra
  by_cases h : gChk L n ar = 0
  · obtain ⟨m, rfl, hm1, hm12, _, hok⟩ := grOk_of h
    have HG := Aside0.mk h
    have HOK := Aside0.mk hok
    rw [h] at HC
    clear h hok
    go_enter Try.func27, Try.ntmps27
    go_wp2_with (first
      | (go_at_call 73
         refine HC.out.mono ?_
         rintro e w1 ⟨rfl, hb1⟩
         have X1 := Aside0.mk (blk_below X0.out hb1)
         have B1 := Aside0.mk (below_step HB0.out hb1)
         have k0 : w1.cell? ⟨w.heap.size, 0, none⟩ = some (.int .i64 L) := (blk_cell X1.out 0).trans rfl
         have k1 : w1.cell? ⟨w.heap.size, 1, none⟩ = some (.int .i64 (m : Int)) := (blk_cell X1.out 1).trans rfl
         have k2 : w1.cell? ⟨w.heap.size, 2, none⟩ = some (.slice A2 ar.length c2) := (blk_cell X1.out 2).trans rfl
         clear hb1)
      | (go_at_call 74
         refine (rounds_calls L m A2 c2 ar w1 (Kd.C_below HRA.out B1.out) HOK.out hm1 hm12).mono ?_
         rintro e w2 ⟨v, ls0, cl, rfl, hR, hE, hb2⟩
         obtain ⟨AL, cL, e⟩ := Kd.R_slice hR.r
         obtain ⟨k, hk⟩ : ∃ k, (ls0 ++ [cl]).length = k := ⟨_, rfl⟩
         rw [hk] at e
         subst e
         have hk1 : k = ls0.length + 1 := by rw [← hk]; simp
         have hkb : k ≤ 9223372036854775807 := by rw [← hk]; exact (C_len (Kd.R_reads' hR.r).2.2).2
         obtain ⟨ad, A1, c1, e0, hle, hrow, hcell⟩ := row_get (Kd.R_reads' hR.r).2.2 rfl (i := ls0.length) (by simp)
         have hx : (ls0 ++ [cl])[ls0.length]'(by simp) = cl := by simp
         rw [hx, hE.1] at hle hrow hcell
         subst e0
         obtain ⟨j, hj⟩ : ∃ j, ls0.length = j := ⟨_, rfl⟩
         rw [hj] at hcell
         have hw1 : IntKind.i64.wrap ((k : Int) - 1) = (j : Int) := (IntWalk.i64_in _ (by omega)).trans (by omega)
         have hjk : (j : Int) < (k : Int) := by omega
         have RC := Aside0.mk hrow
         have LE := Aside0.mk hle
         have HE := Aside0.mk hE
         have B2 := Aside0.mk (below_step B1.out hb2)
         clear hx hrow hle hk hk1 hj hR hE hb2 k0 k1 k2 hkb)
      | (go_at_call 53
         refine (clone_at A1 m c1 cl w2 HE.out.1 RC.out LE.out (by omega)).mono ?_
         rintro e w3 ⟨v3, rfl, hr3, hb3⟩
         obtain ⟨A3, c3, e3⟩ := Kd.R_slice hr3
         rw [HE.out.1] at e3
         subst e3
         have R3 := Aside0.mk (Kd.R_reads' hr3).2.2
         rw [HE.out.1] at R3
         have B3 := Aside0.mk (below_step B2.out hb3)
         clear hr3 hb3)
      | fail)
    go_ret2
    exact ⟨B3.out, .inr ⟨HG.out, m, A3, c3, cl, rfl, rfl, R3.out, HE.out⟩⟩
  · obtain ⟨er, her⟩ : ∃ er, gChk L n ar = er := ⟨_, rfl⟩
    have HG := Aside0.mk her
    rw [her] at h HC
    have hne : (er != 0) = true := by simpa using h
    have HNE := Aside0.mk h
    clear h her
    go_enter Try.func27, Try.ntmps27
    go_wp2_with (first
      | (go_at_call 73
         refine HC.out.mono ?_
         rintro e w1 ⟨rfl, hb1⟩
         have B1 := Aside0.mk (below_step HB0.out hb1)
         clear hb1)
      | fail)
    go_ret2
    exact ⟨B1.out, .inl ⟨by rw [HG.out]; exact HNE.out, by rw [HG.out]; rfl⟩⟩
end Go.Proofs.Ytampgoendkjkhaa.H
