/- The walk of SeqsGoes. -/
import Derived.Test.YtampgoendkjkhaaQz
namespace Go.Proofs.Ytampgoendkjkhaa.H
open Go.RowKit Go.Shelf Go.Proofs.YtampgoendkjkhaaW.PrintWords Go.Proofs.YtampgoendkjkhaaW.PrintMore
set_option linter.unusedVariables false
set_option linter.unusedSimpArgs false
theorem lit_row2 {W : World} {b : Nat} {x y : Int} (h : W.heap[b]? = some (.cells #[.int .i64 x, .int .i64 y] 3 (0, 0))) : Row W b [x, y] 2 := ⟨[], h, rfl, by decide⟩
theorem lit_rows {W : World} {b b1 b2 : Nat} (h : W.heap[b]? = some (.cells #[.slice (some ⟨b1, 0, none⟩) 2 2, .slice (some ⟨b2, 0, none⟩) 2 2] 22 (0, 0))) (h1 : Row W b1 [0, 1] 2) (h2 : Row W b2 [1, 0] 2) : Kd.C (Kd.slice 3 (Kd.int .i64)) W (some ⟨b, 0, none⟩) 2 im01 := by
  refine ⟨rfl, by decide, fun _ => ⟨_, rfl, fun j p hj => ?_⟩⟩
  match j, hj with
  | 0, hj =>
    obtain rfl : [0, 1] = p := by simpa using hj
    refine ⟨[.slice (some ⟨b1, 0, none⟩) 2 2], rfl, ⟨some ⟨b1, 0, none⟩, 2, rfl, Nat.le_refl _, h1.C⟩, fun i u hu => ?_⟩
    match i, hu with
    | 0, hu =>
      obtain rfl : Value.slice (some ⟨b1, 0, none⟩) 2 2 = u := by simpa using hu
      simpa [Addr.add] using blk_cell h 0
  | 1, hj =>
    obtain rfl : [1, 0] = p := by simpa using hj
    refine ⟨[.slice (some ⟨b2, 0, none⟩) 2 2], rfl, ⟨some ⟨b2, 0, none⟩, 2, rfl, Nat.le_refl _, h2.C⟩, fun i u hu => ?_⟩
    match i, hu with
    | 0, hu =>
      obtain rfl : Value.slice (some ⟨b2, 0, none⟩) 2 2 = u := by simpa using hu
      simpa [Addr.add, Kd.slice] using blk_cell h 1
theorem sum_le (b : Nat) (im : List (List Int)) (cd : List Int) (n : Nat) : ∀ i, sumC b im cd n i ≤ i * n
  | 0 => by simp [sumC]
  | i + 1 => by
    have h1 := sum_le b im cd n i
    have h2 := out_le b im cd n i
    show sumC b im cd n i + outC b im cd n i ≤ (i + 1) * n
    rw [Nat.succ_mul]
    omega
abbrev qgArgs (bi : Int) (A1 A2 : Option Addr) (m1 c1 m2 c2 : Nat) (n : Int) : Array Value := #[.agg #[.int .i64 bi, .slice A1 m1 c1, .slice A2 m2 c2], .int .i64 n]
set_option maxHeartbeats 8000000 in
set_option maxRecDepth 100000 in
theorem qg_calls (bi n : Int) (A1 A2 : Option Addr) (c1 c2 : Nat) (im : List (List Int)) (cd : List Int) (w : World) (hr1 : Kd.C (Kd.slice 3 (Kd.int .i64)) w A1 im.length im) (hr2 : Kd.C (Kd.int .i64) w A2 cd.length cd) :
    Calls Try.prog 5 (qgArgs bi A1 A2 im.length c1 cd.length c2 n) w fun e w' => e = .returned (.bool true) ∧ Below w.heap.size w w' := by
  have HR1 := Aside0.mk hr1
  have HR2 := Aside0.mk hr2
  clear hr1 hr2
  by_cases hn0 : n < 0
  · go_enter Try.func5, Try.ntmps5
    go_wp2_with (first | (go_at_call 18; refine calls_let ?_; intro W2 hW2; have X2 : W2.heap[w.heap.size]? = some (.cells #[.int .i64 bi, .slice A1 im.length c1, .slice A2 cd.length c2] 45 (0, 0)) := (by rw [hW2]; exact blk_alloc (blk_alloc (blk_alloc (blk_alloc (blk_new w _) _) _) _) _); have B2 : Below w.heap.size w W2 := (by rw [hW2]; exact below_alloc (below_alloc (below_alloc (below_alloc (below_alloc (Below.refl _ _) _) _) _) _) _); have r1 : Row W2 (w.heap.size + 1) [0, 1] 2 := lit_row2 (by rw [hW2]; exact blk_alloc (blk_alloc (blk_alloc (blk_newn _ _ _ (by simp)) _) _) _); have r2 : Row W2 (w.heap.size + 1 + 1) [1, 0] 2 := lit_row2 (by rw [hW2]; exact blk_alloc (blk_alloc (blk_newn _ _ _ (by simp)) _) _); have r3 : Kd.C (Kd.slice 3 (Kd.int .i64)) W2 (some ⟨w.heap.size + 1 + 1 + 1, 0, none⟩) 2 im01 := lit_rows (by rw [hW2]; exact blk_alloc (blk_newn _ _ _ (by simp)) _) r1 r2; have r4 : Row W2 (w.heap.size + 1 + 1 + 1 + 1) [0, 1] 2 := lit_row2 (by rw [hW2]; exact blk_newn _ _ _ (by simp)); clear hW2; refine (kernel_calls _ _ 2 2 W2 r3 r4.C (Nat.le_refl _)).mono ?_; rintro e w3 ⟨rfl, hb3⟩; have X3 := Aside0.mk (blk_below X2 hb3); have B3 := Aside0.mk (below_step B2 hb3); have q0 : w3.cell? ⟨w.heap.size, 0, none⟩ = some (.int .i64 bi) := (blk_cell X3.out 0).trans rfl; have q1 : w3.cell? ⟨w.heap.size, 1, none⟩ = some (.slice A1 im.length c1) := (blk_cell X3.out 1).trans rfl; have q2 : w3.cell? ⟨w.heap.size, 2, none⟩ = some (.slice A2 cd.length c2) := (blk_cell X3.out 2).trans rfl; clear X2 B2 r1 r2 r3 r4 hb3) | fail)
    go_ret
    exact ⟨rfl, B3.out⟩
  · by_cases hn1 : 1000000000000 < n
    · go_enter Try.func5, Try.ntmps5
      go_wp2_with (first | (go_at_call 18; refine calls_let ?_; intro W2 hW2; have X2 : W2.heap[w.heap.size]? = some (.cells #[.int .i64 bi, .slice A1 im.length c1, .slice A2 cd.length c2] 45 (0, 0)) := (by rw [hW2]; exact blk_alloc (blk_alloc (blk_alloc (blk_alloc (blk_new w _) _) _) _) _); have B2 : Below w.heap.size w W2 := (by rw [hW2]; exact below_alloc (below_alloc (below_alloc (below_alloc (below_alloc (Below.refl _ _) _) _) _) _) _); have r1 : Row W2 (w.heap.size + 1) [0, 1] 2 := lit_row2 (by rw [hW2]; exact blk_alloc (blk_alloc (blk_alloc (blk_newn _ _ _ (by simp)) _) _) _); have r2 : Row W2 (w.heap.size + 1 + 1) [1, 0] 2 := lit_row2 (by rw [hW2]; exact blk_alloc (blk_alloc (blk_newn _ _ _ (by simp)) _) _); have r3 : Kd.C (Kd.slice 3 (Kd.int .i64)) W2 (some ⟨w.heap.size + 1 + 1 + 1, 0, none⟩) 2 im01 := lit_rows (by rw [hW2]; exact blk_alloc (blk_newn _ _ _ (by simp)) _) r1 r2; have r4 : Row W2 (w.heap.size + 1 + 1 + 1 + 1) [0, 1] 2 := lit_row2 (by rw [hW2]; exact blk_newn _ _ _ (by simp)); clear hW2; refine (kernel_calls _ _ 2 2 W2 r3 r4.C (Nat.le_refl _)).mono ?_; rintro e w3 ⟨rfl, hb3⟩; have X3 := Aside0.mk (blk_below X2 hb3); have B3 := Aside0.mk (below_step B2 hb3); have q0 : w3.cell? ⟨w.heap.size, 0, none⟩ = some (.int .i64 bi) := (blk_cell X3.out 0).trans rfl; have q1 : w3.cell? ⟨w.heap.size, 1, none⟩ = some (.slice A1 im.length c1) := (blk_cell X3.out 1).trans rfl; have q2 : w3.cell? ⟨w.heap.size, 2, none⟩ = some (.slice A2 cd.length c2) := (blk_cell X3.out 2).trans rfl; clear X2 B2 r1 r2 r3 r4 hb3) | fail)
      go_ret
      exact ⟨rfl, B3.out⟩
    · obtain ⟨m, rfl⟩ : ∃ m : Nat, n = (m : Int) := ⟨n.toNat, by omega⟩
      have hm12 : m ≤ 1000000000000 := by omega
      clear hn0 hn1
      have hmz : (0 : Int) ≤ (m : Int) := by omega
      have hmzz : (m : Int) ≤ 1000000000000 := by omega
      by_cases h : qChk bi im cd = 0
      · obtain ⟨b, rfl, hok⟩ := qOk_of h
        have HK := Aside0.mk h
        have HOK := Aside0.mk hok
        have hw1 : IntKind.i64.wrap ((m : Int) + 1) = ((m + 1 : Nat) : Int) := (IntWalk.i64_in _ (by omega)).trans (by omega)
        have HX := Aside0.mk (cd_val hok (let_lt hok m))
        obtain ⟨x, hx, hx9⟩ := HX.out
        clear HX h hok
        go_enter Try.func5, Try.ntmps5
        have tk1 : True := trivial
        go_wp2_with (first
          | (go_at_call 18; refine calls_let ?_; intro W2 hW2; have X2 : W2.heap[w.heap.size]? = some (.cells #[.int .i64 (b : Int), .slice A1 im.length c1, .slice A2 cd.length c2] 45 (0, 0)) := (by rw [hW2]; exact blk_alloc (blk_alloc (blk_alloc (blk_alloc (blk_new w _) _) _) _) _); have B2 : Below w.heap.size w W2 := (by rw [hW2]; exact below_alloc (below_alloc (below_alloc (below_alloc (below_alloc (Below.refl _ _) _) _) _) _) _); have r1 : Row W2 (w.heap.size + 1) [0, 1] 2 := lit_row2 (by rw [hW2]; exact blk_alloc (blk_alloc (blk_alloc (blk_newn _ _ _ (by simp)) _) _) _); have r2 : Row W2 (w.heap.size + 1 + 1) [1, 0] 2 := lit_row2 (by rw [hW2]; exact blk_alloc (blk_alloc (blk_newn _ _ _ (by simp)) _) _); have r3 : Kd.C (Kd.slice 3 (Kd.int .i64)) W2 (some ⟨w.heap.size + 1 + 1 + 1, 0, none⟩) 2 im01 := lit_rows (by rw [hW2]; exact blk_alloc (blk_newn _ _ _ (by simp)) _) r1 r2; have r4 : Row W2 (w.heap.size + 1 + 1 + 1 + 1) [0, 1] 2 := lit_row2 (by rw [hW2]; exact blk_newn _ _ _ (by simp)); clear hW2; refine (kernel_calls _ _ 2 2 W2 r3 r4.C (Nat.le_refl _)).mono ?_; rintro e w3 ⟨rfl, hb3⟩; have X3 := Aside0.mk (blk_below X2 hb3); have B3 := Aside0.mk (below_step B2 hb3); have q0 : w3.cell? ⟨w.heap.size, 0, none⟩ = some (.int .i64 (b : Int)) := (blk_cell X3.out 0).trans rfl; have q1 : w3.cell? ⟨w.heap.size, 1, none⟩ = some (.slice A1 im.length c1) := (blk_cell X3.out 1).trans rfl; have q2 : w3.cell? ⟨w.heap.size, 2, none⟩ = some (.slice A2 cd.length c2) := (blk_cell X3.out 2).trans rfl; clear X2 B2 r1 r2 r3 r4 hb3)
          | (go_at_call 19
             have _t := tk1
             refine (ct_calls b im cd A1 A2 c1 c2 m w3 (Kd.C_below HR1.out B3.out) (Kd.C_below HR2.out B3.out) HK.out HOK.out (by omega)).mono ?_
             rintro e w4 ⟨g1, k1, rfl, hR4, hb4⟩
             clear tk1
             have tk2 : True := trivial
             have X4 := Aside0.mk (blk_below X3.out hb4)
             have B4 := Aside0.mk (below_step B3.out hb4)
             have R4 := Aside0.mk hR4
             have q40 : w4.cell? ⟨w.heap.size, 0, none⟩ = some (.int .i64 (b : Int)) := (blk_cell X4.out 0).trans rfl
             have q41 : w4.cell? ⟨w.heap.size, 1, none⟩ = some (.slice A1 im.length c1) := (blk_cell X4.out 1).trans rfl
             have q42 : w4.cell? ⟨w.heap.size, 2, none⟩ = some (.slice A2 cd.length c2) := (blk_cell X4.out 2).trans rfl
             clear hR4 hb4 q0 q1 q2)
          | (go_at_call 19
             have _t := tk2
             refine (ct_calls b im cd A1 A2 c1 c2 (m + 1) w4 (Kd.C_below HR1.out B4.out) (Kd.C_below HR2.out B4.out) HK.out HOK.out (by omega)).mono ?_
             rintro e w5 ⟨g2, k2, rfl, hR5, hb5⟩
             clear tk2
             have X5 := Aside0.mk (blk_below X4.out hb5)
             have B5 := Aside0.mk (below_step B4.out hb5)
             have R5 := Aside0.mk (R4.out.below hb5)
             have S5 := Aside0.mk hR5
             have q50 : w5.cell? ⟨w.heap.size, 0, none⟩ = some (.int .i64 (b : Int)) := (blk_cell X5.out 0).trans rfl
             have q51 : w5.cell? ⟨w.heap.size, 1, none⟩ = some (.slice A1 im.length c1) := (blk_cell X5.out 1).trans rfl
             have q52 : w5.cell? ⟨w.heap.size, 2, none⟩ = some (.slice A2 cd.length c2) := (blk_cell X5.out 2).trans rfl
             clear hR5 hb5 q40 q41 q42)
          | (go_at_call 20
             refine (qat_calls b im cd A1 A2 c1 c2 m w5 (Kd.C_below HR1.out B5.out) (Kd.C_below HR2.out B5.out) HK.out HOK.out (by omega)).mono ?_
             rw [hx]
             rintro e w6 ⟨rfl, hb6⟩
             have X6 := Aside0.mk (blk_below X5.out hb6)
             have B6 := Aside0.mk (below_step B5.out hb6)
             have R6 := Aside0.mk (R5.out.below hb6)
             have S6 := Aside0.mk (S5.out.below hb6)
             have q60 : w6.cell? ⟨w.heap.size, 0, none⟩ = some (.int .i64 (b : Int)) := (blk_cell X6.out 0).trans rfl
             have q61 : w6.cell? ⟨w.heap.size, 1, none⟩ = some (.slice A1 im.length c1) := (blk_cell X6.out 1).trans rfl
             have q62 : w6.cell? ⟨w.heap.size, 2, none⟩ = some (.slice A2 cd.length c2) := (blk_cell X6.out 2).trans rfl
             clear hb6 q50 q51 q52)
          | (go_at_call 21
             refine (df_calls b im cd A1 A2 c1 c2 w6 (Kd.C_below HR1.out B6.out) (Kd.C_below HR2.out B6.out) HK.out HOK.out).mono ?_
             rintro e w7 ⟨rfl, hb7⟩
             have B7 := Aside0.mk (below_step B6.out hb7)
             have R7 := Aside0.mk (R6.out.below hb7)
             have S7 := Aside0.mk (S6.out.below hb7)
             clear hb7 q60 q61 q62)
          | fail)
        clear X3 B3 X4 B4 R4 X5 B5 R5 S5 X6 B6 R6 S6
        go_loopg [15, 16, 17] 10 (fun gg s15 s16 s17 wr => ∃ i : Nat, i ≤ 10 ∧ 10 - i ≤ gg ∧ s16 = .int .i64 (i : Int) ∧ s15 = .int .i64 (sumC b im cd m i : Int) ∧ Aside0 (Row wr g1 (fnL 10 (outC b im cd m)) k1) ∧ Aside0 (Row wr g2 (fnL 10 (outC b im cd (m + 1))) k2) ∧ Aside0 (Below w.heap.size w wr))
        case atStart => exact ⟨0, by omega, by omega, rfl, rfl, R7, S7, B7⟩
        case round =>
          clear R7 S7 B7
          obtain ⟨i, hi10, hgg, rfl, rfl, RR, SS, BB⟩ := hrel
          by_cases hi : i < 10
          · have hiz : (i : Int) < 10 := by omega
            have k1' := RR.out.cell (i := i) (by rw [fnL_len]; exact hi)
            have k2' := SS.out.cell (i := i) (by rw [fnL_len]; exact hi)
            rw [fnL_at _ hi] at k1' k2'
            have hsu := out_succ b im cd m i
            rw [hx] at hsu
            have hso := out_le b im cd m i
            have hsm := sum_le b im cd m i
            have him : i * m ≤ 10 * m := Nat.mul_le_mul_right m hi10
            have HSN := Aside0.mk (show sumC b im cd m (i + 1) = sumC b im cd m i + outC b im cd m i from rfl)
            generalize outC b im cd (m + 1) i = f2 at k2' hsu
            generalize outC b im cd m i = f1 at k1' hsu hso HSN
            generalize sumC b im cd m i = su at hsm HSN ⊢
            have hw2 : IntKind.i64.wrap ((su : Int) + (f1 : Int)) = ((su + f1 : Nat) : Int) := (IntWalk.i64_in _ (by omega)).trans (by omega)
            by_cases hix : i = x
            · subst hix
              rw [if_pos rfl] at hsu
              subst hsu
              have hw3 : IntKind.i64.wrap ((f1 : Int) + 1) = ((f1 + 1 : Nat) : Int) := (IntWalk.i64_in _ (by omega)).trans (by omega)
              clear hso hsm him
              go_wp2_with (fail)
              go_roundg (10 - (i + 1))
              case measure => omega
              case rel => exact ⟨i + 1, by omega, by omega, by go_num, by rw [HSN.out, Int.natCast_add], RR, SS, BB⟩
            · rw [if_neg (by omega)] at hsu
              have hsu' : f2 = f1 := hsu
              subst hsu'
              have hne : ((i : Int) == (x : Int)) = false := by simp; omega
              clear hso hsm him hsu
              go_wp2_with (fail)
              go_roundg (10 - (i + 1))
              case measure => omega
              case rel => exact ⟨i + 1, by omega, by omega, by go_num, by rw [HSN.out, Int.natCast_add], RR, SS, BB⟩
          · obtain rfl : i = 10 := by omega
            rw [sum_all HOK.out m]
            go_wp2_with (fail)
            go_ret
            exact ⟨rfl, BB.out⟩
      · obtain ⟨er, her⟩ : ∃ er, qChk bi im cd = er := ⟨_, rfl⟩
        have HG := Aside0.mk her
        rw [her] at h
        have hne : (er != 0) = true := by simpa using h
        have HNE := Aside0.mk h
        clear h her
        go_enter Try.func5, Try.ntmps5
        go_wp2_with (first
          | (go_at_call 18; refine calls_let ?_; intro W2 hW2; have X2 : W2.heap[w.heap.size]? = some (.cells #[.int .i64 bi, .slice A1 im.length c1, .slice A2 cd.length c2] 45 (0, 0)) := (by rw [hW2]; exact blk_alloc (blk_alloc (blk_alloc (blk_alloc (blk_new w _) _) _) _) _); have B2 : Below w.heap.size w W2 := (by rw [hW2]; exact below_alloc (below_alloc (below_alloc (below_alloc (below_alloc (Below.refl _ _) _) _) _) _) _); have r1 : Row W2 (w.heap.size + 1) [0, 1] 2 := lit_row2 (by rw [hW2]; exact blk_alloc (blk_alloc (blk_alloc (blk_newn _ _ _ (by simp)) _) _) _); have r2 : Row W2 (w.heap.size + 1 + 1) [1, 0] 2 := lit_row2 (by rw [hW2]; exact blk_alloc (blk_alloc (blk_newn _ _ _ (by simp)) _) _); have r3 : Kd.C (Kd.slice 3 (Kd.int .i64)) W2 (some ⟨w.heap.size + 1 + 1 + 1, 0, none⟩) 2 im01 := lit_rows (by rw [hW2]; exact blk_alloc (blk_newn _ _ _ (by simp)) _) r1 r2; have r4 : Row W2 (w.heap.size + 1 + 1 + 1 + 1) [0, 1] 2 := lit_row2 (by rw [hW2]; exact blk_newn _ _ _ (by simp)); clear hW2; refine (kernel_calls _ _ 2 2 W2 r3 r4.C (Nat.le_refl _)).mono ?_; rintro e w3 ⟨rfl, hb3⟩; have X3 := Aside0.mk (blk_below X2 hb3); have B3 := Aside0.mk (below_step B2 hb3); have q0 : w3.cell? ⟨w.heap.size, 0, none⟩ = some (.int .i64 bi) := (blk_cell X3.out 0).trans rfl; have q1 : w3.cell? ⟨w.heap.size, 1, none⟩ = some (.slice A1 im.length c1) := (blk_cell X3.out 1).trans rfl; have q2 : w3.cell? ⟨w.heap.size, 2, none⟩ = some (.slice A2 cd.length c2) := (blk_cell X3.out 2).trans rfl; clear X2 B2 r1 r2 r3 r4 hb3)
          | (go_at_call 19
             refine (ct_er bi im cd A1 A2 c1 c2 (m : Int) w3 (Kd.C_below HR1.out B3.out) (Kd.C_below HR2.out B3.out) er HG.out HNE.out).mono ?_
             rintro e w4 ⟨rfl, hb4⟩
             have B4 := Aside0.mk (below_step B3.out hb4)
             clear hb4 q0 q1 q2)
          | fail)
        go_ret
        exact ⟨rfl, B4.out⟩
end Go.Proofs.Ytampgoendkjkhaa.H
