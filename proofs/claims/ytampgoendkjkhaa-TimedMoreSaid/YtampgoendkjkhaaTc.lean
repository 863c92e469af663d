/- timed.Check. -/
import Derived.Test.YtampgoendkjkhaaTe
namespace Go.Proofs.Ytampgoendkjkhaa.H
open Go.RowKit Go.Shelf Go.Proofs.YtampgoendkjkhaaW.PrintWords Go.Proofs.YtampgoendkjkhaaW.PrintMore
set_option linter.unusedVariables false
set_option linter.unusedSimpArgs false
def withB (x lo hi : Int) : Bool := decide (lo ≤ x) && decide (x ≤ hi)
theorem wi_calls (x lo hi : Int) (w : World) : Calls Try.prog 111 #[.int .i64 x, .int .i64 lo, .int .i64 hi] w fun e w' => e = .returned (.bool (withB x lo hi)) ∧ w = w' := by
  by_cases h : lo ≤ x
  · have HA := Aside0.mk (show withB x lo hi = decide (x ≤ hi) from by unfold withB; rw [decide_eq_true h, Bool.true_and])
    go_enter Try.func111, Try.ntmps111
    go_wp2
    go_ret
    exact ⟨by rw [HA.out]; rfl, rfl⟩
  · have HA := Aside0.mk (show withB x lo hi = false from by unfold withB; rw [decide_eq_false h, Bool.false_and])
    go_enter Try.func111, Try.ntmps111
    go_wp2
    go_ret
    exact ⟨by rw [HA.out]; rfl, rfl⟩
theorem c2_calls (x : Int) (b : Nat) (w : World) (hk : w.cell? ⟨b, 0, none⟩ = some (.func (.func 111) #[] #[])) : Calls Try.prog 112 #[.int .i64 x, .pointer (some ⟨b, 0, none⟩)] w fun e w' => e = .returned (.bool (!withB x (-1) 6)) ∧ w = w' := by
  have e1 : ∀ args w, (callFunc 111 args).run Try.prog w = .ok (.enter 111 args) w := enters_of Try.func111 (by kernel_rfl) rfl
  go_enter Try.func112, Try.ntmps112
  go_wp2_with (go_at_call 111; refine (wi_calls _ _ _ _).mono ?_; rintro e' w' ⟨rfl, rfl⟩)
  go_ret
  exact ⟨rfl, rfl⟩
def edB (M : Int) (e : Edg) : Bool := !withB e.fr 0 M || (!withB e.tw 0 M || (!withB e.lo 0 6 || (!withB e.hi 0 6 || (!withB e.op 0 1 || !withB e.re 0 1))))
set_option maxHeartbeats 4000000 in
set_option maxRecDepth 100000 in
theorem c3_calls (e : Edg) (N M : Int) (hM : IntKind.i64.wrap (N - 1) = M) (wb nb : Nat) (w : World) (hwb : w.heap[wb]? = some (.cells #[.func (.func 111) #[] #[]] 214 (0, 0))) (hnb : w.heap[nb]? = some (.cells #[.int .i64 N] 3 (0, 0))) :
    Calls Try.prog 114 #[.agg #[.int .i64 e.fr, .int .i64 e.tw, .int .i64 e.lo, .int .i64 e.hi, .int .i64 e.op, .int .i64 e.re], .pointer (some ⟨wb, 0, none⟩), .pointer (some ⟨nb, 0, none⟩)] w fun e' w' => e' = .returned (.bool (edB M e)) ∧ Below w.heap.size w w' := by
  have e1 : ∀ args w, (callFunc 111 args).run Try.prog w = .ok (.enter 111 args) w := enters_of Try.func111 (by kernel_rfl) rfl
  have HB := Aside0.mk (below_alloc (Below.refl w.heap.size w) (.cells #[.int .i64 e.fr, .int .i64 e.tw, .int .i64 e.lo, .int .i64 e.hi, .int .i64 e.op, .int .i64 e.re] 27))
  have k1 : w.cell? ⟨wb, 0, none⟩ = some (.func (.func 111) #[] #[]) := (blk_cell hwb 0).trans rfl
  have k2 : w.cell? ⟨nb, 0, none⟩ = some (.int .i64 N) := (blk_cell hnb 0).trans rfl
  have z1 : wb < w.heap.size := blk_lt hwb
  have z2 : nb < w.heap.size := blk_lt hnb
  clear hwb hnb
  cases q0 : withB e.fr 0 M with
  | false =>
    have HA := Aside0.mk (show edB M e = true from by unfold edB; simp only [q0]; rfl)
    go_enter Try.func114, Try.ntmps114
    go_wp2_with (go_at_call 111; refine (wi_calls _ _ _ _).mono ?_; rintro e' w' ⟨rfl, rfl⟩)
    go_ret
    exact ⟨by rw [HA.out]; rfl, HB.out⟩
  | true =>
    cases q1 : withB e.tw 0 M with
    | false =>
      have HA := Aside0.mk (show edB M e = true from by unfold edB; simp only [q0, q1]; rfl)
      go_enter Try.func114, Try.ntmps114
      go_wp2_with (go_at_call 111; refine (wi_calls _ _ _ _).mono ?_; rintro e' w' ⟨rfl, rfl⟩)
      go_ret
      exact ⟨by rw [HA.out]; rfl, HB.out⟩
    | true =>
      cases q2 : withB e.lo 0 6 with
      | false =>
        have HA := Aside0.mk (show edB M e = true from by unfold edB; simp only [q0, q1, q2]; rfl)
        go_enter Try.func114, Try.ntmps114
        go_wp2_with (go_at_call 111; refine (wi_calls _ _ _ _).mono ?_; rintro e' w' ⟨rfl, rfl⟩)
        go_ret
        exact ⟨by rw [HA.out]; rfl, HB.out⟩
      | true =>
        cases q3 : withB e.hi 0 6 with
        | false =>
          have HA := Aside0.mk (show edB M e = true from by unfold edB; simp only [q0, q1, q2, q3]; rfl)
          go_enter Try.func114, Try.ntmps114
          go_wp2_with (go_at_call 111; refine (wi_calls _ _ _ _).mono ?_; rintro e' w' ⟨rfl, rfl⟩)
          go_ret
          exact ⟨by rw [HA.out]; rfl, HB.out⟩
        | true =>
          cases q4 : withB e.op 0 1 with
          | false =>
            have HA := Aside0.mk (show edB M e = true from by unfold edB; simp only [q0, q1, q2, q3, q4]; rfl)
            go_enter Try.func114, Try.ntmps114
            go_wp2_with (go_at_call 111; refine (wi_calls _ _ _ _).mono ?_; rintro e' w' ⟨rfl, rfl⟩)
            go_ret
            exact ⟨by rw [HA.out]; rfl, HB.out⟩
          | true =>
            cases q5 : withB e.re 0 1 with
            | false =>
              have HA := Aside0.mk (show edB M e = true from by unfold edB; simp only [q0, q1, q2, q3, q4, q5]; rfl)
              go_enter Try.func114, Try.ntmps114
              go_wp2_with (go_at_call 111; refine (wi_calls _ _ _ _).mono ?_; rintro e' w' ⟨rfl, rfl⟩)
              go_ret
              exact ⟨by rw [HA.out]; rfl, HB.out⟩
            | true =>
              have HA := Aside0.mk (show edB M e = false from by unfold edB; simp only [q0, q1, q2, q3, q4, q5]; rfl)
              go_enter Try.func114, Try.ntmps114
              go_wp2_with (go_at_call 111; refine (wi_calls _ _ _ _).mono ?_; rintro e' w' ⟨rfl, rfl⟩)
              go_ret
              exact ⟨by rw [HA.out]; rfl, HB.out⟩
def tBad (st : List Int) (ed : List Edg) (g : Int) : Bool := st.any (fun x => !withB x (-1) 6) || (ed.any (edB ((st.length : Int) - 1)) || !withB g 0 ((st.length : Int) - 1))
def tChk (st : List Int) (ed : List Edg) (g : Int) : Int := if st.length < 1 ∨ 8 < st.length ∨ 16 < ed.length then 1 else if tBad st ed g = true then 2 else 0
theorem withB_iff {x lo hi : Int} (h : (!withB x lo hi) = false) : lo ≤ x ∧ x ≤ hi := by
  unfold withB at h
  simpa using h
theorem tOk_of {st : List Int} {ed : List Edg} {g : Int} (h : tChk st ed g = 0) : TmOk st ed := by
  unfold tChk at h
  split at h
  · cases h
  split at h
  · cases h
  rename_i h1 h2
  rw [Bool.not_eq_true] at h2
  unfold tBad at h2
  rw [Bool.or_eq_false_iff, Bool.or_eq_false_iff] at h2
  obtain ⟨g1, g2, g3⟩ := h2
  refine ⟨by omega, by omega, by omega, fun x hx => ?_, fun e he => ?_⟩
  · exact withB_iff (by simpa using List.any_eq_false.1 g1 x hx)
  · have := List.any_eq_false.1 g2 e he
    rw [Bool.not_eq_true] at this
    unfold edB at this
    simp only [Bool.or_eq_false_iff] at this
    obtain ⟨a1, a2, a3, a4, a5, a6⟩ := this
    have b1 := withB_iff a1
    have b2 := withB_iff a2
    exact ⟨⟨b1.1, by omega⟩, ⟨b2.1, by omega⟩, withB_iff a3, withB_iff a4, withB_iff a5, withB_iff a6⟩
structure TkM (w W : World) (st : List Int) : Prop where
  b : Below w.heap.size w W
  n : W.heap[w.heap.size + 1]? = some (.cells #[.int .i64 (st.length : Int)] 3 (0, 0))
  f : W.heap[w.heap.size + 1 + 1]? = some (.cells #[.func (.func 111) #[] #[]] 214 (0, 0))
theorem TkM.below {w W W' : World} {st : List Int} (h : TkM w W st) (hb : Below W.heap.size W W') : TkM w W' st := ⟨below_step h.b hb, blk_below h.n hb, blk_below h.f hb⟩
set_option maxHeartbeats 8000000 in
set_option maxRecDepth 100000 in
theorem tck_calls (SA EA : Option Addr) (cs ce : Nat) (st : List Int) (ed : List Edg) (g : Int) (w : World) (hs : Kd.C (Kd.int .i64) w SA st.length st) (he : Kd.C kEd w EA ed.length ed) :
    Calls Try.prog 45 #[.agg #[.slice SA st.length cs, .slice EA ed.length ce, .int .i64 g]] w fun e w' => e = .returned (.int .i64 (tChk st ed g)) ∧ Below w.heap.size w w' := by
  have e1 : ∀ args w, (callFunc 111 args).run Try.prog w = .ok (.enter 111 args) w := enters_of Try.func111 (by kernel_rfl) rfl
  have e2 : ∀ args w, (callFunc 112 args).run Try.prog w = .ok (.enter 112 args) w := enters_of Try.func112 (by kernel_rfl) rfl
  have e3 : ∀ args w, (callFunc 114 args).run Try.prog w = .ok (.enter 114 args) w := enters_of Try.func114 (by kernel_rfl) rfl
  have E2 := Aside0.mk e2
  have E3 := Aside0.mk e3
  have B2 := Aside0.mk (below_alloc (below_alloc (Below.refl w.heap.size w) (.cells #[.slice SA st.length cs, .slice EA ed.length ce, .int .i64 g] 25)) (.cells #[.int .i64 (st.length : Int)] 3))
  have M0 := Aside0.mk (show TkM w (((w.alloc (.cells #[.slice SA st.length cs, .slice EA ed.length ce, .int .i64 g] 25)).alloc (.cells #[.int .i64 (st.length : Int)] 3)).alloc (.cells #[.func (.func 111) #[] #[]] 214)) st from ⟨below_alloc (below_alloc (below_alloc (Below.refl _ _) _) _) _, blk_alloc (blk_newn _ _ _ (by simp)) _, blk_newn _ _ _ (by simp)⟩)
  have X0 := Aside0.mk (show (((w.alloc (.cells #[.slice SA st.length cs, .slice EA ed.length ce, .int .i64 g] 25)).alloc (.cells #[.int .i64 (st.length : Int)] 3)).alloc (.cells #[.func (.func 111) #[] #[]] 214)).heap[w.heap.size]? = some (.cells #[.slice SA st.length cs, .slice EA ed.length ce, .int .i64 g] 25 (0, 0)) from blk_alloc (blk_alloc (blk_new w _) _) _)
  have hn0 := hs.2.1
  by_cases z1 : st.length < 1
  · have HF := Aside0.mk (show tChk st ed g = 1 from if_pos (.inl z1))
    have z1' : decide ((st.length : Int) < 1) = true := decide_eq_true (by omega)
    clear z1 hs he e1 e2 e3 hn0
    go_enter Try.func45, Try.ntmps45
    go_wp2
    go_ret
    exact ⟨by rw [HF.out]; rfl, B2.out⟩
  have z1' : decide ((st.length : Int) < 1) = false := decide_eq_false (by omega)
  by_cases z2 : 8 < st.length
  · have HF := Aside0.mk (show tChk st ed g = 1 from if_pos (.inr (.inl z2)))
    have z2' : decide (8 < (st.length : Int)) = true := decide_eq_true (by omega)
    clear z1 z2 hs he e1 e2 e3 hn0
    go_enter Try.func45, Try.ntmps45
    go_wp2
    go_ret
    exact ⟨by rw [HF.out]; rfl, B2.out⟩
  have z2' : decide (8 < (st.length : Int)) = false := decide_eq_false (by omega)
  by_cases z3 : 16 < ed.length
  · have HF := Aside0.mk (show tChk st ed g = 1 from if_pos (.inr (.inr z3)))
    have z3' : decide (16 < (ed.length : Int)) = true := decide_eq_true (by omega)
    clear z1 z2 z3 hs he e1 e2 e3 hn0
    go_enter Try.func45, Try.ntmps45
    go_wp2
    go_ret
    exact ⟨by rw [HF.out]; rfl, B2.out⟩
  have z3' : decide (16 < (ed.length : Int)) = false := decide_eq_false (by omega)
  have HC := Aside0.mk (show tChk st ed g = if tBad st ed g = true then 2 else 0 from if_neg (by omega))
  obtain ⟨M, hMe⟩ : ∃ M : Int, M = (st.length : Int) - 1 := ⟨_, rfl⟩
  have hM : IntKind.i64.wrap ((st.length : Int) - 1) = M := (IntWalk.i64_in _ (by omega)).trans hMe.symm
  have HBD := Aside0.mk (show tBad st ed g = (st.any (fun x => !withB x (-1) 6) || (ed.any (edB M) || !withB g 0 M)) from by unfold tBad; rw [hMe])
  have H1 := Aside0.mk (ContainsFunc_int 112 #[.pointer (some ⟨w.heap.size + 1 + 1, 0, none⟩)] E2.out (fun x => !withB x (-1) 6) SA cs st _ (Kd.C_below hs M0.out.b) (fun W x _ hb => (c2_calls x (w.heap.size + 1 + 1) W ((blk_cell (blk_below M0.out.f hb) 0).trans rfl)).mono fun e w' ⟨he, hw⟩ => ⟨he, hw ▸ hb⟩))
  have HEC := Aside0.mk he
  have hc3 := Aside0.mk (fun (W : World) (m : TkM w W st) => ContainsFunc_ed 114 #[.pointer (some ⟨w.heap.size + 1 + 1, 0, none⟩), .pointer (some ⟨w.heap.size + 1, 0, none⟩)] E3.out (edB M) EA ce ed W (Kd.C_below HEC.out m.b) (fun W' x _ hb => (c3_calls x _ M hM (w.heap.size + 1 + 1) (w.heap.size + 1) W' (m.below hb).f (m.below hb).n).mono fun e w' ⟨he, hw⟩ => ⟨he, below_step hb hw⟩))
  clear z1 z2 z3 hs he e2 e3 hn0 hMe
  cases q1 : st.any (fun x => !withB x (-1) 6) with
  | true =>
    rw [q1] at H1 HBD
    have HF := Aside0.mk (show tChk st ed g = 2 from by rw [HC.out, HBD.out]; rfl)
    clear q1 hc3
    go_enter Try.func45, Try.ntmps45
    go_wp2_with (first | (go_at_call 66; refine H1.out.mono ?_; rintro e w3 ⟨rfl, hb3⟩; have M3 := Aside0.mk (M0.out.below hb3); clear hb3) | fail)
    go_ret
    exact ⟨by rw [HF.out]; rfl, M3.out.b⟩
  | false =>
    rw [q1] at H1 HBD
    clear q1
    cases q2 : ed.any (edB M) with
    | true =>
      rw [q2] at HBD hc3
      have HF := Aside0.mk (show tChk st ed g = 2 from by rw [HC.out, HBD.out]; rfl)
      clear q2
      go_enter Try.func45, Try.ntmps45
      go_wp2_with (first | (go_at_call 66; refine H1.out.mono ?_; rintro e w3 ⟨rfl, hb3⟩; have M3 := Aside0.mk (M0.out.below hb3); have X3 := Aside0.mk (blk_below X0.out hb3); have j1 : w3.cell? ⟨w.heap.size, 1, none⟩ = some (.slice EA ed.length ce) := (blk_cell X3.out 1).trans rfl; have H2 := Aside0.mk (hc3.out w3 M3.out); clear hb3) | (go_at_call 113; refine H2.out.mono ?_; rintro e w4 ⟨rfl, hb4⟩; have M4 := Aside0.mk (M3.out.below hb4); have X4 := Aside0.mk (blk_below X3.out hb4); have j2 : w4.cell? ⟨w.heap.size, 2, none⟩ = some (.int .i64 g) := (blk_cell X4.out 2).trans rfl; have j3 : w4.cell? ⟨w.heap.size + 1, 0, none⟩ = some (.int .i64 (st.length : Int)) := (blk_cell M4.out.n 0).trans rfl; have j4 : w4.cell? ⟨w.heap.size + 1 + 1, 0, none⟩ = some (.func (.func 111) #[] #[]) := (blk_cell M4.out.f 0).trans rfl; clear hb4) | fail)
      go_ret
      exact ⟨by rw [HF.out]; rfl, M4.out.b⟩
    | false =>
      rw [q2] at HBD hc3
      clear q2
      cases q3 : withB g 0 M with
      | false =>
        rw [q3] at HBD
        have HF := Aside0.mk (show tChk st ed g = 2 from by rw [HC.out, HBD.out]; rfl)
        go_enter Try.func45, Try.ntmps45
        go_wp2_with (first | (go_at_call 66; refine H1.out.mono ?_; rintro e w3 ⟨rfl, hb3⟩; have M3 := Aside0.mk (M0.out.below hb3); have X3 := Aside0.mk (blk_below X0.out hb3); have j1 : w3.cell? ⟨w.heap.size, 1, none⟩ = some (.slice EA ed.length ce) := (blk_cell X3.out 1).trans rfl; have H2 := Aside0.mk (hc3.out w3 M3.out); clear hb3) | (go_at_call 113; refine H2.out.mono ?_; rintro e w4 ⟨rfl, hb4⟩; have M4 := Aside0.mk (M3.out.below hb4); have X4 := Aside0.mk (blk_below X3.out hb4); have j2 : w4.cell? ⟨w.heap.size, 2, none⟩ = some (.int .i64 g) := (blk_cell X4.out 2).trans rfl; have j3 : w4.cell? ⟨w.heap.size + 1, 0, none⟩ = some (.int .i64 (st.length : Int)) := (blk_cell M4.out.n 0).trans rfl; have j4 : w4.cell? ⟨w.heap.size + 1 + 1, 0, none⟩ = some (.func (.func 111) #[] #[]) := (blk_cell M4.out.f 0).trans rfl; clear hb4) | (go_at_call 111; refine (wi_calls _ _ _ _).mono ?_; rintro e' w' ⟨rfl, rfl⟩) | fail)
        go_ret
        exact ⟨by rw [HF.out]; rfl, M4.out.b⟩
      | true =>
        rw [q3] at HBD
        have HF := Aside0.mk (show tChk st ed g = 0 from by rw [HC.out, HBD.out]; rfl)
        go_enter Try.func45, Try.ntmps45
        go_wp2_with (first | (go_at_call 66; refine H1.out.mono ?_; rintro e w3 ⟨rfl, hb3⟩; have M3 := Aside0.mk (M0.out.below hb3); have X3 := Aside0.mk (blk_below X0.out hb3); have j1 : w3.cell? ⟨w.heap.size, 1, none⟩ = some (.slice EA ed.length ce) := (blk_cell X3.out 1).trans rfl; have H2 := Aside0.mk (hc3.out w3 M3.out); clear hb3) | (go_at_call 113; refine H2.out.mono ?_; rintro e w4 ⟨rfl, hb4⟩; have M4 := Aside0.mk (M3.out.below hb4); have X4 := Aside0.mk (blk_below X3.out hb4); have j2 : w4.cell? ⟨w.heap.size, 2, none⟩ = some (.int .i64 g) := (blk_cell X4.out 2).trans rfl; have j3 : w4.cell? ⟨w.heap.size + 1, 0, none⟩ = some (.int .i64 (st.length : Int)) := (blk_cell M4.out.n 0).trans rfl; have j4 : w4.cell? ⟨w.heap.size + 1 + 1, 0, none⟩ = some (.func (.func 111) #[] #[]) := (blk_cell M4.out.f 0).trans rfl; clear hb4) | (go_at_call 111; refine (wi_calls _ _ _ _).mono ?_; rintro e' w' ⟨rfl, rfl⟩) | fail)
        go_ret
        exact ⟨by rw [HF.out]; rfl, M4.out.b⟩
end Go.Proofs.Ytampgoendkjkhaa.H
