/- rewrite.Normal. -/
import Derived.Test.YtampgoendkjkhaaRn
namespace Go.Proofs.Ytampgoendkjkhaa.H
open Go.RowKit Go.Shelf Go.Proofs.YtampgoendkjkhaaW.PrintWords Go.Proofs.YtampgoendkjkhaaW.PrintMore Go.Proofs.Ytampgoendkjkhaa.LyM
set_option linter.unusedVariables false
set_option linter.unusedSimpArgs false
theorem rn1_calls (n q : Int) (B : Nat) (w : World) (hc : w.cell? ⟨B, 0, none⟩ = some (.int .i64 n)) :
    Calls Try.prog 67 #[.int .i64 q, .pointer (some ⟨B, 0, none⟩)] w fun e w' => e = .returned (.bool (noB n q)) ∧ w = w' := by
  by_cases h : q < 0
  · have h' : decide (q < 0) = true := decide_eq_true h
    go_enter Try.func67, Try.ntmps67
    go_wp2
    go_ret
    exact ⟨by simp [noB, h']; try rfl, rfl⟩
  · have h' : decide (q < 0) = false := decide_eq_false h
    go_enter Try.func67, Try.ntmps67
    go_wp2
    go_ret
    exact ⟨by simp [noB, h']; try rfl, rfl⟩
theorem rn1_any (L : Int) (b : Nat) (A : Option Addr) (c : Nat) (xs : List Int) (W : World) (hx : W.heap[b]? = some (.cells #[.int .i64 L] 3 (0, 0))) (hC : Kd.C (Kd.int .i64) W A xs.length xs) :
    Calls Try.prog 66 #[.slice A xs.length c, .func (.func 67) #[] #[.pointer (some ⟨b, 0, none⟩)]] W fun e w' => e = .returned (.bool (xs.any (noB L))) ∧ Below W.heap.size W w' := by
  have e1 : ∀ args w, (callFunc 67 args).run Try.prog w = .ok (.enter 67 args) w := enters_of Try.func67 (by kernel_rfl) rfl
  exact ContainsFunc_int 67 #[.pointer (some ⟨b, 0, none⟩)] e1 (noB L) A c xs W hC (fun W' x _ hb => (rn1_calls L x b W' ((blk_cell (blk_below hx hb) 0).trans rfl)).mono fun e w' ⟨he, hw⟩ => ⟨he, hw ▸ hb⟩)
def nCode (L : Int) (l : List Rul) (x : List Int) : Int := if swChk L l = 0 then (if 8 < x.length then 1 else if x.any (noB L) = true then 2 else 0) else swChk L l
theorem nCode_ok {L : Int} {l : List Rul} {x : List Int} (h : nCode L l x = 0) : swChk L l = 0 ∧ x.length ≤ 8 ∧ ∀ y ∈ x, 0 ≤ y ∧ y < L := by
  unfold nCode at h
  split at h
  · split at h
    · cases h
    · split at h
      · cases h
      · rename_i h1 h2 h3
        exact ⟨h1, by omega, noB_all (by simpa using h3)⟩
  · rename_i h1; exact absurd h h1
theorem nCode_of {L : Int} {l : List Rul} {x : List Int} (h1 : swChk L l = 0) (h2 : x.length ≤ 8) (h3 : ∀ y ∈ x, 0 ≤ y ∧ y < L) : nCode L l x = 0 := by
  unfold nCode
  rw [if_pos h1, if_neg (by omega), noB_none h3]
  rfl
set_option maxHeartbeats 4000000 in
set_option maxRecDepth 100000 in
theorem normal_ok (L : Int) (A : Option Addr) (c : Nat) (l : List Rul) (B : Option Addr) (d : Nat) (x : List Int) (w : World) (hr : Kd.C kSw w A l.length l) (hx : Kd.C (Kd.int .i64) w B x.length x) (hd : x.length ≤ d) (h : nCode L l x = 0) :
    Calls Try.prog 24 #[.int .i64 L, .slice A l.length c, .slice B x.length d] w fun e w' => ∃ (r : List Int) (A' : Option Addr) (c' : Nat), e = .returned (.tuple #[.slice A' r.length c', .int .i64 0]) ∧ r.length ≤ c' ∧ Kd.C (Kd.int .i64) w' A' r.length r ∧ Nrm l x r ∧ Below w.heap.size w w' := by
  obtain ⟨h1, h2, h3⟩ := nCode_ok h
  obtain ⟨n, hLn, hok⟩ := swOk_of h1
  clear hLn
  have HOK := Aside0.mk hok
  have HR := Aside0.mk hr
  have HX := Aside0.mk hx
  have HD := Aside0.mk hd
  have HQ := Aside0.mk (noB_none h3)
  have M0 := Aside0.mk (show CkM w (w.alloc (.cells #[.int .i64 L] 3)) L from ⟨below_alloc (Below.refl _ _) _, blk_new w _⟩)
  have HK := Aside0.mk (rck_calls L A c l _ (Kd.C_below hr M0.out.b))
  rw [h1] at HK
  have g1 : decide (8 < (x.length : Int)) = false := decide_eq_false (by omega)
  have HL := Aside0.mk h2
  clear hr hx hd h3 h1 h hok h2
  go_enter Try.func24, Try.ntmps24
  go_wp2_with (first
    | (go_at_call 65; refine HK.out.mono ?_; rintro e w2 ⟨rfl, hb2⟩; have M2 := Aside0.mk (M0.out.below hb2); have H1 := Aside0.mk (rn1_any L w.heap.size B d x _ M2.out.x (Kd.C_below HX.out M2.out.b)); rw [HQ.out] at H1; clear hb2)
    | (go_at_call 66; refine H1.out.mono ?_; rintro e w3 ⟨rfl, hb3⟩; have M3 := Aside0.mk (M2.out.below hb3); have H2 := Aside0.mk (nrm_calls n l HOK.out A c B d x _ (Kd.C_below HR.out M3.out.b) (Kd.C_below HX.out M3.out.b) HD.out (by have := HL.out; omega)); clear hb3)
    | (go_at_call 68; refine H2.out.mono ?_; rintro e w4 ⟨r, Ar, cr, rfl, hcr, hCr, hN, hb4⟩; have NN := Aside0.mk hN; have B4 := Aside0.mk (below_step M3.out.b hb4); have H3 := Aside0.mk (clone_at Ar r.length cr r w4 rfl hCr hcr (by have := hN.1.len HOK.out; have := HL.out; omega)); clear hb4 hN hCr hcr)
    | (go_at_call 53; refine H3.out.mono ?_; rintro e w5 ⟨v5, rfl, ho5, hb5⟩; obtain ⟨A5, c5, rfl⟩ := Kd.R_slice ho5; have O5 := Aside0.mk (Kd.R_reads' ho5).2; have B5 := Aside0.mk (below_step B4.out hb5); clear ho5 hb5)
    | fail)
  go_ret2
  exact ⟨r, A5, c5, rfl, O5.out.1, O5.out.2, NN.out, B5.out⟩
set_option maxHeartbeats 4000000 in
set_option maxRecDepth 100000 in
theorem normal_bad (L : Int) (A : Option Addr) (c : Nat) (l : List Rul) (B : Option Addr) (d : Nat) (x : List Int) (w : World) (hr : Kd.C kSw w A l.length l) (hx : Kd.C (Kd.int .i64) w B x.length x) (hd : x.length ≤ d) (h : nCode L l x ≠ 0) :
    Calls Try.prog 24 #[.int .i64 L, .slice A l.length c, .slice B x.length d] w fun e w' => e = .returned (.tuple #[.slice none 0 0, .int .i64 (nCode L l x)]) ∧ Below w.heap.size w w' := by
  have HX := Aside0.mk hx
  have M0 := Aside0.mk (show CkM w (w.alloc (.cells #[.int .i64 L] 3)) L from ⟨below_alloc (Below.refl _ _) _, blk_new w _⟩)
  have HK := Aside0.mk (rck_calls L A c l _ (Kd.C_below hr M0.out.b))
  clear hr hx hd
  by_cases h1 : swChk L l = 0
  · rw [h1] at HK
    by_cases h2 : 8 < x.length
    · have HF := Aside0.mk (show nCode L l x = 1 from by unfold nCode; rw [if_pos h1, if_pos h2])
      have g1 : decide (8 < (x.length : Int)) = true := decide_eq_true (by omega)
      clear h1 h2 h
      go_enter Try.func24, Try.ntmps24
      go_wp2_with (first
        | (go_at_call 65; refine HK.out.mono ?_; rintro e w2 ⟨rfl, hb2⟩; have M2 := Aside0.mk (M0.out.below hb2); clear hb2)
        | fail)
      go_ret2
      exact ⟨by rw [HF.out]; rfl, M2.out.b⟩
    · have g1 : decide (8 < (x.length : Int)) = false := decide_eq_false (by omega)
      have h3 : x.any (noB L) = true := by
        rw [← Bool.not_eq_false]
        intro h3
        exact h (nCode_of h1 (by omega) (noB_all h3))
      have HF := Aside0.mk (show nCode L l x = 2 from by unfold nCode; rw [if_pos h1, if_neg h2, if_pos h3])
      have HQ := Aside0.mk h3
      clear h1 h2 h3 h
      go_enter Try.func24, Try.ntmps24
      go_wp2_with (first
        | (go_at_call 65; refine HK.out.mono ?_; rintro e w2 ⟨rfl, hb2⟩; have M2 := Aside0.mk (M0.out.below hb2); have H1 := Aside0.mk (rn1_any L w.heap.size B d x _ M2.out.x (Kd.C_below HX.out M2.out.b)); rw [HQ.out] at H1; clear hb2)
        | (go_at_call 66; refine H1.out.mono ?_; rintro e w3 ⟨rfl, hb3⟩; have M3 := Aside0.mk (M2.out.below hb3); clear hb3)
        | fail)
      go_ret2
      exact ⟨by rw [HF.out]; rfl, M3.out.b⟩
  · have HF := Aside0.mk (show nCode L l x = swChk L l from by unfold nCode; rw [if_neg h1])
    have g1 : (swChk L l != 0) = true := by simpa using h1
    clear h1 h
    generalize swChk L l = e0 at HK HF g1
    go_enter Try.func24, Try.ntmps24
    go_wp2_with (first
      | (go_at_call 65; refine HK.out.mono ?_; rintro e w2 ⟨rfl, hb2⟩; have M2 := Aside0.mk (M0.out.below hb2); clear hb2)
      | fail)
    go_ret2
    exact ⟨by rw [HF.out]; rfl, M2.out.b⟩
end Go.Proofs.Ytampgoendkjkhaa.H
