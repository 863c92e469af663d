/- rewrite.Check. -/
import Derived.Test.YtampgoendkjkhaaRs
namespace Go.Proofs.Ytampgoendkjkhaa.H
open Go.RowKit Go.Shelf Go.Proofs.YtampgoendkjkhaaW.PrintWords Go.Proofs.YtampgoendkjkhaaW.PrintMore Go.Proofs.Ytampgoendkjkhaa.LyM
set_option linter.unusedVariables false
set_option linter.unusedSimpArgs false
theorem rc1_calls (n q : Int) (B : Nat) (w : World) (hc : w.cell? ⟨B, 0, none⟩ = some (.int .i64 n)) :
    Calls Try.prog 127 #[.int .i64 q, .pointer (some ⟨B, 0, none⟩)] w fun e w' => e = .returned (.bool (noB n q)) ∧ w = w' := by
  by_cases h : q < 0
  · have h' : decide (q < 0) = true := decide_eq_true h
    go_enter Try.func127, Try.ntmps127
    go_wp2
    go_ret
    exact ⟨by simp [noB, h']; try rfl, rfl⟩
  · have h' : decide (q < 0) = false := decide_eq_false h
    go_enter Try.func127, Try.ntmps127
    go_wp2
    go_ret
    exact ⟨by simp [noB, h']; try rfl, rfl⟩
def oneC (L : Int) (s : Rul) : Int := if s.1.length < 1 ∨ 5 < s.1.length ∨ 5 < s.2.length then 1 else if (s.1.any (noB L) || s.2.any (noB L)) = true then 2 else if befB s.2 s.1 = true then 0 else 3
def chkL (L : Int) : List Rul → Int
  | [] => 0
  | s :: t => if oneC L s = 0 then chkL L t else oneC L s
def swChk (L : Int) (l : List Rul) : Int := if L < 1 ∨ 4 < L then 2 else if 8 < l.length then 1 else chkL L l
theorem chk_all {L : Int} : ∀ {l : List Rul}, chkL L l = 0 → ∀ s ∈ l, oneC L s = 0
  | [], _, s, h => absurd h (List.not_mem_nil)
  | x :: t, h, s, hs => by
    unfold chkL at h
    split at h
    · rename_i h0
      rcases List.mem_cons.1 hs with rfl | hs
      · exact h0
      · exact chk_all h s hs
    · rename_i h0; exact absurd h h0
theorem noB_all {L : Int} {xs : List Int} (h : xs.any (noB L) = false) : ∀ x ∈ xs, 0 ≤ x ∧ x < L := fun x hx => by
  have := List.any_eq_false.1 h x hx
  unfold noB at this
  simp only [Bool.or_eq_true, decide_eq_true_eq, not_or] at this
  omega
theorem noB_none {L : Int} {xs : List Int} (h : ∀ x ∈ xs, 0 ≤ x ∧ x < L) : xs.any (noB L) = false := by
  rw [List.any_eq_false]
  intro x hx
  unfold noB
  have := h x hx
  simp only [Bool.or_eq_true, decide_eq_true_eq, not_or]
  omega
theorem swOk_of {L : Int} {l : List Rul} (h : swChk L l = 0) : ∃ n : Nat, L = (n : Int) ∧ SwOk n l := by
  unfold swChk at h
  split at h
  · cases h
  split at h
  · cases h
  rename_i h1 h2
  have ha := chk_all h
  have ho : ∀ s ∈ l, (1 ≤ s.1.length ∧ s.1.length ≤ 5 ∧ s.2.length ≤ 5) ∧ s.1.any (noB L) = false ∧ s.2.any (noB L) = false ∧ befB s.2 s.1 = true := fun s hs => by
    have h := ha s hs
    unfold oneC at h
    split at h
    · cases h
    split at h
    · cases h
    split at h
    · rename_i g1 g2 g3
      rw [Bool.not_eq_true, Bool.or_eq_false_iff] at g2
      exact ⟨by omega, g2.1, g2.2, g3⟩
    · cases h
  obtain ⟨n, rfl⟩ : ∃ n : Nat, L = (n : Int) := ⟨L.toNat, by omega⟩
  exact ⟨n, rfl, by omega, by omega, by omega, fun s hs => (ho s hs).1.1, fun s hs => (ho s hs).1.2.1, fun s hs => (ho s hs).1.2.2, fun s hs => noB_all (ho s hs).2.1, fun s hs => noB_all (ho s hs).2.2.1, fun s hs => bef_ord (ho s hs).2.2.2⟩
theorem rc1_any (L : Int) (b : Nat) (A : Option Addr) (c : Nat) (xs : List Int) (W : World) (hx : W.heap[b]? = some (.cells #[.int .i64 L] 3 (0, 0))) (hC : Kd.C (Kd.int .i64) W A xs.length xs) :
    Calls Try.prog 66 #[.slice A xs.length c, .func (.func 127) #[] #[.pointer (some ⟨b, 0, none⟩)]] W fun e w' => e = .returned (.bool (xs.any (noB L))) ∧ Below W.heap.size W w' := by
  have e1 : ∀ args w, (callFunc 127 args).run Try.prog w = .ok (.enter 127 args) w := enters_of Try.func127 (by kernel_rfl) rfl
  exact ContainsFunc_int 127 #[.pointer (some ⟨b, 0, none⟩)] e1 (noB L) A c xs W hC (fun W' x _ hb => (rc1_calls L x b W' ((blk_cell (blk_below hx hb) 0).trans rfl)).mono fun e w' ⟨he, hw⟩ => ⟨he, hw ▸ hb⟩)
structure CkM (w W : World) (L : Int) : Prop where
  b : Below w.heap.size w W
  x : W.heap[w.heap.size]? = some (.cells #[.int .i64 L] 3 (0, 0))
theorem CkM.below {w W W' : World} {L : Int} (h : CkM w W L) (hb : Below W.heap.size W W') : CkM w W' L := ⟨below_step h.b hb, blk_below h.x hb⟩
set_option maxHeartbeats 8000000 in
set_option maxRecDepth 100000 in
theorem rck_rest (L : Int) (A : Option Addr) (c : Nat) (l : List Rul) (w : World) (hr : Kd.C kSw w A l.length l) (h : ¬ (L < 1 ∨ 4 < L)) (hl : ¬ 8 < l.length) :
    Calls Try.prog 65 #[.int .i64 L, .slice A l.length c] w fun e w' => e = .returned (.int .i64 (chkL L l)) ∧ Below w.heap.size w w' := by
  have HR := Aside0.mk hr
  have M0 := Aside0.mk (show CkM w (w.alloc (.cells #[.int .i64 L] 3)) L from ⟨below_alloc (Below.refl _ _) _, blk_new w _⟩)
  have g1 : decide (L < 1) = false := decide_eq_false (by omega)
  have g2 : decide (4 < L) = false := decide_eq_false (by omega)
  have g3 : decide (8 < (l.length : Int)) = false := decide_eq_false (by omega)
  have hl8 : l.length ≤ 8 := by omega
  clear h hr hl
  go_enter Try.func65, Try.ntmps65
  go_wp2
  generalize w.alloc (.cells #[.int .i64 L] 3) = W1 at M0 ⊢
  go_loopg [20] l.length (fun gg s20 wr => ∃ i : Nat, i ≤ l.length ∧ l.length - i ≤ gg ∧ s20 = .int .i64 (i : Int) ∧ Aside0 (CkM w wr L) ∧ Aside0 (chkL L (l.drop i) = chkL L l))
  case atStart => exact ⟨0, Nat.zero_le _, by omega, rfl, M0, ⟨rfl⟩⟩
  case round =>
    obtain ⟨i, hi, hgg, rfl, MM, AA⟩ := hrel
    clear M0
    by_cases hlt : i < l.length
    · have hltz : (i : Int) < (l.length : Int) := by omega
      obtain ⟨ad, A1, c1, A2, c2, e0, h1, h2, hC1, hC2, k1, k2⟩ := sw_get (Kd.C_below HR.out MM.out.b) rfl hlt
      cases e0
      have HD := Aside0.mk (show chkL L (l.drop i) = if oneC L l[i] = 0 then chkL L (l.drop (i + 1)) else oneC L l[i] from by rw [List.drop_eq_getElem_cons hlt]; rfl)
      rw [AA.out] at HD
      clear AA
      generalize l[i] = s at HD h1 h2 hC1 hC2 k1 k2
      have M2 := Aside0.mk (MM.out.below (below_alloc (Below.refl _ _) (.cells #[.slice A1 s.1.length c1, .slice A2 s.2.length c2] 68)))
      have X2 := Aside0.mk (blk_new wr (.cells #[.slice A1 s.1.length c1, .slice A2 s.2.length c2] 68 (0, 0)))
      have C1 := Aside0.mk (Kd.C_below hC1 (below_alloc (Below.refl _ _) (.cells #[.slice A1 s.1.length c1, .slice A2 s.2.length c2] 68)))
      have C2 := Aside0.mk (Kd.C_below hC2 (below_alloc (Below.refl _ _) (.cells #[.slice A1 s.1.length c1, .slice A2 s.2.length c2] 68)))
      have HH := Aside0.mk (And.intro h1 h2)
      clear hC1 hC2 h1 h2
      by_cases z1 : s.1.length < 1
      · have z1' : decide ((s.1.length : Int) < 1) = true := decide_eq_true (by omega)
        have HF := Aside0.mk (show chkL L l = 1 from by rw [HD.out, show oneC L s = 1 from by unfold oneC; rw [if_pos (.inl z1)]]; rfl)
        clear z1
        go_wp2
        go_ret
        exact ⟨by rw [HF.out]; rfl, M2.out.b⟩
      have z1' : decide ((s.1.length : Int) < 1) = false := decide_eq_false (by omega)
      by_cases z2 : 5 < s.1.length
      · have z2' : decide (5 < (s.1.length : Int)) = true := decide_eq_true (by omega)
        have HF := Aside0.mk (show chkL L l = 1 from by rw [HD.out, show oneC L s = 1 from by unfold oneC; rw [if_pos (.inr (.inl z2))]]; rfl)
        clear z1 z2
        go_wp2
        go_ret
        exact ⟨by rw [HF.out]; rfl, M2.out.b⟩
      have z2' : decide (5 < (s.1.length : Int)) = false := decide_eq_false (by omega)
      by_cases z3 : 5 < s.2.length
      · have z3' : decide (5 < (s.2.length : Int)) = true := decide_eq_true (by omega)
        have HF := Aside0.mk (show chkL L l = 1 from by rw [HD.out, show oneC L s = 1 from by unfold oneC; rw [if_pos (.inr (.inr z3))]]; rfl)
        clear z1 z2 z3
        go_wp2
        go_ret
        exact ⟨by rw [HF.out]; rfl, M2.out.b⟩
      have z3' : decide (5 < (s.2.length : Int)) = false := decide_eq_false (by omega)
      have HO := Aside0.mk (show oneC L s = if (s.1.any (noB L) || s.2.any (noB L)) = true then 2 else if befB s.2 s.1 = true then 0 else 3 from by unfold oneC; rw [if_neg (by omega)])
      clear z1 z2 z3
      have H1 := Aside0.mk (rc1_any L w.heap.size A1 c1 s.1 _ M2.out.x C1.out)
      cases q1 : s.1.any (noB L) with
      | true =>
        rw [q1] at H1 HO
        have HF := Aside0.mk (show chkL L l = 2 from by rw [HD.out, HO.out]; rfl)
        clear q1
        go_wp2_with (go_at_call 66; refine H1.out.mono ?_; rintro e w3 ⟨rfl, hb3⟩; have M3 := Aside0.mk (M2.out.below hb3); clear hb3)
        go_ret
        exact ⟨by rw [HF.out]; rfl, M3.out.b⟩
      | false =>
        rw [q1] at H1 HO
        clear q1
        cases q2 : s.2.any (noB L) with
        | true =>
          rw [q2] at HO
          have HF := Aside0.mk (show chkL L l = 2 from by rw [HD.out, HO.out]; rfl)
          have HQ := Aside0.mk q2
          clear q2
          have tok1 : True := trivial
          go_wp2_with (first
            | (have _t := tok1; go_at_call 66; refine H1.out.mono ?_; rintro e w3 ⟨rfl, hb3⟩; have M3 := Aside0.mk (M2.out.below hb3); have X3 := Aside0.mk (blk_below X2.out hb3); have k4 : w3.cell? ⟨wr.heap.size, 1, none⟩ = some (.slice A2 s.2.length c2) := (blk_cell X3.out 1).trans rfl; have H2 := Aside0.mk (rc1_any L w.heap.size A2 c2 s.2 _ M3.out.x (Kd.C_below C2.out hb3)); rw [HQ.out] at H2; clear hb3 tok1)
            | (go_at_call 66; refine H2.out.mono ?_; rintro e w4 ⟨rfl, hb4⟩; have M4 := Aside0.mk (M3.out.below hb4); clear hb4)
            | fail)
          go_ret
          exact ⟨by rw [HF.out]; rfl, M4.out.b⟩
        | false =>
          rw [q2] at HO
          have HQ := Aside0.mk q2
          clear q2
          cases q3 : befB s.2 s.1 with
          | false =>
            rw [q3] at HO
            have HF := Aside0.mk (show chkL L l = 3 from by rw [HD.out, HO.out]; rfl)
            have HQ3 := Aside0.mk q3
            clear q3
            have tok1 : True := trivial
            have tok2 : True := trivial
            go_wp2_with (first
              | (have _t := tok1; go_at_call 66; refine H1.out.mono ?_; rintro e w3 ⟨rfl, hb3⟩; have M3 := Aside0.mk (M2.out.below hb3); have X3 := Aside0.mk (blk_below X2.out hb3); have k4 : w3.cell? ⟨wr.heap.size, 1, none⟩ = some (.slice A2 s.2.length c2) := (blk_cell X3.out 1).trans rfl; have D1 := Aside0.mk (Kd.C_below C1.out hb3); have D2 := Aside0.mk (Kd.C_below C2.out hb3); have H2 := Aside0.mk (rc1_any L w.heap.size A2 c2 s.2 _ M3.out.x D2.out); rw [HQ.out] at H2; clear hb3 tok1)
              | (have _t := tok2; go_at_call 66; refine H2.out.mono ?_; rintro e w4 ⟨rfl, hb4⟩; have M4 := Aside0.mk (M3.out.below hb4); have X4 := Aside0.mk (blk_below X3.out hb4); have k5 : w4.cell? ⟨wr.heap.size, 1, none⟩ = some (.slice A2 s.2.length c2) := (blk_cell X4.out 1).trans rfl; have k6 : w4.cell? ⟨wr.heap.size, 0, none⟩ = some (.slice A1 s.1.length c1) := (blk_cell X4.out 0).trans rfl; have H3 := Aside0.mk (bef_calls A2 c2 s.2 A1 c1 s.1 w4 (Kd.C_below D2.out hb4) HH.out.2 (Kd.C_below D1.out hb4) HH.out.1); rw [HQ3.out] at H3; clear hb4 tok2 H1 H2)
              | (go_at_call 128; refine H3.out.mono ?_; rintro e w5 ⟨rfl, ⟨n5, rfl⟩⟩)
              | fail)
            go_ret
            exact ⟨by rw [HF.out]; rfl, pw_below_drewN M4.out.b _⟩
          | true =>
            rw [q3] at HO
            have HN := Aside0.mk (show chkL L (l.drop (i + 1)) = chkL L l from by rw [HD.out, HO.out]; rfl)
            have HQ3 := Aside0.mk q3
            clear q3
            have tok1 : True := trivial
            have tok2 : True := trivial
            go_wp2_with (first
              | (have _t := tok1; go_at_call 66; refine H1.out.mono ?_; rintro e w3 ⟨rfl, hb3⟩; have M3 := Aside0.mk (M2.out.below hb3); have X3 := Aside0.mk (blk_below X2.out hb3); have k4 : w3.cell? ⟨wr.heap.size, 1, none⟩ = some (.slice A2 s.2.length c2) := (blk_cell X3.out 1).trans rfl; have D1 := Aside0.mk (Kd.C_below C1.out hb3); have D2 := Aside0.mk (Kd.C_below C2.out hb3); have H2 := Aside0.mk (rc1_any L w.heap.size A2 c2 s.2 _ M3.out.x D2.out); rw [HQ.out] at H2; clear hb3 tok1)
              | (have _t := tok2; go_at_call 66; refine H2.out.mono ?_; rintro e w4 ⟨rfl, hb4⟩; have M4 := Aside0.mk (M3.out.below hb4); have X4 := Aside0.mk (blk_below X3.out hb4); have k5 : w4.cell? ⟨wr.heap.size, 1, none⟩ = some (.slice A2 s.2.length c2) := (blk_cell X4.out 1).trans rfl; have k6 : w4.cell? ⟨wr.heap.size, 0, none⟩ = some (.slice A1 s.1.length c1) := (blk_cell X4.out 0).trans rfl; have H3 := Aside0.mk (bef_calls A2 c2 s.2 A1 c1 s.1 w4 (Kd.C_below D2.out hb4) HH.out.2 (Kd.C_below D1.out hb4) HH.out.1); rw [HQ3.out] at H3; clear hb4 tok2 H1 H2)
              | (go_at_call 128; refine H3.out.mono ?_; rintro e w5 ⟨rfl, ⟨n5, rfl⟩⟩)
              | fail)
            go_roundg (l.length - (i + 1))
            case measure => omega
            case rel => exact ⟨i + 1, by omega, by omega, by go_num, ⟨pw_below_drewN M4.out.b _, M4.out.x⟩, HN⟩
    · have hie : i = l.length := by omega
      have HF := Aside0.mk (show chkL L l = 0 from by rw [← AA.out, List.drop_eq_nil_of_le (by omega)]; rfl)
      subst hie
      go_wp2
      go_ret
      exact ⟨by rw [HF.out]; rfl, MM.out.b⟩
theorem rck_calls (L : Int) (A : Option Addr) (c : Nat) (l : List Rul) (w : World) (hr : Kd.C kSw w A l.length l) :
    Calls Try.prog 65 #[.int .i64 L, .slice A l.length c] w fun e w' => e = .returned (.int .i64 (swChk L l)) ∧ Below w.heap.size w w' := by
  unfold swChk
  have HB := Aside0.mk (below_alloc (Below.refl w.heap.size w) (.cells #[.int .i64 L] 3))
  by_cases h : L < 1 ∨ 4 < L
  · rw [if_pos h]
    rcases h with h | h
    · have h' : decide (L < 1) = true := decide_eq_true h
      clear hr h
      go_enter Try.func65, Try.ntmps65
      go_wp2
      go_ret
      exact ⟨rfl, HB.out⟩
    · have h1 : decide (L < 1) = false := decide_eq_false (by omega)
      have h' : decide (4 < L) = true := decide_eq_true h
      clear hr h
      go_enter Try.func65, Try.ntmps65
      go_wp2
      go_ret
      exact ⟨rfl, HB.out⟩
  · rw [if_neg h]
    by_cases hl : 8 < l.length
    · rw [if_pos hl]
      have g1 : decide (L < 1) = false := decide_eq_false (by omega)
      have g2 : decide (4 < L) = false := decide_eq_false (by omega)
      have g3 : decide (8 < (l.length : Int)) = true := decide_eq_true (by omega)
      clear h hr hl
      go_enter Try.func65, Try.ntmps65
      go_wp2
      go_ret
      exact ⟨rfl, HB.out⟩
    · rw [if_neg hl]
      exact rck_rest L A c l w hr h hl
end Go.Proofs.Ytampgoendkjkhaa.H
