/- rewrite.stands, swapped, normal. -/
import Derived.Test.YtampgoendkjkhaaRc
import Derived.Test.YtampgoendkjkhaaCat
import Derived.Test.YtampgoendkjkhaaRow
import Derived.WalkMore
namespace Go.Proofs.Ytampgoendkjkhaa.H
open Go.RowKit Go.Shelf Go.Proofs.YtampgoendkjkhaaW.PrintWords Go.Proofs.YtampgoendkjkhaaW.PrintMore Go.Proofs.Ytampgoendkjkhaa.LyM
set_option linter.unusedVariables false
set_option linter.unusedSimpArgs false
def stB (x v : List Int) (i : Nat) : Bool := decide (i + v.length ≤ x.length) && decide ((x.drop i).take v.length = v)
theorem stB_le {x v : List Int} {i : Nat} (h : stB x v i = true) : i + v.length ≤ x.length := by
  unfold stB at h
  rw [Bool.and_eq_true] at h
  exact of_decide_eq_true h.1
theorem stB_stp {l : List Rul} {x : List Int} {s : Rul} {i : Nat} (hs : s ∈ l) (h : stB x s.1 i = true) : Stp l x (swpd x s i) := by
  unfold stB at h
  rw [Bool.and_eq_true] at h
  have h2 := of_decide_eq_true h.2
  refine ⟨x.take i, x.drop (i + s.1.length), s, hs, ?_, rfl⟩
  rw [← List.drop_drop]
  have e : (x.drop i) = s.1 ++ (x.drop i).drop s.1.length := by
    have := List.take_append_drop s.1.length (x.drop i)
    rw [h2] at this
    exact this.symm
  rw [List.append_assoc, ← e, List.take_append_drop]
theorem stp_stB {l : List Rul} {x y : List Int} (h : Stp l x y) : ∃ (i : Nat) (s : Rul), s ∈ l ∧ i + s.1.length ≤ x.length ∧ stB x s.1 i = true ∧ y = swpd x s i := by
  obtain ⟨p, q, s, hs, rfl, rfl⟩ := h
  refine ⟨p.length, s, hs, by simp only [List.length_append]; omega, ?_, ?_⟩
  · unfold stB
    rw [Bool.and_eq_true]
    refine ⟨decide_eq_true (by simp only [List.length_append]; omega), decide_eq_true ?_⟩
    rw [List.append_assoc, List.drop_left, List.take_left]
  · unfold swpd
    rw [List.append_assoc p s.1 q, List.take_left, ← List.drop_drop, List.drop_left, List.drop_left]
theorem nfm_of {n : Nat} {l : List Rul} (H : SwOk n l) {x : List Int} (h : ∀ p, p < x.length → ∀ s ∈ l, stB x s.1 p = false) : Nfm l x := by
  intro y hy
  obtain ⟨i, s, hs, hi, hb, _⟩ := stp_stB hy
  have := H.f1 s hs
  rw [h i (by omega) s hs] at hb
  cases hb
theorem lit_rows3 {W : World} {b : Nat} {B0 B1 B2 : Option Addr} {d0 d1 d2 : Nat} {r0 r1 r2 : List Int} {n0 n1 n2 : Nat} (h : W.heap[b]? = some (.cells #[.slice B0 n0 d0, .slice B1 n1 d1, .slice B2 n2 d2] 22 (0, 0))) (e0 : n0 = r0.length) (e1 : n1 = r1.length) (e2 : n2 = r2.length) (g0 : n0 ≤ d0) (g1 : n1 ≤ d1) (g2 : n2 ≤ d2) (h0 : Kd.C (Kd.int .i64) W B0 n0 r0) (h1 : Kd.C (Kd.int .i64) W B1 n1 r1) (h2 : Kd.C (Kd.int .i64) W B2 n2 r2) : Kd.C (Kd.slice 3 (Kd.int .i64)) W (some ⟨b, 0, none⟩) 3 [r0, r1, r2] := by
  subst e0 e1 e2
  refine ⟨rfl, by decide, fun _ => ⟨_, rfl, fun j p hj => ?_⟩⟩
  match j, hj with
  | 0, hj =>
    obtain rfl : r0 = p := by simpa using hj
    refine ⟨[.slice B0 r0.length d0], rfl, ⟨B0, d0, rfl, g0, h0⟩, fun i u hu => ?_⟩
    match i, hu with
    | 0, hu =>
      obtain rfl : Value.slice B0 r0.length d0 = u := by simpa using hu
      simpa [Addr.add, Kd.slice] using blk_cell h 0
  | 1, hj =>
    obtain rfl : r1 = p := by simpa using hj
    refine ⟨[.slice B1 r1.length d1], rfl, ⟨B1, d1, rfl, g1, h1⟩, fun i u hu => ?_⟩
    match i, hu with
    | 0, hu =>
      obtain rfl : Value.slice B1 r1.length d1 = u := by simpa using hu
      simpa [Addr.add, Kd.slice] using blk_cell h 1
  | 2, hj =>
    obtain rfl : r2 = p := by simpa using hj
    refine ⟨[.slice B2 r2.length d2], rfl, ⟨B2, d2, rfl, g2, h2⟩, fun i u hu => ?_⟩
    match i, hu with
    | 0, hu =>
      obtain rfl : Value.slice B2 r2.length d2 = u := by simpa using hu
      simpa [Addr.add, Kd.slice] using blk_cell h 2
set_option maxHeartbeats 2000000 in
theorem std_calls (A0 : Option Addr) (c0 : Nat) (x : List Int) (A1 : Option Addr) (c1 : Nat) (v : List Int) (i : Nat) (w : World) (hr0 : Kd.C (Kd.int .i64) w A0 x.length x) (hc0 : x.length ≤ c0) (hr1 : Kd.C (Kd.int .i64) w A1 v.length v) (hc1 : v.length ≤ c1) (hi : i < 1000) (hv : v.length < 1000) :
    Calls Try.prog 130 #[.slice A0 x.length c0, .slice A1 v.length c1, .int .i64 (i : Int)] w fun e w' => e = .returned (.bool (stB x v i)) ∧ Drawn0 w w' := by
  obtain ⟨j, hj⟩ : ∃ j : Nat, j = i + v.length := ⟨_, rfl⟩
  have hw : IntKind.i64.wrap ((i : Int) + (v.length : Int)) = (j : Int) := (IntWalk.i64_in _ (by omega)).trans (by omega)
  by_cases hle : j ≤ x.length
  · obtain ⟨A', m, c', hm, hmc, hcut, hC⟩ := cutM A0 c0 x.length i j (by omega) hle hc0
    have hE := Aside0.mk (equal_at A' c' ((x.drop i).take (j - i)) A1 c1 v m v.length w (by rw [List.length_take, List.length_drop]; omega) rfl (hC w x hr0) hmc hr1 hc1 _ rfl (by omega))
    have HS := Aside0.mk (show stB x v i = decide ((x.drop i).take (j - i) = v) from by unfold stB; rw [decide_eq_true (show i + v.length ≤ x.length by omega), Bool.true_and, show j - i = v.length by omega])
    have hle' : decide ((j : Int) ≤ (x.length : Int)) = true := decide_eq_true (by omega)
    clear hC hr0 hr1 hj hm
    go_enter Try.func130, Try.ntmps130
    go_wp2_with (go_at_call 71; refine hE.out.mono ?_; rintro e w1 ⟨rfl, hw1⟩)
    go_ret
    exact ⟨by rw [HS.out]; rfl, hw1⟩
  · have hle' : decide ((j : Int) ≤ (x.length : Int)) = false := decide_eq_false (by omega)
    have HS := Aside0.mk (show stB x v i = false from by unfold stB; rw [decide_eq_false (show ¬ i + v.length ≤ x.length by omega), Bool.false_and])
    clear hr0 hr1 hj
    go_enter Try.func130, Try.ntmps130
    go_wp2
    go_ret
    exact ⟨by rw [HS.out]; rfl, ⟨0, rfl⟩⟩
set_option maxHeartbeats 4000000 in
theorem swd_calls (B : Option Addr) (d : Nat) (x : List Int) (A1 A2 : Option Addr) (c1 c2 : Nat) (s : Rul) (i : Nat) (w : World) (hx : Kd.C (Kd.int .i64) w B x.length x) (hd : x.length ≤ d) (h2 : s.2.length ≤ c2) (hC2 : Kd.C (Kd.int .i64) w A2 s.2.length s.2) (hi : i + s.1.length ≤ x.length) (hb : x.length + s.2.length < 1000) :
    Calls Try.prog 70 #[.slice B x.length d, .agg #[.slice A1 s.1.length c1, .slice A2 s.2.length c2], .int .i64 (i : Int)] w fun e w' => ∃ v : Value, e = .returned v ∧ Kd.R (Kd.int .i64) 3 w' w.heap.size (fun _ => True) v (swpd x s i) ∧ Below w.heap.size w w' := by
  obtain ⟨j, hj⟩ : ∃ j : Nat, j = i + s.1.length := ⟨_, rfl⟩
  have hw : IntKind.i64.wrap ((i : Int) + (s.1.length : Int)) = (j : Int) := (IntWalk.i64_in _ (by omega)).trans (by omega)
  obtain ⟨A', m, c', hm, hmc, hcutA, hCA⟩ := cutA B d x.length j (by omega) hd
  obtain ⟨hcutB, hCB⟩ := cutB B d x.length i (by omega) hd
  have HE := Aside0.mk (show swpd x s i = x.take i ++ s.2 ++ x.drop j from by unfold swpd; rw [hj])
  have HL := Aside0.mk (show ([x.take i, s.2, x.drop j] : List (List Int)).flatten.length < 17592186044416 ∧ i = (x.take i).length ∧ m = (x.drop j).length ∧ i ≤ d from ⟨by simp; omega, by simp; omega, by simp; omega, by omega⟩)
  have HX := Aside0.mk hx
  have H2 := Aside0.mk h2
  have HC2 := Aside0.mk hC2
  have HCA := Aside0.mk hCA
  have HCB := Aside0.mk hCB
  have HM := Aside0.mk hmc
  clear hm hmc hi hb hj hx hd h2 hC2 hCA hCB
  have M0 := Aside0.mk (below_alloc (Below.refl w.heap.size w) (.cells #[.slice A1 s.1.length c1, .slice A2 s.2.length c2] 68))
  have X0 := Aside0.mk (blk_new w (.cells #[.slice A1 s.1.length c1, .slice A2 s.2.length c2] 68 (0, 0)))
  go_enter Try.func70, Try.ntmps70
  go_wp2
  generalize w.alloc (.cells #[.slice A1 s.1.length c1, .slice A2 s.2.length c2] 68) = W1 at M0 X0 ⊢
  have p0 : W1.cell? ⟨w.heap.size, 0, none⟩ = some (.slice A1 s.1.length c1) := (blk_cell X0.out 0).trans rfl
  have p1 : W1.cell? ⟨w.heap.size, 1, none⟩ = some (.slice A2 s.2.length c2) := (blk_cell X0.out 1).trans rfl
  have HMS := Aside0.mk (show ∀ W', Below W1.heap.size W1 W' → (W'.cell? ⟨w.heap.size, 0, none⟩ = some (.slice A1 s.1.length c1) ∧ W'.cell? ⟨w.heap.size, 1, none⟩ = some (.slice A2 s.2.length c2)) from fun W' hb => ⟨pw_cell_below hb p0, pw_cell_below hb p1⟩)
  refine wp_region_held_drew (S := (fun W' => W'.cell? ⟨w.heap.size, 0, none⟩ = some (.slice A1 s.1.length c1) ∧ W'.cell? ⟨w.heap.size, 1, none⟩ = some (.slice A2 s.2.length c2))) (by kernel_rfl) ?_ (fun hHeld => ?_)
  · (try dsimp only); (first | exact HMS.out _ B3.out | exact HMS.out _ (below_drew1 (Below.refl _ _)) | exact HMS.out _ (below_alloc (below_drew1 (Below.refl _ _)) _) | fail)
  refine wpAnyH_take (i := 0) (v := ?_) rfl (by kernel_rfl) (by kernel_rfl) (by kernel_rfl) (fun _ _ _ h => h) (Or.inl ⟨by kernel_rfl, ?_⟩) (by assumption) ?_
  rotate_left 1
  · intro w hSw; (try dsimp only at hSw); go_simp; (try with_reducible rfl)
  (try simp only [Act.put, List.getElem_toArray, List.getElem_cons_zero, List.getElem_cons_succ, List.setIfInBounds_toArray, List.set_cons_zero, List.set_cons_succ])
  refine wpAnyH_take (i := 1) (v := ?_) rfl (by kernel_rfl) (by kernel_rfl) (by kernel_rfl) (fun _ _ _ h => h) (Or.inl ⟨by kernel_rfl, ?_⟩) (by assumption) ?_
  rotate_left 1
  · intro w hSw; (try dsimp only at hSw); go_simp; (try with_reducible rfl)
  (try simp only [Act.put, List.getElem_toArray, List.getElem_cons_zero, List.getElem_cons_succ, List.setIfInBounds_toArray, List.set_cons_zero, List.set_cons_succ])
  refine wpAnyH_take (i := 2) (v := ?_) rfl (by kernel_rfl) (by kernel_rfl) (by kernel_rfl) (fun _ _ _ h => h) (Or.inl ⟨by kernel_rfl, ?_⟩) (by assumption) ?_
  rotate_left 1
  · intro w hSw; (try dsimp only at hSw); go_simp; (try with_reducible rfl)
  (try simp only [Act.put, List.getElem_toArray, List.getElem_cons_zero, List.getElem_cons_succ, List.setIfInBounds_toArray, List.set_cons_zero, List.set_cons_succ])
  refine wpAnyH_take (i := 3) (v := ?_) rfl (by kernel_rfl) (by kernel_rfl) (by kernel_rfl) (fun _ _ _ h => h) (Or.inl ⟨by kernel_rfl, ?_⟩) (by assumption) ?_
  rotate_left 1
  · intro w hSw; (try dsimp only at hSw); go_simp; (try with_reducible rfl)
  (try simp only [Act.put, List.getElem_toArray, List.getElem_cons_zero, List.getElem_cons_succ, List.setIfInBounds_toArray, List.set_cons_zero, List.set_cons_succ])
  refine wpAnyH_take (i := 4) (v := ?_) rfl (by kernel_rfl) (by kernel_rfl) (by kernel_rfl) (fun _ _ _ h => h) (Or.inl ⟨by kernel_rfl, ?_⟩) (by assumption) ?_
  rotate_left 1
  · intro w hSw; (try dsimp only at hSw); go_simp; (try with_reducible rfl)
  (try simp only [Act.put, List.getElem_toArray, List.getElem_cons_zero, List.getElem_cons_succ, List.setIfInBounds_toArray, List.set_cons_zero, List.set_cons_succ])
  refine wpAnyH_take (i := 5) (v := ?_) rfl (by kernel_rfl) (by kernel_rfl) (by kernel_rfl) (fun _ _ _ h => h) (Or.inl ⟨by kernel_rfl, ?_⟩) (by assumption) ?_
  rotate_left 1
  · intro w hSw; (try dsimp only at hSw); go_simp; (try with_reducible rfl)
  (try simp only [Act.put, List.getElem_toArray, List.getElem_cons_zero, List.getElem_cons_succ, List.setIfInBounds_toArray, List.set_cons_zero, List.set_cons_succ])
  refine wpAnyH_take (i := 6) (v := ?_) rfl (by kernel_rfl) (by kernel_rfl) (by kernel_rfl) (fun _ _ _ h => h) (Or.inl ⟨by kernel_rfl, ?_⟩) (by assumption) ?_
  rotate_left 1
  · intro w hSw; (try dsimp only at hSw); go_simp; (try with_reducible rfl)
  (try simp only [Act.put, List.getElem_toArray, List.getElem_cons_zero, List.getElem_cons_succ, List.setIfInBounds_toArray, List.set_cons_zero, List.set_cons_succ])
  refine wpAnyH_take (i := 7) (v := ?_) rfl (by kernel_rfl) (by kernel_rfl) (by kernel_rfl) (fun _ _ _ h => h) (Or.inl ⟨by kernel_rfl, ?_⟩) (by assumption) ?_
  rotate_left 1
  · intro w hSw; (try dsimp only at hSw); go_simp; (try with_reducible rfl)
  (try simp only [Act.put, List.getElem_toArray, List.getElem_cons_zero, List.getElem_cons_succ, List.setIfInBounds_toArray, List.set_cons_zero, List.set_cons_succ])
  refine wpAnyH_take (i := 8) (v := ?_) rfl (by kernel_rfl) (by kernel_rfl) (by kernel_rfl) (fun _ _ _ h => h) (Or.inl ⟨by kernel_rfl, ?_⟩) (by assumption) ?_
  rotate_left 1
  · intro w hSw; (try dsimp only at hSw); go_simp; (try with_reducible rfl)
  (try simp only [Act.put, List.getElem_toArray, List.getElem_cons_zero, List.getElem_cons_succ, List.setIfInBounds_toArray, List.set_cons_zero, List.set_cons_succ])
  refine wpAnyH_take (i := 9) (v := ?_) rfl (by kernel_rfl) (by kernel_rfl) (by kernel_rfl) (fun _ _ _ h => h) (Or.inl ⟨by kernel_rfl, ?_⟩) (by assumption) ?_
  rotate_left 1
  · intro w hSw; (try dsimp only at hSw); go_simp; (try with_reducible rfl)
  (try simp only [Act.put, List.getElem_toArray, List.getElem_cons_zero, List.getElem_cons_succ, List.setIfInBounds_toArray, List.set_cons_zero, List.set_cons_succ])
  refine wpAnyH_take (i := 10) (v := ?_) rfl (by kernel_rfl) (by kernel_rfl) (by kernel_rfl) (fun _ _ _ h => h) (Or.inl ⟨by kernel_rfl, ?_⟩) (by assumption) ?_
  rotate_left 1
  · intro w hSw; (try dsimp only at hSw); go_simp; (try with_reducible rfl)
  (try simp only [Act.put, List.getElem_toArray, List.getElem_cons_zero, List.getElem_cons_succ, List.setIfInBounds_toArray, List.set_cons_zero, List.set_cons_succ])
  refine wpAnyH_take (i := 11) (v := ?_) rfl (by kernel_rfl) (by kernel_rfl) (by kernel_rfl) (fun _ _ _ h => h) (Or.inl ⟨by kernel_rfl, ?_⟩) (by assumption) ?_
  rotate_left 1
  · intro w hSw; (try dsimp only at hSw); go_simp; (try with_reducible rfl)
  (try simp only [Act.put, List.getElem_toArray, List.getElem_cons_zero, List.getElem_cons_succ, List.setIfInBounds_toArray, List.set_cons_zero, List.set_cons_succ])
  refine wpAnyH_ready (rs := [12]) (by kernel_rfl) (by simp) ?_
  refine AllReadyH.cons rfl (fun K hK => ?_) AllReadyH.nil
  rw [if_pos (by kernel_rfl)]
  go_simp
  (try go_simp)
  refine hK.out _ _ ?_ (fun hHeld => ?_)
  · (try dsimp only); (first | exact HMS.out _ B3.out | exact HMS.out _ (below_drew1 (Below.refl _ _)) | exact HMS.out _ (below_alloc (below_drew1 (Below.refl _ _)) _) | fail)
  clear hK K
  (try simp only [Act.put, List.getElem_toArray, List.getElem_cons_zero, List.getElem_cons_succ, List.setIfInBounds_toArray, List.set_cons_zero, List.set_cons_succ])
  refine wpAnyH_ready (rs := [13]) (by kernel_rfl) (by simp) ?_
  refine AllReadyH.cons rfl (fun K hK => ?_) AllReadyH.nil
  rw [if_pos (by kernel_rfl)]
  go_simp
  (go_at_call 72; refine calls_let ?_; intro W2 hW2; have B2 := Aside0.mk (show Below W1.heap.size W1 W2 from by rw [hW2]; exact below_alloc (below_drew1 (Below.refl _ _)) _); have R2 := Aside0.mk (show Kd.C (Kd.slice 3 (Kd.int .i64)) W2 (some ⟨W1.heap.size, 0, none⟩) 3 [x.take i, s.2, x.drop j] from lit_rows3 (by rw [hW2]; exact blk_new W1.drew _) HL.out.2.1 rfl HL.out.2.2.1 HL.out.2.2.2 H2.out HM.out (HCB.out _ _ (Kd.C_below (Kd.C_below HX.out M0.out) B2.out)) (Kd.C_below (Kd.C_below HC2.out M0.out) B2.out) (HCA.out _ _ (Kd.C_below (Kd.C_below HX.out M0.out) B2.out))); clear hW2; refine (slices_Concat.calls (some ⟨W1.heap.size, 0, none⟩) 3 [x.take i, s.2, x.drop j] _ W2 R2.out (Nat.le_refl _) (if_pos HL.out.1)).mono ?_; rintro e w3 ⟨v3, rfl, ho3, hb3⟩; have O3 := Aside0.mk (Kd.R_lower ho3 (Nat.le_trans M0.out.size B2.out.size)); have B3 := Aside0.mk (below_step B2.out hb3); clear ho3 hb3)
  (try go_simp)
  refine hK.out _ _ ?_ (fun hHeld => ?_)
  · (try dsimp only); (first | exact HMS.out _ B3.out | exact HMS.out _ (below_drew1 (Below.refl _ _)) | exact HMS.out _ (below_alloc (below_drew1 (Below.refl _ _)) _) | fail)
  clear hK K
  (try simp only [Act.put, List.getElem_toArray, List.getElem_cons_zero, List.getElem_cons_succ, List.setIfInBounds_toArray, List.set_cons_zero, List.set_cons_succ])
  refine wpAnyH_take (i := 14) (v := ?_) rfl (by kernel_rfl) (by kernel_rfl) (by kernel_rfl) (fun _ _ _ h => h) (Or.inl ⟨by kernel_rfl, ?_⟩) (by assumption) ?_
  rotate_left 1
  · intro w hSw; (try dsimp only at hSw); go_simp; (try with_reducible rfl)
  (try simp only [Act.put, List.getElem_toArray, List.getElem_cons_zero, List.getElem_cons_succ, List.setIfInBounds_toArray, List.set_cons_zero, List.set_cons_succ])
  refine wpAnyH_done (by kernel_rfl) ?_ _
  go_wp2
  go_ret
  exact ⟨_, rfl, by rw [HE.out]; simpa using O3.out, below_step M0.out B3.out⟩
set_option maxHeartbeats 8000000 in
theorem nrm_calls (n : Nat) (l : List Rul) (H : SwOk n l) (A : Option Addr) (c : Nat) (B : Option Addr) (d : Nat) (x0 : List Int) (w : World) (hr : Kd.C kSw w A l.length l) (hx : Kd.C (Kd.int .i64) w B x0.length x0) (hd : x0.length ≤ d) (hxl : x0.length ≤ 40) :
    Calls Try.prog 68 #[.slice A l.length c, .slice B x0.length d] w fun e w' => ∃ (r : List Int) (A' : Option Addr) (c' : Nat), e = .returned (.slice A' r.length c') ∧ r.length ≤ c' ∧ Kd.C (Kd.int .i64) w' A' r.length r ∧ Nrm l x0 r ∧ Below w.heap.size w w' := by
  have HR := Aside0.mk hr
  have HH := Aside0.mk H
  have hl8 := H.len
  have HX := Aside0.mk hx
  have HD := Aside0.mk hd
  clear hr H hx hd
  go_enter Try.func68, Try.ntmps68
  go_wp2
  go_step3
  go_wp2
  go_step3
  go_wp2
  go_loopg [1, 5] (ev 1 x0 * 64 + x0.length) (fun gg s1 s5 wr => ∃ (x : List Int) (B : Option Addr) (d i : Nat), s1 = .slice B x.length d ∧ s5 = .int .i64 (i : Int) ∧ i ≤ x.length ∧ x.length ≤ 40 ∧ ev 1 x * 64 + (x.length - i) ≤ gg ∧ Aside0 (x.length ≤ d ∧ Kd.C (Kd.int .i64) wr B x.length x) ∧ Aside0 (Below w.heap.size w wr) ∧ Aside0 (Sts l x0 x) ∧ Aside0 (∀ p, p < i → ∀ s ∈ l, stB x s.1 p = false))
  case atStart => exact ⟨x0, B, d, 0, rfl, rfl, Nat.zero_le _, hxl, by omega, ⟨HD.out, HX.out⟩, ⟨Below.refl _ _⟩, ⟨.nil _⟩, ⟨fun p hp => absurd hp (Nat.not_lt_zero _)⟩⟩
  case round =>
    obtain ⟨x, B, d, i, rfl, rfl, hi, hx40, hgg, XX, BB, SS, AA⟩ := hrel
    clear HX HD
    by_cases hlt : i < x.length
    · have hltz : (i : Int) < (x.length : Int) := by omega
      obtain ⟨go, hgo⟩ : ∃ go, go = gk := ⟨_, rfl⟩
      subst hgo
      go_wp2
      go_loopg [1, 5, 16] l.length (fun gg s1 s5 s16 ws => s1 = .slice B x.length d ∧ s5 = .int .i64 (i : Int) ∧ ∃ k : Nat, k ≤ l.length ∧ l.length - k ≤ gg ∧ s16 = .int .i64 (k : Int) ∧ Aside0 (x.length ≤ d ∧ Kd.C (Kd.int .i64) ws B x.length x) ∧ Aside0 (Below w.heap.size w ws) ∧ Aside0 (∀ j, ∀ hj : j < l.length, j < k → stB x l[j].1 i = false))
      case atStart => exact ⟨rfl, rfl, 0, Nat.zero_le _, by omega, rfl, XX, BB, ⟨fun j _ hj => absurd hj (Nat.not_lt_zero _)⟩⟩
      case round =>
        obtain ⟨rfl, rfl, k, hk, hgg2, rfl, YY, BS, KK⟩ := hrel
        clear XX BB
        by_cases hlk : k < l.length
        · have hlkz : (k : Int) < (l.length : Int) := by omega
          obtain ⟨ad, A1, c1, A2, c2, e0, h1, h2, hC1, hC2, k1, k2⟩ := sw_get (Kd.C_below HR.out BS.out) rfl hlk
          cases e0
          have HM := Aside0.mk (List.getElem_mem hlk)
          have HNX := Aside0.mk (fun (h : stB x l[k].1 i = false) (j : Nat) (hj : j < l.length) (hjk : j < k + 1) => by
            by_cases e : j = k
            · subst e; exact h
            · exact KK.out j hj (by omega) : stB x l[k].1 i = false → ∀ j, ∀ hj : j < l.length, j < k + 1 → stB x l[j].1 i = false)
          have HV := Aside0.mk (And.intro (HH.out.f5 _ (List.getElem_mem hlk)) (HH.out.t5 _ (List.getElem_mem hlk)))
          generalize l[k] = s at HM HNX HV h1 h2 hC1 hC2 k1 k2
          have B2 := Aside0.mk (below_alloc BS.out (.cells #[.slice A1 s.1.length c1, .slice A2 s.2.length c2] 68))
          have X2 := Aside0.mk (blk_new wr (.cells #[.slice A1 s.1.length c1, .slice A2 s.2.length c2] 68 (0, 0)))
          have al := Aside0.mk (below_alloc (Below.refl wr.heap.size wr) (.cells #[.slice A1 s.1.length c1, .slice A2 s.2.length c2] 68))
          have HS := Aside0.mk (std_calls B d x A1 c1 s.1 i _ (Kd.C_below YY.out.2 al.out) YY.out.1 (Kd.C_below hC1 al.out) h1 (by omega) (by have := HV.out.1; omega))
          have C2 := Aside0.mk (And.intro h2 (Kd.C_below hC2 al.out))
          clear hC1 hC2 h1 h2
          cases hq : stB x s.1 i with
          | false =>
            rw [hq] at HS
            have HN := Aside0.mk (HNX.out hq)
            clear hq HNX
            go_wp2_with (go_at_call 130; refine HS.out.mono ?_; rintro e w3 ⟨rfl, ⟨n3, rfl⟩⟩)
            go_roundg (l.length - (k + 1))
            case measure => omega
            case rel => exact ⟨rfl, rfl, k + 1, by omega, by omega, by go_num, ⟨YY.out.1, Kd.C_below YY.out.2 (pw_below_drewN al.out n3)⟩, ⟨pw_below_drewN B2.out n3⟩, HN⟩
          | true =>
            rw [hq] at HS
            have HP := Aside0.mk (stB_stp HM.out hq)
            have HLE := Aside0.mk (stB_le hq)
            clear hq HNX
            go_wp2_with (first
              | (go_at_call 130; refine HS.out.mono ?_; rintro e w3 ⟨rfl, ⟨n3, rfl⟩⟩)
              | (go_at_call 70; refine (swd_calls B d x A1 A2 c1 c2 s i _ (Kd.C_below YY.out.2 (pw_below_drewN al.out n3)) YY.out.1 C2.out.1 (Kd.C_below C2.out.2 (pw_below_drewN (Below.refl _ _) n3)) HLE.out (by have := HV.out.2; omega)).mono ?_; rintro e w4 ⟨v4, rfl, ho4, hb4⟩; obtain ⟨A4, c4, rfl⟩ := Kd.R_slice ho4; have O4 := Aside0.mk (Kd.R_reads' ho4).2; have B4 := Aside0.mk (below_step (pw_below_drewN B2.out n3) hb4); clear ho4 hb4)
              | fail)
            have hL1 := HP.out.less HH.out
            have hL2 := HP.out.len HH.out
            go_roundg (ev 1 (swpd x s i) * 64 + ((swpd x s i).length - 0))
            case measure => omega
            case rel => exact ⟨swpd x s i, A4, c4, 0, rfl, by go_num, Nat.zero_le _, by omega, by omega, ⟨O4.out.1, O4.out.2⟩, B4, ⟨SS.out.trans (.cons HP.out (.nil _))⟩, ⟨fun p hp => absurd hp (Nat.not_lt_zero _)⟩⟩
        · have hke : k = l.length := by omega
          have HN := Aside0.mk (show ∀ p, p < i + 1 → ∀ s ∈ l, stB x s.1 p = false from fun p hp s hs => by
            by_cases e : p = i
            · subst e
              obtain ⟨j, hj, rfl⟩ := List.getElem_of_mem hs
              exact KK.out j hj (by omega)
            · exact AA.out p (by omega) s hs)
          clear KK
          subst hke
          go_wp2
          go_roundg (ev 1 x * 64 + (x.length - (i + 1)))
          case measure => omega
          case rel => exact ⟨x, B, d, i + 1, rfl, by go_num, by omega, hx40, by omega, YY, BS, SS, HN⟩
    · have hie : i = x.length := by omega
      have HN := Aside0.mk (nfm_of HH.out (fun p hp s hs => AA.out p (by omega) s hs))
      clear AA
      subst hie
      go_wp2
      rw [Exit.noGoto_ret]
      go_ret
      exact ⟨x, B, d, rfl, XX.out.1, XX.out.2, ⟨SS.out, HN.out⟩, BB.out⟩
end Go.Proofs.Ytampgoendkjkhaa.H
