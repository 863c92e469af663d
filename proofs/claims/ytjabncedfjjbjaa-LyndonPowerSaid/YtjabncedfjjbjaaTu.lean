/- Hand-proved: slices.Compare plain, lyndon.Turn. -/
import Derived.Test.YtjabncedfjjbjaaRo
import Derived.Test.YtjabncedfjjbjaaLyM
import Derived.Test.YtjabncedfjjbjaaCut
import Derived.Deep.DrawnRows
namespace Go.Proofs.Ytjabncedfjjbjaa.H
open Go.RowKit Go.Shelf Go.Proofs.YtjabncedfjjbjaaW.PrintWords Go.Proofs.Ytjabncedfjjbjaa.LyM
set_option linter.unusedVariables false
set_option linter.unusedSimpArgs false

/-! ### slices.Compare -/
theorem ly_cmp (x y : Int) : PLyBase.cmp_Compare_int.f x y = some (if x < y then -1 else if x > y then 1 else 0) := by
  unfold PLyBase.cmp_Compare_int.f PLyBase.cmp_isNaN_int.f
  by_cases h1 : x < y
  · simp [h1]
  · by_cases h2 : x > y <;> simp [h1, h2]
theorem cmpL_l0 (x y : List Int) (hn : x.length ≤ 9223372036854775807) : ∀ d i k, x.length - i = d → i ≤ x.length → i ≤ y.length → d < k → PLyBase.slices_Compare_int_int.l0 k x y x (x.length : Int) (i : Int) = some (cmpL (x.drop i) (y.drop i)) := by
  intro d
  induction d with
  | zero =>
    intro i k hd hi hj hk
    obtain ⟨k, rfl⟩ : ∃ m, k = m + 1 := ⟨k - 1, by omega⟩
    rw [List.drop_of_length_le (show x.length ≤ i by omega)]
    simp only [PLyBase.slices_Compare_int_int.l0]
    rw [if_neg (by omega)]
    by_cases h : i = y.length
    · rw [List.drop_of_length_le (show y.length ≤ i by omega), if_neg (by omega)]; rfl
    · have : i < y.length := by omega
      rw [List.drop_eq_getElem_cons this, if_pos (by omega)]; rfl
  | succ d ih =>
    intro i k hd hi hj hk
    obtain ⟨k, rfl⟩ : ∃ m, k = m + 1 := ⟨k - 1, by omega⟩
    have hlt : i < x.length := by omega
    simp only [PLyBase.slices_Compare_int_int.l0]
    rw [List.drop_eq_getElem_cons hlt, if_pos (by omega), if_pos (by omega), if_pos (by omega)]
    by_cases h : i = y.length
    · rw [if_pos (by omega), List.drop_of_length_le (show y.length ≤ i by omega)]; rfl
    · have hly : i < y.length := by omega
      rw [if_neg (by omega), if_pos (by omega), rd_at hlt, rd_at hly, ly_cmp, List.drop_eq_getElem_cons hly]
      simp only [Option.bind_some, cmpL]
      by_cases h1 : x[i] < y[i]
      · simp [h1]
      · by_cases h2 : x[i] > y[i]
        · simp [h1, h2]
        · simp only [h1, h2, if_false, if_true]
          rw [w64 (by omega) (by omega), show ((i : Int) + 1) = ((i + 1 : Nat) : Int) from by omega, ih (i + 1) k (by omega) (by omega) (by omega) (by omega)]
theorem cmpL_calls (A0 : Option Addr) (c0 : Nat) (l0 : List Int) (A1 : Option Addr) (c1 : Nat) (l1 : List Int) (w : World) (hr0 : Kd.C (Kd.int .i64) w A0 l0.length l0) (hc0 : l0.length ≤ c0) (hr1 : Kd.C (Kd.int .i64) w A1 l1.length l1) (hc1 : l1.length ≤ c1) (r : Int) (h : cmpL l0 l1 = r) :
    Calls Try.prog 58 #[.slice A0 l0.length c0, .slice A1 l1.length c1] w fun e w' => e = .returned (.int .i64 r) ∧ Drawn0 w w' := by
  refine PLyBase.slices_Compare_int_int.calls (l0.length + 1) A0 c0 l0 A1 c1 l1 r w hr0 hc0 hr1 hc1 ?_
  unfold PLyBase.slices_Compare_int_int.f
  have := cmpL_l0 l0 l1 hr0.2.1 l0.length 0 (l0.length + 1) (by omega) (by omega) (by omega) (by omega)
  rw [← h]
  exact this

/-! ### Turn -/
theorem reads_row2 {W : World} {b : Nat} {A A' : Option Addr} {n n' c c' : Nat} {x y : List Int} (hn : x.length = n) (hn' : y.length = n') (h : W.cell? ⟨b, 0, none⟩ = some (.slice A n c)) (h' : W.cell? ⟨b, 1, none⟩ = some (.slice A' n' c')) (hc : n ≤ c) (hc' : n' ≤ c') (hx : Kd.C (Kd.int .i64) W A n x) (hy : Kd.C (Kd.int .i64) W A' n' y) : Kd.C (Kd.slice 3 (Kd.int .i64)) W (some ⟨b, 0, none⟩) 2 [x, y] := by
  subst hn hn'
  refine ⟨rfl, by decide, fun _ => ⟨_, rfl, fun j p hj => ?_⟩⟩
  match j, hj with
  | 0, hj =>
    obtain rfl : x = p := by simpa using hj
    refine ⟨[.slice A x.length c], rfl, ⟨A, c, rfl, hc, hx⟩, fun i u hu => ?_⟩
    match i, hu with
    | 0, hu =>
      obtain rfl : Value.slice A x.length c = u := by simpa using hu
      simpa [Addr.add, Kd.slice] using h
  | 1, hj =>
    obtain rfl : y = p := by simpa using hj
    refine ⟨[.slice A' y.length c'], rfl, ⟨A', c', rfl, hc', hy⟩, fun i u hu => ?_⟩
    match i, hu with
    | 0, hu =>
      obtain rfl : Value.slice A' y.length c' = u := by simpa using hu
      simpa [Addr.add, Kd.slice] using h'

theorem concat2_at (W : World) (b : Nat) (A A' : Option Addr) (n n' c c' : Nat) (x y : List Int) (hn : x.length = n) (hn' : y.length = n') (h : W.cell? ⟨b, 0, none⟩ = some (.slice A n c)) (h' : W.cell? ⟨b, 1, none⟩ = some (.slice A' n' c')) (hc : n ≤ c) (hc' : n' ≤ c') (hx : Kd.C (Kd.int .i64) W A n x) (hy : Kd.C (Kd.int .i64) W A' n' y) (hl : n + n' < 17592186044416) :
    Calls Try.prog 59 #[.slice (some ⟨b, 0, none⟩) 2 2] W fun e w' => ∃ (A1 : Option Addr) (c1 : Nat), e = .returned (.slice A1 (n + n') c1) ∧ n + n' ≤ c1 ∧ Kd.C (Kd.int .i64) w' A1 (n + n') (x ++ y) ∧ Below W.heap.size W w' := by
  refine (slices_Concat.calls (some ⟨b, 0, none⟩) 2 [x, y] (x ++ y) W (reads_row2 hn hn' h h' hc hc' hx hy) (by simp) ?_).mono ?_
  · unfold slices_Concat.f
    rw [if_pos (by simp; omega)]
    simp
  · rintro e w' ⟨v, rfl, ho, hb⟩
    obtain ⟨A1, c1, rfl⟩ := Kd.R_slice ho
    have hr := Kd.R_reads' ho
    have hlen : (x ++ y).length = n + n' := by rw [List.length_append]; omega
    rw [hlen] at hr
    exact ⟨A1, c1, by rw [hlen], hr.2.1, hr.2.2, hb⟩
theorem cmpL_at (A0 : Option Addr) (c0 : Nat) (l0 : List Int) (A1 : Option Addr) (c1 : Nat) (l1 : List Int) (n n' : Nat) (w : World) (hn : l0.length = n) (hn' : l1.length = n') (hr0 : Kd.C (Kd.int .i64) w A0 n l0) (hc0 : n ≤ c0) (hr1 : Kd.C (Kd.int .i64) w A1 n' l1) (hc1 : n' ≤ c1) (r : Int) (h : cmpL l0 l1 = r) :
    Calls Try.prog 58 #[.slice A0 n c0, .slice A1 n' c1] w fun e w' => e = .returned (.int .i64 r) ∧ Drawn0 w w' := by
  subst hn hn'
  exact cmpL_calls A0 c0 l0 A1 c1 l1 w hr0 hc0 hr1 hc1 r h
def lyndon_Turn.f (l0 : List Int) : Option (Int × Int) := if mayF 4 l0 = 0 then some (((turnB l0 l0.length : Nat) : Int), 0) else some (0, mayF 4 l0)
set_option maxHeartbeats 8000000 in
set_option maxRecDepth 100000 in
theorem lyndon_Turn.calls (A0 : Option Addr) (c0 : Nat) (l0 : List Int) (r1 : Int) (r2 : Int) (w : World) (hr0 : Kd.C (Kd.int .i64) w A0 l0.length l0) (hc0 : l0.length ≤ c0) (h : lyndon_Turn.f l0 = some (r1, r2)) :
    Calls Try.prog 25 #[.slice A0 l0.length c0] w fun e w' => e = .returned (.tuple #[.int .i64 r1, .int .i64 r2]) ∧ Below w.heap.size w w' := by
  unfold lyndon_Turn.f at h
  have HR := Aside0.mk hr0
  have HC := Aside0.mk hc0
  have HA := Aside0.mk (below_alloc (Below.refl w.heap.size w) (.cells #[.slice A0 l0.length c0] 22))
  have HL := Aside0.mk (fun (W : World) (b : Nat) (hx : W.cell? ⟨b, 0, none⟩ = some (.slice A0 l0.length c0)) (hb : Below w.heap.size w W) => reads_row1 hx hc0 (Kd.C_below hr0 hb))
  clear hr0
  by_cases hm : mayF 4 l0 = 0
  · rw [if_pos hm] at h
    have h' := Option.some.inj h
    obtain ⟨rfl, rfl⟩ := Prod.mk.inj h'
    clear h h'
    have HM := Aside0.mk (show mayL [l0] = 0 by simp [mayL, hm])
    have h60 := may60 hm
    clear hm
    go_enter Try.func25, Try.ntmps25
    go_wp2_with (go_at_call 56; refine (lyndon_may.calls (some ⟨w.heap.size, 0, none⟩) 1 [l0] 0 _ (HL.out _ _ (by go_simp) HA.out) (by simp) (by unfold lyndon_may.f; rw [HM.out])).mono ?_; rintro e w1 ⟨rfl, ⟨n1, rfl⟩⟩; have HA1 := Aside0.mk (pw_below_drewN HA.out n1))
    go_loopg [5, 6, 15] l0.length (fun gg s5 _ s15 wr => ∃ kk : Nat, kk ≤ l0.length ∧ l0.length - kk ≤ gg ∧ s15 = .int .i64 kk ∧ s5 = .int .i64 (turnB l0 kk : Nat) ∧ Aside0 (Below w.heap.size w wr))
    case atStart => exact ⟨0, Nat.zero_le _, by omega, rfl, rfl, ⟨HA1.out⟩⟩
    case round =>
      obtain ⟨kk, hkk, hg, rfl, rfl, BW⟩ := hrel
      by_cases hlt : kk < l0.length
      · have hltz : (kk : Int) < (l0.length : Int) := by omega
        have hbk := turnB_le l0 kk
        have hB1 : ((turnB l0 kk : Nat) : Int) ≤ (l0.length : Int) := by omega
        have hk1 : (kk : Int) ≤ (l0.length : Int) := by omega
        have hB2 : ((turnB l0 kk : Nat) : Int) ≤ (c0 : Int) := by omega
        have hk2 : (kk : Int) ≤ (c0 : Int) := by omega
        have hT : turnB l0 (kk + 1) = if cmpL (l0.drop kk ++ l0.take kk) (l0.drop (turnB l0 kk) ++ l0.take (turnB l0 kk)) < 0 then kk else turnB l0 kk := rfl
        generalize turnB l0 kk = bb at hbk hB1 hB2 hT ⊢
        have HTT := Aside0.mk hT
        clear hT
        go_wp2_with fail
        have hn60 := Aside0.mk h60
        obtain ⟨cr, hcr⟩ : ∃ cr, cmpL (l0.drop kk ++ l0.take kk) (l0.drop bb ++ l0.take bb) = cr := ⟨_, rfl⟩
        have HCR := Aside0.mk hcr
        clear hcr
        obtain ⟨A1, m1, d1, em1, hd1, hcut1, hC1⟩ := cutA A0 c0 l0.length kk hkk HC.out
        obtain ⟨A2, m2, d2, em2, hd2, hcut2, hC2⟩ := cutA A0 c0 l0.length bb (by omega) HC.out
        obtain ⟨hcut3, hC3⟩ := cutB A0 c0 l0.length kk hkk HC.out
        obtain ⟨hcut4, hC4⟩ := cutB A0 c0 l0.length bb (by omega) HC.out
        have F1 := Aside0.mk (show ∀ W, Below w.heap.size w W → Kd.C (Kd.int .i64) W A1 m1 (l0.drop kk) ∧ Kd.C (Kd.int .i64) W A2 m2 (l0.drop bb) ∧ Kd.C (Kd.int .i64) W A0 kk (l0.take kk) ∧ Kd.C (Kd.int .i64) W A0 bb (l0.take bb) from fun W hb => have q := Kd.C_below HR.out hb; ⟨hC1 W l0 q, hC2 W l0 q, hC3 W l0 q, hC4 W l0 q⟩)
        have F2 := Aside0.mk (show m1 ≤ d1 ∧ m2 ≤ d2 ∧ kk ≤ c0 ∧ bb ≤ c0 ∧ (l0.drop kk).length = m1 ∧ (l0.drop bb).length = m2 ∧ (l0.take kk).length = kk ∧ (l0.take bb).length = bb ∧ m1 + kk < 17592186044416 ∧ m2 + bb < 17592186044416 from ⟨hd1, hd2, by have := HC.out; omega, by have := HC.out; omega, by rw [List.length_drop, em1], by rw [List.length_drop, em2], by rw [List.length_take]; omega, by rw [List.length_take]; omega, by omega, by omega⟩)
        have EM := Aside0.mk (show m1 + kk = l0.length ∧ m2 + bb = l0.length ∧ bb ≤ kk ∧ kk < l0.length from ⟨by omega, by omega, by omega, hlt⟩)
        clear hC1 hC2 hC3 hC4 em1 em2 hd1 hd2
        replace HTT := Aside0.mk (show turnB l0 (kk + 1) = if cr < 0 then kk else bb by rw [HTT.out, HCR.out])
        generalize l0.drop kk = x1 at HCR F1 F2
        generalize l0.take kk = y1 at HCR F1 F2
        generalize l0.drop bb = x2 at HCR F1 F2
        generalize l0.take bb = y2 at HCR F1 F2
        go_region_held3 (fun w' => Below w.heap.size w w' ∧ True)
          (first
            | exact ⟨B4.out, trivial⟩
            | exact ⟨B3.out, trivial⟩
            | exact ⟨B2.out, trivial⟩
            | exact ⟨below_alloc (by go_split_ands; assumption) _, trivial⟩
            | exact ⟨below_drew1 BW.out, trivial⟩)
          (first
            | (go_at_call 59
               have q2 := X2.out
               clear q2
               refine (concat2_at _ _ A2 A0 m2 bb d2 c0 x2 y2 F2.out.2.2.2.2.2.1 F2.out.2.2.2.2.2.2.2.1 (by first | (go_simp; done) | exact (Z2.out.cell (p := ⟨_, 0, none⟩) (by first | (simp; done) | (simp; omega))).trans (by go_simp)) (by first | (go_simp; done) | exact (Z2.out.cell (p := ⟨_, 1, none⟩) (by first | (simp; done) | (simp; omega))).trans (by go_simp)) F2.out.2.1 F2.out.2.2.2.1 (F1.out _ (by go_split_ands; assumption)).2.1 (F1.out _ (by go_split_ands; assumption)).2.2.2 F2.out.2.2.2.2.2.2.2.2.2).mono ?_
               rintro e w3 ⟨A3, c3, rfl, hc3, hC3, hb3⟩
               have B3 := Aside0.mk (below_step (show Below w.heap.size w _ from by go_split_ands; assumption) hb3)
               have X3 := Aside0.mk hC3
               have Y3 := Aside0.mk hc3
               have X4 := Aside0.mk (show Kd.C (Kd.int .i64) w3 E2 (m1 + kk) (x1 ++ y1) from Kd.C_below (by first | with_reducible exact X2.out | exact Kd.C_below X2.out (below_alloc (Below.refl _ _) _)) hb3)
               clear hC3 hb3 hc3)
            | (go_at_call 58
               refine (cmpL_at E2 c2 (x1 ++ y1) A3 c3 (x2 ++ y2) (m1 + kk) (m2 + bb) _ (by rw [List.length_append, F2.out.2.2.2.2.1, F2.out.2.2.2.2.2.2.1]) (by rw [List.length_append, F2.out.2.2.2.2.2.1, F2.out.2.2.2.2.2.2.2.1]) X4.out Y2.out X3.out Y3.out cr HCR.out).mono ?_
               rintro e w4 ⟨rfl, ⟨n4, rfl⟩⟩
               have B4 := Aside0.mk (pw_below_drewN B3.out n4))
            | (go_at_call 59
               refine (concat2_at _ _ A1 A0 m1 kk d1 c0 x1 y1 F2.out.2.2.2.2.1 F2.out.2.2.2.2.2.2.1 (by go_simp) (by go_simp) F2.out.1 F2.out.2.2.1 (F1.out _ (by go_split_ands; assumption)).1 (F1.out _ (by go_split_ands; assumption)).2.2.1 F2.out.2.2.2.2.2.2.2.2.1).mono ?_
               rintro e w2 ⟨E2, c2, rfl, hc2, hC2, hb2⟩
               have B2 := Aside0.mk (below_step (show Below w.heap.size w _ from by go_split_ands; assumption) hb2)
               have X2 := Aside0.mk hC2
               have Y2 := Aside0.mk hc2
               have Z2 := Aside0.mk hb2
               clear hC2 hb2 hc2))
        all_goals go_wp2
        all_goals
          go_roundg (l0.length - (kk + 1))
          case measure => have := EM.out; omega
          case rel => exact ⟨kk + 1, by have := EM.out; omega, by omega, by go_num, by rw [HTT.out]; first | rw [if_pos (by omega)] | rw [if_neg (by omega)], ⟨B4.out⟩⟩
      · obtain rfl : kk = l0.length := by omega
        have hdec : decide ((l0.length : Int) < (l0.length : Int)) = false := by simp
        go_wp2
        go_ret2
        exact ⟨rfl, BW.out⟩
  · rw [if_neg hm] at h
    have h' := Option.some.inj h
    obtain ⟨rfl, rfl⟩ := Prod.mk.inj h'
    clear h h'
    have HM := Aside0.mk (show mayL [l0] = mayF 4 l0 by simp [mayL, hm])
    generalize mayF 4 l0 = m at hm HM ⊢
    have hb : (m != 0) = true := by simpa using hm
    go_enter Try.func25, Try.ntmps25
    go_wp2_with (go_at_call 56; refine (lyndon_may.calls (some ⟨w.heap.size, 0, none⟩) 1 [l0] m _ (HL.out _ _ (by go_simp) HA.out) (by simp) (by unfold lyndon_may.f; rw [HM.out])).mono ?_; rintro e w1 ⟨rfl, ⟨n1, rfl⟩⟩)
    go_ret2
    exact ⟨rfl, pw_below_drewN HA.out _⟩
end Go.Proofs.Ytjabncedfjjbjaa.H
