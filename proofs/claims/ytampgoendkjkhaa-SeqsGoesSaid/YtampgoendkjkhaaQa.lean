/- seqs.At, seqs.Counts. -/
import Derived.Test.YtampgoendkjkhaaQn
namespace Go.Proofs.Ytampgoendkjkhaa.H
open Go.RowKit Go.Shelf Go.Proofs.YtampgoendkjkhaaW.PrintWords Go.Proofs.YtampgoendkjkhaaW.PrintMore
set_option linter.unusedVariables false
set_option linter.unusedSimpArgs false
theorem accC_mono (b : Nat) (im : List (List Int)) (cd : List Int) (n v : Nat) : ∀ d a, accC b im cd n a v ≤ accC b im cd n (a + d) v
  | 0, a => Nat.le_refl _
  | d + 1, a => Nat.le_trans (accC_mono b im cd n v d a) (show accC b im cd n (a + d) v ≤ accC b im cd n (a + d + 1) v from Nat.le_add_right _ _)
theorem out_le (b : Nat) (im : List (List Int)) (cd : List Int) (n v : Nat) : outC b im cd n v ≤ n := by
  unfold outC
  exact Nat.le_trans List.countP_le_length (by simp)
theorem accC_le {b : Nat} {im : List (List Int)} {cd : List Int} (h : MorOk b im cd) (n v : Nat) {a : Nat} (ha : a ≤ im.length) : accC b im cd n a v ≤ n := by
  have := accC_mono b im cd n v (im.length - a) a
  rw [show a + (im.length - a) = im.length from by omega, accC_all h] at this
  exact Nat.le_trans this (out_le b im cd n v)
set_option maxHeartbeats 4000000 in
set_option maxRecDepth 100000 in
theorem qat_calls (b : Nat) (im : List (List Int)) (cd : List Int) (A1 A2 : Option Addr) (c1 c2 : Nat) (n : Nat) (w : World) (hr1 : Kd.C (Kd.slice 3 (Kd.int .i64)) w A1 im.length im) (hr2 : Kd.C (Kd.int .i64) w A2 cd.length cd) (h : qChk b im cd = 0) (hok : MorOk b im cd) (hn : n ≤ 2000000000000000) :
    Calls Try.prog 20 #[.agg #[.int .i64 (b : Int), .slice A1 im.length c1, .slice A2 cd.length c2], .int .i64 (n : Int)] w fun e w' => e = .returned (.tuple #[.int .i64 (cd.getD (letF b im n) 0), .int .i64 0]) ∧ Below w.heap.size w w' := by
  have HB0 := Aside0.mk (below_alloc (Below.refl w.heap.size w) (.cells #[.int .i64 (b : Int), .slice A1 im.length c1, .slice A2 cd.length c2] 45))
  have HC := Aside0.mk (qc_calls b A1 A2 c1 c2 im cd _ (Kd.C_below hr1 HB0.out) (Kd.C_below hr2 HB0.out))
  rw [h] at HC
  have hla := let_lt hok n
  have HLE := Aside0.mk (fun (W : World) (hb : Below w.heap.size w W) => letter_calls b im cd A1 A2 c1 c2 hok n n W (Nat.le_refl _) hn (Kd.C_below hr1 hb))
  generalize letF b im n = la at hla HLE
  have hlc : la < cd.length := by rw [hok.len]; exact hla
  have hlz : (la : Int) < (cd.length : Int) := by omega
  obtain ⟨ac, e0, hx⟩ := int_get hr2 rfl hlc
  subst e0
  have HX := Aside0.mk (show cd.getD la 0 = cd[la] from by rw [List.getD_eq_getElem?_getD, List.getElem?_eq_getElem hlc]; rfl)
  generalize cd[la] = x at hx HX
  rw [HX.out]
  have HCX := Aside0.mk hx
  have hnn : decide ((n : Int) < 0) = false := decide_eq_false (by omega)
  have hnz : (0 : Int) ≤ (n : Int) := by omega
  clear hr1 hr2 h hla hx
  go_enter Try.func20, Try.ntmps20
  go_wp2_with (first
    | (go_at_call 54
       refine HC.out.mono ?_
       rintro e w1 ⟨rfl, hb1⟩
       have X1 := Aside0.mk (show w1.heap[w.heap.size]? = some (.cells #[.int .i64 (b : Int), .slice A1 im.length c1, .slice (some ac) cd.length c2] 45 (0, 0)) from blk_below (blk_new w _) hb1)
       have B1 := Aside0.mk (below_step HB0.out hb1)
       clear hb1)
    | fail)
  have HMS := Aside0.mk (show ∀ W', Below w1.heap.size w1 W' → (fun W' => Below w1.heap.size w1 W' ∧ W'.cell? ⟨w.heap.size, 0, none⟩ = some (.int .i64 (b : Int)) ∧ W'.cell? ⟨w.heap.size, 1, none⟩ = some (.slice A1 im.length c1) ∧ W'.cell? ⟨w.heap.size, 2, none⟩ = some (.slice (some ac) cd.length c2) ∧ W'.cell? (ac.add la) = some (.int .i64 x)) W' from fun W' hb => ⟨hb, pw_cell_below hb ((blk_cell X1.out 0).trans rfl), pw_cell_below hb ((blk_cell X1.out 1).trans rfl), pw_cell_below hb ((blk_cell X1.out 2).trans rfl), pw_cell_below hb (pw_cell_below B1.out HCX.out)⟩)
  refine wp_region_held_drew (S := (fun W' => Below w1.heap.size w1 W' ∧ W'.cell? ⟨w.heap.size, 0, none⟩ = some (.int .i64 (b : Int)) ∧ W'.cell? ⟨w.heap.size, 1, none⟩ = some (.slice A1 im.length c1) ∧ W'.cell? ⟨w.heap.size, 2, none⟩ = some (.slice (some ac) cd.length c2) ∧ W'.cell? (ac.add la) = some (.int .i64 x))) (by kernel_rfl) ?_ (fun hHeld => ?_)
  · (try dsimp only); (first | exact HMS.out _ B3.out | exact HMS.out _ (below_drew1 (Below.refl _ _)) | fail)
  refine wpAnyH_take (i := 0) (v := ?_) rfl (by kernel_rfl) (by kernel_rfl) (by kernel_rfl) (fun _ _ _ h => h) (Or.inl ⟨by kernel_rfl, ?_⟩) (by assumption) ?_
  rotate_left 1
  · intro w hSw; (try dsimp only at hSw); go_simp; (try with_reducible rfl)
  (try simp only [Act.put, List.getElem_toArray, List.getElem_cons_zero, List.getElem_cons_succ, List.setIfInBounds_toArray, List.set_cons_zero, List.set_cons_succ])
  refine wpAnyH_take (i := 1) (v := ?_) rfl (by kernel_rfl) (by kernel_rfl) (by kernel_rfl) (fun _ _ _ h => h) (Or.inl ⟨by kernel_rfl, ?_⟩) (by assumption) ?_
  rotate_left 1
  · intro w hSw; (try dsimp only at hSw); go_simp; (try with_reducible rfl)
  (try simp only [Act.put, List.getElem_toArray, List.getElem_cons_zero, List.getElem_cons_succ, List.setIfInBounds_toArray, List.set_cons_zero, List.set_cons_succ])
  refine wpAnyH_take (i := 2) (v := ?_) rfl (by kernel_rfl) (by kernel_rfl) (by kernel_rfl) (fun _ _ _ h => h) (Or.inl ⟨by kernel_rfl, ?_⟩) (by assumption) ?_
  rotate_left 1
  · intro w hSw; (try dsimp only at hSw); go_simp; (try with_reducible rfl)
  (try simp only [Act.put, List.getElem_toArray, List.getElem_cons_zero, List.getElem_cons_succ, List.setIfInBounds_toArray, List.set_cons_zero, List.set_cons_succ])
  refine wpAnyH_take (i := 3) (v := ?_) rfl (by kernel_rfl) (by kernel_rfl) (by kernel_rfl) (fun _ _ _ h => h) (Or.inl ⟨by kernel_rfl, ?_⟩) (by assumption) ?_
  rotate_left 1
  · intro w hSw; (try dsimp only at hSw); go_simp; (try with_reducible rfl)
  (try simp only [Act.put, List.getElem_toArray, List.getElem_cons_zero, List.getElem_cons_succ, List.setIfInBounds_toArray, List.set_cons_zero, List.set_cons_succ])
  refine wpAnyH_ready (rs := [4]) (by kernel_rfl) (by simp) ?_
  refine AllReadyH.cons rfl (fun K hK => ?_) AllReadyH.nil
  rw [if_pos (by kernel_rfl)]
  go_simp
  (go_at_call 59; refine (HLE.out _ (below_drew1 B1.out)).mono ?_; rintro e w3 ⟨rfl, hb3⟩; have B3 := Aside0.mk (below_step (below_drew1 (Below.refl w1.heap.size w1)) hb3); clear hb3)
  (try go_simp)
  refine hK.out _ _ ?_ (fun hHeld => ?_)
  · (try dsimp only); (first | exact HMS.out _ B3.out | exact HMS.out _ (below_drew1 (Below.refl _ _)) | fail)
  clear hK K
  (try simp only [Act.put, List.getElem_toArray, List.getElem_cons_zero, List.getElem_cons_succ, List.setIfInBounds_toArray, List.set_cons_zero, List.set_cons_succ])
  refine wpAnyH_take (i := 5) (v := ?_) rfl (by kernel_rfl) (by kernel_rfl) (by kernel_rfl) (fun _ _ _ h => h) (Or.inl ⟨by kernel_rfl, ?_⟩) (by assumption) ?_
  rotate_left 1
  · intro w hSw; (try dsimp only at hSw); go_simp; (try with_reducible rfl)
  (try simp only [Act.put, List.getElem_toArray, List.getElem_cons_zero, List.getElem_cons_succ, List.setIfInBounds_toArray, List.set_cons_zero, List.set_cons_succ])
  refine wpAnyH_take (i := 6) (v := ?_) rfl (by kernel_rfl) (by kernel_rfl) (by kernel_rfl) (fun _ _ _ h => h) (Or.inl ⟨by kernel_rfl, ?_⟩) (by assumption) ?_
  rotate_left 1
  · intro w hSw; (try dsimp only at hSw); go_simp; (try with_reducible rfl)
  (try simp only [Act.put, List.getElem_toArray, List.getElem_cons_zero, List.getElem_cons_succ, List.setIfInBounds_toArray, List.set_cons_zero, List.set_cons_succ])
  refine wpAnyH_take (i := 7) (v := ?_) rfl (by kernel_rfl) (by kernel_rfl) (by kernel_rfl) (fun _ _ _ h => h) (Or.inl ⟨by kernel_rfl, ?_⟩) (by assumption) ?_
  rotate_left 1
  · intro w hSw; (try dsimp only at hSw); go_simp; (try with_reducible rfl)
  (try simp only [Act.put, List.getElem_toArray, List.getElem_cons_zero, List.getElem_cons_succ, List.setIfInBounds_toArray, List.set_cons_zero, List.set_cons_succ])
  refine wpAnyH_take (i := 8) (v := ?_) rfl (by kernel_rfl) (by kernel_rfl) (by kernel_rfl) (fun _ _ _ h => h) (Or.inl ⟨by kernel_rfl, ?_⟩) (by assumption) ?_
  rotate_left 1
  · intro w hSw; (try dsimp only at hSw); go_simp; (try with_reducible rfl)
  (try simp only [Act.put, List.getElem_toArray, List.getElem_cons_zero, List.getElem_cons_succ, List.setIfInBounds_toArray, List.set_cons_zero, List.set_cons_succ])
  refine wpAnyH_done (by kernel_rfl) ?_ _
  go_wp2
  go_ret2
  exact ⟨rfl, below_step B1.out B3.out⟩
def CtsPost (b : Nat) (im : List (List Int)) (cd : List Int) (n : Nat) (w w' : World) (e : Ending) : Prop := ∃ g c, e = .returned (.tuple #[.slice (some ⟨g, 0, none⟩) 10 c, .int .i64 0]) ∧ Row w' g (fnL 10 (outC b im cd n)) c ∧ Below w.heap.size w w'
theorem ct_er (bi : Int) (im : List (List Int)) (cd : List Int) (A1 A2 : Option Addr) (c1 c2 : Nat) (n : Int) (w : World) (hr1 : Kd.C (Kd.slice 3 (Kd.int .i64)) w A1 im.length im) (hr2 : Kd.C (Kd.int .i64) w A2 cd.length cd) (er : Int) (h : qChk bi im cd = er) (h0 : er ≠ 0) :
    Calls Try.prog 19 #[.agg #[.int .i64 bi, .slice A1 im.length c1, .slice A2 cd.length c2], .int .i64 n] w fun e w' => e = .returned (.tuple #[.slice none 0 0, .int .i64 er]) ∧ Below w.heap.size w w' := by
  have HB0 := Aside0.mk (below_alloc (Below.refl w.heap.size w) (.cells #[.int .i64 bi, .slice A1 im.length c1, .slice A2 cd.length c2] 45))
  have HC := Aside0.mk (qc_calls bi A1 A2 c1 c2 im cd _ (Kd.C_below hr1 HB0.out) (Kd.C_below hr2 HB0.out))
  rw [h] at HC
  have hne : (er != 0) = true := by simpa using h0
  clear hr1 hr2 h
  go_enter Try.func19, Try.ntmps19
  go_wp2_with (first
    | (go_at_call 54
       refine HC.out.mono ?_
       rintro e w1 ⟨rfl, hb1⟩
       have B1 := Aside0.mk (below_step HB0.out hb1)
       clear hb1)
    | fail)
  go_ret2
  exact ⟨rfl, B1.out⟩
set_option maxHeartbeats 4000000 in
set_option maxRecDepth 100000 in
theorem ct_calls (b : Nat) (im : List (List Int)) (cd : List Int) (A1 A2 : Option Addr) (c1 c2 : Nat) (n : Nat) (w : World) (hr1 : Kd.C (Kd.slice 3 (Kd.int .i64)) w A1 im.length im) (hr2 : Kd.C (Kd.int .i64) w A2 cd.length cd) (h : qChk b im cd = 0) (hok : MorOk b im cd) (hn : n ≤ 1000000000000000) :
    Calls Try.prog 19 #[.agg #[.int .i64 (b : Int), .slice A1 im.length c1, .slice A2 cd.length c2], .int .i64 (n : Int)] w fun e w' => CtsPost b im cd n w w' e := by
  have HB0 := Aside0.mk (below_alloc (Below.refl w.heap.size w) (.cells #[.int .i64 (b : Int), .slice A1 im.length c1, .slice A2 cd.length c2] 45))
  have HC := Aside0.mk (qc_calls b A1 A2 c1 c2 im cd _ (Kd.C_below hr1 HB0.out) (Kd.C_below hr2 HB0.out))
  rw [h] at HC
  have HCN := Aside0.mk (fun (W : World) (hb : Below w.heap.size w W) => counts_calls b im cd A1 A2 c1 c2 hok n n W (Nat.le_refl _) (by omega) (Kd.C_below hr1 hb))
  have HR2 := Aside0.mk hr2
  have HOK := Aside0.mk hok
  have hn1 := hok.n1
  have hn4 := hok.n4
  have hnz : (0 : Int) ≤ (n : Int) := by omega
  have hnz' : decide ((n : Int) < 0) = false := decide_eq_false (by omega)
  have hnb : decide (1000000000000000 < (n : Int)) = false := decide_eq_false (by omega)
  clear hr1 hr2 h hok
  go_enter Try.func19, Try.ntmps19
  go_wp2_with (first
    | (go_at_call 54
       refine HC.out.mono ?_
       rintro e w1 ⟨rfl, hb1⟩
       have X1 := Aside0.mk (show w1.heap[w.heap.size]? = some (.cells #[.int .i64 (b : Int), .slice A1 im.length c1, .slice A2 cd.length c2] 45 (0, 0)) from blk_below (blk_new w _) hb1)
       have B1 := Aside0.mk (below_step HB0.out hb1)
       clear hb1)
    | ((with_reducible refine gate_dst (N := 21) rfl ?_)
       refine Kd.R_make (Kd.int .i64) (w0 := w1) w1.heap.size 3 rfl rfl 22 (.const (.int .i64 10)) (.const (.int .i64 10)) rfl 10 rfl rfl Try.underlying22 (.int .i64 0) 8 int3 rfl (by decide) (by decide) (0 : Int) (ok := fun k => w1.heap.size ≤ k) (okp := fun _ => False) rfl (fun _ h => h.elim) (Nat.le_refl _) (by omega) (by decide) (Below.refl _ _) (Nat.le_refl _) ?_
       intro v1 w2 hr1 hb1 hg1 hat1
       obtain ⟨bn, ebn, hbn⟩ := hat1
       obtain ⟨A3, cn, ev⟩ := Kd.R_slice hr1
       subst ev
       obtain ⟨a1, rfl⟩ : ∃ a1, A3 = some a1 := by cases A3 with
         | none => simp [Value.ownBlock] at ebn
         | some a => exact ⟨a, rfl⟩
       obtain ⟨g, rfl, hl1, hrow, hgb, _⟩ := row_of_R hr1
       rw [List.length_replicate]
       rw [show (10 : Int).toNat = 10 from rfl] at hrow ⊢
       rw [← fnL_zero] at hrow
       have R2 := Aside0.mk hrow
       have G2 := Aside0.mk hgb
       have B2 := Aside0.mk (below_step B1.out hb1)
       have X2 := Aside0.mk (blk_below X1.out hb1)
       have k0 : w2.cell? ⟨w.heap.size, 0, none⟩ = some (.int .i64 (b : Int)) := (blk_cell X2.out 0).trans rfl
       have k1 : w2.cell? ⟨w.heap.size, 1, none⟩ = some (.slice A1 im.length c1) := (blk_cell X2.out 1).trans rfl
       have k2 : w2.cell? ⟨w.heap.size, 2, none⟩ = some (.slice A2 cd.length c2) := (blk_cell X2.out 2).trans rfl
       clear hr1 hrow hb1 hg1 hbn ebn hl1 hgb bn)
    | (go_at_call 58
       refine (HCN.out _ B2.out).mono ?_
       rintro e w3 ⟨g3, c3, rfl, hrow3, hg3, hb3⟩
       have R3 := Aside0.mk (R2.out.below hb3)
       have Q3 := Aside0.mk hrow3
       have B3 := Aside0.mk (below_step B2.out hb3)
       have X3 := Aside0.mk (blk_below X2.out hb3)
       have G3 := Aside0.mk (show w.heap.size < g ∧ g < g3 ∧ g3 < w3.heap.size from ⟨by have := G2.out; have := blk_lt X1.out; omega, Nat.lt_of_lt_of_le R2.out.lt hg3, hrow3.lt⟩)
       clear hrow3 hg3 hb3 k0 k1 k2)
    | fail)
  go_loopg [26] im.length (fun gg s26 wr => ∃ a : Nat, a ≤ im.length ∧ im.length - a ≤ gg ∧ s26 = .int .i64 (a : Int) ∧ Aside0 (Row wr g (fnL 10 (accC b im cd n a)) cn) ∧ Aside0 (Turned g w3 wr))
  case atStart => exact ⟨0, Nat.zero_le _, by omega, rfl, R3, ⟨turned_refl _ _⟩⟩
  case round =>
    obtain ⟨a, ha, hgg, rfl, RR, TT⟩ := hrel
    have BW := Aside0.mk (show Below w.heap.size w wr from TT.out.below B3.out (by have := G3.out; omega))
    have XW := Aside0.mk (show wr.heap[w.heap.size]? = some (.cells #[.int .i64 (b : Int), .slice A1 im.length c1, .slice A2 cd.length c2] 45 (0, 0)) from blk_turned X3.out TT.out (by have := G3.out; omega))
    by_cases hlt : a < im.length
    · have hltz : (a : Int) < (im.length : Int) := by omega
      have hlc : a < cd.length := by rw [HOK.out.len]; exact hlt
      have hlcz : (a : Int) < (cd.length : Int) := by omega
      obtain ⟨ac, e0, hx⟩ := int_get (Kd.C_below HR2.out BW.out) rfl hlc
      subst e0
      obtain ⟨u, hu, hu9⟩ := cd_val HOK.out hlt
      have hxv : cd[a] = (u : Int) := by
        rw [← hu, List.getD_eq_getElem?_getD, List.getElem?_eq_getElem hlc]
        rfl
      rw [hxv] at hx
      have k2 : wr.cell? ⟨w.heap.size, 2, none⟩ = some (.slice (some ac) cd.length c2) := (blk_cell XW.out 2).trans rfl
      have kq : wr.cell? ⟨g3, a, none⟩ = some (.int .i64 (cnt b im n a : Int)) := by
        have := (Row.keep Q3.out (TT.out.block g3 (by have := G3.out; omega))).cell (i := a) (by rw [fnL_len]; exact hlt)
        rwa [fnL_at _ hlt] at this
      have HU := Aside0.mk hu
      have HU9 := Aside0.mk (show u < 10 from by omega)
      have kx := RR.out.cell (i := u) (by rw [fnL_len]; exact HU9.out)
      rw [fnL_at _ HU9.out] at kx
      have fx := RR.out.frozen u
      have hle := accC_le HOK.out n u (a := a + 1) (by omega)
      have hle2 : accC b im cd n a u + cnt b im n a ≤ n := by
        have e : accC b im cd n (a + 1) u = accC b im cd n a u + if cd.getD a 0 = (u : Int) then cnt b im n a else 0 := rfl
        rw [e, if_pos hu] at hle
        exact hle
      have HST := Aside0.mk (RR.out.set (i := u) (by rw [fnL_len]; exact HU9.out) ((accC b im cd n a u + cnt b im n a : Nat) : Int))
      rw [fnL_set _ HU9.out, show fnL 10 (fun c => accC b im cd n a c + if c = u then cnt b im n a else 0) = fnL 10 (accC b im cd n (a + 1)) from fnL_congr (fun c _ => by
        show _ = accC b im cd n a c + if cd.getD a 0 = (c : Int) then cnt b im n a else 0
        rw [HU.out]
        by_cases e : c = u
        · subst e; simp
        · have e' : ¬ ((u : Int) = (c : Int)) := by omega
          rw [if_neg e, if_neg e'])] at HST
      generalize accC b im cd n a u = F at kx hle2 HST
      generalize cnt b im n a = K at kq hle2 HST
      have huz : (u : Int) < 10 := by omega
      have hw1 : IntKind.i64.wrap ((F : Int) + (K : Int)) = ((F + K : Nat) : Int) := (IntWalk.i64_in _ (by omega)).trans (by omega)
      clear hle hu hxv hle2
      go_wp2
      go_roundg (im.length - (a + 1))
      case measure => omega
      case rel => exact ⟨a + 1, by omega, by omega, by go_num, HST, ⟨turned_trans TT.out (turned_set wr ⟨g, u, none⟩ _)⟩⟩
    · have hae : a = im.length := by omega
      subst hae
      have RN := Aside0.mk (show Row wr g (fnL 10 (outC b im cd n)) cn from by
        have := RR.out
        rwa [show fnL 10 (accC b im cd n im.length) = fnL 10 (outC b im cd n) from fnL_congr (fun c _ => accC_all HOK.out c n)] at this)
      go_wp2
      go_ret2
      exact ⟨g, cn, rfl, RN.out, BW.out⟩
end Go.Proofs.Ytampgoendkjkhaa.H
