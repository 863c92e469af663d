/- seqs.counts. -/
import Derived.Test.YtampgoendkjkhaaQl
namespace Go.Proofs.Ytampgoendkjkhaa.H
open Go.RowKit Go.Shelf Go.Proofs.YtampgoendkjkhaaW.PrintWords Go.Proofs.YtampgoendkjkhaaW.PrintMore
set_option linter.unusedVariables false
set_option linter.unusedSimpArgs false
/-- a row told by a function -/
def fnL (n : Nat) (f : Nat → Nat) : List Int := (List.range n).map fun c => (f c : Int)
theorem fnL_len (n : Nat) (f : Nat → Nat) : (fnL n f).length = n := by simp [fnL]
theorem fnL_at {n : Nat} (f : Nat → Nat) {c : Nat} (hc : c < n) : (fnL n f).getD c 0 = (f c : Int) := by
  unfold fnL
  rw [List.getD_eq_getElem?_getD, List.getElem?_map, List.getElem?_range hc]
  rfl
theorem fnL_set {n : Nat} (f : Nat → Nat) {x : Nat} (hx : x < n) (k : Nat) : (fnL n f).set x ((f x + k : Nat) : Int) = fnL n (fun c => f c + if c = x then k else 0) := by
  apply List.ext_getElem?
  intro j
  rw [List.getElem?_set]
  unfold fnL
  rw [List.getElem?_map, List.getElem?_map, List.length_map, List.length_range]
  by_cases h : j < n
  · rw [List.getElem?_range h]
    by_cases e : x = j
    · subst e; simp [h]
    · rw [if_neg e]
      have e' : ¬ j = x := fun h => e h.symm
      simp [e']
  · rw [List.getElem?_eq_none (by simpa using h)]
    by_cases e : x = j
    · omega
    · rw [if_neg e]; rfl
theorem fnL_congr {n : Nat} {f g : Nat → Nat} (h : ∀ c, c < n → f c = g c) : fnL n f = fnL n g := by
  unfold fnL
  refine List.map_congr_left fun c hc => ?_
  rw [h c (List.mem_range.1 hc)]
theorem fnL_zero (n : Nat) : fnL n (fun _ => 0) = List.replicate n 0 := by
  unfold fnL
  rw [List.map_const', List.length_range]
  rfl
/-- so far in the inner loop -/
def accD (b : Nat) (im : List (List Int)) (q a d c : Nat) : Nat := accA b im q a c + cnt b im q a * ((im.getD a []).take d).countP fun x => x == (c : Int)
theorem accD_zero (b : Nat) (im : List (List Int)) (q a c : Nat) : accD b im q a 0 c = accA b im q a c := by simp [accD]
theorem accD_next {b : Nat} {im : List (List Int)} {cd : List Int} (h : MorOk b im cd) (q : Nat) {a d : Nat} (ha : a < im.length) (hd : d < b) (c : Nat) : accD b im q a (d + 1) c = accD b im q a d c + if c = imN im a d then cnt b im q a else 0 := by
  obtain ⟨_, h2⟩ := im_row h ha
  have hv := im_val h ha hd
  unfold accD
  rw [List.take_succ_eq_append_getElem (by omega), List.countP_append, List.countP_singleton]
  have e : (im.getD a [])[d]'(by omega) = (imN im a d : Int) := by
    rw [← hv.1, List.getD_eq_getElem?_getD (l := im.getD a []), List.getElem?_eq_getElem (by omega)]
    rfl
  rw [e]
  by_cases hc : c = imN im a d
  · subst hc
    simp [Nat.mul_add]
    omega
  · have : ¬ ((imN im a d : Int) = (c : Int)) := by omega
    simp [hc, this]
theorem accD_all {b : Nat} {im : List (List Int)} {cd : List Int} (h : MorOk b im cd) (q : Nat) {a : Nat} (ha : a < im.length) (c : Nat) : accD b im q a b c = accA b im q (a + 1) c := by
  obtain ⟨_, h2⟩ := im_row h ha
  unfold accD
  rw [List.take_of_length_le (by omega)]
  rfl
theorem acc_mono (b : Nat) (im : List (List Int)) (q c : Nat) : ∀ d a, accA b im q a c ≤ accA b im q (a + d) c
  | 0, a => Nat.le_refl _
  | d + 1, a => Nat.le_trans (acc_mono b im q c d a) (show accA b im q (a + d) c ≤ accA b im q (a + d + 1) c from Nat.le_add_right _ _)
theorem accD_le {b : Nat} {im : List (List Int)} {cd : List Int} (h : MorOk b im cd) (q : Nat) {a d : Nat} (ha : a < im.length) (c : Nat) : accD b im q a d c ≤ q * b := by
  have h1 : accD b im q a d c ≤ accD b im q a b c := by
    obtain ⟨_, h2⟩ := im_row h ha
    unfold accD
    refine Nat.add_le_add_left (Nat.mul_le_mul_left _ ?_) _
    rw [List.take_of_length_le (show (im.getD a []).length ≤ b by omega)]
    exact List.Sublist.countP_le (List.take_sublist _ _)
  rw [accD_all h q ha] at h1
  have h2 := acc_mono b im q c (im.length - (a + 1)) (a + 1)
  rw [show a + 1 + (im.length - (a + 1)) = im.length from by omega, acc_all h] at h2
  exact Nat.le_trans h1 (Nat.le_trans h2 (cnt_le b im _ _))
theorem cnt_one {b : Nat} {im : List (List Int)} (c : Nat) : cnt b im 1 c = 0 + if c = 0 then 1 else 0 := by
  have := cnt_succ b im 0 c
  rw [let_zero] at this
  rw [this]
  have e : (0 = c) = (c = 0) := propext ⟨fun h => h.symm, fun h => h.symm⟩
  simp only [e]
  rfl
def CntPost (b : Nat) (im : List (List Int)) (n : Nat) (w w' : World) (e : Ending) : Prop := ∃ g c, e = .returned (.slice (some ⟨g, 0, none⟩) im.length c) ∧ Row w' g (fnL im.length (cnt b im n)) c ∧ w.heap.size ≤ g ∧ Below w.heap.size w w'
set_option maxHeartbeats 8000000 in
set_option maxRecDepth 100000 in
theorem counts_calls (b : Nat) (im : List (List Int)) (cd : List Int) (A1 A2 : Option Addr) (c1 c2 : Nat) (hok : MorOk b im cd) : ∀ (k n : Nat) (w : World), n ≤ k → n ≤ 2000000000000000 → Kd.C (Kd.slice 3 (Kd.int .i64)) w A1 im.length im →
    Calls Try.prog 58 #[.agg #[.int .i64 (b : Int), .slice A1 im.length c1, .slice A2 cd.length c2], .int .i64 (n : Int)] w fun e w' => CntPost b im n w w' e := by
  intro k
  induction k with
  | zero =>
    intro n w hk hbig hr
    obtain rfl : n = 0 := by omega
    have hn4 := hok.n4
    have hn1 := hok.n1
    have k1 : w.heap.size = w.heap.size := rfl
    clear hr
    go_enter Try.func58, Try.ntmps58
    go_wp2_with (first | ((with_reducible refine gate_dst (N := 14) rfl ?_); obtain ⟨W1, hW1⟩ : ∃ W1, W1 = w.alloc (.cells #[.int .i64 (b : Int), .slice A1 im.length c1, .slice A2 cd.length c2] 45) := ⟨_, rfl⟩; have X1 := Aside0.mk (show W1.heap[w.heap.size]? = some (.cells #[.int .i64 (b : Int), .slice A1 im.length c1, .slice A2 cd.length c2] 45 (0, 0)) from by rw [hW1]; exact blk_new w _); have B1 := Aside0.mk (show Below w.heap.size w W1 from by rw [hW1]; exact below_alloc (Below.refl _ _) _); have Z1 := Aside0.mk (show W1.heap.size = w.heap.size + 1 from by rw [hW1]; simp); rw [← hW1]; clear hW1; refine Kd.R_make (Kd.int .i64) (w0 := W1) W1.heap.size 3 rfl rfl 22 (.tmp 13) (.tmp 13) rfl (im.length : Int) rfl rfl Try.underlying22 (.int .i64 0) 8 int3 rfl (by decide) (by decide) (0 : Int) (ok := fun k => W1.heap.size ≤ k) (okp := fun _ => False) rfl (fun _ h => h.elim) (Nat.le_refl _) (by omega) (by omega) (Below.refl _ _) (Nat.le_refl _) ?_; intro v1 w2 hr1 hb1 hg1 hat1; rw [Int.toNat_natCast] at hr1; obtain ⟨bn, ebn, hbn⟩ := hat1; obtain ⟨A3, cn, ev⟩ := Kd.R_slice hr1; subst ev; obtain ⟨a1, rfl⟩ : ∃ a1, A3 = some a1 := (by cases A3 with | none => simp [Value.ownBlock] at ebn | some a => exact ⟨a, rfl⟩); obtain ⟨g, rfl, hl1, hrow, hgb, _⟩ := row_of_R hr1; rw [List.length_replicate]; rw [← fnL_zero] at hrow; have R2 := Aside0.mk hrow; have G2 := Aside0.mk hgb; have B2 := Aside0.mk (below_step B1.out hb1); have X2 := Aside0.mk (blk_below X1.out hb1); clear hr1 hrow hb1 hg1 hbn ebn hl1 hgb bn) | fail)
    go_ret
    exact ⟨g, cn, rfl, R2.out, by have := G2.out; have := Z1.out; omega, B2.out⟩
  | succ k ih =>
    intro n w hk hbig hr
    have hn4 := hok.n4
    have hn1 := hok.n1
    have hn1z : (0 : Int) < (im.length : Int) := by omega
    by_cases hn : n = 0
    · subst hn
      clear hr ih
      go_enter Try.func58, Try.ntmps58
      go_wp2_with (first | ((with_reducible refine gate_dst (N := 14) rfl ?_); obtain ⟨W1, hW1⟩ : ∃ W1, W1 = w.alloc (.cells #[.int .i64 (b : Int), .slice A1 im.length c1, .slice A2 cd.length c2] 45) := ⟨_, rfl⟩; have X1 := Aside0.mk (show W1.heap[w.heap.size]? = some (.cells #[.int .i64 (b : Int), .slice A1 im.length c1, .slice A2 cd.length c2] 45 (0, 0)) from by rw [hW1]; exact blk_new w _); have B1 := Aside0.mk (show Below w.heap.size w W1 from by rw [hW1]; exact below_alloc (Below.refl _ _) _); have Z1 := Aside0.mk (show W1.heap.size = w.heap.size + 1 from by rw [hW1]; simp); rw [← hW1]; clear hW1; refine Kd.R_make (Kd.int .i64) (w0 := W1) W1.heap.size 3 rfl rfl 22 (.tmp 13) (.tmp 13) rfl (im.length : Int) rfl rfl Try.underlying22 (.int .i64 0) 8 int3 rfl (by decide) (by decide) (0 : Int) (ok := fun k => W1.heap.size ≤ k) (okp := fun _ => False) rfl (fun _ h => h.elim) (Nat.le_refl _) (by omega) (by omega) (Below.refl _ _) (Nat.le_refl _) ?_; intro v1 w2 hr1 hb1 hg1 hat1; rw [Int.toNat_natCast] at hr1; obtain ⟨bn, ebn, hbn⟩ := hat1; obtain ⟨A3, cn, ev⟩ := Kd.R_slice hr1; subst ev; obtain ⟨a1, rfl⟩ : ∃ a1, A3 = some a1 := (by cases A3 with | none => simp [Value.ownBlock] at ebn | some a => exact ⟨a, rfl⟩); obtain ⟨g, rfl, hl1, hrow, hgb, _⟩ := row_of_R hr1; rw [List.length_replicate]; rw [← fnL_zero] at hrow; have R2 := Aside0.mk hrow; have G2 := Aside0.mk hgb; have B2 := Aside0.mk (below_step B1.out hb1); have X2 := Aside0.mk (blk_below X1.out hb1); clear hr1 hrow hb1 hg1 hbn ebn hl1 hgb bn) | fail)
      go_ret
      exact ⟨g, cn, rfl, R2.out, by have := G2.out; have := Z1.out; omega, B2.out⟩
    · by_cases h1 : n = 1
      · subst h1
        clear hr ih
        go_enter Try.func58, Try.ntmps58
        go_wp2_with (first | (((with_reducible refine gate_dst (N := 14) rfl ?_); obtain ⟨W1, hW1⟩ : ∃ W1, W1 = w.alloc (.cells #[.int .i64 (b : Int), .slice A1 im.length c1, .slice A2 cd.length c2] 45) := ⟨_, rfl⟩; have X1 := Aside0.mk (show W1.heap[w.heap.size]? = some (.cells #[.int .i64 (b : Int), .slice A1 im.length c1, .slice A2 cd.length c2] 45 (0, 0)) from by rw [hW1]; exact blk_new w _); have B1 := Aside0.mk (show Below w.heap.size w W1 from by rw [hW1]; exact below_alloc (Below.refl _ _) _); have Z1 := Aside0.mk (show W1.heap.size = w.heap.size + 1 from by rw [hW1]; simp); rw [← hW1]; clear hW1; refine Kd.R_make (Kd.int .i64) (w0 := W1) W1.heap.size 3 rfl rfl 22 (.tmp 13) (.tmp 13) rfl (im.length : Int) rfl rfl Try.underlying22 (.int .i64 0) 8 int3 rfl (by decide) (by decide) (0 : Int) (ok := fun k => W1.heap.size ≤ k) (okp := fun _ => False) rfl (fun _ h => h.elim) (Nat.le_refl _) (by omega) (by omega) (Below.refl _ _) (Nat.le_refl _) ?_; intro v1 w2 hr1 hb1 hg1 hat1; rw [Int.toNat_natCast] at hr1; obtain ⟨bn, ebn, hbn⟩ := hat1; obtain ⟨A3, cn, ev⟩ := Kd.R_slice hr1; subst ev; obtain ⟨a1, rfl⟩ : ∃ a1, A3 = some a1 := (by cases A3 with | none => simp [Value.ownBlock] at ebn | some a => exact ⟨a, rfl⟩); obtain ⟨g, rfl, hl1, hrow, hgb, _⟩ := row_of_R hr1; rw [List.length_replicate]; rw [← fnL_zero] at hrow; have R2 := Aside0.mk hrow; have G2 := Aside0.mk hgb; have B2 := Aside0.mk (below_step B1.out hb1); have X2 := Aside0.mk (blk_below X1.out hb1); clear hr1 hrow hb1 hg1 hbn ebn hl1 hgb bn); have c0 := R2.out.cell (i := 0) (by rw [fnL_len]; exact hn1); have f0 := R2.out.frozen 0) | fail)
        go_ret
        exact ⟨g, cn, rfl, by
          rw [show fnL im.length (cnt b im 1) = fnL im.length (fun c => 0 + if c = 0 then 1 else 0) from fnL_congr (fun c _ => cnt_one c), ← fnL_set (fun _ => 0) hn1 1]
          exact R2.out.set (by rw [fnL_len]; exact hn1) _, by have := G2.out; have := Z1.out; omega, below_set B2.out (by have := G2.out; have := Z1.out; show w.heap.size ≤ g; omega)⟩
      · have hb2 := hok.b2
        have hb4 := hok.b4
        have hqk : n / b ≤ k := by have := Nat.div_lt_self (show 0 < n by omega) (show 1 < b by omega); omega
        have hqb : n / b ≤ 2000000000000000 := Nat.le_trans (Nat.div_le_self _ _) hbig
        have hmn : n / b * b ≤ n := Nat.div_mul_le_self n b
        have HIH := Aside0.mk (fun (W : World) (hb : Below w.heap.size w W) => ih (n / b) W hqk hqb (Kd.C_below hr hb))
        have hd1 : ((n : Int) / (b : Int)) = ((n / b : Nat) : Int) := rfl
        have HR := Aside0.mk hr
        have HOK := Aside0.mk hok
        clear ih hr
        generalize n / b = q at hqk hqb hmn HIH hd1
        have hbn' : ¬ b = 0 := by omega
        have hnz : (0 : Int) ≤ (n : Int) := by omega
        have hnb : (n : Int) ≤ 9223372036854775807 := by omega
        have hbz : (1 : Int) ≤ (b : Int) := by omega
        have hn0 : ((n : Int) == 0) = false := by simp; omega
        have hn1' : ((n : Int) == 1) = false := by simp; omega
        have hn0' : ¬ n = 0 := hn
        have hn1'' : ¬ n = 1 := h1
        have hq1 : IntKind.i64.wrap (q : Int) = (q : Int) := IntWalk.i64_in _ (by omega)
        obtain ⟨m, hm⟩ : ∃ m, q * b = m := ⟨_, rfl⟩
        have hmul1 : (q : Int) * (b : Int) = (m : Int) := by rw [← hm]; exact (Int.natCast_mul q b).symm
        rw [hm] at hmn
        have hm1 : IntKind.i64.wrap (m : Int) = (m : Int) := IntWalk.i64_in _ (by omega)
        have HM := Aside0.mk hm
        clear hm hqk
        go_enter Try.func58, Try.ntmps58
        go_wp2_with (first | ((with_reducible refine gate_dst (N := 14) rfl ?_); obtain ⟨W1, hW1⟩ : ∃ W1, W1 = w.alloc (.cells #[.int .i64 (b : Int), .slice A1 im.length c1, .slice A2 cd.length c2] 45) := ⟨_, rfl⟩; have X1 := Aside0.mk (show W1.heap[w.heap.size]? = some (.cells #[.int .i64 (b : Int), .slice A1 im.length c1, .slice A2 cd.length c2] 45 (0, 0)) from by rw [hW1]; exact blk_new w _); have B1 := Aside0.mk (show Below w.heap.size w W1 from by rw [hW1]; exact below_alloc (Below.refl _ _) _); have Z1 := Aside0.mk (show W1.heap.size = w.heap.size + 1 from by rw [hW1]; simp); rw [← hW1]; clear hW1; refine Kd.R_make (Kd.int .i64) (w0 := W1) W1.heap.size 3 rfl rfl 22 (.tmp 13) (.tmp 13) rfl (im.length : Int) rfl rfl Try.underlying22 (.int .i64 0) 8 int3 rfl (by decide) (by decide) (0 : Int) (ok := fun k => W1.heap.size ≤ k) (okp := fun _ => False) rfl (fun _ h => h.elim) (Nat.le_refl _) (by omega) (by omega) (Below.refl _ _) (Nat.le_refl _) ?_; intro v1 w2 hr1 hb1 hg1 hat1; rw [Int.toNat_natCast] at hr1; obtain ⟨bn, ebn, hbn⟩ := hat1; obtain ⟨A3, cn, ev⟩ := Kd.R_slice hr1; subst ev; obtain ⟨a1, rfl⟩ : ∃ a1, A3 = some a1 := (by cases A3 with | none => simp [Value.ownBlock] at ebn | some a => exact ⟨a, rfl⟩); obtain ⟨g, rfl, hl1, hrow, hgb, _⟩ := row_of_R hr1; rw [List.length_replicate]; rw [← fnL_zero] at hrow; have R2 := Aside0.mk hrow; have G2 := Aside0.mk hgb; have B2 := Aside0.mk (below_step B1.out hb1); have X2 := Aside0.mk (blk_below X1.out hb1); clear hr1 hrow hb1 hg1 hbn ebn hl1 hgb bn) | fail)
        have HMS := Aside0.mk (show ∀ W', Below w2.heap.size w2 W' → (fun W' => Below w2.heap.size w2 W' ∧ W'.cell? ⟨w.heap.size, 0, none⟩ = some (.int .i64 (b : Int)) ∧ W'.cell? ⟨w.heap.size, 1, none⟩ = some (.slice A1 im.length c1) ∧ W'.cell? ⟨w.heap.size, 2, none⟩ = some (.slice A2 cd.length c2)) W' from fun W' hb => ⟨hb, pw_cell_below hb ((blk_cell X2.out 0).trans rfl), pw_cell_below hb ((blk_cell X2.out 1).trans rfl), pw_cell_below hb ((blk_cell X2.out 2).trans rfl)⟩)
        refine wp_region_held_drew (S := (fun W' => Below w2.heap.size w2 W' ∧ W'.cell? ⟨w.heap.size, 0, none⟩ = some (.int .i64 (b : Int)) ∧ W'.cell? ⟨w.heap.size, 1, none⟩ = some (.slice A1 im.length c1) ∧ W'.cell? ⟨w.heap.size, 2, none⟩ = some (.slice A2 cd.length c2))) (by kernel_rfl) ?_ (fun hHeld => ?_)
        · (try dsimp only); (first | exact HMS.out _ B23.out | exact HMS.out _ (below_drew1 (Below.refl _ _)) | fail)
        refine wpAnyH_take (i := 0) (v := ?_) rfl (by kernel_rfl) (by kernel_rfl) (by kernel_rfl) (fun _ _ _ h => h) (Or.inl ⟨by kernel_rfl, ?_⟩) (by assumption) ?_
        rotate_left 1
        · intro w hSw; (try dsimp only at hSw); go_simp; (try with_reducible rfl)
        (try simp only [Act.put, List.getElem_toArray, List.getElem_cons_zero, List.getElem_cons_succ, List.setIfInBounds_toArray, List.set_cons_zero, List.set_cons_succ])
        refine wpAnyH_take (i := 1) (v := ?_) rfl (by kernel_rfl) (by kernel_rfl) (by kernel_rfl) (fun _ _ _ h => h) (Or.inl ⟨by kernel_rfl, ?_⟩) (by assumption) ?_
        rotate_left 1
        · intro w hSw; (try dsimp only at hSw); go_simp; (try with_reducible rfl)
        (try simp only [Act.put, List.getElem_toArray, List.getElem_cons_zero, List.getElem_cons_succ, List.setIfInBounds_toArray, List.set_cons_zero, List.set_cons_succ])
        refine wpAnyH_take (i := 2) (v := ?_) rfl (by kernel_rfl) (by kernel_rfl) (by kernel_rfl) (fun _ _ _ h => h) (Or.inl ⟨by kernel_rfl, ?_⟩) (by assumption) ?_
        rotate_left 1
        · intro w hSw; (try dsimp only at hSw); go_simp; (try with_reducible rfl)
        (try simp only [Act.put, List.getElem_toArray, List.getElem_cons_zero, List.getElem_cons_succ, List.setIfInBounds_toArray, List.set_cons_zero, List.set_cons_succ])
        refine wpAnyH_take (i := 3) (v := ?_) rfl (by kernel_rfl) (by kernel_rfl) (by kernel_rfl) (fun _ _ _ h => h) (Or.inl ⟨by kernel_rfl, ?_⟩) (by assumption) ?_
        rotate_left 1
        · intro w hSw; (try dsimp only at hSw); go_simp; (try with_reducible rfl)
        (try simp only [Act.put, List.getElem_toArray, List.getElem_cons_zero, List.getElem_cons_succ, List.setIfInBounds_toArray, List.set_cons_zero, List.set_cons_succ])
        refine wpAnyH_take (i := 4) (v := ?_) rfl (by kernel_rfl) (by kernel_rfl) (by kernel_rfl) (fun _ _ _ h => h) (Or.inl ⟨by kernel_rfl, ?_⟩) (by assumption) ?_
        rotate_left 1
        · intro w hSw; (try dsimp only at hSw); go_simp; (try with_reducible rfl)
        (try simp only [Act.put, List.getElem_toArray, List.getElem_cons_zero, List.getElem_cons_succ, List.setIfInBounds_toArray, List.set_cons_zero, List.set_cons_succ])
        refine wpAnyH_take (i := 7) (v := ?_) rfl (by kernel_rfl) (by kernel_rfl) (by kernel_rfl) (fun _ _ _ h => h) (Or.inl ⟨by kernel_rfl, ?_⟩) (by assumption) ?_
        rotate_left 1
        · intro w hSw; (try dsimp only at hSw); go_simp; (try with_reducible rfl)
        (try simp only [Act.put, List.getElem_toArray, List.getElem_cons_zero, List.getElem_cons_succ, List.setIfInBounds_toArray, List.set_cons_zero, List.set_cons_succ])
        refine wpAnyH_ready (rs := [5]) (by kernel_rfl) (by simp) ?_
        refine AllReadyH.cons rfl (fun K hK => ?_) AllReadyH.nil
        rw [if_pos (by kernel_rfl)]
        go_simp
        (go_at_call 58; refine (HIH.out _ (below_drew1 B2.out)).mono ?_; rintro e w3 ⟨g3, c3, rfl, hrow3, hg3, hb3⟩; have hb23 := below_step (below_drew1 (Below.refl w2.heap.size w2)) hb3; have B23 := Aside0.mk hb23; have R3 := Aside0.mk (R2.out.below hb23); have Q3 := Aside0.mk hrow3; have B3 := Aside0.mk (below_step B2.out hb23); have X3 := Aside0.mk (blk_below X2.out hb23); have G3 := Aside0.mk (show w.heap.size < g ∧ g < g3 ∧ g3 < w3.heap.size from ⟨by have := G2.out; have := Z1.out; omega, Nat.lt_of_lt_of_le R2.out.lt hg3, hrow3.lt⟩); clear hrow3 hg3 hb3 hb23)
        (try go_simp)
        refine hK.out _ _ ?_ (fun hHeld => ?_)
        · (try dsimp only); (first | exact HMS.out _ B23.out | exact HMS.out _ (below_drew1 (Below.refl _ _)) | fail)
        clear hK K
        (try simp only [Act.put, List.getElem_toArray, List.getElem_cons_zero, List.getElem_cons_succ, List.setIfInBounds_toArray, List.set_cons_zero, List.set_cons_succ])
        refine wpAnyH_take (i := 6) (v := ?_) rfl (by kernel_rfl) (by kernel_rfl) (by kernel_rfl) (fun _ _ _ h => h) (Or.inl ⟨by kernel_rfl, ?_⟩) (by assumption) ?_
        rotate_left 1
        · intro w hSw; (try dsimp only at hSw); go_simp; (try with_reducible rfl)
        (try simp only [Act.put, List.getElem_toArray, List.getElem_cons_zero, List.getElem_cons_succ, List.setIfInBounds_toArray, List.set_cons_zero, List.set_cons_succ])
        refine wpAnyH_done (by kernel_rfl) ?_ _
        go_wp2_with (fail)
        clear HMS B23
        go_loopg [30] im.length (fun gg s30 wr => ∃ a : Nat, a ≤ im.length ∧ im.length - a ≤ gg ∧ s30 = .int .i64 (a : Int) ∧ Aside0 (Row wr g (fnL im.length (accA b im q a)) cn) ∧ Aside0 (Turned g w3 wr))
        case atStart => exact ⟨0, Nat.zero_le _, by omega, rfl, R3, ⟨turned_refl _ _⟩⟩
        case round =>
          obtain ⟨a, ha, hgg, rfl, RR, TT⟩ := hrel
          have BW := Aside0.mk (show Below w.heap.size w wr from TT.out.below B3.out (by have := G3.out; omega))
          have XW := Aside0.mk (show wr.heap[w.heap.size]? = some (.cells #[.int .i64 (b : Int), .slice A1 im.length c1, .slice A2 cd.length c2] 45 (0, 0)) from blk_turned X3.out TT.out (by have := G3.out; omega))
          by_cases hlt : a < im.length
          · have hltz : (a : Int) < (im.length : Int) := by omega
            obtain ⟨ad, Ar, cr, e0, hcr, hrow, hcell⟩ := row_get HR.out rfl hlt
            subst e0
            replace hcell := pw_cell_below BW.out hcell
            have hir := im_row HOK.out hlt
            have hg : im.getD a [] = im[a] := by rw [List.getD_eq_getElem?_getD, List.getElem?_eq_getElem hlt]; rfl
            rw [hg] at hir
            rw [hir.2] at hcell hrow
            have HCC := Aside0.mk hrow
            have HIM := Aside0.mk (And.intro hg hir.2)
            have k1 : wr.cell? ⟨w.heap.size, 1, none⟩ = some (.slice (some ad) im.length c1) := (blk_cell XW.out 1).trans rfl
            have kq : wr.cell? ⟨g3, a, none⟩ = some (.int .i64 (cnt b im q a : Int)) := by
              have := (Row.keep Q3.out (TT.out.block g3 (by have := G3.out; omega))).cell (i := a) (by rw [fnL_len]; exact hlt)
              rwa [fnL_at _ hlt] at this
            have HCQ := Aside0.mk (cnt_le b im q a)
            obtain ⟨K, hK⟩ : ∃ K, cnt b im q a = K := ⟨_, rfl⟩
            rw [hK] at kq HCQ
            have HK := Aside0.mk hK
            clear hK hrow hir hg hcr
            go_wp2_with (fail)
            obtain ⟨wo, hwo⟩ : ∃ wo, wo = wr := ⟨_, rfl⟩
            subst hwo
            have RD := Aside0.mk (show Row wo g (fnL im.length (accD b im q a 0)) cn from by rw [show fnL im.length (accD b im q a 0) = fnL im.length (accA b im q a) from fnL_congr (fun c _ => accD_zero b im q a c)]; exact RR.out)
            clear k1 kq hcell
            go_loopg [41] b (fun gg s41 wr => ∃ d : Nat, d ≤ b ∧ b - d ≤ gg ∧ s41 = .int .i64 (d : Int) ∧ Aside0 (Row wr g (fnL im.length (accD b im q a d)) cn) ∧ Aside0 (Turned g w3 wr))
            case atStart => exact ⟨0, Nat.zero_le _, by omega, rfl, RD, TT⟩
            case round =>
              clear RD
              obtain ⟨d, hd, hgd, rfl, RD, TD⟩ := hrel
              by_cases hltd : d < b
              · have hltdz : (d : Int) < (b : Int) := by omega
                have BD := Aside0.mk (show Below w.heap.size w wr from TD.out.below B3.out (by have := G3.out; omega))
                obtain ⟨ar, e1, hx⟩ := int_get (Kd.C_below HCC.out BD.out) HIM.out.2.symm (i := d) (by rw [HIM.out.2]; exact hltd)
                subst e1
                have hv := im_val HOK.out hlt hltd
                have hxv : im[a][d]'(by rw [HIM.out.2]; exact hltd) = (imN im a d : Int) := by
                  have h1 := hv.1
                  have h2 : (im.getD a []).getD d 0 = im[a].getD d 0 := by rw [HIM.out.1]
                  rw [h2, List.getD_eq_getElem?_getD, List.getElem?_eq_getElem (by rw [HIM.out.2]; exact hltd)] at h1
                  exact h1
                rw [hxv] at hx
                have HNX := Aside0.mk (fun c => accD_next HOK.out q hlt hltd c)
                have hle := accD_le HOK.out q (d := d + 1) hlt (imN im a d)
                rw [accD_next HOK.out q hlt hltd, if_pos rfl, HK.out, HM.out] at hle
                have HXL := Aside0.mk hv.2
                clear hv hxv
                generalize imN im a d = x at hx HNX hle HXL
                have kx := RD.out.cell (i := x) (by rw [fnL_len]; exact HXL.out)
                rw [fnL_at _ HXL.out] at kx
                have fx := RD.out.frozen x
                have HST := Aside0.mk (RD.out.set (i := x) (by rw [fnL_len]; exact HXL.out) ((accD b im q a d x + K : Nat) : Int))
                rw [fnL_set _ HXL.out, show fnL im.length (fun c => accD b im q a d c + if c = x then K else 0) = fnL im.length (accD b im q a (d + 1)) from fnL_congr (fun c _ => by rw [HNX.out c, HK.out])] at HST
                generalize accD b im q a d x = F at kx hle HST
                have hxz : (x : Int) < (im.length : Int) := by have := HXL.out; omega
                have hw1 : IntKind.i64.wrap ((F : Int) + (K : Int)) = ((F + K : Nat) : Int) := (IntWalk.i64_in _ (by omega)).trans (by omega)
                clear hle
                go_wp2_with (fail)
                go_roundg (b - (d + 1))
                case measure => omega
                case rel => exact ⟨d + 1, by omega, by omega, by go_num, HST, ⟨turned_trans TD.out (turned_set wr ⟨g, x, none⟩ _)⟩⟩
              · have hde : d = b := by omega
                have RN := Aside0.mk (show Row wr g (fnL im.length (accA b im q (a + 1))) cn from by
                  have := RD.out
                  rw [hde] at this
                  rwa [show fnL im.length (accD b im q a b) = fnL im.length (accA b im q (a + 1)) from fnL_congr (fun c _ => accD_all HOK.out q hlt c)] at this)
                go_wp2_with (fail)
                go_roundg (im.length - (a + 1))
                case measure => omega
                case rel => exact ⟨a + 1, by omega, by omega, by go_num, RN, TD⟩
          · have hae : a = im.length := by omega
            subst hae
            have RN := Aside0.mk (show Row wr g (fnL im.length (cnt b im m)) cn from by
              have := RR.out
              rwa [show fnL im.length (accA b im q im.length) = fnL im.length (cnt b im m) from fnL_congr (fun c _ => by rw [acc_all HOK.out, HM.out])] at this)
            have k0 : wr.cell? ⟨w.heap.size, 0, none⟩ = some (.int .i64 (b : Int)) := (blk_cell XW.out 0).trans rfl
            go_wp2_with (fail)
            refine wp_region_held_drew (S := (fun W' => W'.cell? ⟨w.heap.size, 0, none⟩ = some (.int .i64 (b : Int)))) (by kernel_rfl) ?_ (fun hHeld => ?_)
            · (try dsimp only); exact k0
            refine wpAnyH_take (i := 0) (v := ?_) rfl (by kernel_rfl) (by kernel_rfl) (by kernel_rfl) (fun _ _ _ h => h) (Or.inl ⟨by kernel_rfl, ?_⟩) (by assumption) ?_
            rotate_left 1
            · intro w hSw; (try dsimp only at hSw); go_simp; (try with_reducible rfl)
            (try simp only [Act.put, List.getElem_toArray, List.getElem_cons_zero, List.getElem_cons_succ, List.setIfInBounds_toArray, List.set_cons_zero, List.set_cons_succ])
            refine wpAnyH_take (i := 1) (v := ?_) rfl (by kernel_rfl) (by kernel_rfl) (by kernel_rfl) (fun _ _ _ h => h) (Or.inl ⟨by kernel_rfl, ?_⟩) (by assumption) ?_
            rotate_left 1
            · intro w hSw; (try dsimp only at hSw); go_simp; (try with_reducible rfl)
            (try simp only [Act.put, List.getElem_toArray, List.getElem_cons_zero, List.getElem_cons_succ, List.setIfInBounds_toArray, List.set_cons_zero, List.set_cons_succ])
            refine wpAnyH_take (i := 2) (v := ?_) rfl (by kernel_rfl) (by kernel_rfl) (by kernel_rfl) (fun _ _ _ h => h) (Or.inl ⟨by kernel_rfl, ?_⟩) (by assumption) ?_
            rotate_left 1
            · intro w hSw; (try dsimp only at hSw); go_simp; (try with_reducible rfl)
            (try simp only [Act.put, List.getElem_toArray, List.getElem_cons_zero, List.getElem_cons_succ, List.setIfInBounds_toArray, List.set_cons_zero, List.set_cons_succ])
            refine wpAnyH_take (i := 3) (v := ?_) rfl (by kernel_rfl) (by kernel_rfl) (by kernel_rfl) (fun _ _ _ h => h) (Or.inl ⟨by kernel_rfl, ?_⟩) (by assumption) ?_
            rotate_left 1
            · intro w hSw; (try dsimp only at hSw); go_simp; (try with_reducible rfl)
            (try simp only [Act.put, List.getElem_toArray, List.getElem_cons_zero, List.getElem_cons_succ, List.setIfInBounds_toArray, List.set_cons_zero, List.set_cons_succ])
            refine wpAnyH_take (i := 4) (v := ?_) rfl (by kernel_rfl) (by kernel_rfl) (by kernel_rfl) (fun _ _ _ h => h) (Or.inl ⟨by kernel_rfl, ?_⟩) (by assumption) ?_
            rotate_left 1
            · intro w hSw; (try dsimp only at hSw); go_simp; (try with_reducible rfl)
            (try simp only [Act.put, List.getElem_toArray, List.getElem_cons_zero, List.getElem_cons_succ, List.setIfInBounds_toArray, List.set_cons_zero, List.set_cons_succ])
            refine wpAnyH_take (i := 5) (v := ?_) rfl (by kernel_rfl) (by kernel_rfl) (by kernel_rfl) (fun _ _ _ h => h) (Or.inl ⟨by kernel_rfl, ?_⟩) (by assumption) ?_
            rotate_left 1
            · intro w hSw; (try dsimp only at hSw); go_simp; (try with_reducible rfl)
            (try simp only [Act.put, List.getElem_toArray, List.getElem_cons_zero, List.getElem_cons_succ, List.setIfInBounds_toArray, List.set_cons_zero, List.set_cons_succ])
            refine wpAnyH_take (i := 6) (v := ?_) rfl (by kernel_rfl) (by kernel_rfl) (by kernel_rfl) (fun _ _ _ h => h) (Or.inl ⟨by kernel_rfl, ?_⟩) (by assumption) ?_
            rotate_left 1
            · intro w hSw; (try dsimp only at hSw); go_simp; (try with_reducible rfl)
            (try simp only [Act.put, List.getElem_toArray, List.getElem_cons_zero, List.getElem_cons_succ, List.setIfInBounds_toArray, List.set_cons_zero, List.set_cons_succ])
            refine wpAnyH_take (i := 7) (v := ?_) rfl (by kernel_rfl) (by kernel_rfl) (by kernel_rfl) (fun _ _ _ h => h) (Or.inl ⟨by kernel_rfl, ?_⟩) (by assumption) ?_
            rotate_left 1
            · intro w hSw; (try dsimp only at hSw); go_simp; (try with_reducible rfl)
            (try simp only [Act.put, List.getElem_toArray, List.getElem_cons_zero, List.getElem_cons_succ, List.setIfInBounds_toArray, List.set_cons_zero, List.set_cons_succ])
            refine wpAnyH_done (by kernel_rfl) ?_ _
            go_wp2_with (fail)
            have R5 := Aside0.mk (Row.keep RN.out (show wr.drew.heap[g]? = wr.heap[g]? from rfl))
            have B5 := Aside0.mk (below_drew1 BW.out)
            have X5 := Aside0.mk (show wr.drew.heap[w.heap.size]? = some (.cells #[.int .i64 (b : Int), .slice A1 im.length c1, .slice A2 cd.length c2] 45 (0, 0)) from XW.out)
            clear RN XW BW k0 RR TT
            generalize wr.drew = w5 at R5 B5 X5 ⊢
            go_loopg [10] (n - m) (fun gg s10 wr => ∃ i : Nat, m ≤ i ∧ i ≤ n ∧ n - i ≤ gg ∧ s10 = .int .i64 (i : Int) ∧ Aside0 (Row wr g (fnL im.length (cnt b im i)) cn) ∧ Aside0 (Below w.heap.size w wr) ∧ Aside0 (wr.heap[w.heap.size]? = some (.cells #[.int .i64 (b : Int), .slice A1 im.length c1, .slice A2 cd.length c2] 45 (0, 0))))
            case atStart => exact ⟨m, Nat.le_refl _, hmn, Nat.le_refl _, rfl, R5, B5, X5⟩
            case round =>
              clear R5 B5 X5
              obtain ⟨i, him, hin, hgi, rfl, RI, BI, XI⟩ := hrel
              by_cases hlti : i < n
              · have hltiz : (i : Int) < (n : Int) := by omega
                have k0 : wr.cell? ⟨w.heap.size, 0, none⟩ = some (.int .i64 (b : Int)) := (blk_cell XI.out 0).trans rfl
                have k1 : wr.cell? ⟨w.heap.size, 1, none⟩ = some (.slice A1 im.length c1) := (blk_cell XI.out 1).trans rfl
                have k2 : wr.cell? ⟨w.heap.size, 2, none⟩ = some (.slice A2 cd.length c2) := (blk_cell XI.out 2).trans rfl
                have HLT := Aside0.mk (letter_calls b im cd A1 A2 c1 c2 HOK.out n i wr (by omega) (by omega) (Kd.C_below HR.out BI.out))
                have HLL := Aside0.mk (let_lt HOK.out i)
                have HCS := Aside0.mk (fun c => cnt_succ b im i c)
                have hll := let_lt HOK.out i
                generalize letF b im i = la at HLT HLL HCS hll
                have hcl := cnt_le b im i la
                have hlz : (la : Int) < (im.length : Int) := by omega
                obtain ⟨F, hF⟩ : ∃ F, cnt b im i la = F := ⟨_, rfl⟩
                have HF := Aside0.mk hF
                rw [hF] at hcl
                have hw1 : IntKind.i64.wrap ((F : Int) + 1) = ((F + 1 : Nat) : Int) := (IntWalk.i64_in _ (by omega)).trans (by omega)
                clear hF hll hcl
                go_wp2_with (go_at_call 59; refine HLT.out.mono ?_; rintro e w6 ⟨rfl, hb6⟩; have RI6 := Aside0.mk (RI.out.below hb6); have BI6 := Aside0.mk (below_step BI.out hb6); have XI6 := Aside0.mk (blk_below XI.out hb6); have kx : w6.cell? ⟨g, la, none⟩ = some (.int .i64 (F : Int)) := (by have h := RI6.out.cell (i := la) (by rw [fnL_len]; exact HLL.out); rw [fnL_at _ HLL.out, HF.out] at h; exact h); have fx := RI6.out.frozen la; clear hb6)
                go_roundg (n - (i + 1))
                case measure => omega
                case rel =>
                  refine ⟨i + 1, by omega, by omega, by omega, by go_num, ⟨?_⟩, ⟨below_set BI6.out (by have := G3.out; show w.heap.size ≤ g; omega)⟩, ⟨(Below.heap_setCell _ _ _ _ (by have := G3.out; show w.heap.size ≠ g; omega)).trans XI6.out⟩⟩
                  have h := RI6.out.set (i := la) (by rw [fnL_len]; exact HLL.out) ((cnt b im i la + 1 : Nat) : Int)
                  rw [fnL_set _ HLL.out, show fnL im.length (fun c => cnt b im i c + if c = la then 1 else 0) = fnL im.length (cnt b im (i + 1)) from fnL_congr (fun c _ => by rw [HCS.out c]; by_cases e : c = la <;> simp [e]; (try omega)), HF.out] at h
                  exact h
              · have hie : i = n := by omega
                have RE := Aside0.mk (show Row wr g (fnL im.length (cnt b im n)) cn from by have := RI.out; rwa [hie] at this)
                go_wp2_with (fail)
                go_ret
                exact ⟨g, cn, rfl, RE.out, by have := G3.out; omega, BI.out⟩
end Go.Proofs.Ytampgoendkjkhaa.H
