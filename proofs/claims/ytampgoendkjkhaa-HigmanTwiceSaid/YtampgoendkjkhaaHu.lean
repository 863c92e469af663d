/- higman.Up, higman.Down. -/
import Derived.Test.YtampgoendkjkhaaHs
namespace Go.Proofs.Ytampgoendkjkhaa.H
open Go.RowKit Go.Shelf Go.Proofs.YtampgoendkjkhaaW.PrintWords Go.Proofs.YtampgoendkjkhaaW.PrintMore Go.Proofs.Ytampgoendkjkhaa.DtM
set_option linter.unusedVariables false
set_option linter.unusedSimpArgs false
theorem detOk_of {L st : Int} {nx : List (List Int)} {ms : List Int} (h : dCheck L st nx ms = 0) : ∃ L' st' : Nat, L = (L' : Int) ∧ st = (st' : Int) ∧ st' < nx.length ∧ nx.length ≤ 3000 ∧ (∀ m ∈ ms, m = 0 ∨ m = 1) ∧ DetOk L' nx ms := by
  unfold dCheck at h
  split at h
  · omega
  rename_i h1
  split at h
  · omega
  rename_i h2
  split at h
  · omega
  rename_i h3
  split at h
  · omega
  rename_i h4
  split at h
  · omega
  rename_i h5
  simp only [Bool.or_eq_true, not_or, Bool.not_eq_true] at h4
  have hno : ∀ n p : Int, noB n p = false → 0 ≤ p ∧ p < n := fun n p h => by
    unfold noB at h; simp only [Bool.or_eq_false_iff, decide_eq_false_iff_not] at h; omega
  have hst := hno _ _ h4.1
  have hs : ¬ dShape L nx = true := fun q => h3 (.inr q)
  have hm : ∀ m ∈ ms, m = 0 ∨ m = 1 := by
    intro m hm
    have := List.any_eq_false.1 (Bool.not_eq_true _ ▸ h5) m hm
    rw [Bool.not_eq_true] at this
    unfold dbit at this
    simp at this
    omega
  refine ⟨L.toNat, st.toNat, by omega, by omega, by omega, by omega, hm, by omega, by omega, by omega, by omega, ?_, ?_, ?_, ?_⟩
  · intro r hr
    rw [Bool.not_eq_true] at hs
    have := List.any_eq_false.1 hs r hr
    simp at this
    omega
  · intro r hr x hx
    have q1 := List.any_eq_false.1 h4.2 r hr
    rw [Bool.not_eq_true] at q1
    have q2 := List.any_eq_false.1 q1 x hx
    rw [Bool.not_eq_true] at q2
    exact hno _ _ q2
  · exact Classical.byContradiction fun q => h3 (.inl q)
  · intro m hm'
    rcases hm m hm' with e | e <;> omega
def smF (L st : Int) (nx : List (List Int)) (ms : List Int) : Int := if dCheck L st nx ms ≠ 0 then dCheck L st nx ms else if 5 < (nx.length : Int) then 1 else 0
theorem smOk_of {L st : Int} {nx : List (List Int)} {ms : List Int} (h : smF L st nx ms = 0) : ∃ L' st' : Nat, L = (L' : Int) ∧ st = (st' : Int) ∧ SmOk L' st' nx ms := by
  unfold smF at h
  split at h
  · rename_i h1; exact absurd h h1
  rename_i h1
  split at h
  · cases h
  rename_i h2
  obtain ⟨L', st', e1, e2, h3, h4, h5, h6⟩ := detOk_of (Classical.not_not.1 h1)
  exact ⟨L', st', e1, e2, h6.pos, by omega, h6.L1, h6.L4, h6.len, h6.row, h3, h6.tos, h5⟩
theorem small_calls (L st : Int) (A2 A3 : Option Addr) (c2 c3 : Nat) (nx : List (List Int)) (ms : List Int) (w : World) (hr2 : Kd.C (Kd.slice 3 (Kd.int .i64)) w A2 nx.length nx) (hr3 : Kd.C (Kd.int .i64) w A3 ms.length ms) :
    Calls Try.prog 87 (dArgs L st A2 A3 c2 c3 nx ms) w fun e w' => e = .returned (.int .i64 (smF L st nx ms)) ∧ Below w.heap.size w w' := by
  have HB0 := Aside0.mk (below_alloc (Below.refl w.heap.size w) (.cells #[.int .i64 L, .int .i64 st, .slice A2 nx.length c2, .slice A3 ms.length c3] 101))
  have HC := Aside0.mk (det_Check_at L st A2 A3 c2 c3 nx ms _ (Kd.C_below hr2 HB0.out) (Kd.C_below hr3 HB0.out))
  clear hr2 hr3
  obtain ⟨er, her⟩ : ∃ er, dCheck L st nx ms = er := ⟨_, rfl⟩
  have HE := Aside0.mk (show smF L st nx ms = if er ≠ 0 then er else if 5 < (nx.length : Int) then 1 else 0 from by unfold smF; rw [her])
  rw [her] at HC
  clear her
  by_cases h0 : er = 0
  · subst h0
    by_cases h5 : (5 : Int) < (nx.length : Int)
    · have h5' : decide ((5 : Int) < (nx.length : Int)) = true := decide_eq_true h5
      rw [if_neg (by simp), if_pos h5] at HE
      clear h5
      go_enter Try.func87, Try.ntmps87
      go_wp2_with (go_at_call 97; refine HC.out.mono ?_; rintro e w1 ⟨rfl, hb1⟩; have B1 := Aside0.mk (below_step HB0.out hb1); have X1 := Aside0.mk (blk_below (blk_new w _) hb1); have k2 : w1.cell? ⟨w.heap.size, 2, none⟩ = some (.slice A2 nx.length c2) := (blk_cell X1.out 2).trans rfl; clear hb1)
      go_ret
      exact ⟨by rw [HE.out]; rfl, B1.out⟩
    · have h5' : decide ((5 : Int) < (nx.length : Int)) = false := decide_eq_false h5
      rw [if_neg (by simp), if_neg h5] at HE
      clear h5
      go_enter Try.func87, Try.ntmps87
      go_wp2_with (go_at_call 97; refine HC.out.mono ?_; rintro e w1 ⟨rfl, hb1⟩; have B1 := Aside0.mk (below_step HB0.out hb1); have X1 := Aside0.mk (blk_below (blk_new w _) hb1); have k2 : w1.cell? ⟨w.heap.size, 2, none⟩ = some (.slice A2 nx.length c2) := (blk_cell X1.out 2).trans rfl; clear hb1)
      go_ret
      exact ⟨by rw [HE.out]; rfl, B1.out⟩
  · have hne : (er != 0) = true := by simpa using h0
    rw [if_pos h0] at HE
    clear h0
    go_enter Try.func87, Try.ntmps87
    go_wp2_with (go_at_call 97; refine HC.out.mono ?_; rintro e w1 ⟨rfl, hb1⟩; have B1 := Aside0.mk (below_step HB0.out hb1); clear hb1)
    go_ret
    exact ⟨by rw [HE.out]; rfl, B1.out⟩
/-- a struct and an error: an automaton, or nothing and an error -/
def DetPostE (w w' : World) (e : Ending) (d : Int × List (List Int) × List Int × Int) : Prop :=
  ∃ AN cN AM cM, e = .returned (.tuple #[.agg #[.int .i64 d.1, .int .i64 0, .slice AN d.2.1.length cN, .slice AM d.2.2.1.length cM], .int .i64 d.2.2.2]) ∧ Below w.heap.size w w' ∧
      ∃ sN sM : Nat → Prop, (∀ k, sM k → ¬ sN k) ∧ Kd.S (Kd.slice 3 (Kd.int .i64)) 22 w' w.heap.size sN (.slice AN d.2.1.length cN) d.2.1 ∧ Kd.R (Kd.int .i64) 3 w' w.heap.size sM (.slice AM d.2.2.1.length cM) d.2.2.1
theorem detPostE_none (w w' : World) (er : Int) (hb : Below w.heap.size w w') : DetPostE w w' (.returned (.tuple #[.agg #[.int .i64 0, .int .i64 0, .slice none 0 0, .slice none 0 0], .int .i64 er])) (0, [], [], er) :=
  ⟨none, 0, none, 0, rfl, hb, fun _ => True, fun _ => False, fun _ h => h.elim, Kd.S_nil _ _ _ _ _, Kd.R_nil _ _ _ _ _⟩
theorem wrap_pow (t : Nat) (ht : t < 62) : IntKind.i64.wrap (2 ^ t) = ((2 ^ t : Nat) : Int) := by
  have h2 := pow_lt62 t ht
  have h3 : ((2 : Int) ^ t) = ((2 ^ t : Nat) : Int) := by simp
  rw [h3, IntKind.wrap_i64]
  generalize 2 ^ t = z at h2
  omega
/-! ### Up -/
def upMr (S X : Nat) : Nat := S ||| X
def upF (L st : Int) (nx : List (List Int)) (ms : List Int) : Int × List (List Int) × List Int × Int :=
  if smF L st nx ms = 0 then (L, lstR L.toNat (hgRx L.toNat nx upMr (2 ^ st.toNat)) (hgMx L.toNat nx ms upMr (2 ^ st.toNat)) 0, lstM L.toNat (hgRx L.toNat nx upMr (2 ^ st.toNat)) (hgMx L.toNat nx ms upMr (2 ^ st.toNat)) 0, 0) else (0, [], [], smF L st nx ms)
theorem up_lt {n : Nat} (S X : Nat) (hS : S < 2 ^ n) (hX : X < 2 ^ n) : upMr S X < 2 ^ n := Nat.or_lt_two_pow hS hX
theorem up_more {nx : List (List Int)} (h5 : nx.length ≤ 5) (w : World) : MoreAt 93 #[] upMr (2 ^ nx.length) w := by
  intro W S X hb hS hX
  refine (up1_calls S X W (pow_le62 hS h5) (pow_le62 hX h5)).mono ?_
  rintro e w' ⟨he, rfl⟩
  exact ⟨he, Below.refl _ _⟩
set_option maxHeartbeats 4000000 in
set_option maxRecDepth 100000 in
theorem up_calls (L st : Int) (A2 A3 : Option Addr) (c2 c3 : Nat) (nx : List (List Int)) (ms : List Int) (w : World) (hr2 : Kd.C (Kd.slice 3 (Kd.int .i64)) w A2 nx.length nx) (hr3 : Kd.C (Kd.int .i64) w A3 ms.length ms) :
    Calls Try.prog 35 (dArgs L st A2 A3 c2 c3 nx ms) w fun e w' => DetPostE w w' e (upF L st nx ms) := by
  have HB0 := Aside0.mk (below_alloc (below_alloc (Below.refl w.heap.size w) (.cells #[.int .i64 L, .int .i64 st, .slice A2 nx.length c2, .slice A3 ms.length c3] 101)) (.cells #[.int .i64 0, .int .i64 0, .slice none 0 0, .slice none 0 0] 101))
  have HC := Aside0.mk (small_calls L st A2 A3 c2 c3 nx ms _ (Kd.C_below hr2 HB0.out) (Kd.C_below hr3 HB0.out))
  have HR2 := Aside0.mk hr2
  have HR3 := Aside0.mk hr3
  clear hr2 hr3
  by_cases h : smF L st nx ms = 0
  · obtain ⟨L, st, rfl, rfl, hok⟩ := smOk_of h
    rw [h] at HC
    have HOK := Aside0.mk hok
    have HD := Aside0.mk (show upF (L : Int) (st : Int) nx ms = ((L : Int), lstR L (hgRx L nx upMr (2 ^ st)) (hgMx L nx ms upMr (2 ^ st)) 0, lstM L (hgRx L nx upMr (2 ^ st)) (hgMx L nx ms upMr (2 ^ st)) 0, 0) from by unfold upF; rw [if_pos h, Int.toNat_natCast, Int.toNat_natCast])
    rw [HD.out]
    have hst5 : st < 5 := by have := hok.st; have := hok.n5; omega
    have hpow := wrap_pow st (by omega)
    have HP := Aside0.mk hpow
    clear h hok HD hpow
    go_enter Try.func35, Try.ntmps35
    go_wp2_with (go_at_call 87
                 refine HC.out.mono ?_
                 rintro e w1 ⟨rfl, hb1⟩
                 have B1 := Aside0.mk (below_step HB0.out hb1)
                 have X1 := Aside0.mk (show w1.heap[w.heap.size]? = some (.cells #[.int .i64 (L : Int), .int .i64 (st : Int), .slice A2 nx.length c2, .slice A3 ms.length c3] 101 (0, 0)) from blk_below (blk_alloc (blk_new w _) _) hb1)
                 have Z1 := Aside0.mk (show w1.heap[w.heap.size + 1]? = some (.cells #[.int .i64 0, .int .i64 0, .slice none 0 0, .slice none 0 0] 101 (0, 0)) from blk_below (blk_newn _ _ _ (by simp)) hb1)
                 clear hb1)
    have hx0 : w1.cell? ⟨w.heap.size, 0, none⟩ = some (.int .i64 (L : Int)) := (blk_cell X1.out 0).trans rfl
    have hx1 : w1.cell? ⟨w.heap.size, 1, none⟩ = some (.int .i64 (st : Int)) := (blk_cell X1.out 1).trans rfl
    have hx2 : w1.cell? ⟨w.heap.size, 2, none⟩ = some (.slice A2 nx.length c2) := (blk_cell X1.out 2).trans rfl
    have hx3 : w1.cell? ⟨w.heap.size, 3, none⟩ = some (.slice A3 ms.length c3) := (blk_cell X1.out 3).trans rfl
    go_region_law (first
      | (rw [if_pos (by rfl)]
         go_simp
         go_at_call 92
         rw [HP.out]
         refine (hgSets_calls 93 #[] (enters_of Try.func93 (by kernel_rfl) rfl) L st A2 A3 c2 c3 nx ms upMr (2 ^ st) _ (Kd.C_below HR2.out (below_drew1 B1.out)) (Kd.C_below HR3.out (below_drew1 B1.out)) HOK.out (up_more HOK.out.n5 _) (Nat.pow_lt_pow_right (by omega) HOK.out.st) up_lt).mono ?_
         rintro e w2 ⟨AN, cN, AM, cM, rfl, hb2, sN, sM, hd, hN, hM⟩
         obtain ⟨R, hR⟩ : ∃ R, lstR L (hgRx L nx upMr (2 ^ st)) (hgMx L nx ms upMr (2 ^ st)) 0 = R := ⟨_, rfl⟩
         obtain ⟨Mk, hMk⟩ : ∃ Mk, lstM L (hgRx L nx upMr (2 ^ st)) (hgMx L nx ms upMr (2 ^ st)) 0 = Mk := ⟨_, rfl⟩
         rw [hR] at hN ⊢
         rw [hMk] at hM ⊢
         have HRR := Aside0.mk (And.intro hR hMk)
         have B2 := Aside0.mk (below_step (below_drew1 B1.out) hb2)
         have HSZ := Aside0.mk (show w1.heap.size ≤ w2.heap.size from hb2.size)
         have Z2 := Aside0.mk (blk_below (blk_drew Z1.out) hb2)
         have zz := blk_lt Z1.out
         have zl : w.heap.size + 1 < w2.heap.size := blk_lt Z2.out
         have r0 := (blk_cell Z2.out 0).trans rfl
         have rf0 := blk_frozen Z2.out 0
         have r1 := (blk_cell Z2.out 1).trans rfl
         have rf1 := blk_frozen Z2.out 1
         have r2 := (blk_cell Z2.out 2).trans rfl
         have rf2 := blk_frozen Z2.out 2
         have r3 := (blk_cell Z2.out 3).trans rfl
         have rf3 := blk_frozen Z2.out 3
         have N2 := Aside0.mk (show Kd.S (Kd.slice 3 (Kd.int .i64)) 22 w2 w1.heap.size sN (.slice AN R.length cN) R from hN)
         have K2 := Aside0.mk (show Kd.R (Kd.int .i64) 3 w2 w1.heap.size sM (.slice AM Mk.length cM) Mk from hM)
         have HDD := Aside0.mk hd
         clear hb2 hd hN hM hR hMk)
      | fail)
    all_goals go_wp2
    all_goals
      rw [HRR.out.1, HRR.out.2]
      have hlt1 : w.heap.size + 1 < w1.heap.size := zz
      have hg3 : w.heap.size ≤ w1.heap.size := by omega
      refine bodyPost_ret (resD rfl _ _ (w.heap.size + 1) (.int .i64 (L : Int)) (.int .i64 0) (.slice AN R.length cN) (.slice AM Mk.length cM) (.int .i64 0) rfl rfl (by go_simp) (by go_simp) (by go_simp) (by go_simp)) rfl ?_
      refine ⟨AN, cN, AM, cM, rfl, ?_, sN, sM, HDD.out, Kd.S_lower (base := w1.heap.size) ?_ hg3, Kd.R_lower (base := w1.heap.size) ?_ hg3⟩
      · with_reducible repeat (first | exact B2.out | refine below_set ?_ (Nat.le_succ _))
      · with_reducible repeat (first | exact N2.out | refine S_set' ?_ hlt1 _)
      · with_reducible repeat (first | exact K2.out | refine R_set' ?_ hlt1 _)
  · obtain ⟨er, her⟩ : ∃ er, smF L st nx ms = er := ⟨_, rfl⟩
    have HD : upF L st nx ms = (0, [], [], er) := by unfold upF; rw [if_neg h, her]
    rw [HD]
    clear HD
    rw [her] at h HC
    have hne : (er != 0) = true := by simpa using h
    clear her h
    go_enter Try.func35, Try.ntmps35
    go_wp2_with (go_at_call 87
                 refine HC.out.mono ?_
                 rintro e w1 ⟨rfl, hb1⟩
                 have B1 := Aside0.mk (below_step HB0.out hb1)
                 have Z1 := Aside0.mk (show w1.heap[w.heap.size + 1]? = some (.cells #[.int .i64 0, .int .i64 0, .slice none 0 0, .slice none 0 0] 101 (0, 0)) from blk_below (blk_newn _ _ _ (by simp)) hb1)
                 have zl : w.heap.size + 1 < w1.heap.size := blk_lt Z1.out
                 have r0 := (blk_cell Z1.out 0).trans rfl
                 have rf0 := blk_frozen Z1.out 0
                 have r1 := (blk_cell Z1.out 1).trans rfl
                 have rf1 := blk_frozen Z1.out 1
                 have r2 := (blk_cell Z1.out 2).trans rfl
                 have rf2 := blk_frozen Z1.out 2
                 have r3 := (blk_cell Z1.out 3).trans rfl
                 have rf3 := blk_frozen Z1.out 3
                 clear hb1)
    refine bodyPost_ret (resD rfl _ _ (w.heap.size + 1) (.int .i64 0) (.int .i64 0) (.slice none 0 0) (.slice none 0 0) (.int .i64 er) rfl rfl (by go_simp) (by go_simp) (by go_simp) (by go_simp)) rfl ?_
    refine detPostE_none _ _ _ ?_
    with_reducible repeat (first | exact B1.out | refine below_set ?_ (Nat.le_succ _))
/-! ### Down -/
def dnMr (nx : List (List Int)) (L : Nat) (_S X : Nat) : Nat := reachN nx L X
theorem reach_lt {L st : Nat} {nx : List (List Int)} {ms : List Int} (h : SmOk L st nx ms) {S : Nat} (hS : S < 2 ^ nx.length) : reachN nx L S < 2 ^ nx.length := (reachG_fix h _ S hS (Nat.sub_le _ _)).1
def dnF (L st : Int) (nx : List (List Int)) (ms : List Int) : Int × List (List Int) × List Int × Int :=
  if smF L st nx ms = 0 then (L, lstR L.toNat (hgRx L.toNat nx (dnMr nx L.toNat) (reachN nx L.toNat (2 ^ st.toNat))) (hgMx L.toNat nx ms (dnMr nx L.toNat) (reachN nx L.toNat (2 ^ st.toNat))) 0, lstM L.toNat (hgRx L.toNat nx (dnMr nx L.toNat) (reachN nx L.toNat (2 ^ st.toNat))) (hgMx L.toNat nx ms (dnMr nx L.toNat) (reachN nx L.toNat (2 ^ st.toNat))) 0, 0) else (0, [], [], smF L st nx ms)
theorem dn1_calls (L st : Nat) (A2 A3 : Option Addr) (c2 c3 : Nat) (nx : List (List Int)) (ms : List Int) (S X : Nat) (B : Nat) (w : World) (hr2 : Kd.C (Kd.slice 3 (Kd.int .i64)) w A2 nx.length nx) (hok : SmOk L st nx ms)
    (hx : w.heap[B]? = some (.cells #[.int .i64 (L : Int), .int .i64 (st : Int), .slice A2 nx.length c2, .slice A3 ms.length c3] 101 (0, 0))) (hX : X < 2 ^ nx.length) :
    Calls Try.prog 95 #[.int .i64 (S : Int), .int .i64 (X : Int), .pointer (some ⟨B, 0, none⟩)] w fun e w' => e = .returned (.int .i64 ((reachN nx L X : Nat) : Int)) ∧ Below w.heap.size w w' := by
  have HC := Aside0.mk (hg_ahead L st A2 A3 c2 c3 nx ms X w hr2 hok hX)
  have k0 : w.cell? ⟨B, 0, none⟩ = some (.int .i64 (L : Int)) := (blk_cell hx 0).trans rfl
  have k1 : w.cell? ⟨B, 1, none⟩ = some (.int .i64 (st : Int)) := (blk_cell hx 1).trans rfl
  have k2 : w.cell? ⟨B, 2, none⟩ = some (.slice A2 nx.length c2) := (blk_cell hx 2).trans rfl
  have k3 : w.cell? ⟨B, 3, none⟩ = some (.slice A3 ms.length c3) := (blk_cell hx 3).trans rfl
  clear hr2 hok hx hX
  go_enter Try.func95, Try.ntmps95
  go_wp2_with (go_at_call 94; refine HC.out.mono ?_; rintro e w' ⟨rfl, hb'⟩)
  go_ret
  exact ⟨rfl, hb'⟩
theorem dn_more (L st : Nat) (A2 A3 : Option Addr) (c2 c3 : Nat) (nx : List (List Int)) (ms : List Int) (B : Nat) (W0 : World) (hr2 : Kd.C (Kd.slice 3 (Kd.int .i64)) W0 A2 nx.length nx) (hok : SmOk L st nx ms)
    (hx : W0.heap[B]? = some (.cells #[.int .i64 (L : Int), .int .i64 (st : Int), .slice A2 nx.length c2, .slice A3 ms.length c3] 101 (0, 0))) : MoreAt 95 #[.pointer (some ⟨B, 0, none⟩)] (dnMr nx L) (2 ^ nx.length) W0 :=
  fun W S X hb hS hX => dn1_calls L st A2 A3 c2 c3 nx ms S X B W (Kd.C_below hr2 hb) hok (blk_below hx hb) hX
set_option maxHeartbeats 4000000 in
set_option maxRecDepth 100000 in
theorem dn_calls (L st : Int) (A2 A3 : Option Addr) (c2 c3 : Nat) (nx : List (List Int)) (ms : List Int) (w : World) (hr2 : Kd.C (Kd.slice 3 (Kd.int .i64)) w A2 nx.length nx) (hr3 : Kd.C (Kd.int .i64) w A3 ms.length ms) :
    Calls Try.prog 36 (dArgs L st A2 A3 c2 c3 nx ms) w fun e w' => DetPostE w w' e (dnF L st nx ms) := by
  have HB0 := Aside0.mk (below_alloc (below_alloc (Below.refl w.heap.size w) (.cells #[.int .i64 L, .int .i64 st, .slice A2 nx.length c2, .slice A3 ms.length c3] 101)) (.cells #[.int .i64 0, .int .i64 0, .slice none 0 0, .slice none 0 0] 101))
  have HC := Aside0.mk (small_calls L st A2 A3 c2 c3 nx ms _ (Kd.C_below hr2 HB0.out) (Kd.C_below hr3 HB0.out))
  have HR2 := Aside0.mk hr2
  have HR3 := Aside0.mk hr3
  clear hr2 hr3
  by_cases h : smF L st nx ms = 0
  · obtain ⟨L, st, rfl, rfl, hok⟩ := smOk_of h
    rw [h] at HC
    have HOK := Aside0.mk hok
    have HD := Aside0.mk (show dnF (L : Int) (st : Int) nx ms = ((L : Int), lstR L (hgRx L nx (dnMr nx L) (reachN nx L (2 ^ st))) (hgMx L nx ms (dnMr nx L) (reachN nx L (2 ^ st))) 0, lstM L (hgRx L nx (dnMr nx L) (reachN nx L (2 ^ st))) (hgMx L nx ms (dnMr nx L) (reachN nx L (2 ^ st))) 0, 0) from by unfold dnF; rw [if_pos h, Int.toNat_natCast, Int.toNat_natCast])
    rw [HD.out]
    have hst5 : st < 5 := by have := hok.st; have := hok.n5; omega
    have hpow := wrap_pow st (by omega)
    have HP := Aside0.mk hpow
    clear h hok HD hpow
    go_enter Try.func36, Try.ntmps36
    go_wp2_with (go_at_call 87
                 refine HC.out.mono ?_
                 rintro e w1 ⟨rfl, hb1⟩
                 have B1 := Aside0.mk (below_step HB0.out hb1)
                 have X1 := Aside0.mk (show w1.heap[w.heap.size]? = some (.cells #[.int .i64 (L : Int), .int .i64 (st : Int), .slice A2 nx.length c2, .slice A3 ms.length c3] 101 (0, 0)) from blk_below (blk_alloc (blk_new w _) _) hb1)
                 have Z1 := Aside0.mk (show w1.heap[w.heap.size + 1]? = some (.cells #[.int .i64 0, .int .i64 0, .slice none 0 0, .slice none 0 0] 101 (0, 0)) from blk_below (blk_newn _ _ _ (by simp)) hb1)
                 clear hb1)
    have hx0 : w1.cell? ⟨w.heap.size, 0, none⟩ = some (.int .i64 (L : Int)) := (blk_cell X1.out 0).trans rfl
    have hx1 : w1.cell? ⟨w.heap.size, 1, none⟩ = some (.int .i64 (st : Int)) := (blk_cell X1.out 1).trans rfl
    have hx2 : w1.cell? ⟨w.heap.size, 2, none⟩ = some (.slice A2 nx.length c2) := (blk_cell X1.out 2).trans rfl
    have hx3 : w1.cell? ⟨w.heap.size, 3, none⟩ = some (.slice A3 ms.length c3) := (blk_cell X1.out 3).trans rfl
    go_region_law (first
      | (rw [if_pos (by rfl)]
         go_simp
         go_at_call 94
         rw [HP.out]
         refine (hg_ahead L st A2 A3 c2 c3 nx ms (2 ^ st) _ (Kd.C_below HR2.out (below_drew1 B1.out)) HOK.out (Nat.pow_lt_pow_right (by omega) HOK.out.st)).mono ?_
         rintro e w5 ⟨rfl, hb5⟩
         have B5 := Aside0.mk (below_step (below_drew1 B1.out) hb5)
         have X5 := Aside0.mk (blk_below (blk_drew X1.out) hb5)
         have Z5 := Aside0.mk (blk_below (blk_drew Z1.out) hb5)
         have hy0 : w5.cell? ⟨w.heap.size, 0, none⟩ = some (.int .i64 (L : Int)) := (blk_cell X5.out 0).trans rfl
         have hy1 : w5.cell? ⟨w.heap.size, 1, none⟩ = some (.int .i64 (st : Int)) := (blk_cell X5.out 1).trans rfl
         have hy2 : w5.cell? ⟨w.heap.size, 2, none⟩ = some (.slice A2 nx.length c2) := (blk_cell X5.out 2).trans rfl
         have hy3 : w5.cell? ⟨w.heap.size, 3, none⟩ = some (.slice A3 ms.length c3) := (blk_cell X5.out 3).trans rfl
         clear hb5)
      | (rw [if_pos (by rfl)]
         go_simp
         go_at_call 92
         refine (hgSets_calls 95 #[.pointer (some ⟨w.heap.size, 0, none⟩)] (enters_of Try.func95 (by kernel_rfl) rfl) L st A2 A3 c2 c3 nx ms (dnMr nx L) (reachN nx L (2 ^ st)) _ (Kd.C_below HR2.out B5.out) (Kd.C_below HR3.out B5.out) HOK.out (dn_more L st A2 A3 c2 c3 nx ms w.heap.size _ (Kd.C_below HR2.out B5.out) HOK.out X5.out) (reach_lt HOK.out (Nat.pow_lt_pow_right (by omega) HOK.out.st)) (fun S X _ hX => reach_lt HOK.out hX)).mono ?_
         rintro e w2 ⟨AN, cN, AM, cM, rfl, hb2, sN, sM, hd, hN, hM⟩
         obtain ⟨R, hR⟩ : ∃ R, lstR L (hgRx L nx (dnMr nx L) (reachN nx L (2 ^ st))) (hgMx L nx ms (dnMr nx L) (reachN nx L (2 ^ st))) 0 = R := ⟨_, rfl⟩
         obtain ⟨Mk, hMk⟩ : ∃ Mk, lstM L (hgRx L nx (dnMr nx L) (reachN nx L (2 ^ st))) (hgMx L nx ms (dnMr nx L) (reachN nx L (2 ^ st))) 0 = Mk := ⟨_, rfl⟩
         rw [hR] at hN ⊢
         rw [hMk] at hM ⊢
         have HRR := Aside0.mk (And.intro hR hMk)
         have B2 := Aside0.mk (below_step B5.out hb2)
         have HSZ := Aside0.mk (show w5.heap.size ≤ w2.heap.size from hb2.size)
         have Z2 := Aside0.mk (blk_below Z5.out hb2)
         have zz := blk_lt Z5.out
         have zl : w.heap.size + 1 < w2.heap.size := blk_lt Z2.out
         have r0 := (blk_cell Z2.out 0).trans rfl
         have rf0 := blk_frozen Z2.out 0
         have r1 := (blk_cell Z2.out 1).trans rfl
         have rf1 := blk_frozen Z2.out 1
         have r2 := (blk_cell Z2.out 2).trans rfl
         have rf2 := blk_frozen Z2.out 2
         have r3 := (blk_cell Z2.out 3).trans rfl
         have rf3 := blk_frozen Z2.out 3
         have N2 := Aside0.mk (show Kd.S (Kd.slice 3 (Kd.int .i64)) 22 w2 w5.heap.size sN (.slice AN R.length cN) R from hN)
         have K2 := Aside0.mk (show Kd.R (Kd.int .i64) 3 w2 w5.heap.size sM (.slice AM Mk.length cM) Mk from hM)
         have HDD := Aside0.mk hd
         clear hb2 hd hN hM hR hMk)
      | fail)
    all_goals go_wp2
    all_goals
      rw [HRR.out.1, HRR.out.2]
      have hlt1 : w.heap.size + 1 < w5.heap.size := zz
      have hg3 : w.heap.size ≤ w5.heap.size := by omega
      refine bodyPost_ret (resD rfl _ _ (w.heap.size + 1) (.int .i64 (L : Int)) (.int .i64 0) (.slice AN R.length cN) (.slice AM Mk.length cM) (.int .i64 0) rfl rfl (by go_simp) (by go_simp) (by go_simp) (by go_simp)) rfl ?_
      refine ⟨AN, cN, AM, cM, rfl, ?_, sN, sM, HDD.out, Kd.S_lower (base := w5.heap.size) ?_ hg3, Kd.R_lower (base := w5.heap.size) ?_ hg3⟩
      · with_reducible repeat (first | exact B2.out | refine below_set ?_ (Nat.le_succ _))
      · with_reducible repeat (first | exact N2.out | refine S_set' ?_ hlt1 _)
      · with_reducible repeat (first | exact K2.out | refine R_set' ?_ hlt1 _)
  · obtain ⟨er, her⟩ : ∃ er, smF L st nx ms = er := ⟨_, rfl⟩
    have HD : dnF L st nx ms = (0, [], [], er) := by unfold dnF; rw [if_neg h, her]
    rw [HD]
    clear HD
    rw [her] at h HC
    have hne : (er != 0) = true := by simpa using h
    clear her h
    go_enter Try.func36, Try.ntmps36
    go_wp2_with (go_at_call 87
                 refine HC.out.mono ?_
                 rintro e w1 ⟨rfl, hb1⟩
                 have B1 := Aside0.mk (below_step HB0.out hb1)
                 have Z1 := Aside0.mk (show w1.heap[w.heap.size + 1]? = some (.cells #[.int .i64 0, .int .i64 0, .slice none 0 0, .slice none 0 0] 101 (0, 0)) from blk_below (blk_newn _ _ _ (by simp)) hb1)
                 have zl : w.heap.size + 1 < w1.heap.size := blk_lt Z1.out
                 have r0 := (blk_cell Z1.out 0).trans rfl
                 have rf0 := blk_frozen Z1.out 0
                 have r1 := (blk_cell Z1.out 1).trans rfl
                 have rf1 := blk_frozen Z1.out 1
                 have r2 := (blk_cell Z1.out 2).trans rfl
                 have rf2 := blk_frozen Z1.out 2
                 have r3 := (blk_cell Z1.out 3).trans rfl
                 have rf3 := blk_frozen Z1.out 3
                 clear hb1)
    refine bodyPost_ret (resD rfl _ _ (w.heap.size + 1) (.int .i64 0) (.int .i64 0) (.slice none 0 0) (.slice none 0 0) (.int .i64 er) rfl rfl (by go_simp) (by go_simp) (by go_simp) (by go_simp)) rfl ?_
    refine detPostE_none _ _ _ ?_
    with_reducible repeat (first | exact B1.out | refine below_set ?_ (Nat.le_succ _))
/-! ### det.Least -/
def dlF (L st : Int) (nx : List (List Int)) (ms : List Int) : Int × List (List Int) × List Int × Int :=
  if dCheck L st nx ms = 0 then (L, lstR L.toNat nx ms st.toNat, lstM L.toNat nx ms st.toNat, 0) else (0, [], [], dCheck L st nx ms)
set_option maxHeartbeats 4000000 in
theorem dl_calls (L st : Int) (A2 A3 : Option Addr) (c2 c3 : Nat) (nx : List (List Int)) (ms : List Int) (w : World) (hr2 : Kd.C (Kd.slice 3 (Kd.int .i64)) w A2 nx.length nx) (hc2 : nx.length ≤ c2) (hr3 : Kd.C (Kd.int .i64) w A3 ms.length ms) (hc3 : ms.length ≤ c3) :
    Calls Try.prog 38 (dArgs L st A2 A3 c2 c3 nx ms) w fun e w' => DetPostE w w' e (dlF L st nx ms) := by
  have HB0 := Aside0.mk (below_alloc (below_alloc (Below.refl w.heap.size w) (.cells #[.int .i64 L, .int .i64 st, .slice A2 nx.length c2, .slice A3 ms.length c3] 101)) (.cells #[.int .i64 0, .int .i64 0, .slice none 0 0, .slice none 0 0] 101))
  have HC := Aside0.mk (det_Check_at L st A2 A3 c2 c3 nx ms _ (Kd.C_below hr2 HB0.out) (Kd.C_below hr3 HB0.out))
  have HR2 := Aside0.mk hr2
  have HR3 := Aside0.mk hr3
  have HC2 := Aside0.mk hc2
  have HC3 := Aside0.mk hc3
  clear hr2 hr3 hc2 hc3
  by_cases h : dCheck L st nx ms = 0
  · obtain ⟨L, st, rfl, rfl, hst, _, _, hok⟩ := detOk_of h
    rw [h] at HC
    have HOK := Aside0.mk hok
    have HST := Aside0.mk hst
    have HD := Aside0.mk (show dlF (L : Int) (st : Int) nx ms = ((L : Int), lstR L nx ms st, lstM L nx ms st, 0) from by unfold dlF; rw [if_pos h, Int.toNat_natCast, Int.toNat_natCast])
    rw [HD.out]
    clear h hok HD hst
    go_enter Try.func38, Try.ntmps38
    go_wp2_with (first
      | (go_at_call 97
         refine HC.out.mono ?_
         rintro e w1 ⟨rfl, hb1⟩
         have B1 := Aside0.mk (below_step HB0.out hb1)
         have X1 := Aside0.mk (show w1.heap[w.heap.size]? = some (.cells #[.int .i64 (L : Int), .int .i64 (st : Int), .slice A2 nx.length c2, .slice A3 ms.length c3] 101 (0, 0)) from blk_below (blk_alloc (blk_new w _) _) hb1)
         have Z1 := Aside0.mk (show w1.heap[w.heap.size + 1]? = some (.cells #[.int .i64 0, .int .i64 0, .slice none 0 0, .slice none 0 0] 101 (0, 0)) from blk_below (blk_newn _ _ _ (by simp)) hb1)
         have x0 := (blk_cell X1.out 0).trans rfl
         have xf0 := blk_frozen X1.out 0
         have x1 := (blk_cell X1.out 1).trans rfl
         have xf1 := blk_frozen X1.out 1
         have x2 := (blk_cell X1.out 2).trans rfl
         have xf2 := blk_frozen X1.out 2
         have x3 := (blk_cell X1.out 3).trans rfl
         have xf3 := blk_frozen X1.out 3
         clear hb1)
      | (go_at_call 98
         refine (smallest_calls A2 A3 c2 c3 L st nx ms _ (Kd.C_below HR2.out B1.out) HC2.out (Kd.C_below HR3.out B1.out) HC3.out HOK.out HST.out).mono ?_
         rintro e w2 ⟨vN, vM, rfl, hb2, sN, sM, hd, hN, hM⟩
         obtain ⟨R, hR⟩ : ∃ R, lstR L nx ms st = R := ⟨_, rfl⟩
         obtain ⟨Mk, hMk⟩ : ∃ Mk, lstM L nx ms st = Mk := ⟨_, rfl⟩
         replace hN := hR ▸ (show Kd.S (Kd.slice 3 (Kd.int .i64)) 22 w2 _ sN vN (lstR L nx ms st) from hN)
         replace hM := hMk ▸ (show Kd.R (Kd.int .i64) 3 w2 _ sM vM (lstM L nx ms st) from hM)
         obtain ⟨AN, cN, rfl⟩ := Kd.S_slice hN
         obtain ⟨AM, cM, rfl⟩ := Kd.R_slice hM
         have HRR := Aside0.mk (And.intro hR hMk)
         have B2 := Aside0.mk (below_step B1.out hb2)
         have Z2 := Aside0.mk (blk_below Z1.out hb2)
         have zz := blk_lt Z1.out
         have zl : w.heap.size + 1 < w2.heap.size := blk_lt Z2.out
         have r0 := (blk_cell Z2.out 0).trans rfl
         have rf0 := blk_frozen Z2.out 0
         have r1 := (blk_cell Z2.out 1).trans rfl
         have rf1 := blk_frozen Z2.out 1
         have r2 := (blk_cell Z2.out 2).trans rfl
         have rf2 := blk_frozen Z2.out 2
         have r3 := (blk_cell Z2.out 3).trans rfl
         have rf3 := blk_frozen Z2.out 3
         have N2 := Aside0.mk hN
         have K2 := Aside0.mk hM
         have HDD := Aside0.mk hd
         clear hb2 hd hN hM hR hMk)
      | fail)
    rw [HRR.out.1, HRR.out.2]
    have hlt1 : w.heap.size + 1 < w1.heap.size := zz
    have hg3 : w.heap.size ≤ w1.heap.size := by omega
    refine bodyPost_ret (resD rfl _ _ (w.heap.size + 1) (.int .i64 (L : Int)) (.int .i64 0) (.slice AN R.length cN) (.slice AM Mk.length cM) (.int .i64 0) rfl rfl (by go_simp) (by go_simp) (by go_simp) (by go_simp)) rfl ?_
    refine ⟨AN, cN, AM, cM, rfl, ?_, sN, sM, HDD.out, Kd.S_lower (base := w1.heap.size) ?_ hg3, Kd.R_lower (base := w1.heap.size) ?_ hg3⟩
    · with_reducible repeat (first | exact B2.out | refine below_set ?_ (Nat.le_succ _))
    · with_reducible repeat (first | exact N2.out | refine S_set' ?_ hlt1 _)
    · with_reducible repeat (first | exact K2.out | refine R_set' ?_ hlt1 _)
  · obtain ⟨er, her⟩ : ∃ er, dCheck L st nx ms = er := ⟨_, rfl⟩
    have HD : dlF L st nx ms = (0, [], [], er) := by unfold dlF; rw [if_neg h, her]
    rw [HD]
    clear HD
    rw [her] at h HC
    have hne : (er != 0) = true := by simpa using h
    clear her h
    go_enter Try.func38, Try.ntmps38
    go_wp2_with (go_at_call 97
                 refine HC.out.mono ?_
                 rintro e w1 ⟨rfl, hb1⟩
                 have B1 := Aside0.mk (below_step HB0.out hb1)
                 have Z1 := Aside0.mk (show w1.heap[w.heap.size + 1]? = some (.cells #[.int .i64 0, .int .i64 0, .slice none 0 0, .slice none 0 0] 101 (0, 0)) from blk_below (blk_newn _ _ _ (by simp)) hb1)
                 have zl : w.heap.size + 1 < w1.heap.size := blk_lt Z1.out
                 have r0 := (blk_cell Z1.out 0).trans rfl
                 have rf0 := blk_frozen Z1.out 0
                 have r1 := (blk_cell Z1.out 1).trans rfl
                 have rf1 := blk_frozen Z1.out 1
                 have r2 := (blk_cell Z1.out 2).trans rfl
                 have rf2 := blk_frozen Z1.out 2
                 have r3 := (blk_cell Z1.out 3).trans rfl
                 have rf3 := blk_frozen Z1.out 3
                 clear hb1)
    refine bodyPost_ret (resD rfl _ _ (w.heap.size + 1) (.int .i64 0) (.int .i64 0) (.slice none 0 0) (.slice none 0 0) (.int .i64 er) rfl rfl (by go_simp) (by go_simp) (by go_simp) (by go_simp)) rfl ?_
    refine detPostE_none _ _ _ ?_
    with_reducible repeat (first | exact B1.out | refine below_set ?_ (Nat.le_succ _))
theorem mkF_bit {ms : List Int} (h : ∀ m ∈ ms, m = 0 ∨ m = 1) (q : Nat) : mkF ms q = 0 ∨ mkF ms q = 1 := by
  unfold mkF
  rw [List.getD_eq_getElem?_getD]
  by_cases hq : q < ms.length
  · rw [List.getElem?_eq_getElem hq]; exact h _ (List.getElem_mem _)
  · rw [List.getElem?_eq_none (by omega)]; exact .inl rfl
end Go.Proofs.Ytampgoendkjkhaa.H
