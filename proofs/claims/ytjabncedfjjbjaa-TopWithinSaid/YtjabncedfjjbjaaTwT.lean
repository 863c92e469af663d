/- The walk of TopWithin. -/
import Derived.Test.YtjabncedfjjbjaaTwP
import Derived.Test.YtjabncedfjjbjaaDv
namespace Go.Proofs.Ytjabncedfjjbjaa.H
open Go.RowKit Go.Shelf Go.Proofs.YtjabncedfjjbjaaW.PrintWords Go.Proofs.YtjabncedfjjbjaaW.PrintMore Go.Proofs.Ytjabncedfjjbjaa.DtM
set_option linter.unusedVariables false
set_option linter.unusedSimpArgs false
theorem one_least : dlF 1 0 [[0]] [1] = (1, [[0]], [1], 0) := by decide
theorem detE_at {w w' : World} {e : Ending} {d : Int × List (List Int) × List Int × Int} (L' er : Int) (R : List (List Int)) (M : List Int) (hd : d = (L', R, M, er)) (h : DetPostE w w' e d) : ∃ AN cN AM cM, e = .returned (.tuple #[.agg #[.int .i64 L', .int .i64 0, .slice AN R.length cN, .slice AM M.length cM], .int .i64 er]) ∧ Below w.heap.size w w' ∧ DetV w' w.heap.size w'.heap.size AN cN AM cM R M := by
  subst hd
  obtain ⟨AN, cN, AM, cM, he, hb, sN, sM, _, hN, hM⟩ := h
  exact ⟨AN, cN, AM, cM, he, hb, detV_of hN hM⟩
theorem one_call (W : World) (b1 b2 b3 : Nat) (h1 : W.cell? ⟨b1, 0, none⟩ = some (.int .i64 0)) (h2 : W.cell? ⟨b2, 0, none⟩ = some (.slice (some ⟨b1, 0, none⟩) 1 1)) (h3 : W.cell? ⟨b3, 0, none⟩ = some (.int .i64 1)) :
    Calls Try.prog 37 #[.agg #[.int .i64 1, .int .i64 0, .slice (some ⟨b2, 0, none⟩) 1 1, .slice (some ⟨b3, 0, none⟩) 1 1]] W fun e w' => ∃ AN cN AM cM, e = .returned (.tuple #[.agg #[.int .i64 1, .int .i64 0, .slice AN 1 cN, .slice AM 1 cM], .int .i64 0]) ∧ Below W.heap.size W w' := by
  have c1 := lit_row (t := 3) h2 rfl (Nat.le_refl _) (lit_C h1)
  refine (dl_calls 1 0 _ _ 1 1 [[0]] [1] W c1 (Nat.le_refl _) (lit_C h3) (Nat.le_refl _)).mono ?_
  intro e w' h
  obtain ⟨AN, cN, AM, cM, he, hb, _⟩ := detE_at 1 0 [[0]] [1] one_least h
  exact ⟨AN, cN, AM, cM, he, hb⟩
theorem up_at (L st : Int) (A2 A3 : Option Addr) (n2 n3 c2 c3 : Nat) (nx : List (List Int)) (ms : List Int) (w : World) (hn2 : n2 = nx.length) (hn3 : n3 = ms.length) (hr2 : Kd.C (Kd.slice 3 (Kd.int .i64)) w A2 n2 nx) (hr3 : Kd.C (Kd.int .i64) w A3 n3 ms) (L' er : Int) (R : List (List Int)) (M : List Int) (h : upF L st nx ms = (L', R, M, er)) :
    Calls Try.prog 38 #[.agg #[.int .i64 L, .int .i64 st, .slice A2 n2 c2, .slice A3 n3 c3]] w fun e w' => ∃ AN cN AM cM, e = .returned (.tuple #[.agg #[.int .i64 L', .int .i64 0, .slice AN R.length cN, .slice AM M.length cM], .int .i64 er]) ∧ Below w.heap.size w w' ∧ DetV w' w.heap.size w'.heap.size AN cN AM cM R M := by
  subst hn2 hn3
  exact (up_calls L st A2 A3 c2 c3 nx ms w hr2 hr3).mono fun e w' q => detE_at L' er R M h q
theorem dn_at (L st : Int) (A2 A3 : Option Addr) (n2 n3 c2 c3 : Nat) (nx : List (List Int)) (ms : List Int) (w : World) (hn2 : n2 = nx.length) (hn3 : n3 = ms.length) (hr2 : Kd.C (Kd.slice 3 (Kd.int .i64)) w A2 n2 nx) (hr3 : Kd.C (Kd.int .i64) w A3 n3 ms) (L' er : Int) (R : List (List Int)) (M : List Int) (h : dnF L st nx ms = (L', R, M, er)) :
    Calls Try.prog 39 #[.agg #[.int .i64 L, .int .i64 st, .slice A2 n2 c2, .slice A3 n3 c3]] w fun e w' => ∃ AN cN AM cM, e = .returned (.tuple #[.agg #[.int .i64 L', .int .i64 0, .slice AN R.length cN, .slice AM M.length cM], .int .i64 er]) ∧ Below w.heap.size w w' ∧ DetV w' w.heap.size w'.heap.size AN cN AM cM R M := by
  subst hn2 hn3
  exact (dn_calls L st A2 A3 c2 c3 nx ms w hr2 hr3).mono fun e w' q => detE_at L' er R M h q
theorem mx_at (L st : Nat) (A2 A3 B2 B3 : Option Addr) (n2 n3 m2 m3 c2 c3 d2 d3 : Nat) (nx R : List (List Int)) (ms M : List Int) (w : World) (hn2 : n2 = nx.length) (hn3 : n3 = ms.length) (hm2 : m2 = R.length) (hm3 : m3 = M.length) (hr2 : Kd.C (Kd.slice 3 (Kd.int .i64)) w A2 n2 nx) (hr3 : Kd.C (Kd.int .i64) w A3 n3 ms) (hs2 : Kd.C (Kd.slice 3 (Kd.int .i64)) w B2 m2 R) (hs3 : Kd.C (Kd.int .i64) w B3 m3 M) (hok : MxOk L st 0 nx ms R M)
    (h1 : (lstR L (mxRx L st 0 nx R) (mxMx L st 0 nx R 4 ms M) 0).length = 1) (h2 : lstM L (mxRx L st 0 nx R) (mxMx L st 0 nx R 4 ms M) 0 = [0]) :
    Calls Try.prog 40 #[.agg #[.int .i64 (L : Int), .int .i64 (st : Int), .slice A2 n2 c2, .slice A3 n3 c3], .agg #[.int .i64 (L : Int), .int .i64 0, .slice B2 m2 d2, .slice B3 m3 d3], .int .i64 4] w fun e w' => ∃ AN cN g cM, e = .returned (.tuple #[.agg #[.int .i64 (L : Int), .int .i64 0, .slice AN 1 cN, .slice (some ⟨g, 0, none⟩) 1 cM], .int .i64 0]) ∧ Below w.heap.size w w' ∧ w'.cell? ⟨g, 0, none⟩ = some (.int .i64 0) ∧ g < w'.heap.size := by
  subst hn2 hn3 hm2 hm3
  refine (mixed_calls L st 0 A2 A3 B2 B3 c2 c3 d2 d3 nx R ms M 4 w hr2 hr3 hs2 hs3 hok (by decide) (by decide)).mono fun e w' q => ?_
  obtain ⟨AN, cN, AM, cM, he, hb, sN, sM, _, hN, hM⟩ := q
  simp only at he hN hM
  rw [h2] at he hM
  rw [h1] at he
  cases AM with
  | none =>
    obtain ⟨_, e, _⟩ := int_get (i := 0) (Kd.R_reads' hM).2.2 rfl (by simp)
    cases e
  | some ay =>
    obtain ⟨g, rfl, _, hrow, hgb, hgs⟩ := row_of_R hM
    have hc := hrow.cell (i := 0) (by simp)
    exact ⟨AN, cN, g, cM, he, hb, hc, hrow.lt⟩
set_option maxHeartbeats 8000000 in
set_option maxRecDepth 100000 in
theorem tw_no (L st : Int) (A2 A3 : Option Addr) (c2 c3 : Nat) (nx : List (List Int)) (ms : List Int) (w : World) (hr2 : Kd.C (Kd.slice 3 (Kd.int .i64)) w A2 nx.length nx) (hr3 : Kd.C (Kd.int .i64) w A3 ms.length ms) (er : Int) (h1 : upF L st nx ms = (0, [], [], er)) (h2 : dnF L st nx ms = (0, [], [], er)) (her : er ≠ 0) :
    Calls Try.prog 12 (dArgs L st A2 A3 c2 c3 nx ms) w fun e w' => e = .returned (.bool true) ∧ Below w.heap.size w w' := by
  have HR2 := Aside0.mk hr2
  have HR3 := Aside0.mk hr3
  have H1 := Aside0.mk h1
  have H2 := Aside0.mk h2
  have hne : (er != 0) = true := by simpa using her
  clear hr2 hr3 h1 h2 her
  go_enter Try.func12, Try.ntmps12
  go_wp2_with (first
    | (go_at_call 37; refine calls_let ?_; intro W2 hW2; have X2 : Aside0 (W2.heap[w.heap.size]? = some (.cells #[.int .i64 L, .int .i64 st, .slice A2 nx.length c2, .slice A3 ms.length c3] 80 (0, 0))) := ⟨by rw [hW2]; repeat (first | exact blk_new _ _ | refine blk_alloc ?_ _)⟩; have B2 : Aside0 (Below w.heap.size w W2) := ⟨by rw [hW2]; repeat (first | exact Below.refl _ _ | apply below_alloc)⟩; have hcall := one_call W2 (w.heap.size + 1) (w.heap.size + 1 + 1) (w.heap.size + 1 + 1 + 1) (by rw [hW2]; go_simp) (by rw [hW2]; go_simp) (by rw [hW2]; go_simp); clear hW2; refine hcall.mono ?_; clear hcall; rintro e w3 ⟨AN0, cN0, AM0, cM0, rfl, hb3⟩; have X3 := Aside0.mk (blk_below X2.out hb3); have B3 := Aside0.mk (below_step B2.out hb3); have k30 : w3.cell? ⟨w.heap.size, 0, none⟩ = some (.int .i64 L) := (blk_cell X3.out 0).trans rfl; have k31 : w3.cell? ⟨w.heap.size, 1, none⟩ = some (.int .i64 st) := (blk_cell X3.out 1).trans rfl; have k32 : w3.cell? ⟨w.heap.size, 2, none⟩ = some (.slice A2 nx.length c2) := (blk_cell X3.out 2).trans rfl; have k33 : w3.cell? ⟨w.heap.size, 3, none⟩ = some (.slice A3 ms.length c3) := (blk_cell X3.out 3).trans rfl; have z3 : w.heap.size < w3.heap.size := blk_lt X3.out; clear hb3 X2 B2)
    | (go_at_call 38
       refine (up_at L st A2 A3 nx.length ms.length c2 c3 nx ms _ rfl rfl (Kd.C_below HR2.out (by repeat (first | exact B3.out | apply below_alloc))) (Kd.C_below HR3.out (by repeat (first | exact B3.out | apply below_alloc))) 0 er [] [] H1.out).mono ?_
       rintro e w5 ⟨AN, cN, AM, cM, rfl, hb5, _⟩
       have X5 := Aside0.mk (blk_below (blk_alloc X3.out _) hb5)
       have B5 := Aside0.mk (below_step (below_alloc B3.out _) hb5)
       have k50 : w5.cell? ⟨w.heap.size, 0, none⟩ = some (.int .i64 L) := (blk_cell X5.out 0).trans rfl
       have k51 : w5.cell? ⟨w.heap.size, 1, none⟩ = some (.int .i64 st) := (blk_cell X5.out 1).trans rfl
       have k52 : w5.cell? ⟨w.heap.size, 2, none⟩ = some (.slice A2 nx.length c2) := (blk_cell X5.out 2).trans rfl
       have k53 : w5.cell? ⟨w.heap.size, 3, none⟩ = some (.slice A3 ms.length c3) := (blk_cell X5.out 3).trans rfl
       have z5 : w.heap.size < w5.heap.size := blk_lt X5.out
       clear hb5 k30 k31 k32 k33)
    | (go_at_call 39
       refine (dn_at L st A2 A3 nx.length ms.length c2 c3 nx ms _ rfl rfl (Kd.C_below HR2.out (by repeat (first | exact B5.out | apply below_alloc))) (Kd.C_below HR3.out (by repeat (first | exact B5.out | apply below_alloc))) 0 er [] [] H2.out).mono ?_
       rintro e w7 ⟨AP, cP, AQ, cQ, rfl, hb7, _⟩
       have B7 := Aside0.mk (below_step (below_alloc B5.out _) hb7)
       clear hb7 k50 k51 k52 k53)
    | fail)
  go_ret
  exact ⟨by simp, by
    with_reducible repeat (first | exact B7.out | refine below_alloc ?_ _)⟩
set_option maxHeartbeats 16000000 in
set_option maxRecDepth 100000 in
theorem tw_yes (L st : Nat) (A2 A3 : Option Addr) (c2 c3 : Nat) (nx : List (List Int)) (ms : List Int) (w : World) (hr2 : Kd.C (Kd.slice 3 (Kd.int .i64)) w A2 nx.length nx) (hr3 : Kd.C (Kd.int .i64) w A3 ms.length ms) (R1 R2 : List (List Int)) (M1 M2 : List Int) (h1 : upF (L : Int) (st : Int) nx ms = ((L : Int), R1, M1, 0)) (h2 : dnF (L : Int) (st : Int) nx ms = ((L : Int), R2, M2, 0))
    (hk1 : MxOk L st 0 nx ms R1 M1) (hk2 : MxOk L st 0 nx ms R2 M2) (hn1 : (lstR L (mxRx L st 0 nx R1) (mxMx L st 0 nx R1 4 ms M1) 0).length = 1 ∧ lstM L (mxRx L st 0 nx R1) (mxMx L st 0 nx R1 4 ms M1) 0 = [0]) (hn2 : (lstR L (mxRx L st 0 nx R2) (mxMx L st 0 nx R2 4 ms M2) 0).length = 1 ∧ lstM L (mxRx L st 0 nx R2) (mxMx L st 0 nx R2 4 ms M2) 0 = [0]) :
    Calls Try.prog 12 (dArgs (L : Int) (st : Int) A2 A3 c2 c3 nx ms) w fun e w' => e = .returned (.bool true) ∧ Below w.heap.size w w' := by
  have HR2 := Aside0.mk hr2
  have HR3 := Aside0.mk hr3
  have H1 := Aside0.mk h1
  have H2 := Aside0.mk h2
  have K1 := Aside0.mk hk1
  have K2 := Aside0.mk hk2
  have N1 := Aside0.mk hn1
  have N2 := Aside0.mk hn2
  clear hr2 hr3 h1 h2 hk1 hk2 hn1 hn2
  obtain ⟨Lz, hLz⟩ : ∃ Lz : Int, (L : Int) = Lz := ⟨_, rfl⟩
  obtain ⟨sz, hsz⟩ : ∃ sz : Int, (st : Int) = sz := ⟨_, rfl⟩
  have HLZ := Aside0.mk (And.intro hLz hsz)
  rw [hLz, hsz] at H1 H2 ⊢
  clear hLz hsz
  have tok1 : True := trivial
  go_enter Try.func12, Try.ntmps12
  go_wp2_with (first
    | (go_at_call 37; refine calls_let ?_; intro W2 hW2; have X2 : Aside0 (W2.heap[w.heap.size]? = some (.cells #[.int .i64 Lz, .int .i64 sz, .slice A2 nx.length c2, .slice A3 ms.length c3] 80 (0, 0))) := ⟨by rw [hW2]; repeat (first | exact blk_new _ _ | refine blk_alloc ?_ _)⟩; have B2 : Aside0 (Below w.heap.size w W2) := ⟨by rw [hW2]; repeat (first | exact Below.refl _ _ | apply below_alloc)⟩; have hcall := one_call W2 (w.heap.size + 1) (w.heap.size + 1 + 1) (w.heap.size + 1 + 1 + 1) (by rw [hW2]; go_simp) (by rw [hW2]; go_simp) (by rw [hW2]; go_simp); clear hW2; refine hcall.mono ?_; clear hcall; rintro e w3 ⟨AN0, cN0, AM0, cM0, rfl, hb3⟩; have X3 := Aside0.mk (blk_below X2.out hb3); have B3 := Aside0.mk (below_step B2.out hb3); have k30 : w3.cell? ⟨w.heap.size, 0, none⟩ = some (.int .i64 Lz) := (blk_cell X3.out 0).trans rfl; have k31 : w3.cell? ⟨w.heap.size, 1, none⟩ = some (.int .i64 sz) := (blk_cell X3.out 1).trans rfl; have k32 : w3.cell? ⟨w.heap.size, 2, none⟩ = some (.slice A2 nx.length c2) := (blk_cell X3.out 2).trans rfl; have k33 : w3.cell? ⟨w.heap.size, 3, none⟩ = some (.slice A3 ms.length c3) := (blk_cell X3.out 3).trans rfl; have z3 : w.heap.size < w3.heap.size := blk_lt X3.out; clear hb3 X2 B2)
    | (go_at_call 38
       refine (up_at Lz sz A2 A3 nx.length ms.length c2 c3 nx ms _ rfl rfl (Kd.C_below HR2.out (by repeat (first | exact B3.out | apply below_alloc))) (Kd.C_below HR3.out (by repeat (first | exact B3.out | apply below_alloc))) Lz 0 R1 M1 H1.out).mono ?_
       rintro e w5 ⟨AN, cN, AM, cM, rfl, hb5, hV5⟩
       have X5 := Aside0.mk (blk_below (blk_alloc X3.out _) hb5)
       have B5 := Aside0.mk (below_step (below_alloc B3.out _) hb5)
       have V5 := Aside0.mk hV5
       have k50 : w5.cell? ⟨w.heap.size, 0, none⟩ = some (.int .i64 Lz) := (blk_cell X5.out 0).trans rfl
       have k51 : w5.cell? ⟨w.heap.size, 1, none⟩ = some (.int .i64 sz) := (blk_cell X5.out 1).trans rfl
       have k52 : w5.cell? ⟨w.heap.size, 2, none⟩ = some (.slice A2 nx.length c2) := (blk_cell X5.out 2).trans rfl
       have k53 : w5.cell? ⟨w.heap.size, 3, none⟩ = some (.slice A3 ms.length c3) := (blk_cell X5.out 3).trans rfl
       have z5 : w.heap.size < w5.heap.size := blk_lt X5.out
       clear hb5 hV5 k30 k31 k32 k33)
    | (go_at_call 39
       refine (dn_at Lz sz A2 A3 nx.length ms.length c2 c3 nx ms _ rfl rfl (Kd.C_below HR2.out (by repeat (first | exact B5.out | apply below_alloc))) (Kd.C_below HR3.out (by repeat (first | exact B5.out | apply below_alloc))) Lz 0 R2 M2 H2.out).mono ?_
       rintro e w7 ⟨AP, cP, AQ, cQ, rfl, hb7, hV7⟩
       have X7 := Aside0.mk (blk_below (blk_alloc X5.out _) hb7)
       have D7 := Aside0.mk (show w7.heap[w5.heap.size]? = some (.cells #[.int .i64 Lz, .int .i64 0, .slice AN R1.length cN, .slice AM M1.length cM] 80 (0, 0)) from blk_below (blk_new w5 _) hb7)
       have B7 := Aside0.mk (below_step (below_alloc B5.out _) hb7)
       have V57 := Aside0.mk ((V5.out.below (below_alloc (Below.refl _ _) _)).below hb7)
       have V7 := Aside0.mk hV7
       have k70 : w7.cell? ⟨w.heap.size, 0, none⟩ = some (.int .i64 Lz) := (blk_cell X7.out 0).trans rfl
       have k71 : w7.cell? ⟨w.heap.size, 1, none⟩ = some (.int .i64 sz) := (blk_cell X7.out 1).trans rfl
       have k72 : w7.cell? ⟨w.heap.size, 2, none⟩ = some (.slice A2 nx.length c2) := (blk_cell X7.out 2).trans rfl
       have k73 : w7.cell? ⟨w.heap.size, 3, none⟩ = some (.slice A3 ms.length c3) := (blk_cell X7.out 3).trans rfl
       have d70 : w7.cell? ⟨w5.heap.size, 0, none⟩ = some (.int .i64 Lz) := (blk_cell D7.out 0).trans rfl
       have d71 : w7.cell? ⟨w5.heap.size, 1, none⟩ = some (.int .i64 0) := (blk_cell D7.out 1).trans rfl
       have d72 : w7.cell? ⟨w5.heap.size, 2, none⟩ = some (.slice AN R1.length cN) := (blk_cell D7.out 2).trans rfl
       have d73 : w7.cell? ⟨w5.heap.size, 3, none⟩ = some (.slice AM M1.length cM) := (blk_cell D7.out 3).trans rfl
       have z7 : w.heap.size < w7.heap.size := blk_lt X7.out
       have z57 : w5.heap.size < w7.heap.size := blk_lt D7.out
       clear hb7 hV7 V5 k50 k51 k52 k53)
    | (go_at_call 40
       have _t := tok1
       rw [← HLZ.out.1, ← HLZ.out.2]
       refine calls_let ?_
       intro W8 hW8
       have hb8 : Below w7.heap.size w7 W8 := by rw [hW8]; exact below_alloc (Below.refl _ _) _
       have X8 := Aside0.mk (blk_below X7.out hb8)
       have Q8 := Aside0.mk (show W8.heap[w7.heap.size]? = some (.cells #[.int .i64 Lz, .int .i64 0, .slice AP R2.length cP, .slice AQ M2.length cQ] 80 (0, 0)) from by rw [hW8]; rw [HLZ.out.1]; exact blk_new w7 _)
       have B8 := Aside0.mk (below_step B7.out hb8)
       have V58 := V57.out.below hb8
       have V8 := Aside0.mk (V7.out.below hb8)
       clear hW8 hb8
       refine (mx_at L st A2 A3 AN AM nx.length ms.length R1.length M1.length c2 c3 cN cM nx R1 ms M1 W8 rfl rfl rfl rfl (Kd.C_below HR2.out B8.out) (Kd.C_below HR3.out B8.out) V58.caps.2.2.1 V58.caps.2.2.2 K1.out N1.out.1 N1.out.2).mono ?_
       clear V58
       rintro e w9 ⟨AE, cE, ge, cF, rfl, hb9, hce, hge⟩
       rw [HLZ.out.1]
       have X9 := Aside0.mk (blk_below X8.out hb9)
       have Q9 := Aside0.mk (blk_below Q8.out hb9)
       have B9 := Aside0.mk (below_step B8.out hb9)
       have V9 := Aside0.mk (V8.out.below hb9)
       have E9 := Aside0.mk hce
       have GE := Aside0.mk hge
       have k90 : w9.cell? ⟨w.heap.size, 0, none⟩ = some (.int .i64 Lz) := (blk_cell X9.out 0).trans rfl
       have k91 : w9.cell? ⟨w.heap.size, 1, none⟩ = some (.int .i64 sz) := (blk_cell X9.out 1).trans rfl
       have k92 : w9.cell? ⟨w.heap.size, 2, none⟩ = some (.slice A2 nx.length c2) := (blk_cell X9.out 2).trans rfl
       have k93 : w9.cell? ⟨w.heap.size, 3, none⟩ = some (.slice A3 ms.length c3) := (blk_cell X9.out 3).trans rfl
       have d90 : w9.cell? ⟨w7.heap.size, 0, none⟩ = some (.int .i64 Lz) := (blk_cell Q9.out 0).trans rfl
       have d91 : w9.cell? ⟨w7.heap.size, 1, none⟩ = some (.int .i64 0) := (blk_cell Q9.out 1).trans rfl
       have d92 : w9.cell? ⟨w7.heap.size, 2, none⟩ = some (.slice AP R2.length cP) := (blk_cell Q9.out 2).trans rfl
       have d93 : w9.cell? ⟨w7.heap.size, 3, none⟩ = some (.slice AQ M2.length cQ) := (blk_cell Q9.out 3).trans rfl
       have z9 : w.heap.size < w9.heap.size := blk_lt X9.out
       have z79 : w7.heap.size < w9.heap.size := blk_lt Q9.out
       clear hb9 hce hge k70 k71 k72 k73 d70 d71 d72 d73 z7 z57 tok1)
    | (go_at_call 40
       rw [← HLZ.out.1, ← HLZ.out.2]
       refine calls_let ?_
       intro W10 hW10
       have hb10 : Below w9.heap.size w9 W10 := by rw [hW10]; exact below_alloc (Below.refl _ _) _
       have Q10 := Aside0.mk (show W10.heap[w9.heap.size]? = some (.cells #[.int .i64 Lz, .int .i64 0, .slice AE 1 cE, .slice (some ⟨ge, 0, none⟩) 1 cF] 80 (0, 0)) from by rw [hW10]; rw [HLZ.out.1]; exact blk_new w9 _)
       have B10 := Aside0.mk (below_step B9.out hb10)
       have E10 := Aside0.mk ((hb10.cell (p := ⟨ge, 0, none⟩) GE.out).trans E9.out)
       have G10 := Aside0.mk (Nat.lt_of_lt_of_le GE.out hb10.size)
       have V10 := V9.out.below hb10
       clear hW10 hb10
       refine (mx_at L st A2 A3 AP AQ nx.length ms.length R2.length M2.length c2 c3 cP cQ nx R2 ms M2 W10 rfl rfl rfl rfl (Kd.C_below HR2.out B10.out) (Kd.C_below HR3.out B10.out) V10.caps.2.2.1 V10.caps.2.2.2 K2.out N2.out.1 N2.out.2).mono ?_
       clear V10
       rintro e w11 ⟨AI, cI, gi, cJ, rfl, hb11, hci, hgi⟩
       rw [HLZ.out.1]
       have Q11 := Aside0.mk (blk_below Q10.out hb11)
       have B11 := Aside0.mk (below_step B10.out hb11)
       have e11 : w11.cell? ⟨ge, 0, none⟩ = some (.int .i64 0) := (hb11.cell (p := ⟨ge, 0, none⟩) G10.out).trans E10.out
       have q12 : w11.cell? ⟨w9.heap.size, 2, none⟩ = some (.slice AE 1 cE) := (blk_cell Q11.out 2).trans rfl
       have q13 : w11.cell? ⟨w9.heap.size, 3, none⟩ = some (.slice (some ⟨ge, 0, none⟩) 1 cF) := (blk_cell Q11.out 3).trans rfl
       have z11 : w9.heap.size < w11.heap.size := blk_lt Q11.out
       have zg1 : ge < w11.heap.size := by have := G10.out; have := hb11.size; omega
       clear hb11 k90 k91 k92 k93 d90 d91 d92 d93 z9 z79)
    | fail)
  go_ret
  exact ⟨rfl, by
    with_reducible repeat (first | exact B11.out | refine below_alloc ?_ _)⟩
theorem tw_calls (L st : Int) (A2 A3 : Option Addr) (c2 c3 : Nat) (nx : List (List Int)) (ms : List Int) (w : World) (hr2 : Kd.C (Kd.slice 3 (Kd.int .i64)) w A2 nx.length nx) (hr3 : Kd.C (Kd.int .i64) w A3 ms.length ms) :
    Calls Try.prog 12 (dArgs L st A2 A3 c2 c3 nx ms) w fun e w' => e = .returned (.bool true) ∧ Below w.heap.size w w' := by
  by_cases h : smF L st nx ms = 0
  · obtain ⟨L, st, rfl, rfl, hok⟩ := smOk_of h
    have g1 := up_has hok
    have g2 := dn_has hok
    refine tw_yes L st A2 A3 c2 c3 nx ms w hr2 hr3 _ _ _ _ ?_ ?_ (tw_ok hok g1) (tw_ok hok g2) (tw_none hok g1 rfl rfl) (tw_none hok g2 rfl rfl)
    · unfold upF; rw [if_pos h, Int.toNat_natCast, Int.toNat_natCast]
    · unfold dnF; rw [if_pos h, Int.toNat_natCast, Int.toNat_natCast]
  · refine tw_no L st A2 A3 c2 c3 nx ms w hr2 hr3 (smF L st nx ms) ?_ ?_ h
    · unfold upF; rw [if_neg h]
    · unfold dnF; rw [if_neg h]
end Go.Proofs.Ytjabncedfjjbjaa.H
