/- The walk of HigmanTwice. -/
import Derived.Test.YtampgoendkjkhaaHtL
namespace Go.Proofs.Ytampgoendkjkhaa.H
open Go.RowKit Go.Shelf Go.Proofs.YtampgoendkjkhaaW.PrintWords Go.Proofs.YtampgoendkjkhaaW.PrintMore Go.Proofs.Ytampgoendkjkhaa.DtM
set_option linter.unusedVariables false
set_option linter.unusedSimpArgs false
theorem detE_at {w w' : World} {e : Ending} {d : Int × List (List Int) × List Int × Int} (L' er : Int) (R : List (List Int)) (M : List Int) (hd : d = (L', R, M, er)) (h : DetPostE w w' e d) : ∃ AN cN AM cM, e = .returned (.tuple #[.agg #[.int .i64 L', .int .i64 0, .slice AN R.length cN, .slice AM M.length cM], .int .i64 er]) ∧ Below w.heap.size w w' ∧ DetV w' w.heap.size w'.heap.size AN cN AM cM R M := by
  subst hd
  obtain ⟨AN, cN, AM, cM, he, hb, sN, sM, _, hN, hM⟩ := h
  exact ⟨AN, cN, AM, cM, he, hb, detV_of hN hM⟩
def DetAt (L' er : Int) (R : List (List Int)) (M : List Int) (w w' : World) (e : Ending) : Prop := ∃ AN cN AM cM, e = .returned (.tuple #[.agg #[.int .i64 L', .int .i64 0, .slice AN R.length cN, .slice AM M.length cM], .int .i64 er]) ∧ Below w.heap.size w w' ∧ DetV w' w.heap.size w'.heap.size AN cN AM cM R M
theorem up_at (L st : Int) (A2 A3 : Option Addr) (n2 n3 c2 c3 : Nat) (nx : List (List Int)) (ms : List Int) (w : World) (hn2 : n2 = nx.length) (hn3 : n3 = ms.length) (hr2 : Kd.C (Kd.slice 3 (Kd.int .i64)) w A2 n2 nx) (hr3 : Kd.C (Kd.int .i64) w A3 n3 ms) (L' er : Int) (R : List (List Int)) (M : List Int) (h : upF L st nx ms = (L', R, M, er)) :
    Calls Try.prog 35 #[.agg #[.int .i64 L, .int .i64 st, .slice A2 n2 c2, .slice A3 n3 c3]] w fun e w' => DetAt L' er R M w w' e := by
  subst hn2 hn3
  exact (up_calls L st A2 A3 c2 c3 nx ms w hr2 hr3).mono fun e w' q => detE_at L' er R M h q
theorem dn_at (L st : Int) (A2 A3 : Option Addr) (n2 n3 c2 c3 : Nat) (nx : List (List Int)) (ms : List Int) (w : World) (hn2 : n2 = nx.length) (hn3 : n3 = ms.length) (hr2 : Kd.C (Kd.slice 3 (Kd.int .i64)) w A2 n2 nx) (hr3 : Kd.C (Kd.int .i64) w A3 n3 ms) (L' er : Int) (R : List (List Int)) (M : List Int) (h : dnF L st nx ms = (L', R, M, er)) :
    Calls Try.prog 36 #[.agg #[.int .i64 L, .int .i64 st, .slice A2 n2 c2, .slice A3 n3 c3]] w fun e w' => DetAt L' er R M w w' e := by
  subst hn2 hn3
  exact (dn_calls L st A2 A3 c2 c3 nx ms w hr2 hr3).mono fun e w' q => detE_at L' er R M h q
theorem dl_at (L st : Int) (A2 A3 : Option Addr) (n2 n3 c2 c3 : Nat) (nx : List (List Int)) (ms : List Int) (w : World) (hn2 : n2 = nx.length) (hn3 : n3 = ms.length) (hr2 : Kd.C (Kd.slice 3 (Kd.int .i64)) w A2 n2 nx) (hc2 : n2 ≤ c2) (hr3 : Kd.C (Kd.int .i64) w A3 n3 ms) (hc3 : n3 ≤ c3) (L' er : Int) (R : List (List Int)) (M : List Int) (h : dlF L st nx ms = (L', R, M, er)) :
    Calls Try.prog 38 #[.agg #[.int .i64 L, .int .i64 st, .slice A2 n2 c2, .slice A3 n3 c3]] w fun e w' => DetAt L' er R M w w' e := by
  subst hn2 hn3
  exact (dl_calls L st A2 A3 c2 c3 nx ms w hr2 hc2 hr3 hc3).mono fun e w' q => detE_at L' er R M h q
theorem lit_rows2 {W : World} {b b1 b2 : Nat} {x y : Int} (h0 : W.cell? ⟨b, 0, none⟩ = some (.slice (some ⟨b1, 0, none⟩) 1 1)) (h1 : W.cell? ⟨b, 1, none⟩ = some (.slice (some ⟨b2, 0, none⟩) 1 1)) (hx : W.cell? ⟨b1, 0, none⟩ = some (.int .i64 x)) (hy : W.cell? ⟨b2, 0, none⟩ = some (.int .i64 y)) : Kd.C (Kd.slice 3 (Kd.int .i64)) W (some ⟨b, 0, none⟩) 2 [[x], [y]] := by
  refine ⟨rfl, by decide, fun _ => ⟨_, rfl, fun j p hj => ?_⟩⟩
  match j, hj with
  | 0, hj =>
    obtain rfl : [x] = p := by simpa using hj
    refine ⟨[.slice (some ⟨b1, 0, none⟩) 1 1], rfl, ⟨_, 1, rfl, Nat.le_refl _, lit_C hx⟩, fun i u hu => ?_⟩
    match i, hu with
    | 0, hu =>
      obtain rfl : Value.slice (some ⟨b1, 0, none⟩) 1 1 = u := by simpa using hu
      simpa [Addr.add] using h0
  | 1, hj =>
    obtain rfl : [y] = p := by simpa using hj
    refine ⟨[.slice (some ⟨b2, 0, none⟩) 1 1], rfl, ⟨_, 1, rfl, Nat.le_refl _, lit_C hy⟩, fun i u hu => ?_⟩
    match i, hu with
    | 0, hu =>
      obtain rfl : Value.slice (some ⟨b2, 0, none⟩) 1 1 = u := by simpa using hu
      simpa [Addr.add, show (Kd.slice 3 (Kd.int .i64)).sz = 1 from rfl] using h1
theorem lit_ints2 {W : World} {b : Nat} {x y : Int} (h : W.cell? ⟨b, 0, none⟩ = some (.int .i64 x)) (h' : W.cell? ⟨b, 1, none⟩ = some (.int .i64 y)) : Kd.C (Kd.int .i64) W (some ⟨b, 0, none⟩) 2 [x, y] := by
  refine ⟨rfl, by decide, fun _ => ⟨_, rfl, fun j p hj => ?_⟩⟩
  match j, hj with
  | 0, hj =>
    obtain rfl : x = p := by simpa using hj
    refine ⟨[.int .i64 x], rfl, rfl, fun i u hu => ?_⟩
    match i, hu with
    | 0, hu =>
      obtain rfl : Value.int .i64 x = u := by simpa using hu
      simpa [Addr.add] using h
  | 1, hj =>
    obtain rfl : y = p := by simpa using hj
    refine ⟨[.int .i64 y], rfl, rfl, fun i u hu => ?_⟩
    match i, hu with
    | 0, hu =>
      obtain rfl : Value.int .i64 y = u := by simpa using hu
      simpa [Addr.add, show (Kd.int .i64).sz = 1 from rfl] using h'
theorem notM_take {M : List Int} {q : Nat} (h : q < M.length) : notM (M.take (q + 1)) = notM (M.take q) ++ [1 - M[q]] := by
  unfold notM
  rw [take_snoc' M h, List.map_append]
  rfl
theorem notM_len (M : List Int) : (notM M).length = M.length := by unfold notM; rw [List.length_map]
theorem notM_take_len {M : List Int} {q : Nat} (h : q ≤ M.length) : (notM (M.take q)).length = q := by rw [notM_len, List.length_take]; omega
theorem ht_cellA {W W' : World} {a : Addr} {i : Nat} (e : W'.heap[a.block]? = W.heap[a.block]?) : W'.cell? (a.add i) = W.cell? (a.add i) := by
  have h : (a.add i).block = a.block := by unfold Addr.add; split <;> rfl
  unfold World.cell?
  rw [h, e]
theorem C_lt11 {W : World} {am : Addr} {n : Nat} {M : List Int} {q : Nat} (h : Kd.C (Kd.int .i64) W (some am) n M) (hq : q < M.length) : am.block < W.heap.size := by
  obtain ⟨ad, e, hc⟩ := int_get h h.1.symm hq
  cases e
  have hb : (am.add q).block = am.block := by unfold Addr.add; split <;> rfl
  rcases Nat.lt_or_ge am.block W.heap.size with g | g
  · exact g
  · unfold World.cell? at hc
    rw [hb, Array.getElem?_eq_none (by exact g)] at hc
    cases hc
set_option maxHeartbeats 16000000 in
set_option maxRecDepth 100000 in
theorem ht_er (Lz sz La Lb : Int) (A2 A3 : Option Addr) (c2 c3 : Nat) (nx : List (List Int)) (ms : List Int) (w : World) (hr2 : Kd.C (Kd.slice 3 (Kd.int .i64)) w A2 nx.length nx) (hr3 : Kd.C (Kd.int .i64) w A3 ms.length ms) (R1 R2 : List (List Int)) (M1 M2 : List Int) (er : Int) (h1 : upF Lz sz nx ms = (La, R1, M1, er)) (h2 : dnF Lz sz nx ms = (Lb, R2, M2, er)) (her : er ≠ 0) :
    Calls Try.prog 11 #[.agg #[.int .i64 Lz, .int .i64 sz, .slice A2 nx.length c2, .slice A3 ms.length c3]] w fun e w' => e = .returned (.bool true) ∧ Below w.heap.size w w' := by
  have HR2 := Aside0.mk hr2
  have HR3 := Aside0.mk hr3
  have H1 := Aside0.mk h1
  have H2 := Aside0.mk h2
  have hne : (er != 0) = true := by simpa using her
  have hee : (er == er) = true := by simp
  clear hr2 hr3 h1 h2 her
  have tokU : True := trivial
  have tokD1 : True := trivial
  go_enter Try.func11, Try.ntmps11
  go_wp2_with (first
    | (go_at_call 34; refine calls_let ?_; intro W2 hW2; have X2 : Aside0 (W2.heap[w.heap.size]? = some (.cells #[.int .i64 Lz, .int .i64 sz, .slice A2 nx.length c2, .slice A3 ms.length c3] 101 (0, 0))) := ⟨by rw [hW2]; repeat (first | exact blk_new _ _ | refine blk_alloc ?_ _)⟩; have B2 : Aside0 (Below w.heap.size w W2) := ⟨by rw [hW2]; repeat (first | exact Below.refl _ _ | apply below_alloc)⟩; have hN2 := lit_rows2 (W := W2) (b := w.heap.size + 1 + 1 + 1) (b1 := w.heap.size + 1) (b2 := w.heap.size + 1 + 1) (x := 1) (y := 1) (by rw [hW2]; go_simp) (by rw [hW2]; go_simp) (by rw [hW2]; go_simp) (by rw [hW2]; go_simp); have hM2 := lit_ints2 (W := W2) (b := w.heap.size + 1 + 1 + 1 + 1) (x := 0) (y := 1) (by rw [hW2]; go_simp) (by rw [hW2]; go_simp); clear hW2; refine (least_tiny _ _ W2 hN2 hM2).mono ?_; clear hN2 hM2; rintro e w3 ⟨ad0, c0, A0, d0, rfl, hb3, hx3⟩; have X3 := Aside0.mk (blk_below X2.out hb3); have B3 := Aside0.mk (below_step B2.out hb3); have k30 : w3.cell? ⟨w.heap.size, 0, none⟩ = some (.int .i64 Lz) := (blk_cell X3.out 0).trans rfl; have k31 : w3.cell? ⟨w.heap.size, 1, none⟩ = some (.int .i64 sz) := (blk_cell X3.out 1).trans rfl; have k32 : w3.cell? ⟨w.heap.size, 2, none⟩ = some (.slice A2 nx.length c2) := (blk_cell X3.out 2).trans rfl; have k33 : w3.cell? ⟨w.heap.size, 3, none⟩ = some (.slice A3 ms.length c3) := (blk_cell X3.out 3).trans rfl; have z3 : w.heap.size < w3.heap.size := blk_lt X3.out; clear hb3 X2 B2)
    | (go_at_call 35; have _t := tokU; refine (up_at Lz sz A2 A3 nx.length ms.length c2 c3 nx ms _ rfl rfl (Kd.C_below HR2.out (by repeat (first | exact B3.out | apply below_alloc))) (Kd.C_below HR3.out (by repeat (first | exact B3.out | apply below_alloc))) La er R1 M1 H1.out).mono ?_; rintro e w5 ⟨AN, cN, AM, cM, rfl, hb5, hV5⟩; have X5 := Aside0.mk (blk_below X3.out hb5); have B5 := Aside0.mk (below_step B3.out hb5); have V5 := Aside0.mk hV5; have k50 : w5.cell? ⟨w.heap.size, 0, none⟩ = some (.int .i64 Lz) := (blk_cell X5.out 0).trans rfl; have k51 : w5.cell? ⟨w.heap.size, 1, none⟩ = some (.int .i64 sz) := (blk_cell X5.out 1).trans rfl; have k52 : w5.cell? ⟨w.heap.size, 2, none⟩ = some (.slice A2 nx.length c2) := (blk_cell X5.out 2).trans rfl; have k53 : w5.cell? ⟨w.heap.size, 3, none⟩ = some (.slice A3 ms.length c3) := (blk_cell X5.out 3).trans rfl; have z5 : w.heap.size < w5.heap.size := blk_lt X5.out; clear hb5 hV5 k30 k31 k32 k33 z3 hx3 tokU)
    | (go_at_call 36; have _t := tokD1; refine (dn_at Lz sz A2 A3 nx.length ms.length c2 c3 nx ms _ rfl rfl (Kd.C_below HR2.out (by repeat (first | exact B5.out | apply below_alloc))) (Kd.C_below HR3.out (by repeat (first | exact B5.out | apply below_alloc))) Lb er R2 M2 H2.out).mono ?_; rintro e w7 ⟨AP, cP, AQ, cQ, rfl, hb7, hV7⟩; have D7 := Aside0.mk (show w7.heap[w5.heap.size]? = some (.cells #[.int .i64 La, .int .i64 0, .slice AN R1.length cN, .slice AM M1.length cM] 101 (0, 0)) from blk_below (blk_new w5 _) hb7); have B7 := Aside0.mk (below_step (below_alloc B5.out _) hb7); have V57 := Aside0.mk ((V5.out.below (below_alloc (Below.refl _ _) _)).below hb7); have V7 := Aside0.mk hV7; have d70 : w7.cell? ⟨w5.heap.size, 0, none⟩ = some (.int .i64 La) := (blk_cell D7.out 0).trans rfl; have d71 : w7.cell? ⟨w5.heap.size, 1, none⟩ = some (.int .i64 0) := (blk_cell D7.out 1).trans rfl; have d72 : w7.cell? ⟨w5.heap.size, 2, none⟩ = some (.slice AN R1.length cN) := (blk_cell D7.out 2).trans rfl; have d73 : w7.cell? ⟨w5.heap.size, 3, none⟩ = some (.slice AM M1.length cM) := (blk_cell D7.out 3).trans rfl; have z57 : w5.heap.size < w7.heap.size := blk_lt D7.out; clear hb7 hV7 V5 k50 k51 k52 k53 z5 tokD1)
    | fail)
  go_ret
  exact ⟨by first | rfl | simp, by with_reducible repeat (first | exact B7.out | refine below_alloc ?_ _)⟩
set_option maxHeartbeats 16000000 in
set_option maxRecDepth 100000 in
theorem ht_nn (Lz sz La Lb : Int) (A2 A3 : Option Addr) (c2 c3 : Nat) (nx : List (List Int)) (ms : List Int) (w : World) (hr2 : Kd.C (Kd.slice 3 (Kd.int .i64)) w A2 nx.length nx) (hr3 : Kd.C (Kd.int .i64) w A3 ms.length ms) (R1 R2 : List (List Int)) (M1 M2 : List Int) (h1 : upF Lz sz nx ms = (La, R1, M1, 0)) (h2 : dnF Lz sz nx ms = (Lb, R2, M2, 0)) (ha : ¬ R1.length ≤ 5) (hb : ¬ R2.length ≤ 5) :
    Calls Try.prog 11 #[.agg #[.int .i64 Lz, .int .i64 sz, .slice A2 nx.length c2, .slice A3 ms.length c3]] w fun e w' => e = .returned (.bool true) ∧ Below w.heap.size w w' := by
  have HR2 := Aside0.mk hr2
  have HR3 := Aside0.mk hr3
  have H1 := Aside0.mk h1
  have H2 := Aside0.mk h2
  obtain ⟨er, her⟩ : ∃ er : Int, er = 0 := ⟨_, rfl⟩
  rw [← her] at H1 H2
  have hne : (er != 0) = false := by rw [her]; rfl
  have hda : decide ((R1.length : Int) ≤ 5) = false := by simp; omega
  have hdb : decide ((R2.length : Int) ≤ 5) = false := by simp; omega
  have HER := Aside0.mk her
  clear hr2 hr3 h1 h2 ha hb her
  have tokU : True := trivial
  have tokD1 : True := trivial
  go_enter Try.func11, Try.ntmps11
  go_wp2_with (first
    | (go_at_call 34; refine calls_let ?_; intro W2 hW2; have X2 : Aside0 (W2.heap[w.heap.size]? = some (.cells #[.int .i64 Lz, .int .i64 sz, .slice A2 nx.length c2, .slice A3 ms.length c3] 101 (0, 0))) := ⟨by rw [hW2]; repeat (first | exact blk_new _ _ | refine blk_alloc ?_ _)⟩; have B2 : Aside0 (Below w.heap.size w W2) := ⟨by rw [hW2]; repeat (first | exact Below.refl _ _ | apply below_alloc)⟩; have hN2 := lit_rows2 (W := W2) (b := w.heap.size + 1 + 1 + 1) (b1 := w.heap.size + 1) (b2 := w.heap.size + 1 + 1) (x := 1) (y := 1) (by rw [hW2]; go_simp) (by rw [hW2]; go_simp) (by rw [hW2]; go_simp) (by rw [hW2]; go_simp); have hM2 := lit_ints2 (W := W2) (b := w.heap.size + 1 + 1 + 1 + 1) (x := 0) (y := 1) (by rw [hW2]; go_simp) (by rw [hW2]; go_simp); clear hW2; refine (least_tiny _ _ W2 hN2 hM2).mono ?_; clear hN2 hM2; rintro e w3 ⟨ad0, c0, A0, d0, rfl, hb3, hx3⟩; have X3 := Aside0.mk (blk_below X2.out hb3); have B3 := Aside0.mk (below_step B2.out hb3); have k30 : w3.cell? ⟨w.heap.size, 0, none⟩ = some (.int .i64 Lz) := (blk_cell X3.out 0).trans rfl; have k31 : w3.cell? ⟨w.heap.size, 1, none⟩ = some (.int .i64 sz) := (blk_cell X3.out 1).trans rfl; have k32 : w3.cell? ⟨w.heap.size, 2, none⟩ = some (.slice A2 nx.length c2) := (blk_cell X3.out 2).trans rfl; have k33 : w3.cell? ⟨w.heap.size, 3, none⟩ = some (.slice A3 ms.length c3) := (blk_cell X3.out 3).trans rfl; have z3 : w.heap.size < w3.heap.size := blk_lt X3.out; clear hb3 X2 B2)
    | (go_at_call 35; have _t := tokU; refine (up_at Lz sz A2 A3 nx.length ms.length c2 c3 nx ms _ rfl rfl (Kd.C_below HR2.out (by repeat (first | exact B3.out | apply below_alloc))) (Kd.C_below HR3.out (by repeat (first | exact B3.out | apply below_alloc))) La er R1 M1 H1.out).mono ?_; rintro e w5 ⟨AN, cN, AM, cM, rfl, hb5, hV5⟩; have X5 := Aside0.mk (blk_below X3.out hb5); have B5 := Aside0.mk (below_step B3.out hb5); have V5 := Aside0.mk hV5; have k50 : w5.cell? ⟨w.heap.size, 0, none⟩ = some (.int .i64 Lz) := (blk_cell X5.out 0).trans rfl; have k51 : w5.cell? ⟨w.heap.size, 1, none⟩ = some (.int .i64 sz) := (blk_cell X5.out 1).trans rfl; have k52 : w5.cell? ⟨w.heap.size, 2, none⟩ = some (.slice A2 nx.length c2) := (blk_cell X5.out 2).trans rfl; have k53 : w5.cell? ⟨w.heap.size, 3, none⟩ = some (.slice A3 ms.length c3) := (blk_cell X5.out 3).trans rfl; have z5 : w.heap.size < w5.heap.size := blk_lt X5.out; clear hb5 hV5 k30 k31 k32 k33 z3 hx3 tokU)
    | (go_at_call 36; have _t := tokD1; refine (dn_at Lz sz A2 A3 nx.length ms.length c2 c3 nx ms _ rfl rfl (Kd.C_below HR2.out (by repeat (first | exact B5.out | apply below_alloc))) (Kd.C_below HR3.out (by repeat (first | exact B5.out | apply below_alloc))) Lb er R2 M2 H2.out).mono ?_; rintro e w7 ⟨AP, cP, AQ, cQ, rfl, hb7, hV7⟩; have D7 := Aside0.mk (show w7.heap[w5.heap.size]? = some (.cells #[.int .i64 La, .int .i64 0, .slice AN R1.length cN, .slice AM M1.length cM] 101 (0, 0)) from blk_below (blk_new w5 _) hb7); have B7 := Aside0.mk (below_step (below_alloc B5.out _) hb7); have V57 := Aside0.mk ((V5.out.below (below_alloc (Below.refl _ _) _)).below hb7); have V7 := Aside0.mk hV7; have d70 : w7.cell? ⟨w5.heap.size, 0, none⟩ = some (.int .i64 La) := (blk_cell D7.out 0).trans rfl; have d71 : w7.cell? ⟨w5.heap.size, 1, none⟩ = some (.int .i64 0) := (blk_cell D7.out 1).trans rfl; have d72 : w7.cell? ⟨w5.heap.size, 2, none⟩ = some (.slice AN R1.length cN) := (blk_cell D7.out 2).trans rfl; have d73 : w7.cell? ⟨w5.heap.size, 3, none⟩ = some (.slice AM M1.length cM) := (blk_cell D7.out 3).trans rfl; have z57 : w5.heap.size < w7.heap.size := blk_lt D7.out; clear hb7 hV7 V5 k50 k51 k52 k53 z5 tokD1)
    | fail)
  go_ret
  exact ⟨rfl, by with_reducible repeat (first | exact B7.out | refine below_alloc ?_ _ )⟩
set_option maxHeartbeats 16000000 in
set_option maxRecDepth 100000 in
theorem ht_ny (Lz sz La Lb : Int) (A2 A3 : Option Addr) (c2 c3 : Nat) (nx : List (List Int)) (ms : List Int) (w : World) (hr2 : Kd.C (Kd.slice 3 (Kd.int .i64)) w A2 nx.length nx) (hr3 : Kd.C (Kd.int .i64) w A3 ms.length ms) (R1 R2 : List (List Int)) (M1 M2 : List Int) (h1 : upF Lz sz nx ms = (La, R1, M1, 0)) (h2 : dnF Lz sz nx ms = (Lb, R2, M2, 0)) (ha : ¬ R1.length ≤ 5) (hb : R2.length ≤ 5) (h6 : dnF Lb 0 R2 M2 = (Lb, R2, M2, 0)) :
    Calls Try.prog 11 #[.agg #[.int .i64 Lz, .int .i64 sz, .slice A2 nx.length c2, .slice A3 ms.length c3]] w fun e w' => e = .returned (.bool true) ∧ Below w.heap.size w w' := by
  have HR2 := Aside0.mk hr2
  have HR3 := Aside0.mk hr3
  have H1 := Aside0.mk h1
  have H2 := Aside0.mk h2
  obtain ⟨er, her⟩ : ∃ er : Int, er = 0 := ⟨_, rfl⟩
  rw [← her] at H1 H2
  have hne : (er != 0) = false := by rw [her]; rfl
  have hda : decide ((R1.length : Int) ≤ 5) = false := by simp; omega
  have hdb : decide ((R2.length : Int) ≤ 5) = true := by simp; omega
  have H6 := Aside0.mk h6
  have HER := Aside0.mk her
  clear hr2 hr3 h1 h2 ha hb h6 her
  have tokU : True := trivial
  have tokD1 : True := trivial
  go_enter Try.func11, Try.ntmps11
  go_wp2_with (first
    | (go_at_call 34; refine calls_let ?_; intro W2 hW2; have X2 : Aside0 (W2.heap[w.heap.size]? = some (.cells #[.int .i64 Lz, .int .i64 sz, .slice A2 nx.length c2, .slice A3 ms.length c3] 101 (0, 0))) := ⟨by rw [hW2]; repeat (first | exact blk_new _ _ | refine blk_alloc ?_ _)⟩; have B2 : Aside0 (Below w.heap.size w W2) := ⟨by rw [hW2]; repeat (first | exact Below.refl _ _ | apply below_alloc)⟩; have hN2 := lit_rows2 (W := W2) (b := w.heap.size + 1 + 1 + 1) (b1 := w.heap.size + 1) (b2 := w.heap.size + 1 + 1) (x := 1) (y := 1) (by rw [hW2]; go_simp) (by rw [hW2]; go_simp) (by rw [hW2]; go_simp) (by rw [hW2]; go_simp); have hM2 := lit_ints2 (W := W2) (b := w.heap.size + 1 + 1 + 1 + 1) (x := 0) (y := 1) (by rw [hW2]; go_simp) (by rw [hW2]; go_simp); clear hW2; refine (least_tiny _ _ W2 hN2 hM2).mono ?_; clear hN2 hM2; rintro e w3 ⟨ad0, c0, A0, d0, rfl, hb3, hx3⟩; have X3 := Aside0.mk (blk_below X2.out hb3); have B3 := Aside0.mk (below_step B2.out hb3); have k30 : w3.cell? ⟨w.heap.size, 0, none⟩ = some (.int .i64 Lz) := (blk_cell X3.out 0).trans rfl; have k31 : w3.cell? ⟨w.heap.size, 1, none⟩ = some (.int .i64 sz) := (blk_cell X3.out 1).trans rfl; have k32 : w3.cell? ⟨w.heap.size, 2, none⟩ = some (.slice A2 nx.length c2) := (blk_cell X3.out 2).trans rfl; have k33 : w3.cell? ⟨w.heap.size, 3, none⟩ = some (.slice A3 ms.length c3) := (blk_cell X3.out 3).trans rfl; have z3 : w.heap.size < w3.heap.size := blk_lt X3.out; clear hb3 X2 B2)
    | (go_at_call 35; have _t := tokU; refine (up_at Lz sz A2 A3 nx.length ms.length c2 c3 nx ms _ rfl rfl (Kd.C_below HR2.out (by repeat (first | exact B3.out | apply below_alloc))) (Kd.C_below HR3.out (by repeat (first | exact B3.out | apply below_alloc))) La er R1 M1 H1.out).mono ?_; rintro e w5 ⟨AN, cN, AM, cM, rfl, hb5, hV5⟩; have X5 := Aside0.mk (blk_below X3.out hb5); have B5 := Aside0.mk (below_step B3.out hb5); have V5 := Aside0.mk hV5; have k50 : w5.cell? ⟨w.heap.size, 0, none⟩ = some (.int .i64 Lz) := (blk_cell X5.out 0).trans rfl; have k51 : w5.cell? ⟨w.heap.size, 1, none⟩ = some (.int .i64 sz) := (blk_cell X5.out 1).trans rfl; have k52 : w5.cell? ⟨w.heap.size, 2, none⟩ = some (.slice A2 nx.length c2) := (blk_cell X5.out 2).trans rfl; have k53 : w5.cell? ⟨w.heap.size, 3, none⟩ = some (.slice A3 ms.length c3) := (blk_cell X5.out 3).trans rfl; have z5 : w.heap.size < w5.heap.size := blk_lt X5.out; clear hb5 hV5 k30 k31 k32 k33 z3 hx3 tokU)
    | (go_at_call 36; have _t := tokD1; refine (dn_at Lz sz A2 A3 nx.length ms.length c2 c3 nx ms _ rfl rfl (Kd.C_below HR2.out (by repeat (first | exact B5.out | apply below_alloc))) (Kd.C_below HR3.out (by repeat (first | exact B5.out | apply below_alloc))) Lb er R2 M2 H2.out).mono ?_; rintro e w7 ⟨AP, cP, AQ, cQ, rfl, hb7, hV7⟩; have D7 := Aside0.mk (show w7.heap[w5.heap.size]? = some (.cells #[.int .i64 La, .int .i64 0, .slice AN R1.length cN, .slice AM M1.length cM] 101 (0, 0)) from blk_below (blk_new w5 _) hb7); have B7 := Aside0.mk (below_step (below_alloc B5.out _) hb7); have V57 := Aside0.mk ((V5.out.below (below_alloc (Below.refl _ _) _)).below hb7); have V7 := Aside0.mk hV7; have d70 : w7.cell? ⟨w5.heap.size, 0, none⟩ = some (.int .i64 La) := (blk_cell D7.out 0).trans rfl; have d71 : w7.cell? ⟨w5.heap.size, 1, none⟩ = some (.int .i64 0) := (blk_cell D7.out 1).trans rfl; have d72 : w7.cell? ⟨w5.heap.size, 2, none⟩ = some (.slice AN R1.length cN) := (blk_cell D7.out 2).trans rfl; have d73 : w7.cell? ⟨w5.heap.size, 3, none⟩ = some (.slice AM M1.length cM) := (blk_cell D7.out 3).trans rfl; have z57 : w5.heap.size < w7.heap.size := blk_lt D7.out; clear hb7 hV7 V5 k50 k51 k52 k53 z5 tokD1)
    | (go_at_call 36; refine calls_let ?_; intro W18 hW18; have hb18 : Below w7.heap.size w7 W18 := (by rw [hW18]; repeat (first | exact Below.refl _ _ | apply below_alloc)); have Vb18 := V7.out.below hb18; have E18 : W18.heap[w7.heap.size]? = some (.cells #[.int .i64 Lb, .int .i64 0, .slice AP R2.length cP, .slice AQ M2.length cQ] 101 (0, 0)) := (by first | exact blk_below E7.out hb18 | (rw [hW18]; exact blk_new w7 _)); have B18 := below_step B7.out hb18; clear hW18 hb18; refine (dn_at Lb 0 AP AQ R2.length M2.length cP cQ R2 M2 W18 rfl rfl Vb18.caps.2.2.1 Vb18.caps.2.2.2 Lb 0 R2 M2 H6.out).mono ?_; rintro e w19 ⟨AF, cF, AG, cG, rfl, hb19, hV19⟩; have E19 := Aside0.mk (blk_below E18 hb19); have Vb19 := Aside0.mk (Vb18.below hb19); have B19 := Aside0.mk (below_step B18 hb19); have Vf19 := Aside0.mk hV19; have g0 : w19.cell? ⟨w7.heap.size, 0, none⟩ = some (.int .i64 Lb) := (blk_cell E19.out 0).trans rfl; have g1 : w19.cell? ⟨w7.heap.size, 1, none⟩ = some (.int .i64 0) := (blk_cell E19.out 1).trans rfl; have g2 : w19.cell? ⟨w7.heap.size, 2, none⟩ = some (.slice AP R2.length cP) := (blk_cell E19.out 2).trans rfl; have g3 : w19.cell? ⟨w7.heap.size, 3, none⟩ = some (.slice AQ M2.length cQ) := (blk_cell E19.out 3).trans rfl; have z19 := blk_lt E19.out; clear hb19 hV19 Vb18 E18 B18)
    | (go_at_call 37; refine calls_let ?_; intro W20 hW20; have hb20 : Below w19.heap.size w19 W20 := (by rw [hW20]; exact below_alloc (Below.refl _ _) _); have Vb20 := Vb19.out.below hb20; have Vf20 := Vf19.out.below hb20; have B20 := below_step B19.out hb20; clear hW20 hb20; refine (alike_yes' Lb 0 AF AG AP AQ cF cG cP cQ R2.length R2.length M2.length M2.length R2 M2 W20 rfl rfl rfl rfl Vf20.caps.2.2.1 Vf20.caps.1 Vf20.caps.2.2.2 Vf20.caps.2.1 Vb20.caps.2.2.1 Vb20.caps.1 Vb20.caps.2.2.2 Vb20.caps.2.1).mono ?_; rintro e w21 ⟨rfl, hb21⟩; have B21 := Aside0.mk (below_step B20 hb21); clear hb21 Vb20 Vf20 B20 g0 g1 g2 g3 z19)
    | fail)
  go_ret
  exact ⟨rfl, by with_reducible repeat (first | exact B21.out | refine below_alloc ?_ _ )⟩
set_option maxHeartbeats 16000000 in
set_option maxRecDepth 100000 in
theorem ht_yn (Lz sz La Lb : Int) (A2 A3 : Option Addr) (c2 c3 : Nat) (nx : List (List Int)) (ms : List Int) (w : World) (hr2 : Kd.C (Kd.slice 3 (Kd.int .i64)) w A2 nx.length nx) (hr3 : Kd.C (Kd.int .i64) w A3 ms.length ms) (R1 R2 : List (List Int)) (M1 M2 : List Int) (h1 : upF Lz sz nx ms = (La, R1, M1, 0)) (h2 : dnF Lz sz nx ms = (Lb, R2, M2, 0)) (ha : R1.length ≤ 5) (hb : ¬ R2.length ≤ 5) (R3 : List (List Int)) (M3 : List Int) (h3 : upF La 0 R1 M1 = (La, R1, M1, 0)) (h4 : dnF La 0 R1 (notM M1) = (La, R3, M3, 0)) (h5 : dlF La 0 R1 (notM M1) = (La, R3, M3, 0)) (hmb : ∀ m ∈ M1, m = 0 ∨ m = 1) (hml : M1.length ≤ 5) :
    Calls Try.prog 11 #[.agg #[.int .i64 Lz, .int .i64 sz, .slice A2 nx.length c2, .slice A3 ms.length c3]] w fun e w' => e = .returned (.bool true) ∧ Below w.heap.size w w' := by
  have HR2 := Aside0.mk hr2
  have HR3 := Aside0.mk hr3
  have H1 := Aside0.mk h1
  have H2 := Aside0.mk h2
  obtain ⟨er, her⟩ : ∃ er : Int, er = 0 := ⟨_, rfl⟩
  rw [← her] at H1 H2
  have hne : (er != 0) = false := by rw [her]; rfl
  have hda : decide ((R1.length : Int) ≤ 5) = true := by simp; omega
  have hdb : decide ((R2.length : Int) ≤ 5) = false := by simp; omega
  have H3 := Aside0.mk h3
  have H4 := Aside0.mk h4
  have H5 := Aside0.mk h5
  have HMB := Aside0.mk hmb
  have HML := Aside0.mk hml
  have HER := Aside0.mk her
  clear hr2 hr3 h1 h2 ha hb h3 h4 h5 hmb hml her
  have tokU : True := trivial
  have tokD1 : True := trivial
  have tokD2 : True := trivial
  have tokA1 : True := trivial
  have tokA2 : True := trivial
  go_enter Try.func11, Try.ntmps11
  go_wp2_with (first
    | (go_at_call 34; refine calls_let ?_; intro W2 hW2; have X2 : Aside0 (W2.heap[w.heap.size]? = some (.cells #[.int .i64 Lz, .int .i64 sz, .slice A2 nx.length c2, .slice A3 ms.length c3] 101 (0, 0))) := ⟨by rw [hW2]; repeat (first | exact blk_new _ _ | refine blk_alloc ?_ _)⟩; have B2 : Aside0 (Below w.heap.size w W2) := ⟨by rw [hW2]; repeat (first | exact Below.refl _ _ | apply below_alloc)⟩; have hN2 := lit_rows2 (W := W2) (b := w.heap.size + 1 + 1 + 1) (b1 := w.heap.size + 1) (b2 := w.heap.size + 1 + 1) (x := 1) (y := 1) (by rw [hW2]; go_simp) (by rw [hW2]; go_simp) (by rw [hW2]; go_simp) (by rw [hW2]; go_simp); have hM2 := lit_ints2 (W := W2) (b := w.heap.size + 1 + 1 + 1 + 1) (x := 0) (y := 1) (by rw [hW2]; go_simp) (by rw [hW2]; go_simp); clear hW2; refine (least_tiny _ _ W2 hN2 hM2).mono ?_; clear hN2 hM2; rintro e w3 ⟨ad0, c0, A0, d0, rfl, hb3, hx3⟩; have X3 := Aside0.mk (blk_below X2.out hb3); have B3 := Aside0.mk (below_step B2.out hb3); have k30 : w3.cell? ⟨w.heap.size, 0, none⟩ = some (.int .i64 Lz) := (blk_cell X3.out 0).trans rfl; have k31 : w3.cell? ⟨w.heap.size, 1, none⟩ = some (.int .i64 sz) := (blk_cell X3.out 1).trans rfl; have k32 : w3.cell? ⟨w.heap.size, 2, none⟩ = some (.slice A2 nx.length c2) := (blk_cell X3.out 2).trans rfl; have k33 : w3.cell? ⟨w.heap.size, 3, none⟩ = some (.slice A3 ms.length c3) := (blk_cell X3.out 3).trans rfl; have z3 : w.heap.size < w3.heap.size := blk_lt X3.out; clear hb3 X2 B2)
    | (go_at_call 35; have _t := tokU; refine (up_at Lz sz A2 A3 nx.length ms.length c2 c3 nx ms _ rfl rfl (Kd.C_below HR2.out (by repeat (first | exact B3.out | apply below_alloc))) (Kd.C_below HR3.out (by repeat (first | exact B3.out | apply below_alloc))) La er R1 M1 H1.out).mono ?_; rintro e w5 ⟨AN, cN, AM, cM, rfl, hb5, hV5⟩; have X5 := Aside0.mk (blk_below X3.out hb5); have B5 := Aside0.mk (below_step B3.out hb5); have V5 := Aside0.mk hV5; have k50 : w5.cell? ⟨w.heap.size, 0, none⟩ = some (.int .i64 Lz) := (blk_cell X5.out 0).trans rfl; have k51 : w5.cell? ⟨w.heap.size, 1, none⟩ = some (.int .i64 sz) := (blk_cell X5.out 1).trans rfl; have k52 : w5.cell? ⟨w.heap.size, 2, none⟩ = some (.slice A2 nx.length c2) := (blk_cell X5.out 2).trans rfl; have k53 : w5.cell? ⟨w.heap.size, 3, none⟩ = some (.slice A3 ms.length c3) := (blk_cell X5.out 3).trans rfl; have z5 : w.heap.size < w5.heap.size := blk_lt X5.out; clear hb5 hV5 k30 k31 k32 k33 z3 hx3 tokU)
    | (go_at_call 36; have _t := tokD1; refine (dn_at Lz sz A2 A3 nx.length ms.length c2 c3 nx ms _ rfl rfl (Kd.C_below HR2.out (by repeat (first | exact B5.out | apply below_alloc))) (Kd.C_below HR3.out (by repeat (first | exact B5.out | apply below_alloc))) Lb er R2 M2 H2.out).mono ?_; rintro e w7 ⟨AP, cP, AQ, cQ, rfl, hb7, hV7⟩; have D7 := Aside0.mk (show w7.heap[w5.heap.size]? = some (.cells #[.int .i64 La, .int .i64 0, .slice AN R1.length cN, .slice AM M1.length cM] 101 (0, 0)) from blk_below (blk_new w5 _) hb7); have B7 := Aside0.mk (below_step (below_alloc B5.out _) hb7); have V57 := Aside0.mk ((V5.out.below (below_alloc (Below.refl _ _) _)).below hb7); have V7 := Aside0.mk hV7; have d70 : w7.cell? ⟨w5.heap.size, 0, none⟩ = some (.int .i64 La) := (blk_cell D7.out 0).trans rfl; have d71 : w7.cell? ⟨w5.heap.size, 1, none⟩ = some (.int .i64 0) := (blk_cell D7.out 1).trans rfl; have d72 : w7.cell? ⟨w5.heap.size, 2, none⟩ = some (.slice AN R1.length cN) := (blk_cell D7.out 2).trans rfl; have d73 : w7.cell? ⟨w5.heap.size, 3, none⟩ = some (.slice AM M1.length cM) := (blk_cell D7.out 3).trans rfl; have z57 : w5.heap.size < w7.heap.size := blk_lt D7.out; clear hb7 hV7 V5 k50 k51 k52 k53 z5 tokD1)
    | (go_at_call 35; refine calls_let ?_; intro W8 hW8; have hb8 : Below w7.heap.size w7 W8 := (by rw [hW8]; exact below_alloc (Below.refl _ _) _); have E8 := Aside0.mk (show W8.heap[w7.heap.size]? = some (.cells #[.int .i64 Lb, .int .i64 0, .slice AP R2.length cP, .slice AQ M2.length cQ] 101 (0, 0)) from by rw [hW8]; exact blk_new w7 _); have D8 := Aside0.mk (blk_below D7.out hb8); have B8 := Aside0.mk (below_step B7.out hb8); have Va8 := Aside0.mk (V57.out.below hb8); have Vb8 := Aside0.mk (V7.out.below hb8); clear hW8 hb8; refine (up_at La 0 AN AM R1.length M1.length cN cM R1 M1 W8 rfl rfl Va8.out.caps.2.2.1 Va8.out.caps.2.2.2 La 0 R1 M1 H3.out).mono ?_; rintro e w9 ⟨AX, cX, AY, cY, rfl, hb9, hV9⟩; have E9 := Aside0.mk (blk_below E8.out hb9); have D9 := Aside0.mk (blk_below D8.out hb9); have B9 := Aside0.mk (below_step B8.out hb9); have Va9 := Aside0.mk (Va8.out.below hb9); have Vb9 := Aside0.mk (Vb8.out.below hb9); have Vx9 := Aside0.mk hV9; have d90 : w9.cell? ⟨w5.heap.size, 0, none⟩ = some (.int .i64 La) := (blk_cell D9.out 0).trans rfl; have d91 : w9.cell? ⟨w5.heap.size, 1, none⟩ = some (.int .i64 0) := (blk_cell D9.out 1).trans rfl; have d92 : w9.cell? ⟨w5.heap.size, 2, none⟩ = some (.slice AN R1.length cN) := (blk_cell D9.out 2).trans rfl; have d93 : w9.cell? ⟨w5.heap.size, 3, none⟩ = some (.slice AM M1.length cM) := (blk_cell D9.out 3).trans rfl; have z59 : w5.heap.size < w9.heap.size := blk_lt D9.out; clear hb9 hV9 d70 d71 d72 d73 z57 E8 D8 B8 Va8 Vb8)
    | (go_at_call 37; have _t := tokA1; refine calls_let ?_; intro W10 hW10; have hb10 : Below w9.heap.size w9 W10 := (by rw [hW10]; exact below_alloc (Below.refl _ _) _); have E10 := Aside0.mk (blk_below E9.out hb10); have D10 := Aside0.mk (blk_below D9.out hb10); have B10 := Aside0.mk (below_step B9.out hb10); have Va10 := Aside0.mk (Va9.out.below hb10); have Vb10 := Aside0.mk (Vb9.out.below hb10); have Vx10 := Vx9.out.below hb10; clear hW10 hb10; refine (alike_yes' La 0 AX AY AN AM cX cY cN cM R1.length R1.length M1.length M1.length R1 M1 W10 rfl rfl rfl rfl Vx10.caps.2.2.1 Vx10.caps.1 Vx10.caps.2.2.2 Vx10.caps.2.1 Va10.out.caps.2.2.1 Va10.out.caps.1 Va10.out.caps.2.2.2 Va10.out.caps.2.1).mono ?_; clear Vx10; rintro e w11 ⟨rfl, hb11⟩; have E11 := Aside0.mk (blk_below E10.out hb11); have D11 := Aside0.mk (blk_below D10.out hb11); have B11 := Aside0.mk (below_step B10.out hb11); have Va11 := Aside0.mk (Va10.out.below hb11); have Vb11 := Aside0.mk (Vb10.out.below hb11); have d0 : w11.cell? ⟨w5.heap.size, 0, none⟩ = some (.int .i64 La) := (blk_cell D11.out 0).trans rfl; have d1 : w11.cell? ⟨w5.heap.size, 1, none⟩ = some (.int .i64 0) := (blk_cell D11.out 1).trans rfl; have d2 : w11.cell? ⟨w5.heap.size, 2, none⟩ = some (.slice AN R1.length cN) := (blk_cell D11.out 2).trans rfl; have d3 : w11.cell? ⟨w5.heap.size, 3, none⟩ = some (.slice AM M1.length cM) := (blk_cell D11.out 3).trans rfl; have z511 : w5.heap.size < w11.heap.size := blk_lt D11.out; clear hb11 d90 d91 d92 d93 z59 E9 D9 B9 Va9 Vb9 Vx9 E10 D10 B10 Va10 Vb10 tokA1)
    | fail)
  have LB := Aside0.mk (show w.heap.size < w7.heap.size ∧ w7.heap.size < w11.heap.size from ⟨Nat.lt_of_le_of_lt B5.out.size (blk_lt D7.out), blk_lt E11.out⟩)
  clear d0 d1 d2 d3 z511
  obtain ⟨yb, hyb⟩ : ∃ yb, w11.heap.size = yb := ⟨_, rfl⟩
  have HYB := Aside0.mk hyb
  obtain ⟨W12, hW12⟩ : ∃ W12, W12 = w11.alloc (.cells #[.int .i64 La, .int .i64 0, .slice AN R1.length cN, .slice none 0 0] 101) := ⟨_, rfl⟩
  have B12 := Aside0.mk (show Below w11.heap.size w11 W12 from by rw [hW12]; exact below_alloc (Below.refl _ _) _)
  have Y12 := Aside0.mk (show W12.heap[yb]? = some (.cells #[.int .i64 La, .int .i64 0, .slice AN R1.length cN, .slice none 0 0] 101 (0, 0)) from by rw [hW12, ← hyb]; exact blk_new w11 _)
  rw [← hW12]
  clear hW12
  rw [hyb]
  clear hyb
  go_loopg [13] M1.length (fun gg s13 wr => ∃ (q : Nat) (vM : Value), q ≤ M1.length ∧ M1.length - q ≤ gg ∧ s13 = .int .i64 (q : Int) ∧ Aside0 (wr.heap[yb]? = some (.cells #[.int .i64 La, .int .i64 0, .slice AN R1.length cN, vM] 101 (0, 0))) ∧ Aside0 (Kd.R (Kd.int .i64) 3 wr (yb + 1) (fun _ => True) vM (notM (M1.take q))) ∧ Aside0 (Below w11.heap.size w11 wr))
  case atStart => exact ⟨0, _, Nat.zero_le _, by omega, rfl, Y12, ⟨Kd.R_nil _ _ _ _ _⟩, B12⟩
  case round =>
    clear Y12 B12
    obtain ⟨q, vM, hq, hgq, rfl, YY, OO, BB⟩ := hrel
    have y3 : wr.cell? ⟨yb, 3, none⟩ = some vM := (blk_cell YY.out 3).trans rfl
    have f3 := blk_frozen YY.out 3
    have a3 : wr.cell? ⟨w5.heap.size, 3, none⟩ = some (.slice AM M1.length cM) := (blk_cell (blk_below D11.out BB.out) 3).trans rfl
    have hMl := HML.out
    by_cases hlt : q < M1.length
    · have hltz : (q : Int) < (M1.length : Int) := by omega
      have hq0 : (0 : Int) ≤ (q : Int) := by omega
      obtain ⟨am, e0, x1⟩ := int_get (Va11.out.below BB.out).caps.2.2.2 rfl hlt
      have hbit := HMB.out _ (List.getElem_mem hlt)
      have HT := Aside0.mk (notM_take hlt)
      have HTL := Aside0.mk (notM_take_len (M := M1) hq)
      cases e0
      generalize M1[q] = m at x1 hbit HT
      have hw1 : IntKind.i64.wrap (1 - m) = 1 - m := IntWalk.i64_in _ (by omega)
      obtain ⟨m', hm'⟩ : ∃ m', 1 - m = m' := ⟨_, rfl⟩
      rw [hm'] at hw1 HT
      clear hbit
      have HMS := Aside0.mk (show ∀ W', Below (yb + 1) wr W' → (fun W' => W'.cell? ⟨w5.heap.size, 3, none⟩ = some (.slice (some am) M1.length cM) ∧ W'.cell? (am.add q) = some (.int .i64 m)) W' from fun W' hb => ⟨(ht_cell (hb.block w5.heap.size (by have := blk_lt D11.out; have := HYB.out; omega))).trans a3, (ht_cellA (hb.block am.block (by have := C_lt11 (Va11.out.caps.2.2.2) hlt; have := HYB.out; omega))).trans x1⟩)
      have ZY := Aside0.mk (blk_lt YY.out)
      have zyb : yb < wr.heap.size := blk_lt YY.out
      go_wp2
      refine wp_region_held_drew (S := (fun W' => W'.cell? ⟨w5.heap.size, 3, none⟩ = some (.slice (some am) M1.length cM) ∧ W'.cell? (am.add q) = some (.int .i64 m))) (by kernel_rfl) ?_ (fun hHeld => ?_)
      · (try dsimp only); (first | exact S20 | exact HMS.out _ B9.out | exact HMS.out _ (by repeat (first | exact Below.refl _ _ | apply below_drew1 | refine Below.alloc ?_ (by have := ZY.out; simp; omega) _)) | fail)
      refine wpAnyH_take (i := 0) (v := ?_) rfl (by kernel_rfl) (by kernel_rfl) (by kernel_rfl) (fun _ _ _ h => h) (Or.inl ⟨by kernel_rfl, ?_⟩) (by assumption) ?_
      rotate_left 1
      · intro w hSw; (try dsimp only at hSw); go_simp; (try with_reducible rfl)
      (try simp only [Act.put, List.getElem_toArray, List.getElem_cons_zero, List.getElem_cons_succ, List.setIfInBounds_toArray, List.set_cons_zero, List.set_cons_succ])
      refine wpAnyH_take (i := 2) (v := ?_) rfl (by kernel_rfl) (by kernel_rfl) (by kernel_rfl) (fun _ _ _ h => h) (Or.inl ⟨by kernel_rfl, ?_⟩) (by assumption) ?_
      rotate_left 1
      · intro w hSw; (try dsimp only at hSw); go_simp; (try with_reducible rfl)
      (try simp only [Act.put, List.getElem_toArray, List.getElem_cons_zero, List.getElem_cons_succ, List.setIfInBounds_toArray, List.set_cons_zero, List.set_cons_succ])
      refine wpAnyH_take (i := 3) (v := ?_) rfl (by kernel_rfl) (by kernel_rfl) (by kernel_rfl) (fun _ _ _ h => h) (Or.inl ⟨by kernel_rfl, ?_⟩) (by assumption) ?_
      rotate_left 1
      · intro w hSw; (try dsimp only at hSw); go_simp; (try with_reducible rfl)
      (try simp only [Act.put, List.getElem_toArray, List.getElem_cons_zero, List.getElem_cons_succ, List.setIfInBounds_toArray, List.set_cons_zero, List.set_cons_succ])
      refine wpAnyH_take (i := 4) (v := ?_) rfl (by kernel_rfl) (by kernel_rfl) (by kernel_rfl) (fun _ _ _ h => h) (Or.inl ⟨by kernel_rfl, ?_⟩) (by assumption) ?_
      rotate_left 1
      · intro w hSw; (try dsimp only at hSw); go_simp; (try with_reducible rfl)
      (try simp only [Act.put, List.getElem_toArray, List.getElem_cons_zero, List.getElem_cons_succ, List.setIfInBounds_toArray, List.set_cons_zero, List.set_cons_succ])
      refine wpAnyH_take (i := 5) (v := ?_) rfl (by kernel_rfl) (by kernel_rfl) (by kernel_rfl) (fun _ _ _ h => h) (Or.inl ⟨by kernel_rfl, ?_⟩) (by assumption) ?_
      rotate_left 1
      · intro w hSw; (try dsimp only at hSw); go_simp; (try with_reducible rfl)
      (try simp only [Act.put, List.getElem_toArray, List.getElem_cons_zero, List.getElem_cons_succ, List.setIfInBounds_toArray, List.set_cons_zero, List.set_cons_succ])
      refine wpAnyH_take (i := 6) (v := ?_) rfl (by kernel_rfl) (by kernel_rfl) (by kernel_rfl) (fun _ _ _ h => h) (Or.inl ⟨by kernel_rfl, ?_⟩) (by assumption) ?_
      rotate_left 1
      · intro w hSw; (try dsimp only at hSw); go_simp; (try with_reducible rfl)
      (try simp only [Act.put, List.getElem_toArray, List.getElem_cons_zero, List.getElem_cons_succ, List.setIfInBounds_toArray, List.set_cons_zero, List.set_cons_succ])
      refine wpAnyH_take (i := 7) (v := ?_) rfl (by kernel_rfl) (by kernel_rfl) (by kernel_rfl) (fun _ _ _ h => h) (Or.inl ⟨by kernel_rfl, ?_⟩) (by assumption) ?_
      rotate_left 1
      · intro w hSw; (try dsimp only at hSw); go_simp; (try with_reducible rfl)
      (try simp only [Act.put, List.getElem_toArray, List.getElem_cons_zero, List.getElem_cons_succ, List.setIfInBounds_toArray, List.set_cons_zero, List.set_cons_succ])
      refine wpAnyH_ready (rs := [1, 8]) (by kernel_rfl) (by simp) ?_
      refine AllReadyH.cons rfl (fun K hK => ?_) (AllReadyH.cons rfl (fun K hK => ?_) AllReadyH.nil)
      · rw [if_pos (by kernel_rfl)]
        go_simp
        refine hK.out _ _ ?_ (fun hHeld => ?_)
        · (try dsimp only); (first | exact S20 | exact HMS.out _ B9.out | exact HMS.out _ (by repeat (first | exact Below.refl _ _ | apply below_drew1 | refine Below.alloc ?_ (by have := ZY.out; simp; omega) _)) | fail)
        clear hK K
        (try simp only [Act.put, List.getElem_toArray, List.getElem_cons_zero, List.getElem_cons_succ, List.setIfInBounds_toArray, List.set_cons_zero, List.set_cons_succ])
        refine wpAnyH_ready (rs := [8]) (by kernel_rfl) (by simp) ?_
        refine AllReadyH.cons rfl (fun K hK => ?_) AllReadyH.nil
        rw [if_pos (by kernel_rfl)]
        go_simp
        (try go_simp)
        refine hK.out _ _ ?_ (fun hHeld => ?_)
        · (try dsimp only); (first | exact S20 | exact HMS.out _ B9.out | exact HMS.out _ (by repeat (first | exact Below.refl _ _ | apply below_drew1 | refine Below.alloc ?_ (by have := ZY.out; simp; omega) _)) | fail)
        clear hK K
        (try simp only [Act.put, List.getElem_toArray, List.getElem_cons_zero, List.getElem_cons_succ, List.setIfInBounds_toArray, List.set_cons_zero, List.set_cons_succ])
        refine wpAnyH_ready (rs := [9]) (by kernel_rfl) (by simp) ?_
        refine AllReadyH.cons rfl (fun K hK => ?_) AllReadyH.nil
        refine append_int_step (W := (wr.alloc (.cells #[.int .i64 m'] 3)).drew) (B := yb + 1) (b := wr.heap.size) (x := m') (ok := fun _ => True) vM (notM (M1.take q)) (.tmp 89) (.tmp 96) 22 (by kernel_rfl) (by rfl) Try.underlying22 int3 (by rfl) (by rfl) (Kd.R_below OO.out (below_drew1 (below_alloc (Below.refl _ _) _))) (by go_simp) (by have := ZY.out; simp; omega) (by rw [HTL.out]; omega) ?_; intro v1 w9 h1 hg1; obtain ⟨Av, cv, ev⟩ := Kd.R_slice h1; generalize (notM (M1.take q) ++ [m']).length = nv at ev; subst ev; have B9 := Aside0.mk (show Below (yb + 1) wr w9 from Below.grown (below_drew1 (Below.alloc (Below.refl _ _) (by have := ZY.out; omega) _)) hg1 (by have := ZY.out; simp; omega) (fun k e => Kd.R_base OO.out k e)); have O9 := Aside0.mk h1; have Y9 := Aside0.mk ((B9.out.block yb (Nat.lt_succ_self _)).trans YY.out); have B911 := Aside0.mk (show Below w11.heap.size w11 w9 from below_weaken BB.out (by have := HYB.out; omega) B9.out); have f9 := blk_frozen Y9.out 3; have c9 : w9.cell? ⟨yb, 3, none⟩ = some vM := (blk_cell Y9.out 3).trans rfl; have S20 := (show (fun W' => W'.cell? ⟨w5.heap.size, 3, none⟩ = some (.slice (some am) M1.length cM) ∧ W'.cell? (am.add q) = some (.int .i64 m)) (w9.setCell ⟨yb, 3, none⟩ (.slice Av nv cv)) from ⟨(ht_cell (Below.heap_setCell w9 ⟨yb, 3, none⟩ (.slice Av nv cv) w5.heap.size (by have := blk_lt D11.out; have := HYB.out; show w5.heap.size ≠ yb; omega))).trans (HMS.out _ B9.out).1, (ht_cellA (Below.heap_setCell w9 ⟨yb, 3, none⟩ (.slice Av nv cv) am.block (by have := C_lt11 (Va11.out.caps.2.2.2) hlt; have := HYB.out; show am.block ≠ yb; omega))).trans (HMS.out _ B9.out).2⟩); clear h1 hg1
        (try go_simp)
        refine hK.out _ _ ?_ (fun hHeld => ?_)
        · (try dsimp only); (first | exact S20 | exact HMS.out _ B9.out | exact HMS.out _ (by repeat (first | exact Below.refl _ _ | apply below_drew1 | refine Below.alloc ?_ (by have := ZY.out; simp; omega) _)) | fail)
        clear hK K
        (try simp only [Act.put, List.getElem_toArray, List.getElem_cons_zero, List.getElem_cons_succ, List.setIfInBounds_toArray, List.set_cons_zero, List.set_cons_succ])
        refine wpAnyH_take (i := 10) (v := ?_) rfl (by kernel_rfl) (by kernel_rfl) (by kernel_rfl) (fun _ _ _ h => h) (Or.inl ⟨by kernel_rfl, ?_⟩) (by assumption) ?_
        rotate_left 1
        · intro w hSw; (try dsimp only at hSw); go_simp; (try with_reducible rfl)
        (try simp only [Act.put, List.getElem_toArray, List.getElem_cons_zero, List.getElem_cons_succ, List.setIfInBounds_toArray, List.set_cons_zero, List.set_cons_succ])
        refine wpAnyH_ready (rs := [11]) (by kernel_rfl) (by simp) ?_
        refine AllReadyH.cons rfl (fun K hK => ?_) AllReadyH.nil
        rw [if_pos (by kernel_rfl)]
        go_simp
        (try go_simp)
        refine hK.out _ _ ?_ (fun hHeld => ?_)
        · (try dsimp only); (first | exact S20 | exact HMS.out _ B9.out | exact HMS.out _ (by repeat (first | exact Below.refl _ _ | apply below_drew1 | refine Below.alloc ?_ (by have := ZY.out; simp; omega) _)) | fail)
        clear hK K
        (try simp only [Act.put, List.getElem_toArray, List.getElem_cons_zero, List.getElem_cons_succ, List.setIfInBounds_toArray, List.set_cons_zero, List.set_cons_succ])
        refine wpAnyH_done (by kernel_rfl) ?_ _
        go_wp2
        go_roundg (M1.length - (q + 1))
        case measure => omega
        case rel => exact ⟨q + 1, .slice Av nv cv, by omega, by omega, by go_num, ⟨blk_set Y9.out 3 (.slice Av nv cv)⟩, ⟨by rw [HT.out]; exact Kd.R_mono (Kd.R_step (Kd.R_bound (Kd.R_mono O9.out (fun _ _ => trivial : ∀ k, _ → True))) (fun k ho _ => Below.heap_setCell _ _ _ k (by have := ho.2.1; show k ≠ yb; omega))) (fun _ _ => trivial)⟩, ⟨below_set B911.out (by rw [HYB.out]; exact Nat.le_refl _)⟩⟩
      · rw [if_pos (by kernel_rfl)]
        go_simp
        refine hK.out _ _ ?_ (fun hHeld => ?_)
        · (try dsimp only); (first | exact S20 | exact HMS.out _ B9.out | exact HMS.out _ (by repeat (first | exact Below.refl _ _ | apply below_drew1 | refine Below.alloc ?_ (by have := ZY.out; simp; omega) _)) | fail)
        clear hK K
        (try simp only [Act.put, List.getElem_toArray, List.getElem_cons_zero, List.getElem_cons_succ, List.setIfInBounds_toArray, List.set_cons_zero, List.set_cons_succ])
        refine wpAnyH_ready (rs := [1]) (by kernel_rfl) (by simp) ?_
        refine AllReadyH.cons rfl (fun K hK => ?_) AllReadyH.nil
        rw [if_pos (by kernel_rfl)]
        go_simp
        (try go_simp)
        refine hK.out _ _ ?_ (fun hHeld => ?_)
        · (try dsimp only); (first | exact S20 | exact HMS.out _ B9.out | exact HMS.out _ (by repeat (first | exact Below.refl _ _ | apply below_drew1 | refine Below.alloc ?_ (by have := ZY.out; simp; omega) _)) | fail)
        clear hK K
        (try simp only [Act.put, List.getElem_toArray, List.getElem_cons_zero, List.getElem_cons_succ, List.setIfInBounds_toArray, List.set_cons_zero, List.set_cons_succ])
        refine wpAnyH_ready (rs := [9]) (by kernel_rfl) (by simp) ?_
        refine AllReadyH.cons rfl (fun K hK => ?_) AllReadyH.nil
        refine append_int_step (W := (wr.alloc (.cells #[.int .i64 m'] 3)).drew) (B := yb + 1) (b := wr.heap.size) (x := m') (ok := fun _ => True) vM (notM (M1.take q)) (.tmp 89) (.tmp 96) 22 (by kernel_rfl) (by rfl) Try.underlying22 int3 (by rfl) (by rfl) (Kd.R_below OO.out (below_drew1 (below_alloc (Below.refl _ _) _))) (by go_simp) (by have := ZY.out; simp; omega) (by rw [HTL.out]; omega) ?_; intro v1 w9 h1 hg1; obtain ⟨Av, cv, ev⟩ := Kd.R_slice h1; generalize (notM (M1.take q) ++ [m']).length = nv at ev; subst ev; have B9 := Aside0.mk (show Below (yb + 1) wr w9 from Below.grown (below_drew1 (Below.alloc (Below.refl _ _) (by have := ZY.out; omega) _)) hg1 (by have := ZY.out; simp; omega) (fun k e => Kd.R_base OO.out k e)); have O9 := Aside0.mk h1; have Y9 := Aside0.mk ((B9.out.block yb (Nat.lt_succ_self _)).trans YY.out); have B911 := Aside0.mk (show Below w11.heap.size w11 w9 from below_weaken BB.out (by have := HYB.out; omega) B9.out); have f9 := blk_frozen Y9.out 3; have c9 : w9.cell? ⟨yb, 3, none⟩ = some vM := (blk_cell Y9.out 3).trans rfl; have S20 := (show (fun W' => W'.cell? ⟨w5.heap.size, 3, none⟩ = some (.slice (some am) M1.length cM) ∧ W'.cell? (am.add q) = some (.int .i64 m)) (w9.setCell ⟨yb, 3, none⟩ (.slice Av nv cv)) from ⟨(ht_cell (Below.heap_setCell w9 ⟨yb, 3, none⟩ (.slice Av nv cv) w5.heap.size (by have := blk_lt D11.out; have := HYB.out; show w5.heap.size ≠ yb; omega))).trans (HMS.out _ B9.out).1, (ht_cellA (Below.heap_setCell w9 ⟨yb, 3, none⟩ (.slice Av nv cv) am.block (by have := C_lt11 (Va11.out.caps.2.2.2) hlt; have := HYB.out; show am.block ≠ yb; omega))).trans (HMS.out _ B9.out).2⟩); clear h1 hg1
        (try go_simp)
        refine hK.out _ _ ?_ (fun hHeld => ?_)
        · (try dsimp only); (first | exact S20 | exact HMS.out _ B9.out | exact HMS.out _ (by repeat (first | exact Below.refl _ _ | apply below_drew1 | refine Below.alloc ?_ (by have := ZY.out; simp; omega) _)) | fail)
        clear hK K
        (try simp only [Act.put, List.getElem_toArray, List.getElem_cons_zero, List.getElem_cons_succ, List.setIfInBounds_toArray, List.set_cons_zero, List.set_cons_succ])
        refine wpAnyH_take (i := 10) (v := ?_) rfl (by kernel_rfl) (by kernel_rfl) (by kernel_rfl) (fun _ _ _ h => h) (Or.inl ⟨by kernel_rfl, ?_⟩) (by assumption) ?_
        rotate_left 1
        · intro w hSw; (try dsimp only at hSw); go_simp; (try with_reducible rfl)
        (try simp only [Act.put, List.getElem_toArray, List.getElem_cons_zero, List.getElem_cons_succ, List.setIfInBounds_toArray, List.set_cons_zero, List.set_cons_succ])
        refine wpAnyH_ready (rs := [11]) (by kernel_rfl) (by simp) ?_
        refine AllReadyH.cons rfl (fun K hK => ?_) AllReadyH.nil
        rw [if_pos (by kernel_rfl)]
        go_simp
        (try go_simp)
        refine hK.out _ _ ?_ (fun hHeld => ?_)
        · (try dsimp only); (first | exact S20 | exact HMS.out _ B9.out | exact HMS.out _ (by repeat (first | exact Below.refl _ _ | apply below_drew1 | refine Below.alloc ?_ (by have := ZY.out; simp; omega) _)) | fail)
        clear hK K
        (try simp only [Act.put, List.getElem_toArray, List.getElem_cons_zero, List.getElem_cons_succ, List.setIfInBounds_toArray, List.set_cons_zero, List.set_cons_succ])
        refine wpAnyH_done (by kernel_rfl) ?_ _
        go_wp2
        go_roundg (M1.length - (q + 1))
        case measure => omega
        case rel => exact ⟨q + 1, .slice Av nv cv, by omega, by omega, by go_num, ⟨blk_set Y9.out 3 (.slice Av nv cv)⟩, ⟨by rw [HT.out]; exact Kd.R_mono (Kd.R_step (Kd.R_bound (Kd.R_mono O9.out (fun _ _ => trivial : ∀ k, _ → True))) (fun k ho _ => Below.heap_setCell _ _ _ k (by have := ho.2.1; show k ≠ yb; omega))) (fun _ _ => trivial)⟩, ⟨below_set B911.out (by rw [HYB.out]; exact Nat.le_refl _)⟩⟩
    · have hqe : q = M1.length := by omega
      subst hqe
      have OE := Aside0.mk (show Kd.R (Kd.int .i64) 3 wr (yb + 1) (fun _ => True) vM (notM M1) from by have := OO.out; rwa [List.take_length] at this)
      obtain ⟨AU, cU, e⟩ := Kd.R_slice OE.out
      rw [notM_len] at e
      subst e
      have Va := Aside0.mk (Va11.out.below BB.out)
      have Vb := Aside0.mk (Vb11.out.below BB.out)
      have Eb := Aside0.mk (blk_below E11.out BB.out)
      have Bw := Aside0.mk (below_step B11.out BB.out)
      have MU := Aside0.mk (show Kd.C (Kd.int .i64) wr AU M1.length (notM M1) ∧ M1.length ≤ cU from by have h := Kd.R_reads' OE.out; rw [notM_len] at h; exact ⟨h.2.2, h.2.1⟩)
      have y0 : wr.cell? ⟨yb, 0, none⟩ = some (.int .i64 La) := (blk_cell YY.out 0).trans rfl
      have y1 : wr.cell? ⟨yb, 1, none⟩ = some (.int .i64 0) := (blk_cell YY.out 1).trans rfl
      have y2 : wr.cell? ⟨yb, 2, none⟩ = some (.slice AN R1.length cN) := (blk_cell YY.out 2).trans rfl
      have zy := blk_lt YY.out
      clear OO OE BB hlt hgq hq
      clear f3
      have LW := Aside0.mk (Nat.lt_of_le_of_lt (Nat.le_refl yb) zy)
      have LB := Aside0.mk (show w.heap.size < w7.heap.size ∧ w7.heap.size < yb from ⟨LB.out.1, by have := LB.out.2; have := HYB.out; omega⟩)
      go_wp2_with (first
        | (go_at_call 36; have _t := tokD2; refine (dn_at La 0 AN AU R1.length M1.length cN cU R1 (notM M1) wr rfl (notM_len M1).symm Va.out.caps.2.2.1 MU.out.1 La 0 R3 M3 H4.out).mono ?_; rintro e w13 ⟨AZ, cZ, AT, cT, rfl, hb13, hV13⟩; have Y13 := Aside0.mk (blk_below YY.out hb13); have Va13 := Aside0.mk (Va.out.below hb13); have Vb13 := Aside0.mk (Vb.out.below hb13); have Eb13 := Aside0.mk (blk_below Eb.out hb13); have Bw13 := Aside0.mk (below_step Bw.out hb13); have Vz13 := Aside0.mk hV13; have MU13 := Aside0.mk (show Kd.C (Kd.int .i64) w13 AU M1.length (notM M1) ∧ M1.length ≤ cU from ⟨Kd.C_below MU.out.1 hb13, MU.out.2⟩); have u0 : w13.cell? ⟨yb, 0, none⟩ = some (.int .i64 La) := (blk_cell Y13.out 0).trans rfl; have u1 : w13.cell? ⟨yb, 1, none⟩ = some (.int .i64 0) := (blk_cell Y13.out 1).trans rfl; have u2 : w13.cell? ⟨yb, 2, none⟩ = some (.slice AN R1.length cN) := (blk_cell Y13.out 2).trans rfl; have u3 : w13.cell? ⟨yb, 3, none⟩ = some (.slice AU M1.length cU) := (blk_cell Y13.out 3).trans rfl; have zy13 := blk_lt Y13.out; have S13 := Aside0.mk hb13.size; clear hb13 hV13 y0 y1 y2 y3 zy tokD2)
        | (go_at_call 38; refine calls_let ?_; intro W14 hW14; have hb14 : Below w13.heap.size w13 W14 := (by rw [hW14]; exact below_alloc (Below.refl _ _) _); have Z14 := Aside0.mk (show W14.heap[w13.heap.size]? = some (.cells #[.int .i64 La, .int .i64 0, .slice AZ R3.length cZ, .slice AT M3.length cT] 101 (0, 0)) from by rw [hW14]; exact blk_new w13 _); have Y14 := Aside0.mk (blk_below Y13.out hb14); have Va14 := Va13.out.below hb14; have Vb14 := Aside0.mk (Vb13.out.below hb14); have Eb14 := Aside0.mk (blk_below Eb13.out hb14); have Bw14 := Aside0.mk (below_step Bw13.out hb14); have Vz14 := Aside0.mk (Vz13.out.below hb14); have hMU := Kd.C_below MU13.out.1 hb14; clear hW14; refine (dl_at La 0 AN AU R1.length M1.length cN cU R1 (notM M1) W14 rfl (notM_len M1).symm Va14.caps.2.2.1 Va14.caps.1 hMU MU13.out.2 La 0 R3 M3 H5.out).mono ?_; clear Va14 hMU; rintro e w15 ⟨AV, cV, AW, cW, rfl, hb15, hV15⟩; have Y15 := Aside0.mk (blk_below Y14.out hb15); have Z15 := Aside0.mk (blk_below Z14.out hb15); have Vb15 := Aside0.mk (Vb14.out.below hb15); have Eb15 := Aside0.mk (blk_below Eb14.out hb15); have Bw15 := Aside0.mk (below_step Bw14.out hb15); have Vz15 := Aside0.mk (Vz14.out.below hb15); have Vl15 := Aside0.mk hV15; have N15 := Aside0.mk (show yb < w13.heap.size ∧ w13.heap.size ≤ W14.heap.size from ⟨blk_lt Y13.out, hb14.size⟩); have s0 : w15.cell? ⟨yb, 0, none⟩ = some (.int .i64 La) := (blk_cell Y15.out 0).trans rfl; have s1 : w15.cell? ⟨yb, 1, none⟩ = some (.int .i64 0) := (blk_cell Y15.out 1).trans rfl; have s2 : w15.cell? ⟨yb, 2, none⟩ = some (.slice AN R1.length cN) := (blk_cell Y15.out 2).trans rfl; have s3 : w15.cell? ⟨yb, 3, none⟩ = some (.slice AU M1.length cU) := (blk_cell Y15.out 3).trans rfl; have sf0 := blk_frozen Y15.out 0; have sf1 := blk_frozen Y15.out 1; have sf2 := blk_frozen Y15.out 2; have sf3 := blk_frozen Y15.out 3; have q0 : w15.cell? ⟨w13.heap.size, 0, none⟩ = some (.int .i64 La) := (blk_cell Z15.out 0).trans rfl; have q1 : w15.cell? ⟨w13.heap.size, 1, none⟩ = some (.int .i64 0) := (blk_cell Z15.out 1).trans rfl; have q2 : w15.cell? ⟨w13.heap.size, 2, none⟩ = some (.slice AZ R3.length cZ) := (blk_cell Z15.out 2).trans rfl; have q3 : w15.cell? ⟨w13.heap.size, 3, none⟩ = some (.slice AT M3.length cT) := (blk_cell Z15.out 3).trans rfl; have zy15 := blk_lt Y15.out; have zz15 := blk_lt Z15.out; have zne : yb ≠ w13.heap.size := (by have := N15.out.1; omega); clear hb14 hb15 hV15 u0 u1 u2 u3 zy13)
        | (go_at_call 37; have _t := tokA2; refine calls_let ?_; intro W16 hW16; have e16 : W16 = set4 w15 yb (.int .i64 La) (.int .i64 0) (.slice AV R3.length cV) (.slice AW M3.length cW) := hW16.trans rfl; have T16 := turned4 w15 yb (.int .i64 La) (.int .i64 0) (.slice AV R3.length cV) (.slice AW M3.length cW); rw [← e16] at T16; have Eb16 := Aside0.mk (blk_turned Eb15.out T16 (by have := LB.out; omega)); have Vb16 := Aside0.mk (Vb15.out.turned T16 (.inr (by have := HYB.out; have := LB.out; omega))); have Bw16 := Aside0.mk (show Below w.heap.size w W16 from T16.below Bw15.out (by have := LB.out; omega)); have Vz16 := Vz15.out.turned T16 (.inl (by have := LW.out; omega)); have Vl16 := Vl15.out.turned T16 (.inl (by have := N15.out; omega)); clear hW16 e16 T16; refine (alike_yes' La 0 AZ AT AV AW cZ cT cV cW R3.length R3.length M3.length M3.length R3 M3 W16 rfl rfl rfl rfl Vz16.caps.2.2.1 Vz16.caps.1 Vz16.caps.2.2.2 Vz16.caps.2.1 Vl16.caps.2.2.1 Vl16.caps.1 Vl16.caps.2.2.2 Vl16.caps.2.1).mono ?_; clear Vz16 Vl16; rintro e w17 ⟨rfl, hb17⟩; have E17 := Aside0.mk (blk_below Eb16.out hb17); have Vb17 := Aside0.mk (Vb16.out.below hb17); have B17 := Aside0.mk (below_step Bw16.out hb17); have b0 : w17.cell? ⟨w7.heap.size, 0, none⟩ = some (.int .i64 Lb) := (blk_cell E17.out 0).trans rfl; have b1 : w17.cell? ⟨w7.heap.size, 1, none⟩ = some (.int .i64 0) := (blk_cell E17.out 1).trans rfl; have b2 : w17.cell? ⟨w7.heap.size, 2, none⟩ = some (.slice AP R2.length cP) := (blk_cell E17.out 2).trans rfl; have b3 : w17.cell? ⟨w7.heap.size, 3, none⟩ = some (.slice AQ M2.length cQ) := (blk_cell E17.out 3).trans rfl; have z17 := blk_lt E17.out; clear hb17 s0 s1 s2 s3 sf0 sf1 sf2 sf3 q0 q1 q2 q3 zy15 zz15 zne tokA2)
        | fail)
      go_ret
      exact ⟨rfl, by with_reducible repeat (first | exact B17.out | refine below_alloc ?_ _ )⟩
set_option maxHeartbeats 16000000 in
set_option maxRecDepth 100000 in
theorem ht_yy (Lz sz La Lb : Int) (A2 A3 : Option Addr) (c2 c3 : Nat) (nx : List (List Int)) (ms : List Int) (w : World) (hr2 : Kd.C (Kd.slice 3 (Kd.int .i64)) w A2 nx.length nx) (hr3 : Kd.C (Kd.int .i64) w A3 ms.length ms) (R1 R2 : List (List Int)) (M1 M2 : List Int) (h1 : upF Lz sz nx ms = (La, R1, M1, 0)) (h2 : dnF Lz sz nx ms = (Lb, R2, M2, 0)) (ha : R1.length ≤ 5) (hb : R2.length ≤ 5) (R3 : List (List Int)) (M3 : List Int) (h3 : upF La 0 R1 M1 = (La, R1, M1, 0)) (h4 : dnF La 0 R1 (notM M1) = (La, R3, M3, 0)) (h5 : dlF La 0 R1 (notM M1) = (La, R3, M3, 0)) (hmb : ∀ m ∈ M1, m = 0 ∨ m = 1) (hml : M1.length ≤ 5) (h6 : dnF Lb 0 R2 M2 = (Lb, R2, M2, 0)) :
    Calls Try.prog 11 #[.agg #[.int .i64 Lz, .int .i64 sz, .slice A2 nx.length c2, .slice A3 ms.length c3]] w fun e w' => e = .returned (.bool true) ∧ Below w.heap.size w w' := by
  have HR2 := Aside0.mk hr2
  have HR3 := Aside0.mk hr3
  have H1 := Aside0.mk h1
  have H2 := Aside0.mk h2
  obtain ⟨er, her⟩ : ∃ er : Int, er = 0 := ⟨_, rfl⟩
  rw [← her] at H1 H2
  have hne : (er != 0) = false := by rw [her]; rfl
  have hda : decide ((R1.length : Int) ≤ 5) = true := by simp; omega
  have hdb : decide ((R2.length : Int) ≤ 5) = true := by simp; omega
  have H3 := Aside0.mk h3
  have H4 := Aside0.mk h4
  have H5 := Aside0.mk h5
  have HMB := Aside0.mk hmb
  have HML := Aside0.mk hml
  have H6 := Aside0.mk h6
  have HER := Aside0.mk her
  clear hr2 hr3 h1 h2 ha hb h3 h4 h5 hmb hml h6 her
  have tokU : True := trivial
  have tokD1 : True := trivial
  have tokD2 : True := trivial
  have tokA1 : True := trivial
  have tokA2 : True := trivial
  go_enter Try.func11, Try.ntmps11
  go_wp2_with (first
    | (go_at_call 34; refine calls_let ?_; intro W2 hW2; have X2 : Aside0 (W2.heap[w.heap.size]? = some (.cells #[.int .i64 Lz, .int .i64 sz, .slice A2 nx.length c2, .slice A3 ms.length c3] 101 (0, 0))) := ⟨by rw [hW2]; repeat (first | exact blk_new _ _ | refine blk_alloc ?_ _)⟩; have B2 : Aside0 (Below w.heap.size w W2) := ⟨by rw [hW2]; repeat (first | exact Below.refl _ _ | apply below_alloc)⟩; have hN2 := lit_rows2 (W := W2) (b := w.heap.size + 1 + 1 + 1) (b1 := w.heap.size + 1) (b2 := w.heap.size + 1 + 1) (x := 1) (y := 1) (by rw [hW2]; go_simp) (by rw [hW2]; go_simp) (by rw [hW2]; go_simp) (by rw [hW2]; go_simp); have hM2 := lit_ints2 (W := W2) (b := w.heap.size + 1 + 1 + 1 + 1) (x := 0) (y := 1) (by rw [hW2]; go_simp) (by rw [hW2]; go_simp); clear hW2; refine (least_tiny _ _ W2 hN2 hM2).mono ?_; clear hN2 hM2; rintro e w3 ⟨ad0, c0, A0, d0, rfl, hb3, hx3⟩; have X3 := Aside0.mk (blk_below X2.out hb3); have B3 := Aside0.mk (below_step B2.out hb3); have k30 : w3.cell? ⟨w.heap.size, 0, none⟩ = some (.int .i64 Lz) := (blk_cell X3.out 0).trans rfl; have k31 : w3.cell? ⟨w.heap.size, 1, none⟩ = some (.int .i64 sz) := (blk_cell X3.out 1).trans rfl; have k32 : w3.cell? ⟨w.heap.size, 2, none⟩ = some (.slice A2 nx.length c2) := (blk_cell X3.out 2).trans rfl; have k33 : w3.cell? ⟨w.heap.size, 3, none⟩ = some (.slice A3 ms.length c3) := (blk_cell X3.out 3).trans rfl; have z3 : w.heap.size < w3.heap.size := blk_lt X3.out; clear hb3 X2 B2)
    | (go_at_call 35; have _t := tokU; refine (up_at Lz sz A2 A3 nx.length ms.length c2 c3 nx ms _ rfl rfl (Kd.C_below HR2.out (by repeat (first | exact B3.out | apply below_alloc))) (Kd.C_below HR3.out (by repeat (first | exact B3.out | apply below_alloc))) La er R1 M1 H1.out).mono ?_; rintro e w5 ⟨AN, cN, AM, cM, rfl, hb5, hV5⟩; have X5 := Aside0.mk (blk_below X3.out hb5); have B5 := Aside0.mk (below_step B3.out hb5); have V5 := Aside0.mk hV5; have k50 : w5.cell? ⟨w.heap.size, 0, none⟩ = some (.int .i64 Lz) := (blk_cell X5.out 0).trans rfl; have k51 : w5.cell? ⟨w.heap.size, 1, none⟩ = some (.int .i64 sz) := (blk_cell X5.out 1).trans rfl; have k52 : w5.cell? ⟨w.heap.size, 2, none⟩ = some (.slice A2 nx.length c2) := (blk_cell X5.out 2).trans rfl; have k53 : w5.cell? ⟨w.heap.size, 3, none⟩ = some (.slice A3 ms.length c3) := (blk_cell X5.out 3).trans rfl; have z5 : w.heap.size < w5.heap.size := blk_lt X5.out; clear hb5 hV5 k30 k31 k32 k33 z3 hx3 tokU)
    | (go_at_call 36; have _t := tokD1; refine (dn_at Lz sz A2 A3 nx.length ms.length c2 c3 nx ms _ rfl rfl (Kd.C_below HR2.out (by repeat (first | exact B5.out | apply below_alloc))) (Kd.C_below HR3.out (by repeat (first | exact B5.out | apply below_alloc))) Lb er R2 M2 H2.out).mono ?_; rintro e w7 ⟨AP, cP, AQ, cQ, rfl, hb7, hV7⟩; have D7 := Aside0.mk (show w7.heap[w5.heap.size]? = some (.cells #[.int .i64 La, .int .i64 0, .slice AN R1.length cN, .slice AM M1.length cM] 101 (0, 0)) from blk_below (blk_new w5 _) hb7); have B7 := Aside0.mk (below_step (below_alloc B5.out _) hb7); have V57 := Aside0.mk ((V5.out.below (below_alloc (Below.refl _ _) _)).below hb7); have V7 := Aside0.mk hV7; have d70 : w7.cell? ⟨w5.heap.size, 0, none⟩ = some (.int .i64 La) := (blk_cell D7.out 0).trans rfl; have d71 : w7.cell? ⟨w5.heap.size, 1, none⟩ = some (.int .i64 0) := (blk_cell D7.out 1).trans rfl; have d72 : w7.cell? ⟨w5.heap.size, 2, none⟩ = some (.slice AN R1.length cN) := (blk_cell D7.out 2).trans rfl; have d73 : w7.cell? ⟨w5.heap.size, 3, none⟩ = some (.slice AM M1.length cM) := (blk_cell D7.out 3).trans rfl; have z57 : w5.heap.size < w7.heap.size := blk_lt D7.out; clear hb7 hV7 V5 k50 k51 k52 k53 z5 tokD1)
    | (go_at_call 35; refine calls_let ?_; intro W8 hW8; have hb8 : Below w7.heap.size w7 W8 := (by rw [hW8]; exact below_alloc (Below.refl _ _) _); have E8 := Aside0.mk (show W8.heap[w7.heap.size]? = some (.cells #[.int .i64 Lb, .int .i64 0, .slice AP R2.length cP, .slice AQ M2.length cQ] 101 (0, 0)) from by rw [hW8]; exact blk_new w7 _); have D8 := Aside0.mk (blk_below D7.out hb8); have B8 := Aside0.mk (below_step B7.out hb8); have Va8 := Aside0.mk (V57.out.below hb8); have Vb8 := Aside0.mk (V7.out.below hb8); clear hW8 hb8; refine (up_at La 0 AN AM R1.length M1.length cN cM R1 M1 W8 rfl rfl Va8.out.caps.2.2.1 Va8.out.caps.2.2.2 La 0 R1 M1 H3.out).mono ?_; rintro e w9 ⟨AX, cX, AY, cY, rfl, hb9, hV9⟩; have E9 := Aside0.mk (blk_below E8.out hb9); have D9 := Aside0.mk (blk_below D8.out hb9); have B9 := Aside0.mk (below_step B8.out hb9); have Va9 := Aside0.mk (Va8.out.below hb9); have Vb9 := Aside0.mk (Vb8.out.below hb9); have Vx9 := Aside0.mk hV9; have d90 : w9.cell? ⟨w5.heap.size, 0, none⟩ = some (.int .i64 La) := (blk_cell D9.out 0).trans rfl; have d91 : w9.cell? ⟨w5.heap.size, 1, none⟩ = some (.int .i64 0) := (blk_cell D9.out 1).trans rfl; have d92 : w9.cell? ⟨w5.heap.size, 2, none⟩ = some (.slice AN R1.length cN) := (blk_cell D9.out 2).trans rfl; have d93 : w9.cell? ⟨w5.heap.size, 3, none⟩ = some (.slice AM M1.length cM) := (blk_cell D9.out 3).trans rfl; have z59 : w5.heap.size < w9.heap.size := blk_lt D9.out; clear hb9 hV9 d70 d71 d72 d73 z57 E8 D8 B8 Va8 Vb8)
    | (go_at_call 37; have _t := tokA1; refine calls_let ?_; intro W10 hW10; have hb10 : Below w9.heap.size w9 W10 := (by rw [hW10]; exact below_alloc (Below.refl _ _) _); have E10 := Aside0.mk (blk_below E9.out hb10); have D10 := Aside0.mk (blk_below D9.out hb10); have B10 := Aside0.mk (below_step B9.out hb10); have Va10 := Aside0.mk (Va9.out.below hb10); have Vb10 := Aside0.mk (Vb9.out.below hb10); have Vx10 := Vx9.out.below hb10; clear hW10 hb10; refine (alike_yes' La 0 AX AY AN AM cX cY cN cM R1.length R1.length M1.length M1.length R1 M1 W10 rfl rfl rfl rfl Vx10.caps.2.2.1 Vx10.caps.1 Vx10.caps.2.2.2 Vx10.caps.2.1 Va10.out.caps.2.2.1 Va10.out.caps.1 Va10.out.caps.2.2.2 Va10.out.caps.2.1).mono ?_; clear Vx10; rintro e w11 ⟨rfl, hb11⟩; have E11 := Aside0.mk (blk_below E10.out hb11); have D11 := Aside0.mk (blk_below D10.out hb11); have B11 := Aside0.mk (below_step B10.out hb11); have Va11 := Aside0.mk (Va10.out.below hb11); have Vb11 := Aside0.mk (Vb10.out.below hb11); have d0 : w11.cell? ⟨w5.heap.size, 0, none⟩ = some (.int .i64 La) := (blk_cell D11.out 0).trans rfl; have d1 : w11.cell? ⟨w5.heap.size, 1, none⟩ = some (.int .i64 0) := (blk_cell D11.out 1).trans rfl; have d2 : w11.cell? ⟨w5.heap.size, 2, none⟩ = some (.slice AN R1.length cN) := (blk_cell D11.out 2).trans rfl; have d3 : w11.cell? ⟨w5.heap.size, 3, none⟩ = some (.slice AM M1.length cM) := (blk_cell D11.out 3).trans rfl; have z511 : w5.heap.size < w11.heap.size := blk_lt D11.out; clear hb11 d90 d91 d92 d93 z59 E9 D9 B9 Va9 Vb9 Vx9 E10 D10 B10 Va10 Vb10 tokA1)
    | fail)
  have LB := Aside0.mk (show w.heap.size < w7.heap.size ∧ w7.heap.size < w11.heap.size from ⟨Nat.lt_of_le_of_lt B5.out.size (blk_lt D7.out), blk_lt E11.out⟩)
  clear d0 d1 d2 d3 z511
  obtain ⟨yb, hyb⟩ : ∃ yb, w11.heap.size = yb := ⟨_, rfl⟩
  have HYB := Aside0.mk hyb
  obtain ⟨W12, hW12⟩ : ∃ W12, W12 = w11.alloc (.cells #[.int .i64 La, .int .i64 0, .slice AN R1.length cN, .slice none 0 0] 101) := ⟨_, rfl⟩
  have B12 := Aside0.mk (show Below w11.heap.size w11 W12 from by rw [hW12]; exact below_alloc (Below.refl _ _) _)
  have Y12 := Aside0.mk (show W12.heap[yb]? = some (.cells #[.int .i64 La, .int .i64 0, .slice AN R1.length cN, .slice none 0 0] 101 (0, 0)) from by rw [hW12, ← hyb]; exact blk_new w11 _)
  rw [← hW12]
  clear hW12
  rw [hyb]
  clear hyb
  go_loopg [13] M1.length (fun gg s13 wr => ∃ (q : Nat) (vM : Value), q ≤ M1.length ∧ M1.length - q ≤ gg ∧ s13 = .int .i64 (q : Int) ∧ Aside0 (wr.heap[yb]? = some (.cells #[.int .i64 La, .int .i64 0, .slice AN R1.length cN, vM] 101 (0, 0))) ∧ Aside0 (Kd.R (Kd.int .i64) 3 wr (yb + 1) (fun _ => True) vM (notM (M1.take q))) ∧ Aside0 (Below w11.heap.size w11 wr))
  case atStart => exact ⟨0, _, Nat.zero_le _, by omega, rfl, Y12, ⟨Kd.R_nil _ _ _ _ _⟩, B12⟩
  case round =>
    clear Y12 B12
    obtain ⟨q, vM, hq, hgq, rfl, YY, OO, BB⟩ := hrel
    have y3 : wr.cell? ⟨yb, 3, none⟩ = some vM := (blk_cell YY.out 3).trans rfl
    have f3 := blk_frozen YY.out 3
    have a3 : wr.cell? ⟨w5.heap.size, 3, none⟩ = some (.slice AM M1.length cM) := (blk_cell (blk_below D11.out BB.out) 3).trans rfl
    have hMl := HML.out
    by_cases hlt : q < M1.length
    · have hltz : (q : Int) < (M1.length : Int) := by omega
      have hq0 : (0 : Int) ≤ (q : Int) := by omega
      obtain ⟨am, e0, x1⟩ := int_get (Va11.out.below BB.out).caps.2.2.2 rfl hlt
      have hbit := HMB.out _ (List.getElem_mem hlt)
      have HT := Aside0.mk (notM_take hlt)
      have HTL := Aside0.mk (notM_take_len (M := M1) hq)
      cases e0
      generalize M1[q] = m at x1 hbit HT
      have hw1 : IntKind.i64.wrap (1 - m) = 1 - m := IntWalk.i64_in _ (by omega)
      obtain ⟨m', hm'⟩ : ∃ m', 1 - m = m' := ⟨_, rfl⟩
      rw [hm'] at hw1 HT
      clear hbit
      have HMS := Aside0.mk (show ∀ W', Below (yb + 1) wr W' → (fun W' => W'.cell? ⟨w5.heap.size, 3, none⟩ = some (.slice (some am) M1.length cM) ∧ W'.cell? (am.add q) = some (.int .i64 m)) W' from fun W' hb => ⟨(ht_cell (hb.block w5.heap.size (by have := blk_lt D11.out; have := HYB.out; omega))).trans a3, (ht_cellA (hb.block am.block (by have := C_lt11 (Va11.out.caps.2.2.2) hlt; have := HYB.out; omega))).trans x1⟩)
      have ZY := Aside0.mk (blk_lt YY.out)
      have zyb : yb < wr.heap.size := blk_lt YY.out
      go_wp2
      refine wp_region_held_drew (S := (fun W' => W'.cell? ⟨w5.heap.size, 3, none⟩ = some (.slice (some am) M1.length cM) ∧ W'.cell? (am.add q) = some (.int .i64 m))) (by kernel_rfl) ?_ (fun hHeld => ?_)
      · (try dsimp only); (first | exact S20 | exact HMS.out _ B9.out | exact HMS.out _ (by repeat (first | exact Below.refl _ _ | apply below_drew1 | refine Below.alloc ?_ (by have := ZY.out; simp; omega) _)) | fail)
      refine wpAnyH_take (i := 0) (v := ?_) rfl (by kernel_rfl) (by kernel_rfl) (by kernel_rfl) (fun _ _ _ h => h) (Or.inl ⟨by kernel_rfl, ?_⟩) (by assumption) ?_
      rotate_left 1
      · intro w hSw; (try dsimp only at hSw); go_simp; (try with_reducible rfl)
      (try simp only [Act.put, List.getElem_toArray, List.getElem_cons_zero, List.getElem_cons_succ, List.setIfInBounds_toArray, List.set_cons_zero, List.set_cons_succ])
      refine wpAnyH_take (i := 2) (v := ?_) rfl (by kernel_rfl) (by kernel_rfl) (by kernel_rfl) (fun _ _ _ h => h) (Or.inl ⟨by kernel_rfl, ?_⟩) (by assumption) ?_
      rotate_left 1
      · intro w hSw; (try dsimp only at hSw); go_simp; (try with_reducible rfl)
      (try simp only [Act.put, List.getElem_toArray, List.getElem_cons_zero, List.getElem_cons_succ, List.setIfInBounds_toArray, List.set_cons_zero, List.set_cons_succ])
      refine wpAnyH_take (i := 3) (v := ?_) rfl (by kernel_rfl) (by kernel_rfl) (by kernel_rfl) (fun _ _ _ h => h) (Or.inl ⟨by kernel_rfl, ?_⟩) (by assumption) ?_
      rotate_left 1
      · intro w hSw; (try dsimp only at hSw); go_simp; (try with_reducible rfl)
      (try simp only [Act.put, List.getElem_toArray, List.getElem_cons_zero, List.getElem_cons_succ, List.setIfInBounds_toArray, List.set_cons_zero, List.set_cons_succ])
      refine wpAnyH_take (i := 4) (v := ?_) rfl (by kernel_rfl) (by kernel_rfl) (by kernel_rfl) (fun _ _ _ h => h) (Or.inl ⟨by kernel_rfl, ?_⟩) (by assumption) ?_
      rotate_left 1
      · intro w hSw; (try dsimp only at hSw); go_simp; (try with_reducible rfl)
      (try simp only [Act.put, List.getElem_toArray, List.getElem_cons_zero, List.getElem_cons_succ, List.setIfInBounds_toArray, List.set_cons_zero, List.set_cons_succ])
      refine wpAnyH_take (i := 5) (v := ?_) rfl (by kernel_rfl) (by kernel_rfl) (by kernel_rfl) (fun _ _ _ h => h) (Or.inl ⟨by kernel_rfl, ?_⟩) (by assumption) ?_
      rotate_left 1
      · intro w hSw; (try dsimp only at hSw); go_simp; (try with_reducible rfl)
      (try simp only [Act.put, List.getElem_toArray, List.getElem_cons_zero, List.getElem_cons_succ, List.setIfInBounds_toArray, List.set_cons_zero, List.set_cons_succ])
      refine wpAnyH_take (i := 6) (v := ?_) rfl (by kernel_rfl) (by kernel_rfl) (by kernel_rfl) (fun _ _ _ h => h) (Or.inl ⟨by kernel_rfl, ?_⟩) (by assumption) ?_
      rotate_left 1
      · intro w hSw; (try dsimp only at hSw); go_simp; (try with_reducible rfl)
      (try simp only [Act.put, List.getElem_toArray, List.getElem_cons_zero, List.getElem_cons_succ, List.setIfInBounds_toArray, List.set_cons_zero, List.set_cons_succ])
      refine wpAnyH_take (i := 7) (v := ?_) rfl (by kernel_rfl) (by kernel_rfl) (by kernel_rfl) (fun _ _ _ h => h) (Or.inl ⟨by kernel_rfl, ?_⟩) (by assumption) ?_
      rotate_left 1
      · intro w hSw; (try dsimp only at hSw); go_simp; (try with_reducible rfl)
      (try simp only [Act.put, List.getElem_toArray, List.getElem_cons_zero, List.getElem_cons_succ, List.setIfInBounds_toArray, List.set_cons_zero, List.set_cons_succ])
      refine wpAnyH_ready (rs := [1, 8]) (by kernel_rfl) (by simp) ?_
      refine AllReadyH.cons rfl (fun K hK => ?_) (AllReadyH.cons rfl (fun K hK => ?_) AllReadyH.nil)
      · rw [if_pos (by kernel_rfl)]
        go_simp
        refine hK.out _ _ ?_ (fun hHeld => ?_)
        · (try dsimp only); (first | exact S20 | exact HMS.out _ B9.out | exact HMS.out _ (by repeat (first | exact Below.refl _ _ | apply below_drew1 | refine Below.alloc ?_ (by have := ZY.out; simp; omega) _)) | fail)
        clear hK K
        (try simp only [Act.put, List.getElem_toArray, List.getElem_cons_zero, List.getElem_cons_succ, List.setIfInBounds_toArray, List.set_cons_zero, List.set_cons_succ])
        refine wpAnyH_ready (rs := [8]) (by kernel_rfl) (by simp) ?_
        refine AllReadyH.cons rfl (fun K hK => ?_) AllReadyH.nil
        rw [if_pos (by kernel_rfl)]
        go_simp
        (try go_simp)
        refine hK.out _ _ ?_ (fun hHeld => ?_)
        · (try dsimp only); (first | exact S20 | exact HMS.out _ B9.out | exact HMS.out _ (by repeat (first | exact Below.refl _ _ | apply below_drew1 | refine Below.alloc ?_ (by have := ZY.out; simp; omega) _)) | fail)
        clear hK K
        (try simp only [Act.put, List.getElem_toArray, List.getElem_cons_zero, List.getElem_cons_succ, List.setIfInBounds_toArray, List.set_cons_zero, List.set_cons_succ])
        refine wpAnyH_ready (rs := [9]) (by kernel_rfl) (by simp) ?_
        refine AllReadyH.cons rfl (fun K hK => ?_) AllReadyH.nil
        refine append_int_step (W := (wr.alloc (.cells #[.int .i64 m'] 3)).drew) (B := yb + 1) (b := wr.heap.size) (x := m') (ok := fun _ => True) vM (notM (M1.take q)) (.tmp 89) (.tmp 96) 22 (by kernel_rfl) (by rfl) Try.underlying22 int3 (by rfl) (by rfl) (Kd.R_below OO.out (below_drew1 (below_alloc (Below.refl _ _) _))) (by go_simp) (by have := ZY.out; simp; omega) (by rw [HTL.out]; omega) ?_; intro v1 w9 h1 hg1; obtain ⟨Av, cv, ev⟩ := Kd.R_slice h1; generalize (notM (M1.take q) ++ [m']).length = nv at ev; subst ev; have B9 := Aside0.mk (show Below (yb + 1) wr w9 from Below.grown (below_drew1 (Below.alloc (Below.refl _ _) (by have := ZY.out; omega) _)) hg1 (by have := ZY.out; simp; omega) (fun k e => Kd.R_base OO.out k e)); have O9 := Aside0.mk h1; have Y9 := Aside0.mk ((B9.out.block yb (Nat.lt_succ_self _)).trans YY.out); have B911 := Aside0.mk (show Below w11.heap.size w11 w9 from below_weaken BB.out (by have := HYB.out; omega) B9.out); have f9 := blk_frozen Y9.out 3; have c9 : w9.cell? ⟨yb, 3, none⟩ = some vM := (blk_cell Y9.out 3).trans rfl; have S20 := (show (fun W' => W'.cell? ⟨w5.heap.size, 3, none⟩ = some (.slice (some am) M1.length cM) ∧ W'.cell? (am.add q) = some (.int .i64 m)) (w9.setCell ⟨yb, 3, none⟩ (.slice Av nv cv)) from ⟨(ht_cell (Below.heap_setCell w9 ⟨yb, 3, none⟩ (.slice Av nv cv) w5.heap.size (by have := blk_lt D11.out; have := HYB.out; show w5.heap.size ≠ yb; omega))).trans (HMS.out _ B9.out).1, (ht_cellA (Below.heap_setCell w9 ⟨yb, 3, none⟩ (.slice Av nv cv) am.block (by have := C_lt11 (Va11.out.caps.2.2.2) hlt; have := HYB.out; show am.block ≠ yb; omega))).trans (HMS.out _ B9.out).2⟩); clear h1 hg1
        (try go_simp)
        refine hK.out _ _ ?_ (fun hHeld => ?_)
        · (try dsimp only); (first | exact S20 | exact HMS.out _ B9.out | exact HMS.out _ (by repeat (first | exact Below.refl _ _ | apply below_drew1 | refine Below.alloc ?_ (by have := ZY.out; simp; omega) _)) | fail)
        clear hK K
        (try simp only [Act.put, List.getElem_toArray, List.getElem_cons_zero, List.getElem_cons_succ, List.setIfInBounds_toArray, List.set_cons_zero, List.set_cons_succ])
        refine wpAnyH_take (i := 10) (v := ?_) rfl (by kernel_rfl) (by kernel_rfl) (by kernel_rfl) (fun _ _ _ h => h) (Or.inl ⟨by kernel_rfl, ?_⟩) (by assumption) ?_
        rotate_left 1
        · intro w hSw; (try dsimp only at hSw); go_simp; (try with_reducible rfl)
        (try simp only [Act.put, List.getElem_toArray, List.getElem_cons_zero, List.getElem_cons_succ, List.setIfInBounds_toArray, List.set_cons_zero, List.set_cons_succ])
        refine wpAnyH_ready (rs := [11]) (by kernel_rfl) (by simp) ?_
        refine AllReadyH.cons rfl (fun K hK => ?_) AllReadyH.nil
        rw [if_pos (by kernel_rfl)]
        go_simp
        (try go_simp)
        refine hK.out _ _ ?_ (fun hHeld => ?_)
        · (try dsimp only); (first | exact S20 | exact HMS.out _ B9.out | exact HMS.out _ (by repeat (first | exact Below.refl _ _ | apply below_drew1 | refine Below.alloc ?_ (by have := ZY.out; simp; omega) _)) | fail)
        clear hK K
        (try simp only [Act.put, List.getElem_toArray, List.getElem_cons_zero, List.getElem_cons_succ, List.setIfInBounds_toArray, List.set_cons_zero, List.set_cons_succ])
        refine wpAnyH_done (by kernel_rfl) ?_ _
        go_wp2
        go_roundg (M1.length - (q + 1))
        case measure => omega
        case rel => exact ⟨q + 1, .slice Av nv cv, by omega, by omega, by go_num, ⟨blk_set Y9.out 3 (.slice Av nv cv)⟩, ⟨by rw [HT.out]; exact Kd.R_mono (Kd.R_step (Kd.R_bound (Kd.R_mono O9.out (fun _ _ => trivial : ∀ k, _ → True))) (fun k ho _ => Below.heap_setCell _ _ _ k (by have := ho.2.1; show k ≠ yb; omega))) (fun _ _ => trivial)⟩, ⟨below_set B911.out (by rw [HYB.out]; exact Nat.le_refl _)⟩⟩
      · rw [if_pos (by kernel_rfl)]
        go_simp
        refine hK.out _ _ ?_ (fun hHeld => ?_)
        · (try dsimp only); (first | exact S20 | exact HMS.out _ B9.out | exact HMS.out _ (by repeat (first | exact Below.refl _ _ | apply below_drew1 | refine Below.alloc ?_ (by have := ZY.out; simp; omega) _)) | fail)
        clear hK K
        (try simp only [Act.put, List.getElem_toArray, List.getElem_cons_zero, List.getElem_cons_succ, List.setIfInBounds_toArray, List.set_cons_zero, List.set_cons_succ])
        refine wpAnyH_ready (rs := [1]) (by kernel_rfl) (by simp) ?_
        refine AllReadyH.cons rfl (fun K hK => ?_) AllReadyH.nil
        rw [if_pos (by kernel_rfl)]
        go_simp
        (try go_simp)
        refine hK.out _ _ ?_ (fun hHeld => ?_)
        · (try dsimp only); (first | exact S20 | exact HMS.out _ B9.out | exact HMS.out _ (by repeat (first | exact Below.refl _ _ | apply below_drew1 | refine Below.alloc ?_ (by have := ZY.out; simp; omega) _)) | fail)
        clear hK K
        (try simp only [Act.put, List.getElem_toArray, List.getElem_cons_zero, List.getElem_cons_succ, List.setIfInBounds_toArray, List.set_cons_zero, List.set_cons_succ])
        refine wpAnyH_ready (rs := [9]) (by kernel_rfl) (by simp) ?_
        refine AllReadyH.cons rfl (fun K hK => ?_) AllReadyH.nil
        refine append_int_step (W := (wr.alloc (.cells #[.int .i64 m'] 3)).drew) (B := yb + 1) (b := wr.heap.size) (x := m') (ok := fun _ => True) vM (notM (M1.take q)) (.tmp 89) (.tmp 96) 22 (by kernel_rfl) (by rfl) Try.underlying22 int3 (by rfl) (by rfl) (Kd.R_below OO.out (below_drew1 (below_alloc (Below.refl _ _) _))) (by go_simp) (by have := ZY.out; simp; omega) (by rw [HTL.out]; omega) ?_; intro v1 w9 h1 hg1; obtain ⟨Av, cv, ev⟩ := Kd.R_slice h1; generalize (notM (M1.take q) ++ [m']).length = nv at ev; subst ev; have B9 := Aside0.mk (show Below (yb + 1) wr w9 from Below.grown (below_drew1 (Below.alloc (Below.refl _ _) (by have := ZY.out; omega) _)) hg1 (by have := ZY.out; simp; omega) (fun k e => Kd.R_base OO.out k e)); have O9 := Aside0.mk h1; have Y9 := Aside0.mk ((B9.out.block yb (Nat.lt_succ_self _)).trans YY.out); have B911 := Aside0.mk (show Below w11.heap.size w11 w9 from below_weaken BB.out (by have := HYB.out; omega) B9.out); have f9 := blk_frozen Y9.out 3; have c9 : w9.cell? ⟨yb, 3, none⟩ = some vM := (blk_cell Y9.out 3).trans rfl; have S20 := (show (fun W' => W'.cell? ⟨w5.heap.size, 3, none⟩ = some (.slice (some am) M1.length cM) ∧ W'.cell? (am.add q) = some (.int .i64 m)) (w9.setCell ⟨yb, 3, none⟩ (.slice Av nv cv)) from ⟨(ht_cell (Below.heap_setCell w9 ⟨yb, 3, none⟩ (.slice Av nv cv) w5.heap.size (by have := blk_lt D11.out; have := HYB.out; show w5.heap.size ≠ yb; omega))).trans (HMS.out _ B9.out).1, (ht_cellA (Below.heap_setCell w9 ⟨yb, 3, none⟩ (.slice Av nv cv) am.block (by have := C_lt11 (Va11.out.caps.2.2.2) hlt; have := HYB.out; show am.block ≠ yb; omega))).trans (HMS.out _ B9.out).2⟩); clear h1 hg1
        (try go_simp)
        refine hK.out _ _ ?_ (fun hHeld => ?_)
        · (try dsimp only); (first | exact S20 | exact HMS.out _ B9.out | exact HMS.out _ (by repeat (first | exact Below.refl _ _ | apply below_drew1 | refine Below.alloc ?_ (by have := ZY.out; simp; omega) _)) | fail)
        clear hK K
        (try simp only [Act.put, List.getElem_toArray, List.getElem_cons_zero, List.getElem_cons_succ, List.setIfInBounds_toArray, List.set_cons_zero, List.set_cons_succ])
        refine wpAnyH_take (i := 10) (v := ?_) rfl (by kernel_rfl) (by kernel_rfl) (by kernel_rfl) (fun _ _ _ h => h) (Or.inl ⟨by kernel_rfl, ?_⟩) (by assumption) ?_
        rotate_left 1
        · intro w hSw; (try dsimp only at hSw); go_simp; (try with_reducible rfl)
        (try simp only [Act.put, List.getElem_toArray, List.getElem_cons_zero, List.getElem_cons_succ, List.setIfInBounds_toArray, List.set_cons_zero, List.set_cons_succ])
        refine wpAnyH_ready (rs := [11]) (by kernel_rfl) (by simp) ?_
        refine AllReadyH.cons rfl (fun K hK => ?_) AllReadyH.nil
        rw [if_pos (by kernel_rfl)]
        go_simp
        (try go_simp)
        refine hK.out _ _ ?_ (fun hHeld => ?_)
        · (try dsimp only); (first | exact S20 | exact HMS.out _ B9.out | exact HMS.out _ (by repeat (first | exact Below.refl _ _ | apply below_drew1 | refine Below.alloc ?_ (by have := ZY.out; simp; omega) _)) | fail)
        clear hK K
        (try simp only [Act.put, List.getElem_toArray, List.getElem_cons_zero, List.getElem_cons_succ, List.setIfInBounds_toArray, List.set_cons_zero, List.set_cons_succ])
        refine wpAnyH_done (by kernel_rfl) ?_ _
        go_wp2
        go_roundg (M1.length - (q + 1))
        case measure => omega
        case rel => exact ⟨q + 1, .slice Av nv cv, by omega, by omega, by go_num, ⟨blk_set Y9.out 3 (.slice Av nv cv)⟩, ⟨by rw [HT.out]; exact Kd.R_mono (Kd.R_step (Kd.R_bound (Kd.R_mono O9.out (fun _ _ => trivial : ∀ k, _ → True))) (fun k ho _ => Below.heap_setCell _ _ _ k (by have := ho.2.1; show k ≠ yb; omega))) (fun _ _ => trivial)⟩, ⟨below_set B911.out (by rw [HYB.out]; exact Nat.le_refl _)⟩⟩
    · have hqe : q = M1.length := by omega
      subst hqe
      have OE := Aside0.mk (show Kd.R (Kd.int .i64) 3 wr (yb + 1) (fun _ => True) vM (notM M1) from by have := OO.out; rwa [List.take_length] at this)
      obtain ⟨AU, cU, e⟩ := Kd.R_slice OE.out
      rw [notM_len] at e
      subst e
      have Va := Aside0.mk (Va11.out.below BB.out)
      have Vb := Aside0.mk (Vb11.out.below BB.out)
      have Eb := Aside0.mk (blk_below E11.out BB.out)
      have Bw := Aside0.mk (below_step B11.out BB.out)
      have MU := Aside0.mk (show Kd.C (Kd.int .i64) wr AU M1.length (notM M1) ∧ M1.length ≤ cU from by have h := Kd.R_reads' OE.out; rw [notM_len] at h; exact ⟨h.2.2, h.2.1⟩)
      have y0 : wr.cell? ⟨yb, 0, none⟩ = some (.int .i64 La) := (blk_cell YY.out 0).trans rfl
      have y1 : wr.cell? ⟨yb, 1, none⟩ = some (.int .i64 0) := (blk_cell YY.out 1).trans rfl
      have y2 : wr.cell? ⟨yb, 2, none⟩ = some (.slice AN R1.length cN) := (blk_cell YY.out 2).trans rfl
      have zy := blk_lt YY.out
      clear OO OE BB hlt hgq hq
      clear f3
      have LW := Aside0.mk (Nat.lt_of_le_of_lt (Nat.le_refl yb) zy)
      have LB := Aside0.mk (show w.heap.size < w7.heap.size ∧ w7.heap.size < yb from ⟨LB.out.1, by have := LB.out.2; have := HYB.out; omega⟩)
      go_wp2_with (first
        | (go_at_call 36; have _t := tokD2; refine (dn_at La 0 AN AU R1.length M1.length cN cU R1 (notM M1) wr rfl (notM_len M1).symm Va.out.caps.2.2.1 MU.out.1 La 0 R3 M3 H4.out).mono ?_; rintro e w13 ⟨AZ, cZ, AT, cT, rfl, hb13, hV13⟩; have Y13 := Aside0.mk (blk_below YY.out hb13); have Va13 := Aside0.mk (Va.out.below hb13); have Vb13 := Aside0.mk (Vb.out.below hb13); have Eb13 := Aside0.mk (blk_below Eb.out hb13); have Bw13 := Aside0.mk (below_step Bw.out hb13); have Vz13 := Aside0.mk hV13; have MU13 := Aside0.mk (show Kd.C (Kd.int .i64) w13 AU M1.length (notM M1) ∧ M1.length ≤ cU from ⟨Kd.C_below MU.out.1 hb13, MU.out.2⟩); have u0 : w13.cell? ⟨yb, 0, none⟩ = some (.int .i64 La) := (blk_cell Y13.out 0).trans rfl; have u1 : w13.cell? ⟨yb, 1, none⟩ = some (.int .i64 0) := (blk_cell Y13.out 1).trans rfl; have u2 : w13.cell? ⟨yb, 2, none⟩ = some (.slice AN R1.length cN) := (blk_cell Y13.out 2).trans rfl; have u3 : w13.cell? ⟨yb, 3, none⟩ = some (.slice AU M1.length cU) := (blk_cell Y13.out 3).trans rfl; have zy13 := blk_lt Y13.out; have S13 := Aside0.mk hb13.size; clear hb13 hV13 y0 y1 y2 y3 zy tokD2)
        | (go_at_call 38; refine calls_let ?_; intro W14 hW14; have hb14 : Below w13.heap.size w13 W14 := (by rw [hW14]; exact below_alloc (Below.refl _ _) _); have Z14 := Aside0.mk (show W14.heap[w13.heap.size]? = some (.cells #[.int .i64 La, .int .i64 0, .slice AZ R3.length cZ, .slice AT M3.length cT] 101 (0, 0)) from by rw [hW14]; exact blk_new w13 _); have Y14 := Aside0.mk (blk_below Y13.out hb14); have Va14 := Va13.out.below hb14; have Vb14 := Aside0.mk (Vb13.out.below hb14); have Eb14 := Aside0.mk (blk_below Eb13.out hb14); have Bw14 := Aside0.mk (below_step Bw13.out hb14); have Vz14 := Aside0.mk (Vz13.out.below hb14); have hMU := Kd.C_below MU13.out.1 hb14; clear hW14; refine (dl_at La 0 AN AU R1.length M1.length cN cU R1 (notM M1) W14 rfl (notM_len M1).symm Va14.caps.2.2.1 Va14.caps.1 hMU MU13.out.2 La 0 R3 M3 H5.out).mono ?_; clear Va14 hMU; rintro e w15 ⟨AV, cV, AW, cW, rfl, hb15, hV15⟩; have Y15 := Aside0.mk (blk_below Y14.out hb15); have Z15 := Aside0.mk (blk_below Z14.out hb15); have Vb15 := Aside0.mk (Vb14.out.below hb15); have Eb15 := Aside0.mk (blk_below Eb14.out hb15); have Bw15 := Aside0.mk (below_step Bw14.out hb15); have Vz15 := Aside0.mk (Vz14.out.below hb15); have Vl15 := Aside0.mk hV15; have N15 := Aside0.mk (show yb < w13.heap.size ∧ w13.heap.size ≤ W14.heap.size from ⟨blk_lt Y13.out, hb14.size⟩); have s0 : w15.cell? ⟨yb, 0, none⟩ = some (.int .i64 La) := (blk_cell Y15.out 0).trans rfl; have s1 : w15.cell? ⟨yb, 1, none⟩ = some (.int .i64 0) := (blk_cell Y15.out 1).trans rfl; have s2 : w15.cell? ⟨yb, 2, none⟩ = some (.slice AN R1.length cN) := (blk_cell Y15.out 2).trans rfl; have s3 : w15.cell? ⟨yb, 3, none⟩ = some (.slice AU M1.length cU) := (blk_cell Y15.out 3).trans rfl; have sf0 := blk_frozen Y15.out 0; have sf1 := blk_frozen Y15.out 1; have sf2 := blk_frozen Y15.out 2; have sf3 := blk_frozen Y15.out 3; have q0 : w15.cell? ⟨w13.heap.size, 0, none⟩ = some (.int .i64 La) := (blk_cell Z15.out 0).trans rfl; have q1 : w15.cell? ⟨w13.heap.size, 1, none⟩ = some (.int .i64 0) := (blk_cell Z15.out 1).trans rfl; have q2 : w15.cell? ⟨w13.heap.size, 2, none⟩ = some (.slice AZ R3.length cZ) := (blk_cell Z15.out 2).trans rfl; have q3 : w15.cell? ⟨w13.heap.size, 3, none⟩ = some (.slice AT M3.length cT) := (blk_cell Z15.out 3).trans rfl; have zy15 := blk_lt Y15.out; have zz15 := blk_lt Z15.out; have zne : yb ≠ w13.heap.size := (by have := N15.out.1; omega); clear hb14 hb15 hV15 u0 u1 u2 u3 zy13)
        | (go_at_call 37; have _t := tokA2; refine calls_let ?_; intro W16 hW16; have e16 : W16 = set4 w15 yb (.int .i64 La) (.int .i64 0) (.slice AV R3.length cV) (.slice AW M3.length cW) := hW16.trans rfl; have T16 := turned4 w15 yb (.int .i64 La) (.int .i64 0) (.slice AV R3.length cV) (.slice AW M3.length cW); rw [← e16] at T16; have Eb16 := Aside0.mk (blk_turned Eb15.out T16 (by have := LB.out; omega)); have Vb16 := Aside0.mk (Vb15.out.turned T16 (.inr (by have := HYB.out; have := LB.out; omega))); have Bw16 := Aside0.mk (show Below w.heap.size w W16 from T16.below Bw15.out (by have := LB.out; omega)); have Vz16 := Vz15.out.turned T16 (.inl (by have := LW.out; omega)); have Vl16 := Vl15.out.turned T16 (.inl (by have := N15.out; omega)); clear hW16 e16 T16; refine (alike_yes' La 0 AZ AT AV AW cZ cT cV cW R3.length R3.length M3.length M3.length R3 M3 W16 rfl rfl rfl rfl Vz16.caps.2.2.1 Vz16.caps.1 Vz16.caps.2.2.2 Vz16.caps.2.1 Vl16.caps.2.2.1 Vl16.caps.1 Vl16.caps.2.2.2 Vl16.caps.2.1).mono ?_; clear Vz16 Vl16; rintro e w17 ⟨rfl, hb17⟩; have E17 := Aside0.mk (blk_below Eb16.out hb17); have Vb17 := Aside0.mk (Vb16.out.below hb17); have B17 := Aside0.mk (below_step Bw16.out hb17); have b0 : w17.cell? ⟨w7.heap.size, 0, none⟩ = some (.int .i64 Lb) := (blk_cell E17.out 0).trans rfl; have b1 : w17.cell? ⟨w7.heap.size, 1, none⟩ = some (.int .i64 0) := (blk_cell E17.out 1).trans rfl; have b2 : w17.cell? ⟨w7.heap.size, 2, none⟩ = some (.slice AP R2.length cP) := (blk_cell E17.out 2).trans rfl; have b3 : w17.cell? ⟨w7.heap.size, 3, none⟩ = some (.slice AQ M2.length cQ) := (blk_cell E17.out 3).trans rfl; have z17 := blk_lt E17.out; clear hb17 s0 s1 s2 s3 sf0 sf1 sf2 sf3 q0 q1 q2 q3 zy15 zz15 zne tokA2)
        | (go_at_call 36; refine calls_let ?_; intro W18 hW18; have hb18 : Below w17.heap.size w17 W18 := (by rw [hW18]; repeat (first | exact Below.refl _ _ | apply below_alloc)); have Vb18 := Vb17.out.below hb18; have E18 : W18.heap[w7.heap.size]? = some (.cells #[.int .i64 Lb, .int .i64 0, .slice AP R2.length cP, .slice AQ M2.length cQ] 101 (0, 0)) := (by first | exact blk_below E17.out hb18 | (rw [hW18]; exact blk_new w7 _)); have B18 := below_step B17.out hb18; clear hW18 hb18; refine (dn_at Lb 0 AP AQ R2.length M2.length cP cQ R2 M2 W18 rfl rfl Vb18.caps.2.2.1 Vb18.caps.2.2.2 Lb 0 R2 M2 H6.out).mono ?_; rintro e w19 ⟨AF, cF, AG, cG, rfl, hb19, hV19⟩; have E19 := Aside0.mk (blk_below E18 hb19); have Vb19 := Aside0.mk (Vb18.below hb19); have B19 := Aside0.mk (below_step B18 hb19); have Vf19 := Aside0.mk hV19; have g0 : w19.cell? ⟨w7.heap.size, 0, none⟩ = some (.int .i64 Lb) := (blk_cell E19.out 0).trans rfl; have g1 : w19.cell? ⟨w7.heap.size, 1, none⟩ = some (.int .i64 0) := (blk_cell E19.out 1).trans rfl; have g2 : w19.cell? ⟨w7.heap.size, 2, none⟩ = some (.slice AP R2.length cP) := (blk_cell E19.out 2).trans rfl; have g3 : w19.cell? ⟨w7.heap.size, 3, none⟩ = some (.slice AQ M2.length cQ) := (blk_cell E19.out 3).trans rfl; have z19 := blk_lt E19.out; clear hb19 hV19 Vb18 E18 B18)
        | (go_at_call 37; refine calls_let ?_; intro W20 hW20; have hb20 : Below w19.heap.size w19 W20 := (by rw [hW20]; exact below_alloc (Below.refl _ _) _); have Vb20 := Vb19.out.below hb20; have Vf20 := Vf19.out.below hb20; have B20 := below_step B19.out hb20; clear hW20 hb20; refine (alike_yes' Lb 0 AF AG AP AQ cF cG cP cQ R2.length R2.length M2.length M2.length R2 M2 W20 rfl rfl rfl rfl Vf20.caps.2.2.1 Vf20.caps.1 Vf20.caps.2.2.2 Vf20.caps.2.1 Vb20.caps.2.2.1 Vb20.caps.1 Vb20.caps.2.2.2 Vb20.caps.2.1).mono ?_; rintro e w21 ⟨rfl, hb21⟩; have B21 := Aside0.mk (below_step B20 hb21); clear hb21 Vb20 Vf20 B20 g0 g1 g2 g3 z19)
        | fail)
      go_ret
      exact ⟨rfl, by with_reducible repeat (first | exact B21.out | refine below_alloc ?_ _ )⟩
theorem ht_calls (L st : Int) (A2 A3 : Option Addr) (c2 c3 : Nat) (nx : List (List Int)) (ms : List Int) (w : World) (hr2 : Kd.C (Kd.slice 3 (Kd.int .i64)) w A2 nx.length nx) (hr3 : Kd.C (Kd.int .i64) w A3 ms.length ms) :
    Calls Try.prog 11 #[.agg #[.int .i64 L, .int .i64 st, .slice A2 nx.length c2, .slice A3 ms.length c3]] w fun e w' => e = .returned (.bool true) ∧ Below w.heap.size w w' := by
  by_cases h : smF L st nx ms = 0
  · obtain ⟨L, st, rfl, rfl, hok⟩ := smOk_of h
    have h1 := upF_ok hok
    have h2 := dnF_ok hok
    have z : ((0 : Nat) : Int) = 0 := rfl
    have h3 : ∀ ha : (UpR L st nx ms).length ≤ 5, upF (L : Int) 0 (UpR L st nx ms) (UpM L st nx ms) = ((L : Int), UpR L st nx ms, UpM L st nx ms, 0) := fun ha => by
      have hs := sm_of (upOk hok) ha (upB L st nx ms)
      have := upF_ok hs
      rw [(up_twice hok ha).1, (up_twice hok ha).2, z] at this
      exact this
    have h4 : ∀ ha : (UpR L st nx ms).length ≤ 5, dnF (L : Int) 0 (UpR L st nx ms) (notM (UpM L st nx ms)) = ((L : Int), lstR L (UpR L st nx ms) (notM (UpM L st nx ms)) 0, lstM L (UpR L st nx ms) (notM (UpM L st nx ms)) 0, 0) := fun ha => by
      have hs := sm_of (notM_ok (upOk hok) (upB L st nx ms)) ha (notM_bit (upB L st nx ms))
      have := dnF_ok hs
      rw [(not_up hok ha).1, (not_up hok ha).2, z] at this
      exact this
    have h5 : ∀ ha : (UpR L st nx ms).length ≤ 5, dlF (L : Int) 0 (UpR L st nx ms) (notM (UpM L st nx ms)) = ((L : Int), lstR L (UpR L st nx ms) (notM (UpM L st nx ms)) 0, lstM L (UpR L st nx ms) (notM (UpM L st nx ms)) 0, 0) := fun ha => by
      have hno := notM_ok (upOk hok) (upB L st nx ms)
      have hc := dCheck_ok hno hno.pos (by omega) (notM_bit (upB L st nx ms))
      rw [z] at hc
      unfold dlF
      rw [if_pos hc, Int.toNat_natCast]
      rfl
    have hml : ∀ ha : (UpR L st nx ms).length ≤ 5, (UpM L st nx ms).length ≤ 5 := fun ha => by rw [(upOk hok).len]; exact ha
    have h6 : ∀ hb : (DnR L st nx ms).length ≤ 5, dnF (L : Int) 0 (DnR L st nx ms) (DnM L st nx ms) = ((L : Int), DnR L st nx ms, DnM L st nx ms, 0) := fun hb => by
      have hs := sm_of (dnOk hok) hb (dnB L st nx ms)
      have := dnF_ok hs
      rw [(dn_twice hok hb).1, (dn_twice hok hb).2, z] at this
      exact this
    by_cases ha : (UpR L st nx ms).length ≤ 5
    · by_cases hb : (DnR L st nx ms).length ≤ 5
      · exact ht_yy _ _ _ _ A2 A3 c2 c3 nx ms w hr2 hr3 _ _ _ _ h1 h2 ha hb _ _ (h3 ha) (h4 ha) (h5 ha) (upB L st nx ms) (hml ha) (h6 hb)
      · exact ht_yn _ _ _ _ A2 A3 c2 c3 nx ms w hr2 hr3 _ _ _ _ h1 h2 ha hb _ _ (h3 ha) (h4 ha) (h5 ha) (upB L st nx ms) (hml ha)
    · by_cases hb : (DnR L st nx ms).length ≤ 5
      · exact ht_ny _ _ _ _ A2 A3 c2 c3 nx ms w hr2 hr3 _ _ _ _ h1 h2 ha hb (h6 hb)
      · exact ht_nn _ _ _ _ A2 A3 c2 c3 nx ms w hr2 hr3 _ _ _ _ h1 h2 ha hb
  · refine ht_er L st 0 0 A2 A3 c2 c3 nx ms w hr2 hr3 [] [] [] [] (smF L st nx ms) ?_ ?_ h
    · unfold upF; rw [if_neg h]
    · unfold dnF; rw [if_neg h]
end Go.Proofs.Ytampgoendkjkhaa.H
