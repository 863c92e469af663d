/- The walk of AlterTwice. -/
import Derived.Test.YtjabncedfjjbjaaAlP
import Derived.Test.YtjabncedfjjbjaaDv
namespace Go.Proofs.Ytjabncedfjjbjaa.H
open Go.RowKit Go.Shelf Go.Proofs.YtjabncedfjjbjaaW.PrintWords Go.Proofs.Ytjabncedfjjbjaa.DtM
set_option linter.unusedVariables false
set_option linter.unusedSimpArgs false
theorem alDet_at (L st : Int) (A2 A3 : Option Addr) (n2 n3 c2 c3 : Nat) (nx : List (List (List (List Int)))) (ms : List Int) (w : World) (hn2 : n2 = nx.length) (hn3 : n3 = ms.length) (hr2 : Kd.C (Kd.slice 42 (Kd.slice 22 (Kd.slice 3 (Kd.int .i64)))) w A2 n2 nx) (hr3 : Kd.C (Kd.int .i64) w A3 n3 ms) (L' er : Int) (R : List (List Int)) (M : List Int) (h : alDet L st nx ms = (L', R, M, er)) :
    Calls Try.prog 32 #[.agg #[.int .i64 L, .int .i64 st, .slice A2 n2 c2, .slice A3 n3 c3]] w fun e w' => ∃ AN cN AM cM, e = .returned (.tuple #[.agg #[.int .i64 L', .int .i64 0, .slice AN R.length cN, .slice AM M.length cM], .int .i64 er]) ∧ Below w.heap.size w w' ∧ DetV w' w.heap.size w'.heap.size AN cN AM cM R M ∧
      ∃ sN sM : Nat → Prop, (∀ k, sM k → ¬ sN k) ∧ Kd.S (Kd.slice 3 (Kd.int .i64)) 22 w' w.heap.size sN (.slice AN R.length cN) R ∧ Kd.R (Kd.int .i64) 3 w' w.heap.size sM (.slice AM M.length cM) M := by
  subst hn2 hn3
  refine (alDet_calls L st A2 A3 c2 c3 nx ms w hr2 hr3).mono ?_
  rw [h]
  rintro e w' ⟨vN, vM, he, hb, sN, sM, hd, hN, hM⟩
  obtain ⟨AN, cN, rfl⟩ := Kd.S_slice hN
  obtain ⟨AM, cM, rfl⟩ := Kd.R_slice hM
  exact ⟨AN, cN, AM, cM, he, hb, detV_of hN hM, sN, sM, hd, hN, hM⟩
set_option maxHeartbeats 4000000 in
theorem tiny_call (W : World) (b1 b2 b3 b4 b5 : Nat) (h1 : W.cell? ⟨b2, 0, none⟩ = some (.slice (some ⟨b1, 0, none⟩) 0 0)) (h2 : W.cell? ⟨b3, 0, none⟩ = some (.slice (some ⟨b2, 0, none⟩) 1 1)) (h3 : W.cell? ⟨b4, 0, none⟩ = some (.slice (some ⟨b3, 0, none⟩) 1 1)) (h4 : W.cell? ⟨b5, 0, none⟩ = some (.int .i64 1)) :
    Calls Try.prog 32 #[.agg #[.int .i64 1, .int .i64 0, .slice (some ⟨b4, 0, none⟩) 1 1, .slice (some ⟨b5, 0, none⟩) 1 1]] W fun e w' => ∃ AN cN AM cM, e = .returned (.tuple #[.agg #[.int .i64 1, .int .i64 0, .slice AN 1 cN, .slice AM 1 cM], .int .i64 0]) ∧ Below W.heap.size W w' := by
  have c0 := lit_row (t := 3) (d := Kd.int .i64) h1 rfl (Nat.le_refl _) (lit_nil _ W _)
  have c1 := lit_row (t := 22) h2 rfl (Nat.le_refl _) c0
  have c2 := lit_row (t := 42) h3 rfl (Nat.le_refl _) c1
  refine (alDet_at 1 0 _ _ 1 1 1 1 [[[[]]]] [1] W rfl rfl c2 (lit_C h4) 1 0 [[0]] [1] al_closed).mono ?_
  rintro e w' ⟨AN, cN, AM, cM, he, hb, _⟩
  exact ⟨AN, cN, AM, cM, he, hb⟩
set_option maxHeartbeats 8000000 in
set_option maxRecDepth 100000 in
theorem at_no (L st : Int) (A2 A3 : Option Addr) (c2 c3 : Nat) (nx : List (List (List (List Int)))) (ms : List Int) (w : World) (hr2 : Kd.C (Kd.slice 42 (Kd.slice 22 (Kd.slice 3 (Kd.int .i64)))) w A2 nx.length nx) (hr3 : Kd.C (Kd.int .i64) w A3 ms.length ms) (L' er : Int) (R : List (List Int)) (M : List Int) (h : alDet L st nx ms = (L', R, M, er)) (her : er ≠ 0) :
    Calls Try.prog 10 (alArgs L st A2 A3 c2 c3 nx ms) w fun e w' => e = .returned (.bool true) ∧ Below w.heap.size w w' := by
  have HR2 := Aside0.mk hr2
  have HR3 := Aside0.mk hr3
  have H := Aside0.mk h
  have hne : (er != 0) = true := by simpa using her
  clear hr2 hr3 h her
  have tok1 : True := trivial
  go_enter Try.func10, Try.ntmps10
  have tok2 : True := trivial
  go_wp2_with (first
    | (go_at_call 32; have _t := tok1; refine calls_let ?_; intro W2 hW2; have X2 : Aside0 (W2.heap[w.heap.size]? = some (.cells #[.int .i64 L, .int .i64 st, .slice A2 nx.length c2, .slice A3 ms.length c3] 77 (0, 0))) := ⟨by rw [hW2]; repeat (first | exact blk_new _ _ | refine blk_alloc ?_ _)⟩; have B2 : Aside0 (Below w.heap.size w W2) := ⟨by rw [hW2]; repeat (first | exact Below.refl _ _ | apply below_alloc)⟩; have hcall := tiny_call W2 (w.heap.size + 1) (w.heap.size + 1 + 1) (w.heap.size + 1 + 1 + 1) (w.heap.size + 1 + 1 + 1 + 1) (w.heap.size + 1 + 1 + 1 + 1 + 1) (by rw [hW2]; go_simp) (by rw [hW2]; go_simp) (by rw [hW2]; go_simp) (by rw [hW2]; go_simp); clear hW2; refine hcall.mono ?_; clear hcall; rintro e w3 ⟨AN0, cN0, AM0, cM0, rfl, hb3⟩; have X3 := Aside0.mk (blk_below X2.out hb3); have B3 := Aside0.mk (below_step B2.out hb3); have k30 : w3.cell? ⟨w.heap.size, 0, none⟩ = some (.int .i64 L) := (blk_cell X3.out 0).trans rfl; have k31 : w3.cell? ⟨w.heap.size, 1, none⟩ = some (.int .i64 st) := (blk_cell X3.out 1).trans rfl; have k32 : w3.cell? ⟨w.heap.size, 2, none⟩ = some (.slice A2 nx.length c2) := (blk_cell X3.out 2).trans rfl; have k33 : w3.cell? ⟨w.heap.size, 3, none⟩ = some (.slice A3 ms.length c3) := (blk_cell X3.out 3).trans rfl; have z3 : w.heap.size < w3.heap.size := blk_lt X3.out; clear hb3 X2 B2 tok1)
    | (go_at_call 32
       have _t := tok2
       refine (alDet_at L st A2 A3 nx.length ms.length c2 c3 nx ms _ rfl rfl (Kd.C_below HR2.out (by repeat (first | exact B3.out | apply below_alloc))) (Kd.C_below HR3.out (by repeat (first | exact B3.out | apply below_alloc))) L' er R M H.out).mono ?_
       rintro e w5 ⟨AN, cN, AM, cM, rfl, hb5, hD, sN, sM, hd, hN, hM⟩
       have D5 := Aside0.mk (show w5.heap[w3.heap.size]? = some (.cells #[.int .i64 1, .int .i64 0, .slice AN0 1 cN0, .slice AM0 1 cM0] 80 (0, 0)) from blk_below (blk_new w3 _) hb5)
       have B5 := Aside0.mk (below_step (below_alloc B3.out _) hb5)
       have z5 : w3.heap.size < w5.heap.size := blk_lt D5.out
       have d0 := (blk_cell D5.out 0).trans rfl
       have df0 := blk_frozen D5.out 0
       have d1 := (blk_cell D5.out 1).trans rfl
       have df1 := blk_frozen D5.out 1
       have d2 := (blk_cell D5.out 2).trans rfl
       have df2 := blk_frozen D5.out 2
       have d3 := (blk_cell D5.out 3).trans rfl
       have df3 := blk_frozen D5.out 3
       clear hb5 hD hd hN hM tok2)
    | fail)
  go_ret
  exact ⟨rfl, by
    have h9 : w.heap.size ≤ w3.heap.size := by omega
    with_reducible repeat (first | exact B5.out | refine below_set ?_ h9 | refine below_alloc ?_ _)⟩
structure AltV (W : World) (l u : Nat) (AN : Option Addr) (cN : Nat) (AM : Option Addr) (cM : Nat) (nx : List (List (List (List Int)))) (ms : List Int) : Prop where
  N : Kd.S (Kd.slice 42 (Kd.slice 22 (Kd.slice 3 (Kd.int .i64)))) 78 W l (fun k => k < u) (.slice AN nx.length cN) nx
  M : Kd.R (Kd.int .i64) 3 W l (fun k => k < u) (.slice AM ms.length cM) ms
section
variable {W W' : World} {l u cN cM b : Nat} {AN AM : Option Addr} {nx : List (List (List (List Int)))} {ms : List Int}
theorem AltV.below (h : AltV W l u AN cN AM cM nx ms) (hb : Below W.heap.size W W') : AltV W' l u AN cN AM cM nx ms := ⟨Kd.S_below h.N hb, Kd.R_below h.M hb⟩
theorem AltV.turned (h : AltV W l u AN cN AM cM nx ms) (ht : Turned b W W') (hu : b < l ∨ u ≤ b) : AltV W' l u AN cN AM cM nx ms :=
  ⟨Kd.S_mono (Kd.S_step (Kd.S_bound h.N) (fun k hk _ => ht.block k (by have h1 := hk.1; have h2 := hk.2.1; omega))) (fun _ h => h.1), Kd.R_mono (Kd.R_step (Kd.R_bound h.M) (fun k hk _ => ht.block k (by have h1 := hk.1; have h2 := hk.2.1; omega))) (fun _ h => h.1)⟩
theorem AltV.C (h : AltV W l u AN cN AM cM nx ms) : Kd.C (Kd.slice 42 (Kd.slice 22 (Kd.slice 3 (Kd.int .i64)))) W AN nx.length nx ∧ Kd.C (Kd.int .i64) W AM ms.length ms := ⟨(Kd.S_reads' h.N).2.2, (Kd.R_reads' h.M).2.2⟩
end
theorem alOth_at (L st : Int) (A2 A3 : Option Addr) (n2 n3 c2 c3 : Nat) (nx : List (List (List (List Int)))) (ms : List Int) (w : World) (hn2 : n2 = nx.length) (hn3 : n3 = ms.length) (hr2 : Kd.C (Kd.slice 42 (Kd.slice 22 (Kd.slice 3 (Kd.int .i64)))) w A2 n2 nx) (hr3 : Kd.C (Kd.int .i64) w A3 n3 ms) (nx' : List (List (List (List Int)))) (ms' : List Int) (h : alOth L st nx ms = (L, st, nx', ms', 0)) :
    Calls Try.prog 33 #[.agg #[.int .i64 L, .int .i64 st, .slice A2 n2 c2, .slice A3 n3 c3]] w fun e w' => ∃ AN cN AM cM, e = .returned (.tuple #[.agg #[.int .i64 L, .int .i64 st, .slice AN nx'.length cN, .slice AM ms'.length cM], .int .i64 0]) ∧ Below w.heap.size w w' ∧ AltV w' w.heap.size w'.heap.size AN cN AM cM nx' ms' := by
  subst hn2 hn3
  refine (alOth_calls L st A2 A3 c2 c3 nx ms w hr2 hr3).mono ?_
  rw [h]
  rintro e w' ⟨vN, vM, he, hb, sN, sM, hd, hN, hM⟩
  obtain ⟨AN, cN, rfl⟩ := Kd.S_slice hN
  obtain ⟨AM, cM, rfl⟩ := Kd.R_slice hM
  exact ⟨AN, cN, AM, cM, he, hb, Kd.S_mono (Kd.S_bound hN) (fun k hk => hk.2.2.1), Kd.R_mono (Kd.R_bound hM) (fun k hk => hk.2.2.1)⟩
/-- the marks, the first q of which are turned -/
def flipM (M : List Int) (q : Nat) : List Int := (M.take q).map (fun m => 1 - m) ++ M.drop q
theorem flip_len (M : List Int) (q : Nat) : (flipM M q).length = M.length := by
  unfold flipM
  rw [List.length_append, List.length_map, List.length_take, List.length_drop]
  omega
theorem flip_at {M : List Int} {q : Nat} (h : q < M.length) : (flipM M q).getD q 0 = M[q] := by
  unfold flipM
  rw [List.getD_eq_getElem?_getD, List.getElem?_append_right (by rw [List.length_map, List.length_take]; omega), List.length_map, List.length_take, Nat.min_eq_left (by omega), Nat.sub_self, List.getElem?_drop, Nat.add_zero, List.getElem?_eq_getElem h, Option.getD_some]
theorem flip_next {M : List Int} {q : Nat} (h : q < M.length) : (flipM M q).set q (1 - M[q]) = flipM M (q + 1) := by
  unfold flipM
  rw [List.set_append_right _ _ (by rw [List.length_map, List.length_take]; omega), List.length_map, List.length_take, Nat.min_eq_left (by omega), Nat.sub_self, take_snoc' M h, List.map_append, List.append_assoc, List.drop_eq_getElem_cons h]
  rfl
theorem flip_all (M : List Int) : flipM M M.length = M.map (fun m => 1 - m) := by
  unfold flipM
  rw [List.take_length, List.drop_length, List.append_nil]
set_option maxHeartbeats 16000000 in
set_option maxRecDepth 100000 in
theorem at_yes (L st : Int) (A2 A3 : Option Addr) (c2 c3 : Nat) (nx nx1 nx2 : List (List (List (List Int)))) (ms ms1 ms2 : List Int) (w : World) (hr2 : Kd.C (Kd.slice 42 (Kd.slice 22 (Kd.slice 3 (Kd.int .i64)))) w A2 nx.length nx) (hr3 : Kd.C (Kd.int .i64) w A3 ms.length ms) (R : List (List Int)) (M M' : List Int)
    (h1 : alDet L st nx ms = (L, R, M, 0)) (h2 : alOth L st nx ms = (L, st, nx1, ms1, 0)) (h3 : alDet L st nx1 ms1 = (L, R, M', 0)) (h4 : M'.map (fun m => 1 - m) = M) (h5 : ∀ m ∈ M', 0 ≤ m ∧ m < 65536) (h6 : alOth L st nx1 ms1 = (L, st, nx2, ms2, 0)) (h7 : alDet L st nx2 ms2 = (L, R, M, 0)) (h8 : 0 < M'.length) :
    Calls Try.prog 10 (alArgs L st A2 A3 c2 c3 nx ms) w fun e w' => e = .returned (.bool true) ∧ Below w.heap.size w w' := by
  have HR2 := Aside0.mk hr2
  have HR3 := Aside0.mk hr3
  have H1 := Aside0.mk h1
  have H2 := Aside0.mk h2
  have H3 := Aside0.mk h3
  have H4 := Aside0.mk h4
  have H5 := Aside0.mk h5
  have H6 := Aside0.mk h6
  have H7 := Aside0.mk h7
  have H8 := Aside0.mk h8
  clear hr2 hr3 h1 h2 h3 h4 h5 h6 h7 h8
  have tok1 : True := trivial
  have tok2 : True := trivial
  have tok3 : True := trivial
  have tok4 : True := trivial
  go_enter Try.func10, Try.ntmps10
  go_wp2_with (first
    | (go_at_call 32; have _t := tok1; refine calls_let ?_; intro W2 hW2; have X2 : Aside0 (W2.heap[w.heap.size]? = some (.cells #[.int .i64 L, .int .i64 st, .slice A2 nx.length c2, .slice A3 ms.length c3] 77 (0, 0))) := ⟨by rw [hW2]; repeat (first | exact blk_new _ _ | refine blk_alloc ?_ _)⟩; have B2 : Aside0 (Below w.heap.size w W2) := ⟨by rw [hW2]; repeat (first | exact Below.refl _ _ | apply below_alloc)⟩; have hcall := tiny_call W2 (w.heap.size + 1) (w.heap.size + 1 + 1) (w.heap.size + 1 + 1 + 1) (w.heap.size + 1 + 1 + 1 + 1) (w.heap.size + 1 + 1 + 1 + 1 + 1) (by rw [hW2]; go_simp) (by rw [hW2]; go_simp) (by rw [hW2]; go_simp) (by rw [hW2]; go_simp); clear hW2; refine hcall.mono ?_; clear hcall; rintro e w3 ⟨AN0, cN0, AM0, cM0, rfl, hb3⟩; have X3 := Aside0.mk (blk_below X2.out hb3); have B3 := Aside0.mk (below_step B2.out hb3); have k30 : w3.cell? ⟨w.heap.size, 0, none⟩ = some (.int .i64 L) := (blk_cell X3.out 0).trans rfl; have k31 : w3.cell? ⟨w.heap.size, 1, none⟩ = some (.int .i64 st) := (blk_cell X3.out 1).trans rfl; have k32 : w3.cell? ⟨w.heap.size, 2, none⟩ = some (.slice A2 nx.length c2) := (blk_cell X3.out 2).trans rfl; have k33 : w3.cell? ⟨w.heap.size, 3, none⟩ = some (.slice A3 ms.length c3) := (blk_cell X3.out 3).trans rfl; have z3 : w.heap.size < w3.heap.size := blk_lt X3.out; clear hb3 X2 B2 tok1)
    | (go_at_call 32
       have _t := tok2
       refine (alDet_at L st A2 A3 nx.length ms.length c2 c3 nx ms _ rfl rfl (Kd.C_below HR2.out (by repeat (first | exact B3.out | apply below_alloc))) (Kd.C_below HR3.out (by repeat (first | exact B3.out | apply below_alloc))) L 0 R M H1.out).mono ?_
       rintro e w5 ⟨AN, cN, AM, cM, rfl, hb5, hD, sN, sM, hd, hN, hM⟩
       have D5 := Aside0.mk (show w5.heap[w3.heap.size]? = some (.cells #[.int .i64 1, .int .i64 0, .slice AN0 1 cN0, .slice AM0 1 cM0] 80 (0, 0)) from blk_below (blk_new w3 _) hb5)
       have B5 := Aside0.mk (below_step (below_alloc B3.out _) hb5)
       have X5 := Aside0.mk (blk_below (blk_alloc X3.out _) hb5)
       have V5 := Aside0.mk hD
       have k50 : w5.cell? ⟨w.heap.size, 0, none⟩ = some (.int .i64 L) := (blk_cell X5.out 0).trans rfl
       have k51 : w5.cell? ⟨w.heap.size, 1, none⟩ = some (.int .i64 st) := (blk_cell X5.out 1).trans rfl
       have k52 : w5.cell? ⟨w.heap.size, 2, none⟩ = some (.slice A2 nx.length c2) := (blk_cell X5.out 2).trans rfl
       have k53 : w5.cell? ⟨w.heap.size, 3, none⟩ = some (.slice A3 ms.length c3) := (blk_cell X5.out 3).trans rfl
       have z5 : w3.heap.size < w5.heap.size := blk_lt D5.out
       have z35 : w.heap.size ≠ w3.heap.size := by omega
       have z50 : w.heap.size < w5.heap.size := by omega
       have d0 := (blk_cell D5.out 0).trans rfl
       have df0 := blk_frozen D5.out 0
       have d1 := (blk_cell D5.out 1).trans rfl
       have df1 := blk_frozen D5.out 1
       have d2 := (blk_cell D5.out 2).trans rfl
       have df2 := blk_frozen D5.out 2
       have d3 := (blk_cell D5.out 3).trans rfl
       have df3 := blk_frozen D5.out 3
       clear hb5 hD hd hN hM tok2)
    | (go_at_call 33
       have _t := tok3
       refine calls_let ?_
       intro W6 hW6
       have e6 : W6 = set4 w5 w3.heap.size (.int .i64 L) (.int .i64 0) (.slice AN R.length cN) (.slice AM M.length cM) := hW6.trans rfl
       have T6 := turned4 w5 w3.heap.size (.int .i64 L) (.int .i64 0) (.slice AN R.length cN) (.slice AM M.length cM)
       rw [← e6] at T6
       have D6 := Aside0.mk (show W6.heap[w3.heap.size]? = some (.cells #[.int .i64 L, .int .i64 0, .slice AN R.length cN, .slice AM M.length cM] 80 (0, 0)) from by rw [e6]; exact blk4 D5.out _ _ _ _)
       have B6 := Aside0.mk (show Below w.heap.size w W6 from by rw [e6]; exact below_set (below_set (below_set (below_set B5.out (by omega)) (by omega)) (by omega)) (by omega))
       have X6 := Aside0.mk (blk_turned X5.out T6 z35)
       have V6 := Aside0.mk (V5.out.turned T6 (.inl (by simp)))
       have S6 := Aside0.mk T6.size
       clear hW6 e6 T6
       refine (alOth_at L st A2 A3 nx.length ms.length c2 c3 nx ms W6 rfl rfl (Kd.C_below HR2.out B6.out) (Kd.C_below HR3.out B6.out) nx1 ms1 H2.out).mono ?_
       rintro e w7 ⟨AO, cO, AP, cP, rfl, hb7, hA7⟩
       have D7 := Aside0.mk (blk_below D6.out hb7)
       have V7 := Aside0.mk (V6.out.below hb7)
       have A7 := Aside0.mk hA7
       have B7 := Aside0.mk (below_step B6.out hb7)
       have z7 : w3.heap.size < w7.heap.size := blk_lt D7.out
       have S7 := Aside0.mk (show w5.heap.size ≤ w7.heap.size from by rw [← S6.out]; exact hb7.size)
       clear hb7 hA7 k50 k51 k52 k53 z5 z50 d0 d1 d2 d3 df0 df1 df2 df3 tok3)
    | (go_at_call 32
       have _t := tok4
       refine calls_let ?_
       intro W8 hW8
       have hb8 : Below w7.heap.size w7 W8 := by rw [hW8]; exact below_alloc (Below.refl _ _) _
       have O8 := Aside0.mk (show W8.heap[w7.heap.size]? = some (.cells #[.int .i64 L, .int .i64 st, .slice AO nx1.length cO, .slice AP ms1.length cP] 77 (0, 0)) from by rw [hW8]; exact blk_new w7 _)
       have D8 := Aside0.mk (blk_below D7.out hb8)
       have V8 := Aside0.mk (V7.out.below hb8)
       have A8 := Aside0.mk (A7.out.below hb8)
       have B8 := Aside0.mk (below_step B7.out hb8)
       have S8 := Aside0.mk (show W8.heap.size = w7.heap.size + 1 from by rw [hW8]; simp)
       clear hW8 hb8
       refine (alDet_at L st AO AP nx1.length ms1.length cO cP nx1 ms1 W8 rfl rfl A8.out.C.1 A8.out.C.2 L 0 R M' H3.out).mono ?_
       rintro e w9 ⟨AX, cX, AY, cY, rfl, hb9, _, sN, sM, hd, hN, hM⟩
       have O9 := Aside0.mk (blk_below O8.out hb9)
       have D9 := Aside0.mk (blk_below D8.out hb9)
       have V9 := Aside0.mk (V8.out.below hb9)
       have A9 := Aside0.mk (A8.out.below hb9)
       have B9 := Aside0.mk (below_step B8.out hb9)
       have HD9 := Aside0.mk hd
       have N9 := Aside0.mk hN
       have M9 := Aside0.mk hM
       have z9 : w7.heap.size < w9.heap.size := blk_lt O9.out
       have z39 : w3.heap.size < w9.heap.size := blk_lt D9.out
       have d2 : w9.cell? ⟨w3.heap.size, 2, none⟩ = some (.slice AN R.length cN) := (blk_cell D9.out 2).trans rfl
       have S9 := Aside0.mk (show W8.heap.size ≤ w9.heap.size from hb9.size)
       clear hb9 hd hN hM tok4)
    | fail)
  obtain ⟨ay, rfl⟩ : ∃ ay, AY = some ay := by
    cases AY with
    | none =>
      obtain ⟨_, e, _⟩ := int_get (Kd.R_reads' M9.out).2.2 rfl H8.out
      cases e
    | some a => exact ⟨a, rfl⟩
  obtain ⟨g, rfl, _, hrow, hgb, hgs⟩ := row_of_R M9.out
  have hgn : ¬ sN g := HD9.out g hgs
  have hgl : g < w9.heap.size := hrow.lt
  have GB := Aside0.mk hgb
  obtain ⟨W10, hW10⟩ : ∃ W10, W10 = w9.alloc (.cells #[.int .i64 L, .int .i64 0, .slice AX R.length cX, .slice (some ⟨g, 0, none⟩) M'.length cY] 80) := ⟨_, rfl⟩
  have hb10 : Below w9.heap.size w9 W10 := by rw [hW10]; exact below_alloc (Below.refl _ _) _
  have X10 := Aside0.mk (show W10.heap[w9.heap.size]? = some (.cells #[.int .i64 L, .int .i64 0, .slice AX R.length cX, .slice (some ⟨g, 0, none⟩) M'.length cY] 80 (0, 0)) from by rw [hW10]; exact blk_new w9 _)
  have O10 := Aside0.mk (blk_below O9.out hb10)
  have D10 := Aside0.mk (blk_below D9.out hb10)
  have V10 := Aside0.mk (V9.out.below hb10)
  have A10 := Aside0.mk (A9.out.below hb10)
  have B10 := Aside0.mk (below_step B9.out hb10)
  have R10 := Aside0.mk (hrow.below hb10)
  have N10 := Aside0.mk (Kd.S_below N9.out hb10)
  have S10 := Aside0.mk hb10.size
  rw [← hW10]
  clear hW10 hb10 hrow hgb M9 N9 X3 B3 D5 B5 X5 V5 D6 B6 X6 V6 D7 V7 A7 B7 O8 D8 V8 A8 B8 O9 D9 V9 A9 B9 HD9 d2 k30 k31 k32 k33 HR2 HR3
  have hMl : M'.length ≤ 9223372036854775807 := (C_len (R10.out.C)).2
  go_loopg [8] M'.length (fun gg s8 wr => ∃ q : Nat, q ≤ M'.length ∧ M'.length - q ≤ gg ∧ s8 = .int .i64 (q : Int) ∧ Aside0 (Turned g W10 wr) ∧ Aside0 (Row wr g (flipM M' q) cY))
  case atStart => exact ⟨0, Nat.zero_le _, by omega, rfl, ⟨turned_refl _ _⟩, ⟨by have := R10.out; unfold flipM; simpa using this⟩⟩
  case round =>
    obtain ⟨q, hq, hgq, rfl, TQ, RQ⟩ := hrel
    have hg9 : w9.heap.size ≠ g := by omega
    have X11 := Aside0.mk (blk_turned X10.out TQ.out hg9)
    have x3 : wr.cell? ⟨w9.heap.size, 3, none⟩ = some (.slice (some ⟨g, 0, none⟩) M'.length cY) := (blk_cell X11.out 3).trans rfl
    by_cases hlt : q < M'.length
    · have hltz : (q : Int) < (M'.length : Int) := by omega
      have hcell := RQ.out.cell (i := q) (by rw [flip_len]; exact hlt)
      rw [flip_at hlt] at hcell
      have hfr := RQ.out.frozen q
      have hb := H5.out _ (List.getElem_mem hlt)
      have HN := Aside0.mk (flip_next hlt)
      generalize M'[q] = m at hcell hb HN
      have hw1 : IntKind.i64.wrap (1 - m) = 1 - m := IntWalk.i64_in _ (by omega)
      go_wp2
      go_region
      all_goals go_wp2
      all_goals
        go_roundg (M'.length - (q + 1))
        case measure => omega
        case rel => exact ⟨q + 1, by omega, by omega, by go_num, ⟨turned_trans (turned_drew TQ.out) (turned_set _ ⟨g, q, none⟩ _)⟩, ⟨by rw [← HN.out]; exact Row.set (W := wr.drew) (RQ.out.keep rfl) (by rw [flip_len]; exact hlt) (1 - m)⟩⟩
    · have hqe : q = M'.length := by omega
      subst hqe
      have hS7 := S7.out
      have hS8 := S8.out
      have hgb := GB.out
      have hg3 : w3.heap.size ≠ g := by omega
      have hg7 : w7.heap.size ≠ g := by omega
      have hML : M'.length = M.length := by rw [← H4.out, List.length_map]
      have D11 := Aside0.mk (blk_turned D10.out TQ.out hg3)
      have O11 := Aside0.mk (blk_turned O10.out TQ.out hg7)
      have V11 := Aside0.mk (V10.out.turned TQ.out (.inr (by omega)))
      have A11 := Aside0.mk (A10.out.turned TQ.out (.inr (by omega)))
      have B11 := Aside0.mk (show Below w.heap.size w wr from TQ.out.below B10.out (by have := B10.out.size; have := S10.out; omega))
      have R11 := Aside0.mk (show Kd.C (Kd.int .i64) wr (some ⟨g, 0, none⟩) M'.length M from by
        have h := RQ.out
        rw [flip_all, H4.out] at h
        exact h.C' hML.symm)
      have N11 := Aside0.mk (show Kd.C (Kd.slice 3 (Kd.int .i64)) wr AX R.length R ∧ R.length ≤ cX from by
        have h := Kd.S_step (w1 := wr) N10.out (fun k hk _ => TQ.out.block k (fun e => hgn (e ▸ hk)))
        exact ⟨(Kd.S_reads' h).2.2, (Kd.S_reads' h).2.1⟩)
      have hcY : M'.length ≤ cY := by have := RQ.out.le; rwa [flip_len] at this
      have x0 : wr.cell? ⟨w9.heap.size, 0, none⟩ = some (.int .i64 L) := (blk_cell X11.out 0).trans rfl
      have x1 : wr.cell? ⟨w9.heap.size, 1, none⟩ = some (.int .i64 0) := (blk_cell X11.out 1).trans rfl
      have x2 : wr.cell? ⟨w9.heap.size, 2, none⟩ = some (.slice AX R.length cX) := (blk_cell X11.out 2).trans rfl
      have d0 : wr.cell? ⟨w3.heap.size, 0, none⟩ = some (.int .i64 L) := (blk_cell D11.out 0).trans rfl
      have d1 : wr.cell? ⟨w3.heap.size, 1, none⟩ = some (.int .i64 0) := (blk_cell D11.out 1).trans rfl
      have d2 : wr.cell? ⟨w3.heap.size, 2, none⟩ = some (.slice AN R.length cN) := (blk_cell D11.out 2).trans rfl
      have d3 : wr.cell? ⟨w3.heap.size, 3, none⟩ = some (.slice AM M.length cM) := (blk_cell D11.out 3).trans rfl
      have HML := Aside0.mk hML
      clear hML hS7 hS8 hgb hlt hq hgq X10 O10 D10 V10 A10 B10 R10 N10 S10 TQ
      have tok5 : True := trivial
      have tok6 : True := trivial
      go_wp2_with (first
        | (go_at_call 34
           have _t := tok5
           refine (alike_yes' L 0 AX (some ⟨g, 0, none⟩) AN AM cX cY cN cM R.length R.length M'.length M.length R M wr rfl HML.out rfl rfl N11.out.1 N11.out.2 R11.out hcY V11.out.caps.2.2.1 V11.out.caps.1 V11.out.caps.2.2.2 V11.out.caps.2.1).mono ?_
           rintro e w12 ⟨rfl, hb12⟩
           have D12 := Aside0.mk (blk_below D11.out hb12)
           have O12 := Aside0.mk (blk_below O11.out hb12)
           have V12 := Aside0.mk (V11.out.below hb12)
           have A12 := Aside0.mk (A11.out.below hb12)
           have B12 := Aside0.mk (below_step B11.out hb12)
           have o0 : w12.cell? ⟨w7.heap.size, 0, none⟩ = some (.int .i64 L) := (blk_cell O12.out 0).trans rfl
           have o1 : w12.cell? ⟨w7.heap.size, 1, none⟩ = some (.int .i64 st) := (blk_cell O12.out 1).trans rfl
           have o2 : w12.cell? ⟨w7.heap.size, 2, none⟩ = some (.slice AO nx1.length cO) := (blk_cell O12.out 2).trans rfl
           have o3 : w12.cell? ⟨w7.heap.size, 3, none⟩ = some (.slice AP ms1.length cP) := (blk_cell O12.out 3).trans rfl
           clear hb12 x0 x1 x2 x3 d0 d1 d2 d3 tok5)
        | (go_at_call 33
           refine (alOth_at L st AO AP nx1.length ms1.length cO cP nx1 ms1 w12 rfl rfl A12.out.C.1 A12.out.C.2 nx2 ms2 H6.out).mono ?_
           rintro e w13 ⟨AQ, cQ, AU, cU, rfl, hb13, hA13⟩
           have D13 := Aside0.mk (blk_below D12.out hb13)
           have V13 := Aside0.mk (V12.out.below hb13)
           have A13 := Aside0.mk hA13
           have B13 := Aside0.mk (below_step B12.out hb13)
           clear hb13 hA13 o0 o1 o2 o3)
        | (go_at_call 32
           refine calls_let ?_
           intro W14 hW14
           have hb14 : Below w13.heap.size w13 W14 := by rw [hW14]; exact below_alloc (Below.refl _ _) _
           have D14 := Aside0.mk (blk_below D13.out hb14)
           have V14 := Aside0.mk (V13.out.below hb14)
           have A14 := Aside0.mk (A13.out.below hb14)
           have B14 := Aside0.mk (below_step B13.out hb14)
           clear hW14 hb14
           refine (alDet_at L st AQ AU nx2.length ms2.length cQ cU nx2 ms2 W14 rfl rfl A14.out.C.1 A14.out.C.2 L 0 R M H7.out).mono ?_
           rintro e w15 ⟨AY1, cY1, AZ1, cZ1, rfl, hb15, hV15, _⟩
           have D15 := Aside0.mk (blk_below D14.out hb15)
           have V15 := Aside0.mk (V14.out.below hb15)
           have Y15 := Aside0.mk hV15
           have B15 := Aside0.mk (below_step B14.out hb15)
           have d0 : w15.cell? ⟨w3.heap.size, 0, none⟩ = some (.int .i64 L) := (blk_cell D15.out 0).trans rfl
           have d1 : w15.cell? ⟨w3.heap.size, 1, none⟩ = some (.int .i64 0) := (blk_cell D15.out 1).trans rfl
           have d2 : w15.cell? ⟨w3.heap.size, 2, none⟩ = some (.slice AN R.length cN) := (blk_cell D15.out 2).trans rfl
           have d3 : w15.cell? ⟨w3.heap.size, 3, none⟩ = some (.slice AM M.length cM) := (blk_cell D15.out 3).trans rfl
           have z15 : w3.heap.size < w15.heap.size := blk_lt D15.out
           clear hb15 hV15)
        | (go_at_call 34
           have _t := tok6
           refine calls_let ?_
           intro W16 hW16
           have hb16 : Below w15.heap.size w15 W16 := by rw [hW16]; exact below_alloc (Below.refl _ _) _
           have V16 := V15.out.below hb16
           have Y16 := Y15.out.below hb16
           have B16 := Aside0.mk (below_step B15.out hb16)
           clear hW16 hb16
           refine (alike_yes' L 0 AY1 AZ1 AN AM cY1 cZ1 cN cM R.length R.length M.length M.length R M W16 rfl rfl rfl rfl Y16.caps.2.2.1 Y16.caps.1 Y16.caps.2.2.2 Y16.caps.2.1 V16.caps.2.2.1 V16.caps.1 V16.caps.2.2.2 V16.caps.2.1).mono ?_
           rintro e w17 ⟨rfl, hb17⟩
           have B17 := Aside0.mk (below_step B16.out hb17)
           clear hb17 V16 Y16)
        | fail)
      go_ret
      exact ⟨rfl, B17.out⟩
theorem lst_pos {L : Nat} {nx : List (List Int)} {ms : List Int} (h : DetOk L nx ms) {st : Nat} (hs : st < nx.length) : 0 < (lstM L nx ms st).length := by
  rw [lst_len]; exact (lst_ok h hs).pos
theorem at_calls (L st : Int) (A2 A3 : Option Addr) (c2 c3 : Nat) (nx : List (List (List (List Int)))) (ms : List Int) (w : World) (hr2 : Kd.C (Kd.slice 42 (Kd.slice 22 (Kd.slice 3 (Kd.int .i64)))) w A2 nx.length nx) (hr3 : Kd.C (Kd.int .i64) w A3 ms.length ms) :
    Calls Try.prog 10 (alArgs L st A2 A3 c2 c3 nx ms) w fun e w' => e = .returned (.bool true) ∧ Below w.heap.size w w' := by
  by_cases h : (alDet L st nx ms).2.2.2 = 0
  · obtain ⟨R, M, M', h1, h2, h3, h4, h5, h6, h7⟩ := al_twice h
    have h8 : 0 < M'.length := by
      have hc : aCheck L st (othNx nx) (othMs ms) = 0 := by
        refine Classical.byContradiction fun hc => ?_
        unfold alOth at h6
        rw [if_neg hc] at h6
        exact hc (congrArg (fun x => x.2.2.2.2) h6)
      obtain ⟨L', st', rfl, rfl, hok⟩ := alOk_of hc
      have hd := al_det hok
      unfold alDet at h3
      rw [if_pos hc, Int.toNat_natCast, Int.toNat_natCast] at h3
      split at h3
      · have := congrArg (fun x => x.2.2.2) h3; simp at this
      · have := congrArg (fun x => x.2.2.1) h3
        simp only at this
        rw [← this]
        exact lst_pos hd hd.pos
    exact at_yes L st A2 A3 c2 c3 nx _ _ ms _ _ w hr2 hr3 R M M' h1 h2 h3 h4 h5 h6 h7 h8
  · obtain ⟨L', R, M, er, hd⟩ : ∃ L' R M er, alDet L st nx ms = (L', R, M, er) := ⟨_, _, _, _, rfl⟩
    refine at_no L st A2 A3 c2 c3 nx ms w hr2 hr3 L' er R M hd ?_
    rw [hd] at h
    exact h
end Go.Proofs.Ytjabncedfjjbjaa.H
