/- Automata as values; a struct of four cells written. -/
import Derived.Test.YtampgoendkjkhaaLst
import Derived.Test.YtampgoendkjkhaaOwn
namespace Go.Proofs.Ytampgoendkjkhaa.H
open Go.RowKit Go.Shelf Go.Proofs.YtampgoendkjkhaaW.PrintWords Go.Proofs.Ytampgoendkjkhaa.DtM
set_option linter.unusedVariables false
set_option linter.unusedSimpArgs false
theorem calls_let {P : Program} {f : Nat} {args : Array Value} {W : World} {K : Ending → World → Prop} (h : ∀ W', W' = W → Calls P f args W' K) : Calls P f args W K := h W rfl
/-- a literal of one element that is a slice -/
theorem lit_row {α : Type} {d : Kd α} {t : TypeId} {W : World} {b n c : Nat} {A : Option Addr} {x : List α} (h : W.cell? ⟨b, 0, none⟩ = some (.slice A n c)) (hn : n = x.length) (hc : n ≤ c) (hC : Kd.C d W A n x) : Kd.C (Kd.slice t d) W (some ⟨b, 0, none⟩) 1 [x] := by
  subst hn
  refine ⟨rfl, by decide, fun _ => ⟨_, rfl, fun j p hj => ?_⟩⟩
  match j, hj with
  | 0, hj =>
    obtain rfl : x = p := by simpa using hj
    refine ⟨[.slice A x.length c], rfl, ⟨A, c, rfl, hc, hC⟩, fun i u hu => ?_⟩
    match i, hu with
    | 0, hu =>
      obtain rfl : Value.slice A x.length c = u := by simpa using hu
      simpa [Addr.add] using h
theorem lit_nil {α : Type} (d : Kd α) (W : World) (A : Option Addr) : Kd.C d W A 0 [] := ⟨rfl, by decide, fun h => absurd h (by simp)⟩
/-- an automaton's value -/
structure DetV (W : World) (l u : Nat) (AN : Option Addr) (cN : Nat) (AM : Option Addr) (cM : Nat) (R : List (List Int)) (M : List Int) : Prop where
  N : Kd.S (Kd.slice 3 (Kd.int .i64)) 22 W l (fun k => k < u) (.slice AN R.length cN) R
  M : Kd.R (Kd.int .i64) 3 W l (fun k => k < u) (.slice AM M.length cM) M
section
variable {W W' : World} {l u cN cM b : Nat} {AN AM : Option Addr} {R : List (List Int)} {M : List Int}
theorem DetV.below (h : DetV W l u AN cN AM cM R M) (hb : Below W.heap.size W W') : DetV W' l u AN cN AM cM R M := ⟨Kd.S_below h.N hb, Kd.R_below h.M hb⟩
theorem DetV.turned (h : DetV W l u AN cN AM cM R M) (ht : Turned b W W') (hu : b < l ∨ u ≤ b) : DetV W' l u AN cN AM cM R M :=
  ⟨Kd.S_mono (Kd.S_step (Kd.S_bound h.N) (fun k hk _ => ht.block k (by have h1 := hk.1; have h2 := hk.2.1; omega))) (fun _ h => h.1), Kd.R_mono (Kd.R_step (Kd.R_bound h.M) (fun k hk _ => ht.block k (by have h1 := hk.1; have h2 := hk.2.1; omega))) (fun _ h => h.1)⟩
theorem DetV.caps (h : DetV W l u AN cN AM cM R M) : R.length ≤ cN ∧ M.length ≤ cM ∧ Kd.C (Kd.slice 3 (Kd.int .i64)) W AN R.length R ∧ Kd.C (Kd.int .i64) W AM M.length M :=
  ⟨(Kd.S_reads' h.N).2.1, (Kd.R_reads' h.M).2.1, (Kd.S_reads' h.N).2.2, (Kd.R_reads' h.M).2.2⟩
end
theorem detV_of {w w' : World} {sN sM : Nat → Prop} {AN AM : Option Addr} {cN cM : Nat} {R : List (List Int)} {M : List Int} (hN : Kd.S (Kd.slice 3 (Kd.int .i64)) 22 w' w.heap.size sN (.slice AN R.length cN) R) (hM : Kd.R (Kd.int .i64) 3 w' w.heap.size sM (.slice AM M.length cM) M) : DetV w' w.heap.size w'.heap.size AN cN AM cM R M :=
  ⟨Kd.S_mono (Kd.S_bound hN) (fun k hk => hk.2.2.1), Kd.R_mono (Kd.R_bound hM) (fun k hk => hk.2.2.1)⟩
/-! ### four cells written -/
theorem blk4 {W : World} {b : Nat} {t : TypeId} {y0 y1 y2 y3 : Value} (h : W.heap[b]? = some (.cells #[y0, y1, y2, y3] t (0, 0))) (x0 x1 x2 x3 : Value) : (set4 W b x0 x1 x2 x3).heap[b]? = some (.cells #[x0, x1, x2, x3] t (0, 0)) :=
  blk_set (blk_set (blk_set (blk_set h 0 x0) 1 x1) 2 x2) 3 x3
theorem turned_set (W : World) (p : Addr) (x : Value) : Turned p.block W (W.setCell p x) := ⟨rfl, rfl, rfl, by simp, fun j hj => Below.heap_setCell W p x j hj⟩
theorem turned_trans {b : Nat} {W W' W2 : World} (h : Turned b W W') (h' : Turned b W' W2) : Turned b W W2 :=
  ⟨h'.os.trans h.os, h'.tape.trans h.tape, h'.output.trans h.output, h'.size.trans h.size, fun j hj => (h'.block j hj).trans (h.block j hj)⟩
theorem turned_refl (b : Nat) (W : World) : Turned b W W := ⟨rfl, rfl, rfl, rfl, fun _ _ => rfl⟩
theorem turned_drew {b : Nat} {W W' : World} (h : Turned b W W') : Turned b W W'.drew := ⟨h.os, h.tape, h.output, h.size, h.block⟩
theorem turned4 (W : World) (b : Nat) (x0 x1 x2 x3 : Value) : Turned b W (set4 W b x0 x1 x2 x3) :=
  turned_trans (turned_trans (turned_trans (turned_set W ⟨b, 0, none⟩ x0) (turned_set _ ⟨b, 1, none⟩ x1)) (turned_set _ ⟨b, 2, none⟩ x2)) (turned_set _ ⟨b, 3, none⟩ x3)
theorem blk_turned {b g : Nat} {W W' : World} {o : Obj} (h : W.heap[g]? = some o) (ht : Turned b W W') (hg : g ≠ b) : W'.heap[g]? = some o := (ht.block g hg).trans h
theorem C_rows {W : World} {A : Option Addr} {n : Nat} {R : List (List Int)} (h : Kd.C (Kd.slice 3 (Kd.int .i64)) W A n R) : ∀ r ∈ R, r.length ≤ 9223372036854775807 := by
  intro r hr
  obtain ⟨i, hi, rfl⟩ := List.getElem_of_mem hr
  obtain ⟨_, _, _, _, _, hrow, _⟩ := row_get h h.1.symm hi
  exact (C_len hrow).2
/-- two automata that are the same -/
theorem alike_yes (L st : Int) (AN AM BN BM : Option Addr) (cN cM dN dM : Nat) (R : List (List Int)) (M : List Int) (W : World) (h0 : Kd.C (Kd.slice 3 (Kd.int .i64)) W AN R.length R) (h1 : R.length ≤ cN) (h2 : Kd.C (Kd.int .i64) W AM M.length M) (h3 : M.length ≤ cM) (h4 : Kd.C (Kd.slice 3 (Kd.int .i64)) W BN R.length R) (h5 : R.length ≤ dN) (h6 : Kd.C (Kd.int .i64) W BM M.length M) (h7 : M.length ≤ dM) :
    Calls Try.prog 37 #[.agg #[.int .i64 L, .int .i64 st, .slice AN R.length cN, .slice AM M.length cM], .agg #[.int .i64 L, .int .i64 st, .slice BN R.length dN, .slice BM M.length dM]] W fun e W' => e = .returned (.bool true) ∧ Below W.heap.size W W' := by
  refine evermorekeep_alike.calls L st AN cN R AM cM M L st BN dN R BM dM M true W h0 h1 h2 h3 h4 h5 h6 h7 ?_
  unfold evermorekeep_alike.f
  rw [if_pos ⟨(C_len h0).2, (C_len h2).2, C_rows h0⟩]
  simp
theorem alike_yes' (L st : Int) (AN AM BN BM : Option Addr) (cN cM dN dM n1 n2 m1 m2 : Nat) (R : List (List Int)) (M : List Int) (W : World) (e1 : n1 = R.length) (e2 : m1 = M.length) (e3 : n2 = R.length) (e4 : m2 = M.length) (h0 : Kd.C (Kd.slice 3 (Kd.int .i64)) W AN n1 R) (h1 : n1 ≤ cN) (h2 : Kd.C (Kd.int .i64) W AM m1 M) (h3 : m1 ≤ cM) (h4 : Kd.C (Kd.slice 3 (Kd.int .i64)) W BN n2 R) (h5 : n2 ≤ dN) (h6 : Kd.C (Kd.int .i64) W BM m2 M) (h7 : m2 ≤ dM) :
    Calls Try.prog 37 #[.agg #[.int .i64 L, .int .i64 st, .slice AN n1 cN, .slice AM m1 cM], .agg #[.int .i64 L, .int .i64 st, .slice BN n2 dN, .slice BM m2 dM]] W fun e W' => e = .returned (.bool true) ∧ Below W.heap.size W W' := by
  subst e1 e2 e3 e4
  exact alike_yes L st AN AM BN BM cN cM dN dM R M W h0 h1 h2 h3 h4 h5 h6 h7
end Go.Proofs.Ytampgoendkjkhaa.H
