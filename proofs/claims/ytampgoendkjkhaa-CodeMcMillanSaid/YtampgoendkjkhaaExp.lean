/- Hand-proved: det.Explore at keys that are ints. -/
import Derived.Test.YtampgoendkjkhaaRow
import Derived.Test.YtampgoendkjkhaaMap
import Derived.Test.YtampgoendkjkhaaDtM
import Derived.Test.YtampgoendkjkhaaWApart
import Derived.Deep.LoopGhost
import Derived.Deep.RegionHeld3
import Derived.Deep.RegionLaw
import Derived.Deep.DrawnRows
namespace Go.Proofs.Ytampgoendkjkhaa.H
open Go.RowKit Go.Shelf Go.Proofs.YtampgoendkjkhaaW.PrintWords Go.Proofs.Ytampgoendkjkhaa.DtM
set_option linter.unusedVariables false
set_option linter.unusedSimpArgs false

theorem ixk_ixd {κ : Type} [DecidableEq κ] (l : List κ) (x : κ) : ixk l x = ixd l x := rfl
/-! ### three things of the call's own, apart from each other -/
structure O3 (W : World) (B : Nat) (av : Nat → Prop) (vL : Value) (l : List Int) (vM : Value) (ms : List Int) (vN : Value) (rows : List (List Int)) (sL sM sN : Nat → Prop) : Prop where
  L : Kd.R (Kd.int .i64) 3 W B sL vL l
  M : Kd.R (Kd.int .i64) 3 W B sM vM ms
  N : Kd.S (Kd.slice 3 (Kd.int .i64)) 22 W B sN vN rows
  ltL : ∀ k, sL k → k < W.heap.size
  ltM : ∀ k, sM k → k < W.heap.size
  ltN : ∀ k, sN k → k < W.heap.size
  LM : ∀ k, sL k → ¬ sM k
  LN : ∀ k, sL k → ¬ sN k
  MN : ∀ k, sM k → ¬ sN k
  avL : ∀ k, sL k → ¬ av k
  avM : ∀ k, sM k → ¬ av k
  avN : ∀ k, sN k → ¬ av k
section
variable {W W' w1 : World} {B : Nat} {av : Nat → Prop} {vL v1 vM vN : Value} {l l' ms ms' : List Int} {rows : List (List Int)} {sL sM sN : Nat → Prop}
theorem O3.step (h : O3 W B av vL l vM ms vN rows sL sM sN) (hsz : W.heap.size ≤ W'.heap.size) (hk : ∀ k, k < W.heap.size → B ≤ k → ¬ av k → W'.heap[k]? = W.heap[k]?) : O3 W' B av vL l vM ms vN rows sL sM sN where
  L := Kd.R_mono (Kd.R_step (Kd.R_bound h.L) (fun k ho hl => hk k hl ho.2.1 (h.avL k ho.1))) (fun _ hk => hk.1)
  M := Kd.R_mono (Kd.R_step (Kd.R_bound h.M) (fun k ho hl => hk k hl ho.2.1 (h.avM k ho.1))) (fun _ hk => hk.1)
  N := Kd.S_mono (Kd.S_step (Kd.S_bound h.N) (fun k ho hl => hk k hl ho.2.1 (h.avN k ho.1))) (fun _ hk => hk.1)
  ltL k hk := Nat.lt_of_lt_of_le (h.ltL k hk) hsz
  ltM k hk := Nat.lt_of_lt_of_le (h.ltM k hk) hsz
  ltN k hk := Nat.lt_of_lt_of_le (h.ltN k hk) hsz
  LM := h.LM
  LN := h.LN
  MN := h.MN
  avL := h.avL
  avM := h.avM
  avN := h.avN
theorem O3.below (h : O3 W B av vL l vM ms vN rows sL sM sN) (hb : Below W.heap.size W W') : O3 W' B av vL l vM ms vN rows sL sM sN := h.step hb.size (fun k hl _ _ => hb.block k hl)
theorem O3.turned {b : Nat} (h : O3 W B av vL l vM ms vN rows sL sM sN) (ht : Turned b W W') (hb : b < B) : O3 W' B av vL l vM ms vN rows sL sM sN := h.step (by rw [ht.size]; exact Nat.le_refl _) (fun k _ h2 _ => ht.block k (by omega))
theorem O3.set (h : O3 W B av vL l vM ms vN rows sL sM sN) {p : Addr} (hp : p.block < B ∨ av p.block) (u : Value) : O3 (W.setCell p u) B av vL l vM ms vN rows sL sM sN :=
  h.step (by simp) (fun k _ h2 h3 => Below.heap_setCell W p u k (fun e => hp.elim (fun hp => by omega) (fun hp => h3 (e ▸ hp))))
theorem O3.appL (h : O3 W B av vL l vM ms vN rows sL sM sN) (hR : Kd.R (Kd.int .i64) 3 w1 B (fun k => sL k ∨ W.heap.size ≤ k) v1 l') (hg : W.grownBy w1 vL.ownBlock) (hav : ∀ k, W.heap.size ≤ k → ¬ av k) :
    O3 w1 B av v1 l' vM ms vN rows (fun k => (sL k ∨ W.heap.size ≤ k) ∧ k < w1.heap.size) sM sN where
  L := Kd.R_mono (Kd.R_bound hR) (fun k hk => ⟨hk.1, hk.2.2.1⟩)
  M := Kd.R_step h.M (fun k ho hl => hg.block k hl (fun e => h.LM k (h.L.1 k e.symm) ho))
  N := Kd.S_step h.N (fun k ho hl => hg.block k hl (fun e => h.LN k (h.L.1 k e.symm) ho))
  ltL k hk := hk.2
  ltM k hk := Nat.lt_of_lt_of_le (h.ltM k hk) hg.size
  ltN k hk := Nat.lt_of_lt_of_le (h.ltN k hk) hg.size
  LM k hk hm := by
    rcases hk.1 with h1 | h1
    · exact h.LM k h1 hm
    · have := h.ltM k hm; omega
  LN k hk hm := by
    rcases hk.1 with h1 | h1
    · exact h.LN k h1 hm
    · have := h.ltN k hm; omega
  MN := h.MN
  avL k hk := by
    rcases hk.1 with h1 | h1
    · exact h.avL k h1
    · exact hav k h1
  avM := h.avM
  avN := h.avN
theorem O3.appM (h : O3 W B av vL l vM ms vN rows sL sM sN) (hR : Kd.R (Kd.int .i64) 3 w1 B (fun k => sM k ∨ W.heap.size ≤ k) v1 ms') (hg : W.grownBy w1 vM.ownBlock) (hav : ∀ k, W.heap.size ≤ k → ¬ av k) :
    O3 w1 B av vL l v1 ms' vN rows sL (fun k => (sM k ∨ W.heap.size ≤ k) ∧ k < w1.heap.size) sN where
  M := Kd.R_mono (Kd.R_bound hR) (fun k hk => ⟨hk.1, hk.2.2.1⟩)
  L := Kd.R_step h.L (fun k ho hl => hg.block k hl (fun e => h.LM k ho (h.M.1 k e.symm)))
  N := Kd.S_step h.N (fun k ho hl => hg.block k hl (fun e => h.MN k (h.M.1 k e.symm) ho))
  ltM k hk := hk.2
  ltL k hk := Nat.lt_of_lt_of_le (h.ltL k hk) hg.size
  ltN k hk := Nat.lt_of_lt_of_le (h.ltN k hk) hg.size
  LM k hl hk := by
    rcases hk.1 with h1 | h1
    · exact h.LM k hl h1
    · have := h.ltL k hl; omega
  LN := h.LN
  MN k hk hm := by
    rcases hk.1 with h1 | h1
    · exact h.MN k h1 hm
    · have := h.ltN k hm; omega
  avL := h.avL
  avM k hk := by
    rcases hk.1 with h1 | h1
    · exact h.avM k h1
    · exact hav k h1
  avN := h.avN
theorem O3.appN {bw : Nat} {rows' : List (List Int)} (h : O3 W B (fun k => k = bw) vL l vM ms vN rows sL sM sN) (hbw : bw < W.heap.size) (hR : Kd.S (Kd.slice 3 (Kd.int .i64)) 22 w1 B (fun k => (sN k ∨ k = bw) ∨ W.heap.size ≤ k) v1 rows') (hg : W.grownBy w1 vN.ownBlock) :
    O3 w1 B (fun _ => False) vL l vM ms v1 rows' sL sM (fun k => ((sN k ∨ k = bw) ∨ W.heap.size ≤ k) ∧ k < w1.heap.size) where
  N := Kd.S_mono (Kd.S_bound hR) (fun k hk => ⟨hk.1, hk.2.2.1⟩)
  L := Kd.R_step h.L (fun k ho hl => hg.block k hl (fun e => h.LN k ho ((Kd.S_R h.N).1 k e.symm)))
  M := Kd.R_step h.M (fun k ho hl => hg.block k hl (fun e => h.MN k ho ((Kd.S_R h.N).1 k e.symm)))
  ltN k hk := hk.2
  ltL k hk := Nat.lt_of_lt_of_le (h.ltL k hk) hg.size
  ltM k hk := Nat.lt_of_lt_of_le (h.ltM k hk) hg.size
  LM := h.LM
  LN k hl hk := by
    rcases hk.1 with (h1 | h1) | h1
    · exact h.LN k hl h1
    · exact h.avL k hl h1
    · have := h.ltL k hl; omega
  MN k hl hk := by
    rcases hk.1 with (h1 | h1) | h1
    · exact h.MN k hl h1
    · exact h.avM k hl h1
    · have := h.ltM k hl; omega
  avL _ _ := id
  avM _ _ := id
  avN _ _ := id
theorem O3.avoid {bw : Nat} (h : O3 W B (fun _ => False) vL l vM ms vN rows sL sM sN) (hbw : W.heap.size ≤ bw) : O3 W B (fun k => k = bw) vL l vM ms vN rows sL sM sN :=
  { h with avL := fun k hk e => by have := h.ltL k hk; omega
           avM := fun k hk e => by have := h.ltM k hk; omega
           avN := fun k hk e => by have := h.ltN k hk; omega }
end
/-! ### Explore -/
theorem mapK_made' {P : Program} {t : TypeId} {κ : Type} [DecidableEq κ] (E : KeyE P t κ) (W : World) (b : Nat) (hb : W.heap.size = b) : MapK E (W.alloc (.map #[] 0)) b [] := by subst hb; exact mapK_made E W
def NextAt (g : Nat) (lb : Array Value) (f : Int → Nat → Int) (U : List Int) (L : Nat) (w : World) : Prop :=
  ∀ (W : World) (k : Int) (a : Nat), Below w.heap.size w W → k ∈ U → a < L → Calls Try.prog g (#[.int .i64 k, .int .i64 (a : Int)] ++ lb) W fun e W' => e = .returned (.int .i64 (f k a)) ∧ Below W.heap.size W W'
def MarkAt (g : Nat) (lb : Array Value) (mk : Int → Int) (U : List Int) (w : World) : Prop :=
  ∀ (W : World) (k : Int), Below w.heap.size w W → k ∈ U → Calls Try.prog g (#[.int .i64 k] ++ lb) W fun e W' => e = .returned (.int .i64 (mk k)) ∧ Below W.heap.size W W'
def rowAt (f : Int → Nat → Int) (l : List Int) (k : Int) (a : Nat) : List Int := (List.range a).map fun b => (ixd l (f k b) : Int)
def rowsAt (f : Int → Nat → Int) (L : Nat) (l : List Int) (i : Nat) : List (List Int) := (l.take i).map fun k => rowAt f l k L
/-- what holds of memory between two statements -/
structure ExpM (w : World) (wr : World) (av : Nat → Prop) (L : Nat) (l ms : List Int) (rows : List (List Int)) (AL AM AN : Option Addr) (cL cM cN : Nat) (sL sM sN : Nat → Prop) : Prop where
  o : O3 wr (w.heap.size + 3) av (.slice AL l.length cL) l (.slice AM ms.length cM) ms (.slice AN rows.length cN) rows sL sM sN
  m : MapK (intKey Try.prog 3 Try.underlying3) wr (w.heap.size + 2) (kvsOf l)
  d : wr.heap[w.heap.size + 1]? = some (.cells #[.int .i64 (L : Int), .int .i64 0, .slice AN rows.length cN, .slice AM ms.length cM] 101 (0, 0))
  r : wr.heap[w.heap.size]? = some (.cells #[.int .i64 0, .int .i64 0, .slice none 0 0, .slice none 0 0] 101 (0, 0))
  b : Below w.heap.size w wr
theorem blk_newn (W : World) (o : Obj) (n : Nat) (hn : W.heap.size = n) : (W.alloc o).heap[n]? = some o := by subst hn; exact blk_new W o
theorem lit_R (W : World) (B : Nat) (x : Int) (hB : B ≤ W.heap.size) : Kd.R (Kd.int .i64) 3 (W.alloc (.cells #[.int .i64 x] 3)) B (fun k => k = W.heap.size) (.slice (some ⟨W.heap.size, 0, none⟩) 1 1) [x] :=
  Kd.R_of_own (enc := Value.int .i64) (by simpa [encs] using own_lit_of (enc := Value.int .i64) W B 3 [x] hB (by simp)) (fun k hk => by simp [Value.ownBlock] at hk; exact hk.symm)
/-- what holds of the lists behind i rounds -/
structure ExpP (L : Nat) (f : Int → Nat → Int) (mk : Int → Int) (U lF : List Int) (i : Nat) (l ms : List Int) (rows : List (List Int)) : Prop where
  il : i ≤ l.length
  iU : i ≤ U.length
  nd : l.Nodup
  sub : ∀ x ∈ l, x ∈ U
  fin : expL f L (U.length + 1 - i) l i = lF
  rows : rows = rowsAt f L l i
  ms : ms = (l.take i).map mk
  has : ∀ j (hj : j < l.length), j < i → ∀ a, a < L → f l[j] a ∈ l
theorem int3 : (Try.prog.info? 3).map (fun i => (i.zero, i.size, i.bytes)) = some (some (.int .i64 0), 1, 8) := by kernel_rfl
theorem row22 : (Try.prog.info? 22).map (fun i => (i.zero, i.size, i.bytes)) = some (some (.slice none 0 0), 1, 24) := by kernel_rfl
theorem resD {fn : Func} {p u : Tmp} (h : fn.results = #[.cell p 101, .tmp u]) (tmps : Array Value) (W : World) (g : Nat) (x0 x1 x2 x3 b : Value) (hp : tmps.getD p undef = .pointer (some ⟨g, 0, none⟩)) (hb : tmps.getD u undef = b)
    (h0 : W.cell? ⟨g, 0, none⟩ = some x0) (h1 : W.cell? ⟨g, 1, none⟩ = some x1) (h2 : W.cell? ⟨g, 2, none⟩ = some x2) (h3 : W.cell? ⟨g, 3, none⟩ = some x3) : (results fn tmps).run Try.prog W = .ok (.tuple #[.agg #[x0, x1, x2, x3], b]) W := by
  have hu := Try.underlying101
  have hp' : tmps[p]?.getD undef = .pointer (some ⟨g, 0, none⟩) := by simpa using hp
  have hb' : tmps[u]?.getD undef = b := by simpa using hb
  simp only [results, h]
  go_simp
theorem zero3 (W : World) : (zeroValue 3).run Try.prog W = .ok (.int .i64 0) W := by kernel_rfl
theorem ExpM.below {w wr w1 : World} {av : Nat → Prop} {L : Nat} {l ms : List Int} {rows : List (List Int)} {AL AM AN : Option Addr} {cL cM cN : Nat} {sL sM sN : Nat → Prop} (h : ExpM w wr av L l ms rows AL AM AN cL cM cN sL sM sN) (hb : Below wr.heap.size wr w1) : ExpM w w1 av L l ms rows AL AM AN cL cM cN sL sM sN :=
  ⟨h.o.below hb, h.m.below hb, blk_below h.d hb, blk_below h.r hb, below_step h.b hb⟩
theorem ExpM.avoid {w wr : World} {L : Nat} {l ms : List Int} {rows : List (List Int)} {AL AM AN : Option Addr} {cL cM cN : Nat} {sL sM sN : Nat → Prop} (h : ExpM w wr (fun _ => False) L l ms rows AL AM AN cL cM cN sL sM sN) {bw : Nat} (hb : wr.heap.size ≤ bw) : ExpM w wr (fun k => k = bw) L l ms rows AL AM AN cL cM cN sL sM sN :=
  ⟨h.o.avoid hb, h.m, h.d, h.r, h.b⟩
/-- what holds of the list inside a round -/
structure InP (L : Nat) (f : Int → Nat → Int) (U : List Int) (k : Int) (l lE : List Int) (a : Nat) (l' : List Int) : Prop where
  nd : l'.Nodup
  sub : ∀ x ∈ l', x ∈ U
  fin : stepL f k (L - a) a l' = lE
  has : ∀ b, b < a → f k b ∈ l'
  pre : ∃ m, l' = l ++ m
theorem rowAt_app {f : Int → Nat → Int} {l : List Int} {k : Int} {a : Nat} (h : ∀ b, b < a → f k b ∈ l) (m : List Int) : rowAt f (l ++ m) k a = rowAt f l k a := by
  unfold rowAt
  apply List.map_congr_left
  intro b hb
  rw [ixd_app (h b (List.mem_range.1 hb))]
theorem rowAt_succ (f : Int → Nat → Int) (l : List Int) (k : Int) (a : Nat) : rowAt f l k (a + 1) = rowAt f l k a ++ [(ixd l (f k a) : Int)] := by
  unfold rowAt
  rw [List.range_succ, List.map_append]
  rfl
theorem rowAt_len (f : Int → Nat → Int) (l : List Int) (k : Int) (a : Nat) : (rowAt f l k a).length = a := by simp [rowAt]
theorem row_next {f : Int → Nat → Int} {l : List Int} {k : Int} {L a : Nat} (ha : a < L) : (rowAt f l k a ++ List.replicate (L - a) 0).set a (ixd l (f k a) : Int) = rowAt f l k (a + 1) ++ List.replicate (L - (a + 1)) 0 := by
  obtain ⟨d, hd⟩ : ∃ d, L - a = d + 1 := ⟨L - a - 1, by omega⟩
  rw [rowAt_succ, hd, show L - (a + 1) = d from by omega, List.replicate_succ, List.set_append_right _ _ (by rw [rowAt_len]; exact Nat.le_refl _), rowAt_len, Nat.sub_self, List.set_cons_zero, List.append_assoc]
  rfl
theorem ExpM.setRow {w wr : World} {L : Nat} {l ms : List Int} {rows : List (List Int)} {AL AM AN : Option Addr} {cL cM cN bw : Nat} {sL sM sN : Nat → Prop} (h : ExpM w wr (fun k => k = bw) L l ms rows AL AM AN cL cM cN sL sM sN) (hb : w.heap.size + 3 ≤ bw) (a : Nat) (u : Value) : ExpM w (wr.setCell ⟨bw, a, none⟩ u) (fun k => k = bw) L l ms rows AL AM AN cL cM cN sL sM sN :=
  ⟨h.o.set (.inr rfl) u, h.m.keep (Below.heap_setCell _ ⟨bw, a, none⟩ u _ (by show _ ≠ bw; omega)), blk_far h.d (p := ⟨bw, a, none⟩) (by show _ ≠ bw; omega) u, blk_far h.r (p := ⟨bw, a, none⟩) (by show _ ≠ bw; omega) u, below_set h.b (by omega)⟩
theorem InP.old {L : Nat} {f : Int → Nat → Int} {U : List Int} {k : Int} {l lE : List Int} {a : Nat} {l' : List Int} (h : InP L f U k l lE a l') (ha : a < L) (hm : f k a ∈ l') : InP L f U k l lE (a + 1) l' := by
  refine ⟨h.nd, h.sub, ?_, fun b hb => ?_, h.pre⟩
  · rw [← h.fin, show L - a = (L - (a + 1)) + 1 from by omega, stepL, if_pos hm]
  · by_cases e : b = a
    · subst e; exact hm
    · exact h.has b (by omega)
theorem InP.new {L : Nat} {f : Int → Nat → Int} {U : List Int} {k : Int} {l lE : List Int} {a : Nat} {l' : List Int} (h : InP L f U k l lE a l') (ha : a < L) (hm : f k a ∉ l') (hU : f k a ∈ U) : InP L f U k l lE (a + 1) (l' ++ [f k a]) := by
  refine ⟨?_, fun x hx => ?_, ?_, fun b hb => ?_, ?_⟩
  · rw [List.nodup_append]
    refine ⟨h.nd, by simp, fun x hx y hy e => ?_⟩
    simp only [List.mem_singleton] at hy
    exact hm (by rw [← hy, ← e]; exact hx)
  · rcases List.mem_append.1 hx with hx | hx
    · exact h.sub x hx
    · simp only [List.mem_singleton] at hx; rw [hx]; exact hU
  · rw [← h.fin, show L - a = (L - (a + 1)) + 1 from by omega, stepL, if_neg hm]
  · by_cases e : b = a
    · subst e; simp
    · exact List.mem_append_left _ (h.has b (by omega))
  · obtain ⟨m, hm⟩ := h.pre
    exact ⟨m ++ [f k a], by rw [hm, List.append_assoc]⟩
theorem lit_C {W : World} {b : Nat} {x : Int} (h : W.cell? ⟨b, 0, none⟩ = some (.int .i64 x)) : Kd.C (Kd.int .i64) W (some ⟨b, 0, none⟩) 1 [x] := by
  refine ⟨rfl, by decide, fun _ => ⟨_, rfl, fun j p hj => ?_⟩⟩
  match j, hj with
  | 0, hj =>
    obtain rfl : x = p := by simpa using hj
    refine ⟨[.int .i64 x], rfl, rfl, fun i u hu => ?_⟩
    match i, hu with
    | 0, hu =>
      obtain rfl : Value.int .i64 x = u := by simpa using hu
      simpa [Addr.add] using h
theorem append_int_step {P : Program} {ops : Array Oper} {o : Oper} {a : Act} {Q : Exit → Act → World → Prop} {E : Prop} {B : Nat} {W : World} {ok : Nat → Prop} {x : Int} {b : Nat} (v : Value) (l : List Int) (s y : Operand) (t : TypeId) (hw : Region.wanted o (yielded ops a.tmps) = true)
    (ho : o.op = .call { callee := .builtin .append, args := #[s, y], argTypes := #[t, t] }) (ht : P.underlying t = some (.slice 3)) (hi : (P.info? 3).map (fun i => (i.zero, i.size, i.bytes)) = some (some (.int .i64 0), 1, 8))
    (hs : a.eval s = v) (hx : a.eval y = .slice (some ⟨b, 0, none⟩) 1 1) (HO : Kd.R (Kd.int .i64) 3 W B ok v l) (hc : W.cell? ⟨b, 0, none⟩ = some (.int .i64 x)) (hS : B ≤ W.heap.size) (hl : l.length < 1000000) {Kc : Act → World → Prop}
    (h : ∀ v1 w1, Kd.R (Kd.int .i64) 3 w1 B (fun k => ok k ∨ W.heap.size ≤ k) v1 (l ++ [x]) → W.grownBy w1 v.ownBlock → Kc (a.put o.dst v1) w1) :
    if Region.wanted o (yielded ops a.tmps) = true then Oper.wp P o a W Kc Q else E := by
  have H := Kd.R_append_rows_step (Kd.int .i64) (w0 := W) B hw s y t 3 (.int .i64 0) 8 ho ht hi rfl (by decide) (by omega) v l [x] _ _ _ (fun k => ok k ∨ W.heap.size ≤ k) (fun _ => False) hs hx (Kd.R_mono HO (fun _ h => .inl h)) (lit_C hc) (fun _ _ h => h) (fun _ h => h.elim) (fun _ h => .inr h) (Below.refl _ _) hS (by omega) (Q := Q) (Kc := Kc) (fun v1 w1 h1 h2 h3 _ => h v1 w1 h1 h3)
  rw [if_pos hw] at H ⊢
  exact H
theorem bb_of {w10 W w11 : World} {row : Option Nat} (_h : W.grownBy w11 row) (hb : Below w10.heap.size w10 W) : Aside0 (Below w10.heap.size w10 W) := ⟨hb⟩
theorem ExpP.next {L : Nat} {f : Int → Nat → Int} {mk : Int → Int} {U lF : List Int} {i : Nat} {l ms : List Int} {rows : List (List Int)} (h : ExpP L f mk U lF i l ms rows) {k : Int} {lE l' : List Int} (hk : ∃ h : i < l.length, l[i] = k) (hE : stepL f k L 0 l = lE) (g : InP L f U k l lE L l') {mv : Int} (hm : mk k = mv) :
    ExpP L f mk U lF (i + 1) l' (ms ++ [mv]) (rows ++ [rowAt f l' k L]) := by
  obtain ⟨hi, hik⟩ := hk
  obtain ⟨m, hl'⟩ := g.pre
  have hlE : l' = lE := by have := g.fin; rw [Nat.sub_self] at this; exact this
  have tk : l'.take (i + 1) = l.take i ++ [k] := by
    rw [hl', List.take_append_of_le_length (by omega), List.take_succ_eq_append_getElem hi, hik]
  refine ⟨by rw [hl', List.length_append]; omega, ?_, g.nd, g.sub, ?_, ?_, ?_, ?_⟩
  · have := nodup_len g.nd g.sub
    rw [hl', List.length_append] at this
    omega
  · have := h.fin
    have hU := nodup_len h.nd h.sub
    rw [show U.length + 1 - i = (U.length + 1 - (i + 1)) + 1 from by omega, expL, dif_pos hi, hik, hE, ← hlE] at this
    exact this
  · unfold rowsAt
    rw [tk, List.map_append, h.rows]
    unfold rowsAt
    congr 1
    apply List.map_congr_left
    intro x hx
    obtain ⟨j, hj, rfl⟩ := List.getElem_of_mem hx
    rw [List.length_take] at hj
    rw [List.getElem_take, hl', rowAt_app (fun b hb => h.has j (by omega) (by omega) b hb)]
  · rw [tk, List.map_append, h.ms, ← hm]
    rfl
  · intro j hj hji b hb
    by_cases e : j = i
    · subst e
      have : l'[j] = k := by
        have e2 : l'[j]? = some k := by rw [hl', List.getElem?_append_left hi, List.getElem?_eq_getElem hi, hik]
        rw [List.getElem?_eq_getElem hj] at e2
        exact Option.some.inj e2
      rw [this]
      exact g.has b hb
    · have hjl : j < l.length := by omega
      have : l'[j] = l[j] := by
        have e2 : l'[j]? = some l[j] := by rw [hl', List.getElem?_append_left hjl, List.getElem?_eq_getElem hjl]
        rw [List.getElem?_eq_getElem hj] at e2
        exact Option.some.inj e2
      rw [this, hl']
      exact List.mem_append_left _ (h.has j hjl (by omega) b hb)
def set4 (W : World) (g : Nat) (x0 x1 x2 x3 : Value) : World := (((W.setCell ⟨g, 0, none⟩ x0).setCell ⟨g, 1, none⟩ x1).setCell ⟨g, 2, none⟩ x2).setCell ⟨g, 3, none⟩ x3
theorem O3.set4 {W : World} {B g : Nat} {av : Nat → Prop} {vL vM vN : Value} {l ms : List Int} {rows : List (List Int)} {sL sM sN : Nat → Prop} (h : O3 W B av vL l vM ms vN rows sL sM sN) (hg : g < B) (x0 x1 x2 x3 : Value) : O3 (set4 W g x0 x1 x2 x3) B av vL l vM ms vN rows sL sM sN :=
  (((h.set (p := ⟨g, 0, none⟩) (.inl hg) x0).set (p := ⟨g, 1, none⟩) (.inl hg) x1).set (p := ⟨g, 2, none⟩) (.inl hg) x2).set (p := ⟨g, 3, none⟩) (.inl hg) x3
set_option maxHeartbeats 16000000 in
set_option maxRecDepth 100000 in
theorem explore_calls (g1 g2 : Nat) (lb1 lb2 : Array Value) (eg1 : ∀ args w, (callFunc g1 args).run Try.prog w = .ok (.enter g1 args) w) (eg2 : ∀ args w, (callFunc g2 args).run Try.prog w = .ok (.enter g2 args) w)
    (L : Nat) (x0 : Int) (most : Int) (f : Int → Nat → Int) (mk : Int → Int) (U : List Int) (w : World) (h1 : NextAt g1 lb1 f U L w) (h2 : MarkAt g2 lb2 mk U w)
    (hL : 1 ≤ L) (hL4 : L ≤ 1000) (hx : x0 ∈ U) (hU : ∀ k a, k ∈ U → a < L → f k a ∈ U) (hUk : ∀ k ∈ U, -9223372036854775808 ≤ k ∧ k ≤ 9223372036854775807) (hUl : U.length ≤ 200000) (hmost : (U.length : Int) ≤ most) :
    Calls Try.prog 153 #[.int .i64 (L : Int), .int .i64 x0, .func (.func g1) #[] lb1, .func (.func g2) #[] lb2, .int .i64 most] w fun e w' => ∃ vN vM : Value, e = .returned (.tuple #[.agg #[.int .i64 (L : Int), .int .i64 0, vN, vM], .bool true]) ∧ Below w.heap.size w w' ∧
      ∃ sN sM : Nat → Prop, (∀ k, sM k → ¬ sN k) ∧ Kd.S (Kd.slice 3 (Kd.int .i64)) 22 w' w.heap.size sN vN (rowsL f L (expL f L (U.length + 1) [x0] 0)) ∧ Kd.R (Kd.int .i64) 3 w' w.heap.size sM vM ((expL f L (U.length + 1) [x0] 0).map mk) := by
  have H1 := Aside0.mk h1
  have H2 := Aside0.mk h2
  have HX := Aside0.mk hx
  have HU := Aside0.mk hU
  have HUK := Aside0.mk hUk
  have HUL := Aside0.mk hUl
  have HMO := Aside0.mk hmost
  clear h1 h2 hx hU hUk hmost
  have hmm := @run_makeMap Try.prog
  go_enter Try.func153, Try.ntmps153
  go_wp2_with (first
    | (refine wpList_ins (intKey Try.prog 3 Try.underlying3) _ rfl _ _ _ 257 rfl Try.underlying257 (w.heap.size + 2) [] x0 (.int .i64 0) (by rfl) rfl rfl (mapK_made' _ _ _ (by simp)) (HUK.out _ HX.out) ?_
       intro w2 hM2 ht2
       have e2 : w2.heap.size = w.heap.size + 3 := ht2.size.trans (by simp)
       have I0 := Aside0.mk (show ExpM w (w2.alloc (.cells #[.int .i64 x0] 3)) (fun _ => False) L [x0] [] [] (some ⟨w.heap.size + 3, 0, none⟩) none none 1 0 0 (fun k => k = w2.heap.size) (fun _ => False) (fun _ => False) from by
         rw [← e2]
         exact { o := { L := lit_R w2 _ x0 (by omega), M := Kd.R_nil _ _ _ _ _, N := Kd.S_nil _ _ _ _ _, ltL := fun k hk => (by simp; omega), ltM := fun _ h => h.elim, ltN := fun _ h => h.elim, LM := fun _ _ => id, LN := fun _ _ => id, MN := fun _ _ => id, avL := fun _ _ => id, avM := fun _ _ => id, avN := fun _ _ => id },
                 m := MapK.below hM2 (below_alloc (Below.refl _ _) _),
                 d := blk_alloc ((ht2.block _ (by omega)).trans (blk_alloc (blk_newn _ _ _ (by simp)) _)) _,
                 r := blk_alloc ((ht2.block _ (by omega)).trans (blk_alloc (blk_alloc (blk_newn _ _ _ rfl) _) _)) _,
                 b := below_alloc (ht2.below (below_alloc (below_alloc (below_alloc (Below.refl _ _) _) _) _) (by omega)) _ })
       clear hM2 ht2)
    | fail)
  generalize w2.alloc (.cells #[.int .i64 x0] 3) = W3 at I0 ⊢
  generalize (some { block := w.heap.size + 3, off := 0 } : Option Addr) = A3 at I0 ⊢
  generalize (fun k => k = w2.heap.size) = s3 at I0
  clear e2
  have HP0 := Aside0.mk (show ExpP L f mk U (expL f L (U.length + 1) [x0] 0) 0 [x0] [] [] from ⟨Nat.zero_le _, Nat.zero_le _, by simp, fun x hx => by simp only [List.mem_singleton] at hx; rw [hx]; exact HX.out, rfl, rfl, rfl, fun j _ hj => by omega⟩)
  obtain ⟨lF, hlF⟩ : ∃ lF, expL f L (U.length + 1) [x0] 0 = lF := ⟨_, rfl⟩
  rw [hlF] at HP0
  have HLF := Aside0.mk hlF
  clear hlF
  go_loopg [14] (U.length + 1) (fun gg s14 wr => ∃ (i n iR : Nat) (l ms : List Int) (rows : List (List Int)) (AL AM AN : Option Addr) (cL cM cN : Nat) (sL sM sN : Nat → Prop), U.length + 1 - i ≤ gg ∧ s14 = .slice AL n cL ∧ Aside0 (n = l.length ∧ iR = i) ∧ Aside0 (ExpP L f mk U lF i l ms rows) ∧ Aside0 (ExpM w wr (fun _ => False) L l ms rows AL AM AN cL cM cN sL sM sN))
  case atStart => exact ⟨0, 1, 0, [x0], [], [], A3, none, none, 1, 0, 0, s3, _, _, by omega, rfl, ⟨rfl, rfl⟩, HP0, I0⟩
  case round =>
    obtain ⟨i, n, iR, l, ms, rows, AL, AM, AN, cL, cM, cN, sL, sM, sN, hg, rfl, HN, HP, HM⟩ := hrel
    clear I0 HP0
    have er : rows.length = i := by rw [HP.out.rows]; simp [rowsAt]; have := HP.out.il; omega
    have em : ms.length = i := by rw [HP.out.ms]; simp; have := HP.out.il; omega
    have hd := HM.out.d
    have d2 : wr.cell? ⟨w.heap.size + 1, 2, none⟩ = some (.slice AN i cN) := by rw [blk_cell hd 2, er]; rfl
    have d3 : wr.cell? ⟨w.heap.size + 1, 3, none⟩ = some (.slice AM i cM) := by rw [blk_cell hd 3, em]; rfl
    have ER := Aside0.mk (And.intro er em)
    clear hd er em
    have hnU : n ≤ U.length := by rw [HN.out.1]; exact nodup_len HP.out.nd HP.out.sub
    by_cases hlt : i < n
    · have hltz : decide ((i : Int) < (n : Int)) = true := by simp; omega
      have hil : i < l.length := by rw [← HN.out.1]; exact hlt
      obtain ⟨ad, eAL, hk⟩ := Kd.at_int (Kd.R_reads' HM.out.o.L).2.2 (i : Int) (by omega) (by omega)
      subst eAL
      rw [Int.toNat_natCast, rd_at hil] at hk
      obtain ⟨k, hkk⟩ : ∃ k, l[i] = k := ⟨_, rfl⟩
      rw [hkk] at hk
      have hkU : k ∈ U := by rw [← hkk]; exact HP.out.sub _ (List.getElem_mem hil)
      have HKU := Aside0.mk hkU
      have HKK := Aside0.mk (show ∃ h : i < l.length, l[i] = k from ⟨hil, hkk⟩)
      obtain ⟨lE, hlE⟩ : ∃ lE, stepL f k L 0 l = lE := ⟨_, rfl⟩
      have HLE := Aside0.mk hlE
      have HWS := Aside0.mk (Nat.le_refl wr.heap.size)
      clear hkk hkU hlE hil
      go_wp2_with (first
        | ((with_reducible refine gate_dst (N := 41) rfl ?_)
           refine Kd.R_make (Kd.int .i64) (w0 := wr) wr.heap.size 3 rfl rfl 22 (.tmp 40) (.tmp 40) rfl (L : Int) rfl rfl Try.underlying22 (.int .i64 0) 8 int3 rfl (by decide) (by decide) (0 : Int) (ok := fun k => wr.heap.size ≤ k) (okp := fun _ => False) rfl (fun _ h => h.elim) (Nat.le_refl _) (by omega) (by omega) (Below.refl _ _) (Nat.le_refl _) ?_
           intro v1 w1 hr1 hb1 hg1 hat1
           rw [Int.toNat_natCast] at hr1
           obtain ⟨bw, ebw, hbw⟩ := hat1
           obtain ⟨A1, cw, ev⟩ := Kd.R_slice hr1
           subst ev
           obtain ⟨a1, rfl⟩ : ∃ a1, A1 = some a1 := by cases A1 with
             | none => simp [Value.ownBlock] at ebw
             | some a => exact ⟨a, rfl⟩
           obtain ⟨bw', rfl, hl1, hrow, _, _⟩ := row_of_R hr1
           obtain rfl : bw' = bw := by simpa [Value.ownBlock] using ebw
           have ROW := Aside0.mk hrow
           have HBW := Aside0.mk (show w.heap.size + 3 ≤ bw' by have := HM.out.m.lt; omega)
           have M1 := Aside0.mk ((HM.out.avoid hbw).below hb1)
           rw [List.length_replicate]
           clear hr1 hb1 hg1 hrow ebw hl1)
        | fail)
      have IP0 := Aside0.mk (show InP L f U k l lE 0 l from ⟨HP.out.nd, HP.out.sub, HLE.out, fun b hb => by omega, [], by simp⟩)
      have R0 := Aside0.mk (show Row w1 bw' (rowAt f l k 0 ++ List.replicate (L - 0) 0) cw from ROW.out)
      clear ROW hlt hltz hk d2 d3 HWS
      go_loopg [14, 43] L (fun gg s14 s43 wq => ∃ (a n' : Nat) (l' : List Int) (AL' : Option Addr) (cL' : Nat) (sL' : Nat → Prop), L - a ≤ gg ∧ a ≤ L ∧ s43 = .int .i64 (a : Int) ∧ s14 = .slice AL' n' cL' ∧ Aside0 (n' = l'.length) ∧ Aside0 (InP L f U k l lE a l') ∧ Aside0 (Row wq bw' (rowAt f l' k a ++ List.replicate (L - a) 0) cw) ∧ Aside0 (ExpM w wq (fun k => k = bw') L l' ms rows AL' AM AN cL' cM cN sL' sM sN))
      case atStart => exact ⟨0, n, l, some ad, cL, sL, by omega, by omega, rfl, rfl, ⟨HN.out.1⟩, IP0, R0, M1⟩
      case round =>
        obtain ⟨a, n', l', AL', cL', sL', hga, haL, rfl, rfl, HN', IP, RW, MM⟩ := hrel
        clear IP0 R0 M1
        by_cases hal : a < L
        · have hltz : decide ((a : Int) < (L : Int)) = true := by simp; omega
          obtain ⟨tq, htq⟩ : ∃ tq, f k a = tq := ⟨_, rfl⟩
          have htqU : tq ∈ U := by rw [← htq]; exact HU.out k a HKU.out hal
          have hok := HUK.out tq htqU
          have HTQ := Aside0.mk (And.intro htq htqU)
          have HCALL := Aside0.mk (show Calls Try.prog g1 (#[.int .i64 k, .int .i64 (a : Int)] ++ lb1) wr fun e W' => e = .returned (.int .i64 tq) ∧ Below wr.heap.size wr W' from by have := H1.out wr k a MM.out.b HKU.out hal; rw [htq] at this; exact this)
          have HOK := Aside0.mk hok
          clear htq htqU hok
          have hal2 : (a : Int) < (L : Int) := by omega
          by_cases hm : tq ∈ l'
          · obtain ⟨X, hX⟩ : ∃ X : Int, (ixd l' tq : Int) = X := ⟨_, rfl⟩
            have HX2 := Aside0.mk hX
            have HLK := Aside0.mk (show lk (kvsOf l') tq = some (.int .i64 X) by rw [lk_kvs IP.out.nd, if_pos hm, ixk_ixd, hX])
            have HMM := Aside0.mk hm
            clear hX hm
            go_wp2_with (first
              | (go_at_fn g1
                 refine HCALL.out.mono ?_
                 rintro e w5 ⟨rfl, hb5⟩
                 have M5 := Aside0.mk (MM.out.below hb5)
                 have R5 := Aside0.mk (RW.out.below hb5)
                 have hlk : (Instr.lookup 257 (.map (some (w.heap.size + 1 + 1))) (.int .i64 tq) true).run Try.prog w5 = .ok (.tuple #[.int .i64 X, .bool true]) w5 := by
                   have q := M5.out.m.look tq HOK.out Try.underlying257 (zero3 w5) true
                   rw [HLK.out] at q
                   exact q
                 have hc5 := R5.out.cell (i := a) (by rw [List.length_append, rowAt_len, List.length_replicate]; omega)
                 have hf5 := R5.out.frozen a
                 clear hb5)
              | fail)
            go_roundg (L - (a + 1))
            case measure => omega
            case rel => exact ⟨a + 1, n', l', AL', cL', sL', by omega, by omega, by go_num, rfl, HN', ⟨IP.out.old hal (by rw [HTQ.out.1]; exact HMM.out)⟩, ⟨by have := R5.out.set (i := a) (by rw [List.length_append, rowAt_len, List.length_replicate]; omega) X; rw [← HX2.out, ← HTQ.out.1, row_next hal] at this; rw [← HX2.out, ← HTQ.out.1]; exact this⟩, ⟨M5.out.setRow HBW.out a _⟩⟩
          · have HLK := Aside0.mk (show lk (kvsOf l') tq = none by rw [lk_kvs IP.out.nd, if_neg hm])
            have IN := Aside0.mk (show InP L f U k l lE (a + 1) (l' ++ [tq]) from by have := IP.out.new hal (by rw [HTQ.out.1]; exact hm) (by rw [HTQ.out.1]; exact HTQ.out.2); rwa [HTQ.out.1] at this)
            have hnl : n' + 1 ≤ U.length := by
              have := nodup_len IN.out.nd IN.out.sub
              rw [List.length_append] at this
              rw [HN'.out]
              exact this
            have hne : ((n' : Int) == most) = false := beq_eq_false_iff_ne.mpr (by have := HMO.out; omega)
            have HMM := Aside0.mk hm
            have HNL := Aside0.mk hnl
            clear hm hnl
            go_wp2_with (first
              | (go_at_fn g1
                 refine HCALL.out.mono ?_
                 rintro e w5 ⟨rfl, hb5⟩
                 have M5 := Aside0.mk (MM.out.below hb5)
                 have R5 := Aside0.mk (RW.out.below hb5)
                 have hlk : (Instr.lookup 257 (.map (some (w.heap.size + 1 + 1))) (.int .i64 tq) true).run Try.prog w5 = .ok (.tuple #[.int .i64 0, .bool false]) w5 := by
                   have q := M5.out.m.look tq HOK.out Try.underlying257 (zero3 w5) true
                   rw [HLK.out] at q
                   exact q
                 clear hb5)
              | (at_mapUpdate
                 refine wpList_upd (intKey Try.prog 3 Try.underlying3) _ rfl _ _ _ 257 rfl Try.underlying257 (w.heap.size + 1 + 1) (kvsOf l') tq (.int .i64 (n' : Int)) rfl rfl rfl M5.out.m HOK.out ?_
                 intro w6 hM6 ht6
                 rw [HN'.out, put_kvs IP.out.nd HMM.out] at hM6
                 have M6 := Aside0.mk hM6
                 have O6 := Aside0.mk (M5.out.o.turned ht6 (by omega))
                 have D6 := Aside0.mk ((ht6.block _ (by omega)).trans M5.out.d)
                 have Q6 := Aside0.mk ((ht6.block _ (by omega)).trans M5.out.r)
                 have B6 := Aside0.mk (ht6.below M5.out.b (by omega))
                 have R6 := Aside0.mk (R5.out.keep (ht6.block bw' (by have := HBW.out; omega)))
                 clear hM6 ht6)
              | (at_builtin
                 refine Kd.R_append (Kd.int .i64) (w0 := w6) (w.heap.size + 3) rfl _ _ 22 3 (.int .i64 0) 8 rfl Try.underlying22 int3 rfl (by decide) (by decide) (.slice AL' n' cL') l' tq [.int .i64 tq] (fun k => sL' k ∨ w6.heap.size ≤ k) (fun _ => False) rfl rfl rfl (fun _ h => h.elim) (fun _ h => .inr h) (Kd.R_mono (by have := O6.out.L; rw [← HN'.out] at this; exact this) (fun _ h => .inl h)) (Below.refl _ _) (by have := M6.out.lt; omega) (by have := HNL.out; rw [← HN'.out]; omega) ?_
                 intro v7 w7 hr7 hb7 hg7 hat7
                 obtain ⟨A7, c7, ev7⟩ := Kd.R_slice hr7
                 subst ev7
                 have hgr : w6.grownBy w7 (Value.slice AL' l'.length cL').ownBlock := by rw [← HN'.out]; exact hg7
                 have hnb : ∀ b, b < w.heap.size + 3 → some b ≠ (Value.slice AL' n' cL').ownBlock := fun b hb e => by
                   have := Kd.R_base O6.out.L b (by rw [← HN'.out]; exact e.symm)
                   omega
                 have R7 := Aside0.mk (R6.out.keep (hg7.block bw' R6.out.lt (fun e => O6.out.avL bw' (O6.out.L.1 bw' (by rw [← HN'.out]; exact e.symm)) rfl)))
                 have M7 := Aside0.mk (show ExpM w w7 (fun k => k = bw') L (l' ++ [tq]) ms rows A7 AM AN c7 cM cN (fun k => (sL' k ∨ w6.heap.size ≤ k) ∧ k < w7.heap.size) sM sN from
                   ⟨O6.out.appL hr7 hgr (fun k hk e => by have := R6.out.lt; omega), M6.out.keep (hg7.block _ M6.out.lt (hnb _ (by omega))), (hg7.block _ (blk_lt D6.out) (hnb _ (by omega))).trans D6.out, (hg7.block _ (blk_lt Q6.out) (hnb _ (by omega))).trans Q6.out, B6.out.grown hg7 (by have := M6.out.lt; omega) (fun k hk => by have := Kd.R_base O6.out.L k (by rw [← HN'.out]; exact hk); omega)⟩)
                 obtain ⟨n7, hn7⟩ : ∃ n7, (l' ++ [tq]).length = n7 := ⟨_, rfl⟩
                 rw [hn7]
                 have HN7 := Aside0.mk hn7.symm
                 have hc7 := R7.out.cell (i := a) (by rw [List.length_append, rowAt_len, List.length_replicate]; omega)
                 have hf7 := R7.out.frozen a
                 clear hr7 hb7 hg7 hat7 hgr hnb hn7)
              | fail)
            go_roundg (L - (a + 1))
            case measure => omega
            case rel => exact ⟨a + 1, n7, l' ++ [tq], A7, c7, _, by omega, by omega, by go_num, rfl, HN7, IN, ⟨by
                have e1 : rowAt f l' k a = rowAt f (l' ++ [tq]) k a := (rowAt_app IP.out.has _).symm
                have e2 : (n' : Int) = (ixd (l' ++ [tq]) (f k a) : Int) := by rw [HTQ.out.1, ixd_new HMM.out, HN'.out]
                have := R7.out.set (i := a) (by rw [List.length_append, rowAt_len, List.length_replicate]; omega) (n' : Int)
                rw [e1, e2, row_next hal] at this
                rw [e2]
                exact this⟩, ⟨M7.out.setRow HBW.out a _⟩⟩
        · have hae : a = L := by omega
          subst hae
          have hd := MM.out.d
          have d0 : wr.cell? ⟨w.heap.size + 1, 2, none⟩ = some (.slice AN i cN) := by rw [blk_cell hd 2, ER.out.1]; rfl
          have f0 := blk_frozen hd 2
          clear hd
          have e0 : rowAt f l' k a ++ List.replicate (a - a) 0 = rowAt f l' k a := by rw [Nat.sub_self]; simp
          have RW2 := Aside0.mk (show Row wr bw' (rowAt f l' k a) cw by have := RW.out; rwa [e0] at this)
          have hiU : i ≤ U.length := HP.out.iU
          clear e0 RW
          go_wp2_with (first
            | (at_builtin
               refine Kd.S_append (Kd.slice 3 (Kd.int .i64)) (w0 := wr) (w.heap.size + 3) rfl _ _ 43 22 (.slice none 0 0) 24 rfl Try.underlying43 row22 rfl (by decide) (by decide) (.slice AN i cN) rows (rowAt f l' k a) [.slice (some ⟨bw', 0, none⟩) a cw] (fun k => (sN k ∨ k = bw') ∨ wr.heap.size ≤ k) (fun k => k = bw') rfl rfl (Kd.M_row (by have := RW2.out.R (base := w.heap.size + 3) (ok := fun k => k = bw') HBW.out rfl; rw [rowAt_len] at this; exact this)) (fun k hk => ⟨.inl (.inr hk), fun e => MM.out.o.avN k ((Kd.S_R MM.out.o.N).1 k (by rw [ER.out.1]; exact e.symm)) hk⟩) (fun _ h => .inr h) (Kd.S_mono (by have := MM.out.o.N; rw [ER.out.1] at this; exact this) (fun k hk => ⟨.inl (.inl hk), MM.out.o.avN k hk⟩)) (Below.refl _ _) (by have := MM.out.m.lt; omega) (by have := ER.out.1; omega) ?_
               intro v8 w8 hs8 hb8 hg8 hat8
               obtain ⟨A8, c8, ev8⟩ := Kd.S_slice hs8
               subst ev8
               have hgr : wr.grownBy w8 (Value.slice AN rows.length cN).ownBlock := by rw [ER.out.1]; exact hg8
               have hnb : ∀ b, b < w.heap.size + 3 → some b ≠ (Value.slice AN i cN).ownBlock := fun b hb e => by
                 have := Kd.S_base MM.out.o.N b (by rw [ER.out.1]; exact e.symm)
                 omega
               have hln : (rows ++ [rowAt f l' k a]).length = i + 1 := by rw [List.length_append, ER.out.1]; rfl
               have O8 := Aside0.mk (MM.out.o.appN RW2.out.lt hs8 hgr)
               have D8 := Aside0.mk ((hg8.block _ (blk_lt MM.out.d) (hnb _ (by omega))).trans MM.out.d)
               have Q8 := Aside0.mk ((hg8.block _ (blk_lt MM.out.r) (hnb _ (by omega))).trans MM.out.r)
               have MK8 := Aside0.mk (MM.out.m.keep (hg8.block _ MM.out.m.lt (hnb _ (by omega))))
               have B8 := Aside0.mk (show Below w.heap.size w w8 from MM.out.b.grown hg8 (by have := MM.out.m.lt; omega) (fun k hk => by have := Kd.S_base MM.out.o.N k (by rw [ER.out.1]; exact hk); omega))
               rw [hln]
               have HLN := Aside0.mk hln
               have q2 : w8.cell? ⟨w.heap.size + 1, 2, none⟩ = some (.slice AN i cN) := by rw [blk_cell D8.out 2, ER.out.1]; rfl
               have q3 := blk_frozen D8.out 2
               clear hs8 hb8 hg8 hat8 hgr hnb hln)
            | fail)
          have M9 := Aside0.mk (show ExpM w (w8.setCell ⟨w.heap.size + 1, 2, none⟩ (.slice A8 (i + 1) c8)) (fun _ => False) a l' ms (rows ++ [rowAt f l' k a]) AL' AM A8 cL' cM c8 sL' sM (fun k => ((sN k ∨ k = bw') ∨ wr.heap.size ≤ k) ∧ k < w8.heap.size) from
            ⟨O8.out.set (p := ⟨w.heap.size + 1, 2, none⟩) (.inl (by show w.heap.size + 1 < _; omega)) _, MK8.out.keep (Below.heap_setCell _ ⟨w.heap.size + 1, 2, none⟩ _ _ (by show _ ≠ w.heap.size + 1; omega)), by rw [blk_set D8.out 2, HLN.out]; rfl, blk_far Q8.out (p := ⟨w.heap.size + 1, 2, none⟩) (by show _ ≠ w.heap.size + 1; omega) _, below_set B8.out (by omega)⟩)
          generalize w8.setCell ⟨w.heap.size + 1, 2, none⟩ (.slice A8 (i + 1) c8) = W9 at M9 ⊢
          have m3 : W9.cell? ⟨w.heap.size + 1, 3, none⟩ = some (.slice AM i cM) := by rw [blk_cell M9.out.d 3, ER.out.2]; rfl
          have zlt : w.heap.size + 1 < W9.heap.size := blk_lt M9.out.d
          obtain ⟨mv, hmv⟩ : ∃ mv, mk k = mv := ⟨_, rfl⟩
          have HMV := Aside0.mk hmv
          have HC2 := Aside0.mk (show ∀ W, Below w.heap.size w W → Calls Try.prog g2 (#[.int .i64 k] ++ lb2) W fun e W' => e = .returned (.int .i64 mv) ∧ Below W.heap.size W W' from fun W hb => by have := H2.out W k hb HKU.out; rw [hmv] at this; exact this)
          clear hmv d0 f0 q2 q3
          go_region_law (first
            | (rw [if_pos (by rfl)]
               go_simp
               go_at_fn g2
               refine (HC2.out _ (by repeat (first | exact M9.out.b | apply below_drew1 | apply pw_below_drewN))).mono ?_
               rintro e w10 ⟨rfl, hb10⟩
               have M10 := Aside0.mk (show ExpM w w10 (fun _ => False) a l' ms (rows ++ [rowAt f l' k a]) AL' AM A8 cL' cM c8 sL' sM (fun k => ((sN k ∨ k = bw') ∨ wr.heap.size ≤ k) ∧ k < w8.heap.size) from M9.out.below (below_step (by repeat (first | exact Below.refl _ _ | apply below_drew1 | apply pw_below_drewN)) hb10))
               have m10 : w10.cell? ⟨w.heap.size + 1, 3, none⟩ = some (.slice AM i cM) := by rw [blk_cell M10.out.d 3, ER.out.2]; rfl
               have z10 : w.heap.size + 1 < w10.heap.size := blk_lt M10.out.d
               clear hb10)
            | (refine' append_int_step (x := mv) (B := w.heap.size + 3) (ok := sM) (.slice AM i cM) ms (.tmp 83) (.tmp 87) 22 (by rfl) (by rfl) Try.underlying22 int3 (by rfl) (by rfl) ?aO ?aC ?aS ?aL ?_
               (case aO => rw [← ER.out.2]; exact (M10.out.o.below (by repeat (first | exact Below.refl _ _ | apply below_drew1 | apply pw_below_drewN | apply below_alloc))).M)
               (case aC => go_simp)
               (case aS => have := M10.out.m.lt; simp; omega)
               (case aL => have := ER.out.2; omega)
               intro v11 w11 hr11 hg11
               have bb := bb_of (w10 := w10) hg11 (by repeat (first | exact Below.refl _ _ | apply below_drew1 | apply pw_below_drewN | apply below_alloc))
               obtain ⟨A11, c11, ev11⟩ := Kd.R_slice hr11
               subst ev11
               have M11 := Aside0.mk (M10.out.below bb.out)
               have hgr := hg11
               rw [← ER.out.2] at hgr
               have hnb : ∀ b, b < w.heap.size + 3 → some b ≠ (Value.slice AM i cM).ownBlock := fun b hb e => by
                 have := Kd.R_base M11.out.o.M b (by rw [ER.out.2]; exact e.symm)
                 omega
               have hln : (ms ++ [mv]).length = i + 1 := by rw [List.length_append, ER.out.2]; rfl
               have O11 := Aside0.mk (M11.out.o.appM hr11 hgr (fun _ _ => id))
               have D11 := Aside0.mk ((hg11.block _ (blk_lt M11.out.d) (hnb _ (by omega))).trans M11.out.d)
               have Q11 := Aside0.mk ((hg11.block _ (blk_lt M11.out.r) (hnb _ (by omega))).trans M11.out.r)
               have K11 := Aside0.mk (M11.out.m.keep (hg11.block _ M11.out.m.lt (hnb _ (by omega))))
               have B11 := Aside0.mk (show Below w.heap.size w w11 from M11.out.b.grown hg11 (by have := M11.out.m.lt; omega) (fun k hk => by have := Kd.R_base M11.out.o.M k (by rw [ER.out.2]; exact hk); omega))
               rw [hln]
               have HL11 := Aside0.mk hln
               have q11 : w11.cell? ⟨w.heap.size + 1, 3, none⟩ = some (.slice AM i cM) := by rw [blk_cell D11.out 3, ER.out.2]; rfl
               have qf11 := blk_frozen D11.out 3
               clear hr11 hg11 hgr hnb hln bb)
            | fail)
          all_goals go_wp2
          all_goals
            go_roundg (U.length + 1 - (i + 1))
            case measure => omega
            case rel => exact ⟨i + 1, n', i + 1, l', ms ++ [mv], rows ++ [rowAt f l' k a], AL', A11, A8, cL', c11, c8, _, _, _, by omega, rfl, ⟨HN'.out, rfl⟩, ⟨HP.out.next HKK.out HLE.out IP.out HMV.out⟩, ⟨O11.out.set (p := ⟨w.heap.size + 1, 3, none⟩) (.inl (by show w.heap.size + 1 < _; omega)) _, K11.out.keep (Below.heap_setCell _ ⟨w.heap.size + 1, 3, none⟩ _ _ (by show _ ≠ w.heap.size + 1; omega)), by rw [blk_set D11.out 3, HL11.out]; rfl, blk_far Q11.out (p := ⟨w.heap.size + 1, 3, none⟩) (by show _ ≠ w.heap.size + 1; omega) _, below_set B11.out (by omega)⟩⟩
    · have hin : i = n := by have := HP.out.il; have := HN.out.1; omega
      subst hin
      have hd := HM.out.d
      have hr := HM.out.r
      have d0 : wr.cell? ⟨w.heap.size + 1, 0, none⟩ = some (.int .i64 (L : Int)) := (blk_cell hd 0).trans rfl
      have d1 : wr.cell? ⟨w.heap.size + 1, 1, none⟩ = some (.int .i64 0) := (blk_cell hd 1).trans rfl
      have r0 : wr.cell? ⟨w.heap.size, 0, none⟩ = some (.int .i64 0) := (blk_cell hr 0).trans rfl
      have r1 : wr.cell? ⟨w.heap.size, 1, none⟩ = some (.int .i64 0) := (blk_cell hr 1).trans rfl
      have r2 : wr.cell? ⟨w.heap.size, 2, none⟩ = some (.slice none 0 0) := (blk_cell hr 2).trans rfl
      have r3 : wr.cell? ⟨w.heap.size, 3, none⟩ = some (.slice none 0 0) := (blk_cell hr 3).trans rfl
      have f0 := blk_frozen hr 0
      have f1 := blk_frozen hr 1
      have f2 := blk_frozen hr 2
      have f3 := blk_frozen hr 3
      have hil := Aside0.mk (show i = l.length from HN.out.1)
      have FIN := Aside0.mk (show ∃ vN vM : Value, Ending.returned (.tuple #[.agg #[.int .i64 (L : Int), .int .i64 0, .slice AN i cN, .slice AM i cM], .bool true]) = .returned (.tuple #[.agg #[.int .i64 (L : Int), .int .i64 0, vN, vM], .bool true]) ∧ Below w.heap.size w (set4 wr w.heap.size (.int .i64 (L : Int)) (.int .i64 0) (.slice AN i cN) (.slice AM i cM)) ∧
          ∃ sN sM : Nat → Prop, (∀ k, sM k → ¬ sN k) ∧ Kd.S (Kd.slice 3 (Kd.int .i64)) 22 (set4 wr w.heap.size (.int .i64 (L : Int)) (.int .i64 0) (.slice AN i cN) (.slice AM i cM)) w.heap.size sN vN (rowsL f L lF) ∧ Kd.R (Kd.int .i64) 3 (set4 wr w.heap.size (.int .i64 (L : Int)) (.int .i64 0) (.slice AN i cN) (.slice AM i cM)) w.heap.size sM vM (lF.map mk) from by
        have o4 := HM.out.o.set4 (g := w.heap.size) (by omega) (.int .i64 (L : Int)) (.int .i64 0) (.slice AN i cN) (.slice AM i cM)
        have el : l = lF := by
          have := HP.out.fin
          rw [← this]
          obtain ⟨g, hg⟩ : ∃ g, U.length + 1 - i = g + 1 := ⟨U.length - i, by omega⟩
          rw [hg, expL, dif_neg (by have := hil.out; omega)]
        have e1 : rows = rowsL f L lF := by
          rw [HP.out.rows, ← el, hil.out]
          unfold rowsAt rowsL rowAt
          rw [List.take_length]
        have e2 : ms = lF.map mk := by rw [HP.out.ms, ← el, hil.out, List.take_length]
        refine ⟨_, _, rfl, below_set (below_set (below_set (below_set HM.out.b (Nat.le_refl _)) (Nat.le_refl _)) (Nat.le_refl _)) (Nat.le_refl _), sN, sM, o4.MN, ?_, ?_⟩
        · have := Kd.S_lower o4.N (show w.heap.size ≤ w.heap.size + 3 by omega)
          rw [ER.out.1, e1] at this
          exact this
        · have := Kd.R_lower o4.M (show w.heap.size ≤ w.heap.size + 3 by omega)
          rw [ER.out.2, e2] at this
          exact this)
      clear hd hr hlt hnU hg
      go_wp2
      refine bodyPost_ret (resD rfl _ _ w.heap.size (.int .i64 (L : Int)) (.int .i64 0) (.slice AN i cN) (.slice AM i cM) (.bool true) rfl rfl (by go_simp) (by go_simp) (by go_simp) (by go_simp)) rfl ?_
      have fin := FIN.out
      rw [← HLF.out] at fin
      exact fin
end Go.Proofs.Ytampgoendkjkhaa.H
