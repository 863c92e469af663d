/- What a stack can come to: the walk of the given package, with its plain law. -/
import Derived.Test.YtampgoendkjkhaaVA
import Derived.Test.YtampgoendkjkhaaArr
import Derived.Test.YtampgoendkjkhaaSlA
import Derived.Test.YtampgoendkjkhaaDv
import Derived.DeepKeys4
import Derived.Test.YtampgoendkjkhaaVB
import Derived.Test.YtampgoendkjkhaaRow
import Derived.Test.YtampgoendkjkhaaCut
namespace Go.Proofs.Ytampgoendkjkhaa.H
open Go.RowKit Go.Maps Go.Shelf Go.ChangeMaps Go.Proofs.YtampgoendkjkhaaW.PrintWords
set_option linter.unusedVariables false
set_option linter.unusedSimpArgs false
set_option linter.unusedSectionVars false
def encK3 (x : Ek) : Value := .agg #[.int .i64 x.1, .int .i64 x.2.1, .int .i64 x.2.2]
def okK3 (x : Ek) : Prop := (-9223372036854775808 ≤ x.1 ∧ x.1 ≤ 9223372036854775807) ∧ (-9223372036854775808 ≤ x.2.1 ∧ x.2.1 ≤ 9223372036854775807) ∧ (-9223372036854775808 ≤ x.2.2 ∧ x.2.2 ≤ 9223372036854775807)
theorem kaV_laid : laidOutB Try.prog = true := by kernel_rfl
theorem kaV_row : (140 : TypeId) < Try.prog.types.size := of_decide_eq_true (by kernel_rfl)
theorem kaV_wide : (match Try.prog.underlying 140 with | some (.array _ _) | some (.struct _) => true | _ => false) = true := by kernel_rfl
theorem kaV_kt3 : Try.prog.keyTypeAt 3 140 = true := by kernel_rfl
set_option maxRecDepth 100000 in
theorem kaV_law : WideMaps.KeyLaw Try.prog 140 := deep_law_laid (m := 3) kaV_laid (by decide) kaV_row kaV_kt3 kaV_wide
theorem kaV_kt : Try.prog.keyType 140 = true := by kernel_rfl
theorem kaV_c : Try.prog.cellsOf 140 = 3 := by kernel_rfl
theorem kaV_c3 : Try.prog.cellsOf 3 = 1 := by kernel_rfl
theorem kaV_fm (x0 x1 x2 : Int) : (Value.agg #[.int .i64 x0, .int .i64 x1, .int .i64 x2]).formed Try.prog 140 = true := by
  simp [Value.formed, Try.underlying140, kaV_c]
theorem kaV_kl (n : Nat) (x0 x1 x2 : Int) (h0 : (Lit.int .i64 x0).wf = true) (h1 : (Lit.int .i64 x1).wf = true) (h2 : (Lit.int .i64 x2).wf = true) : (Try.prog.keyLits (n + 2) 140 [.int .i64 x0, .int .i64 x1, .int .i64 x2]) = some [.int .i64 x0, .int .i64 x1, .int .i64 x2] := by
  simp [Program.keyLits, Try.underlying140, Try.underlying3, kaV_c, kaV_c3, List.range_succ, h0, h1, h2]
theorem kaV_tsz : Try.prog.types.size = (Try.prog.types.size - 1) + 1 := by kernel_rfl
theorem kaV_ko (x0 x1 x2 : Int) (h0 : (Lit.int .i64 x0).wf = true) (h1 : (Lit.int .i64 x1).wf = true) (h2 : (Lit.int .i64 x2).wf = true) : keyOf Try.prog 140 (.agg #[.int .i64 x0, .int .i64 x1, .int .i64 x2]) = some (.string (keyBytes [.int .i64 x0, .int .i64 x1, .int .i64 x2])) := by
  have hw : ∃ fs, Try.prog.underlying 140 = some (.struct fs) := ⟨_, Try.underlying140⟩
  obtain ⟨fs, hu⟩ := hw
  unfold keyOf
  rw [hu]
  simp only [kaV_kt, kaV_fm, Bool.and_self, if_true]
  rw [kaV_tsz]
  have := kaV_kl (Try.prog.types.size - 1) x0 x1 x2 h0 h1 h2
  simp only [Value.cells]
  rw [this]
  rfl
theorem keyV : ∃ E : KeyE Try.prog 140 Ek, E.enc = encK3 ∧ E.ok = okK3 := ⟨{
  enc := encK3
  ok := okK3
  K := Keyed.of_law kaV_law
  lit := fun a => .string (keyBytes [.int .i64 a.1, .int .i64 a.2.1, .int .i64 a.2.2])
  key := fun a h => kaV_ko a.1 a.2.1 a.2.2 (wf_i64 (by have q := h.1; omega)) (wf_i64 (by have q := h.2.1; omega)) (wf_i64 (by have q := h.2.2; omega))
  inj := fun a b _ _ e => by
    unfold encK3 at e
    injection e with e
    have e0 := congrArg (fun z => z[0]?) e; have e1 := congrArg (fun z => z[1]?) e; have e2 := congrArg (fun z => z[2]?) e
    simp at e0 e1 e2
    exact Prod.ext e0 (Prod.ext e1 e2) }, rfl, rfl⟩
theorem okK3_in {n : Nat} (hn : n ≤ 100) {e : Ek} (h : InE n e) : okK3 e := by
  obtain ⟨⟨h1, h2⟩, ⟨h3, h4⟩, h5, h6⟩ := h
  exact ⟨⟨by omega, by omega⟩, ⟨by omega, by omega⟩, by omega, by omega⟩
/-! ### what is known, as a value -/
def encKn (k : Kn) : Value := .agg #[.int .i64 k.rule, .int .i64 k.cost, .slice k.A k.over.length k.c]
def kvK (ws : List (Ek × Kn)) : List (Ek × Value) := ws.map fun p => (p.1, encKn p.2)
theorem lk_kvK (ws : List (Ek × Kn)) (k : Ek) : lk (kvK ws) k = (lkG ws k).map encKn := by
  unfold lk lkG kvK
  rw [List.find?_map]
  cases h : ws.find? ((fun p : Ek × Value => decide (p.1 = k)) ∘ fun p : Ek × Kn => (p.1, encKn p.2)) with
  | none =>
    have : ws.find? (fun p => decide (p.1 = k)) = none := h
    rw [this]; rfl
  | some p =>
    have : ws.find? (fun p => decide (p.1 = k)) = some p := h
    rw [this]; rfl
theorem put_kvK (ws : List (Ek × Kn)) (k : Ek) (v : Kn) : put (kvK ws) k (encKn v) = kvK (putG ws k v) := by
  unfold put putG
  rw [lk_kvK, Option.isSome_map]
  by_cases h : (lkG ws k).isSome = true
  · rw [if_pos h, if_pos h]
    unfold kvK
    rw [List.map_map, List.map_map]
    refine List.map_congr_left fun p hp => ?_
    by_cases e : p.1 = k <;> simp [e]
  · rw [if_neg h, if_neg h]
    unfold kvK
    rw [List.map_append]
    rfl
theorem zeroKn (W : World) : (zeroValue 226).run Try.prog W = .ok (.agg #[.int .i64 0, .int .i64 0, .slice none 0 0]) W := by kernel_rfl
def kn0 : Kn := ⟨0, 0, [], none, 0⟩
/-- 'k := edges[e]', 'k, ok := edges[e]' -/
theorem edge_look {E : KeyE Try.prog 140 Ek} {W : World} {b : Nat} {ws : List (Ek × Kn)} (h : MapK E W b (kvK ws)) (e1 : E.enc = encK3) (e2 : E.ok = okK3) {e : Ek} {k : Kn} (hs : lkG ws e = some k) (hok : okK3 e) :
    (Instr.lookup 222 (.map (some b)) (.agg #[.int .i64 e.1, .int .i64 e.2.1, .int .i64 e.2.2]) false).run Try.prog W = .ok (.agg #[.int .i64 k.rule, .int .i64 k.cost, .slice k.A k.over.length k.c]) W := by
  have q := h.look e (by rw [e2]; exact hok) Try.underlying222 (zeroKn W) false
  rw [lk_kvK, hs, e1] at q
  exact q
theorem edge_look2 {E : KeyE Try.prog 140 Ek} {W : World} {b : Nat} {ws : List (Ek × Kn)} (h : MapK E W b (kvK ws)) (e1 : E.enc = encK3) (e2 : E.ok = okK3) (e : Ek) (hok : okK3 e) :
    (Instr.lookup 222 (.map (some b)) (.agg #[.int .i64 e.1, .int .i64 e.2.1, .int .i64 e.2.2]) true).run Try.prog W = .ok (.tuple #[encKn ((lkG ws e).getD kn0), .bool (lkG ws e).isSome]) W := by
  have q := h.look e (by rw [e2]; exact hok) Try.underlying222 (zeroKn W) true
  rw [lk_kvK, e1] at q
  cases hl : lkG ws e with
  | none => rw [hl] at q; exact q
  | some v => rw [hl] at q; exact q
/-! ### rows of edges -/
def csK3 (x : Ek) : List Int := [x.1, x.2.1, x.2.2]
def kEk : Kd Ek := kArr 3 csK3 (fun _ => rfl)
theorem info_ek : (Try.prog.info? 140).map (fun i => (i.zero, i.size, i.bytes)) = some (some (.agg #[.int .i64 0, .int .i64 0, .int .i64 0]), 3, 24) := by kernel_rfl
set_option maxHeartbeats 1000000 in
theorem clone_ek (A : Option Addr) (c : Nat) (l : List Ek) (w : World) (hr : Kd.C kEk w A l.length l) (hl : l.length < 1099511627776) :
    Calls Try.prog 117 #[.slice A l.length c] w fun e w' => ∃ v : Value, e = .returned v ∧ Kd.R kEk 140 w' w.heap.size (fun _ => True) v l ∧ Below w.heap.size w w' := by
  have HR := Aside0.mk hr
  have HL := Aside0.mk hl
  clear hr hl
  have qT : ∀ (w : World) (a : Option Addr) (n c n' c' : Nat), (binOp .eql 135 (.slice a n c) (.slice none n' c')).run Try.prog w = .ok (.bool a.isNone) w := fun w a n c n' c' => Lib.run_eql_slice_nil w _ _ a n c n' c' Try.underlying135
  cases A with
  | none =>
    have h0 : l = [] := by
      cases l with
      | nil => rfl
      | cons x xs => obtain ⟨ad, e, _⟩ := HR.out.2.2 (by simp); cases e
    subst h0
    go_enter Try.func117, Try.ntmps117
    go_wp2
    go_ret
    exact ⟨_, rfl, Kd.R_nil _ _ _ _ _, Below.refl _ _⟩
  | some ad =>
    have HO' := Aside0.mk (show Kd.R kEk 140 (w.alloc (.cells #[] 140)) w.heap.size (fun _ => True) (.slice (some ⟨w.heap.size, 0, none⟩) 0 0) [] from ⟨fun _ _ => trivial, OwnRow.lit w w.heap.size (ps := ([] : List Ek)) (inner := []) ⟨by simp, fun j p hj => by simp at hj⟩ (Nat.le_refl _) (by simp)⟩)
    have HB' := Aside0.mk ((Below.refl w.heap.size w).alloc (Nat.le_refl _) (.cells #[] 140))
    go_enter Try.func117, Try.ntmps117
    go_wp2_with (
      at_builtin
      refine Kd.R_append_rows kEk (w0 := w) w.heap.size rfl _ _ 135 140 (.agg #[.int .i64 0, .int .i64 0, .int .i64 0]) 24 rfl Try.underlying135 info_ek rfl (by decide) (by decide) _ [] l (some ad) l.length c (fun _ => True) (fun _ => False) rfl rfl HO'.out (Kd.C_below HR.out HB'.out) (fun _ _ h => h) (fun _ h => h.elim) (fun _ _ => trivial) HB'.out (by simp) (by have := HL.out; simp; omega) ?_
      intro v1 w1 hown hb1 hg hat
      have HO1 := Aside0.mk hown
      have HB1 := Aside0.mk hb1
      clear hown hb1 hg hat)
    go_ret
    exact ⟨v1, rfl, HO1.out, HB1.out⟩
theorem lit_ek {W : World} {b : Nat} {x : Ek} (h0 : W.cell? ⟨b, 0, none⟩ = some (.int .i64 x.1)) (h1 : W.cell? ⟨b, 1, none⟩ = some (.int .i64 x.2.1)) (h2 : W.cell? ⟨b, 2, none⟩ = some (.int .i64 x.2.2)) : Kd.C kEk W (some ⟨b, 0, none⟩) 1 [x] := by
  refine ⟨rfl, by decide, fun _ => ⟨_, rfl, fun j p hj => ?_⟩⟩
  match j, hj with
  | 0, hj =>
    obtain rfl : x = p := by simpa using hj
    refine ⟨[.int .i64 x.1, .int .i64 x.2.1, .int .i64 x.2.2], rfl, rfl, fun i u hu => ?_⟩
    match i, hu with
    | 0, hu =>
      obtain rfl : Value.int .i64 x.1 = u := by simpa using hu
      simpa [Addr.add] using h0
    | 1, hu =>
      obtain rfl : Value.int .i64 x.2.1 = u := by simpa using hu
      simpa [Addr.add, kEk, kArr] using h1
    | 2, hu =>
      obtain rfl : Value.int .i64 x.2.2 = u := by simpa using hu
      simpa [Addr.add, kEk, kArr] using h2
end Go.Proofs.Ytampgoendkjkhaa.H

namespace Go.Proofs.Ytampgoendkjkhaa.H
open Go.RowKit Go.Maps Go.Shelf Go.Proofs.YtampgoendkjkhaaW.PrintWords Go.Proofs.YtampgoendkjkhaaW.PrintMore
set_option linter.unusedVariables false
set_option linter.unusedSimpArgs false
structure SatM (E : KeyE Try.prog 140 Ek) (W : World) (b bm : Nat) (gc : Int) (G : Option Addr) (gl gp : Nat) (ws : List (Ek × Kn)) : Prop where
  s : W.heap[b]? = some (.cells #[.int .i64 gc, .slice G gl gp, .map (some bm)] 224 (0, 0))
  m : MapK E W bm (kvK ws)
  o : ∀ e k, lkG ws e = some k → k.over.length ≤ k.c ∧ Kd.C kEk W k.A k.over.length k.over
theorem SatM.below {E : KeyE Try.prog 140 Ek} {W W' : World} {b bm : Nat} {gc : Int} {G : Option Addr} {gl gp : Nat} {ws : List (Ek × Kn)} (h : SatM E W b bm gc G gl gp ws) (hb : Below W.heap.size W W') : SatM E W' b bm gc G gl gp ws :=
  ⟨blk_below h.s hb, h.m.below hb, fun e k hk => ⟨(h.o e k hk).1, Kd.C_below (h.o e k hk).2 hb⟩⟩
theorem ek_get {W : World} {A : Option Addr} {n : Nat} {xs : List Ek} (h : Kd.C kEk W A n xs) (hn : n = xs.length) {i : Nat} (hi : i < xs.length) :
    ∃ ad, A = some ad ∧ W.cell? (ad.add (i * 3)) = some (.int .i64 xs[i].1) ∧ W.cell? ⟨(ad.add (i * 3)).block, (ad.add (i * 3)).off + 1, none⟩ = some (.int .i64 xs[i].2.1) ∧ W.cell? ⟨(ad.add (i * 3)).block, (ad.add (i * 3)).off + 2, none⟩ = some (.int .i64 xs[i].2.2) := by
  obtain ⟨ad, e0, hc0⟩ := arr_get h hn hi
  have h1 := hc0 0 xs[i].1 rfl
  have h2 := hc0 1 xs[i].2.1 rfl
  have h3 := hc0 2 xs[i].2.2 rfl
  rw [show ad.add (i * 3 + 0) = ad.add (i * 3) from rfl] at h1
  rw [show ad.add (i * 3 + 1) = ⟨(ad.add (i * 3)).block, (ad.add (i * 3)).off + 1, none⟩ from by rw [← Addr.add_add, add_pos _ (by omega)]] at h2
  rw [show ad.add (i * 3 + 2) = ⟨(ad.add (i * 3)).block, (ad.add (i * 3)).off + 2, none⟩ from by rw [← Addr.add_add, add_pos _ (by omega)]] at h3
  exact ⟨ad, e0, h1, h2, h3⟩
theorem info_i4 : (Try.prog.info? 3).map (fun i => (i.zero, i.size, i.bytes)) = some (some (.int .i64 0), 1, 8) := by kernel_rfl
def TldPost (W0 : World) (out : List Int) (n : Int) (e : Ending) (w' : World) : Prop := ∃ (v : Value) (out' : List Int), e = .returned v ∧ (out'.length : Int) ≤ out.length + n ∧ Kd.R (Kd.int .i64) 3 w' W0.heap.size (fun _ => True) v out' ∧ Below W0.heap.size W0 w'
set_option maxHeartbeats 8000000 in
set_option maxRecDepth 100000 in
theorem told_calls (E : KeyE Try.prog 140 Ek) (hE1 : E.enc = encK3) (hE2 : E.ok = okK3) (W0 : World) (b bm : Nat) (gc : Int) (G : Option Addr) (gl gp n m : Nat) (ws : List (Ek × Kn)) (hS : SatM E W0 b bm gc G gl gp ws) (hO : StOk n m ws) (hn : n ≤ 100) :
    ∀ (N : Nat), N ≤ 2000 → ∀ (e : Ek) (k : Kn) (w : World) (v : Value) (out : List Int), lkG ws e = some k → k.cost ≤ (N : Int) → Below W0.heap.size W0 w → Kd.R (Kd.int .i64) 3 w W0.heap.size (fun _ => True) v out → out.length + N < 1000000 →
    Calls Try.prog 51 #[.pointer (some ⟨b, 0, none⟩), .agg #[.int .i64 e.1, .int .i64 e.2.1, .int .i64 e.2.2], v] w (TldPost W0 out k.cost) := by
  have HS := Aside0.mk hS
  have HO := Aside0.mk hO
  have E1 := Aside0.mk hE1
  have E2 := Aside0.mk hE2
  clear hS hO hE1 hE2
  intro N
  induction N using Nat.strongRecOn with
  | _ N ih =>
    intro hN e k w v out hk hc hB hR hL
    have IH := Aside0.mk ih
    have HK := Aside0.mk hk
    have HB := Aside0.mk hB
    have HR := Aside0.mk hR
    have HL := Aside0.mk (And.intro hL (And.intro hc hN))
    have HIN := Aside0.mk (HO.out.key e k hk)
    have HKO := Aside0.mk (HS.out.o e k hk)
    obtain ⟨Av, cv, rfl⟩ := Kd.R_slice hR
    have B1 := Aside0.mk (below_alloc (Below.refl w.heap.size w) (.cells #[.int .i64 e.1, .int .i64 e.2.1, .int .i64 e.2.2] 140))
    have B01 := Aside0.mk (show Below W0.heap.size W0 (w.alloc (.cells #[.int .i64 e.1, .int .i64 e.2.1, .int .i64 e.2.2] 140)) from below_step hB B1.out)
    have X1 := Aside0.mk (blk_new w (.cells #[.int .i64 e.1, .int .i64 e.2.1, .int .i64 e.2.2] 140 (0, 0)))
    clear ih hk hc hB hR hL hN
    go_enter Try.func51, Try.ntmps51
    go_wp2
    generalize w.alloc (.cells #[.int .i64 e.1, .int .i64 e.2.1, .int .i64 e.2.2] 140) = W1 at B1 B01 X1 ⊢
    have q0 : W1.cell? ⟨w.heap.size, 0, none⟩ = some (.int .i64 e.1) := (blk_cell X1.out 0).trans rfl
    have q1 : W1.cell? ⟨w.heap.size, 1, none⟩ = some (.int .i64 e.2.1) := (blk_cell X1.out 1).trans rfl
    have q2 : W1.cell? ⟨w.heap.size, 2, none⟩ = some (.int .i64 e.2.2) := (blk_cell X1.out 2).trans rfl
    have q3 : W1.cell? ⟨b, 2, none⟩ = some (.map (some bm)) := (blk_cell (HS.out.below B01.out).s 2).trans rfl
    have HMS := Aside0.mk (show ∀ W', Below W1.heap.size W1 W' → (fun W' => W'.cell? ⟨b, 2, none⟩ = some (.map (some bm)) ∧ W'.cell? ⟨w.heap.size, 0, none⟩ = some (.int .i64 e.1) ∧ W'.cell? ⟨w.heap.size, 1, none⟩ = some (.int .i64 e.2.1) ∧ W'.cell? ⟨w.heap.size, 2, none⟩ = some (.int .i64 e.2.2) ∧ (Instr.lookup 222 (.map (some bm)) (.agg #[.int .i64 e.1, .int .i64 e.2.1, .int .i64 e.2.2]) false).run Try.prog W' = .ok (.agg #[.int .i64 k.rule, .int .i64 k.cost, .slice k.A k.over.length k.c]) W') W' from fun W' hb => ⟨pw_cell_below hb q3, pw_cell_below hb q0, pw_cell_below hb q1, pw_cell_below hb q2, edge_look (HS.out.below (below_step B01.out hb)).m E1.out E2.out HK.out (okK3_in hn HIN.out)⟩)
    refine wp_region_held_drew (S := (fun W' => W'.cell? ⟨b, 2, none⟩ = some (.map (some bm)) ∧ W'.cell? ⟨w.heap.size, 0, none⟩ = some (.int .i64 e.1) ∧ W'.cell? ⟨w.heap.size, 1, none⟩ = some (.int .i64 e.2.1) ∧ W'.cell? ⟨w.heap.size, 2, none⟩ = some (.int .i64 e.2.2) ∧ (Instr.lookup 222 (.map (some bm)) (.agg #[.int .i64 e.1, .int .i64 e.2.1, .int .i64 e.2.2]) false).run Try.prog W' = .ok (.agg #[.int .i64 k.rule, .int .i64 k.cost, .slice k.A k.over.length k.c]) W')) (by kernel_rfl) ?_ (fun hHeld => ?_)
    · (try dsimp only); (first | (refine HMS.out _ ?_; (repeat (first | exact Below.refl _ _ | apply below_drew1 | apply below_alloc)); done) | fail)
    refine wpAnyH_take (i := 0) (v := ?_) rfl (by kernel_rfl) (by kernel_rfl) (by kernel_rfl) (fun _ _ _ h => h) (Or.inl ⟨by kernel_rfl, ?_⟩) (by assumption) ?_
    rotate_left 1
    · intro w hSw; (try dsimp only at hSw); go_simp; (try with_reducible rfl)
    (try simp only [Act.put, List.getElem_toArray, List.getElem_cons_zero, List.getElem_cons_succ, List.setIfInBounds_toArray, List.set_cons_zero, List.set_cons_succ])
    refine wpAnyH_take (i := 1) (v := ?_) rfl (by kernel_rfl) (by kernel_rfl) (by kernel_rfl) (fun _ _ _ h => h) (Or.inl ⟨by kernel_rfl, ?_⟩) (by assumption) ?_
    rotate_left 1
    · intro w hSw; (try dsimp only at hSw); go_simp; (try with_reducible rfl)
    (try simp only [Act.put, List.getElem_toArray, List.getElem_cons_zero, List.getElem_cons_succ, List.setIfInBounds_toArray, List.set_cons_zero, List.set_cons_succ])
    refine wpAnyH_take (i := 2) (v := ?_) rfl (by kernel_rfl) (by kernel_rfl) (by kernel_rfl) (fun _ _ _ h => h) (Or.inl ⟨by kernel_rfl, ?_⟩) (by assumption) ?_
    rotate_left 1
    · intro w hSw; (try dsimp only at hSw); go_simp; (try with_reducible rfl)
    (try simp only [Act.put, List.getElem_toArray, List.getElem_cons_zero, List.getElem_cons_succ, List.setIfInBounds_toArray, List.set_cons_zero, List.set_cons_succ])
    refine wpAnyH_take (i := 3) (v := ?_) rfl (by kernel_rfl) (by kernel_rfl) (by kernel_rfl) (fun _ _ _ h => h) (Or.inl ⟨by kernel_rfl, ?_⟩) (by assumption) ?_
    rotate_left 1
    · intro w hSw; (try dsimp only at hSw); go_simp; (try with_reducible rfl)
    (try simp only [Act.put, List.getElem_toArray, List.getElem_cons_zero, List.getElem_cons_succ, List.setIfInBounds_toArray, List.set_cons_zero, List.set_cons_succ])
    refine wpAnyH_take (i := 4) (v := ?_) rfl (by kernel_rfl) (by kernel_rfl) (by kernel_rfl) (fun _ _ _ h => h) (Or.inl ⟨by kernel_rfl, ?_⟩) (by assumption) ?_
    rotate_left 1
    · intro w hSw; (try dsimp only at hSw); go_simp; (try with_reducible rfl)
    (try simp only [Act.put, List.getElem_toArray, List.getElem_cons_zero, List.getElem_cons_succ, List.setIfInBounds_toArray, List.set_cons_zero, List.set_cons_succ])
    refine wpAnyH_take (i := 5) (v := ?_) rfl (by kernel_rfl) (by kernel_rfl) (by kernel_rfl) (fun _ _ _ h => h) (Or.inl ⟨by kernel_rfl, ?_⟩) (by assumption) ?_
    rotate_left 1
    · intro w hSw; (try dsimp only at hSw); go_simp; (try with_reducible rfl)
    (try simp only [Act.put, List.getElem_toArray, List.getElem_cons_zero, List.getElem_cons_succ, List.setIfInBounds_toArray, List.set_cons_zero, List.set_cons_succ])
    refine wpAnyH_ready (rs := [6]) (by kernel_rfl) (by simp) ?_
    refine AllReadyH.cons rfl (fun K hK => ?_) AllReadyH.nil
    rw [if_pos (by kernel_rfl)]
    go_simp
    (try go_simp)
    refine hK.out _ _ ?_ (fun hHeld => ?_)
    · (try dsimp only); (first | (refine HMS.out _ ?_; (repeat (first | exact Below.refl _ _ | apply below_drew1 | apply below_alloc)); done) | fail)
    clear hK K
    (try simp only [Act.put, List.getElem_toArray, List.getElem_cons_zero, List.getElem_cons_succ, List.setIfInBounds_toArray, List.set_cons_zero, List.set_cons_succ])
    refine wpAnyH_ready (rs := [7]) (by kernel_rfl) (by simp) ?_
    refine AllReadyH.cons rfl (fun K hK => ?_) AllReadyH.nil
    rw [if_pos (by kernel_rfl)]
    go_simp
    (try go_simp)
    refine hK.out _ _ ?_ (fun hHeld => ?_)
    · (try dsimp only); (first | (refine HMS.out _ ?_; (repeat (first | exact Below.refl _ _ | apply below_drew1 | apply below_alloc)); done) | fail)
    clear hK K
    (try simp only [Act.put, List.getElem_toArray, List.getElem_cons_zero, List.getElem_cons_succ, List.setIfInBounds_toArray, List.set_cons_zero, List.set_cons_succ])
    refine wpAnyH_done (by kernel_rfl) ?_ _
    go_upto_region 2 with fail
    have B2 := Aside0.mk (show Below W1.heap.size W1 (W1.alloc (.cells #[.int .i64 k.rule, .int .i64 k.cost, .slice k.A k.over.length k.c] 226)).drew from below_drew1 (below_alloc (Below.refl _ _) _))
    have X7 := Aside0.mk (show (W1.alloc (.cells #[.int .i64 k.rule, .int .i64 k.cost, .slice k.A k.over.length k.c] 226)).drew.heap[W1.heap.size]? = some (.cells #[.int .i64 k.rule, .int .i64 k.cost, .slice k.A k.over.length k.c] 226 (0, 0)) from blk_new W1 _)
    obtain ⟨b7, hb7⟩ : ∃ b7, b7 = W1.heap.size := ⟨_, rfl⟩
    have HZ7 := Aside0.mk (show w.heap.size ≤ b7 from by rw [hb7]; exact B1.out.size)
    generalize (W1.alloc (.cells #[.int .i64 k.rule, .int .i64 k.cost, .slice k.A k.over.length k.c] 226)).drew = W2 at B2 X7 ⊢
    rw [← hb7] at X7 ⊢
    have BW := Aside0.mk (below_step B01.out B2.out)
    have BR := Aside0.mk (below_step B1.out B2.out)
    have q70 : W2.cell? ⟨b7, 0, none⟩ = some (.int .i64 k.rule) := (blk_cell X7.out 0).trans rfl
    have q72 : W2.cell? ⟨b7, 2, none⟩ = some (.slice k.A k.over.length k.c) := (blk_cell X7.out 2).trans rfl
    have z7 : b7 < W2.heap.size := blk_lt X7.out
    clear q0 q1 q2 q3 HMS hb7
    by_cases h0 : k.rule < 0
    · go_wp2
      go_ret
      exact ⟨_, out, rfl, by have := (HO.out.cost e k HK.out).1; omega, Kd.R_below HR.out BR.out, BW.out⟩
    · have HLE := Aside0.mk (told_less HO.out HK.out (by omega) (by have := HL.out; unfold endC; omega))
      go_wp2_with (at_builtin; refine Kd.R_append_row (w0 := W0) (Value.int .i64) 0 W0.heap.size rfl _ _ 22 3 (.int .i64 0) 8 rfl Try.underlying22 info_i4 rfl (by decide) _ out [k.rule] _ 1 1 (fun _ => True) rfl rfl (fun _ _ => trivial) (Kd.R_below HR.out (below_step BR.out (below_alloc (Below.refl _ _) _))) (lit_C (by go_simp)) (below_step BW.out (below_alloc (Below.refl _ _) _)) (below_step BW.out (below_alloc (Below.refl _ _) _)).size (by have := HL.out; omega) ?_; intro v4 w4 hown hb4 hgr hat; have O4 := Aside0.mk hown; have B4 := Aside0.mk hb4; have k72 : w4.cell? ⟨b7, 2, none⟩ = some (.slice k.A k.over.length k.c) := (blk_cell (blk_grown (blk_alloc X7.out _) hgr (fun h => by have := ((Kd.R_bound HR.out).1 b7 h.symm).2.2.1; have := HZ7.out; omega)) 2).trans rfl; clear hown hb4 hgr hat q70 q72)
      obtain ⟨KA, hKA⟩ : ∃ KA, KA = k.A := ⟨_, rfl⟩
      rw [← hKA] at HKO ⊢
      clear k72 X7 hKA
      have hbigk : k.over.length ≤ 9223372036854775807 := HKO.out.2.2.1
      go_loopg [2, 28] k.over.length (fun gg s2 s28 wr => ∃ (i : Nat) (out' : List Int) (v' : Value), v' = s2 ∧ i ≤ k.over.length ∧ k.over.length - i ≤ gg ∧ s28 = .int .i64 (i : Int) ∧ Aside0 ((out'.length : Int) ≤ out.length + 1 + sumC ws (k.over.take i)) ∧ Aside0 (Kd.R (Kd.int .i64) 3 wr W0.heap.size (fun _ => True) v' out') ∧ Aside0 (Below W0.heap.size W0 wr))
      case atStart => exact ⟨0, out ++ [k.rule], _, rfl, Nat.zero_le _, by omega, rfl, ⟨by simp [sumC]⟩, O4, B4⟩
      case round =>
        obtain ⟨i, out', v', rfl, hi, hgg, rfl, LL, OO, BB⟩ := hrel
        clear O4 B4
        by_cases hlt : i < k.over.length
        · have hltz : (i : Int) < (k.over.length : Int) := by omega
          obtain ⟨ad, e0, c1, c2, c3⟩ := ek_get (Kd.C_below HKO.out.2 BB.out) rfl hlt
          have HSM := Aside0.mk (show sumC ws (k.over.take (i + 1)) = sumC ws (k.over.take i) + costOf ws k.over[i] from by
            rw [List.take_succ_eq_append_getElem hlt, sumC_app]; simp [sumC])
          have HTL := Aside0.mk (show sumC ws (k.over.take (i + 1)) ≤ sumC ws k.over from by
            have := sumC_app ws (k.over.take (i + 1)) (k.over.drop (i + 1))
            rw [List.take_append_drop] at this
            have := sumC_nonneg HO.out (k.over.drop (i + 1))
            omega)
          have HTN := Aside0.mk (sumC_nonneg HO.out (k.over.take i))
          obtain ⟨ky, hky⟩ := Option.isSome_iff_exists.1 (HO.out.over e k HK.out k.over[i] (List.getElem_mem hlt))
          have HCY := Aside0.mk (show costOf ws k.over[i] = ky.cost from by unfold costOf; rw [hky]; rfl)
          have HCN := Aside0.mk (HO.out.cost _ _ hky).1
          have HKY := Aside0.mk hky
          clear hky
          generalize k.over[i] = y at c1 c2 c3 HSM HCY HKY
          have BA := Aside0.mk (below_alloc (Below.refl wr.heap.size wr) (.cells #[.int .i64 y.1, .int .i64 y.2.1, .int .i64 y.2.2] 140))
          have HCALL := Aside0.mk (IH.out ky.cost.toNat (by have := HL.out; have := HLE.out; have := HTL.out; have := HTN.out; have := HSM.out; have := HCY.out; have := HCN.out; omega) (by have := HL.out; have := HLE.out; have := HTL.out; have := HTN.out; have := HSM.out; have := HCY.out; have := HCN.out; omega) y ky _ v' out' HKY.out (by have := HCN.out; omega) (below_step BB.out BA.out) (Kd.R_below OO.out BA.out) (by have := LL.out; have := HL.out; have := HLE.out; have := HTL.out; have := HTN.out; have := HSM.out; have := HCY.out; have := HCN.out; omega))
          cases e0
          go_wp2_with (go_at_call 51; refine HCALL.out.mono ?_; rintro e' w5 ⟨v5, out5, rfl, hl5, ho5, hb5⟩; have L5 := Aside0.mk hl5; have O5 := Aside0.mk ho5; have B5 := Aside0.mk hb5; clear hl5 ho5 hb5)
          go_roundg (k.over.length - (i + 1))
          case measure => omega
          case rel => exact ⟨i + 1, out5, _, rfl, by omega, by omega, by go_num, ⟨by have := L5.out; have := LL.out; have := HSM.out; have := HCY.out; omega⟩, O5, B5⟩
        · have hie : i = k.over.length := by omega
          subst hie
          go_wp2
          go_ret
          exact ⟨_, out', rfl, by have := LL.out; rw [List.take_length] at this; have := HLE.out; omega, OO.out, BB.out⟩
end Go.Proofs.Ytampgoendkjkhaa.H

namespace Go.Proofs.Ytampgoendkjkhaa.H
open Go.RowKit Go.Maps Go.Shelf Go.Proofs.YtampgoendkjkhaaW.PrintWords
set_option linter.unusedVariables false
set_option linter.unusedSimpArgs false
structure Wv where
  to_ : Int
  cost : Int
  over : List Ek
def kWy : Kd Wv where
  sz := 3
  E := [140]
  K := fun w x cs => ∃ A c, cs = [.int .i64 x.to_, .int .i64 x.cost, .slice A x.over.length c] ∧ x.over.length ≤ c ∧ Kd.C kEk w A x.over.length x.over
  M := fun w base ok x cs => ∃ A c, cs = [.int .i64 x.to_, .int .i64 x.cost, .slice A x.over.length c] ∧ Kd.R kEk 140 w base ok (.slice A x.over.length c) x.over
  K_len := by rintro w x cs ⟨A, c, rfl, _⟩; rfl
  K_one := by
    rintro w x cs ⟨A, c, rfl, _⟩ u hu
    simp only [List.mem_cons, List.not_mem_nil, or_false] at hu
    rcases hu with rfl | rfl | rfl <;> rfl
  K_below := by
    rintro w w1 x cs hb ⟨A, c, rfl, h1, h2⟩
    exact ⟨A, c, rfl, h1, Kd.C_below h2 hb⟩
  K_of_M := by
    rintro w base ok x cs ⟨A, c, rfl, h⟩
    exact ⟨A, c, rfl, (Kd.R_reads' h).2.1, (Kd.R_reads' h).2.2⟩
  M_mono := by
    rintro w base ok ok' x cs hk ⟨A, c, rfl, h⟩
    exact ⟨A, c, rfl, Kd.R_mono h hk⟩
  M_bound := by
    rintro w base ok x cs ⟨A, c, rfl, h⟩
    exact ⟨A, c, rfl, Kd.R_mono (Kd.R_bound h) (fun k hk => ⟨hk.1, hk.2.1, hk.2.2.1, by
      obtain ⟨q, hq, hc⟩ := hk.2.2.2
      exact ⟨q, by simpa [kEk, kArr] using hq, hc⟩⟩)⟩
  M_move := by
    rintro w w1 base ok x cs hm ⟨A, c, rfl, h⟩
    exact ⟨A, c, rfl, Kd.R_move h hm⟩
  M_lower := by
    rintro w base base' ok x cs hb ⟨A, c, rfl, h⟩
    exact ⟨A, c, rfl, Kd.R_lower h hb⟩
theorem info_wy : (Try.prog.info? 137).map (fun i => (i.zero, i.size, i.bytes)) = some (some (.agg #[.int .i64 0, .int .i64 0, .slice none 0 0]), 3, 40) := by kernel_rfl
theorem wy_get {W : World} {A : Option Addr} {n : Nat} {xs : List Wv} (h : Kd.C kWy W A n xs) (hn : n = xs.length) {i : Nat} (hi : i < xs.length) :
    ∃ ad A1 c1, A = some ad ∧ xs[i].over.length ≤ c1 ∧ Kd.C kEk W A1 xs[i].over.length xs[i].over ∧ W.cell? (ad.add (i * 3)) = some (.int .i64 xs[i].to_) ∧ W.cell? ⟨(ad.add (i * 3)).block, (ad.add (i * 3)).off + 1, none⟩ = some (.int .i64 xs[i].cost) ∧ W.cell? ⟨(ad.add (i * 3)).block, (ad.add (i * 3)).off + 2, none⟩ = some (.slice A1 xs[i].over.length c1) := by
  subst hn
  obtain ⟨ad, c, e0, _, hK, hc0⟩ := Kd.C_get h xs[i] (i : Int) (by omega) (by omega)
  have hx : xs.getD ((i : Int).toNat) xs[i] = xs[i] := by simp [List.getD_eq_getElem?_getD, hi]
  rw [hx] at hK
  obtain ⟨A1, c1, rfl, h1, h3⟩ := hK
  have z0 := hc0 0 _ rfl
  have z1 := hc0 1 _ rfl
  have z2 := hc0 2 _ rfl
  rw [Int.toNat_natCast] at z0 z1 z2
  rw [show kWy.sz = 3 from rfl, ← Addr.add_add, add_pos _ (by omega)] at z1 z2
  exact ⟨ad, A1, c1, e0, h1, h3, z0, z1, z2⟩
end Go.Proofs.Ytampgoendkjkhaa.H

namespace Go.Proofs.Ytampgoendkjkhaa.H
set_option linter.unusedVariables false
set_option linter.unusedSimpArgs false
def EdE (ws : List (Ek × Kn)) : Int → Int → Int → Prop := fun p a q => (lkG ws (p, a, q)).isSome = true
/-- a way over edges that are known, at least as dear as they are, of i signs at most -/
structure GoodW (ws : List (Ek × Kn)) (i : Nat) (v : Wv) : Prop where
  over : ∀ x ∈ v.over, (lkG ws x).isSome = true
  lo : 0 ≤ v.cost
  hi : v.cost ≤ endC
  sum : min endC (sumC ws v.over) ≤ v.cost
  len : v.over.length ≤ i
  up : v.cost ≤ sumC ws v.over
theorem GoodW.nil (ws : List (Ek × Kn)) (i : Nat) (q : Int) : GoodW ws i ⟨q, 0, []⟩ := ⟨fun x hx => (by cases hx), Int.le_refl _, (show (0 : Int) ≤ endC from by decide), (show min endC 0 ≤ 0 from by decide), Nat.zero_le _, Int.le_refl _⟩
theorem GoodW.to {ws : List (Ek × Kn)} {i : Nat} {v : Wv} (h : GoodW ws i v) (q : Int) : GoodW ws i ⟨q, v.cost, v.over⟩ := ⟨h.over, h.lo, h.hi, h.sum, h.len, h.up⟩
theorem GoodW.more {ws : List (Ek × Kn)} {i j : Nat} {v : Wv} (h : GoodW ws i v) (hij : i ≤ j) : GoodW ws j v := ⟨h.over, h.lo, h.hi, h.sum, Nat.le_trans h.len hij, h.up⟩
theorem GoodW.ext {n m : Nat} {ws : List (Ek × Kn)} (hO : StOk n m ws) {i : Nat} {v : Wv} (h : GoodW ws i v) {e : Ek} {k : Kn} (hk : lkG ws e = some k) (q : Int) : GoodW ws (i + 1) ⟨q, min (v.cost + k.cost) endC, v.over ++ [e]⟩ where
  over := fun x hx => by
    rcases List.mem_append.1 hx with hx | hx
    · exact h.over x hx
    · obtain rfl := List.mem_singleton.1 hx
      rw [hk]; rfl
  lo := by have := h.lo; have := (hO.cost e k hk).1; have := h.hi; simp only []; unfold endC at *; omega
  hi := by simp only []; omega
  sum := by
    have h1 := h.sum
    have h2 := sumC_nonneg hO v.over
    have h3 := (hO.cost e k hk).1
    have h4 : sumC ws [e] = k.cost := by simp [sumC, costOf, hk]
    simp only []
    rw [sumC_app, h4]
    omega
  len := by simp only [List.length_append, List.length_singleton]; have := h.len; omega
  up := by
    have h1 := h.up
    have h4 : sumC ws [e] = k.cost := by simp [sumC, costOf, hk]
    simp only []
    rw [sumC_app, h4]
    omega
/-- the row of ways behind i signs -/
structure WaysL (ws : List (Ek × Kn)) (S : Int → Prop) (i : Nat) (lw : List Wv) : Prop where
  good : ∀ v ∈ lw, S v.to_ ∧ GoodW ws i v
  full : ∀ q, S q → ∃ v ∈ lw, v.to_ = q
/-- the best ways over one sign more, the pairs P having been looked at -/
structure BestL (ws : List (Ek × Kn)) (S : Int → Prop) (a : Int) (i : Nat) (P : Int → Int → Prop) (best : List (Int × Wv)) : Prop where
  good : ∀ q v, lkG best q = some v → stpS (EdE ws) S a q ∧ v.to_ = q ∧ GoodW ws (i + 1) v
  full : ∀ p q, P p q → EdE ws p a q → (lkG best q).isSome = true
theorem BestL.skip {ws : List (Ek × Kn)} {S : Int → Prop} {a : Int} {i : Nat} {P P' : Int → Int → Prop} {best : List (Int × Wv)} (h : BestL ws S a i P best) {p q : Int} (hP : ∀ p' q', P' p' q' → P p' q' ∨ p' = p ∧ q' = q) (hx : ¬ EdE ws p a q ∨ (lkG best q).isSome = true) : BestL ws S a i P' best where
  good := h.good
  full := fun p' q' hp he => by
    rcases hP p' q' hp with hp | ⟨rfl, rfl⟩
    · exact h.full p' q' hp he
    · rcases hx with hx | hx
      · exact absurd he hx
      · exact hx
theorem BestL.put {ws : List (Ek × Kn)} {S : Int → Prop} {a : Int} {i : Nat} {P P' : Int → Int → Prop} {best : List (Int × Wv)} (h : BestL ws S a i P best) {p q : Int} (hP : ∀ p' q', P' p' q' → P p' q' ∨ p' = p ∧ q' = q) {v : Wv} (hs : stpS (EdE ws) S a q) (ht : v.to_ = q) (hg : GoodW ws (i + 1) v) : BestL ws S a i P' (putG best q v) where
  good := fun j u hj => by
    rw [lkG_put] at hj
    split at hj
    · rename_i e; subst e
      obtain rfl := Option.some.inj hj
      exact ⟨hs, ht, hg⟩
    · exact h.good j u hj
  full := fun p' q' hp he => by
    rw [lkG_put]
    split
    · rfl
    · rename_i hne
      rcases hP p' q' hp with hp | ⟨_, rfl⟩
      · exact h.full p' q' hp he
      · exact absurd rfl hne
/-- all pairs looked at: the best ways are those over one sign more -/
theorem BestL.all {ws : List (Ek × Kn)} {S : Int → Prop} {a : Int} {i : Nat} {P : Int → Int → Prop} {best : List (Int × Wv)} (h : BestL ws S a i P best) (hP : ∀ p q, S p → EdE ws p a q → P p q) (q : Int) : stpS (EdE ws) S a q ↔ (lkG best q).isSome = true :=
  ⟨fun ⟨p, hp, he⟩ => h.full p q (hP p q hp he) he, fun hq => by
    obtain ⟨v, hv⟩ := Option.isSome_iff_exists.1 hq
    exact (h.good q v hv).1⟩
/-- the start: one way, and the goal's own end -/
theorem WaysL.start (ws : List (Ek × Kn)) (ge : Bool) (gc last fr : Int) (lw : List Wv) (h : lw = [⟨fr, 0, []⟩] ∧ ¬ (ge = true ∧ fr = gc) ∨ lw = [⟨fr, 0, []⟩, ⟨last, 0, []⟩] ∧ ge = true ∧ fr = gc) : WaysL ws (cloS ge gc last (· = fr)) 0 lw := by
  rcases h with ⟨rfl, hn⟩ | ⟨rfl, h1, h2⟩
  · refine ⟨fun v hv => ?_, fun q hq => ?_⟩
    · obtain rfl := List.mem_singleton.1 hv
      exact ⟨.inl rfl, GoodW.nil ws 0 fr⟩
    · rcases hq with rfl | ⟨a, b, _⟩
      · exact ⟨_, List.mem_singleton.2 rfl, rfl⟩
      · exact absurd ⟨a, b.symm⟩ hn
  · refine ⟨fun v hv => ?_, fun q hq => ?_⟩
    · rcases List.mem_cons.1 hv with rfl | hv
      · exact ⟨.inl rfl, GoodW.nil ws 0 fr⟩
      · obtain rfl := List.mem_singleton.1 hv
        exact ⟨.inr ⟨h1, h2.symm, rfl⟩, GoodW.nil ws 0 last⟩
    · rcases hq with rfl | ⟨_, _, rfl⟩
      · exact ⟨_, List.mem_cons_self .., rfl⟩
      · exact ⟨_, List.mem_cons_of_mem _ (List.mem_singleton.2 rfl), rfl⟩
/-- gathering: of the states below j all best ways have come into the row -/
structure CollL (ws : List (Ek × Kn)) (ge : Bool) (gc last : Int) (T : Int → Prop) (i : Nat) (j : Nat) (lw : List Wv) : Prop where
  good : ∀ v ∈ lw, cloS ge gc last T v.to_ ∧ GoodW ws i v
  full : ∀ q : Int, 0 ≤ q → q < (j : Int) → T q → ∃ v ∈ lw, v.to_ = q
  last : ge = true → T gc → 0 ≤ gc → gc < (j : Int) → ∃ v ∈ lw, v.to_ = last
theorem CollL.start (ws : List (Ek × Kn)) (ge : Bool) (gc last : Int) (T : Int → Prop) (i : Nat) : CollL ws ge gc last T i 0 [] :=
  ⟨fun v hv => (by cases hv), fun q h0 h1 _ => absurd h1 (by omega), fun _ _ h0 h1 => absurd h1 (by omega)⟩
theorem CollL.skip {ws : List (Ek × Kn)} {ge : Bool} {gc last : Int} {T : Int → Prop} {i j : Nat} {lw : List Wv} (h : CollL ws ge gc last T i j lw) (hn : ¬ T (j : Int)) : CollL ws ge gc last T i (j + 1) lw :=
  ⟨h.good, fun q h0 h1 hq => by
    by_cases e : q = (j : Int)
    · subst e; exact absurd hq hn
    · exact h.full q h0 (by omega) hq, fun a hq h0 h1 => by
    by_cases e : gc = (j : Int)
    · subst e; exact absurd hq hn
    · exact h.last a hq h0 (by omega)⟩
theorem CollL.one {ws : List (Ek × Kn)} {ge : Bool} {gc last : Int} {T : Int → Prop} {i j : Nat} {lw : List Wv} (h : CollL ws ge gc last T i j lw) {v : Wv} (hT : T (j : Int)) (ht : v.to_ = (j : Int)) (hg : GoodW ws i v) (hn : ¬ (ge = true ∧ gc = (j : Int))) : CollL ws ge gc last T i (j + 1) (lw ++ [v]) :=
  ⟨fun u hu => by
    rcases List.mem_append.1 hu with hu | hu
    · exact h.good u hu
    · obtain rfl := List.mem_singleton.1 hu
      exact ⟨.inl (by rw [ht]; exact hT), hg⟩, fun q h0 h1 hq => by
    by_cases e : q = (j : Int)
    · exact ⟨v, List.mem_append.2 (.inr (List.mem_singleton.2 rfl)), ht.trans e.symm⟩
    · obtain ⟨u, hu, he⟩ := h.full q h0 (by omega) hq
      exact ⟨u, List.mem_append.2 (.inl hu), he⟩, fun a hq h0 h1 => by
    by_cases e : gc = (j : Int)
    · exact absurd ⟨a, e⟩ hn
    · obtain ⟨u, hu, he⟩ := h.last a hq h0 (by omega)
      exact ⟨u, List.mem_append.2 (.inl hu), he⟩⟩
theorem CollL.two {ws : List (Ek × Kn)} {ge : Bool} {gc last : Int} {T : Int → Prop} {i j : Nat} {lw : List Wv} (h : CollL ws ge gc last T i j lw) {v : Wv} (hT : T (j : Int)) (ht : v.to_ = (j : Int)) (hg : GoodW ws i v) (hge : ge = true) (hgc : gc = (j : Int)) : CollL ws ge gc last T i (j + 1) (lw ++ [v] ++ [⟨last, v.cost, v.over⟩]) :=
  ⟨fun u hu => by
    rcases List.mem_append.1 hu with hu | hu
    · rcases List.mem_append.1 hu with hu | hu
      · exact h.good u hu
      · obtain rfl := List.mem_singleton.1 hu
        exact ⟨.inl (by rw [ht]; exact hT), hg⟩
    · obtain rfl := List.mem_singleton.1 hu
      exact ⟨.inr ⟨hge, by rw [hgc]; exact hT, rfl⟩, hg.to last⟩, fun q h0 h1 hq => by
    by_cases e : q = (j : Int)
    · exact ⟨v, List.mem_append.2 (.inl (List.mem_append.2 (.inr (List.mem_singleton.2 rfl)))), ht.trans e.symm⟩
    · obtain ⟨u, hu, he⟩ := h.full q h0 (by omega) hq
      exact ⟨u, List.mem_append.2 (.inl (List.mem_append.2 (.inl hu))), he⟩, fun _ _ _ _ => ⟨_, List.mem_append.2 (.inr (List.mem_singleton.2 rfl)), rfl⟩⟩
/-- all states gathered: the row behind one sign more -/
theorem CollL.all {n m : Nat} {ws : List (Ek × Kn)} (hO : StOk n m ws) {ge : Bool} {gc last a : Int} {S : Int → Prop} {i : Nat} {lw : List Wv} (h : CollL ws ge gc last (stpS (EdE ws) S a) i n lw) : WaysL ws (cloS ge gc last (stpS (EdE ws) S a)) i lw := by
  have hin : ∀ q, stpS (EdE ws) S a q → 0 ≤ q ∧ q < (n : Int) := fun q ⟨p, _, he⟩ => by
    obtain ⟨k, hk⟩ := Option.isSome_iff_exists.1 he
    exact (hO.key _ _ hk).2.2
  refine ⟨h.good, fun q hq => ?_⟩
  rcases hq with hq | ⟨h1, h2, rfl⟩
  · exact h.full q (hin q hq).1 (hin q hq).2 hq
  · exact h.last h1 h2 (hin gc h2).1 (hin gc h2).2
end Go.Proofs.Ytampgoendkjkhaa.H

namespace Go.Proofs.Ytampgoendkjkhaa.H
open Go.RowKit Go.Maps Go.Shelf Go.Proofs.YtampgoendkjkhaaW.PrintWords
set_option linter.unusedVariables false
set_option linter.unusedSimpArgs false
/-! ### lists of pairs, their values turned -/
section
variable {κ ν μ : Type} [DecidableEq κ]
def mapV (f : ν → μ) (ws : List (κ × ν)) : List (κ × μ) := ws.map fun p => (p.1, f p.2)
theorem lkG_mapV (f : ν → μ) (ws : List (κ × ν)) (k : κ) : lkG (mapV f ws) k = (lkG ws k).map f := by
  unfold lkG mapV
  rw [List.find?_map]
  cases h : ws.find? ((fun p : κ × μ => decide (p.1 = k)) ∘ fun p : κ × ν => (p.1, f p.2)) with
  | none =>
    have : ws.find? (fun p => decide (p.1 = k)) = none := h
    rw [this]; rfl
  | some p =>
    have : ws.find? (fun p => decide (p.1 = k)) = some p := h
    rw [this]; rfl
theorem putG_mapV (f : ν → μ) (ws : List (κ × ν)) (k : κ) (v : ν) : putG (mapV f ws) k (f v) = mapV f (putG ws k v) := by
  unfold putG
  rw [lkG_mapV, Option.isSome_map]
  by_cases h : (lkG ws k).isSome = true
  · rw [if_pos h, if_pos h]
    unfold mapV
    rw [List.map_map, List.map_map]
    refine List.map_congr_left fun p hp => ?_
    by_cases e : p.1 = k <;> simp [e]
  · rw [if_neg h, if_neg h]
    unfold mapV
    rw [List.map_append]
    rfl
end
/-- a best way: the way, its slice -/
structure Bv where
  w : Wv
  A : Option Addr
  c : Nat
def encB (v : Bv) : Value := .agg #[.int .i64 v.w.to_, .int .i64 v.w.cost, .slice v.A v.w.over.length v.c]
def b0V : Bv := ⟨⟨0, 0, []⟩, none, 0⟩
def bestOf (bs : List (Int × Bv)) : List (Int × Wv) := mapV (fun v : Bv => v.w) bs
theorem lk_best (bs : List (Int × Bv)) (q : Int) : lkG (bestOf bs) q = (lkG bs q).map (·.w) := lkG_mapV (fun v : Bv => v.w) bs q
theorem put_best (bs : List (Int × Bv)) (q : Int) (v : Bv) : putG (bestOf bs) q v.w = bestOf (putG bs q v) := putG_mapV (fun v : Bv => v.w) bs q v
theorem lk_kvB (bs : List (Int × Bv)) (q : Int) : lk (mapV encB bs) q = (lkG bs q).map encB := lkG_mapV encB bs q
theorem put_kvB (bs : List (Int × Bv)) (q : Int) (v : Bv) : put (mapV encB bs) q (encB v) = mapV encB (putG bs q v) := putG_mapV encB bs q v
theorem zeroWy (W : World) : (zeroValue 137).run Try.prog W = .ok (encB b0V) W := by kernel_rfl
/-- in memory: the map, its ways' slices in blocks of the call's own, below u -/
structure BmM (W : World) (bb base u : Nat) (bs : List (Int × Bv)) : Prop where
  map : MapK (intKey Try.prog 3 Try.underlying3) W bb (mapV encB bs)
  ov : ∀ q v, lkG bs q = some v → Kd.R kEk 140 W base (fun k => k < u) (.slice v.A v.w.over.length v.c) v.w.over
  hi : u ≤ W.heap.size
section
variable {W W' : World} {bb base u u' : Nat} {bs : List (Int × Bv)}
theorem BmM.below (h : BmM W bb base u bs) (hb : Below W.heap.size W W') : BmM W' bb base u bs := ⟨h.map.below hb, fun q v hv => Kd.R_below (h.ov q v hv) hb, Nat.le_trans h.hi hb.size⟩
theorem BmM.raise (h : BmM W bb base u bs) (h1 : u ≤ u') (h2 : u' ≤ W.heap.size) : BmM W bb base u' bs := ⟨h.map, fun q v hv => Kd.R_mono (h.ov q v hv) (fun k hk => Nat.lt_of_lt_of_le hk h1), h2⟩
theorem BmM.top (h : BmM W bb base u bs) (hb : Below W.heap.size W W') : BmM W' bb base W'.heap.size bs := (h.below hb).raise (Nat.le_trans h.hi hb.size) (Nat.le_refl _)
theorem BmM.made (W : World) (base : Nat) : BmM (W.alloc (.map #[] 0)) W.heap.size base (W.heap.size + 1) [] := ⟨mapK_made _ W, fun q v hv => (by cases hv), by simp⟩
/-- what grows one row of our own leaves the map, where that row is not the map's and no way's -/
theorem BmM.grown (h : BmM W bb base u bs) {row : Option Nat} (hg : W.grownBy W' row) (hr : ∀ k, row = some k → u ≤ k) (hbb : bb < u) : BmM W' bb base u bs where
  map := h.map.keep (hg.block bb h.map.lt (fun e => by have := hr bb e.symm; omega))
  ov := fun q v hv => Kd.R_step (h.ov q v hv) (fun k hk hl => hg.block k hl (fun e => by have := hr k e.symm; omega))
  hi := Nat.le_trans h.hi hg.size
/-- a map's block holds no cells -/
theorem BmM.ne (h : BmM W bb base u bs) {k : Nat} {cs : Array Value} {t : Nat} {m : Nat × Nat} (hk : W.heap[k]? = some (.cells cs t m)) : k ≠ bb := by
  rintro rfl
  obtain ⟨⟨es, c, h1, _⟩, _⟩ := h.map
  rw [h1] at hk
  injection hk with hk
  cases hk
theorem R_turned {W W' : World} {base bb : Nat} {ok : Nat → Prop} {v : Value} {xs : List Ek} (h : Kd.R kEk 140 W base ok v xs) (ht : Turned bb W W') (hm : ∃ es c, W.heap[bb]? = some (.map es c)) : Kd.R kEk 140 W' base ok v xs := by
  refine Kd.R_mono (Kd.R_step (Kd.R_bound h) (fun k hk _ => ht.block k ?_)) (fun _ hk => hk.1)
  rintro rfl
  obtain ⟨_, _, _, q, _, cs, hc⟩ := hk
  obtain ⟨es, c, hm⟩ := hm
  rw [hm] at hc
  injection hc with hc
  cases hc
theorem MapK.isMap {P : Program} {t : TypeId} {κ : Type} [DecidableEq κ] {E : KeyE P t κ} {W : World} {b : Nat} {kvs : List (κ × Value)} (h : MapK E W b kvs) : ∃ es c, W.heap[b]? = some (.map es c) := by
  obtain ⟨⟨es, c, h1, _⟩, _⟩ := h
  exact ⟨es, c, h1⟩
/-- a best way comes into the map -/
theorem BmM.put (h : BmM W bb base u bs) {q : Int} {v : Bv} (hv : Kd.R kEk 140 W base (fun k => k < u) (.slice v.A v.w.over.length v.c) v.w.over) (hM : MapK (intKey Try.prog 3 Try.underlying3) W' bb (put (mapV encB bs) q (encB v))) (ht : Turned bb W W') : BmM W' bb base u (putG bs q v) where
  map := by rw [← put_kvB]; exact hM
  ov := fun j x hj => by
    rw [lkG_put] at hj
    split at hj
    · obtain rfl := Option.some.inj hj
      exact R_turned hv ht h.map.isMap
    · exact R_turned (h.ov j x hj) ht h.map.isMap
  hi := by rw [ht.size]; exact h.hi
/-- 'w, ok := best[to]' -/
theorem best_look (h : BmM W bb base u bs) (q : Int) (hq : -9223372036854775808 ≤ q ∧ q ≤ 9223372036854775807) :
    (Instr.lookup 228 (.map (some bb)) (.int .i64 q) true).run Try.prog W = .ok (.tuple #[encB ((lkG bs q).getD b0V), .bool (lkG bs q).isSome]) W := by
  have g := h.map.look q hq Try.underlying228 (zeroWy W) true
  rw [lk_kvB] at g
  cases hl : lkG bs q with
  | none => rw [hl] at g; exact g
  | some v => rw [hl] at g; exact g
end
/-! ### appending a way -/
section
variable {ops : Array Oper} {rest : List Oper} {o : Oper} {a : Act} {Q : Exit → Act → World → Prop} {Kc : Act → World → Prop}
theorem wy_push {w0 W : World} (base : Nat) (s x : Operand) (hgd : o.guard = none) (ho : o.op = .call { callee := .builtin .append, args := #[s, x], argTypes := #[133, 133] })
    (v : Value) (xs : List Wv) (p : Wv) (A : Option Addr) (c n : Nat) (okp : Nat → Prop) (hn : n = p.over.length) (hs : a.eval s = v) (hx : a.eval x = .slice (some ⟨W.heap.size, 0, none⟩) 1 1) (HP : Kd.R kEk 140 W base okp (.slice A p.over.length c) p.over) (hokp : ∀ k, okp k → some k ≠ v.ownBlock)
    (HO : Kd.R kWy 137 W base (fun _ => True) v xs) (HB : Below base w0 W) (hb : base ≤ W.heap.size) (hl : xs.length < 1000)
    (h : ∀ A1 c1 w1, Kd.R kWy 137 w1 base (fun _ => True) (.slice A1 (xs.length + 1) c1) (xs ++ [p]) → Below base w0 w1 → W.grownBy w1 v.ownBlock → ((Value.slice A1 (xs.length + 1) c1).ownBlock = v.ownBlock ∨ ∃ b, (Value.slice A1 (xs.length + 1) c1).ownBlock = some b ∧ W.heap.size ≤ b) → wpList Try.prog ops Q rest (a.put o.dst (.slice A1 (xs.length + 1) c1)) w1) :
    wpList Try.prog ops Q (o :: rest) a (W.alloc (.cells #[.int .i64 p.to_, .int .i64 p.cost, .slice A n c] 137)) := by
  subst hn
  refine Kd.R_append kWy (w0 := w0) base hgd s x 133 137 (.agg #[.int .i64 0, .int .i64 0, .slice none 0 0]) 40 ho Try.underlying133 info_wy rfl (by decide) (by decide) v xs p [.int .i64 p.to_, .int .i64 p.cost, .slice A p.over.length c] (fun _ => True) okp hs hx ⟨A, c, rfl, HP⟩ (fun k hk => ⟨trivial, hokp k hk⟩) (fun _ _ => trivial) HO HB hb (by omega) ?_
  intro v1 w1 h1 h2 h3 h4
  obtain ⟨A1, c1, rfl⟩ := Kd.R_slice h1
  rw [show (xs ++ [p]).length = xs.length + 1 from by simp] at h1 h4 ⊢
  exact h A1 c1 w1 h1 h2 h3 h4
theorem wy_push_step {w0 W : World} (base : Nat) (s x : Operand) (hw : Region.wanted o (yielded ops a.tmps) = true) (ho : o.op = .call { callee := .builtin .append, args := #[s, x], argTypes := #[133, 133] })
    (v : Value) (xs : List Wv) (p : Wv) (A : Option Addr) (c n : Nat) (okp : Nat → Prop) (hn : n = p.over.length) (hs : a.eval s = v) (hx : a.eval x = .slice (some ⟨W.heap.size, 0, none⟩) 1 1) (HP : Kd.R kEk 140 W base okp (.slice A p.over.length c) p.over) (hokp : ∀ k, okp k → some k ≠ v.ownBlock)
    (HO : Kd.R kWy 137 W base (fun _ => True) v xs) (HB : Below base w0 W) (hb : base ≤ W.heap.size) (hl : xs.length < 1000)
    (h : ∀ A1 c1 w1, Kd.R kWy 137 w1 base (fun _ => True) (.slice A1 (xs.length + 1) c1) (xs ++ [p]) → Below base w0 w1 → W.grownBy w1 v.ownBlock → ((Value.slice A1 (xs.length + 1) c1).ownBlock = v.ownBlock ∨ ∃ b, (Value.slice A1 (xs.length + 1) c1).ownBlock = some b ∧ W.heap.size ≤ b) → Kc (a.put o.dst (.slice A1 (xs.length + 1) c1)) w1) :
    if Region.wanted o (yielded ops a.tmps) = true then Oper.wp Try.prog o a (W.alloc (.cells #[.int .i64 p.to_, .int .i64 p.cost, .slice A n c] 137)) Kc Q else Kc (a.put o.dst undef) (W.alloc (.cells #[.int .i64 p.to_, .int .i64 p.cost, .slice A n c] 137)) := by
  subst hn
  refine Kd.R_append_step kWy (w0 := w0) base hw s x 133 137 (.agg #[.int .i64 0, .int .i64 0, .slice none 0 0]) 40 ho Try.underlying133 info_wy rfl (by decide) (by decide) v xs p [.int .i64 p.to_, .int .i64 p.cost, .slice A p.over.length c] (fun _ => True) okp hs hx ⟨A, c, rfl, HP⟩ (fun k hk => ⟨trivial, hokp k hk⟩) (fun _ _ => trivial) HO HB hb (by omega) ?_
  intro v1 w1 h1 h2 h3 h4
  obtain ⟨A1, c1, rfl⟩ := Kd.R_slice h1
  rw [show (xs ++ [p]).length = xs.length + 1 from by simp] at h1 h4 ⊢
  exact h A1 c1 w1 h1 h2 h3 h4
end
/-- a row of one way without edges, as a literal makes it -/
theorem wy_lit (W : World) (q : Int) : Kd.R kWy 137 (W.alloc (.cells #[.int .i64 q, .int .i64 0, .slice none 0 0] 137)) W.heap.size (fun _ => True) (.slice (some ⟨W.heap.size, 0, none⟩) 1 1) [⟨q, 0, []⟩] :=
  ⟨fun _ _ => trivial, OwnRow.lit W W.heap.size (ps := [(⟨q, 0, []⟩ : Wv)]) (inner := [.int .i64 q, .int .i64 0, .slice none 0 0]) ⟨rfl, fun j p hj => by
    match j, hj with
    | 0, hj =>
      obtain rfl : (⟨q, 0, []⟩ : Wv) = p := by simpa using hj
      exact ⟨none, 0, rfl, Kd.R_nil _ _ _ _ _⟩⟩ (Nat.le_refl _) (by simp)⟩
/-! ### best ways, the pairs looked at told by places -/
theorem BestL.imp {ws : List (Ek × Kn)} {S : Int → Prop} {a : Int} {i : Nat} {P P' : Int → Int → Prop} {best : List (Int × Wv)} (h : BestL ws S a i P best) (hP : ∀ p q, P' p q → EdE ws p a q → P p q) : BestL ws S a i P' best := ⟨h.good, fun p q hp he => h.full p q (hP p q hp he) he⟩
/-- the pairs looked at: the ways ahead of place j with all states, that at j with the states below t -/
def LookP (lw : List Wv) (j t : Nat) (p q : Int) : Prop := (∃ j', ∃ h : j' < lw.length, j' < j ∧ lw[j'].to_ = p) ∨ (∃ h : j < lw.length, lw[j].to_ = p ∧ 0 ≤ q ∧ q < (t : Int))
theorem LookP.step {lw : List Wv} {j t : Nat} (hj : j < lw.length) {p q : Int} (h : LookP lw j (t + 1) p q) : LookP lw j t p q ∨ p = lw[j].to_ ∧ q = (t : Int) := by
  rcases h with h | ⟨_, h1, h2, h3⟩
  · exact .inl (.inl h)
  · by_cases e : q = (t : Int)
    · exact .inr ⟨h1.symm, e⟩
    · exact .inl (.inr ⟨hj, h1, h2, by omega⟩)
theorem LookP.next {lw : List Wv} {j n : Nat} (hj : j < lw.length) {p q : Int} (h : LookP lw (j + 1) 0 p q) (hq : 0 ≤ q ∧ q < (n : Int)) : LookP lw j n p q := by
  rcases h with ⟨j', h1, h2, h3⟩ | ⟨_, _, _, h3⟩
  · by_cases e : j' = j
    · subst e; exact .inr ⟨h1, h3, hq.1, hq.2⟩
    · exact .inl ⟨j', h1, by omega, h3⟩
  · omega
theorem LookP.all {lw : List Wv} {p : Int} (h : ∃ v ∈ lw, v.to_ = p) (q : Int) : LookP lw lw.length 0 p q := by
  obtain ⟨v, hv, rfl⟩ := h
  obtain ⟨j, hj, rfl⟩ := List.getElem_of_mem hv
  exact .inl ⟨j, hj, hj, rfl⟩
theorem BestL.start (ws : List (Ek × Kn)) (S : Int → Prop) (a : Int) (i : Nat) (lw : List Wv) : BestL ws S a i (LookP lw 0 0) (bestOf []) :=
  ⟨fun q v h => (by cases h), fun p q h _ => by
    rcases h with ⟨_, _, h, _⟩ | ⟨_, _, h1, h2⟩
    · exact absurd h (Nat.not_lt_zero _)
    · omega⟩
/-! ### reading: no allocation, no map change hurts -/
theorem C_ek_cells {W W' : World} {A : Option Addr} {n : Nat} {xs : List Ek} (h : Kd.C kEk W A n xs) (hc : ∀ p v, W.cell? p = some v → W'.cell? p = some v) : Kd.C kEk W' A n xs := by
  refine ⟨h.1, h.2.1, fun hn => ?_⟩
  obtain ⟨ad, e, g⟩ := h.2.2 hn
  refine ⟨ad, e, fun j p hj => ?_⟩
  obtain ⟨cs, h1, h2, h3⟩ := g j p hj
  exact ⟨cs, h1, h2, fun i u hu => hc _ _ (h3 i u hu)⟩
theorem cells_turned {W W' : World} {b : Nat} (ht : Turned b W W') (hm : ∃ es c, W.heap[b]? = some (.map es c)) (p : Addr) (v : Value) (h : W.cell? p = some v) : W'.cell? p = some v := by
  obtain ⟨es, c, hm⟩ := hm
  by_cases e : p.block = b
  · exfalso
    simp [World.cell?, e, hm] at h
  · have := ht.block p.block e
    rw [← h]
    simp [World.cell?, this]
end Go.Proofs.Ytampgoendkjkhaa.H

namespace Go.Proofs.Ytampgoendkjkhaa.H
open Go.RowKit Go.Maps Go.Shelf Go.Proofs.YtampgoendkjkhaaW.PrintWords
set_option linter.unusedVariables false
set_option linter.unusedSimpArgs false
def set3 (W : World) (g : Nat) (x0 x1 x2 : Value) : World := ((W.setCell ⟨g, 0, none⟩ x0).setCell ⟨g, 1, none⟩ x1).setCell ⟨g, 2, none⟩ x2
theorem blk3 {W : World} {b : Nat} {t : TypeId} {y0 y1 y2 : Value} (h : W.heap[b]? = some (.cells #[y0, y1, y2] t (0, 0))) (x0 x1 x2 : Value) : (set3 W b x0 x1 x2).heap[b]? = some (.cells #[x0, x1, x2] t (0, 0)) :=
  blk_set (blk_set (blk_set h 0 x0) 1 x1) 2 x2
theorem turned3 (W : World) (b : Nat) (x0 x1 x2 : Value) : Turned b W (set3 W b x0 x1 x2) :=
  turned_trans (turned_trans (turned_set W ⟨b, 0, none⟩ x0) (turned_set _ ⟨b, 1, none⟩ x1)) (turned_set _ ⟨b, 2, none⟩ x2)
/-- what has been made so far: the edges' slice (rc), the literal's block (lb), the way's own block (bx) -/
structure P17 (Wb W : World) (over : List Ek) (x y z : Int) (rc : Option (Option Addr × Nat)) (lb bx : Option Nat) : Prop where
  b : Below Wb.heap.size Wb W
  r : ∀ A c, rc = some (A, c) → Kd.R kEk 140 W Wb.heap.size (fun _ => True) (.slice A over.length c) over
  l : ∀ k, lb = some k → Wb.heap.size ≤ k ∧ W.heap[k]? = some (.cells #[.int .i64 x, .int .i64 y, .int .i64 z] 140 (0, 0))
  x : ∀ k, bx = some k → Wb.heap.size ≤ k ∧ W.heap[k]? = some (.cells #[.int .i64 0, .int .i64 0, .slice none 0 0] 137 (0, 0))
theorem P17.start (W : World) (over : List Ek) (x y z : Int) : P17 W W over x y z none none none := ⟨Below.refl _ _, fun _ _ h => (by cases h), fun _ h => (by cases h), fun _ h => (by cases h)⟩
section
variable {Wb W W' : World} {over : List Ek} {x y z : Int} {rc : Option (Option Addr × Nat)} {lb bx : Option Nat}
theorem P17.move (h : P17 Wb W over x y z rc lb bx) (hb : Below W.heap.size W W') : P17 Wb W' over x y z rc lb bx :=
  ⟨below_step h.b hb, fun A c q => Kd.R_below (h.r A c q) hb, fun k q => ⟨(h.l k q).1, blk_below (h.l k q).2 hb⟩, fun k q => ⟨(h.x k q).1, blk_below (h.x k q).2 hb⟩⟩
theorem P17.drew (h : P17 Wb W over x y z rc lb bx) : P17 Wb W.drew over x y z rc lb bx := h.move (below_drew1 (Below.refl _ _))
theorem P17.clone (h : P17 Wb W over x y z none lb bx) {A : Option Addr} {c : Nat} (hR : Kd.R kEk 140 W' W.heap.size (fun _ => True) (.slice A over.length c) over) (hb : Below W.heap.size W W') : P17 Wb W' over x y z (some (A, c)) lb bx :=
  ⟨below_step h.b hb, fun B d q => by
    obtain ⟨rfl, rfl⟩ := Prod.mk.inj (Option.some.inj q)
    exact Kd.R_lower hR h.b.size, fun k q => ⟨(h.l k q).1, blk_below (h.l k q).2 hb⟩, fun k q => ⟨(h.x k q).1, blk_below (h.x k q).2 hb⟩⟩
theorem P17.lit (h : P17 Wb W over x y z rc none bx) : P17 Wb (W.alloc (.cells #[.int .i64 x, .int .i64 y, .int .i64 z] 140)) over x y z rc (some W.heap.size) bx :=
  have g := h.move (below_alloc (Below.refl W.heap.size W) (.cells #[.int .i64 x, .int .i64 y, .int .i64 z] 140))
  ⟨g.b, g.r, fun k q => by
    obtain rfl := Option.some.inj q
    exact ⟨h.b.size, blk_new W _⟩, g.x⟩
theorem P17.box (h : P17 Wb W over x y z rc lb none) : P17 Wb (W.alloc (.cells #[.int .i64 0, .int .i64 0, .slice none 0 0] 137)) over x y z rc lb (some W.heap.size) :=
  have g := h.move (below_alloc (Below.refl W.heap.size W) (.cells #[.int .i64 0, .int .i64 0, .slice none 0 0] 137))
  ⟨g.b, g.r, g.l, fun k q => by
    obtain rfl := Option.some.inj q
    exact ⟨h.b.size, blk_new W _⟩⟩
theorem P17.row {lb' : Nat} (h : P17 Wb W over x y z rc (some lb') bx) : Kd.C kEk W (some ⟨lb', 0, none⟩) 1 [(x, y, z)] :=
  have g := (h.l lb' rfl).2
  lit_ek ((blk_cell g 0).trans rfl) ((blk_cell g 1).trans rfl) ((blk_cell g 2).trans rfl)
theorem P17.push {A A' : Option Addr} {c c' : Nat} (h : P17 Wb W over x y z (some (A, c)) lb bx) (hR : Kd.R kEk 140 W' Wb.heap.size (fun _ => True) (.slice A' (over ++ [(x, y, z)]).length c') (over ++ [(x, y, z)])) (hb : Below Wb.heap.size Wb W') (hg : W.grownBy W' (Value.slice A over.length c).ownBlock) : P17 Wb W' (over ++ [(x, y, z)]) x y z (some (A', c')) none bx :=
  ⟨hb, fun B d q => by
    obtain ⟨rfl, rfl⟩ := Prod.mk.inj (Option.some.inj q)
    exact hR, fun k q => (by cases q), fun k q => ⟨(h.x k q).1, blk_grown (h.x k q).2 hg (fun hk => by
      obtain ⟨_, _, _, t, ht, cs, hc⟩ := (Kd.R_bound (h.r A c rfl)).1 k hk.symm
      rw [(h.x k q).2] at hc
      injection hc with hc
      injection hc with h1 h2 h3
      subst h2
      revert ht
      decide)⟩⟩
/-- the way lies in its block -/
structure W17 (Wb W : World) (base : Nat) (v : Wv) (b17 : Nat) (A : Option Addr) (c : Nat) : Prop where
  b : Below Wb.heap.size Wb W
  x : W.heap[b17]? = some (.cells #[.int .i64 v.to_, .int .i64 v.cost, .slice A v.over.length c] 137 (0, 0))
  r : Kd.R kEk 140 W base (fun k => k < W.heap.size) (.slice A v.over.length c) v.over
  lo : Wb.heap.size ≤ b17
theorem P17.done {A : Option Addr} {c k base n : Nat} {v : Wv} (h : P17 Wb W v.over x y z (some (A, c)) lb (some k)) (hn : n = v.over.length) (hb : base ≤ Wb.heap.size) : W17 Wb (set3 W k (.int .i64 v.to_) (.int .i64 v.cost) (.slice A n c)) base v k A c where
  b := (turned3 W k _ _ _).below h.b (h.x k rfl).1
  x := by subst hn; exact blk3 (h.x k rfl).2 _ _ _
  lo := (h.x k rfl).1
  r := by
    have g := Kd.R_bound (h.r A c rfl)
    refine Kd.R_lower (Kd.R_mono (Kd.R_step g (fun j hj _ => (turned3 W k _ _ _).block j (fun e => ?_))) (fun j hj => ?_)) hb
    · subst e
      obtain ⟨_, _, _, t, ht, cs, hc⟩ := hj
      rw [(h.x j rfl).2] at hc
      injection hc with hc
      injection hc with h1 h2 h3
      subst h2
      revert ht
      decide
    · rw [(turned3 W k _ _ _).size]; exact hj.2.2.1
theorem W17.drew {base : Nat} {v : Wv} {b17 : Nat} {A : Option Addr} {c : Nat} (h : W17 Wb W base v b17 A c) : W17 Wb W.drew base v b17 A c := ⟨below_drew1 h.b, h.x, h.r, h.lo⟩
end
end Go.Proofs.Ytampgoendkjkhaa.H
