/- alter.Other. -/
import Derived.Test.YtjabncedfjjbjaaAlD
import Derived.Test.YtjabncedfjjbjaaOwn
import Derived.Deep.DeepCutAuto
namespace Go.Proofs.Ytjabncedfjjbjaa.H
open Go.RowKit Go.Shelf Go.Proofs.YtjabncedfjjbjaaW.PrintWords Go.Proofs.YtjabncedfjjbjaaW.PrintMore
set_option linter.unusedVariables false
set_option linter.unusedSimpArgs false
theorem bits_sub (a b : Nat) (ha : a < 2 ^ 62) (hb : b < 2 ^ 62) : (bits .andNot .i64 (a : Int) (b : Int) == 0) = decide (a &&& b = a) := by
  have hx : (BitVec.ofInt 64 (a : Int) &&& ~~~BitVec.ofInt 64 (b : Int)).toNat = a &&& (2 ^ 64 - 1 - b) := by
    rw [BitVec.toNat_and, BitVec.toNat_not, ofInt64 a (by omega), ofInt64 b (by omega)]
  have hlt : a &&& (2 ^ 64 - 1 - b) < 2 ^ 62 := Nat.lt_of_le_of_lt Nat.and_le_left ha
  have e : bits .andNot .i64 (a : Int) (b : Int) = ((a &&& (2 ^ 64 - 1 - b) : Nat) : Int) := by
    show IntKind.i64.wrap ((BitVec.ofInt 64 (a : Int) &&& ~~~BitVec.ofInt 64 (b : Int)).toNat : Int) = _
    rw [hx, IntKind.wrap_i64]
    generalize a &&& (2 ^ 64 - 1 - b) = z at hlt ⊢
    omega
  rw [e]
  have key : (a &&& (2 ^ 64 - 1 - b) = 0) ↔ (a &&& b = a) := by
    constructor
    · intro h
      apply Nat.eq_of_testBit_eq
      intro i
      have h1 := congrArg (fun n => Nat.testBit n i) h
      simp only [Nat.testBit_and, Nat.zero_testBit] at h1 ⊢
      rw [show 2 ^ 64 - 1 - b = 2 ^ 64 - (b + 1) from by omega, Nat.testBit_two_pow_sub_succ (by omega)] at h1
      cases ha' : a.testBit i with
      | false => simp
      | true =>
        rw [ha'] at h1
        rcases Nat.lt_or_ge i 64 with hi | hi
        · simpa [hi] using h1
        · have := Nat.testBit_lt_two_pow (x := a) (i := i) (Nat.lt_of_lt_of_le ha (Nat.pow_le_pow_right (by omega) (by omega)))
          rw [this] at ha'; cases ha'
    · intro h
      apply Nat.eq_of_testBit_eq
      intro i
      have h1 := congrArg (fun n => Nat.testBit n i) h
      simp only [Nat.testBit_and, Nat.zero_testBit] at h1 ⊢
      rw [show 2 ^ 64 - 1 - b = 2 ^ 64 - (b + 1) from by omega, Nat.testBit_two_pow_sub_succ (by omega)]
      cases ha' : a.testBit i with
      | false => simp
      | true => rw [ha'] at h1; simp at h1; simp [h1]
  by_cases h : a &&& (2 ^ 64 - 1 - b) = 0
  · rw [h, decide_eq_true (key.1 h)]; rfl
  · rw [decide_eq_false (fun q => h (key.2 q))]
    simp
    omega
def meetC (s : Nat) (c : List Int) : Bool := !c.any (fun p => s.testBit p.toNat)
def meets (s : Nat) (l : List (List Int)) : Bool := !l.any (meetC s)
def subB (s x : Nat) : Bool := decide (x &&& s = x)
def othStep (l : List (List Int)) (sets : List Nat) (s : Nat) : List Nat := if (meets s l && !sets.any (subB s)) = true then sets ++ [s] else sets
def othSets (l : List (List Int)) : Nat → List Nat
  | 0 => []
  | k + 1 => othStep l (othSets l k) k
def setL (s n : Nat) : List Int := ((List.range n).filter s.testBit).map fun i : Nat => (i : Int)
def othL (n : Nat) (l : List (List Int)) : List (List Int) := (othSets l (2 ^ n)).map fun s => setL s n
def othNx (nx : List (List (List (List Int)))) : List (List (List (List Int))) := nx.map fun r => r.map (othL nx.length)
def othMs (ms : List Int) : List Int := ms.map fun m => 1 - m
theorem oth_lt (l : List (List Int)) : ∀ k, (othSets l k).length ≤ k ∧ ∀ s ∈ othSets l k, s < k
  | 0 => ⟨Nat.le_refl _, fun s h => by simp [othSets] at h⟩
  | k + 1 => by
    have := oth_lt l k
    unfold othSets othStep
    split
    · refine ⟨by simp; omega, fun s h => ?_⟩
      rcases List.mem_append.1 h with h | h
      · have := this.2 s h; omega
      · simp at h; omega
    · exact ⟨by omega, fun s h => by have := this.2 s h; omega⟩
theorem o11_calls (p : Int) (s : Nat) (B : Nat) (w : World) (hc : w.cell? ⟨B, 0, none⟩ = some (.int .i64 (s : Int))) (hs : s < 16) (hp : 0 ≤ p ∧ p < 4) :
    Calls Try.prog 82 #[.int .i64 p, .pointer (some ⟨B, 0, none⟩)] w fun e w' => e = .returned (.bool (s.testBit p.toNat)) ∧ w = w' := by
  obtain ⟨q, rfl⟩ : ∃ q : Nat, p = (q : Int) := ⟨p.toNat, by omega⟩
  have HE := Aside0.mk (bits_test1 s q (by omega))
  go_enter Try.func82, Try.ntmps82
  go_wp2
  go_ret
  exact ⟨by rw [Int.toNat_natCast, ← HE.out]; rfl, rfl⟩
theorem o11_pred (xs : List Int) (s : Nat) (W0 : World) (B : Nat) (hB : B < W0.heap.size) (hc : W0.cell? ⟨B, 0, none⟩ = some (.int .i64 (s : Int))) (hs : s < 16) (hx : ∀ p ∈ xs, 0 ≤ p ∧ p < 4) : Pred_int 82 #[.pointer (some ⟨B, 0, none⟩)] (fun p => s.testBit p.toNat) xs W0 :=
  fun W x hx' hb => (o11_calls x s B W ((hb.cell (p := ⟨B, 0, none⟩) hB).trans hc) hs (hx x hx')).mono fun e w' ⟨he, hw⟩ => ⟨he, hw ▸ hb⟩
theorem o1_calls (A : Option Addr) (c : Nat) (xs : List Int) (s : Nat) (B : Nat) (w : World) (hr : Kd.C (Kd.int .i64) w A xs.length xs) (hc : w.cell? ⟨B, 0, none⟩ = some (.int .i64 (s : Int))) (hB : B < w.heap.size) (hs : s < 16) (hx : ∀ p ∈ xs, 0 ≤ p ∧ p < 4) :
    Calls Try.prog 80 #[.slice A xs.length c, .pointer (some ⟨B, 0, none⟩)] w fun e w' => e = .returned (.bool (meetC s xs)) ∧ Below w.heap.size w w' := by
  have H := Aside0.mk (ContainsFunc_int 82 #[.pointer (some ⟨B, 0, none⟩)] (enters_of Try.func82 (by kernel_rfl) rfl) _ A c xs w hr (o11_pred xs s w B hB hc hs hx))
  clear hr hx hc
  go_enter Try.func80, Try.ntmps80
  go_wp2_with (go_at_call 81; refine H.out.mono ?_; rintro e w' ⟨rfl, hb'⟩)
  go_ret
  exact ⟨rfl, hb'⟩
theorem o1_pred (xs : List (List Int)) (s : Nat) (W0 : World) (B : Nat) (hB : B < W0.heap.size) (hc : W0.cell? ⟨B, 0, none⟩ = some (.int .i64 (s : Int))) (hs : s < 16) (hx : ∀ c ∈ xs, ∀ p ∈ c, 0 ≤ p ∧ p < 4) : Pred_row 80 #[.pointer (some ⟨B, 0, none⟩)] (meetC s) xs W0 :=
  fun W x A c hx' _ hr hb => (o1_calls A c x s B W hr ((hb.cell (p := ⟨B, 0, none⟩) hB).trans hc) (Nat.lt_of_lt_of_le hB hb.size) hs (hx x hx')).mono fun e w' ⟨he, hw⟩ => ⟨he, hb.trans (hw.mono hb.size)⟩
theorem o2_calls (x s : Nat) (B : Nat) (w : World) (hc : w.cell? ⟨B, 0, none⟩ = some (.int .i64 (s : Int))) (hs : s < 16) (hx : x < 16) :
    Calls Try.prog 83 #[.int .i64 (x : Int), .pointer (some ⟨B, 0, none⟩)] w fun e w' => e = .returned (.bool (subB s x)) ∧ w = w' := by
  have HE := Aside0.mk (bits_sub x s (by omega) (by omega))
  go_enter Try.func83, Try.ntmps83
  go_wp2
  go_ret
  exact ⟨by unfold subB; rw [← HE.out]; rfl, rfl⟩
theorem o2_pred (xs : List Nat) (s : Nat) (W0 : World) (B : Nat) (hB : B < W0.heap.size) (hc : W0.cell? ⟨B, 0, none⟩ = some (.int .i64 (s : Int))) (hs : s < 16) (hx : ∀ p ∈ xs, p < 16) : Pred_int 83 #[.pointer (some ⟨B, 0, none⟩)] (fun p => subB s p.toNat) (xs.map fun i : Nat => (i : Int)) W0 := by
  intro W x hx' hb
  obtain ⟨y, hy, rfl⟩ := List.mem_map.1 hx'
  refine (o2_calls y s B W ((hb.cell (p := ⟨B, 0, none⟩) hB).trans hc) hs (hx y hy)).mono ?_
  rintro e w' ⟨he, rfl⟩
  refine ⟨he.trans ?_, hb⟩
  show _ = Ending.returned (.bool (subB s ((y : Int)).toNat))
  rw [Int.toNat_natCast]
theorem any_nat (xs : List Nat) (s : Nat) : (xs.map fun i : Nat => (i : Int)).any (fun p => subB s p.toNat) = xs.any (subB s) := by
  rw [List.any_map]; rfl
theorem ContainsFunc_int_n (g : Nat) (lb : Array Value) (eg : ∀ args w, (callFunc g args).run Try.prog w = .ok (.enter g args) w) (p : Int → Bool) (A : Option Addr) (c n : Nat) (xs : List (Int)) (w : World)
    (hr : Kd.C (Kd.int .i64) w A xs.length xs) (hn : xs.length = n) (hp : Pred_int g lb p xs w) :
    Calls Try.prog 81 #[.slice A n c, .func (.func g) #[] lb] w fun e w' => e = .returned (.bool (xs.any p)) ∧ Below w.heap.size w w' := hn ▸ ContainsFunc_int g lb eg p A c xs w hr hp
def natL (l : List Nat) : List Int := l.map fun i : Nat => (i : Int)
theorem natL_len (l : List Nat) : (natL l).length = l.length := by simp [natL]
theorem natL_get (l : List Nat) {i : Nat} (h : i < l.length) : (natL l)[i]'(by rw [natL_len]; exact h) = (l[i] : Int) := by simp [natL]
theorem oth_yes {l : List (List Int)} {k : Nat} (h1 : meets k l = true) (h2 : (othSets l k).any (subB k) = false) : natL (othSets l (k + 1)) = natL (othSets l k) ++ [(k : Int)] := by
  unfold natL
  rw [othSets, othStep, h1, h2, if_pos (by rfl), List.map_append]; rfl
theorem oth_no1 {l : List (List Int)} {k : Nat} (h1 : meets k l = false) : othSets l (k + 1) = othSets l k := by
  rw [othSets, othStep, h1, if_neg (by simp)]
theorem oth_no2 {l : List (List Int)} {k : Nat} (h2 : (othSets l k).any (subB k) = true) : othSets l (k + 1) = othSets l k := by
  rw [othSets, othStep, h2, if_neg (by simp)]
theorem setL_yes {s p : Nat} (h : s.testBit p = true) : setL s (p + 1) = setL s p ++ [(p : Int)] := by
  unfold setL
  rw [List.range_succ, List.filter_append, List.map_append]
  simp [h]
theorem setL_no {s p : Nat} (h : s.testBit p = false) : setL s (p + 1) = setL s p := by
  unfold setL
  rw [List.range_succ, List.filter_append, List.map_append]
  simp [h]
theorem setL_len (s p : Nat) : (setL s p).length ≤ p := by
  unfold setL
  rw [List.length_map]
  exact Nat.le_trans (List.length_filter_le _ _) (by simp)
structure OtM (w W : World) (bO : Nat) (L st : Int) (A2 A3 : Option Addr) (n c2 m c3 : Nat) (vN vM : Value) : Prop where
  b : Below w.heap.size w W
  x : W.heap[w.heap.size]? = some (.cells #[.int .i64 L, .int .i64 st, .slice A2 n c2, .slice A3 m c3] 77 (0, 0))
  r : W.heap[w.heap.size + 1]? = some (.cells #[.int .i64 0, .int .i64 0, .slice none 0 0, .slice none 0 0] 77 (0, 0))
  o : W.heap[bO]? = some (.cells #[.int .i64 L, .int .i64 st, vN, vM] 77 (0, 0))
  lo : w.heap.size + 2 ≤ bO
section
variable {w W W' : World} {L st : Int} {A2 A3 : Option Addr} {bO n c2 m c3 B : Nat} {vN vM : Value}
theorem OtM.below' (h : OtM w W bO L st A2 A3 n c2 m c3 vN vM) (hb : Below B W W') (hB : bO + 1 ≤ B) : OtM w W' bO L st A2 A3 n c2 m c3 vN vM := by
  have := h.lo
  exact ⟨⟨hb.os.trans h.b.os, hb.tape.trans h.b.tape, hb.output.trans h.b.output, Nat.le_trans h.b.size hb.size, fun k hk => (hb.block k (by omega)).trans (h.b.block k hk)⟩, (hb.block _ (by omega)).trans h.x, (hb.block _ (by omega)).trans h.r, (hb.block _ (by omega)).trans h.o, h.lo⟩
theorem OtM.lt (h : OtM w W bO L st A2 A3 n c2 m c3 vN vM) : bO + 1 ≤ W.heap.size := blk_lt h.o
theorem OtM.below (h : OtM w W bO L st A2 A3 n c2 m c3 vN vM) (hb : Below W.heap.size W W') : OtM w W' bO L st A2 A3 n c2 m c3 vN vM := h.below' hb h.lt
theorem OtM.grown {row : Option Nat} (h : OtM w W bO L st A2 A3 n c2 m c3 vN vM) (hg : W.grownBy W' row) (hr : ∀ k, row = some k → bO + 1 ≤ k) : OtM w W' bO L st A2 A3 n c2 m c3 vN vM := by
  refine h.below' (B := bO + 1) ⟨hg.os, hg.tape, hg.output, hg.size, fun k hk => hg.block k (Nat.lt_of_lt_of_le hk h.lt) (fun e => ?_)⟩ (Nat.le_refl _)
  have := hr k e.symm
  omega
theorem OtM.setM (h : OtM w W bO L st A2 A3 n c2 m c3 vN vM) (v : Value) : OtM w (W.setCell ⟨bO, 3, none⟩ v) bO L st A2 A3 n c2 m c3 vN v := by
  have := h.lo
  exact ⟨below_set h.b (by show _ ≤ bO; omega), blk_far h.x (p := ⟨bO, 3, none⟩) (by show _ ≠ bO; omega) _, blk_far h.r (p := ⟨bO, 3, none⟩) (by show _ ≠ bO; omega) _, by rw [blk_set h.o 3]; rfl, h.lo⟩
theorem OtM.setN (h : OtM w W bO L st A2 A3 n c2 m c3 vN vM) (v : Value) : OtM w (W.setCell ⟨bO, 2, none⟩ v) bO L st A2 A3 n c2 m c3 v vM := by
  have := h.lo
  exact ⟨below_set h.b (by show _ ≤ bO; omega), blk_far h.x (p := ⟨bO, 2, none⟩) (by show _ ≠ bO; omega) _, blk_far h.r (p := ⟨bO, 2, none⟩) (by show _ ≠ bO; omega) _, by rw [blk_set h.o 2]; rfl, h.lo⟩
end
theorem infoA (e : TypeId) (h : (Try.prog.info? e).map (fun i => (i.zero, i.size, i.bytes)) = some (some (.slice none 0 0), 1, 24)) : (Try.prog.info? e).map (fun i => (i.zero, i.size, i.bytes)) = some (some (.slice none 0 0), 1, 24) := h
theorem info_r2 : (Try.prog.info? 42).map (fun i => (i.zero, i.size, i.bytes)) = some (some (.slice none 0 0), 1, 24) := by kernel_rfl
theorem info_r3 : (Try.prog.info? 78).map (fun i => (i.zero, i.size, i.bytes)) = some (some (.slice none 0 0), 1, 24) := by kernel_rfl
def AltPost (w w' : World) (e : Ending) (d : Int × Int × List (List (List (List Int))) × List Int × Int) : Prop :=
  ∃ vN vM : Value, e = .returned (.tuple #[.agg #[.int .i64 d.1, .int .i64 d.2.1, vN, vM], .int .i64 d.2.2.2.2]) ∧ Below w.heap.size w w' ∧
      ∃ sN sM : Nat → Prop, (∀ k, sM k → ¬ sN k) ∧ Kd.S (Kd.slice 42 (Kd.slice 22 (Kd.slice 3 (Kd.int .i64)))) 78 w' w.heap.size sN vN d.2.2.1 ∧ Kd.R (Kd.int .i64) 3 w' w.heap.size sM vM d.2.2.2.1
def alOth (L st : Int) (nx : List (List (List (List Int)))) (ms : List Int) : Int × Int × List (List (List (List Int))) × List Int × Int :=
  if aCheck L st nx ms = 0 then (L, st, othNx nx, othMs ms, 0) else (0, 0, [], [], aCheck L st nx ms)
theorem resA {fn : Func} {p u : Tmp} (h : fn.results = #[.cell p 77, .tmp u]) (tmps : Array Value) (W : World) (g : Nat) (x0 x1 x2 x3 b : Value) (hp : tmps.getD p undef = .pointer (some ⟨g, 0, none⟩)) (hb : tmps.getD u undef = b)
    (h0 : W.cell? ⟨g, 0, none⟩ = some x0) (h1 : W.cell? ⟨g, 1, none⟩ = some x1) (h2 : W.cell? ⟨g, 2, none⟩ = some x2) (h3 : W.cell? ⟨g, 3, none⟩ = some x3) : (results fn tmps).run Try.prog W = .ok (.tuple #[.agg #[x0, x1, x2, x3], b]) W := by
  have hu := Try.underlying77
  have hp' : tmps[p]?.getD undef = .pointer (some ⟨g, 0, none⟩) := by simpa using hp
  have hb' : tmps[u]?.getD undef = b := by simpa using hb
  simp only [results, h]
  go_simp
theorem Sg_set {α : Type} {d : Kd α} {e : Nat} {W : World} {B : Nat} {ok : Nat → Prop} {v : Value} {l : List α} (h : Kd.S d e W B ok v l) {p : Addr} (hp : p.block < B) (u : Value) : Kd.S d e (W.setCell p u) B ok v l :=
  Kd.S_mono (Kd.S_step (Kd.S_bound h) (fun k ho _ => Below.heap_setCell W p u k (by have := ho.2.1; omega))) (fun _ h => h.1)
set_option maxHeartbeats 8000000 in
set_option maxRecDepth 100000 in
theorem alOth_calls (L st : Int) (A2 A3 : Option Addr) (c2 c3 : Nat) (nx : List (List (List (List Int)))) (ms : List Int) (w : World) (hr2 : Kd.C (Kd.slice 42 (Kd.slice 22 (Kd.slice 3 (Kd.int .i64)))) w A2 nx.length nx) (hr3 : Kd.C (Kd.int .i64) w A3 ms.length ms) :
    Calls Try.prog 33 (alArgs L st A2 A3 c2 c3 nx ms) w fun e w' => AltPost w w' e (alOth L st nx ms) := by
  have HR2 := Aside0.mk hr2
  have HR3 := Aside0.mk hr3
  clear hr2 hr3
  have HB0 := Aside0.mk (below_alloc (below_alloc (Below.refl w.heap.size w) (.cells #[.int .i64 L, .int .i64 st, .slice A2 nx.length c2, .slice A3 ms.length c3] 77)) (.cells #[.int .i64 0, .int .i64 0, .slice none 0 0, .slice none 0 0] 77))
  by_cases hc : aCheck L st nx ms = 0
  · obtain ⟨L, st, rfl, rfl, hok⟩ := alOk_of hc
    have HOK := Aside0.mk hok
    have hn4 := hok.n4
    have hml := hok.len
    have HD : alOth (L : Int) (st : Int) nx ms = ((L : Int), (st : Int), othNx nx, othMs ms, 0) := by unfold alOth; rw [if_pos hc]
    rw [HD]
    have HC := Aside0.mk hc
    have HML := Aside0.mk hml
    clear HD hc hok hml
    go_enter Try.func33, Try.ntmps33
    go_wp2_with (go_at_call 72
                 refine (al_Check L st A2 A3 c2 c3 nx ms _ (Kd.C_below HR2.out HB0.out) (Kd.C_below HR3.out HB0.out)).mono ?_
                 rintro e w1 ⟨rfl, hb1⟩
                 rw [HC.out]
                 have X1 := Aside0.mk (show w1.heap[w.heap.size]? = some (.cells #[.int .i64 (L : Int), .int .i64 (st : Int), .slice A2 nx.length c2, .slice A3 ms.length c3] 77 (0, 0)) from blk_below (blk_alloc (blk_new w _) _) hb1)
                 have R1 := Aside0.mk (show w1.heap[w.heap.size + 1]? = some (.cells #[.int .i64 0, .int .i64 0, .slice none 0 0, .slice none 0 0] 77 (0, 0)) from blk_below (blk_newn _ _ _ (by simp)) hb1)
                 have B1 := Aside0.mk (below_step HB0.out hb1)
                 have k0 : w1.cell? ⟨w.heap.size, 0, none⟩ = some (.int .i64 (L : Int)) := (blk_cell X1.out 0).trans rfl
                 have k1 : w1.cell? ⟨w.heap.size, 1, none⟩ = some (.int .i64 (st : Int)) := (blk_cell X1.out 1).trans rfl
                 have k2 : w1.cell? ⟨w.heap.size, 2, none⟩ = some (.slice A2 nx.length c2) := (blk_cell X1.out 2).trans rfl
                 have kz : w.heap.size < w1.heap.size := blk_lt X1.out
                 clear hb1)
    obtain ⟨bO, hbO⟩ : ∃ bO, w1.heap.size = bO := ⟨_, rfl⟩
    have M0 := Aside0.mk (show OtM w (w1.alloc (.cells #[.int .i64 (L : Int), .int .i64 (st : Int), .slice none 0 0, .slice none 0 0] 77)) bO L st A2 A3 nx.length c2 ms.length c3 (.slice none 0 0) (.slice none 0 0) from
      ⟨below_alloc B1.out _, blk_alloc X1.out _, blk_alloc R1.out _, by rw [← hbO]; exact blk_new w1 _, by rw [← hbO]; exact blk_lt R1.out⟩)
    rw [hbO]
    generalize w1.alloc (.cells #[.int .i64 (L : Int), .int .i64 (st : Int), .slice none 0 0, .slice none 0 0] 77) = W1 at M0 ⊢
    clear hbO k0 k1 k2 kz B1 X1 R1
    go_loopg [8, 33] nx.length (fun gg s8 s33 wr => ∃ (i u : Nat) (vN vM : Value) (s1 s2 : Nat → Prop), i ≤ nx.length ∧ nx.length - i ≤ gg ∧ s33 = .int .i64 (i : Int) ∧ Aside0 (OtM w wr bO L st A2 A3 nx.length c2 ms.length c3 vN vM) ∧ Aside0 (Two (Kd.slice 42 (Kd.slice 22 (Kd.slice 3 (Kd.int .i64)))) 78 (bO + 1) u wr vM ((ms.take i).map fun m => 1 - m) vN ((nx.take i).map fun r => r.map (othL nx.length)) s1 s2))
    case atStart => exact ⟨0, bO + 1, _, _, fun _ => False, fun _ => False, Nat.zero_le _, by omega, rfl, M0, ⟨⟨Kd.R_nil _ _ _ _ _, Kd.S_nil _ _ _ _ _, fun _ h => h.elim, fun _ h => h.elim, M0.out.lt, fun _ h => h.elim⟩⟩⟩
    case round =>
      clear M0
      obtain ⟨i, u, vN, vM, s1, s2, hi, hg, rfl, MM, TT⟩ := hrel
      by_cases hlt : i < nx.length
      · have hltz : (i : Int) < (nx.length : Int) := by omega
        have hml := HML.out
        have hltm : i < ms.length := by omega
        have hltmz : (i : Int) < (ms.length : Int) := by omega
        obtain ⟨ad, A4, c4, rfl, hle, hrow, hc0⟩ := row_get HR2.out rfl hlt
        obtain ⟨adm, rfl, hcm0⟩ := int_get HR3.out rfl hltm
        have hc := pw_cell_below MM.out.b hc0
        have hcm := pw_cell_below MM.out.b hcm0
        obtain ⟨r, hr⟩ : ∃ r, nx[i] = r := ⟨_, rfl⟩
        obtain ⟨m, hm⟩ : ∃ m, ms[i] = m := ⟨_, rfl⟩
        have hm01 := HOK.out.mks _ (List.getElem_mem hltm)
        have hrok := Aside0.mk (HOK.out.tos _ (List.getElem_mem hlt))
        have hr4 : nx[i].length ≤ 4 := by have h1 := HOK.out.row _ (List.getElem_mem hlt); have h2 := HOK.out.L4; omega
        rw [hr] at hle hrow hc hrok hr4
        rw [hm] at hcm hm01
        have HRR := Aside0.mk hr
        have HMM := Aside0.mk hm
        have HRW := Aside0.mk hrow
        have hlo := MM.out.lo
        have hbz : bO < wr.heap.size := MM.out.lt
        have hbz0 : w.heap.size < wr.heap.size := by omega
        have k3 : wr.cell? ⟨w.heap.size, 3, none⟩ = some (.slice (some adm) ms.length c3) := (blk_cell MM.out.x 3).trans rfl
        have k2 : wr.cell? ⟨w.heap.size, 2, none⟩ = some (.slice (some ad) nx.length c2) := (blk_cell MM.out.x 2).trans rfl
        obtain ⟨AM, cM, rfl⟩ := Kd.R_slice TT.out.p
        have hlM : ((ms.take i).map fun m => 1 - m).length = i := by rw [List.length_map, List.length_take]; omega
        rw [hlM] at MM TT
        have o3 : wr.cell? ⟨bO, 3, none⟩ = some (.slice AM i cM) := (blk_cell MM.out.o 3).trans rfl
        have of3 := blk_frozen MM.out.o 3
        have HLM := Aside0.mk hlM
        have hw1 : IntKind.i64.wrap (1 - m) = 1 - m := IntWalk.i64_in _ (by omega)
        have hrl : r.length ≤ 9223372036854775807 := (C_len hrow).2
        clear hr hm hrow hlM hml hle hc0 hcm0
        go_wp2
        go_cut [] (fun wx => ∃ (vM : Value) (u' : Nat) (s1' : Nat → Prop), Aside0 (OtM w wx bO L st (some ad) (some adm) nx.length c2 ms.length c3 vN vM) ∧ Aside0 (Two (Kd.slice 42 (Kd.slice 22 (Kd.slice 3 (Kd.int .i64)))) 78 (bO + 1) u' wx vM ((ms.take (i + 1)).map fun m => 1 - m) vN ((nx.take i).map fun r => r.map (othL nx.length)) s1' s2))
        case first =>
          go_region_law (
               (refine' append_int_step (x := 1 - m) (B := bO + 1) (ok := s1) (.slice AM i cM) ((ms.take i).map fun m => 1 - m) (.tmp 39) (.tmp 46) 22 (by rfl) (by rfl) Try.underlying22 int3 (by rfl) (by rfl) ?aO ?aC ?aS ?aL ?_
                (case aO => exact (TT.out.below (by repeat (first | exact Below.refl _ _ | apply below_drew1 | apply pw_below_drewN | apply below_alloc))).p)
                (case aC => go_simp)
                (case aS => simp; omega)
                (case aL => have := HLM.out; omega)
                intro v11 w11 hr11 hg11
                have bb := bb_of (w10 := wr) hg11 (by repeat (first | exact Below.refl _ _ | apply below_drew1 | apply pw_below_drewN | apply below_alloc))
                have T10 := TT.out.below bb.out
                have M10 := MM.out.below bb.out
                obtain ⟨A11, c11, ev11⟩ := Kd.R_slice hr11
                subst ev11
                have hl11 : ((ms.take i).map (fun m => 1 - m) ++ [1 - m]).length = i + 1 := by rw [List.length_append, HLM.out]; rfl
                rw [hl11] at hr11 ⊢
                have hnb : ∀ k, (Value.slice AM i cM).ownBlock = some k → bO + 1 ≤ k := fun k hk => Kd.R_base TT.out.p k hk
                have T11 := Aside0.mk (T10.app1 hr11 hg11)
                have M11 := Aside0.mk (M10.grown hg11 hnb)
                have hz11 : bO < w11.heap.size := M11.out.lt
                have o11 : w11.cell? ⟨bO, 3, none⟩ = some (.slice AM i cM) := (blk_cell M11.out.o 3).trans rfl
                have of11 := blk_frozen M11.out.o 3
                clear T10 M10 hr11 hg11 hnb bb hl11))
          all_goals
            go_wp2_with fail
            go_meet
            exact ⟨(.slice A11 (i + 1) c11), _, _, ⟨M11.out.setM _⟩, ⟨by
              have := T11.out.set (a := ⟨bO, 3, none⟩) (by show bO < _; omega) (.slice A11 (i + 1) c11)
              rw [take_snoc' ms hltm, List.map_append, HMM.out]
              exact this⟩⟩
        case rest =>
          clear MM TT
          obtain ⟨vM, u', s1', MM, TT⟩ := hcut
          clear hc hcm k3 k2 o3 of3 HLM HMM hbz hbz0 hltm hltmz hm01 hw1
          go_wp2
          have hxc := MM.out.lt
          go_loopg [8, 51] r.length (fun gg s8 s51 wq => ∃ j : Nat, j ≤ r.length ∧ r.length - j ≤ gg ∧ s51 = .int .i64 (j : Int) ∧ Aside0 (Below wc.heap.size wc wq) ∧ Aside0 (Own (Kd.slice 22 (Kd.slice 3 (Kd.int .i64))) 42 wc.heap.size wq.heap.size wq s8 ((r.take j).map (othL nx.length))))
          case atStart => exact ⟨0, Nat.zero_le _, by omega, rfl, ⟨Below.refl _ _⟩, ⟨own_nil _ _ _ _ _ (Nat.le_refl _)⟩⟩
          case round =>
            obtain ⟨j, hj, hgj, rfl, BJ, OJ⟩ := hrel
            by_cases hjl : j < r.length
            · have hjz : (j : Int) < (r.length : Int) := by omega
              obtain ⟨ad5, A5, c5, rfl, hle5, hrow5, hc50⟩ := row_get HRW.out rfl hjl
              have BW := Aside0.mk (below_step MM.out.b BJ.out)
              have hc5 := pw_cell_below BW.out hc50
              obtain ⟨l, hl⟩ : ∃ l, r[j] = l := ⟨_, rfl⟩
              have hlok := Aside0.mk (show ∀ c ∈ l, ∀ p ∈ c, 0 ≤ p ∧ p < 4 from fun c hc p hp => by
                have := hrok.out _ (by rw [← hl]; exact List.getElem_mem hjl) c hc p hp
                omega)
              rw [hl] at hle5 hrow5 hc5
              have HLJ := Aside0.mk hl
              have HR5 := Aside0.mk hrow5
              have k2 : wr.cell? ⟨w.heap.size, 2, none⟩ = some (.slice (some ad) nx.length c2) := (blk_cell (MM.out.below BJ.out).x 2).trans rfl
              clear hl hrow5 hc50 hle5
              go_wp2
              clear k2 hc5
              obtain ⟨w2, hw2⟩ : ∃ w2, w2 = wr := ⟨_, rfl⟩
              subst hw2
              obtain ⟨N2, hN2⟩ : ∃ N2 : Nat, 2 ^ nx.length = N2 := ⟨_, rfl⟩
              have hN16 : N2 ≤ 16 := by
                rw [← hN2]
                exact Nat.le_trans (Nat.pow_le_pow_right (by omega) hn4) (by decide)
              have eN2 : wrap64 (2 ^ nx.length) = (N2 : Int) := by
                rw [← hN2]
                have h3 : ((2 : Int) ^ nx.length) = ((2 ^ nx.length : Nat) : Int) := by simp
                rw [h3]
                have h4 := pow_lt62 nx.length (by omega)
                generalize 2 ^ nx.length = z at h4
                unfold wrap64; omega
              rw [eN2]
              have HN2 := Aside0.mk hN2
              clear eN2 hN2
              go_loopg [11, 59] N2 (fun gg s11 s59 wq => ∃ k : Nat, k ≤ N2 ∧ N2 - k ≤ gg ∧ s59 = .int .i64 (k : Int) ∧ Aside0 (Below w2.heap.size w2 wq) ∧ Aside0 (Own (Kd.int .i64) 3 w2.heap.size wq.heap.size wq s11 (natL (othSets l k))))
              case atStart => exact ⟨0, Nat.zero_le _, by omega, rfl, ⟨Below.refl _ _⟩, ⟨own_nil _ _ _ _ _ (Nat.le_refl _)⟩⟩
              case round =>
                obtain ⟨k, hk, hgk, rfl, BK, OK⟩ := hrel
                by_cases hkl : k < N2
                · have hkz : (k : Int) < (N2 : Int) := by omega
                  have hk16 : k < 16 := by omega
                  have HR6 := Aside0.mk (Kd.C_below HR5.out (below_alloc (below_step BW.out BK.out) (.cells #[.int .i64 (k : Int)] 3)))
                  obtain ⟨mb, hmb⟩ : ∃ mb, l.any (meetC k) = mb := ⟨_, rfl⟩
                  have HMB := Aside0.mk hmb
                  obtain ⟨sb, hsb⟩ : ∃ sb, (othSets l k).any (subB k) = sb := ⟨_, rfl⟩
                  have HSB := Aside0.mk hsb
                  obtain ⟨AS, cS, rfl⟩ := OK.out.slice
                  obtain ⟨nS, hnS⟩ : ∃ nS, (natL (othSets l k)).length = nS := ⟨_, rfl⟩
                  have hnSk : nS ≤ 16 := by rw [← hnS, natL_len]; have := (oth_lt l k).1; omega
                  rw [hnS] at OK ⊢
                  have HNS := Aside0.mk hnS
                  clear hmb hsb hnS
                  have hs16 := Aside0.mk (show ∀ p ∈ othSets l k, p < 16 from fun p hp => by have := (oth_lt l k).2 p hp; omega)
                  cases mb with
                  | true =>
                    go_wp2_with (
                      (go_at_call 79
                       refine (ContainsFunc_row 80 _ (enters_of Try.func80 (by kernel_rfl) rfl) _ A5 c5 l _ HR6.out (o1_pred l k _ wr.heap.size (by simp) ((blk_cell (blk_new wr _) 0).trans rfl) hk16 hlok.out)).mono ?_
                       rintro e w6 ⟨rfl, hb6⟩
                       rw [HMB.out]
                       have B6 := Aside0.mk (below_step (below_alloc (Below.refl wr.heap.size wr) _) hb6)
                       clear hb6))
                    go_roundg (N2 - (k + 1))
                    case measure => omega
                    case rel => exact ⟨k + 1, by omega, by omega, by go_num, ⟨below_step BK.out B6.out⟩, ⟨by rw [oth_no1 (by unfold meets; rw [HMB.out]; rfl)]; exact (OK.out.below B6.out).raise B6.out.size (Nat.le_refl _)⟩⟩
                  | false =>
                    cases sb with
                    | true =>
                      go_wp2_with (first
                        | (go_at_call 79
                           refine (ContainsFunc_row 80 _ (enters_of Try.func80 (by kernel_rfl) rfl) _ A5 c5 l _ HR6.out (o1_pred l k _ wr.heap.size (by simp) ((blk_cell (blk_new wr _) 0).trans rfl) hk16 hlok.out)).mono ?_
                           rintro e w6 ⟨rfl, hb6⟩
                           rw [HMB.out]
                           have B6 := Aside0.mk (below_step (below_alloc (Below.refl wr.heap.size wr) _) hb6)
                           have P6 := Aside0.mk (blk_below (blk_new wr (.cells #[.int .i64 (k : Int)] 3)) hb6)
                           have OK6 := Aside0.mk (OK.out.below B6.out)
                           clear hb6)
                        | (go_at_call 81
                           refine (ContainsFunc_int_n 83 _ (enters_of Try.func83 (by kernel_rfl) rfl) _ AS cS nS (natL (othSets l k)) _ OK6.out.reads.2.2 HNS.out (o2_pred (othSets l k) k _ wr.heap.size (blk_lt P6.out) ((blk_cell P6.out 0).trans rfl) hk16 hs16.out)).mono ?_
                           rintro e w7 ⟨rfl, hb7⟩
                           rw [show (natL (othSets l k)).any (fun p => subB k p.toNat) = true from (any_nat _ _).trans HSB.out]
                           have B7 := Aside0.mk (below_step B6.out hb7)
                           clear hb7)
                        | fail)
                      go_roundg (N2 - (k + 1))
                      case measure => omega
                      case rel => exact ⟨k + 1, by omega, by omega, by go_num, ⟨below_step BK.out B7.out⟩, ⟨by rw [oth_no2 HSB.out]; exact (OK.out.below B7.out).raise B7.out.size (Nat.le_refl _)⟩⟩
                    | false =>
                      go_wp2_with (first
                        | (go_at_call 79
                           refine (ContainsFunc_row 80 _ (enters_of Try.func80 (by kernel_rfl) rfl) _ A5 c5 l _ HR6.out (o1_pred l k _ wr.heap.size (by simp) ((blk_cell (blk_new wr _) 0).trans rfl) hk16 hlok.out)).mono ?_
                           rintro e w6 ⟨rfl, hb6⟩
                           rw [HMB.out]
                           have B6 := Aside0.mk (below_step (below_alloc (Below.refl wr.heap.size wr) _) hb6)
                           have P6 := Aside0.mk (blk_below (blk_new wr (.cells #[.int .i64 (k : Int)] 3)) hb6)
                           have OK6 := Aside0.mk (OK.out.below B6.out)
                           clear hb6)
                        | (go_at_call 81
                           refine (ContainsFunc_int_n 83 _ (enters_of Try.func83 (by kernel_rfl) rfl) _ AS cS nS (natL (othSets l k)) _ OK6.out.reads.2.2 HNS.out (o2_pred (othSets l k) k _ wr.heap.size (blk_lt P6.out) ((blk_cell P6.out 0).trans rfl) hk16 hs16.out)).mono ?_
                           rintro e w7 ⟨rfl, hb7⟩
                           rw [show (natL (othSets l k)).any (fun p => subB k p.toNat) = false from (any_nat _ _).trans HSB.out]
                           have B7 := Aside0.mk (below_step B6.out hb7)
                           have P7 := Aside0.mk (blk_below P6.out hb7)
                           have p7 : w7.cell? ⟨wr.heap.size, 0, none⟩ = some (.int .i64 (k : Int)) := (blk_cell P7.out 0).trans rfl
                           have OK7 := Aside0.mk (OK6.out.below hb7)
                           clear hb7)
                        | (at_builtin
                           refine own_push_int (w0 := w2) w2.heap.size _ _ _ 22 3 (.slice AS nS cS) (natL (othSets l k)) (k : Int) rfl rfl Try.underlying22 int3 rfl rfl OK7.out (below_step BK.out B7.out) (Nat.le_trans BK.out.size B7.out.size) (by have := HNS.out; omega) ?_
                           intro v8 w8 ho8 hb8 hg8
                           have B8 := Aside0.mk hb8
                           have OK8 := Aside0.mk ho8
                           clear ho8 hb8 hg8)
                        | fail)
                      go_roundg (N2 - (k + 1))
                      case measure => omega
                      case rel => exact ⟨k + 1, by omega, by omega, by go_num, B8, ⟨by rw [oth_yes (by unfold meets; rw [HMB.out]; rfl) HSB.out]; exact OK8.out⟩⟩
                · have hke : k = N2 := by omega
                  subst hke
                  obtain ⟨AS, cS, rfl⟩ := OK.out.slice
                  obtain ⟨nS, hnS⟩ : ∃ nS, (natL (othSets l k)).length = nS := ⟨_, rfl⟩
                  have hnSk : nS ≤ 16 := by rw [← hnS, natL_len]; have := (oth_lt l k).1; omega
                  rw [hnS] at OK ⊢
                  have HNS := Aside0.mk hnS
                  clear hnS
                  go_wp2
                  obtain ⟨w4, hw4⟩ : ∃ w4, w4 = wr := ⟨_, rfl⟩
                  subst hw4
                  go_loopg [14, 80] nS (fun gg s14 s80 wq => ∃ q : Nat, q ≤ nS ∧ nS - q ≤ gg ∧ s80 = .int .i64 (q : Int) ∧ Aside0 (Below w4.heap.size w4 wq) ∧ Aside0 (Own (Kd.slice 3 (Kd.int .i64)) 22 w4.heap.size wq.heap.size wq s14 (((othSets l k).take q).map fun s => setL s nx.length)))
                  case atStart => exact ⟨0, Nat.zero_le _, by omega, rfl, ⟨Below.refl _ _⟩, ⟨own_nil _ _ _ _ _ (Nat.le_refl _)⟩⟩
                  case round =>
                    obtain ⟨q, hq, hgq, rfl, BQ, OQ⟩ := hrel
                    by_cases hql : q < nS
                    · have hqz : (q : Int) < (nS : Int) := by omega
                      have hqo : q < (othSets l k).length := by have := HNS.out; rw [natL_len] at this; omega
                      have hqn : q < (natL (othSets l k)).length := by rw [natL_len]; exact hqo
                      obtain ⟨ad6, rfl, hc6⟩ := int_get (Kd.C_below OK.out.reads.2.2 BQ.out) rfl hqn
                      rw [natL_get _ hqo] at hc6
                      have hs16 := (oth_lt l k).2 _ (List.getElem_mem hqo)
                      have HTK := Aside0.mk (take_snoc' (othSets l k) hqo)
                      generalize (othSets l k)[q] = s at hc6 hs16 HTK
                      have BW4 := Aside0.mk (below_step BW.out (below_step BK.out BQ.out))
                      have k2 : wr.cell? ⟨w.heap.size, 2, none⟩ = some (.slice (some ad) nx.length c2) := (blk_cell (MM.out.below (below_step BJ.out (below_step BK.out BQ.out))).x 2).trans rfl
                      go_wp2
                      clear k2 hc6
                      obtain ⟨w5, hw5⟩ : ∃ w5, w5 = wr := ⟨_, rfl⟩
                      subst hw5
                      go_loopg [17, 87] nx.length (fun gg s17 s87 wq => ∃ p : Nat, p ≤ nx.length ∧ nx.length - p ≤ gg ∧ s87 = .int .i64 (p : Int) ∧ Aside0 (Below w5.heap.size w5 wq) ∧ Aside0 (Own (Kd.int .i64) 3 w5.heap.size wq.heap.size wq s17 (setL s p)))
                      case atStart => exact ⟨0, Nat.zero_le _, by omega, rfl, ⟨Below.refl _ _⟩, ⟨own_nil _ _ _ _ _ (Nat.le_refl _)⟩⟩
                      case round =>
                        obtain ⟨p, hp, hgp, rfl, BP, OP⟩ := hrel
                        by_cases hpl : p < nx.length
                        · have hpz : (p : Int) < (nx.length : Int) := by omega
                          have hp4 : p < 4 := by omega
                          have HSL := Aside0.mk (setL_len s p)
                          cases hb : s.testBit p with
                          | true =>
                            have hqq : (bits .and .i64 ((s : Int) / 2 ^ p) 1 == 1) = true := by rw [bits_test1 s p (by omega), hb]
                            have HE := Aside0.mk (setL_yes hb)
                            clear hb
                            go_wp2_with (first
                              | (at_builtin
                                 refine own_push_int (w0 := w5) w5.heap.size _ _ _ 22 3 _ (setL s p) (p : Int) rfl rfl Try.underlying22 int3 rfl rfl OP.out BP.out BP.out.size (by have := HSL.out; omega) ?_
                                 intro v8 w8 ho8 hb8 hg8
                                 have B8 := Aside0.mk hb8
                                 have O8 := Aside0.mk ho8
                                 clear ho8 hb8 hg8)
                              | fail)
                            go_roundg (nx.length - (p + 1))
                            case measure => omega
                            case rel => exact ⟨p + 1, by omega, by omega, by go_num, B8, ⟨by rw [HE.out]; exact O8.out⟩⟩
                          | false =>
                            have hqq : (bits .and .i64 ((s : Int) / 2 ^ p) 1 == 1) = false := by rw [bits_test1 s p (by omega), hb]
                            have HE := Aside0.mk (setL_no hb)
                            clear hb
                            go_wp2
                            go_roundg (nx.length - (p + 1))
                            case measure => omega
                            case rel => exact ⟨p + 1, by omega, by omega, by go_num, BP, ⟨by rw [HE.out]; exact OP.out⟩⟩
                        · have hpe : p = nx.length := by omega
                          subst hpe
                          obtain ⟨A7, c7, rfl⟩ := OP.out.slice
                          obtain ⟨n7, hn7⟩ : ∃ n7, (setL s nx.length).length = n7 := ⟨_, rfl⟩
                          rw [hn7] at OP ⊢
                          clear hn7
                          go_wp2_with (first
                            | (at_builtin
                               refine own_push_row (Kd.int .i64) (w0 := w4) w4.heap.size w5.heap.size w5.heap.size wr.heap.size _ _ 42 22 3 _ _ (((othSets l k).take q).map fun s => setL s nx.length) (setL s nx.length) rfl rfl Try.underlying42 row22 rfl rfl (OQ.out.below BP.out) OP.out (Nat.le_refl _) BQ.out.size (below_step BQ.out BP.out) (Nat.le_trans BQ.out.size BP.out.size) (by rw [List.length_map, List.length_take]; omega) ?_
                               intro v8 w8 ho8 hb8 hg8
                               have B8 := Aside0.mk hb8
                               have O8 := Aside0.mk ho8
                               clear ho8 hb8 hg8)
                            | fail)
                          go_roundg (nS - (q + 1))
                          case measure => omega
                          case rel => exact ⟨q + 1, by omega, by omega, by go_num, B8, ⟨by rw [HTK.out, List.map_append]; exact O8.out⟩⟩
                    · have hqe : q = nS := by omega
                      subst hqe
                      obtain ⟨A7, c7, rfl⟩ := OQ.out.slice
                      obtain ⟨n7, hn7⟩ : ∃ n7, (((othSets l k).take q).map fun s => setL s nx.length).length = n7 := ⟨_, rfl⟩
                      rw [hn7] at OQ ⊢
                      clear hn7
                      have HTK := Aside0.mk (take_snoc' r hjl)
                      have HOL := Aside0.mk (show ((othSets l k).take q).map (fun s => setL s nx.length) = othL nx.length l from by
                        have := HNS.out
                        rw [natL_len] at this
                        rw [← this, List.take_length, ← HN2.out]; rfl)
                      go_wp2_with (first
                        | (at_builtin
                           refine own_push_row (Kd.slice 3 (Kd.int .i64)) (w0 := wc) wc.heap.size w2.heap.size w4.heap.size wr.heap.size _ _ 78 42 22 _ _ ((r.take j).map (othL nx.length)) (((othSets l k).take q).map fun s => setL s nx.length) rfl rfl Try.underlying78 info_r2 rfl rfl ((OJ.out.below BK.out).below BQ.out) OQ.out BK.out.size (Nat.le_trans BJ.out.size BK.out.size) (below_step BJ.out (below_step BK.out BQ.out)) (Nat.le_trans BJ.out.size (Nat.le_trans BK.out.size BQ.out.size)) (by rw [List.length_map, List.length_take]; omega) ?_
                           intro v8 w8 ho8 hb8 hg8
                           have B8 := Aside0.mk hb8
                           have O8 := Aside0.mk ho8
                           clear ho8 hb8 hg8)
                        | fail)
                      go_roundg (r.length - (j + 1))
                      case measure => omega
                      case rel => exact ⟨j + 1, by omega, by omega, by go_num, B8, ⟨by rw [HTK.out, List.map_append, HLJ.out]; have := O8.out; rw [HOL.out] at this; exact this⟩⟩
            · have hje : j = r.length := by omega
              subst hje
              obtain ⟨A7, c7, rfl⟩ := OJ.out.slice
              obtain ⟨n7, hn7⟩ : ∃ n7, ((r.take r.length).map (othL nx.length)).length = n7 := ⟨_, rfl⟩
              rw [hn7] at OJ ⊢
              clear hn7
              have M9 := Aside0.mk (MM.out.below BJ.out)
              have T9 := Aside0.mk (TT.out.below BJ.out)
              have HU := Aside0.mk TT.out.u
              have hb9 : bO < wr.heap.size := M9.out.lt
              have o2 : wr.cell? ⟨bO, 2, none⟩ = some vN := (blk_cell M9.out.o 2).trans rfl
              obtain ⟨AN, cN, rfl⟩ := Kd.S_slice T9.out.q
              have hlN : ((nx.take i).map fun r => r.map (othL nx.length)).length = i := by rw [List.length_map, List.length_take]; omega
              rw [hlN] at o2 M9 T9
              have HLN := Aside0.mk hlN
              clear hlN
              have HTK := Aside0.mk (take_snoc' nx hlt)
              go_wp2_with (first
                | (at_builtin
                   refine two_push_row (Kd.slice 22 (Kd.slice 3 (Kd.int .i64))) (w0 := wr) (bO + 1) u' wc.heap.size wr.heap.size _ _ 75 78 42 vM (.slice AN i cN) _ ((ms.take (i + 1)).map fun m => 1 - m) ((nx.take i).map fun r => r.map (othL nx.length)) ((r.take r.length).map (othL nx.length)) s1' s2 rfl rfl Try.underlying75 info_r3 rfl rfl T9.out OJ.out HU.out hxc BJ.out.size (Below.refl _ _) (by have := HLN.out; omega) ?_
                   intro v8 w8 ht8 hb8 hg8
                   obtain ⟨A8, c8, rfl⟩ := Kd.S_slice ht8.q
                   have hl8 : ((nx.take i).map (fun r => r.map (othL nx.length)) ++ [(r.take r.length).map (othL nx.length)]).length = i + 1 := by rw [List.length_append, HLN.out]; rfl
                   rw [hl8] at ht8 ⊢
                   have M8 := Aside0.mk (M9.out.grown hg8 (fun k hk => Kd.S_base T9.out.q k hk))
                   have T8 := Aside0.mk ht8
                   have hz8 : bO < w8.heap.size := M8.out.lt
                   have q2 : w8.cell? ⟨bO, 2, none⟩ = some (.slice AN i cN) := (blk_cell M8.out.o 2).trans rfl
                   have qf2 := blk_frozen M8.out.o 2
                   clear ht8 hb8 hg8 hl8)
                | fail)
              go_roundg (nx.length - (i + 1))
              case measure => omega
              case rel => exact ⟨i + 1, w8.heap.size, .slice A8 (i + 1) c8, vM, s1', _, by omega, by omega, by go_num, ⟨M8.out.setN _⟩, ⟨by
                have := T8.out.set (a := ⟨bO, 2, none⟩) (by show bO < _; omega) (.slice A8 (i + 1) c8)
                rw [HTK.out, List.map_append, HRR.out]
                rw [List.take_length] at this
                exact this⟩⟩
      · have hie : i = nx.length := by omega
        subst hie
        have hbz : bO < wr.heap.size := MM.out.lt
        have hlo := MM.out.lo
        have hlo1 : w.heap.size + 1 < wr.heap.size := by omega
        obtain ⟨AN, cN, rfl⟩ := Kd.S_slice TT.out.q
        obtain ⟨AM, cM, rfl⟩ := Kd.R_slice TT.out.p
        have hlN : ((nx.take nx.length).map fun r => r.map (othL nx.length)).length = nx.length := by rw [List.length_map, List.length_take, Nat.min_self]
        have hlM : ((ms.take nx.length).map fun m => 1 - m).length = nx.length := by rw [List.length_map, List.length_take, HML.out, Nat.min_self]
        rw [hlN, hlM] at MM TT
        clear hlN hlM
        have Z1 := Aside0.mk MM.out.o
        have Z2 := Aside0.mk MM.out.r
        have t0 := (blk_cell Z1.out 0).trans rfl
        have tf0 := blk_frozen Z1.out 0
        have t1 := (blk_cell Z1.out 1).trans rfl
        have tf1 := blk_frozen Z1.out 1
        have t2 := (blk_cell Z1.out 2).trans rfl
        have tf2 := blk_frozen Z1.out 2
        have t3 := (blk_cell Z1.out 3).trans rfl
        have tf3 := blk_frozen Z1.out 3
        have r0 := (blk_cell Z2.out 0).trans rfl
        have rf0 := blk_frozen Z2.out 0
        have r1 := (blk_cell Z2.out 1).trans rfl
        have rf1 := blk_frozen Z2.out 1
        have r2 := (blk_cell Z2.out 2).trans rfl
        have rf2 := blk_frozen Z2.out 2
        have r3 := (blk_cell Z2.out 3).trans rfl
        have rf3 := blk_frozen Z2.out 3
        go_wp2
        refine bodyPost_ret (resA rfl _ _ (w.heap.size + 1) (.int .i64 (L : Int)) (.int .i64 (st : Int)) (.slice AN nx.length cN) (.slice AM nx.length cM) (.int .i64 0) rfl rfl (by go_simp) (by go_simp) (by go_simp) (by go_simp)) rfl ?_
        have hg1 : w.heap.size ≤ w.heap.size + 1 := by omega
        have hlt1 : w.heap.size + 1 < bO + 1 := by omega
        have hg3 : w.heap.size ≤ bO + 1 := by omega
        have eN : (nx.take nx.length).map (fun r => r.map (othL nx.length)) = othNx nx := by rw [List.take_length]; rfl
        have eM : (ms.take nx.length).map (fun m => 1 - m) = othMs ms := by rw [← HML.out, List.take_length]; rfl
        rw [eN, eM] at TT
        refine ⟨_, _, rfl, ?_, s2, s1, TT.out.ne, Kd.S_lower (base := bO + 1) ?_ hg3, Kd.R_lower (base := bO + 1) ?_ hg3⟩
        · with_reducible repeat (first | exact MM.out.b | refine below_set ?_ hg1)
        · with_reducible repeat (first | exact TT.out.q | refine Sg_set ?_ hlt1 _)
        · with_reducible repeat (first | exact TT.out.p | refine R_set' ?_ hlt1 _)
  · obtain ⟨er, her⟩ : ∃ er, aCheck L st nx ms = er := ⟨_, rfl⟩
    have HD : alOth L st nx ms = (0, 0, [], [], er) := by unfold alOth; rw [if_neg hc, her]
    rw [HD]
    clear HD
    rw [her] at hc
    have HER := Aside0.mk her
    have hne : (er != 0) = true := by simpa using hc
    clear her hc
    go_enter Try.func33, Try.ntmps33
    go_wp2_with (go_at_call 72
                 refine (al_Check L st A2 A3 c2 c3 nx ms _ (Kd.C_below HR2.out HB0.out) (Kd.C_below HR3.out HB0.out)).mono ?_
                 rintro e w1 ⟨rfl, hb1⟩
                 rw [HER.out]
                 have B1 := Aside0.mk (below_step HB0.out hb1)
                 have Z1 := Aside0.mk (show w1.heap[w.heap.size + 1]? = some (.cells #[.int .i64 0, .int .i64 0, .slice none 0 0, .slice none 0 0] 77 (0, 0)) from blk_below (blk_newn _ _ _ (by simp)) hb1)
                 have zl : w.heap.size + 1 < w1.heap.size := blk_lt Z1.out
                 have r0 := (blk_cell Z1.out 0).trans rfl
                 have rf0 := blk_frozen Z1.out 0
                 have r1 := (blk_cell Z1.out 1).trans rfl
                 have rf1 := blk_frozen Z1.out 1
                 have r2 := (blk_cell Z1.out 2).trans rfl
                 have rf2 := blk_frozen Z1.out 2
                 have r3 := (blk_cell Z1.out 3).trans rfl
                 have rf3 := blk_frozen Z1.out 3
                 clear hb1)
    refine bodyPost_ret (resA rfl _ _ (w.heap.size + 1) (.int .i64 0) (.int .i64 0) (.slice none 0 0) (.slice none 0 0) (.int .i64 er) rfl rfl (by go_simp) (by go_simp) (by go_simp) (by go_simp)) rfl ?_
    refine ⟨_, _, rfl, ?_, fun _ => True, fun _ => False, fun _ h => h.elim, Kd.S_nil _ _ _ _ _, Kd.R_nil _ _ _ _ _⟩
    with_reducible repeat (first | exact B1.out | refine below_set ?_ (Nat.le_succ _))
end Go.Proofs.Ytjabncedfjjbjaa.H
