/- Hand-proved: det.Smallest. -/
import Derived.Test.YtampgoendkjkhaaCls
import Derived.BigQuiet
namespace Go.Proofs.Ytampgoendkjkhaa.H
open Go.RowKit Go.Shelf Go.Proofs.YtampgoendkjkhaaW.PrintWords Go.Proofs.Ytampgoendkjkhaa.DtM
set_option linter.unusedVariables false
set_option linter.unusedSimpArgs false
/-- a state of each class -/
def ofN (n : Nat) (cl : Nat → Int) : Nat → List Int
  | 0 => List.replicate n 0
  | q + 1 => (ofN n cl q).set (cl q).toNat (q : Int)
theorem ofN_len (n : Nat) (cl : Nat → Int) : ∀ q, (ofN n cl q).length = n
  | 0 => by simp [ofN]
  | q + 1 => by rw [ofN, List.length_set, ofN_len n cl q]
theorem ofN_has {n : Nat} {cl : Nat → Int} (h : ∀ q, q < n → 0 ≤ cl q ∧ cl q < (n : Int)) : ∀ q, q ≤ n → ∀ p, p < q → ∃ r : Nat, r < q ∧ (ofN n cl q).getD (cl p).toNat 0 = (r : Int) ∧ cl r = cl p
  | 0, _, p, hp => by omega
  | q + 1, hq, p, hp => by
    have h1 := h q (by omega)
    have h2 := h p (by omega)
    by_cases e : cl q = cl p
    · refine ⟨q, by omega, ?_, e⟩
      rw [ofN, e, List.getD_eq_getElem?_getD, List.getElem?_set_self (by rw [ofN_len]; omega), Option.getD_some]
    · have hpq : p < q := by
        rcases Nat.lt_or_ge p q with g | g
        · exact g
        · exact absurd (by rw [show p = q by omega]) e
      obtain ⟨r, hr1, hr2, hr3⟩ := ofN_has h q (by omega) p hpq
      refine ⟨r, by omega, ?_, hr3⟩
      rw [ofN, List.getD_eq_getElem?_getD, List.getElem?_set_ne (by omega), ← List.getD_eq_getElem?_getD]
      exact hr2
def ofF (n : Nat) (cl : Nat → Int) (c : Int) : Nat := ((ofN n cl n).getD c.toNat 0).toNat
theorem ofF_cl {n : Nat} {cl : Nat → Int} (h : ∀ q, q < n → 0 ≤ cl q ∧ cl q < (n : Int)) {p : Nat} (hp : p < n) : cl (ofF n cl (cl p)) = cl p := by
  obtain ⟨r, h1, h2, h3⟩ := ofN_has h n (Nat.le_refl _) p hp
  unfold ofF
  rw [h2, Int.toNat_natCast, h3]
theorem ofN_lt (n : Nat) (cl : Nat → Int) : ∀ q i, 0 ≤ (ofN n cl q).getD i 0 ∧ ((ofN n cl q).getD i 0 < (q : Int) ∨ (ofN n cl q).getD i 0 = 0)
  | 0, i => by
    unfold ofN
    rw [List.getD_eq_getElem?_getD, List.getElem?_replicate]
    split <;> simp
  | q + 1, i => by
    have := ofN_lt n cl q i
    unfold ofN
    rw [List.getD_eq_getElem?_getD, List.getElem?_set]
    split
    · split
      · simp; omega
      · simp
    · rw [← List.getD_eq_getElem?_getD]; omega
def clF (L : Nat) (nx : List (List Int)) (ms : List Int) : Nat → Int := clsC nx.length L (nxF nx) (nx.length + 1) 0 (mkF ms)
theorem ofF_lt {n : Nat} {cl : Nat → Int} (hn : 0 < n) (c : Int) : ofF n cl c < n := by
  have := ofN_lt n cl n c.toNat
  unfold ofF
  omega
theorem ofF_at (n : Nat) (cl : Nat → Int) (i : Nat) : (ofN n cl n).getD i 0 = (ofF n cl (i : Int) : Int) := by
  have := ofN_lt n cl n i
  unfold ofF
  rw [Int.toNat_natCast]
  omega
theorem nx_row {L : Nat} {nx : List (List Int)} {ms : List Int} (h : DetOk L nx ms) {q : Nat} (hq : q < nx.length) : (nx.getD q []).length = L := by
  rw [List.getD_eq_getElem?_getD, List.getElem?_eq_getElem hq, Option.getD_some]
  exact h.row _ (List.getElem_mem hq)
theorem nxF_at {L : Nat} {nx : List (List Int)} {ms : List Int} (h : DetOk L nx ms) {q a : Nat} (hq : q < nx.length) (ha : a < L) : (nx.getD q []).getD a 0 = (nxF nx q a : Int) := by
  have hm := List.getElem_mem hq
  have hl := h.row _ hm
  have := h.tos _ hm (nx[q][a]'(by omega)) (List.getElem_mem _)
  have e1 : nx.getD q [] = nx[q] := by rw [List.getD_eq_getElem?_getD, List.getElem?_eq_getElem hq, Option.getD_some]
  have e2 : nx[q].getD a 0 = nx[q][a]'(by omega) := by rw [List.getD_eq_getElem?_getD, List.getElem?_eq_getElem (by omega), Option.getD_some]
  unfold nxF
  rw [e1, e2]
  omega
theorem add_block (ad : Addr) (k : Nat) : (ad.add k).block = ad.block := by unfold Addr.add; split <;> rfl
set_option maxHeartbeats 16000000 in
set_option maxRecDepth 100000 in
theorem sm1_calls (b1 b3 b4 bn : Nat) (A0 A2 : Option Addr) (c0 c2 cn n L : Nat) (x0 x1 x3 : Value) (nx : List (List Int)) (cls ofl : List Int) (W : World) (hbox : W.heap[b1]? = some (.cells #[x0, x1, .slice A0 n c0, x3] 101 (0, 0))) (hcl : W.heap[b3]? = some (.cells #[.slice A2 n c2] 22 (0, 0))) (hof : W.heap[b4]? = some (.cells #[.slice (some ⟨bn, 0, none⟩) n cn] 22 (0, 0)))
    (hR : Kd.C (Kd.slice 3 (Kd.int .i64)) W A0 n nx) (hC : Kd.C (Kd.int .i64) W A2 n cls) (hO : Row W bn ofl cn) (k a : Nat) (hk : k < n) (ha : a < L) (hofl : ofl.length = n) (o t : Nat) (ho : ofl.getD k 0 = (o : Int)) (hon : o < n) (hrow : (nx.getD o []).length = L) (ht : (nx.getD o []).getD a 0 = (t : Int)) (htn : t < n) (x : Int) (hx : cls.getD t 0 = x) :
    Calls Try.prog 161 #[.int .i64 (k : Int), .int .i64 (a : Int), .pointer (some ⟨b3, 0, none⟩), .pointer (some ⟨b1, 0, none⟩), .pointer (some ⟨b4, 0, none⟩)] W fun e W' => e = .returned (.int .i64 x) ∧ Below W.heap.size W W' := by
  have hc1 := hO.cell (i := k) (by omega)
  rw [ho] at hc1
  obtain ⟨ad, ec, e0, _, ⟨A4, c4, rfl, hle, hro⟩, hc0⟩ := Kd.C_get hR [] (o : Int) (by omega) (by omega)
  subst e0
  rw [Int.toNat_natCast, hrow] at hle hro hc0
  have hc2 : W.cell? (ad.add o) = some (.slice A4 L c4) := by simpa [Kd.slice] using hc0 0 _ rfl
  obtain ⟨ad2, e2, hc3⟩ := Kd.at_int hro (a : Int) (by omega) (by omega)
  subst e2
  rw [Int.toNat_natCast, show rd (nx.getD o []) (a : Int) = (t : Int) from ht] at hc3
  obtain ⟨ad3, e3, hc4⟩ := Kd.at_int hC (t : Int) (by omega) (by omega)
  subst e3
  rw [Int.toNat_natCast, show rd cls (t : Int) = x from hx] at hc4
  have d1 : W.cell? ⟨b1, 2, none⟩ = some (.slice (some ad) n c0) := (blk_cell hbox 2).trans rfl
  have d2 : W.cell? ⟨b3, 0, none⟩ = some (.slice (some ad3) n c2) := (blk_cell hcl 0).trans rfl
  have d3 : W.cell? ⟨b4, 0, none⟩ = some (.slice (some ⟨bn, 0, none⟩) n cn) := (blk_cell hof 0).trans rfl
  have z1 : (k : Int) < (n : Int) := by omega
  have z2 : (o : Int) < (n : Int) := by omega
  have z3 : (a : Int) < (L : Int) := by omega
  have z4 : (t : Int) < (n : Int) := by omega
  clear hbox hcl hof hR hC hro hc0 ho ht hx
  go_enter Try.func161, Try.ntmps161
  go_wp2
  go_quiet (fail)
  go_wp2
  go_ret
  exact ⟨rfl, by repeat (first | exact Below.refl _ _ | apply below_drew1 | apply pw_below_drewN | apply below_alloc)⟩
set_option maxHeartbeats 16000000 in
set_option maxRecDepth 100000 in
theorem sm2_calls (b1 b4 bn : Nat) (A1 : Option Addr) (c1 cn n : Nat) (x0 x1 x2 : Value) (ms : List Int) (ofl : List Int) (W : World) (hbox : W.heap[b1]? = some (.cells #[x0, x1, x2, .slice A1 n c1] 101 (0, 0))) (hof : W.heap[b4]? = some (.cells #[.slice (some ⟨bn, 0, none⟩) n cn] 22 (0, 0)))
    (hC : Kd.C (Kd.int .i64) W A1 n ms) (hO : Row W bn ofl cn) (k : Nat) (hk : k < n) (hofl : ofl.length = n) (o : Nat) (ho : ofl.getD k 0 = (o : Int)) (hon : o < n) (x : Int) (hx : ms.getD o 0 = x) :
    Calls Try.prog 162 #[.int .i64 (k : Int), .pointer (some ⟨b1, 0, none⟩), .pointer (some ⟨b4, 0, none⟩)] W fun e W' => e = .returned (.int .i64 x) ∧ Below W.heap.size W W' := by
  have hc1 := hO.cell (i := k) (by omega)
  rw [ho] at hc1
  obtain ⟨ad3, e3, hc4⟩ := Kd.at_int hC (o : Int) (by omega) (by omega)
  subst e3
  rw [Int.toNat_natCast, show rd ms (o : Int) = x from hx] at hc4
  have d1 : W.cell? ⟨b1, 3, none⟩ = some (.slice (some ad3) n c1) := (blk_cell hbox 3).trans rfl
  have d3 : W.cell? ⟨b4, 0, none⟩ = some (.slice (some ⟨bn, 0, none⟩) n cn) := (blk_cell hof 0).trans rfl
  have z1 : (k : Int) < (n : Int) := by omega
  have z2 : (o : Int) < (n : Int) := by omega
  clear hbox hof hC ho hx
  go_enter Try.func162, Try.ntmps162
  go_wp2
  go_quiet (fail)
  go_wp2
  go_ret
  exact ⟨rfl, by repeat (first | exact Below.refl _ _ | apply below_drew1 | apply pw_below_drewN | apply below_alloc)⟩
theorem resC {fn : Func} {p : Tmp} (h : fn.results = #[.cell p 101]) (tmps : Array Value) (W : World) (g : Nat) (x0 x1 x2 x3 : Value) (hp : tmps.getD p undef = .pointer (some ⟨g, 0, none⟩))
    (h0 : W.cell? ⟨g, 0, none⟩ = some x0) (h1 : W.cell? ⟨g, 1, none⟩ = some x1) (h2 : W.cell? ⟨g, 2, none⟩ = some x2) (h3 : W.cell? ⟨g, 3, none⟩ = some x3) : (results fn tmps).run Try.prog W = .ok (.agg #[x0, x1, x2, x3]) W := by
  have hu := Try.underlying101
  have hp' : tmps[p]?.getD undef = .pointer (some ⟨g, 0, none⟩) := by simpa using hp
  simp only [results, h]
  go_simp
theorem R_set' {W : World} {B : Nat} {ok : Nat → Prop} {v : Value} {l : List Int} (h : Kd.R (Kd.int .i64) 3 W B ok v l) {p : Addr} (hp : p.block < B) (u : Value) : Kd.R (Kd.int .i64) 3 (W.setCell p u) B ok v l :=
  Kd.R_mono (Kd.R_step (Kd.R_bound h) (fun k ho _ => Below.heap_setCell W p u k (by have := ho.2.1; omega))) (fun _ h => h.1)
theorem S_set' {W : World} {B : Nat} {ok : Nat → Prop} {v : Value} {l : List (List Int)} (h : Kd.S (Kd.slice 3 (Kd.int .i64)) 22 W B ok v l) {p : Addr} (hp : p.block < B) (u : Value) : Kd.S (Kd.slice 3 (Kd.int .i64)) 22 (W.setCell p u) B ok v l :=
  Kd.S_mono (Kd.S_step (Kd.S_bound h) (fun k ho _ => Below.heap_setCell W p u k (by have := ho.2.1; omega))) (fun _ h => h.1)
theorem R_al' {W : World} {B : Nat} {ok : Nat → Prop} {v : Value} {l : List Int} (h : Kd.R (Kd.int .i64) 3 W B ok v l) (o : Obj) : Kd.R (Kd.int .i64) 3 (W.alloc o) B ok v l := Kd.R_below h (below_alloc (Below.refl _ _) o)
theorem S_al' {W : World} {B : Nat} {ok : Nat → Prop} {v : Value} {l : List (List Int)} (h : Kd.S (Kd.slice 3 (Kd.int .i64)) 22 W B ok v l) (o : Obj) : Kd.S (Kd.slice 3 (Kd.int .i64)) 22 (W.alloc o) B ok v l :=
  Kd.S_step h (fun k _ hl => (below_alloc (Below.refl _ _) o).block k hl)
structure SmaM (w1 wr : World) (A2 : Option Addr) (c2 bn cn b4 n : Nat) (l : List Int) : Prop where
  b : Below w1.heap.size w1 wr
  c : wr.heap[w1.heap.size]? = some (.cells #[.slice A2 n c2] 22 (0, 0))
  o : wr.heap[b4]? = some (.cells #[.slice (some ⟨bn, 0, none⟩) n cn] 22 (0, 0))
  r : Row wr bn l cn
theorem SmaM.set {w1 wr : World} {A2 : Option Addr} {c2 bn cn b4 n : Nat} {l l' : List Int} (h : SmaM w1 wr A2 c2 bn cn b4 n l) (h1 : w1.heap.size < bn) (h2 : bn < b4) (c q : Nat) (hc : c < n) (e : l' = l.set c (q : Int)) (hl : l.length = n) : SmaM w1 (wr.setCell ⟨bn, c, none⟩ (.int .i64 (q : Int))) A2 c2 bn cn b4 n l' :=
  ⟨below_set h.b (by show _ ≤ bn; omega), blk_far h.c (p := ⟨bn, c, none⟩) (by show _ ≠ bn; omega) _, blk_far h.o (p := ⟨bn, c, none⟩) (by show _ ≠ bn; omega) _, by rw [e]; exact h.r.set (by omega) _⟩
theorem SmaM.below {w1 wr W : World} {A2 : Option Addr} {c2 bn cn b4 n : Nat} {l : List Int} (h : SmaM w1 wr A2 c2 bn cn b4 n l) (hb : Below wr.heap.size wr W) : SmaM w1 W A2 c2 bn cn b4 n l :=
  ⟨below_step h.b hb, blk_below h.c hb, blk_below h.o hb, h.r.below hb⟩
set_option maxHeartbeats 16000000 in
set_option maxRecDepth 100000 in
theorem smallest_calls (A0 A1 : Option Addr) (c0 c1 L st : Nat) (nx : List (List Int)) (ms : List Int) (w : World) (hr0 : Kd.C (Kd.slice 3 (Kd.int .i64)) w A0 nx.length nx) (hc0 : nx.length ≤ c0) (hr1 : Kd.C (Kd.int .i64) w A1 ms.length ms) (hc1 : ms.length ≤ c1) (hok : DetOk L nx ms) (hst : st < nx.length) :
    Calls Try.prog 98 #[.agg #[.int .i64 (L : Int), .int .i64 (st : Int), .slice A0 nx.length c0, .slice A1 ms.length c1]] w fun e w' => ∃ vN vM : Value, e = .returned (.agg #[.int .i64 (L : Int), .int .i64 0, vN, vM]) ∧ Below w.heap.size w w' ∧
      ∃ sN sM : Nat → Prop, (∀ k, sM k → ¬ sN k) ∧ Kd.S (Kd.slice 3 (Kd.int .i64)) 22 w' w.heap.size sN vN (rowsL (fS (nxF nx) (clF L nx ms) (ofF nx.length (clF L nx ms))) L (listS L (nxF nx) (clF L nx ms) (ofF nx.length (clF L nx ms)) (nx.length + 1) st)) ∧ Kd.R (Kd.int .i64) 3 w' w.heap.size sM vM ((listS L (nxF nx) (clF L nx ms) (ofF nx.length (clF L nx ms)) (nx.length + 1) st).map fun c => mkF ms (ofF nx.length (clF L nx ms) c)) := by
  have eN : ms.length = nx.length := hok.len
  rw [eN] at hr1 hc1 ⊢
  have EN := Aside0.mk eN
  have HR0 := Aside0.mk hr0
  have HR1 := Aside0.mk hr1
  have HC0 := Aside0.mk hc0
  have HC1 := Aside0.mk hc1
  have HOK := Aside0.mk hok
  have hcls := cls_all (n := nx.length) (L := L) (nx := nxF nx) (mk := mkF ms) (fun q a hq ha => nx_lt hok hq ha) hok.pos (nx.length + 1) (by omega)
  have HCLS := Aside0.mk hcls.2
  have hN : nx.length ≤ 65536 := hok.big
  have HNP := Aside0.mk hok.pos
  have HB0 := Aside0.mk (below_alloc (below_alloc (Below.refl w.heap.size w) (.cells #[.int .i64 (L : Int), .int .i64 (st : Int), .slice A0 nx.length c0, .slice A1 nx.length c1] 101)) (.cells #[.int .i64 0, .int .i64 0, .slice none 0 0, .slice none 0 0] 101))
  clear hr0 hr1 hok hcls eN
  go_enter Try.func98, Try.ntmps98
  go_wp2_with (first
    | (go_at_call 160
       have hcc := classes_calls A0 A1 c0 c1 L (st : Int) nx ms _ (Kd.C_below HR0.out HB0.out) HC0.out (by rw [EN.out]; exact Kd.C_below HR1.out HB0.out) (by rw [EN.out]; exact HC1.out) HOK.out
       rw [EN.out] at hcc
       refine hcc.mono ?_
       clear hcc
       rintro e w1 ⟨v1, rfl, hb1, ho1⟩
       obtain ⟨A2, c2, rfl⟩ := Kd.R_slice ho1
       simp only [List.length_map, List.length_range] at ho1 ⊢
       have HO1 := Aside0.mk (show Kd.R (Kd.int .i64) 3 w1 (w.heap.size + 2) (fun _ => True) (.slice A2 nx.length c2) ((List.range nx.length).map (clF L nx ms)) from Kd.R_lower ho1 (by simp))
       have hAb : ∀ b, (Value.slice A2 nx.length c2).ownBlock = some b → w.heap.size + 2 ≤ b := fun b hb => by have := Kd.R_base ho1 b hb; simpa using this
       have HAB := Aside0.mk hAb
       clear hAb
       have HB1 := Aside0.mk (below_step HB0.out hb1)
       have zx : w1.heap[w.heap.size]? = some (.cells #[.int .i64 (L : Int), .int .i64 (st : Int), .slice A0 nx.length c0, .slice A1 nx.length c1] 101 (0, 0)) := blk_below (blk_alloc (blk_new w _) _) hb1
       have zy : w1.heap[w.heap.size + 1]? = some (.cells #[.int .i64 0, .int .i64 0, .slice none 0 0, .slice none 0 0] 101 (0, 0)) := blk_below (blk_newn _ _ _ (by simp)) hb1
       have HZX := Aside0.mk zx
       have HZY := Aside0.mk zy
       clear ho1 hb1 zx zy)
    | ((with_reducible refine gate_dst (N := 13) rfl ?_)
       refine Kd.R_make (Kd.int .i64) (w0 := w1.alloc (.cells #[.slice A2 nx.length c2] 22)) (w1.alloc (.cells #[.slice A2 nx.length c2] 22)).heap.size 3 rfl rfl 22 (.tmp 12) (.tmp 12) rfl (nx.length : Int) rfl rfl Try.underlying22 (.int .i64 0) 8 int3 rfl (by decide) (by decide) (0 : Int) (ok := fun k => (w1.alloc (.cells #[.slice A2 nx.length c2] 22)).heap.size ≤ k) (okp := fun _ => False) rfl (fun _ h => h.elim) (Nat.le_refl _) (by omega) (by omega) (Below.refl _ _) (Nat.le_refl _) ?_
       intro v2 w2 hr2 hb2 hg2 hat2
       rw [Int.toNat_natCast] at hr2
       obtain ⟨bn, ebn, hbn⟩ := hat2
       obtain ⟨A3, cn, ev⟩ := Kd.R_slice hr2
       subst ev
       obtain ⟨a2, rfl⟩ : ∃ a2, A3 = some a2 := by cases A3 with
         | none => simp [Value.ownBlock] at ebn
         | some a => exact ⟨a, rfl⟩
       obtain ⟨bn', rfl, hl2, hrow, _, _⟩ := row_of_R hr2
       obtain rfl : bn' = bn := by simpa [Value.ownBlock] using ebn
       have RN := Aside0.mk hrow
       have HBN := Aside0.mk (show w1.heap.size < bn' by simp at hbn; omega)
       have BB2 := Aside0.mk (show Below w1.heap.size w1 w2 from below_step (below_alloc (Below.refl _ _) _) hb2)
       have CB2 := Aside0.mk (show w2.heap[w1.heap.size]? = some (.cells #[.slice A2 nx.length c2] 22 (0, 0)) from blk_below (blk_new w1 _) hb2)
       have y2 : w2.cell? ⟨w1.heap.size, 0, none⟩ = some (.slice A2 nx.length c2) := (blk_cell CB2.out 0).trans rfl
       have z2 : w1.heap.size < w2.heap.size := blk_lt CB2.out
       rw [List.length_replicate]
       clear hr2 hb2 hg2 hrow ebn hl2 hbn)
    | fail)
  obtain ⟨b4, hb4⟩ : ∃ b4, w2.heap.size = b4 := ⟨_, rfl⟩
  have S0 := Aside0.mk (show SmaM w1 (w2.alloc (.cells #[.slice (some ⟨bn', 0, none⟩) nx.length cn] 22)) A2 c2 bn' cn b4 nx.length (ofN nx.length (clF L nx ms) 0) from
    ⟨below_alloc BB2.out _, blk_alloc CB2.out _, by rw [← hb4]; exact blk_new w2 _, RN.out.below (below_alloc (Below.refl _ _) _)⟩)
  have HB4 := Aside0.mk (show bn' < b4 by rw [← hb4]; exact RN.out.lt)
  rw [hb4]
  generalize w2.alloc (.cells #[.slice (some ⟨bn', 0, none⟩) nx.length cn] 22) = W3 at S0 ⊢
  clear hb4 y2 z2 BB2 CB2 RN
  go_loopg [16] nx.length (fun gg s16 wq => ∃ q : Nat, q ≤ nx.length ∧ nx.length - q ≤ gg ∧ s16 = .int .i64 (q : Int) ∧ Aside0 (SmaM w1 wq A2 c2 bn' cn b4 nx.length (ofN nx.length (clF L nx ms) q)))
  case atStart => exact ⟨0, Nat.zero_le _, by omega, rfl, S0⟩
  case round =>
    obtain ⟨q, hq, hgq, rfl, MM⟩ := hrel
    clear S0
    by_cases hlt : q < nx.length
    · have hltz : (q : Int) < (nx.length : Int) := by omega
      obtain ⟨ad, e, hc⟩ := Kd.at_int (Kd.C_below (Kd.R_reads' HO1.out).2.2 MM.out.b) (q : Int) (by omega) (by simpa using hltz)
      subst e
      obtain ⟨cc, hcc⟩ : ∃ cc : Nat, clF L nx ms q = (cc : Int) := ⟨(clF L nx ms q).toNat, by have := (HCLS.out q hlt).1; unfold clF; omega⟩
      have hccn : cc < nx.length := by have := (HCLS.out q hlt).2; unfold clF at hcc; omega
      rw [Int.toNat_natCast, show rd ((List.range nx.length).map (clF L nx ms)) q = (cc : Int) from by rw [← hcc]; unfold rd; rw [Int.toNat_natCast, List.getD_eq_getElem?_getD, List.getElem?_map, List.getElem?_range hlt]; rfl] at hc
      have y4 : wr.cell? ⟨b4, 0, none⟩ = some (.slice (some ⟨bn', 0, none⟩) nx.length cn) := (blk_cell MM.out.o 0).trans rfl
      have hf := MM.out.r.frozen cc
      have hcell := MM.out.r.cell (i := cc) (by rw [ofN_len]; exact hccn)
      have hccz : (cc : Int) < (nx.length : Int) := by omega
      have HCC := Aside0.mk (And.intro hcc hccn)
      clear hcc
      go_wp2
      go_roundg (nx.length - (q + 1))
      case measure => omega
      case rel => exact ⟨q + 1, by omega, by omega, by go_num, ⟨MM.out.set HBN.out HB4.out cc q hccn (by rw [ofN, HCC.out.1, Int.toNat_natCast]) (ofN_len _ _ _)⟩⟩
    · have hqe : q = nx.length := by omega
      subst hqe
      go_wp2
      obtain ⟨cl, hcl⟩ : ∃ cl, clF L nx ms = cl := ⟨_, rfl⟩
      have HCL := Aside0.mk hcl
      have hclb : ∀ q, q < nx.length → 0 ≤ cl q ∧ cl q < (nx.length : Int) := fun q hq => by rw [← hcl]; exact HCLS.out q hq
      have HCLB := Aside0.mk hclb
      rw [hcl] at HO1 MM
      clear hcl hclb
      have HNX := Aside0.mk (show ∀ W8, Below wr.heap.size wr W8 → NextAt 161 #[.pointer (some ⟨w1.heap.size, 0, none⟩), .pointer (some ⟨w.heap.size, 0, none⟩), .pointer (some ⟨b4, 0, none⟩)] (fS (nxF nx) cl (ofF nx.length cl)) ((List.range nx.length).map fun i : Nat => (i : Int)) L W8 from by
        intro W8 h8 W k a hW hk ha
        obtain ⟨i, hi, rfl⟩ := List.mem_map.1 hk
        have hin := List.mem_range.1 hi
        have h9 := below_step h8 hW
        have M9 := MM.out.below h9
        have hof := ofF_lt (cl := cl) HNP.out (i : Int)
        have hbw := below_step HB1.out M9.b
        exact sm1_calls w.heap.size w1.heap.size b4 bn' A0 A2 c0 c2 cn nx.length L _ _ _ nx _ _ W (blk_below HZX.out M9.b) M9.c M9.o (Kd.C_below HR0.out hbw) (by have q := Kd.C_below (Kd.R_reads' HO1.out).2.2 M9.b; rwa [List.length_map, List.length_range] at q) M9.r i a hin ha (ofN_len _ _ _) (ofF nx.length cl (i : Int)) (nxF nx (ofF nx.length cl (i : Int)) a) (ofF_at _ _ _) hof (nx_row HOK.out hof) (nxF_at HOK.out hof ha) (nx_lt HOK.out hof ha) _ (by
          rw [List.getD_eq_getElem?_getD, List.getElem?_map, List.getElem?_range (nx_lt HOK.out hof ha)]
          rfl))
      have HMK := Aside0.mk (show ∀ W8, Below wr.heap.size wr W8 → MarkAt 162 #[.pointer (some ⟨w.heap.size, 0, none⟩), .pointer (some ⟨b4, 0, none⟩)] (fun c => mkF ms (ofF nx.length cl c)) ((List.range nx.length).map fun i : Nat => (i : Int)) W8 from by
        intro W8 h8 W k hW hk
        obtain ⟨i, hi, rfl⟩ := List.mem_map.1 hk
        have hin := List.mem_range.1 hi
        have h9 := below_step h8 hW
        have M9 := MM.out.below h9
        have hof := ofF_lt (cl := cl) HNP.out (i : Int)
        have hbw := below_step HB1.out M9.b
        exact sm2_calls w.heap.size b4 bn' A1 c1 cn nx.length _ _ _ ms _ W (blk_below HZX.out M9.b) M9.o (Kd.C_below HR1.out hbw) M9.r i hin (ofN_len _ _ _) (ofF nx.length cl (i : Int)) (ofF_at _ _ _) hof _ rfl)
      have hbx := blk_below HZX.out MM.out.b
      have x0 : wr.cell? ⟨w.heap.size, 0, none⟩ = some (.int .i64 (L : Int)) := (blk_cell hbx 0).trans rfl
      have x1 : wr.cell? ⟨w.heap.size, 1, none⟩ = some (.int .i64 (st : Int)) := (blk_cell hbx 1).trans rfl
      have xl : w.heap.size < wr.heap.size := blk_lt hbx
      obtain ⟨ad, e, hc⟩ := Kd.at_int (Kd.C_below (Kd.R_reads' HO1.out).2.2 MM.out.b) (st : Int) (by omega) (by simpa using hst)
      subst e
      obtain ⟨x, hx⟩ : ∃ x, cl st = x := ⟨_, rfl⟩
      rw [Int.toNat_natCast, show rd ((List.range nx.length).map cl) st = x from by rw [← hx]; unfold rd; rw [Int.toNat_natCast, List.getD_eq_getElem?_getD, List.getElem?_map, List.getElem?_range hst]; rfl] at hc
      have y3 : wr.cell? ⟨w1.heap.size, 0, none⟩ = some (.slice (some ad) nx.length c2) := (blk_cell MM.out.c 0).trans rfl
      have y3l : w1.heap.size < wr.heap.size := blk_lt MM.out.c
      have hcl8 : ad.block < wr.heap.size := by have := World.block_lt_of_cell? _ (ad.add st) hc; rwa [add_block] at this
      have hc8 : (wr.alloc (.cells #[.int .i64 0, .int .i64 0, .slice none 0 0, .slice none 0 0] 101)).cell? (ad.add st) = some (.int .i64 x) := pw_cell_below (below_alloc (Below.refl _ _) _) hc
      have hstz : (st : Int) < (nx.length : Int) := by omega
      have HX := Aside0.mk hx
      have HXU := Aside0.mk (show x ∈ (List.range nx.length).map fun i : Nat => (i : Int) from by
        have := HCLB.out st hst
        rw [hx] at this
        exact List.mem_map.2 ⟨x.toNat, List.mem_range.2 (by omega), by omega⟩)
      have HFU := Aside0.mk (show ∀ (k : Int) (a : Nat), k ∈ ((List.range nx.length).map fun i : Nat => (i : Int)) → a < L → fS (nxF nx) cl (ofF nx.length cl) k a ∈ ((List.range nx.length).map fun i : Nat => (i : Int)) from fun k a hk ha => by
        have := HCLB.out (nxF nx (ofF nx.length cl k) a) (nx_lt HOK.out (ofF_lt HNP.out k) ha)
        exact List.mem_map.2 ⟨(cl (nxF nx (ofF nx.length cl k) a)).toNat, List.mem_range.2 (by omega), by unfold fS; omega⟩)
      have HUK := Aside0.mk (show ∀ k ∈ ((List.range nx.length).map fun i : Nat => (i : Int)), -9223372036854775808 ≤ k ∧ k ≤ 9223372036854775807 from fun k hk => by
        obtain ⟨i, hi, rfl⟩ := List.mem_map.1 hk
        have := List.mem_range.1 hi
        omega)
      clear hx hbx
      have HMS := Aside0.mk (show ∀ W, Below wr.heap.size wr W → (Below wr.heap.size wr W ∧ W.cell? ⟨w.heap.size, 0, none⟩ = some (.int .i64 (L : Int)) ∧ W.cell? ⟨w.heap.size, 1, none⟩ = some (.int .i64 (st : Int)) ∧ W.cell? ⟨w1.heap.size, 0, none⟩ = some (.slice (some ad) nx.length c2) ∧ W.cell? (ad.add st) = some (.int .i64 x)) from fun W hb => ⟨hb, pw_cell_below hb x0, pw_cell_below hb x1, pw_cell_below hb y3, pw_cell_below hb hc⟩)
      have hwr : IntKind.i64.wrap ((nx.length : Int) + 1) = (nx.length : Int) + 1 := IntWalk.i64_in _ (by omega)
      go_region_held3 (fun W => Below wr.heap.size wr W ∧ W.cell? ⟨w.heap.size, 0, none⟩ = some (.int .i64 (L : Int)) ∧ W.cell? ⟨w.heap.size, 1, none⟩ = some (.int .i64 (st : Int)) ∧ W.cell? ⟨w1.heap.size, 0, none⟩ = some (.slice (some ad) nx.length c2) ∧ W.cell? (ad.add st) = some (.int .i64 x))
       (first
        | exact HMS.out _ (by repeat (first | exact Below.refl _ _ | exact B9.out | (go_split_ands; assumption) | apply below_drew1 | apply below_alloc | (refine below_set ?_ (by first | (simp; done) | (have := B9.out.size; simp; omega)))))
        | fail)
       (first
        | (go_at_call 153
           refine (explore_calls 161 162 _ _ (fun _ _ => rfl) (fun _ _ => rfl) L x _ (fS (nxF nx) cl (ofF nx.length cl)) (fun c => mkF ms (ofF nx.length cl c)) ((List.range nx.length).map fun i : Nat => (i : Int)) _ (HNX.out _ (by go_split_ands; assumption)) (HMK.out _ (by go_split_ands; assumption)) HOK.out.L1 (by have := HOK.out.L4; omega) HXU.out ?aU ?aK ?aL ?aM).mono ?_
           (case aU => exact HFU.out)
           (case aK => exact HUK.out)
           (case aL => simp; omega)
           (case aM => rw [List.length_map, List.length_range]; omega)
           rintro e w9 ⟨vN, vM, rfl, hb9, sN, sM, hd9, hN9, hM9⟩
           obtain ⟨AN, cN, rfl⟩ := Kd.S_slice hN9
           obtain ⟨AM, cM, rfl⟩ := Kd.R_slice hM9
           obtain ⟨lN, hlN⟩ : ∃ lN, (rowsL (fS (nxF nx) cl (ofF nx.length cl)) L (expL (fS (nxF nx) cl (ofF nx.length cl)) L (((List.range nx.length).map fun i : Nat => (i : Int)).length + 1) [x] 0)) = lN := ⟨_, rfl⟩
           obtain ⟨lM, hlM⟩ : ∃ lM, (expL (fS (nxF nx) cl (ofF nx.length cl)) L (((List.range nx.length).map fun i : Nat => (i : Int)).length + 1) [x] 0).map (fun c => mkF ms (ofF nx.length cl c)) = lM := ⟨_, rfl⟩
           rw [hlN] at hN9 ⊢
           rw [hlM] at hM9 ⊢
           have HLN := Aside0.mk hlN
           have HLM := Aside0.mk hlM
           clear hlN hlM
           have HD9 := Aside0.mk hd9
           (first
            | (have HN9 : Aside0 (Kd.S (Kd.slice 3 (Kd.int .i64)) 22 w9 (wr.heap.size + 1) sN (.slice AN lN.length cN) lN) := by (refine ⟨Kd.S_lower hN9 ?_⟩; simp; done)
               have HM9 : Aside0 (Kd.R (Kd.int .i64) 3 w9 (wr.heap.size + 1) sM (.slice AM lM.length cM) lM) := by (refine ⟨Kd.R_lower hM9 ?_⟩; simp; done))
            | (have HN9 : Aside0 (Kd.S (Kd.slice 3 (Kd.int .i64)) 22 w9 wr.heap.size sN (.slice AN lN.length cN) lN) := by (refine ⟨Kd.S_lower hN9 ?_⟩; simp; done)
               have HM9 : Aside0 (Kd.R (Kd.int .i64) 3 w9 wr.heap.size sM (.slice AM lM.length cM) lM) := by (refine ⟨Kd.R_lower hM9 ?_⟩; simp; done)))
           have B9 := Aside0.mk (show Below wr.heap.size wr w9 from below_step (by go_split_ands; assumption) hb9)
           have Z9 := Aside0.mk (blk_below (blk_below HZY.out MM.out.b) B9.out)
           have zl9 : w.heap.size + 1 < w9.heap.size := blk_lt Z9.out
           have r0 : w9.cell? ⟨w.heap.size + 1, 0, none⟩ = some (.int .i64 0) := (blk_cell Z9.out 0).trans rfl
           have r1 : w9.cell? ⟨w.heap.size + 1, 1, none⟩ = some (.int .i64 0) := (blk_cell Z9.out 1).trans rfl
           have r2 : w9.cell? ⟨w.heap.size + 1, 2, none⟩ = some (.slice none 0 0) := (blk_cell Z9.out 2).trans rfl
           have r3 : w9.cell? ⟨w.heap.size + 1, 3, none⟩ = some (.slice none 0 0) := (blk_cell Z9.out 3).trans rfl
           have f0 := blk_frozen Z9.out 0
           have f1 := blk_frozen Z9.out 1
           have f2 := blk_frozen Z9.out 2
           have f3 := blk_frozen Z9.out 3
           try
             have q9 : w9.heap[wr.heap.size]? = some (.cells #[.int .i64 0, .int .i64 0, .slice none 0 0, .slice none 0 0] 101 (0, 0)) := by
               refine blk_below ?_ hb9
               exact blk_new wr _
             have ql : wr.heap.size < w9.heap.size := blk_lt q9
             have q0 : w9.cell? ⟨wr.heap.size, 0, none⟩ = some (.int .i64 0) := (blk_cell q9 0).trans rfl
             have q1 : w9.cell? ⟨wr.heap.size, 1, none⟩ = some (.int .i64 0) := (blk_cell q9 1).trans rfl
             have q2 : w9.cell? ⟨wr.heap.size, 2, none⟩ = some (.slice none 0 0) := (blk_cell q9 2).trans rfl
             have q3 : w9.cell? ⟨wr.heap.size, 3, none⟩ = some (.slice none 0 0) := (blk_cell q9 3).trans rfl
             have g0 := blk_frozen q9 0
             have g1 := blk_frozen q9 1
             have g2 := blk_frozen q9 2
             have g3 := blk_frozen q9 3
             have gd : wr.heap.size ≠ w.heap.size + 1 := by have := blk_lt (blk_below HZY.out MM.out.b); omega
             have Q9 := Aside0.mk q9
             clear q9
           clear hd9 hN9 hM9 hb9)
        | fail)
      all_goals go_wp2
      all_goals
        refine bodyPost_ret (resC rfl _ _ (w.heap.size + 1) (.int .i64 (L : Int)) (.int .i64 0) (.slice AN lN.length cN) (.slice AM lM.length cM) rfl (by go_simp) (by go_simp) (by go_simp) (by go_simp)) rfl ?_
        have hle : w.heap.size + 1 < wr.heap.size := blk_lt (blk_below HZY.out MM.out.b)
        have hbw := below_step (below_step HB1.out MM.out.b) B9.out
        have eN : rowsL (fS (nxF nx) (clF L nx ms) (ofF nx.length (clF L nx ms))) L (listS L (nxF nx) (clF L nx ms) (ofF nx.length (clF L nx ms)) (nx.length + 1) st) = lN := by
          rw [HCL.out, ← HLN.out]; unfold listS; rw [HX.out, List.length_map, List.length_range]
        have eM : (listS L (nxF nx) (clF L nx ms) (ofF nx.length (clF L nx ms)) (nx.length + 1) st).map (fun c => mkF ms (ofF nx.length (clF L nx ms) c)) = lM := by
          rw [HCL.out, ← HLM.out]; unfold listS; rw [HX.out, List.length_map, List.length_range]
        rw [eN, eM]
        clear eN eM HNX HMK HFU HUK HXU HMS HCLB HOK HC0 HC1 HR0 HR1 HAB HCLS HO1
        have hlt1 : w.heap.size + 1 < wr.heap.size + 1 := by omega
        have hlt2 : wr.heap.size < wr.heap.size + 1 := by omega
        have hg1 : w.heap.size ≤ w.heap.size + 1 := by omega
        have hg2 : w.heap.size ≤ wr.heap.size := by omega
        have hg3 : w.heap.size ≤ wr.heap.size + 1 := by omega
        refine ⟨_, _, rfl, ?_, sN, sM, HD9.out, ?_, ?_⟩
        · with_reducible repeat (first | exact hbw | refine below_alloc ?_ _ | refine below_set ?_ hg1 | refine below_set ?_ hg2)
        · first
            | (refine Kd.S_lower (base := wr.heap.size + 1) ?_ hg3
               with_reducible repeat (first | exact HN9.out | refine S_al' ?_ _ | refine S_set' ?_ hlt1 _ | refine S_set' ?_ hlt2 _)
               done)
            | (refine Kd.S_lower (base := wr.heap.size) ?_ hg2
               with_reducible repeat (first | exact HN9.out | refine S_al' ?_ _ | refine S_set' ?_ hle _)
               done)
        · first
            | (refine Kd.R_lower (base := wr.heap.size + 1) ?_ hg3
               with_reducible repeat (first | exact HM9.out | refine R_al' ?_ _ | refine R_set' ?_ hlt1 _ | refine R_set' ?_ hlt2 _)
               done)
            | (refine Kd.R_lower (base := wr.heap.size) ?_ hg2
               with_reducible repeat (first | exact HM9.out | refine R_al' ?_ _ | refine R_set' ?_ hle _)
               done)
end Go.Proofs.Ytampgoendkjkhaa.H
