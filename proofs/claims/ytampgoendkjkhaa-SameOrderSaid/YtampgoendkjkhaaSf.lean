/- same.rounds, same.Classes. -/
import Derived.Test.YtampgoendkjkhaaSe
namespace Go.Proofs.Ytampgoendkjkhaa.H
open Go.RowKit Go.Shelf Go.Proofs.YtampgoendkjkhaaW.PrintWords Go.Proofs.YtampgoendkjkhaaW.PrintMore
set_option linter.unusedVariables false
set_option linter.unusedSimpArgs false
/-- rows of the call's own -/
structure RR (b u : Nat) (W : World) (v : Value) (ls : List (List Int)) : Prop where
  r : Kd.R (Kd.slice 3 (Kd.int .i64)) 22 W b (fun k => k < u) v ls
  u : u ≤ W.heap.size
theorem RR.raise {b u u' : Nat} {W : World} {v : Value} {ls : List (List Int)} (h : RR b u W v ls) (hu : u ≤ u') (hw : u' ≤ W.heap.size) : RR b u' W v ls := ⟨Kd.R_mono h.r (fun k hk => Nat.lt_of_lt_of_le hk hu), hw⟩
theorem RR.below' {b u B : Nat} {W W' : World} {v : Value} {ls : List (List Int)} (h : RR b u W v ls) (hb : Below B W W') (hu : u ≤ B) : RR b u W' v ls :=
  ⟨Kd.R_step h.r (fun k hk _ => hb.block k (Nat.lt_of_lt_of_le hk hu)), Nat.le_trans h.u hb.size⟩
section
variable {P : Program} {ops : Array Oper} {rest : List Oper} {o : Oper} {a : Act} {Q : Exit → Act → World → Prop}
theorem rr_push {W : World} (b u g cg : Nat) (s x : Operand) (t e : TypeId) (v : Value) (ls : List (List Int)) (p : List Int) (n : Nat) (hn : p.length = n) (hgd : o.guard = none)
    (ho : o.op = .call { callee := .builtin .append, args := #[s, x], argTypes := #[t, t] })
    (ht : P.underlying t = some (.slice e)) (he : e = 22) (hinfo : (P.info? e).map (fun i => (i.zero, i.size, i.bytes)) = some (some (.slice none 0 0), 1, 24))
    (hs : a.eval s = v) (hx : a.eval x = .slice (some ⟨W.heap.size, 0, none⟩) 1 1) (HO : RR b u W v ls) (HP : Row W g p cg) (hu : u ≤ g) (hb : b ≤ g) (hl : ls.length < 1000000)
    (h : ∀ v1 w1, RR b w1.heap.size w1 v1 (ls ++ [p]) → Below b W w1 → wpList P ops Q rest (a.put o.dst v1) w1) :
    wpList P ops Q (o :: rest) a (W.alloc (.cells #[.slice (some ⟨g, 0, none⟩) n cg] e)) := by
  subst he hn
  refine Kd.R_append (Kd.slice 3 (Kd.int .i64)) (w0 := W) b hgd s x t 22 (.slice none 0 0) 24 ho ht hinfo rfl (by show 0 < 1; decide) (by decide) v ls p [.slice (some ⟨g, 0, none⟩) p.length cg] (fun _ => True) (fun k => g ≤ k) hs hx (Kd.M_row (HP.R hb (Nat.le_refl g))) ?_ (fun _ _ => trivial) (Kd.R_mono HO.r (fun _ _ => trivial)) (Below.refl _ _) (Nat.le_trans hb (Nat.le_of_lt HP.lt)) (by omega) ?_
  · intro k hk
    refine ⟨trivial, fun e => ?_⟩
    have := HO.r.1 k e.symm
    omega
  · intro v1 w1 h1 h2 h3 _
    exact h v1 w1 ⟨Kd.R_mono (Kd.R_bound h1) (fun k hk => hk.2.2.1), Nat.le_refl _⟩ h2
end
structure RdB (W : World) (b0 bc bk : Nat) (L n : Int) (A2 : Option Addr) (m2 c2 : Nat) (A : Option Addr) (m c : Nat) : Prop where
  x : W.heap[b0]? = some (.cells #[.int .i64 L, .int .i64 n, .slice A2 m2 c2] 75 (0, 0))
  k : W.heap[bc]? = some (.cells #[.slice A m c] 22 (0, 0))
  f : W.heap[bk]? = some (.cells #[.func (.func 136) #[] #[.pointer (some ⟨bc, 0, none⟩)]] 175 (0, 0))
theorem RdB.keep {W W' : World} {b0 bc bk : Nat} {L n : Int} {A2 : Option Addr} {m2 c2 : Nat} {A : Option Addr} {m c : Nat} (h : RdB W b0 bc bk L n A2 m2 c2 A m c) (hb : ∀ k, k = b0 ∨ k = bc ∨ k = bk → W'.heap[k]? = W.heap[k]?) : RdB W' b0 bc bk L n A2 m2 c2 A m c :=
  ⟨(hb _ (.inl rfl)).trans h.x, (hb _ (.inr (.inl rfl))).trans h.k, (hb _ (.inr (.inr rfl))).trans h.f⟩
theorem RdB.lts {W : World} {b0 bc bk : Nat} {L n : Int} {A2 : Option Addr} {m2 c2 : Nat} {A : Option Addr} {m c : Nat} (h : RdB W b0 bc bk L n A2 m2 c2 A m c) (k : Nat) (hk : k = b0 ∨ k = bc ∨ k = bk) : k < W.heap.size := by
  rcases hk with rfl | rfl | rfl
  · exact blk_lt h.x
  · exact blk_lt h.k
  · exact blk_lt h.f
theorem RdB.below {W W' : World} {b0 bc bk : Nat} {L n : Int} {A2 : Option Addr} {m2 c2 : Nat} {A : Option Addr} {m c : Nat} (h : RdB W b0 bc bk L n A2 m2 c2 A m c) (hb : Below W.heap.size W W') : RdB W' b0 bc bk L n A2 m2 c2 A m c :=
  ⟨blk_below h.x hb, blk_below h.k hb, blk_below h.f hb⟩
/-- the row of what comes, so far -/
def nxT (nx : List Int) (n : Nat) : List Int := nx ++ List.replicate (n - nx.length) 0
theorem nxT_len {nx : List Int} {n : Nat} (h : nx.length ≤ n) : (nxT nx n).length = n := by unfold nxT; simp; omega
theorem nxT_set {nx : List Int} {n p : Nat} (hl : nx.length = p) (hp : p < n) (k : Int) : (nxT nx n).set p k = nxT (nx ++ [k]) n := by
  unfold nxT
  subst hl
  rw [List.set_append_right _ _ (Nat.le_refl _), Nat.sub_self, show n - nx.length = (n - (nx ++ [k]).length) + 1 from by simp; omega, List.replicate_succ, List.set_cons_zero, List.append_assoc]
  rfl
theorem nxT_all {nx : List Int} {n : Nat} (h : nx.length = n) : nxT nx n = nx := by unfold nxT; rw [h, Nat.sub_self]; simp
def RdEnd (ar : List Arw) (n : Nat) (cl : List Int) : Prop := cl.length = n ∧ ∀ p q : Nat, p < n → q < n → cl.getD p 0 = cl.getD q 0 → ansB ar (alC cl) p q = true
theorem rn_mem {ar : List Arw} {cl : List Int} {n p : Nat} (hp : p ≤ n) (x : Int) (hx : x ∈ (rnF ar cl p).1) : ∃ f : Nat, x = (f : Int) ∧ f < n := by
  obtain ⟨i, hi, rfl⟩ := List.getElem_of_mem hx
  obtain ⟨f, hf, e, _⟩ := (rn_ok ar cl p).hfs i hi
  exact ⟨f, e, by omega⟩
theorem r2_at (n : Nat) (L : Int) (cl : List Int) (ar : List Arw) (p q : Nat) (A A2 : Option Addr) (c c2 bc bp bg bk : Nat) (w : World) (hn : cl.length = n) (hr : Kd.C (Kd.int .i64) w A n cl) (hra : Kd.C kAr w A2 ar.length ar) (har : ArOk n ar) (hp : p < n) (hq : q < n)
    (D : RdB w bg bc bk L n A2 ar.length c2 A n c) (h2 : w.heap[bp]? = some (.cells #[.int .i64 (p : Int)] 3 (0, 0))) :
    Calls Try.prog 137 #[.int .i64 (q : Int), .pointer (some ⟨bc, 0, none⟩), .pointer (some ⟨bp, 0, none⟩), .pointer (some ⟨bg, 0, none⟩), .pointer (some ⟨bk, 0, none⟩)] w fun e w' => e = .returned (.bool (samC ar cl p q)) ∧ Below w.heap.size w w' := by
  subst hn
  exact r2_calls L cl ar p q A A2 c c2 bc bp bg bk w hr hra har hp hq ((blk_cell D.k 0).trans rfl) ((blk_cell h2 0).trans rfl) ((blk_cell D.x 0).trans rfl) ((blk_cell D.x 1).trans rfl) ((blk_cell D.x 2).trans rfl) ((blk_cell D.f 0).trans rfl) (blk_lt D.k) (blk_lt h2) (blk_lt D.x) (blk_lt D.f)
theorem rd_ix (n : Nat) (L : Int) (cl : List Int) (ar : List Arw) (p : Nat) (A A2 AF : Option Addr) (c c2 cF bc bp bg bk : Nat) (fs : List Int) (w : World) (hn : cl.length = n) (hr : Kd.C (Kd.int .i64) w A n cl) (hra : Kd.C kAr w A2 ar.length ar) (har : ArOk n ar) (hp : p < n) (hfs : ∀ x ∈ fs, ∃ f : Nat, x = (f : Int) ∧ f < n) (hF : Kd.C (Kd.int .i64) w AF fs.length fs)
    (D : RdB w bg bc bk L n A2 ar.length c2 A n c) (h2 : w.heap[bp]? = some (.cells #[.int .i64 (p : Int)] 3 (0, 0))) (r : Int) (hrr : ixOf (samC ar cl p) fs = r) :
    Calls Try.prog 129 #[.slice AF fs.length cF, .func (.func 137) #[] #[.pointer (some ⟨bc, 0, none⟩), .pointer (some ⟨bp, 0, none⟩), .pointer (some ⟨bg, 0, none⟩), .pointer (some ⟨bk, 0, none⟩)]] w fun e w' => e = .returned (.int .i64 r) ∧ Below w.heap.size w w' := by
  subst hrr
  refine IndexFunc_int 137 _ (enters_of Try.func137 (by kernel_rfl) rfl) (samC ar cl p) AF cF fs w hF ?_
  intro W x hx hb
  obtain ⟨q, rfl, hq⟩ := hfs x hx
  refine (r2_at n L cl ar p q A A2 c c2 bc bp bg bk W hn (Kd.C_below hr hb) (Kd.C_below hra hb) har hp hq (D.below hb) (blk_below h2 hb)).mono ?_
  rintro e w' ⟨he, hb'⟩
  exact ⟨he, below_step hb hb'⟩
theorem stF_hit {ar : List Arw} {cl fs : List Int} {p : Int} (h : ¬ ixOf (samC ar cl p) fs < 0) : stF ar cl fs p = (ixOf (samC ar cl p) fs, fs) := by unfold stF; rw [if_neg h]
theorem stF_miss {ar : List Arw} {cl fs : List Int} {p : Int} (h : ixOf (samC ar cl p) fs < 0) : stF ar cl fs p = ((fs.length : Int), fs ++ [p]) := by unfold stF; rw [if_pos h]
structure RdI (ar : List Arw) (cl : List Int) (n p bn cn : Nat) (W : World) (v : Value) : Prop where
  fs : Own (Kd.int .i64) 3 (bn + 1) W.heap.size W v (rnF ar cl p).1
  nx : Row W bn (nxT (rnF ar cl p).2 n) cn
theorem max_at (cl : List Int) (A : Option Addr) (n c : Nat) (w : World) (hn : cl.length = n) (hr : Kd.C (Kd.int .i64) w A n cl) (h0 : 0 < n) (m : Int) (hm : mxI cl = m) : Calls Try.prog 138 #[.slice A n c] w fun e w' => e = .returned (.int .i64 m) ∧ w = w' := by
  subst hn hm
  exact max_calls cl A c w hr h0
set_option maxHeartbeats 16000000 in
set_option maxRecDepth 100000 in
theorem rounds_calls (L : Int) (n : Nat) (A2 : Option Addr) (c2 : Nat) (ar : List Arw) (w : World) (hra : Kd.C kAr w A2 ar.length ar) (har : ArOk n ar) (hn1 : 1 ≤ n) (hn : n ≤ 12) :
    Calls Try.prog 74 #[.agg #[.int .i64 L, .int .i64 (n : Int), .slice A2 ar.length c2]] w fun e w' => ∃ v ls0 cl, e = .returned v ∧ RR (w.heap.size + 1) w'.heap.size w' v (ls0 ++ [cl]) ∧ RdEnd ar n cl ∧ Below w.heap.size w w' := by
  have HRA := Aside0.mk hra
  have HAR := Aside0.mk har
  clear hra har
  have HN := Aside0.mk (And.intro hn1 hn)
  go_enter Try.func74, Try.ntmps74
  go_wp2_with (first
    | ((with_reducible refine gate_dst (N := 12) rfl ?_)
       obtain ⟨W1, hW1⟩ : ∃ W1, W1 = w.alloc (.cells #[.int .i64 L, .int .i64 (n : Int), .slice A2 ar.length c2] 75) := ⟨_, rfl⟩
       have X1 := Aside0.mk (show W1.heap[w.heap.size]? = some (.cells #[.int .i64 L, .int .i64 (n : Int), .slice A2 ar.length c2] 75 (0, 0)) from by rw [hW1]; exact blk_new w _)
       have B1 := Aside0.mk (show Below w.heap.size w W1 from by rw [hW1]; exact below_alloc (Below.refl _ _) _)
       have S1 := Aside0.mk (show W1.heap.size = w.heap.size + 1 from by rw [hW1]; simp)
       rw [← hW1]
       clear hW1
       refine Kd.R_make (Kd.int .i64) (w0 := W1) W1.heap.size 3 rfl rfl 22 (.tmp 11) (.tmp 11) rfl (n : Int) rfl rfl Try.underlying22 (.int .i64 0) 8 int3 rfl (by decide) (by decide) (0 : Int) (ok := fun k => W1.heap.size ≤ k) (okp := fun _ => False) rfl (fun _ h => h.elim) (Nat.le_refl _) (by omega) (by omega) (Below.refl _ _) (Nat.le_refl _) ?_
       intro v1 w2 hr1 hb1 hg1 hat1
       rw [Int.toNat_natCast] at hr1
       obtain ⟨bn, ebn, hbn⟩ := hat1
       obtain ⟨A3, cn, ev⟩ := Kd.R_slice hr1
       subst ev
       obtain ⟨a1, rfl⟩ : ∃ a1, A3 = some a1 := by cases A3 with
         | none => simp [Value.ownBlock] at ebn
         | some a => exact ⟨a, rfl⟩
       obtain ⟨bn', rfl, hl1, hrow, _, _⟩ := row_of_R hr1
       obtain rfl : bn' = bn := by simpa [Value.ownBlock] using ebn
       have R2_ := Aside0.mk hrow
       have B2 := Aside0.mk (below_step B1.out hb1)
       have X2 := Aside0.mk (blk_below X1.out hb1)
       have G2 := Aside0.mk hbn
       clear hr1 hrow hb1 hg1 hbn ebn hl1)
    | ((with_reducible refine gate_dst (N := 13) rfl ?_)
       have hp0 := Kd.M_row (e := 3) (R2_.out.R (base := w.heap.size + 1) (ok := fun _ => True) (by have := G2.out; have := S1.out; omega) trivial)
       refine Kd.R_lit (Kd.slice 3 (Kd.int .i64)) (w0 := w2) (w.heap.size + 1) 22 ?hg (N := 13) ?hd (xs := [List.replicate n (0 : Int)]) (inner := [.slice (some ⟨bn', 0, none⟩) (List.replicate n (0 : Int)).length cn]) (ok := fun _ => True) (okp := fun _ => True) ?hr ?hp (fun _ hk => hk) trivial (Below.refl _ _) (by have := G2.out; have := S1.out; have := R2_.out.lt; omega) (by simp) ?_
       (case hd => rfl)
       (case hg => rfl)
       (case hr => first | (go_simp; done) | (go_simp; rfl))
       (case hp => exact Reps.one hp0 (Reps.none _ _))
       intro v1 w3 hr3 hb3 _ _
       have L3 := Aside0.mk (show RR (w.heap.size + 1) w3.heap.size w3 v1 ([] ++ [List.replicate n (0 : Int)]) from ⟨Kd.R_mono (Kd.R_bound hr3) (fun k hk => hk.2.2.1), Nat.le_refl _⟩)
       have hb3' : Below (w.heap.size + 1) w2 w3 := hb3
       have X3 := Aside0.mk (show w3.heap[w.heap.size]? = some (.cells #[.int .i64 L, .int .i64 (n : Int), .slice A2 ar.length c2] 75 (0, 0)) from (hb3'.block _ (Nat.lt_succ_self _)).trans X2.out)
       have B3 := Aside0.mk (show Below w.heap.size w w3 from below_weaken B2.out (Nat.le_succ _) hb3')
       clear hr3 hb3 hb3' hp0)
    | fail)
  clear X2 B2 G2 X1 B1 S1 R2_
  go_loopg [3] n (fun gg s3 wr => ∃ ls0 cl m, ls0.length < m ∧ m ≤ n ∧ n - m ≤ gg ∧ Aside0 (RR (w.heap.size + 1) wr.heap.size wr s3 (ls0 ++ [cl])) ∧ Aside0 (ClsOk cl n m) ∧ Aside0 (Below w.heap.size w wr) ∧ Aside0 (wr.heap[w.heap.size]? = some (.cells #[.int .i64 L, .int .i64 (n : Int), .slice A2 ar.length c2] 75 (0, 0))))
  case atStart => exact ⟨[], List.replicate n 0, 1, by simp, HN.out.1, by omega, L3, ⟨cls_zero HN.out.1⟩, B3, X3⟩
  case round =>
    obtain ⟨ls0, cl, m, hlm, hmn, hgg, LL, CC, BB, XX⟩ := hrel
    clear L3 B3 X3
    obtain ⟨AL, cL, e⟩ := Kd.R_slice LL.out.r
    obtain ⟨k, hk⟩ : ∃ k, (ls0 ++ [cl]).length = k := ⟨_, rfl⟩
    rw [hk] at e
    subst e
    have hk1 : k = ls0.length + 1 := by rw [← hk]; simp
    obtain ⟨ad, A1, c1, e0, hle, hrow, hcell⟩ := row_get (Kd.R_reads' LL.out.r).2.2 rfl (i := ls0.length) (by simp)
    have hx : (ls0 ++ [cl])[ls0.length]'(by simp) = cl := by simp
    rw [hx, CC.out.len] at hle hrow hcell
    subst e0
    rw [show ls0.length = k - 1 from by omega] at hcell
    have hw1 : IntKind.i64.wrap ((k : Int) - 1) = (k : Int) - 1 := IntWalk.i64_in _ (by omega)
    have hkz : (0 : Int) ≤ (k : Int) - 1 := by omega
    have hkz2 : (k : Int) - 1 < (k : Int) := by omega
    have hk0 : 0 < k := by omega
    have RC := Aside0.mk hrow
    have kn : wr.cell? ⟨w.heap.size, 1, none⟩ = some (.int .i64 (n : Int)) := (blk_cell XX.out 1).trans rfl
    have zx : w.heap.size < wr.heap.size := blk_lt XX.out
    have HK := Aside0.mk (And.intro hk hk1)
    have HLM := Aside0.mk hlm
    clear hx hrow hle hk hk1 hlm
    go_wp2_with (first
      | ((with_reducible refine gate_dst (N := 23) rfl ?_)
         obtain ⟨W1, hW1⟩ : ∃ W1, W1 = (wr.alloc (.cells #[.slice A1 n c1] 22)).alloc (.cells #[.func (.func 136) #[] #[.pointer (some ⟨wr.heap.size, 0, none⟩)]] 175) := ⟨_, rfl⟩
         have B1 := Aside0.mk (show Below wr.heap.size wr W1 from by rw [hW1]; exact below_alloc (below_alloc (Below.refl _ _) _) _)
         have D1 := Aside0.mk (show RdB W1 w.heap.size wr.heap.size (wr.heap.size + 1) L n A2 ar.length c2 A1 n c1 from ⟨blk_below XX.out B1.out, by rw [hW1]; exact blk_alloc (blk_new wr _) _, by rw [hW1]; exact blk_newn _ _ _ (by simp)⟩)
         have S1 := Aside0.mk (show W1.heap.size = wr.heap.size + 2 from by rw [hW1]; simp)
         rw [← hW1]
         clear hW1
         refine Kd.R_make (Kd.int .i64) (w0 := W1) W1.heap.size 3 rfl rfl 22 (.tmp 22) (.tmp 22) rfl (n : Int) rfl rfl Try.underlying22 (.int .i64 0) 8 int3 rfl (by decide) (by decide) (0 : Int) (ok := fun k => W1.heap.size ≤ k) (okp := fun _ => False) rfl (fun _ h => h.elim) (Nat.le_refl _) (by omega) (by omega) (Below.refl _ _) (Nat.le_refl _) ?_
         intro v1 w2 hr1 hb1 hg1 hat1
         rw [Int.toNat_natCast] at hr1
         obtain ⟨bn, ebn, hbn⟩ := hat1
         obtain ⟨A3, cn, ev⟩ := Kd.R_slice hr1
         subst ev
         obtain ⟨a1, rfl⟩ : ∃ a1, A3 = some a1 := by cases A3 with
           | none => simp [Value.ownBlock] at ebn
           | some a => exact ⟨a, rfl⟩
         obtain ⟨bn', rfl, hl1, hrow, _, _⟩ := row_of_R hr1
         obtain rfl : bn' = bn := by simpa [Value.ownBlock] using ebn
         rw [List.length_replicate]
         have RN := Aside0.mk hrow
         have B2 := Aside0.mk (below_step B1.out hb1)
         have D2 := Aside0.mk (D1.out.below hb1)
         have G2 := Aside0.mk (show wr.heap.size + 2 ≤ bn' from by have := S1.out; omega)
         clear hr1 hrow hb1 hg1 hbn ebn hl1 B1 D1 S1)
      | fail)
    clear hcell hw1 hkz hkz2 hk0 kn
    obtain ⟨wo, hwo⟩ : ∃ wo, wo = wr := ⟨_, rfl⟩
    subst hwo
    go_loopg [7, 26] n (fun gg s7 s26 wr => ∃ p : Nat, p ≤ n ∧ n - p ≤ gg ∧ s26 = .int .i64 (p : Int) ∧ Aside0 (RdI ar cl n p bn' cn wr s7) ∧ Aside0 (RdB wr w.heap.size wo.heap.size (wo.heap.size + 1) L n A2 ar.length c2 A1 n c1) ∧ Aside0 (Below wo.heap.size wo wr))
    case atStart => exact ⟨0, Nat.zero_le _, by omega, rfl, ⟨⟨own_nil _ _ _ _ _ (Nat.le_refl _), by have := RN.out; simpa [rnF, nxT] using this⟩⟩, D2, B2⟩
    case round =>
      obtain ⟨p, hp, hgp, rfl, II, DD, BQ⟩ := hrel
      clear RN D2 B2
      have HRN := Aside0.mk (rn_ok ar cl p)
      have HLT := Aside0.mk II.out.nx.lt
      by_cases hlt : p < n
      · have hltz : (p : Int) < (n : Int) := by omega
        have hp0 : (0 : Int) ≤ (p : Int) := by omega
        obtain ⟨AF, cF, e⟩ := II.out.fs.slice
        have HFM := Aside0.mk (rn_mem (ar := ar) (cl := cl) hp)
        have HS1 := Aside0.mk (show (rnF ar cl (p + 1)).1 = (stF ar cl (rnF ar cl p).1 p).2 from rfl)
        have HS2 := Aside0.mk (show (rnF ar cl (p + 1)).2 = (rnF ar cl p).2 ++ [(stF ar cl (rnF ar cl p).1 p).1] from rfl)
        have FI := Aside0.mk II.out.fs
        have NI := Aside0.mk II.out.nx
        generalize hfs : (rnF ar cl p).1 = fs at HRN HFM HS1 HS2 FI e
        generalize hnx : (rnF ar cl p).2 = nx at HRN HS2 NI
        clear hfs hnx II
        subst e
        have hfl : fs.length ≤ 12 := Nat.le_trans HRN.out.le (by omega)
        obtain ⟨r, hr⟩ : ∃ r, ixOf (samC ar cl (p : Int)) fs = r := ⟨_, rfl⟩
        have HR := Aside0.mk hr
        by_cases hc : r < 0
        · have HST := Aside0.mk (stF_miss (ar := ar) (cl := cl) (fs := fs) (p := (p : Int)) (by rw [hr]; exact hc))
          clear hr
          go_wp2_with (first
            | (go_at_call 129; refine calls_let ?_; intro W5 hW5; have hb5 : Below wr.heap.size wr W5 := (by subst hW5; exact below_alloc (Below.refl _ _) _); have P5 : W5.heap[wr.heap.size]? = some (.cells #[.int .i64 (p : Int)] 3 (0, 0)) := (by subst hW5; exact blk_new wr _); have D5 := DD.out.below hb5; have F5 := FI.out.below hb5; have N5 := NI.out.below hb5; have B5 := below_step BQ.out hb5; clear hW5; refine (rd_ix n L cl ar p A1 A2 AF c1 c2 cF wo.heap.size wr.heap.size w.heap.size (wo.heap.size + 1) fs W5 CC.out.len (Kd.C_below RC.out B5) (Kd.C_below HRA.out (below_step BB.out B5)) HAR.out hlt HFM.out F5.reads.2.2 D5 P5 r HR.out).mono ?_; rintro e w6 ⟨rfl, hb6⟩; have P6 := Aside0.mk (blk_below P5 hb6); have D6 := Aside0.mk (D5.below hb6); have F6 := Aside0.mk (F5.below hb6); have N6 := Aside0.mk (N5.below hb6); have B6 := Aside0.mk (below_step B5 hb6); have S6 := Aside0.mk (show wr.heap.size ≤ w6.heap.size from Nat.le_trans hb5.size hb6.size); have k6 : w6.cell? ⟨wr.heap.size, 0, none⟩ = some (.int .i64 (p : Int)) := (blk_cell P6.out 0).trans rfl; have c6 := N6.out.cell (i := p) (by rw [nxT_len (by have := HRN.out.len; omega)]; exact hlt); have f6 := N6.out.frozen p; clear hb5 P5 D5 F5 N5 B5 hb6)
            | ((with_reducible refine gate_dst (N := 39) rfl ?_)
               refine own_push_int (w0 := w6) (bn' + 1) wr.heap.size _ _ 22 3 _ fs (p : Int) rfl rfl Try.underlying22 int3 rfl rfl F6.out (Below.refl _ _) (by have := N6.out.lt; omega) (by omega) ?_
               intro v7 w7 h7 hb7 hg7
               have HK := Aside0.mk (show ∀ j, (j < bn' + 1 ∨ wr.heap.size ≤ j) → j < w6.heap.size → w7.heap[j]? = w6.heap[j]? from fun j hj hl => hg7.block j hl (fun e => by have := F6.out.at_ j e.symm; omega))
               have F7 := Aside0.mk h7
               have N7 := Aside0.mk (N6.out.keep (HK.out bn' (.inl (Nat.lt_succ_self _)) N6.out.lt))
               have D7 := Aside0.mk (D6.out.keep (fun j hj => HK.out j (.inl (by have := G2.out; omega)) (D6.out.lts j hj)))
               have k7 : w7.cell? ⟨wr.heap.size, 0, none⟩ = some (.int .i64 (p : Int)) := (blk_cell ((HK.out wr.heap.size (.inr (Nat.le_refl _)) (blk_lt P6.out)).trans P6.out) 0).trans rfl
               have B7 := Aside0.mk (show Below wo.heap.size wo w7 from below_weaken B6.out (by have := G2.out; omega) hb7)
               have c7 := N7.out.cell (i := p) (by rw [nxT_len (by have := HRN.out.len; omega)]; exact hlt)
               have f7 := N7.out.frozen p
               clear h7 hb7 hg7 k6 c6 f6)
            | fail)
          go_roundg (n - (p + 1))
          case measure => omega
          case rel =>
            refine ⟨p + 1, by omega, by omega, by go_num, ⟨?_, ?_⟩, ⟨D7.out.keep (fun j hj => Below.heap_setCell _ _ _ j (by have := G2.out; show j ≠ bn'; omega))⟩, ⟨below_set B7.out (by have := G2.out; show wo.heap.size ≤ bn'; omega)⟩⟩
            · rw [HS1.out, HST.out]
              exact (F7.out.set (.inl (Nat.lt_succ_self _)) _).raise (by simp) (Nat.le_refl _)
            · rw [HS2.out, HST.out, ← nxT_set HRN.out.len hlt]
              exact N7.out.set (by rw [nxT_len (by have := HRN.out.len; omega)]; exact hlt) _
        · have HST := Aside0.mk (stF_hit (ar := ar) (cl := cl) (fs := fs) (p := (p : Int)) (by rw [hr]; exact hc))
          rw [hr] at HST
          clear hr
          go_wp2_with (first
            | (go_at_call 129; refine calls_let ?_; intro W5 hW5; have hb5 : Below wr.heap.size wr W5 := (by subst hW5; exact below_alloc (Below.refl _ _) _); have P5 : W5.heap[wr.heap.size]? = some (.cells #[.int .i64 (p : Int)] 3 (0, 0)) := (by subst hW5; exact blk_new wr _); have D5 := DD.out.below hb5; have F5 := FI.out.below hb5; have N5 := NI.out.below hb5; have B5 := below_step BQ.out hb5; clear hW5; refine (rd_ix n L cl ar p A1 A2 AF c1 c2 cF wo.heap.size wr.heap.size w.heap.size (wo.heap.size + 1) fs W5 CC.out.len (Kd.C_below RC.out B5) (Kd.C_below HRA.out (below_step BB.out B5)) HAR.out hlt HFM.out F5.reads.2.2 D5 P5 r HR.out).mono ?_; rintro e w6 ⟨rfl, hb6⟩; have P6 := Aside0.mk (blk_below P5 hb6); have D6 := Aside0.mk (D5.below hb6); have F6 := Aside0.mk (F5.below hb6); have N6 := Aside0.mk (N5.below hb6); have B6 := Aside0.mk (below_step B5 hb6); have S6 := Aside0.mk (show wr.heap.size ≤ w6.heap.size from Nat.le_trans hb5.size hb6.size); have k6 : w6.cell? ⟨wr.heap.size, 0, none⟩ = some (.int .i64 (p : Int)) := (blk_cell P6.out 0).trans rfl; have c6 := N6.out.cell (i := p) (by rw [nxT_len (by have := HRN.out.len; omega)]; exact hlt); have f6 := N6.out.frozen p; clear hb5 P5 D5 F5 N5 B5 hb6)
            | fail)
          go_roundg (n - (p + 1))
          case measure => omega
          case rel =>
            refine ⟨p + 1, by omega, by omega, by go_num, ⟨?_, ?_⟩, ⟨D6.out.keep (fun j hj => Below.heap_setCell _ _ _ j (by have := G2.out; show j ≠ bn'; omega))⟩, ⟨below_set B6.out (by have := G2.out; show wo.heap.size ≤ bn'; omega)⟩⟩
            · rw [HS1.out, HST.out]
              exact (F6.out.set (.inl (Nat.lt_succ_self _)) _).raise (by have := S6.out; simp; omega) (Nat.le_refl _)
            · rw [HS2.out, HST.out, ← nxT_set HRN.out.len hlt]
              exact N6.out.set (by rw [nxT_len (by have := HRN.out.len; omega)]; exact hlt) _
      · have hpe : n = p := by omega
        subst hpe
        have HF := Aside0.mk (show RdEnd ar n cl ∨ True from .inr trivial)
        have NI := Aside0.mk II.out.nx
        obtain ⟨fs, hfs⟩ : ∃ fs, (rnF ar cl n).1 = fs := ⟨_, rfl⟩
        obtain ⟨nx, hnx⟩ : ∃ nx, (rnF ar cl n).2 = nx := ⟨_, rfl⟩
        rw [hfs, hnx] at HRN
        rw [hnx, nxT_all HRN.out.len] at NI
        clear hfs hnx II HF
        have hge := rn_ge HRN.out CC.out
        have hle := HRN.out.le
        have hkm : k ≤ 12 := by have := HK.out; have := HLM.out; omega
        have HM1 := Aside0.mk (show ∀ W, Below wr.heap.size wr W → Calls Try.prog 138 #[.slice (some ⟨bn', 0, none⟩) n cn] W fun e w' => e = .returned (.int .i64 ((fs.length : Int) - 1)) ∧ W = w' from fun W hb => max_at nx _ n cn W HRN.out.len ((NI.out.below hb).C' HRN.out.len) (by omega) _ (mxI_cls (HRN.out.cls (by omega))))
        have HM2 := Aside0.mk (show ∀ W, Below wr.heap.size wr W → Calls Try.prog 138 #[.slice A1 n c1] W fun e w' => e = .returned (.int .i64 ((m : Int) - 1)) ∧ W = w' from fun W hb => max_at cl _ n c1 W CC.out.len (Kd.C_below RC.out (below_step BQ.out hb)) (by omega) _ (mxI_cls CC.out))
        have hk4 : wr.cell? ⟨wo.heap.size, 0, none⟩ = some (.slice A1 n c1) := (blk_cell DD.out.k 0).trans rfl
        have HMS := Aside0.mk (show ∀ W', Below wr.heap.size wr W' → (fun W' => Below wr.heap.size wr W' ∧ W'.cell? ⟨wo.heap.size, 0, none⟩ = some (.slice A1 n c1)) W' from fun W' hb => ⟨hb, pw_cell_below hb hk4⟩)
        by_cases hm : fs.length = m
        · have hmz : (((fs.length : Int) - 1) == ((m : Int) - 1)) = true := by rw [hm]; simp
          have HE := Aside0.mk (show RdEnd ar n cl from ⟨CC.out.len, fun p q hp hq e => rn_end HRN.out CC.out hm HAR.out hp hq e⟩)
          generalize (fs.length : Int) - 1 = x1 at HM1 hmz
          generalize (m : Int) - 1 = x2 at HM2 hmz
          clear hm hge hle
          go_wp2
          refine wp_region_held_drew (S := (fun W' => Below wr.heap.size wr W' ∧ W'.cell? ⟨wo.heap.size, 0, none⟩ = some (.slice A1 n c1))) (by kernel_rfl) ?_ (fun hHeld => ?_)
          · (try dsimp only); (first | exact HMS.out _ (by repeat (first | exact Below.refl _ _ | assumption | (go_split_ands; assumption) | apply below_drew1 | apply below_alloc)) | fail)
          refine wpAnyH_take (i := 0) (v := ?_) rfl (by kernel_rfl) (by kernel_rfl) (by kernel_rfl) (fun _ _ _ h => h) (Or.inl ⟨by kernel_rfl, ?_⟩) (by assumption) ?_
          rotate_left 1
          · intro w hSw; (try dsimp only at hSw); go_simp; (try with_reducible rfl)
          (try simp only [Act.put, List.getElem_toArray, List.getElem_cons_zero, List.getElem_cons_succ, List.setIfInBounds_toArray, List.set_cons_zero, List.set_cons_succ])
          refine wpAnyH_take (i := 2) (v := ?_) rfl (by kernel_rfl) (by kernel_rfl) (by kernel_rfl) (fun _ _ _ h => h) (Or.inl ⟨by kernel_rfl, ?_⟩) (by assumption) ?_
          rotate_left 1
          · intro w hSw; (try dsimp only at hSw); go_simp; (try with_reducible rfl)
          (try simp only [Act.put, List.getElem_toArray, List.getElem_cons_zero, List.getElem_cons_succ, List.setIfInBounds_toArray, List.set_cons_zero, List.set_cons_succ])
          refine wpAnyH_ready (rs := [1]) (by kernel_rfl) (by simp) ?_
          refine AllReadyH.cons rfl (fun K hK => ?_) AllReadyH.nil
          rw [if_pos (by kernel_rfl)]
          go_simp
          (go_at_call 138; refine (HM1.out _ (by go_split_ands; assumption)).mono ?_; rintro e w3 ⟨rfl, rfl⟩)
          (try go_simp)
          refine hK.out _ _ ?_ (fun hHeld => ?_)
          · (try dsimp only); (first | exact HMS.out _ (by repeat (first | exact Below.refl _ _ | assumption | (go_split_ands; assumption) | apply below_drew1 | apply below_alloc)) | fail)
          clear hK K
          (try simp only [Act.put, List.getElem_toArray, List.getElem_cons_zero, List.getElem_cons_succ, List.setIfInBounds_toArray, List.set_cons_zero, List.set_cons_succ])
          refine wpAnyH_ready (rs := [3]) (by kernel_rfl) (by simp) ?_
          refine AllReadyH.cons rfl (fun K hK => ?_) AllReadyH.nil
          rw [if_pos (by kernel_rfl)]
          go_simp
          (go_at_call 138; refine (HM2.out _ (by go_split_ands; assumption)).mono ?_; rintro e w3 ⟨rfl, rfl⟩)
          (try go_simp)
          refine hK.out _ _ ?_ (fun hHeld => ?_)
          · (try dsimp only); (first | exact HMS.out _ (by repeat (first | exact Below.refl _ _ | assumption | (go_split_ands; assumption) | apply below_drew1 | apply below_alloc)) | fail)
          clear hK K
          (try simp only [Act.put, List.getElem_toArray, List.getElem_cons_zero, List.getElem_cons_succ, List.setIfInBounds_toArray, List.set_cons_zero, List.set_cons_succ])
          refine wpAnyH_take (i := 4) (v := ?_) rfl (by kernel_rfl) (by kernel_rfl) (by kernel_rfl) (fun _ _ _ h => h) (Or.inl ⟨by kernel_rfl, ?_⟩) (by assumption) ?_
          rotate_left 1
          · intro w hSw; (try dsimp only at hSw); go_simp; (try with_reducible rfl)
          (try simp only [Act.put, List.getElem_toArray, List.getElem_cons_zero, List.getElem_cons_succ, List.setIfInBounds_toArray, List.set_cons_zero, List.set_cons_succ])
          refine wpAnyH_done (by kernel_rfl) ?_ _
          go_wp2
          go_ret
          have BF : Below wr.heap.size wr wr.drew := below_drew1 (Below.refl _ _)
          have BF2 := below_step BQ.out BF
          exact ⟨_, ls0, cl, rfl, (LL.out.below' BF2 (Nat.le_refl _)).raise BF2.size (Nat.le_refl _), HE.out, below_step BB.out BF2⟩
        · have hmz : (((fs.length : Int) - 1) == ((m : Int) - 1)) = false := by rw [beq_eq_false_iff_ne]; omega
          have HMM := Aside0.mk (show m < fs.length ∧ fs.length ≤ n from by omega)
          generalize (fs.length : Int) - 1 = x1 at HM1 hmz
          generalize (m : Int) - 1 = x2 at HM2 hmz
          clear hm hge hle
          go_wp2
          refine wp_region_held_drew (S := (fun W' => Below wr.heap.size wr W' ∧ W'.cell? ⟨wo.heap.size, 0, none⟩ = some (.slice A1 n c1))) (by kernel_rfl) ?_ (fun hHeld => ?_)
          · (try dsimp only); (first | exact HMS.out _ (by repeat (first | exact Below.refl _ _ | assumption | (go_split_ands; assumption) | apply below_drew1 | apply below_alloc)) | fail)
          refine wpAnyH_take (i := 0) (v := ?_) rfl (by kernel_rfl) (by kernel_rfl) (by kernel_rfl) (fun _ _ _ h => h) (Or.inl ⟨by kernel_rfl, ?_⟩) (by assumption) ?_
          rotate_left 1
          · intro w hSw; (try dsimp only at hSw); go_simp; (try with_reducible rfl)
          (try simp only [Act.put, List.getElem_toArray, List.getElem_cons_zero, List.getElem_cons_succ, List.setIfInBounds_toArray, List.set_cons_zero, List.set_cons_succ])
          refine wpAnyH_take (i := 2) (v := ?_) rfl (by kernel_rfl) (by kernel_rfl) (by kernel_rfl) (fun _ _ _ h => h) (Or.inl ⟨by kernel_rfl, ?_⟩) (by assumption) ?_
          rotate_left 1
          · intro w hSw; (try dsimp only at hSw); go_simp; (try with_reducible rfl)
          (try simp only [Act.put, List.getElem_toArray, List.getElem_cons_zero, List.getElem_cons_succ, List.setIfInBounds_toArray, List.set_cons_zero, List.set_cons_succ])
          refine wpAnyH_ready (rs := [1]) (by kernel_rfl) (by simp) ?_
          refine AllReadyH.cons rfl (fun K hK => ?_) AllReadyH.nil
          rw [if_pos (by kernel_rfl)]
          go_simp
          (go_at_call 138; refine (HM1.out _ (by go_split_ands; assumption)).mono ?_; rintro e w3 ⟨rfl, rfl⟩)
          (try go_simp)
          refine hK.out _ _ ?_ (fun hHeld => ?_)
          · (try dsimp only); (first | exact HMS.out _ (by repeat (first | exact Below.refl _ _ | assumption | (go_split_ands; assumption) | apply below_drew1 | apply below_alloc)) | fail)
          clear hK K
          (try simp only [Act.put, List.getElem_toArray, List.getElem_cons_zero, List.getElem_cons_succ, List.setIfInBounds_toArray, List.set_cons_zero, List.set_cons_succ])
          refine wpAnyH_ready (rs := [3]) (by kernel_rfl) (by simp) ?_
          refine AllReadyH.cons rfl (fun K hK => ?_) AllReadyH.nil
          rw [if_pos (by kernel_rfl)]
          go_simp
          (go_at_call 138; refine (HM2.out _ (by go_split_ands; assumption)).mono ?_; rintro e w3 ⟨rfl, rfl⟩)
          (try go_simp)
          refine hK.out _ _ ?_ (fun hHeld => ?_)
          · (try dsimp only); (first | exact HMS.out _ (by repeat (first | exact Below.refl _ _ | assumption | (go_split_ands; assumption) | apply below_drew1 | apply below_alloc)) | fail)
          clear hK K
          (try simp only [Act.put, List.getElem_toArray, List.getElem_cons_zero, List.getElem_cons_succ, List.setIfInBounds_toArray, List.set_cons_zero, List.set_cons_succ])
          refine wpAnyH_take (i := 4) (v := ?_) rfl (by kernel_rfl) (by kernel_rfl) (by kernel_rfl) (fun _ _ _ h => h) (Or.inl ⟨by kernel_rfl, ?_⟩) (by assumption) ?_
          rotate_left 1
          · intro w hSw; (try dsimp only at hSw); go_simp; (try with_reducible rfl)
          (try simp only [Act.put, List.getElem_toArray, List.getElem_cons_zero, List.getElem_cons_succ, List.setIfInBounds_toArray, List.set_cons_zero, List.set_cons_succ])
          refine wpAnyH_done (by kernel_rfl) ?_ _
          go_wp2_with (first
            | ((with_reducible refine gate_dst (N := 54) rfl ?_)
               have BF : Below wr.heap.size wr wr.drew := below_drew1 (Below.refl _ _)
               have BF2 := below_step BQ.out BF
               refine rr_push (W := wr.drew) (w.heap.size + 1) wo.heap.size bn' cn _ _ 43 22 _ (ls0 ++ [cl]) nx n HRN.out.len rfl rfl Try.underlying43 rfl row22 rfl rfl (LL.out.below' BF2 (Nat.le_refl _)) (NI.out.below BF) (by have := G2.out; omega) (by have := G2.out; have := BB.out.size; have := blk_lt XX.out; omega) (by rw [HK.out.1]; omega) ?_
               intro v7 w7 h7 hb7
               have L7 := Aside0.mk h7
               have B7 := Aside0.mk (show Below w.heap.size w w7 from below_weaken (below_step BB.out BF2) (Nat.le_succ _) hb7)
               have X7 := Aside0.mk ((hb7.block _ (Nat.lt_succ_self _)).trans (blk_below XX.out BF2))
               clear h7 hb7 BF BF2)
            | fail)
          go_roundg (n - fs.length)
          case measure => have := HMM.out; omega
          case rel => exact ⟨ls0 ++ [cl], nx, fs.length, by rw [HK.out.1]; have := HMM.out; have := HK.out; have := HLM.out; omega, HMM.out.2, Nat.le_refl _, L7, ⟨HRN.out.cls HN.out.1⟩, B7, X7⟩
end Go.Proofs.Ytampgoendkjkhaa.H
