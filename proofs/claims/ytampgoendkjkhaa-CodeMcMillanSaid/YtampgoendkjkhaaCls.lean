/- Hand-proved: det.Classes. -/
import Derived.Test.YtampgoendkjkhaaExp
import Derived.Test.YtampgoendkjkhaaSk
namespace Go.Proofs.Ytampgoendkjkhaa.H
open Go.RowKit Go.Shelf Go.Proofs.YtampgoendkjkhaaW.PrintWords Go.Proofs.Ytampgoendkjkhaa.DtM
set_option linter.unusedVariables false
set_option linter.unusedSimpArgs false
def nxF (nx : List (List Int)) (q a : Nat) : Nat := ((nx.getD q []).getD a 0).toNat
def mkF (ms : List Int) (q : Nat) : Int := ms.getD q 0
/-- an automaton that may be -/
structure DetOk (L : Nat) (nx : List (List Int)) (ms : List Int) : Prop where
  pos : 0 < nx.length
  big : nx.length ≤ 65536
  L1 : 1 ≤ L
  L4 : L ≤ 4
  row : ∀ r ∈ nx, r.length = L
  tos : ∀ r ∈ nx, ∀ x ∈ r, 0 ≤ x ∧ x < (nx.length : Int)
  len : ms.length = nx.length
  mks : ∀ x ∈ ms, 0 ≤ x ∧ x < 65536
theorem lit_C2 {W : World} {b : Nat} {x y : Int} (h : W.cell? ⟨b, 0, none⟩ = some (.int .u8 x)) (h' : W.cell? ⟨b, 1, none⟩ = some (.int .u8 y)) : Kd.C (Kd.int .u8) W (some ⟨b, 0, none⟩) 2 [x, y] := by
  refine ⟨rfl, by decide, fun _ => ⟨_, rfl, fun j p hj => ?_⟩⟩
  match j, hj with
  | 0, hj =>
    obtain rfl : x = p := by simpa using hj
    refine ⟨[.int .u8 x], rfl, rfl, fun i u hu => ?_⟩
    match i, hu with
    | 0, hu =>
      obtain rfl : Value.int .u8 x = u := by simpa using hu
      simpa [Addr.add] using h
  | 1, hj =>
    obtain rfl : y = p := by simpa using hj
    refine ⟨[.int .u8 y], rfl, rfl, fun i u hu => ?_⟩
    match i, hu with
    | 0, hu =>
      obtain rfl : Value.int .u8 y = u := by simpa using hu
      simpa [Addr.add, show (Kd.int .u8).sz = 1 from rfl] using h'
theorem dedup_pre {κ : Type} [DecidableEq κ] (ks : List κ) : ∀ ms : List κ, ∃ m, dedupK (ks ++ ms) = dedupK ks ++ m := by
  intro ms
  induction ms generalizing ks with
  | nil => exact ⟨[], by simp⟩
  | cons x ms ih =>
    obtain ⟨m, hm⟩ := ih (ks ++ [x])
    rw [show ks ++ x :: ms = (ks ++ [x]) ++ ms from by simp, hm, dedup_snoc]
    split
    · exact ⟨m, rfl⟩
    · exact ⟨x :: m, by simp⟩
theorem byte5 : (Try.prog.info? 5).map (fun i => (i.zero, i.size, i.bytes)) = some (some (.int .u8 0), 1, 1) := by kernel_rfl
theorem append_two_step {P : Program} {ops : Array Oper} {o : Oper} {a : Act} {Q : Exit → Act → World → Prop} {E : Prop} {B : Nat} {W : World} {ok : Nat → Prop} {x y : Int} {b : Nat} (v : Value) (l : List Int) (s z : Operand) (t e : TypeId) (hw : Region.wanted o (yielded ops a.tmps) = true)
    (ho : o.op = .call { callee := .builtin .append, args := #[s, z], argTypes := #[t, t] }) (ht : P.underlying t = some (.slice e)) (hi : (P.info? e).map (fun i => (i.zero, i.size, i.bytes)) = some (some (.int .u8 0), 1, 1))
    (hs : a.eval s = v) (hx : a.eval z = .slice (some ⟨b, 0, none⟩) 2 2) (HO : Kd.R (Kd.int .u8) e W B ok v l) (hc : W.cell? ⟨b, 0, none⟩ = some (.int .u8 x)) (hc' : W.cell? ⟨b, 1, none⟩ = some (.int .u8 y)) (hS : B ≤ W.heap.size) (hl : l.length < 1000000) {Kc : Act → World → Prop}
    (h : ∀ v1 w1, Kd.R (Kd.int .u8) e w1 B (fun k => ok k ∨ W.heap.size ≤ k) v1 (l ++ [x, y]) → W.grownBy w1 v.ownBlock → Kc (a.put o.dst v1) w1) :
    if Region.wanted o (yielded ops a.tmps) = true then Oper.wp P o a W Kc Q else E := by
  have H := Kd.R_append_rows_step (Kd.int .u8) (w0 := W) B hw s z t e (.int .u8 0) 1 ho ht hi rfl (by decide) (by omega) v l [x, y] _ _ _ (fun k => ok k ∨ W.heap.size ≤ k) (fun _ => False) hs hx (Kd.R_mono HO (fun _ h => .inl h)) (lit_C2 hc hc') (fun _ _ h => h) (fun _ h => h.elim) (fun _ h => .inr h) (Below.refl _ _) hS (by have : [x, y].length = 2 := rfl; omega) (Q := Q) (Kc := Kc) (fun v1 w1 h1 h2 h3 _ => h v1 w1 h1 h3)
  rw [if_pos hw] at H ⊢
  exact H
theorem wrap_u8 (x : Int) : IntKind.u8.wrap x = x % 256 := by
  unfold IntKind.wrap
  simp [IntKind.bits, IntKind.signed]
theorem bytesB_app (a b : List Int) : bytesB (a ++ b) = bytesB a ++ bytesB b := List.flatMap_append
/-- the map of a round behind i states -/
def mpK {κ : Type} [DecidableEq κ] (key : Nat → κ) (q : Nat) : List κ := dedupK ((List.range q).map key)
theorem mpK_nodup {κ : Type} [DecidableEq κ] (key : Nat → κ) (q : Nat) : (mpK key q).Nodup := dedup_nodup _
theorem mpK_succ {κ : Type} [DecidableEq κ] (key : Nat → κ) (q : Nat) : mpK key (q + 1) = if key q ∈ mpK key q then mpK key q else mpK key q ++ [key q] := by
  unfold mpK
  rw [List.range_succ, List.map_append]
  exact dedup_snoc _ _
theorem mpK_at {κ : Type} [DecidableEq κ] (key : Nat → κ) {q n : Nat} (hq : q < n) : ixd (mpK key (q + 1)) (key q) = ixd (mpK key n) (key q) := by
  have : List.range n = List.range (q + 1) ++ (List.range (n - (q + 1))).map (q + 1 + ·) := by
    conv => lhs; rw [show n = (q + 1) + (n - (q + 1)) from by omega, List.range_add]
  unfold mpK
  rw [this, List.map_append]
  obtain ⟨m, hm⟩ := dedup_pre ((List.range (q + 1)).map key) (((List.range (n - (q + 1))).map (q + 1 + ·)).map key)
  rw [hm, ixd_app ((mem_dedup _ _).2 (List.mem_map_of_mem (List.mem_range.2 (by omega))))]
/-- what holds of memory inside a round, behind q states -/
structure ClsM (E : KeyE Try.prog 294 (Int × List Int)) (w wr wq : World) (bn cn n : Nat) (key : Nat → Int × List Int) (q : Nat) : Prop where
  b : Below w.heap.size w wq
  bb : Below wr.heap.size wr wq
  m : MapK E wq wr.heap.size (kvsOf (mpK key q))
  r : Row wq bn ((List.range q).map (fun p => (ixd (mpK key n) (key p) : Int)) ++ List.replicate (n - q) 0) cn
theorem MapK.len {P : Program} {t : TypeId} {κ : Type} [DecidableEq κ] {E : KeyE P t κ} {W : World} {b : Nat} {kvs : List (κ × Value)} (h : MapK E W b kvs) {T e : TypeId} (hT : P.underlying T = some (.map t e)) (ty : TypeId) : (Builtin.len_ #[T] ty #[.map (some b)]).run P W = .ok (.int .i64 (kvs.length : Int)) W := by
  obtain ⟨⟨es, c, h1, h2⟩, _⟩ := h
  have hl : es.size = kvs.length := by
    have := congrArg List.length h2
    simpa using this
  simp [Builtin.len_, run_underlying hT, MapKept.run_getObj_map h1, goInt, hl]
theorem kvsOf_len {κ : Type} (l : List κ) : (kvsOf l).length = l.length := by simp [kvsOf]
theorem nx_lt {L : Nat} {nx : List (List Int)} {ms : List Int} (h : DetOk L nx ms) {q a : Nat} (hq : q < nx.length) (ha : a < L) : nxF nx q a < nx.length := by
  have hm := List.getElem_mem hq
  have hl := h.row _ hm
  have := h.tos _ hm (nx[q][a]'(by omega)) (List.getElem_mem _)
  have e1 : nx.getD q [] = nx[q] := by rw [List.getD_eq_getElem?_getD, List.getElem?_eq_getElem hq, Option.getD_some]
  have e2 : nx[q].getD a 0 = nx[q][a]'(by omega) := by rw [List.getD_eq_getElem?_getD, List.getElem?_eq_getElem (by omega), Option.getD_some]
  unfold nxF
  rw [e1, e2]
  omega
theorem ClsM.step {E : KeyE Try.prog 294 (Int × List Int)} {w wr wq W : World} {bn cn n : Nat} {key : Nat → Int × List Int} {q : Nat} (h : ClsM E w wr wq bn cn n key q) (hb : Below wq.heap.size wq W) : ClsM E w wr W bn cn n key q :=
  ⟨below_step h.b hb, below_step h.bb hb, h.m.below hb, h.r.below hb⟩
theorem ClsM.store {E : KeyE Try.prog 294 (Int × List Int)} {w wr W : World} {bn cn n : Nat} {key : Nat → Int × List Int} {q : Nat} (hb : Below w.heap.size w W) (hbb : Below wr.heap.size wr W) (hm : MapK E W wr.heap.size (kvsOf (mpK key (q + 1)))) (hr : Row W bn ((List.range q).map (fun p => (ixd (mpK key n) (key p) : Int)) ++ List.replicate (n - q) 0) cn)
    (hq : q < n) (h1 : w.heap.size < wr.heap.size) (h2 : wr.heap.size < bn) {v : Int} (hv : v = (ixd (mpK key (q + 1)) (key q) : Int)) : ClsM E w wr (W.setCell ⟨bn, q, none⟩ (.int .i64 v)) bn cn n key (q + 1) := by
  refine ⟨below_set hb (by show _ ≤ bn; omega), below_set hbb (by show _ ≤ bn; omega), hm.keep (Below.heap_setCell _ ⟨bn, q, none⟩ _ _ (by show _ ≠ bn; omega)), ?_⟩
  have := hr.set (i := q) (by simp; omega) v
  obtain ⟨d, hd⟩ : ∃ d, n - q = d + 1 := ⟨n - q - 1, by omega⟩
  rw [hd, List.replicate_succ, List.set_append_right _ _ (by simp)] at this
  simp only [List.length_map, List.length_range, Nat.sub_self, List.set_cons_zero] at this
  rw [List.range_succ, List.map_append, List.append_assoc, show n - (q + 1) = d by omega]
  rw [hv, mpK_at key hq] at this ⊢
  exact this
set_option maxHeartbeats 16000000 in
set_option maxRecDepth 100000 in
theorem classes_calls (A0 A1 : Option Addr) (c0 c1 L : Nat) (st : Int) (nx : List (List Int)) (ms : List Int) (w : World) (hr0 : Kd.C (Kd.slice 3 (Kd.int .i64)) w A0 nx.length nx) (hc0 : nx.length ≤ c0) (hr1 : Kd.C (Kd.int .i64) w A1 ms.length ms) (hc1 : ms.length ≤ c1) (hok : DetOk L nx ms) :
    Calls Try.prog 160 #[.agg #[.int .i64 (L : Int), .int .i64 st, .slice A0 nx.length c0, .slice A1 ms.length c1]] w fun e w' => ∃ v : Value, e = .returned v ∧ Below w.heap.size w w' ∧ Kd.R (Kd.int .i64) 3 w' w.heap.size (fun _ => True) v ((List.range nx.length).map (clsC nx.length L (nxF nx) (nx.length + 1) 0 (mkF ms))) := by
  obtain ⟨fin, hfin⟩ : ∃ fin, (List.range nx.length).map (clsC nx.length L (nxF nx) (nx.length + 1) 0 (mkF ms)) = fin := ⟨_, rfl⟩
  rw [hfin]
  have HF := Aside0.mk hfin
  have HR0 := Aside0.mk hr0
  have HR1 := Aside0.mk hr1
  have HC0 := Aside0.mk hc0
  have HC1 := Aside0.mk hc1
  have HOK := Aside0.mk hok
  have HB0 := Aside0.mk (below_alloc (Below.refl w.heap.size w) (.cells #[.int .i64 (L : Int), .int .i64 st, .slice A0 nx.length c0, .slice A1 ms.length c1] 101))
  clear hr0 hr1 hok hfin
  have hmm := @run_makeMap Try.prog
  obtain ⟨E, hE1, hE2⟩ := splitOk
  go_enter Try.func160, Try.ntmps160
  go_wp2_with (first
    | (go_at_call 53
       refine (clone_at A1 ms.length c1 ms _ rfl (Kd.C_below HR1.out HB0.out) HC1.out (by have := HOK.out.len; have := HOK.out.big; omega)).mono ?_
       rintro e w1 ⟨v1, rfl, ho1, hb1⟩
       obtain ⟨A2, c2, rfl⟩ := Kd.R_slice ho1
       have HO1 := Aside0.mk ho1
       have HB1 := Aside0.mk (below_step HB0.out hb1)
       have zx : w1.heap[w.heap.size]? = some (.cells #[.int .i64 (L : Int), .int .i64 st, .slice A0 nx.length c0, .slice A1 ms.length c1] 101 (0, 0)) := blk_below (blk_new w _) hb1
       have HZX := Aside0.mk zx
       clear ho1 hb1 zx)
    | fail)
  have hN : nx.length ≤ 65536 := HOK.out.big
  have eN : ms.length = nx.length := HOK.out.len
  have HNP := Aside0.mk HOK.out.pos
  have HBX := Aside0.mk (show Below w.heap.size w w1 ∧ w1.heap[w.heap.size]? = some (.cells #[.int .i64 (L : Int), .int .i64 st, .slice A0 nx.length c0, .slice A1 ms.length c1] 101 (0, 0)) from ⟨HB1.out, HZX.out⟩)
  have HO2 := Aside0.mk (show Kd.R (Kd.int .i64) 3 w1 (w.heap.size + 1) (fun _ => True) (.slice A2 nx.length c2) ((List.range nx.length).map (mkF ms)) from by
    have q := HO1.out
    have e : (List.range nx.length).map (mkF ms) = ms := by
      apply List.ext_getElem
      · simp [eN]
      · intro i h1 h2
        simp [mkF, h2]
    rw [e, ← eN]
    exact Kd.R_lower q (by simp))
  rw [eN]
  clear HB1 HZX HO1 eN hc0 hc1
  have hL4 : L ≤ 4 := HOK.out.L4
  go_loopg [3, 4] (nx.length + 1) (fun gg s3 s4 wr => ∃ (g : Nat) (count : Nat) (cl : Nat → Int) (AC : Option Addr) (cC : Nat), g ≤ gg ∧ nx.length - count < g ∧ s3 = .slice AC nx.length cC ∧ s4 = .int .i64 (count : Int) ∧ Aside0 ((List.range nx.length).map (clsC nx.length L (nxF nx) g (count : Int) cl) = fin) ∧ Aside0 (∀ i : Nat, i < count → ∃ q, q < nx.length ∧ cl q = (i : Int)) ∧ Aside0 (∀ q, q < nx.length → 0 ≤ cl q ∧ cl q < 65536) ∧ Aside0 (Kd.R (Kd.int .i64) 3 wr (w.heap.size + 1) (fun _ => True) (.slice AC nx.length cC) ((List.range nx.length).map cl)) ∧
    Aside0 (Below w.heap.size w wr ∧ wr.heap[w.heap.size]? = some (.cells #[.int .i64 (L : Int), .int .i64 st, .slice A0 nx.length c0, .slice A1 ms.length c1] 101 (0, 0))))
  case atStart => exact ⟨nx.length + 1, 0, mkF ms, A2, c2, by omega, by omega, rfl, rfl, HF, ⟨fun i hi => by omega⟩, ⟨fun q hq => by
    have hq' : q < ms.length := by rw [HOK.out.len]; exact hq
    have e : mkF ms q = ms[q] := by simp [mkF, hq']
    rw [e]; exact HOK.out.mks _ (List.getElem_mem hq')⟩, HO2, HBX⟩
  case round =>
    obtain ⟨g, count, cl, AC, cC, hg, hgc, rfl, rfl, HFI, HCO, HCL, HRC, HBB⟩ := hrel
    clear HO2 HBX
    obtain ⟨g, rfl⟩ : ∃ g', g = g' + 1 := ⟨g - 1, by omega⟩
    have x2 : wr.cell? ⟨w.heap.size, 2, none⟩ = some (.slice A0 nx.length c0) := (blk_cell HBB.out.2 2).trans rfl
    have zlt : w.heap.size < wr.heap.size := blk_lt HBB.out.2
    have hNp : 0 < nx.length := HNP.out
    go_wp2_with (first
      | ((with_reducible refine gate_dst (N := 21) rfl ?_)
         refine Kd.R_make (Kd.int .i64) (w0 := wr.alloc (.map #[] 0)) (wr.alloc (.map #[] 0)).heap.size 3 rfl rfl 22 (.tmp 20) (.tmp 20) rfl (nx.length : Int) rfl rfl Try.underlying22 (.int .i64 0) 8 int3 rfl (by decide) (by decide) (0 : Int) (ok := fun k => (wr.alloc (.map #[] 0)).heap.size ≤ k) (okp := fun _ => False) rfl (fun _ h => h.elim) (Nat.le_refl _) (by omega) (by omega) (Below.refl _ _) (Nat.le_refl _) ?_
         intro v1 w2 hr1 hb1 hg1 hat1
         rw [Int.toNat_natCast] at hr1
         obtain ⟨bn, ebn, hbn⟩ := hat1
         obtain ⟨A3, cn, ev⟩ := Kd.R_slice hr1
         subst ev
         obtain ⟨a1, rfl⟩ : ∃ a1, A3 = some a1 := by cases A3 with
           | none => simp [Value.ownBlock] at ebn
           | some a => exact ⟨a, rfl⟩
         obtain ⟨bn', rfl, hl1, hrow, _, _⟩ := row_of_R hr1
         obtain rfl : bn' = bn := by simpa [Value.ownBlock] using ebn
         have RN := Aside0.mk hrow
         have HBN := Aside0.mk (show wr.heap.size < bn' by simp at hbn; omega)
         have BB2 := Aside0.mk (show Below wr.heap.size wr w2 from below_step (below_alloc (Below.refl _ _) _) hb1)
         have ML := Aside0.mk (hb1.block wr.heap.size (by simp))
         have y2 : w2.cell? ⟨w.heap.size, 2, none⟩ = some (.slice A0 nx.length c0) := pw_cell_below BB2.out x2
         rw [List.length_replicate]
         clear hr1 hb1 hg1 hrow ebn hl1 hbn)
      | fail)
    have M0 := Aside0.mk (show ClsM E w wr w2 bn' cn nx.length (keyC L (nxF nx) cl) 0 from
      ⟨below_step HBB.out.1 BB2.out, BB2.out, by
        have := mapK_made E wr
        exact this.keep (by rw [ML.out]), by simpa using RN.out⟩)
    clear RN BB2 ML y2
    have ZLT := Aside0.mk zlt
    obtain ⟨wo, hwo⟩ : ∃ wo, wo = wr := ⟨_, rfl⟩
    subst hwo
    go_loopg [25] nx.length (fun gg s25 wq => ∃ q : Nat, q ≤ nx.length ∧ nx.length - q ≤ gg ∧ s25 = .int .i64 (q : Int) ∧ Aside0 (ClsM E w wo wq bn' cn nx.length (keyC L (nxF nx) cl) q))
    case atStart => exact ⟨0, Nat.zero_le _, by omega, rfl, M0⟩
    case round =>
      obtain ⟨q, hq, hgq, rfl, MM⟩ := hrel
      clear M0
      by_cases hlt : q < nx.length
      · have hltz : (q : Int) < (nx.length : Int) := by omega
        obtain ⟨ad, ec, e0, _, ⟨A4, c4, rfl, hle, hrow⟩, hc0⟩ := Kd.C_get (Kd.C_below HR0.out MM.out.b) [] q (by omega) hltz
        cases e0
        rw [Int.toNat_natCast] at hle hrow hc0
        obtain ⟨rw', hrw⟩ : ∃ rw', nx.getD q [] = rw' := ⟨_, rfl⟩
        rw [hrw] at hle hrow hc0
        have hrl : rw'.length = L := HOK.out.row rw' (by rw [← hrw, List.getD_eq_getElem?_getD, List.getElem?_eq_getElem hlt]; exact List.getElem_mem hlt)
        rw [hrl] at hle hrow hc0
        have hc1 : wr.cell? (ad.add q) = some (.slice A4 L c4) := by simpa [Kd.slice] using hc0 0 _ rfl
        have HRW := Aside0.mk hrow
        have HRL := Aside0.mk (And.intro hrw hrl)
        clear hc0 hrow hle hrw hrl
        go_wp2
        have B0 := Aside0.mk (show Below wr.heap.size wr wr ∧ Kd.R (Kd.int .u8) 5 wr wr.heap.size (fun _ => True) (.slice none 0 0) (bytesB ((List.range 0).map fun a => cl (nxF nx q a))) from ⟨Below.refl _ _, Kd.R_nil _ _ _ _ _⟩)
        have HCC := Aside0.mk (Kd.C_below (Kd.R_reads' HRC.out).2.2 MM.out.bb)
        obtain ⟨wq, hwq⟩ : ∃ wq, wq = wr := ⟨_, rfl⟩
        subst hwq
        go_loopg [9, 32] L (fun gg s9 s32 wz => ∃ a : Nat, a ≤ L ∧ L - a ≤ gg ∧ s32 = .int .i64 (a : Int) ∧ Aside0 (Below wq.heap.size wq wz ∧ Kd.R (Kd.int .u8) 5 wz wq.heap.size (fun _ => True) s9 (bytesB ((List.range a).map fun a => cl (nxF nx q a)))))
        case atStart => exact ⟨0, Nat.zero_le _, by omega, rfl, B0⟩
        case round =>
          obtain ⟨a, ha, hga, rfl, BR⟩ := hrel
          clear B0
          by_cases hal : a < L
          · have haz : (a : Int) < (L : Int) := by omega
            obtain ⟨ad5, e5, hc5⟩ := Kd.at_int (Kd.C_below HRW.out BR.out.1) (a : Int) (by omega) haz
            subst e5
            rw [Int.toNat_natCast, rd_at (by rw [HRL.out.2]; exact hal)] at hc5
            obtain ⟨t, ht⟩ : ∃ t, rw'[a]'(by rw [HRL.out.2]; exact hal) = t := ⟨_, rfl⟩
            have htb : 0 ≤ t ∧ t < (nx.length : Int) := HOK.out.tos rw' (by rw [← HRL.out.1, List.getD_eq_getElem?_getD, List.getElem?_eq_getElem hlt]; exact List.getElem_mem hlt) t (by rw [← ht]; exact List.getElem_mem _)
            have htn : nxF nx q a = t.toNat := by
              unfold nxF
              rw [HRL.out.1, List.getD_eq_getElem?_getD, List.getElem?_eq_getElem (by rw [HRL.out.2]; exact hal), ht]
              rfl
            rw [ht] at hc5
            obtain ⟨ad6, e6, hc6⟩ := Kd.at_int (Kd.C_below HCC.out BR.out.1) t htb.1 (by simpa using htb.2)
            subst e6
            obtain ⟨x, hx⟩ : ∃ x, cl (nxF nx q a) = x := ⟨_, rfl⟩
            have hrx : rd ((List.range nx.length).map cl) t = x := by
              rw [← hx, htn]
              unfold rd
              rw [List.getD_eq_getElem?_getD, List.getElem?_map, List.getElem?_range (by omega)]
              rfl
            rw [hrx] at hc6
            have h5l : ad5.block < wr.heap.size := by have := World.block_lt_of_cell? _ (ad5.add a) hc5; rwa [show (ad5.add a).block = ad5.block from by unfold Addr.add; split <;> rfl] at this
            have h6l : ad6.block < wr.heap.size := by have := World.block_lt_of_cell? _ (ad6.add t.toNat) hc6; rwa [show (ad6.add t.toNat).block = ad6.block from by unfold Addr.add; split <;> rfl] at this
            have ht0 := htb.1
            have ht1 := htb.2
            go_wp2
            have HT := Aside0.mk htn
            have HX := Aside0.mk hx
            go_region_law (first
              | (refine' append_two_step (x := IntKind.u8.wrap x) (y := IntKind.u8.wrap (x / 256)) (B := wq.heap.size) (ok := fun _ => True) u9 (bytesB ((List.range a).map fun a => cl (nxF nx q a))) (.tmp 36) (.tmp 48) 234 5 (by rfl) (by rfl) Try.underlying234 byte5 (by rfl) (by rfl) ?aO ?aC ?aD ?aS ?aL ?_
                 (case aO => exact Kd.R_below BR.out.2 (by repeat (first | exact Below.refl _ _ | apply below_drew1 | apply pw_below_drewN | apply below_alloc)))
                 (case aC => go_simp)
                 (case aD => go_simp)
                 (case aS => have := BR.out.1.size; simp; omega)
                 (case aL => rw [bytesB_len]; simp; have := HOK.out.L4; omega)
                 intro v1 w1 hr1 hg1
                 have hb1 : Below wq.heap.size wq w1 := (show Below wq.heap.size wq _ from by repeat (first | exact BR.out.1 | apply below_drew1 | apply pw_below_drewN | apply below_alloc)).grown hg1 (by have := BR.out.1.size; simp; omega) (fun k hk => Kd.R_base BR.out.2 k hk)
                 have BR1 := Aside0.mk (And.intro hb1 hr1)
                 clear hr1 hg1 hb1)
              | fail)
            all_goals go_wp2
            all_goals
              go_roundg (L - (a + 1))
              case measure => omega
              case rel => exact ⟨a + 1, by omega, by omega, by go_num, ⟨BR1.out.1, by
                have e : bytesB ((List.range (a + 1)).map fun a => cl (nxF nx q a)) = bytesB ((List.range a).map fun a => cl (nxF nx q a)) ++ [IntKind.u8.wrap x, IntKind.u8.wrap (x / 256)] := by
                  rw [List.range_succ, List.map_append, bytesB_app, wrap_u8, wrap_u8, ← HX.out]
                  rfl
                rw [e]
                exact Kd.R_mono BR1.out.2 (fun _ _ => trivial)⟩⟩
          · have hae : a = L := by omega
            subst hae
            go_wp2
            obtain ⟨ad7, e7, hc7⟩ := Kd.at_int (Kd.C_below HCC.out BR.out.1) (q : Int) (by omega) (by simpa using hltz)
            subst e7
            obtain ⟨y, hy⟩ : ∃ y, cl q = y := ⟨_, rfl⟩
            have hry : rd ((List.range nx.length).map cl) q = y := by
              rw [← hy]
              unfold rd
              rw [Int.toNat_natCast, List.getD_eq_getElem?_getD, List.getElem?_map, List.getElem?_range hlt]
              rfl
            rw [Int.toNat_natCast, hry] at hc7
            have h7l : ad7.block < wr.heap.size := by have := World.block_lt_of_cell? _ (ad7.add q) hc7; rwa [show (ad7.add q).block = ad7.block from by unfold Addr.add; split <;> rfl] at this
            obtain ⟨kx, hkx⟩ : ∃ kx, strOfNums (bytesB ((List.range a).map fun a => cl (nxF nx q a))) = kx := ⟨_, rfl⟩
            have HKX := Aside0.mk hkx
            have HY := Aside0.mk hy
            have hcv : (convert 234 9 u9).run Try.prog wr.drew = .ok (.string kx) wr.drew := by rw [← hkx]; exact own_string (P := Try.prog) Try.underlying234 Try.underlying5 Try.underlying9 (Kd.own_of_R (Kd.R_below BR.out.2 (by repeat (first | exact Below.refl _ _ | apply below_drew1 | apply pw_below_drewN | apply below_alloc))))
            have hcv2 : (convert 234 9 u9).run Try.prog (wr.alloc (.cells #[.int .i64 0, .string { data := #[] }] 294)).drew = .ok (.string kx) (wr.alloc (.cells #[.int .i64 0, .string { data := #[] }] 294)).drew := by rw [← hkx]; exact own_string (P := Try.prog) Try.underlying234 Try.underlying5 Try.underlying9 (Kd.own_of_R (Kd.R_below BR.out.2 (by repeat (first | exact Below.refl _ _ | apply below_drew1 | apply pw_below_drewN | apply below_alloc))))
            have hc7b : (wr.alloc (.cells #[.int .i64 0, .string { data := #[] }] 294)).cell? (ad7.add q) = some (.int .i64 y) := pw_cell_below (below_alloc (Below.refl _ _) _) hc7
            have hkk : keyC a (nxF nx) cl q = (y, (List.range a).map fun a => cl (nxF nx q a)) := by unfold keyC; rw [hy]
            obtain ⟨kk, hkk2⟩ : ∃ kk, keyC a (nxF nx) cl q = kk := ⟨_, rfl⟩
            have henc : E.enc kk = .agg #[.int .i64 y, .string kx] := by
              rw [hE1, ← hkk2, hkk, ← hkx]
              rfl
            have hokk : E.ok kk := by
              rw [hE2, ← hkk2]
              refine ⟨HCL.out q hlt, by simp [keyC]; omega, fun x hx => ?_⟩
              obtain ⟨b, hb, rfl⟩ := List.mem_map.1 hx
              exact HCL.out _ (nx_lt HOK.out hlt (List.mem_range.1 hb))
            have MW := Aside0.mk (show ClsM E w wo (wr.alloc (.cells #[.int .i64 y, .string kx] 294)).drew bn' cn nx.length (keyC a (nxF nx) cl) q from
              MM.out.step (by repeat (first | exact BR.out.1 | apply below_drew1 | apply pw_below_drewN | apply below_alloc)))
            have hgs : ∀ t, (wr.alloc (.cells #[.int .i64 y, .string kx] 294)).drew.frozen? ⟨bn', t, none⟩ = false := MW.out.r.frozen
            have hgc : (wr.alloc (.cells #[.int .i64 y, .string kx] 294)).drew.cell? ⟨bn', q, none⟩ = some (.int .i64 0) := by
              have := MW.out.r.cell (i := q) (by simp; omega)
              rw [List.getD_eq_getElem?_getD, List.getElem?_append_right (by simp)] at this
              simpa [show 0 < nx.length - q by omega] using this
            have HKK := Aside0.mk hkk2
            have HOKK := Aside0.mk hokk
            clear hkk hokk
            by_cases hm : kk ∈ mpK (keyC a (nxF nx) cl) q
            · have hlk : ∀ ok, (Instr.lookup 292 (.map (some wo.heap.size)) (.agg #[.int .i64 y, .string kx]) ok).run Try.prog (wr.alloc (.cells #[.int .i64 y, .string kx] 294)).drew = .ok (if ok = true then .tuple #[.int .i64 (ixd (mpK (keyC a (nxF nx) cl) q) kk : Int), .bool true] else .int .i64 (ixd (mpK (keyC a (nxF nx) cl) q) kk : Int)) (wr.alloc (.cells #[.int .i64 y, .string kx] 294)).drew := fun ok => by
                have q := MW.out.m.look kk HOKK.out Try.underlying292 (zero3 _) ok
                rw [lk_kvs (mpK_nodup _ _), if_pos hm, henc] at q
                exact q
              have hlk1 := hlk true
              have hlk2 := hlk false
              simp only [Bool.false_eq_true, if_true, if_false] at hlk1 hlk2
              clear hlk
              go_region_law (fail)
              all_goals go_wp2
              all_goals
                go_roundg (nx.length - (q + 1))
                case measure => omega
                case rel => exact ⟨q + 1, by omega, by omega, by go_num, ⟨ClsM.store MW.out.b MW.out.bb (by rw [mpK_succ, if_pos (by rw [HKK.out]; exact hm)]; exact MW.out.m) MW.out.r hlt ZLT.out HBN.out (by rw [HKK.out, mpK_succ, if_pos (by rw [HKK.out]; exact hm)])⟩⟩
            · have hlen : ∀ n, (mpK (keyC a (nxF nx) cl) q).length = n → (Builtin.len_ #[292] 3 #[.map (some wo.heap.size)]).run Try.prog (wr.alloc (.cells #[.int .i64 y, .string kx] 294)).drew = .ok (.int .i64 (n : Int)) (wr.alloc (.cells #[.int .i64 y, .string kx] 294)).drew := fun n hn => by
                have q := MW.out.m.len Try.underlying292 3
                rw [kvsOf_len, hn] at q
                exact q
              obtain ⟨lm, hlm⟩ : ∃ lm, (mpK (keyC a (nxF nx) cl) q).length = lm := ⟨_, rfl⟩
              have hlk1 : (Instr.lookup 292 (.map (some wo.heap.size)) (.agg #[.int .i64 y, .string kx]) true).run Try.prog (wr.alloc (.cells #[.int .i64 y, .string kx] 294)).drew = .ok (.tuple #[.int .i64 0, .bool false]) (wr.alloc (.cells #[.int .i64 y, .string kx] 294)).drew := by
                have q := MW.out.m.look kk HOKK.out Try.underlying292 (zero3 _) true
                rw [lk_kvs (mpK_nodup _ _), if_neg hm, henc] at q
                exact q
              have HM := Aside0.mk hm
              have HLM := Aside0.mk hlm
              have HENC := Aside0.mk henc
              clear hm
              replace hlen := hlen lm hlm
              go_region_law (fail)
              all_goals
                go_wp2_with (first
                  | (at_mapUpdate
                     refine wpList_upd E _ rfl _ _ _ 292 rfl Try.underlying292 wo.heap.size (kvsOf (mpK (keyC a (nxF nx) cl) q)) kk (.int .i64 (lm : Int)) (by rfl) (by rw [HENC.out]; rfl) (by rfl) MW.out.m HOKK.out ?_
                     intro w6 hM6 ht6
                     rw [← HLM.out, put_kvs (mpK_nodup _ _) HM.out] at hM6
                     have M6 := Aside0.mk hM6
                     have R6 := Aside0.mk (MW.out.r.keep (ht6.block bn' (by have := HBN.out; omega)))
                     have B6 := Aside0.mk (show Below w.heap.size w w6 from ht6.below MW.out.b (by have := ZLT.out; omega))
                     have C6 := Aside0.mk (show Below wo.heap.size wo w6 from ht6.below MW.out.bb (Nat.le_refl _))
                     have hgs6 : ∀ t, w6.frozen? ⟨bn', t, none⟩ = false := R6.out.frozen
                     have hgc6 : w6.cell? ⟨bn', q, none⟩ = some (.int .i64 0) := by
                       have := R6.out.cell (i := q) (by simp; omega)
                       rw [List.getD_eq_getElem?_getD, List.getElem?_append_right (by simp)] at this
                       simpa [show 0 < nx.length - q by omega] using this
                     have hbx6 : w6.heap[wr.heap.size]? = some (.cells #[.int .i64 y, .string kx] 294 (0, 0)) := (ht6.block _ (by have := MM.out.m.lt; have := BR.out.1.size; omega)).trans (blk_new wr _)
                     have hk60 : w6.cell? ⟨wr.heap.size, 0, none⟩ = some (.int .i64 y) := (blk_cell hbx6 0).trans rfl
                     have hk61 : w6.cell? ⟨wr.heap.size, 1, none⟩ = some (.string kx) := (blk_cell hbx6 1).trans rfl
                     have hlk6 : (Instr.lookup 292 (.map (some wo.heap.size)) (.agg #[.int .i64 y, .string kx]) false).run Try.prog w6 = .ok (.int .i64 (lm : Int)) w6 := by
                       have hmem : kk ∈ mpK (keyC a (nxF nx) cl) q ++ [kk] := by simp
                       have q := M6.out.look kk HOKK.out Try.underlying292 (zero3 _) false
                       rw [lk_kvs (by rw [List.nodup_append]; exact ⟨mpK_nodup _ _, by simp, fun x hx z hz e => HM.out (by simp only [List.mem_singleton] at hz; rw [← hz, ← e]; exact hx)⟩), if_pos hmem, HENC.out, ixk_ixd, ixd_new HM.out, HLM.out] at q
                       exact q
                     clear hM6 ht6 hbx6)
                  | fail)
              all_goals
                go_roundg (nx.length - (q + 1))
                case measure => omega
                case rel => exact ⟨q + 1, by omega, by omega, by go_num, ⟨ClsM.store B6.out C6.out (by rw [mpK_succ, if_neg (by rw [HKK.out]; exact HM.out), HKK.out]; exact M6.out) R6.out hlt ZLT.out HBN.out (by rw [HKK.out, mpK_succ, if_neg (by rw [HKK.out]; exact HM.out), HKK.out, ixd_new HM.out, HLM.out])⟩⟩
      · have hqe : q = nx.length := by omega
        subst hqe
        have hlen : ∀ n, (mpK (keyC L (nxF nx) cl) nx.length).length = n → (Builtin.len_ #[292] 3 #[.map (some wo.heap.size)]).run Try.prog wr = .ok (.int .i64 (n : Int)) wr := fun n hn => by
          have q := MM.out.m.len Try.underlying292 3
          rw [kvsOf_len, hn] at q
          exact q
        obtain ⟨lm, hlm⟩ : ∃ lm, (mpK (keyC L (nxF nx) cl) nx.length).length = lm := ⟨_, rfl⟩
        replace hlen := hlen lm hlm
        have hlmD : (dedupK (keysC nx.length L (nxF nx) cl)).length = lm := hlm
        have hlmn : lm ≤ nx.length := by
          have := dedup_len (keysC nx.length L (nxF nx) cl)
          rw [hlmD] at this
          simpa [keysC] using this
        have ROW := Aside0.mk (show Row wr bn' ((List.range nx.length).map (nextC nx.length L (nxF nx) cl)) cn from by
          have q := MM.out.r
          rw [Nat.sub_self] at q
          simp only [List.replicate_zero, List.append_nil] at q
          exact q)
        have ROWR := Aside0.mk (show Kd.R (Kd.int .i64) 3 wr (w.heap.size + 1) (fun _ => True) (.slice (some ⟨bn', 0, none⟩) nx.length cn) ((List.range nx.length).map (nextC nx.length L (nxF nx) cl)) from by
          have q := ROW.out.R (base := w.heap.size + 1) (ok := fun _ => True) (by have := HBN.out; have := ZLT.out; omega) trivial
          simpa using q)
        have hcl : ∀ q, clsC nx.length L (nxF nx) (g + 1) (count : Int) cl q = (if (lm : Int) = count then nextC nx.length L (nxF nx) cl else clsC nx.length L (nxF nx) g (lm : Int) (nextC nx.length L (nxF nx) cl)) q := fun q => by
          rw [clsC, hlmD]
        have HCLS := Aside0.mk hcl
        clear hcl
        by_cases he : lm = count
        · have hez : ((lm : Int) == (count : Int)) = true := by rw [he]; simp
          go_wp2
          go_ret
          refine ⟨_, rfl, MM.out.b, ?_⟩
          have q := Kd.R_lower ROWR.out (show w.heap.size ≤ w.heap.size + 1 by omega)
          rw [← HFI.out]
          have e2 : (List.range nx.length).map (clsC nx.length L (nxF nx) (g + 1) (count : Int) cl) = (List.range nx.length).map (nextC nx.length L (nxF nx) cl) := by
            apply List.map_congr_left
            intro x _
            rw [HCLS.out, if_pos (by rw [he])]
          rw [e2]
          exact q
        · have hez : ((lm : Int) == (count : Int)) = false := beq_eq_false_iff_ne.mpr (by omega)
          have hge : count ≤ lm := by
            have := cls_ge (L := L) (nx := nxF nx) HCO.out
            rw [hlmD] at this
            exact this
          have HLMD := Aside0.mk hlmD
          clear hlmD
          go_wp2
          go_roundg g
          case measure => omega
          case rel => exact ⟨g, lm, nextC nx.length L (nxF nx) cl, some ⟨bn', 0, none⟩, cn, Nat.le_refl _, by omega, rfl, rfl, ⟨by
            rw [← HFI.out]
            apply List.map_congr_left
            intro x _
            rw [HCLS.out, if_neg (by omega)]⟩, ⟨fun i hi => next_has (by rw [HLMD.out]; exact hi)⟩, ⟨fun q hq => by have := next_lt (L := L) (nx := nxF nx) (cl := cl) hq; omega⟩, ROWR, ⟨MM.out.b, blk_below HBB.out.2 MM.out.bb⟩⟩
end Go.Proofs.Ytampgoendkjkhaa.H
