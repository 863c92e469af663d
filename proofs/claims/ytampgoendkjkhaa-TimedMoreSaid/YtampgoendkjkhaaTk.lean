/- timed: spots as keys, ways as values, legs; ranging over such a map. -/
import Derived.Test.YtampgoendkjkhaaTp
import Derived.Test.YtampgoendkjkhaaArr
import Derived.Test.YtampgoendkjkhaaSlA
import Derived.Test.YtampgoendkjkhaaDv
import Derived.DeepKeys4
import Derived.Laws.IdiomRangeMap
import Derived.Maps.RangeRun
namespace Go.Proofs.Ytampgoendkjkhaa.H
open Go.RowKit Go.Maps Go.Shelf Go.ChangeMaps Go.Proofs.YtampgoendkjkhaaW.PrintWords
set_option linter.unusedVariables false
set_option linter.unusedSimpArgs false
set_option linter.unusedSectionVars false
def encT (x : Int × Int) : Value := .agg #[.int .i64 x.1, .int .i64 x.2]
def okT (x : Int × Int) : Prop := (-9223372036854775808 ≤ x.1 ∧ x.1 ≤ 9223372036854775807) ∧ (-9223372036854775808 ≤ x.2 ∧ x.2 ≤ 9223372036854775807)
theorem kaT_laid : laidOutB Try.prog = true := by kernel_rfl
theorem kaT_row : (220 : TypeId) < Try.prog.types.size := of_decide_eq_true (by kernel_rfl)
theorem kaT_wide : (match Try.prog.underlying 220 with | some (.array _ _) | some (.struct _) => true | _ => false) = true := by kernel_rfl
theorem kaT_kt3 : Try.prog.keyTypeAt 3 220 = true := by kernel_rfl
set_option maxRecDepth 100000 in
theorem kaT_law : WideMaps.KeyLaw Try.prog 220 := deep_law_laid (m := 3) kaT_laid (by decide) kaT_row kaT_kt3 kaT_wide
theorem kaT_kt : Try.prog.keyType 220 = true := by kernel_rfl
theorem kaT_c : Try.prog.cellsOf 220 = 2 := by kernel_rfl
theorem kaT_c3 : Try.prog.cellsOf 3 = 1 := by kernel_rfl
theorem kaT_fm (x0 x1 : Int) : (Value.agg #[.int .i64 x0, .int .i64 x1]).formed Try.prog 220 = true := by
  simp [Value.formed, Try.underlying220, kaT_c]
theorem kaT_kl (n : Nat) (x0 x1 : Int) (h0 : (Lit.int .i64 x0).wf = true) (h1 : (Lit.int .i64 x1).wf = true) : (Try.prog.keyLits (n + 2) 220 [.int .i64 x0, .int .i64 x1]) = some [.int .i64 x0, .int .i64 x1] := by
  simp [Program.keyLits, Try.underlying220, Try.underlying3, kaT_c, kaT_c3, List.range_succ, h0, h1]
theorem kaT_tsz : Try.prog.types.size = (Try.prog.types.size - 1) + 1 := by kernel_rfl
theorem kaT_ko (x0 x1 : Int) (h0 : (Lit.int .i64 x0).wf = true) (h1 : (Lit.int .i64 x1).wf = true) : keyOf Try.prog 220 (.agg #[.int .i64 x0, .int .i64 x1]) = some (.string (keyBytes [.int .i64 x0, .int .i64 x1])) := by
  have hw : ∃ fs, Try.prog.underlying 220 = some (.struct fs) := ⟨_, Try.underlying220⟩
  obtain ⟨fs, hu⟩ := hw
  unfold keyOf
  rw [hu]
  simp only [kaT_kt, kaT_fm, Bool.and_self, if_true]
  rw [kaT_tsz]
  have := kaT_kl (Try.prog.types.size - 1) x0 x1 h0 h1
  simp only [Value.cells]
  rw [this]
  rfl
theorem keyT : ∃ E : KeyE Try.prog 220 (Int × Int), E.enc = encT ∧ E.ok = okT := ⟨{
  enc := encT
  ok := okT
  K := Keyed.of_law kaT_law
  lit := fun a => .string (keyBytes [.int .i64 a.1, .int .i64 a.2])
  key := fun a h => kaT_ko a.1 a.2 (wf_i64 (by have q := h.1; omega)) (wf_i64 (by have q := h.2; omega))
  inj := fun a b _ _ e => by
    unfold encT at e
    injection e with e
    have e0 := congrArg (fun z => z[0]?) e; have e1 := congrArg (fun z => z[1]?) e
    simp at e0 e1
    exact Prod.ext e0 (e1) }, rfl, rfl⟩
/-! ### the stamps of a map's entries -/
def MapB (W : World) (b : Nat) : Prop := ∃ es clock, W.heap[b]? = some (.map es clock) ∧ (∀ x ∈ es.toList, x.born < clock) ∧ (es.toList.map (·.born)).Nodup
theorem MapB.keep {W W' : World} {b : Nat} (h : MapB W b) (e : W'.heap[b]? = W.heap[b]?) : MapB W' b := by
  obtain ⟨es, c, h1, h2⟩ := h
  exact ⟨es, c, e.trans h1, h2⟩
theorem mapB_made (W : World) : MapB (W.alloc (.map #[] 0)) W.heap.size := ⟨#[], 0, (MapKept.heap_alloc W _).1, by simp, by simp⟩
section
variable {P : Program} {t : TypeId} {κ : Type} [DecidableEq κ]
theorem MapK.updB {E : KeyE P t κ} {W : World} {b : Nat} {kvs : List (κ × Value)} (h : MapK E W b kvs) (hB : MapB W b) (k : κ) (hk : E.ok k) {T e : TypeId} (hT : P.underlying T = some (.map t e)) (v : Value) {W' : World}
    (hrun : (Instr.mapUpdate T (.map (some b)) (E.enc k) v).run P W = .ok () W') : MapB W' b := by
  obtain ⟨es0, c0, g1, g2, g3⟩ := hB
  obtain ⟨es, c, h1, h2, ⟨f1, f2⟩ | ⟨j, u, e0, f1, f2, f3, f4, f5⟩⟩ := h.find k hk
  · have e1 := h1.symm.trans g1
    injection e1 with e1
    injection e1 with e1 e2
    subst e1 e2
    have hr : (Instr.mapUpdate T (.map (some b)) (E.enc k) v).run P W = .ok () (setBlock W b (.map (es.push ⟨E.enc k, v, c⟩) (c + 1))) := by
      simp [Instr.mapUpdate, run_underlying hT, MapKept.run_getObj_map h1, E.K.check W false (E.key k hk), f1, MapKept.run_setObj_map _ h1, Result.andThen, setBlock]
    rw [hr] at hrun
    injection hrun with _ hrun
    subst hrun
    refine ⟨_, _, heap_setBlock_same h1 _, fun x hx => ?_, ?_⟩
    · rw [Array.toList_push] at hx
      rcases List.mem_append.1 hx with hx | hx
      · have := g2 x hx; omega
      · obtain rfl := List.mem_singleton.1 hx
        exact Nat.lt_succ_self _
    · rw [Array.toList_push, List.map_append, List.nodup_append]
      refine ⟨g3, by simp, fun a ha x hx e => ?_⟩
      simp only [List.map_cons, List.map_nil, List.mem_singleton] at hx
      obtain ⟨y, hy, hye⟩ := List.mem_map.1 ha
      have := g2 y hy
      omega
  · have e1 := h1.symm.trans g1
    injection e1 with e1
    injection e1 with e1 e2
    subst e1 e2
    have hr : (Instr.mapUpdate T (.map (some b)) (E.enc k) v).run P W = .ok () (setBlock W b (.map (es.modify j fun e' => { e' with key := E.enc k, val := v }) c)) := by
      simp [Instr.mapUpdate, run_underlying hT, MapKept.run_getObj_map h1, E.K.check W false (E.key k hk), f1, f2, f3, E.K.stays W (E.key k hk), MapKept.run_setObj_map _ h1, Result.andThen, setBlock]
    rw [hr] at hrun
    injection hrun with _ hrun
    subst hrun
    have hb : ((es.modify j fun e' => { e' with key := E.enc k, val := v }).toList.map (·.born)) = es.toList.map (·.born) := by
      rw [Array.toList_modify]
      apply List.ext_getElem?
      intro i
      rw [List.getElem?_map, List.getElem?_modify, List.getElem?_map]
      by_cases hij : j = i <;> cases es.toList[i]? <;> simp [hij]
    refine ⟨_, _, heap_setBlock_same h1 _, fun x hx => ?_, by rw [hb]; exact g3⟩
    have : x.born ∈ es.toList.map (·.born) := by rw [← hb]; exact List.mem_map_of_mem hx
    obtain ⟨y, hy, hye⟩ := List.mem_map.1 this
    have := g2 y hy
    omega
/-- 'm[k] = v' at the operation, the stamps kept -/
theorem wpList_updB (E : KeyE P t κ) (w : World) {ops : Array Oper} {rest : List Oper} {o : Oper} {a : Act} {Q : Exit → Act → World → Prop}
    (hg : o.guard = none) (m x v : Operand) (T : TypeId) (hop : o.op = Op.mapUpdate T m x v) {e : TypeId} (hT : P.underlying T = some (.map t e)) (b : Nat) (kvs : List (κ × Value)) (k : κ) (val : Value)
    (hm : a.eval m = .map (some b)) (hx : a.eval x = E.enc k) (hv : a.eval v = val) (hM : MapK E w b kvs) (hB : MapB w b) (hk : E.ok k)
    (hK : ∀ w', MapK E w' b (put kvs k val) → MapB w' b → Turned b w w' → wpList P ops Q rest (a.put o.dst undef) w') :
    wpList P ops Q (o :: rest) a w := by
  refine wpList_plain hg fun K' hK' => ?_
  obtain ⟨w', hrun, r1, r2⟩ := hM.upd k hk hT val
  unfold Oper.wp
  simp [execOp, hop, hm, hx, hv, hrun, Result.andThen]
  exact hK' _ _ (hK w' r1 (hM.updB hB k hk hT val hrun) r2)
theorem wpList_insB (E : KeyE P t κ) (w : World) {ops : Array Oper} {rest : List Oper} {o : Oper} {a : Act} {Q : Exit → Act → World → Prop}
    (hg : o.guard = none) (m x v : Operand) (T : TypeId) (hop : o.op = Op.insert T m x v) {e : TypeId} (hT : P.underlying T = some (.map t e)) (b : Nat) (kvs : List (κ × Value)) (k : κ) (val : Value)
    (hm : a.eval m = .map (some b)) (hx : a.eval x = E.enc k) (hv : a.eval v = val) (hM : MapK E w b kvs) (hB : MapB w b) (hk : E.ok k)
    (hK : ∀ w', MapK E w' b (put kvs k val) → MapB w' b → Turned b w w' → wpList P ops Q rest (a.put o.dst undef) w') :
    wpList P ops Q (o :: rest) a w := by
  refine wpList_plain hg fun K' hK' => ?_
  obtain ⟨w', hrun, r1, r2⟩ := hM.upd k hk hT val
  unfold Oper.wp
  simp [execOp, hop, hm, hx, hv, hrun, Result.andThen]
  exact hK' _ _ (hK w' r1 (hM.updB hB k hk hT val hrun) r2)
theorem upd_stepB (E : KeyE P t κ) {ops : Array Oper} {o : Oper} {a : Act} {Q : Exit → Act → World → Prop} {X : Prop} {Kc : Act → World → Prop} (w : World) (hw : Region.wanted o (yielded ops a.tmps) = true)
    (m x v : Operand) (T : TypeId) (hop : o.op = Op.mapUpdate T m x v) {e : TypeId} (hT : P.underlying T = some (.map t e)) (b : Nat) (kvs : List (κ × Value)) (k : κ) (val : Value)
    (hm : a.eval m = .map (some b)) (hx : a.eval x = E.enc k) (hv : a.eval v = val) (hM : MapK E w b kvs) (hB : MapB w b) (hk : E.ok k)
    (hK : ∀ w', MapK E w' b (put kvs k val) → MapB w' b → Turned b w w' → Kc (a.put o.dst undef) w') :
    if Region.wanted o (yielded ops a.tmps) = true then Oper.wp P o a w Kc Q else X := by
  obtain ⟨w', hrun, r1, r2⟩ := hM.upd k hk hT val
  rw [if_pos hw]
  unfold Oper.wp
  simp [execOp, hop, hm, hx, hv, hrun, Result.andThen]
  exact hK w' r1 (hM.updB hB k hk hT val hrun) r2
end
/-! ### ways as values -/
def encW (w : Wy) : Value := .agg #[.int .i64 w.t, .slice w.A w.m w.c, .bool w.d]
def kvW (ws : List (Spt × Wy)) : List (Spt × Value) := ws.map fun p => (p.1, encW p.2)
theorem lk_kvW (ws : List (Spt × Wy)) (k : Spt) : lk (kvW ws) k = (lkW ws k).map encW := by
  unfold lk lkW kvW
  rw [List.find?_map]
  cases h : ws.find? ((fun p : Spt × Value => decide (p.1 = k)) ∘ fun p : Spt × Wy => (p.1, encW p.2)) with
  | none =>
    have : ws.find? (fun p => decide (p.1 = k)) = none := h
    rw [this]; rfl
  | some p =>
    have : ws.find? (fun p => decide (p.1 = k)) = some p := h
    rw [this]; rfl
theorem put_kvW (ws : List (Spt × Wy)) (k : Spt) (v : Wy) : put (kvW ws) k (encW v) = kvW (putW ws k v) := by
  unfold put putW
  rw [lk_kvW, Option.isSome_map]
  by_cases h : (lkW ws k).isSome = true
  · rw [if_pos h, if_pos h]
    unfold kvW
    rw [List.map_map, List.map_map]
    refine List.map_congr_left fun p hp => ?_
    by_cases e : p.1 = k <;> simp [e]
  · rw [if_neg h, if_neg h]
    unfold kvW
    rw [List.map_append]
    rfl
/-! ### legs -/
def csLg (x : Int × Int) : List Int := [x.1, x.2]
def kLg : Kd (Int × Int) := kArr 2 csLg (fun _ => rfl)
theorem info_lg : (Try.prog.info? 274).map (fun i => (i.zero, i.size, i.bytes)) = some (some (.agg #[.int .i64 0, .int .i64 0]), 2, 16) := by kernel_rfl
set_option maxHeartbeats 1000000 in
theorem clone_lg (A : Option Addr) (c : Nat) (l : List (Int × Int)) (w : World) (hr : Kd.C kLg w A l.length l) (hl : l.length < 1099511627776) :
    Calls Try.prog 175 #[.slice A l.length c] w fun e w' => ∃ v : Value, e = .returned v ∧ Kd.R kLg 274 w' w.heap.size (fun _ => True) v l ∧ Below w.heap.size w w' := by
  have HR := Aside0.mk hr
  have HL := Aside0.mk hl
  clear hr hl
  have qT : ∀ (w : World) (a : Option Addr) (n c n' c' : Nat), (binOp .eql 28 (.slice a n c) (.slice none n' c')).run Try.prog w = .ok (.bool a.isNone) w := fun w a n c n' c' => Lib.run_eql_slice_nil w _ _ a n c n' c' Try.underlying28
  cases A with
  | none =>
    have h0 : l = [] := by
      cases l with
      | nil => rfl
      | cons x xs => obtain ⟨ad, e, _⟩ := HR.out.2.2 (by simp); cases e
    subst h0
    go_enter Try.func175, Try.ntmps175
    go_wp2
    go_ret
    exact ⟨_, rfl, Kd.R_nil _ _ _ _ _, Below.refl _ _⟩
  | some ad =>
    have HO' := Aside0.mk (show Kd.R kLg 274 (w.alloc (.cells #[] 274)) w.heap.size (fun _ => True) (.slice (some ⟨w.heap.size, 0, none⟩) 0 0) [] from ⟨fun _ _ => trivial, OwnRow.lit w w.heap.size (ps := ([] : List (Int × Int))) (inner := []) ⟨by simp, fun j p hj => by simp at hj⟩ (Nat.le_refl _) (by simp)⟩)
    have HB' := Aside0.mk ((Below.refl w.heap.size w).alloc (Nat.le_refl _) (.cells #[] 274))
    go_enter Try.func175, Try.ntmps175
    go_wp2_with (
      at_builtin
      refine Kd.R_append_rows kLg (w0 := w) w.heap.size rfl _ _ 28 274 (.agg #[.int .i64 0, .int .i64 0]) 16 rfl Try.underlying28 info_lg rfl (by decide) (by decide) _ [] l (some ad) l.length c (fun _ => True) (fun _ => False) rfl rfl HO'.out (Kd.C_below HR.out HB'.out) (fun _ _ h => h) (fun _ h => h.elim) (fun _ _ => trivial) HB'.out (by simp) (by have := HL.out; simp; omega) ?_
      intro v1 w1 hown hb1 hg hat
      have HO1 := Aside0.mk hown
      have HB1 := Aside0.mk hb1
      clear hown hb1 hg hat)
    go_ret
    exact ⟨v1, rfl, HO1.out, HB1.out⟩
end Go.Proofs.Ytampgoendkjkhaa.H
