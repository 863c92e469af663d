/- Maps that the call itself has made: a list of pairs in the order of their coming. -/
import Derived.Test.YtampgoendkjkhaaProg
import Derived.Maps.Own
import Derived.Maps.OwnOps
namespace Go.Proofs.Ytampgoendkjkhaa.H
open Go.RowKit Go.Maps
set_option linter.unusedVariables false
set_option linter.unusedSectionVars false
set_option linter.unusedSimpArgs false
/-- how keys stand as values -/
structure KeyE (P : Program) (t : TypeId) (κ : Type) where
  enc : κ → Value
  ok : κ → Prop
  K : Keyed P t
  lit : κ → Lit
  key : ∀ a, ok a → keyOf P t (enc a) = some (lit a)
  inj : ∀ a b, ok a → ok b → enc a = enc b → a = b
section
variable {P : Program} {t : TypeId} {κ : Type} [DecidableEq κ]
def lk (kvs : List (κ × Value)) (k : κ) : Option Value := (kvs.find? (fun p => decide (p.1 = k))).map (·.2)
def put (kvs : List (κ × Value)) (k : κ) (v : Value) : List (κ × Value) := if (lk kvs k).isSome then kvs.map (fun p => if p.1 = k then (k, v) else p) else kvs ++ [(k, v)]
def MapK (E : KeyE P t κ) (W : World) (b : Nat) (kvs : List (κ × Value)) : Prop :=
  (∃ es clock, W.heap[b]? = some (.map es clock) ∧ es.toList.map (fun e => (e.key, e.val)) = kvs.map (fun p => (E.enc p.1, p.2))) ∧ (kvs.map (·.1)).Nodup ∧ ∀ p ∈ kvs, E.ok p.1
theorem MapK.keep {E : KeyE P t κ} {W W' : World} {b : Nat} {kvs : List (κ × Value)} (h : MapK E W b kvs) (e : W'.heap[b]? = W.heap[b]?) : MapK E W' b kvs := by
  obtain ⟨⟨es, c, h1, h2⟩, h3⟩ := h
  exact ⟨⟨es, c, e.trans h1, h2⟩, h3⟩
theorem MapK.lt {E : KeyE P t κ} {W : World} {b : Nat} {kvs : List (κ × Value)} (h : MapK E W b kvs) : b < W.heap.size := by
  obtain ⟨⟨es, c, h1, h2⟩, h3⟩ := h
  exact (Array.getElem?_eq_some_iff.1 h1).1
theorem MapK.below {E : KeyE P t κ} {W W' : World} {b : Nat} {kvs : List (κ × Value)} (h : MapK E W b kvs) (hb : Below W.heap.size W W') : MapK E W' b kvs := h.keep (hb.block b h.lt)
theorem mapK_made (E : KeyE P t κ) (W : World) : MapK E (W.alloc (.map #[] 0)) W.heap.size [] := ⟨⟨#[], 0, (MapKept.heap_alloc W _).1, rfl⟩, by simp, by simp⟩
theorem lk_none {kvs : List (κ × Value)} {k : κ} (h : ∀ p ∈ kvs, p.1 ≠ k) : lk kvs k = none := by
  unfold lk
  rw [List.find?_eq_none.2 (fun p hp => by simpa using h p hp)]
  rfl
theorem lk_some {kvs : List (κ × Value)} (hn : (kvs.map (·.1)).Nodup) {k : κ} {v : Value} (h : (k, v) ∈ kvs) : lk kvs k = some v := by
  unfold lk
  induction kvs with
  | nil => simp at h
  | cons p kvs ih =>
    rw [List.map_cons, List.nodup_cons] at hn
    rw [List.find?_cons]
    by_cases e : p.1 = k
    · rw [decide_eq_true e]
      rcases List.mem_cons.1 h with rfl | h
      · rfl
      · exact absurd (List.mem_map.2 ⟨(k, v), h, e.symm⟩) hn.1
    · rw [decide_eq_false e]
      rcases List.mem_cons.1 h with rfl | h
      · exact absurd rfl e
      · exact ih hn.2 h
/-- what findKey answers -/
theorem MapK.find {E : KeyE P t κ} {W : World} {b : Nat} {kvs : List (κ × Value)} (h : MapK E W b kvs) (k : κ) (hk : E.ok k) :
    ∃ es clock, W.heap[b]? = some (.map es clock) ∧ es.toList.map (fun e => (e.key, e.val)) = kvs.map (fun p => (E.enc p.1, p.2)) ∧
      (((Instr.findKey t (E.enc k) es.toList).run P W = .ok none W ∧ (∀ p ∈ kvs, p.1 ≠ k)) ∨
       ∃ j v e, (Instr.findKey t (E.enc k) es.toList).run P W = .ok (some (j, v)) W ∧ es[j]? = some e ∧ e.key = E.enc k ∧ e.val = v ∧ kvs[j]? = some (k, v)) := by
  obtain ⟨⟨es, c, h1, h2⟩, h3, h4⟩ := h
  refine ⟨es, c, h1, h2, ?_⟩
  have hget : ∀ (j : Nat) (e : MapEntry), es.toList[j]? = some e → ∃ p : κ × Value, kvs[j]? = some p ∧ E.enc p.1 = e.key ∧ p.2 = e.val := by
    intro j e he
    have := congrArg (fun l => l[j]?) h2
    simp only [List.getElem?_map, he, Option.map_some] at this
    obtain ⟨p, hp, hpe⟩ := Option.map_eq_some_iff.1 this.symm
    exact ⟨p, hp, (Prod.mk.inj hpe).1, (Prod.mk.inj hpe).2⟩
  have hget2 : ∀ (j : Nat) (p : κ × Value), kvs[j]? = some p → ∃ e : MapEntry, es.toList[j]? = some e ∧ E.enc p.1 = e.key ∧ p.2 = e.val := by
    intro j p hp
    have := congrArg (fun l => l[j]?) h2
    simp only [List.getElem?_map, hp, Option.map_some] at this
    obtain ⟨e, he, hpe⟩ := Option.map_eq_some_iff.1 this
    exact ⟨e, he, (Prod.mk.inj hpe).1.symm, (Prod.mk.inj hpe).2.symm⟩
  rcases E.K.find W (E.key k hk) es.toList (fun e he => by
    obtain ⟨j, hj⟩ := List.getElem?_of_mem he
    obtain ⟨p, hp, hpk, _⟩ := hget j e hj
    exact ⟨_, by rw [← hpk]; exact E.key p.1 (h4 p (List.mem_of_getElem? hp))⟩) with ⟨f1, f2⟩ | ⟨j, e, f1, f2, f3⟩
  · refine .inl ⟨f1, fun p hp e => ?_⟩
    obtain ⟨j, hj⟩ := List.getElem?_of_mem hp
    obtain ⟨e', he', hk', _⟩ := hget2 j p hj
    exact f2 e' (List.mem_of_getElem? he') (by rw [← hk', e])
  · obtain ⟨p, hp, hpk, hpv⟩ := hget j e f2
    have : p.1 = k := E.inj _ _ (h4 p (List.mem_of_getElem? hp)) hk (by rw [hpk, f3])
    refine .inr ⟨j, e.val, e, f1, by simpa using f2, f3, rfl, ?_⟩
    rw [hp, ← this, ← hpv]
theorem MapK.look {E : KeyE P t κ} {W : World} {b : Nat} {kvs : List (κ × Value)} (h : MapK E W b kvs) (k : κ) (hk : E.ok k) {T e : TypeId} (hT : P.underlying T = some (.map t e)) {z : Value} (hz : (zeroValue e).run P W = .ok z W) (ok : Bool) :
    (Instr.lookup T (.map (some b)) (E.enc k) ok).run P W = .ok (if ok = true then .tuple #[(lk kvs k).getD z, .bool (lk kvs k).isSome] else (lk kvs k).getD z) W := by
  have hn := h.2.1
  obtain ⟨es, c, h1, h2, ⟨f1, f2⟩ | ⟨j, v, e, f1, f2, f3, f4, f5⟩⟩ := h.find k hk
  · rw [lk_none f2]
    cases ok <;> simp [Instr.lookup, run_underlying hT, MapKept.run_getObj_map h1, E.K.check W _ (E.key k hk), f1, hz, Result.andThen]
  · rw [lk_some hn (List.mem_of_getElem? f5)]
    cases ok <;> simp [Instr.lookup, run_underlying hT, MapKept.run_getObj_map h1, E.K.check W _ (E.key k hk), f1, Result.andThen]
/-- all blocks but one are as they were -/
structure Turned (b : Nat) (W W' : World) : Prop where
  os : W'.os = W.os
  tape : W'.tape = W.tape
  output : W'.output = W.output
  size : W'.heap.size = W.heap.size
  block : ∀ j, j ≠ b → W'.heap[j]? = W.heap[j]?
theorem Turned.below {b B : Nat} {W0 W W' : World} (h : Turned b W W') (hb : Below B W0 W) (hB : B ≤ b) : Below B W0 W' :=
  ⟨h.os.trans hb.os, h.tape.trans hb.tape, h.output.trans hb.output, by rw [h.size]; exact hb.size, fun k hk => (h.block k (by omega)).trans (hb.block k hk)⟩
theorem MapK.upd {E : KeyE P t κ} {W : World} {b : Nat} {kvs : List (κ × Value)} (h : MapK E W b kvs) (k : κ) (hk : E.ok k) {T e : TypeId} (hT : P.underlying T = some (.map t e)) (v : Value) :
    ∃ W', (Instr.mapUpdate T (.map (some b)) (E.enc k) v).run P W = .ok () W' ∧ MapK E W' b (put kvs k v) ∧ Turned b W W' := by
  have hn := h.2.1
  have ho := h.2.2
  obtain ⟨es, c, h1, h2, ⟨f1, f2⟩ | ⟨j, u, e0, f1, f2, f3, f4, f5⟩⟩ := h.find k hk
  · refine ⟨Go.ChangeMaps.setBlock W b (.map (es.push ⟨E.enc k, v, c⟩) (c + 1)), ?_, ⟨⟨_, _, Go.ChangeMaps.heap_setBlock_same h1 _, ?_⟩, ?_, ?_⟩, ⟨rfl, rfl, rfl, by simp [Go.ChangeMaps.setBlock], fun i hi => Go.ChangeMaps.heap_setBlock_other h1 _ hi⟩⟩
    · simp [Instr.mapUpdate, run_underlying hT, MapKept.run_getObj_map h1, E.K.check W false (E.key k hk), f1, MapKept.run_setObj_map _ h1, Result.andThen, Go.ChangeMaps.setBlock]
    · unfold put
      rw [lk_none f2]
      simp [h2]
    · unfold put
      rw [lk_none f2]
      simp only [Option.isSome_none, Bool.false_eq_true, if_false, List.map_append, List.map_cons, List.map_nil]
      rw [List.nodup_append]
      refine ⟨hn, by simp, fun a ha x hx e => ?_⟩
      simp only [List.mem_singleton] at hx
      obtain ⟨p, hp, hpe⟩ := List.mem_map.1 ha
      exact f2 p hp (by rw [hpe, e, hx])
    · unfold put
      rw [lk_none f2]
      simp only [Option.isSome_none, Bool.false_eq_true, if_false]
      intro p hp
      rcases List.mem_append.1 hp with hp | hp
      · exact ho p hp
      · simp only [List.mem_singleton] at hp
        subst hp; exact hk
  · have e2 : lk kvs k = some u := lk_some hn (List.mem_of_getElem? f5)
    refine ⟨Go.ChangeMaps.setBlock W b (.map (es.modify j fun e' => { e' with key := E.enc k, val := v }) c), ?_, ⟨⟨_, _, Go.ChangeMaps.heap_setBlock_same h1 _, ?_⟩, ?_, ?_⟩, ⟨rfl, rfl, rfl, by simp [Go.ChangeMaps.setBlock], fun i hi => Go.ChangeMaps.heap_setBlock_other h1 _ hi⟩⟩
    · simp [Instr.mapUpdate, run_underlying hT, MapKept.run_getObj_map h1, E.K.check W false (E.key k hk), f1, f2, f3, E.K.stays W (E.key k hk), MapKept.run_setObj_map _ h1, Result.andThen, Go.ChangeMaps.setBlock]
    · unfold put
      rw [e2]
      simp only [Option.isSome_some, if_true, List.map_map]
      rw [Array.toList_modify]
      apply List.ext_getElem?
      intro i
      rw [List.getElem?_map, List.getElem?_modify, List.getElem?_map]
      have := congrArg (fun l => l[i]?) h2
      simp only [List.getElem?_map] at this
      by_cases hij : j = i
      · subst hij
        rw [f5]
        have f2' : es.toList[j]? = some e0 := by simpa using f2
        rw [f2']
        simp
      · cases hk' : kvs[i]? with
        | none =>
          rw [hk'] at this
          have : es.toList[i]? = none := by simpa using this
          rw [this]; simp [hij]
        | some p =>
          rw [hk'] at this
          obtain ⟨e', he', hpe⟩ := Option.map_eq_some_iff.1 this
          have hpk : p.1 ≠ k := by
            intro e
            have hi : i < kvs.length := (List.getElem?_eq_some_iff.1 hk').1
            have hj : j < kvs.length := (List.getElem?_eq_some_iff.1 f5).1
            have n := List.pairwise_iff_getElem.1 hn
            have gi : (kvs.map (·.1))[i]'(by simpa using hi) = k := by
              have : kvs[i] = p := by rw [List.getElem?_eq_getElem hi] at hk'; exact Option.some.inj hk'
              simp [this, e]
            have gj : (kvs.map (·.1))[j]'(by simpa using hj) = k := by
              have : kvs[j] = (k, u) := by rw [List.getElem?_eq_getElem hj] at f5; exact Option.some.inj f5
              simp [this]
            rcases Nat.lt_or_gt_of_ne hij with q | q
            · exact n j i (by simpa using hj) (by simpa using hi) q (by rw [gi, gj])
            · exact n i j (by simpa using hi) (by simpa using hj) q (by rw [gi, gj])
          rw [he']
          simp [hij, hpk]
          exact Prod.mk.inj hpe
    · unfold put
      rw [e2]
      simp only [Option.isSome_some, if_true, List.map_map]
      have : (fun p : κ × Value => p.1) ∘ (fun p => if p.1 = k then (k, v) else p) = (fun p => p.1) := by
        funext p
        simp only [Function.comp]
        split
        · rename_i e; exact e.symm
        · rfl
      rw [this]
      exact hn
    · unfold put
      rw [e2]
      simp only [Option.isSome_some, if_true]
      intro p hp
      obtain ⟨q, hq, rfl⟩ := List.mem_map.1 hp
      split
      · exact hk
      · exact ho q hq
end
/-- 'm[k] = v' at the operation -/
theorem wpList_upd {P : Program} {t : TypeId} {κ : Type} [DecidableEq κ] (E : KeyE P t κ) (w : World) {ops : Array Oper} {rest : List Oper} {o : Oper} {a : Act} {Q : Exit → Act → World → Prop}
    (hg : o.guard = none) (m x v : Operand) (T : TypeId) (hop : o.op = Op.mapUpdate T m x v) {e : TypeId} (hT : P.underlying T = some (.map t e)) (b : Nat) (kvs : List (κ × Value)) (k : κ) (val : Value)
    (hm : a.eval m = .map (some b)) (hx : a.eval x = E.enc k) (hv : a.eval v = val) (hM : MapK E w b kvs) (hk : E.ok k)
    (hK : ∀ w', MapK E w' b (put kvs k val) → Turned b w w' → wpList P ops Q rest (a.put o.dst undef) w') :
    wpList P ops Q (o :: rest) a w := by
  refine wpList_plain hg fun K' hK' => ?_
  obtain ⟨w', hrun, r1, r2⟩ := hM.upd k hk hT val
  unfold Oper.wp
  simp [execOp, hop, hm, hx, hv, hrun, Result.andThen]
  exact hK' _ _ (hK w' r1 r2)
/-- a map literal's entry -/
theorem wpList_ins {P : Program} {t : TypeId} {κ : Type} [DecidableEq κ] (E : KeyE P t κ) (w : World) {ops : Array Oper} {rest : List Oper} {o : Oper} {a : Act} {Q : Exit → Act → World → Prop}
    (hg : o.guard = none) (m x v : Operand) (T : TypeId) (hop : o.op = Op.insert T m x v) {e : TypeId} (hT : P.underlying T = some (.map t e)) (b : Nat) (kvs : List (κ × Value)) (k : κ) (val : Value)
    (hm : a.eval m = .map (some b)) (hx : a.eval x = E.enc k) (hv : a.eval v = val) (hM : MapK E w b kvs) (hk : E.ok k)
    (hK : ∀ w', MapK E w' b (put kvs k val) → Turned b w w' → wpList P ops Q rest (a.put o.dst undef) w') :
    wpList P ops Q (o :: rest) a w := by
  refine wpList_plain hg fun K' hK' => ?_
  obtain ⟨w', hrun, r1, r2⟩ := hM.upd k hk hT val
  unfold Oper.wp
  simp [execOp, hop, hm, hx, hv, hrun, Result.andThen]
  exact hK' _ _ (hK w' r1 r2)
theorem wf_i64 {a : Int} (h : -9223372036854775808 ≤ a ∧ a ≤ 9223372036854775807) : (Lit.int .i64 a).wf = true := by
  have e1 : IntKind.i64.min = -9223372036854775808 := by decide
  have e2 : IntKind.i64.max = 9223372036854775807 := by decide
  simp only [Lit.wf, e1, e2, Bool.and_eq_true, decide_eq_true_eq]
  exact h
/-- keys that are ints -/
def intKey (P : Program) (t : TypeId) (ht : P.underlying t = some (.int .i64)) : KeyE P t Int where
  enc := .int .i64
  ok a := -9223372036854775808 ≤ a ∧ a ≤ 9223372036854775807
  K := int_keyed ht
  lit := .int .i64
  key a h := keyOf_int_mk ht (wf_i64 h)
  inj a b _ _ h := by injection h
/-- a list of keys, each at its place -/
def kvsOf {κ : Type} (l : List κ) : List (κ × Value) := l.zipIdx.map (fun p => (p.1, .int .i64 (p.2 : Int)))
theorem kvsOf_keys {κ : Type} (l : List κ) : (kvsOf l).map (·.1) = l := by
  unfold kvsOf
  rw [List.map_map]
  have : ((fun x : κ × Value => x.1) ∘ fun p : κ × Nat => (p.1, Value.int .i64 (p.2 : Int))) = (fun p => p.1) := rfl
  rw [this, List.zipIdx_map_fst]
theorem kvsOf_snoc {κ : Type} (l : List κ) (x : κ) : kvsOf (l ++ [x]) = kvsOf l ++ [(x, .int .i64 (l.length : Int))] := by
  unfold kvsOf
  rw [List.zipIdx_append, List.map_append]
  simp
def ixk {κ : Type} [DecidableEq κ] (l : List κ) (x : κ) : Nat := l.findIdx (fun y => decide (y = x))
theorem ixk_lt {κ : Type} [DecidableEq κ] {l : List κ} {x : κ} (h : x ∈ l) : ixk l x < l.length := List.findIdx_lt_length_of_exists ⟨x, h, by simp⟩
theorem ixk_get {κ : Type} [DecidableEq κ] {l : List κ} {x : κ} (h : x ∈ l) : l[ixk l x]'(ixk_lt h) = x := by
  have := List.findIdx_getElem (w := ixk_lt h)
  exact of_decide_eq_true this
theorem lk_kvs {κ : Type} [DecidableEq κ] {l : List κ} (hn : l.Nodup) (x : κ) : lk (kvsOf l) x = if x ∈ l then some (.int .i64 (ixk l x : Int)) else none := by
  by_cases h : x ∈ l
  · rw [if_pos h]
    refine lk_some (by rw [kvsOf_keys]; exact hn) ?_
    unfold kvsOf
    refine List.mem_map.2 ⟨(x, ixk l x), ?_, rfl⟩
    rw [List.mem_zipIdx_iff_getElem?, List.getElem?_eq_getElem (ixk_lt h), ixk_get h]
  · rw [if_neg h]
    refine lk_none fun p hp e => h ?_
    have := List.mem_map_of_mem (f := (·.1)) hp
    rw [kvsOf_keys] at this
    rw [← e]; exact this
theorem put_kvs {κ : Type} [DecidableEq κ] {l : List κ} (hn : l.Nodup) {x : κ} (h : x ∉ l) : put (kvsOf l) x (.int .i64 (l.length : Int)) = kvsOf (l ++ [x]) := by
  unfold put
  rw [lk_kvs hn, if_neg h, kvsOf_snoc]
  rfl
end Go.Proofs.Ytampgoendkjkhaa.H
