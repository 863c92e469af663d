/- What a stack can come to: the walk of the given package, with its plain law. -/
import Derived.Test.YtampgoendkjkhaaVC
import Derived.Test.YtampgoendkjkhaaVD
import Derived.OwnWalk
import Derived.Test.YtampgoendkjkhaaVB
import Derived.Test.YtampgoendkjkhaaOpen
import Derived.Test.YtampgoendkjkhaaRows
namespace Go.Proofs.Ytampgoendkjkhaa.H
set_option linter.unusedVariables false
set_option linter.unusedSimpArgs false
/-- in the midst of the search: the goal's own edges are in; each edge is in every closed set -/
structure FndL (ge : Bool) (gc last : Int) (l : List Psh) (I : Int → Int → Int → Prop) (ws : List (Ek × Kn)) : Prop where
  init : ∀ p a q, I p a q → EdE ws p a q
  least : ∀ F, ClosedE ge gc last l F → (∀ p a q, I p a q → F p a q) → ∀ p a q, EdE ws p a q → F p a q
theorem EdE.put {ws : List (Ek × Kn)} {e : Ek} {k : Kn} {p a q : Int} (h : EdE ws p a q) : EdE (putG ws e k) p a q := by
  unfold EdE at *
  rw [lkG_put]
  split
  · rfl
  · exact h
theorem FndL.put {ge : Bool} {gc last : Int} {l : List Psh} {I : Int → Int → Int → Prop} {ws : List (Ek × Kn)} (h : FndL ge gc last l I ws) {r : Psh} (hr : r ∈ l) {q : Int} (hq : RS ge gc last (EdE ws) (cloS ge gc last (· = r.tw)) r.pt q) (k : Kn) : FndL ge gc last l I (putG ws (r.fr, r.tp, q) k) where
  init := fun p a q' hi => EdE.put (h.init p a q' hi)
  least := fun F hc hi p a q' he => by
    unfold EdE at he
    rw [lkG_put] at he
    split at he
    · rename_i e
      obtain ⟨e1, e2⟩ := Prod.mk.inj e
      obtain ⟨e3, e4⟩ := Prod.mk.inj e2
      subst e1 e3 e4
      exact hc r hr q' (RS_mono ge gc last (h.least F hc hi) r.pt (fun _ h => h) q' hq)
    · exact h.least F hc hi p a q' he
/-- a whole round without change: closed -/
theorem FndL.done {ge : Bool} {gc last : Int} {l : List Psh} {I : Int → Int → Int → Prop} {ws : List (Ek × Kn)} (h : FndL ge gc last l I ws) (hc : ∀ i, ∀ hi : i < l.length, ∀ q, RS ge gc last (EdE ws) (cloS ge gc last (· = l[i].tw)) l[i].pt q → (lkG ws (l[i].fr, l[i].tp, q)).isSome = true) : LeastE ge gc last l I (EdE ws) where
  shut := fun r hr q hq => by
    obtain ⟨i, hi, rfl⟩ := List.getElem_of_mem hr
    exact hc i hi q hq
  init := h.init
  least := h.least
/-- the goal's own edges: along its stack, the first one from its control, too -/
def InitI (gc : Int) (g : List Int) : Int → Int → Int → Prop := fun p a q => ∃ i : Nat, g[i]? = some a ∧ q = 3 + (i : Int) + 1 ∧ (p = 3 + (i : Int) ∨ i = 0 ∧ p = gc)
/-- a rule ahead of a way is a way, by two searches' edges -/
theorem found_law {ge : Bool} {gc last : Int} {l : List Psh} {I : Int → Int → Int → Prop} {ws ws' : List (Ek × Kn)} (h : LeastE ge gc last l I (EdE ws)) (h' : LeastE ge gc last l I (EdE ws')) {r : Psh} (hr : r ∈ l) (rest : List Int)
    (hq : RS ge gc last (EdE ws) (cloS ge gc last (· = r.tw)) (r.pt ++ rest) last) : RS ge gc last (EdE ws') (cloS ge gc last (· = r.fr)) (r.tp :: rest) last := stack_law ge gc last h h' hr rest hq
end Go.Proofs.Ytampgoendkjkhaa.H

namespace Go.Proofs.Ytampgoendkjkhaa.H
set_option linter.unusedVariables false
set_option linter.unusedSimpArgs false
/-- edges that came in, or came cheaper, since -/
structure ExtW (ws ws' : List (Ek × Kn)) : Prop where
  has : ∀ e, (lkG ws e).isSome = true → (lkG ws' e).isSome = true
  sum : ∀ es : List Ek, (∀ x ∈ es, (lkG ws x).isSome = true) → sumC ws' es ≤ sumC ws es
theorem ExtW.refl (ws : List (Ek × Kn)) : ExtW ws ws := ⟨fun _ h => h, fun _ _ => Int.le_refl _⟩
theorem ExtW.put {ws ws' : List (Ek × Kn)} (h : ExtW ws ws') {e : Ek} {k : Kn} (hl : lkG ws' e = none ∨ ∃ k', lkG ws' e = some k' ∧ k.cost < k'.cost) : ExtW ws (putG ws' e k) where
  has := fun x hx => by
    rw [lkG_put]
    split
    · rfl
    · exact h.has x hx
  sum := fun es hs => Int.le_trans (sumC_put hl es (fun x hx => h.has x (hs x hx))) (h.sum es hs)
def kn1 : Kn := ⟨-1, 0, [], none, 0⟩
/-- the goal's own edges, those of its first i signs being in -/
structure InitL (n : Nat) (gc : Int) (g : List Int) (i : Nat) (ws : List (Ek × Kn)) : Prop where
  all : ∀ e k, lkG ws e = some k → k = kn1 ∧ InE n e ∧ InitI gc g e.1 e.2.1 e.2.2
  full : ∀ j : Nat, j < i → ∀ a, g[j]? = some a → ∀ p, p = 3 + (j : Int) ∨ j = 0 ∧ p = gc → (lkG ws (p, a, 3 + (j : Int) + 1)).isSome = true
theorem InitL.start (n : Nat) (gc : Int) (g : List Int) : InitL n gc g 0 [] := ⟨fun e k h => (by cases h), fun j h => absurd h (Nat.not_lt_zero _)⟩
theorem InitL.putAny {n : Nat} {gc : Int} {g : List Int} {i : Nat} {ws : List (Ek × Kn)} (h : InitL n gc g i ws) {e : Ek} (he : InE n e) (hi : InitI gc g e.1 e.2.1 e.2.2) : InitL n gc g i (putG ws e kn1) where
  all := fun x k hx => by
    rw [lkG_put] at hx
    split at hx
    · rename_i q; subst q
      exact ⟨(Option.some.inj hx).symm, he, hi⟩
    · exact h.all x k hx
  full := fun j hj a ha p hp => by
    rw [lkG_put]
    split
    · rfl
    · exact h.full j hj a ha p hp
theorem InitL.next {n : Nat} {gc : Int} {g : List Int} {i : Nat} {ws : List (Ek × Kn)} (h : InitL n gc g i ws) {a : Int} (ha : g[i]? = some a) (h1 : (lkG ws (3 + (i : Int), a, 3 + (i : Int) + 1)).isSome = true) (h0 : i = 0 → (lkG ws (gc, a, 3 + (i : Int) + 1)).isSome = true) : InitL n gc g (i + 1) ws where
  all := h.all
  full := fun j hj b hb p hp => by
    by_cases e : j = i
    · subst e
      obtain rfl : a = b := Option.some.inj (ha.symm.trans hb)
      rcases hp with rfl | ⟨z, rfl⟩
      · exact h1
      · exact h0 z
    · exact h.full j (by omega) b hb p hp
theorem InitL.ok {n : Nat} {gc : Int} {g : List Int} {i : Nat} {ws : List (Ek × Kn)} (h : InitL n gc g i ws) (m : Nat) : StOk n m ws where
  key := fun e k hk => (h.all e k hk).2.1
  rule := fun e k hk => by obtain ⟨rfl, _⟩ := h.all e k hk; exact ⟨Int.le_refl _, by simp only [kn1]; omega⟩
  cost := fun e k hk => by obtain ⟨rfl, _⟩ := h.all e k hk; exact ⟨Int.le_refl _, (show (0 : Int) ≤ endC from by decide)⟩
  over := fun e k hk x hx => by obtain ⟨rfl, _⟩ := h.all e k hk; cases hx
  sum := fun e k hk h0 => by obtain ⟨rfl, _⟩ := h.all e k hk; exact absurd h0 (by decide)
theorem InitL.fnd {n : Nat} {gc : Int} {g : List Int} {ws : List (Ek × Kn)} (h : InitL n gc g g.length ws) (ge : Bool) (last : Int) (l : List Psh) : FndL ge gc last l (InitI gc g) ws where
  init := fun p a q hi => by
    obtain ⟨i, ha, rfl, hp⟩ := hi
    exact h.full i (List.getElem?_eq_some_iff.1 ha).1 a ha p hp
  least := fun F _ hi p a q he => by
    obtain ⟨k, hk⟩ := Option.isSome_iff_exists.1 he
    exact hi _ _ _ (h.all _ k hk).2.2
/-- where no rule puts anything all edges cost one at most -/
def CheapL (l : List Psh) (ws : List (Ek × Kn)) : Prop := (∀ r ∈ l, r.pt = []) → ∀ e k, lkG ws e = some k → k.cost ≤ 1
theorem InitL.cheap {n : Nat} {gc : Int} {g : List Int} {i : Nat} {ws : List (Ek × Kn)} (h : InitL n gc g i ws) (l : List Psh) : CheapL l ws := fun _ e k hk => by
  obtain ⟨rfl, _⟩ := h.all e k hk
  exact (show (0 : Int) ≤ 1 from by decide)
/-- what holds of the edges throughout the search -/
structure SrchL (n : Nat) (ge : Bool) (gc last : Int) (l : List Psh) (I : Int → Int → Int → Prop) (ws : List (Ek × Kn)) : Prop where
  ok : StOk n l.length ws
  fnd : FndL ge gc last l I ws
  cheap : CheapL l ws
theorem InitL.srch {n : Nat} {gc : Int} {g : List Int} {ws : List (Ek × Kn)} (h : InitL n gc g g.length ws) (ge : Bool) (last : Int) (l : List Psh) : SrchL n ge gc last l (InitI gc g) ws := ⟨h.ok _, h.fnd ge last l, h.cheap l⟩
section
variable {n : Nat} {ge : Bool} {gc last : Int} {l : List Psh} {I : Int → Int → Int → Prop} {ws0 ws : List (Ek × Kn)}
/-- a rule's way comes in -/
theorem SrchL.put (h : SrchL n ge gc last l I ws) (hx : ExtW ws0 ws) {i : Nat} (hi : i < l.length) {v : Wv} (hG : GoodW ws0 l[i].pt.length v) (hR : RS ge gc last (EdE ws0) (cloS ge gc last (· = l[i].tw)) l[i].pt v.to_) (he : InE n (l[i].fr, l[i].tp, v.to_)) (A : Option Addr) (c : Nat)
    (hl : lkG ws (l[i].fr, l[i].tp, v.to_) = none ∨ ∃ k', lkG ws (l[i].fr, l[i].tp, v.to_) = some k' ∧ v.cost + 1 < k'.cost) :
    SrchL n ge gc last l I (putG ws (l[i].fr, l[i].tp, v.to_) ⟨(i : Int), min (v.cost + 1) endC, v.over, A, c⟩) ∧ ExtW ws0 (putG ws (l[i].fr, l[i].tp, v.to_) ⟨(i : Int), min (v.cost + 1) endC, v.over, A, c⟩) ∧ muE n (putG ws (l[i].fr, l[i].tp, v.to_) ⟨(i : Int), min (v.cost + 1) endC, v.over, A, c⟩) < muE n ws := by
  have hl' : lkG ws (l[i].fr, l[i].tp, v.to_) = none ∨ ∃ k', lkG ws (l[i].fr, l[i].tp, v.to_) = some k' ∧ (⟨(i : Int), min (v.cost + 1) endC, v.over, A, c⟩ : Kn).cost < k'.cost := by
    rcases hl with hl | ⟨k', hl, hlt⟩
    · exact .inl hl
    · exact .inr ⟨k', hl, by simp only []; omega⟩
  have h1 := hG.lo
  have h2 := hG.sum
  have h3 := hx.sum v.over hG.over
  have hc : 0 ≤ (⟨(i : Int), min (v.cost + 1) endC, v.over, A, c⟩ : Kn).cost ∧ (⟨(i : Int), min (v.cost + 1) endC, v.over, A, c⟩ : Kn).cost ≤ endC := by
    simp only []; unfold endC; omega
  refine ⟨⟨h.ok.put he ⟨by simp only []; omega, by simp only []; omega⟩ hc (fun x hx' => hx.has x (hG.over x hx')) (by simp only []; omega) hl', ?_, fun hp e k hk => ?_⟩, hx.put hl', muE_put h.ok he hc hl'⟩
  · exact h.fnd.put (List.getElem_mem hi) (RS_mono ge gc last (fun p a q h => hx.has _ h) l[i].pt (fun _ h => h) v.to_ hR) _
  · rw [lkG_put] at hk
    split at hk
    · obtain rfl := Option.some.inj hk
      have h4 := hG.len
      rw [hp _ (List.getElem_mem hi)] at h4
      have h5 : v.over = [] := List.eq_nil_of_length_eq_zero (Nat.le_zero.1 h4)
      have h6 := hG.up
      rw [h5] at h6
      simp only [sumC] at h6
      simp only []
      omega
    · exact h.cheap hp e k hk
/-- the rules below k closed, at the edges as they are -/
def ShutTo (ge : Bool) (gc last : Int) (l : List Psh) (ws : List (Ek × Kn)) (k : Nat) : Prop := ∀ i, ∀ hi : i < l.length, i < k → ∀ q, RS ge gc last (EdE ws) (cloS ge gc last (· = l[i].tw)) l[i].pt q → (lkG ws (l[i].fr, l[i].tp, q)).isSome = true
/-- of a round: either something came in, or all so far is closed -/
def RndL (n : Nat) (ge : Bool) (gc last : Int) (l : List Psh) (wsB : List (Ek × Kn)) (k : Nat) (ag : Bool) (ws : List (Ek × Kn)) : Prop := (ag = true ∧ muE n ws < muE n wsB) ∨ (ag = false ∧ ws = wsB ∧ ShutTo ge gc last l ws k)
/-- within a rule: of the first j ways (at the edges ws0) each came in -/
def InnL (n : Nat) (ge : Bool) (gc last : Int) (l : List Psh) (wsB : List (Ek × Kn)) (k : Nat) (ws0 : List (Ek × Kn)) (fr tp : Int) (lw : List Wv) (j : Nat) (ag : Bool) (ws : List (Ek × Kn)) : Prop := (ag = true ∧ muE n ws < muE n wsB) ∨ (ag = false ∧ ws = wsB ∧ ws0 = wsB ∧ ShutTo ge gc last l ws k ∧ ∀ v ∈ lw.take j, (lkG ws (fr, tp, v.to_)).isSome = true)
theorem RndL.start (n : Nat) (ge : Bool) (gc last : Int) (l : List Psh) (wsB : List (Ek × Kn)) : RndL n ge gc last l wsB 0 false wsB := .inr ⟨rfl, rfl, fun i hi h => absurd h (Nat.not_lt_zero _)⟩
theorem RndL.inn {wsB : List (Ek × Kn)} {k : Nat} {ag : Bool} (h : RndL n ge gc last l wsB k ag ws) (fr tp : Int) (lw : List Wv) : InnL n ge gc last l wsB k ws fr tp lw 0 ag ws := by
  rcases h with h | ⟨h1, h2, h3⟩
  · exact .inl h
  · exact .inr ⟨h1, h2, h2, h3, fun v hv => by simp at hv⟩
theorem InnL.skip {wsB : List (Ek × Kn)} {k : Nat} {fr tp : Int} {lw : List Wv} {j : Nat} {ag : Bool} (h : InnL n ge gc last l wsB k ws0 fr tp lw j ag ws) (hj : j < lw.length) (hs : (lkG ws (fr, tp, lw[j].to_)).isSome = true) : InnL n ge gc last l wsB k ws0 fr tp lw (j + 1) ag ws := by
  rcases h with h | ⟨h1, h2, h3, h4, h5⟩
  · exact .inl h
  · refine .inr ⟨h1, h2, h3, h4, fun v hv => ?_⟩
    rw [List.take_succ_eq_append_getElem hj] at hv
    rcases List.mem_append.1 hv with hv | hv
    · exact h5 v hv
    · obtain rfl := List.mem_singleton.1 hv; exact hs
theorem InnL.put {wsB ws' : List (Ek × Kn)} {k : Nat} {fr tp : Int} {lw : List Wv} {j : Nat} {ag : Bool} (h : InnL n ge gc last l wsB k ws0 fr tp lw j ag ws) (hm : muE n ws' < muE n ws) (j' : Nat) : InnL n ge gc last l wsB k ws0 fr tp lw j' true ws' := by
  rcases h with ⟨_, h⟩ | ⟨_, rfl, _⟩
  · exact .inl ⟨rfl, Nat.lt_trans hm h⟩
  · exact .inl ⟨rfl, hm⟩
theorem InnL.done {wsB : List (Ek × Kn)} {k : Nat} (hk : k < l.length) {lw : List Wv} {ag : Bool} (h : InnL n ge gc last l wsB k ws0 l[k].fr l[k].tp lw lw.length ag ws) {i : Nat} (hW : WaysL ws0 (RS ge gc last (EdE ws0) (cloS ge gc last (· = l[k].tw)) l[k].pt) i lw) : RndL n ge gc last l wsB (k + 1) ag ws := by
  rcases h with h | ⟨h1, h2, h3, h4, h5⟩
  · exact .inl h
  · refine .inr ⟨h1, h2, fun i hi hik q hq => ?_⟩
    by_cases e : i = k
    · subst e
      rw [h2, ← h3] at hq
      obtain ⟨v, hv, rfl⟩ := hW.full q hq
      rw [List.take_length] at h5
      exact h5 v hv
    · exact h4 i hi (by omega) q hq
/-- a whole round without change: the least edges -/
theorem RndL.least {wsB : List (Ek × Kn)} (h : SrchL n ge gc last l I ws) (hr : RndL n ge gc last l wsB l.length false ws) : LeastE ge gc last l I (EdE ws) := by
  rcases hr with ⟨h1, _⟩ | ⟨_, _, h3⟩
  · cases h1
  · exact h.fnd.done fun i hi q hq => h3 i hi hi q hq
end
end Go.Proofs.Ytampgoendkjkhaa.H

namespace Go.Proofs.Ytampgoendkjkhaa.H
open Go.RowKit Go.Maps Go.Shelf Go.Proofs.YtampgoendkjkhaaW.PrintWords Go.Proofs.YtampgoendkjkhaaW.PrintMore
set_option linter.unusedVariables false
set_option linter.unusedSimpArgs false
theorem C_wy_cells {W W' : World} {A : Option Addr} {n : Nat} {xs : List Wv} (h : Kd.C kWy W A n xs) (hc : ∀ p v, W.cell? p = some v → W'.cell? p = some v) : Kd.C kWy W' A n xs := by
  refine ⟨h.1, h.2.1, fun hn => ?_⟩
  obtain ⟨ad, e, g⟩ := h.2.2 hn
  refine ⟨ad, e, fun j p hj => ?_⟩
  obtain ⟨cs, h1, ⟨B, d, h2, h4, h5⟩, h3⟩ := g j p hj
  exact ⟨cs, h1, ⟨B, d, h2, h4, C_ek_cells h5 hc⟩, fun i u hu => hc _ _ (h3 i u hu)⟩
theorem isSome_put {ws : List (Ek × Kn)} {e j : Ek} {k : Kn} (h : (lkG ws j).isSome = true) : (lkG (putG ws e k) j).isSome = true := by
  rw [lkG_put]
  split
  · rfl
  · exact h
/-- found's memory: the saturated block, its map, the goal's box -/
structure FM (E : KeyE Try.prog 140 Ek) (w W : World) (b bm b3 : Nat) (gc : Int) (G : Option Addr) (gl gp : Nat) (ws : List (Ek × Kn)) : Prop where
  sat : SatM E W b bm gc G gl gp ws
  x3 : W.heap[b3]? = some (.cells #[.int .i64 gc, .slice G gl gp] 35 (0, 0))
  b : Below w.heap.size w W
  lo : w.heap.size ≤ bm
section
variable {E : KeyE Try.prog 140 Ek} {w W W' : World} {b bm b3 : Nat} {gc : Int} {G : Option Addr} {gl gp : Nat} {ws : List (Ek × Kn)}
theorem FM.below (h : FM E w W b bm b3 gc G gl gp ws) (hb : Below W.heap.size W W') : FM E w W' b bm b3 gc G gl gp ws := ⟨h.sat.below hb, blk_below h.x3 hb, below_step h.b hb, h.lo⟩
theorem map_ne {κ : Type} [DecidableEq κ] {P : Program} {t : TypeId} {E : KeyE P t κ} {kvs : List (κ × Value)} (h : MapK E W bm kvs) {k : Nat} {cs : Array Value} {t : Nat} {m : Nat × Nat} (hk : W.heap[k]? = some (.cells cs t m)) : k ≠ bm := by
  rintro rfl
  obtain ⟨es, c, h1⟩ := h.isMap
  rw [h1] at hk
  injection hk with hk
  cases hk
theorem FM.put (h : FM E w W b bm b3 gc G gl gp ws) {e : Ek} {k : Kn} (hM : MapK E W' bm (put (kvK ws) e (encKn k))) (ht : Turned bm W W') (ho : k.over.length ≤ k.c ∧ Kd.C kEk W k.A k.over.length k.over) : FM E w W' b bm b3 gc G gl gp (putG ws e k) where
  sat := {
    s := blk_turned h.sat.s ht (map_ne h.sat.m h.sat.s)
    m := by rw [← put_kvK]; exact hM
    o := fun j v hj => by
      rw [lkG_put] at hj
      split at hj
      · obtain rfl := Option.some.inj hj
        exact ⟨ho.1, C_ek_cells ho.2 (cells_turned ht h.sat.m.isMap)⟩
      · exact ⟨(h.sat.o j v hj).1, C_ek_cells (h.sat.o j v hj).2 (cells_turned ht h.sat.m.isMap)⟩ }
  x3 := blk_turned h.x3 ht (map_ne h.sat.m h.x3)
  b := ht.below h.b h.lo
  lo := h.lo
end
theorem FM.upd {E : KeyE Try.prog 140 Ek} {w W : World} {b bm b3 : Nat} {gc : Int} {G : Option Addr} {gl gp : Nat} {ws : List (Ek × Kn)} (h : FM E w W b bm b3 gc G gl gp ws) (hE1 : E.enc = encK3) (hE2 : E.ok = okK3) (x y z : Int) (hok : okK3 (x, y, z)) (k : Kn) (ho : k.over.length ≤ k.c ∧ Kd.C kEk W k.A k.over.length k.over) :
    ∃ w', (Instr.mapUpdate 222 (.map (some bm)) (.agg #[.int .i64 x, .int .i64 y, .int .i64 z]) (.agg #[.int .i64 k.rule, .int .i64 k.cost, .slice k.A k.over.length k.c])).run Try.prog W = .ok () w' ∧ FM E w w' b bm b3 gc G gl gp (putG ws (x, y, z) k) ∧ Turned bm W w' := by
  obtain ⟨w', hrun, hM, ht⟩ := h.sat.m.upd (x, y, z) (by rw [hE2]; exact hok) Try.underlying222 (encKn k)
  rw [hE1] at hrun
  exact ⟨w', hrun, h.put hM ht ho, ht⟩
def FndPost (E : KeyE Try.prog 140 Ek) (w : World) (gc : Int) (G : Option Addr) (gp : Nat) (g : List Int) (l : List Psh) (e : Ending) (w' : World) : Prop := ∃ (b bm : Nat) (ws : List (Ek × Kn)), e = .returned (.pointer (some ⟨b, 0, none⟩)) ∧ SatM E w' b bm gc G g.length gp ws ∧ SrchL (g.length + 4) (decide (g.length = 0)) gc ((g.length + 3 : Nat) : Int) l (InitI gc g) ws ∧ LeastE (decide (g.length = 0)) gc ((g.length + 3 : Nat) : Int) l (InitI gc g) (EdE ws) ∧ Below w.heap.size w w'
/-- rules that may be -/
structure PuOk (l : List Psh) : Prop where
  len : l.length ≤ 8
  fr : ∀ r ∈ l, 0 ≤ r.fr ∧ r.fr < 3
  tp : ∀ r ∈ l, 0 ≤ r.tp ∧ r.tp < 3
  tw : ∀ r ∈ l, 0 ≤ r.tw ∧ r.tw < 3
  pl : ∀ r ∈ l, r.pt.length ≤ 2
  pt : ∀ r ∈ l, ∀ x ∈ r.pt, 0 ≤ x ∧ x < 3
set_option maxHeartbeats 16000000 in
set_option maxRecDepth 100000 in
theorem found_calls (E : KeyE Try.prog 140 Ek) (hE1 : E.enc = encK3) (hE2 : E.ok = okK3) (w : World) (A : Option Addr) (c : Nat) (l : List Psh) (hr : Kd.C kPu w A l.length l) (hl : PuOk l)
    (gc : Int) (G : Option Addr) (gp : Nat) (g : List Int) (hg : Kd.C (Kd.int .i64) w G g.length g) (hgx : ∀ x ∈ g, 0 ≤ x ∧ x < 3) (hgl : g.length ≤ 3) (hgc : 0 ≤ gc ∧ gc < 3) :
    Calls Try.prog 48 #[.slice A l.length c, .agg #[.int .i64 gc, .slice G g.length gp]] w (FndPost E w gc G gp g l) := by
  have HL := Aside0.mk hl
  have E1 := Aside0.mk hE1
  have E2 := Aside0.mk hE2
  have HR := Aside0.mk hr
  have HG := Aside0.mk hg
  have HGX := Aside0.mk hgx
  have HB := Aside0.mk (And.intro hgl hgc)
  clear hl hE1 hE2 hr hg hgx hgl hgc
  have hmm := @run_makeMap Try.prog
  go_enter Try.func48, Try.ntmps48
  go_upto_region 2 with fail
  have F1 := Aside0.mk (show FM E w (((w.alloc (.cells #[.int .i64 gc, .slice G g.length gp] 35)).alloc (.map #[] 0)).alloc (.cells #[.int .i64 gc, .slice G g.length gp, .map (some (w.heap.size + 1))] 224)) (w.heap.size + 1 + 1) (w.heap.size + 1) w.heap.size gc G g.length gp [] from {
    sat := {
      s := blk_newn _ _ _ (by simp)
      m := by
        have h := (mapK_made E (w.alloc (.cells #[.int .i64 gc, .slice G g.length gp] 35))).below (below_alloc (Below.refl _ _) (.cells #[.int .i64 gc, .slice G g.length gp, .map (some (w.heap.size + 1))] 224))
        rw [show (w.alloc (.cells #[.int .i64 gc, .slice G g.length gp] 35)).heap.size = w.heap.size + 1 from by simp] at h
        exact h
      o := fun e k h => by cases h }
    x3 := blk_below (blk_below (blk_new w _) (below_alloc (Below.refl _ _) _)) (below_alloc (Below.refl _ _) _)
    b := below_alloc (below_alloc (below_alloc (Below.refl _ _) _) _) _
    lo := Nat.le_succ _ })
  generalize (((w.alloc (.cells #[.int .i64 gc, .slice G g.length gp] 35)).alloc (.map #[] 0)).alloc (.cells #[.int .i64 gc, .slice G g.length gp, .map (some (w.heap.size + 1))] 224)) = W1 at F1 ⊢
  obtain ⟨b, hb⟩ : ∃ b, b = w.heap.size + 1 + 1 := ⟨_, rfl⟩
  obtain ⟨bm, hbm⟩ : ∃ bm, bm = w.heap.size + 1 := ⟨_, rfl⟩
  obtain ⟨b3, hb3⟩ : ∃ b3, b3 = w.heap.size := ⟨_, rfl⟩
  rw [← hb, ← hbm] at F1 ⊢
  replace F1 : Aside0 (FM E w W1 b bm b3 gc G g.length gp []) := ⟨by rw [hb3]; exact F1.out⟩
  rw [← hb3]
  clear hb hbm hb3 hmm
  have q31 : W1.cell? ⟨b3, 1, none⟩ = some (.slice G g.length gp) := (blk_cell F1.out.x3 1).trans rfl
  have hbigg : g.length ≤ 9223372036854775807 := by have := HB.out; omega
  go_wp2_with fail
  go_loopg [25] g.length (fun gg s25 wr => ∃ (i : Nat) (ws : List (Ek × Kn)), i ≤ g.length ∧ g.length - i ≤ gg ∧ s25 = .int .i64 (i : Int) ∧ Aside0 (InitL (g.length + 4) gc g i ws) ∧ Aside0 (FM E w wr b bm b3 gc G g.length gp ws))
  case atStart => exact ⟨0, [], Nat.zero_le _, by omega, rfl, ⟨InitL.start _ _ _⟩, F1⟩
  case round =>
    obtain ⟨i, ws, hi, hgg, rfl, IL, FF⟩ := hrel
    clear F1 q31
    by_cases hlt : i < g.length
    · --< init
      have hltz : (i : Int) < (g.length : Int) := by omega
      have hi3 : (i : Int) ≤ 2 := by have := HB.out; omega
      obtain ⟨ads, es, cs0⟩ := int_get (Kd.C_below HG.out FF.out.b) rfl hlt
      have HA := Aside0.mk (HGX.out g[i] (List.getElem_mem hlt))
      have HAI := Aside0.mk (show g[i]? = some g[i] from List.getElem?_eq_getElem hlt)
      generalize g[i] = a at cs0 HA HAI
      cases es
      obtain ⟨f8, hf8⟩ : ∃ f8 : Int, f8 = 3 + (i : Int) := ⟨_, rfl⟩
      obtain ⟨f9, hf9⟩ : ∃ f9 : Int, f9 = f8 + 1 := ⟨_, rfl⟩
      have hw1 : IntKind.i64.wrap (3 + (i : Int)) = f8 := (IntWalk.i64_in _ (by omega)).trans hf8.symm
      have hw2 : IntKind.i64.wrap (f8 + 1) = f9 := (IntWalk.i64_in _ (by omega)).trans hf9.symm
      have HF := Aside0.mk (And.intro hf8 hf9)
      clear hf8 hf9
      go_upto_region 6 with fail
      clear cs0 hw1
      have HIE := Aside0.mk (show InE (g.length + 4) (f8, a, f9) ∧ InE (g.length + 4) (gc, a, f9) from by
        have := HB.out; have := HA.out; have := HF.out
        exact ⟨⟨⟨by simp only []; omega, by simp only []; omega⟩, ⟨by simp only []; omega, by simp only []; omega⟩, by simp only []; omega, by simp only []; omega⟩, ⟨⟨by simp only []; omega, by simp only []; omega⟩, ⟨by simp only []; omega, by simp only []; omega⟩, by simp only []; omega, by simp only []; omega⟩⟩)
      have HO3 := Aside0.mk (show okK3 (f8, a, f9) ∧ okK3 (gc, a, f9) from ⟨okK3_in (n := g.length + 4) (by have := HB.out; omega) HIE.out.1, okK3_in (n := g.length + 4) (by have := HB.out; omega) HIE.out.2⟩)
      have HG0 := Aside0.mk (show (i = 0 → ((i : Int) == 0) = true) ∧ (i ≠ 0 → ((i : Int) == 0) = false) from ⟨fun h => by simp [h], fun h => by simp; omega⟩)
      by_cases hi0 : i = 0
      · have h0 := HG0.out.1 hi0
        have HI0 := Aside0.mk hi0
        have IL1 := Aside0.mk (IL.out.putAny (e := (gc, a, f9)) HIE.out.2 ⟨i, HAI.out, by have := HF.out; simp only []; omega, .inr ⟨hi0, rfl⟩⟩)
        have IL2 := Aside0.mk (IL1.out.putAny (e := (f8, a, f9)) HIE.out.1 ⟨i, HAI.out, by have := HF.out; simp only []; omega, .inl (by have := HF.out; simp only []; omega)⟩)
        have IL3 := Aside0.mk (IL2.out.next HAI.out (by rw [← HF.out.1, ← HF.out.2, lkG_put, if_pos rfl]; rfl) (fun _ => by rw [← HF.out.1, ← HF.out.2]; exact isSome_put (by rw [lkG_put, if_pos rfl]; rfl)))
        have FFd := Aside0.mk (FF.out.below (below_drew1 (Below.refl _ _)))
        obtain ⟨w4, hrun4, F4, ht4⟩ := FFd.out.upd E1.out E2.out gc a f9 HO3.out.2 kn1 ⟨Nat.zero_le _, Kd.C_nil _ _⟩
        replace hrun4 : (Instr.mapUpdate 222 (.map (some bm)) (.agg #[.int .i64 gc, .int .i64 a, .int .i64 f9]) (.agg #[.int .i64 (-1), .int .i64 0, .slice none 0 0])).run Try.prog wr.drew = .ok () w4 := hrun4
        obtain ⟨w5, hrun5, F5, ht5⟩ := F4.upd E1.out E2.out f8 a f9 HO3.out.1 kn1 ⟨Nat.zero_le _, Kd.C_nil _ _⟩
        replace hrun5 : (Instr.mapUpdate 222 (.map (some bm)) (.agg #[.int .i64 f8, .int .i64 a, .int .i64 f9]) (.agg #[.int .i64 (-1), .int .i64 0, .slice none 0 0])).run Try.prog w4 = .ok () w5 := hrun5
        have HS0 := Aside0.mk (show (fun W' => W'.cell? ⟨b, 2, none⟩ = some (.map (some bm)) ∧ W'.cell? ⟨b3, 0, none⟩ = some (.int .i64 gc)) wr.drew from ⟨(blk_cell FFd.out.sat.s 2).trans rfl, (blk_cell FFd.out.x3 0).trans rfl⟩)
        have HS4 := Aside0.mk (show (fun W' => W'.cell? ⟨b, 2, none⟩ = some (.map (some bm)) ∧ W'.cell? ⟨b3, 0, none⟩ = some (.int .i64 gc)) w4 from ⟨(blk_cell F4.sat.s 2).trans rfl, (blk_cell F4.x3 0).trans rfl⟩)
        have q42 : w4.cell? ⟨b, 2, none⟩ = some (.map (some bm)) := (blk_cell F4.sat.s 2).trans rfl
        have F5 := Aside0.mk F5
        clear F4 ht4 ht5 hi0
        go_upto_region 7 with fail
        refine wp_region_held_drew (S := (fun W' => W'.cell? ⟨b, 2, none⟩ = some (.map (some bm)) ∧ W'.cell? ⟨b3, 0, none⟩ = some (.int .i64 gc))) (by kernel_rfl) ?_ (fun hHeld => ?_)
        · (try dsimp only); (first | exact HS0.out | exact HS4.out | fail)
        refine wpAnyH_take (i := 0) (v := ?_) rfl (by kernel_rfl) (by kernel_rfl) (by kernel_rfl) (fun _ _ _ h => h) (Or.inl ⟨by kernel_rfl, ?_⟩) (by assumption) ?_
        rotate_left 1
        · intro w hSw; (try dsimp only at hSw); go_simp; (try with_reducible rfl)
        (try simp only [Act.put, List.getElem_toArray, List.getElem_cons_zero, List.getElem_cons_succ, List.setIfInBounds_toArray, List.set_cons_zero, List.set_cons_succ])
        refine wpAnyH_take (i := 1) (v := ?_) rfl (by kernel_rfl) (by kernel_rfl) (by kernel_rfl) (fun _ _ _ h => h) (Or.inl ⟨by kernel_rfl, ?_⟩) (by assumption) ?_
        rotate_left 1
        · intro w hSw; (try dsimp only at hSw); go_simp; (try with_reducible rfl)
        (try simp only [Act.put, List.getElem_toArray, List.getElem_cons_zero, List.getElem_cons_succ, List.setIfInBounds_toArray, List.set_cons_zero, List.set_cons_succ])
        refine wpAnyH_take (i := 2) (v := ?_) rfl (by kernel_rfl) (by kernel_rfl) (by kernel_rfl) (fun _ _ _ h => h) (Or.inl ⟨by kernel_rfl, ?_⟩) (by assumption) ?_
        rotate_left 1
        · intro w hSw; (try dsimp only at hSw); go_simp; (try with_reducible rfl)
        (try simp only [Act.put, List.getElem_toArray, List.getElem_cons_zero, List.getElem_cons_succ, List.setIfInBounds_toArray, List.set_cons_zero, List.set_cons_succ])
        refine wpAnyH_take (i := 3) (v := ?_) rfl (by kernel_rfl) (by kernel_rfl) (by kernel_rfl) (fun _ _ _ h => h) (Or.inl ⟨by kernel_rfl, ?_⟩) (by assumption) ?_
        rotate_left 1
        · intro w hSw; (try dsimp only at hSw); go_simp; (try with_reducible rfl)
        (try simp only [Act.put, List.getElem_toArray, List.getElem_cons_zero, List.getElem_cons_succ, List.setIfInBounds_toArray, List.set_cons_zero, List.set_cons_succ])
        refine wpAnyH_take (i := 4) (v := ?_) rfl (by kernel_rfl) (by kernel_rfl) (by kernel_rfl) (fun _ _ _ h => h) (Or.inl ⟨by kernel_rfl, ?_⟩) (by assumption) ?_
        rotate_left 1
        · intro w hSw; (try dsimp only at hSw); go_simp; (try with_reducible rfl)
        (try simp only [Act.put, List.getElem_toArray, List.getElem_cons_zero, List.getElem_cons_succ, List.setIfInBounds_toArray, List.set_cons_zero, List.set_cons_succ])
        refine wpAnyH_take (i := 5) (v := ?_) rfl (by kernel_rfl) (by kernel_rfl) (by kernel_rfl) (fun _ _ _ h => h) (Or.inl ⟨by kernel_rfl, ?_⟩) (by assumption) ?_
        rotate_left 1
        · intro w hSw; (try dsimp only at hSw); go_simp; (try with_reducible rfl)
        (try simp only [Act.put, List.getElem_toArray, List.getElem_cons_zero, List.getElem_cons_succ, List.setIfInBounds_toArray, List.set_cons_zero, List.set_cons_succ])
        refine wpAnyH_take (i := 6) (v := ?_) rfl (by kernel_rfl) (by kernel_rfl) (by kernel_rfl) (fun _ _ _ h => h) (Or.inl ⟨by kernel_rfl, ?_⟩) (by assumption) ?_
        rotate_left 1
        · intro w hSw; (try dsimp only at hSw); go_simp; (try with_reducible rfl)
        (try simp only [Act.put, List.getElem_toArray, List.getElem_cons_zero, List.getElem_cons_succ, List.setIfInBounds_toArray, List.set_cons_zero, List.set_cons_succ])
        refine wpAnyH_take (i := 7) (v := ?_) rfl (by kernel_rfl) (by kernel_rfl) (by kernel_rfl) (fun _ _ _ h => h) (Or.inl ⟨by kernel_rfl, ?_⟩) (by assumption) ?_
        rotate_left 1
        · intro w hSw; (try dsimp only at hSw); go_simp; (try with_reducible rfl)
        (try simp only [Act.put, List.getElem_toArray, List.getElem_cons_zero, List.getElem_cons_succ, List.setIfInBounds_toArray, List.set_cons_zero, List.set_cons_succ])
        refine wpAnyH_take (i := 8) (v := ?_) rfl (by kernel_rfl) (by kernel_rfl) (by kernel_rfl) (fun _ _ _ h => h) (Or.inl ⟨by kernel_rfl, ?_⟩) (by assumption) ?_
        rotate_left 1
        · intro w hSw; (try dsimp only at hSw); go_simp; (try with_reducible rfl)
        (try simp only [Act.put, List.getElem_toArray, List.getElem_cons_zero, List.getElem_cons_succ, List.setIfInBounds_toArray, List.set_cons_zero, List.set_cons_succ])
        refine wpAnyH_take (i := 9) (v := ?_) rfl (by kernel_rfl) (by kernel_rfl) (by kernel_rfl) (fun _ _ _ h => h) (Or.inl ⟨by kernel_rfl, ?_⟩) (by assumption) ?_
        rotate_left 1
        · intro w hSw; (try dsimp only at hSw); go_simp; (try with_reducible rfl)
        (try simp only [Act.put, List.getElem_toArray, List.getElem_cons_zero, List.getElem_cons_succ, List.setIfInBounds_toArray, List.set_cons_zero, List.set_cons_succ])
        refine wpAnyH_take (i := 10) (v := ?_) rfl (by kernel_rfl) (by kernel_rfl) (by kernel_rfl) (fun _ _ _ h => h) (Or.inl ⟨by kernel_rfl, ?_⟩) (by assumption) ?_
        rotate_left 1
        · intro w hSw; (try dsimp only at hSw); go_simp; (try with_reducible rfl)
        (try simp only [Act.put, List.getElem_toArray, List.getElem_cons_zero, List.getElem_cons_succ, List.setIfInBounds_toArray, List.set_cons_zero, List.set_cons_succ])
        refine wpAnyH_ready (rs := [11]) (by kernel_rfl) (by simp) ?_
        refine AllReadyH.cons rfl (fun K hK => ?_) AllReadyH.nil
        rw [if_pos (by kernel_rfl)]
        go_simp
        (try go_simp)
        refine hK.out _ _ ?_ (fun hHeld => ?_)
        · (try dsimp only); (first | exact HS0.out | exact HS4.out | fail)
        clear hK K
        (try simp only [Act.put, List.getElem_toArray, List.getElem_cons_zero, List.getElem_cons_succ, List.setIfInBounds_toArray, List.set_cons_zero, List.set_cons_succ])
        refine wpAnyH_done (by kernel_rfl) ?_ _
        go_wp2_with fail
        clear hrun4 hrun5
        go_roundg (g.length - (i + 1))
        case measure => omega
        case rel => exact ⟨i + 1, _, by omega, by omega, by go_num, IL3, F5⟩
      · have h0 := HG0.out.2 hi0
        have IL2 := Aside0.mk (IL.out.putAny (e := (f8, a, f9)) HIE.out.1 ⟨i, HAI.out, by have := HF.out; simp only []; omega, .inl (by have := HF.out; simp only []; omega)⟩)
        have IL3 := Aside0.mk (IL2.out.next HAI.out (by rw [← HF.out.1, ← HF.out.2, lkG_put, if_pos rfl]; rfl) (fun h => absurd h hi0))
        obtain ⟨w5, hrun5, F5, ht5⟩ := FF.out.upd E1.out E2.out f8 a f9 HO3.out.1 kn1 ⟨Nat.zero_le _, Kd.C_nil _ _⟩
        replace hrun5 : (Instr.mapUpdate 222 (.map (some bm)) (.agg #[.int .i64 f8, .int .i64 a, .int .i64 f9]) (.agg #[.int .i64 (-1), .int .i64 0, .slice none 0 0])).run Try.prog wr = .ok () w5 := hrun5
        have q42 : wr.cell? ⟨b, 2, none⟩ = some (.map (some bm)) := (blk_cell FF.out.sat.s 2).trans rfl
        have F5 := Aside0.mk F5
        clear ht5 hi0
        go_wp2_with fail
        clear hrun5
        go_roundg (g.length - (i + 1))
        case measure => omega
        case rel => exact ⟨i + 1, _, by omega, by omega, by go_num, IL3, F5⟩
      --> init
    · have hie : i = g.length := by omega
      subst hie
      have SL := Aside0.mk (IL.out.srch (decide (g.length = 0)) ((g.length + 3 : Nat) : Int) l)
      clear IL hgg
      generalize hmu : muE (g.length + 4) ws + 1 = mu0
      have HMU := Aside0.mk (Nat.le_of_eq hmu)
      clear hmu
      go_wp2_with fail
      have hbigl : l.length ≤ 9223372036854775807 := by have := HL.out.len; omega
      go_loopg [9] mu0 (fun gg s9 wr => ∃ (ws : List (Ek × Kn)) (ag : Bool), s9 = .bool ag ∧ Aside0 (muE (g.length + 4) ws + (if ag = true then 1 else 0) ≤ gg) ∧ Aside0 (SrchL (g.length + 4) (decide (g.length = 0)) gc ((g.length + 3 : Nat) : Int) l (InitI gc g) ws) ∧ Aside0 (ag = false → LeastE (decide (g.length = 0)) gc ((g.length + 3 : Nat) : Int) l (InitI gc g) (EdE ws)) ∧ Aside0 (FM E w wr b bm b3 gc G g.length gp ws))
      case atStart => exact ⟨ws, true, rfl, HMU, SL, ⟨fun h => by cases h⟩, FF⟩
      case round =>
        obtain ⟨wsB, ag, rfl, MU, SL, LE, FF⟩ := hrel
        clear HMU
        cases ag with
        | false =>
          --< fin
          go_wp2_with fail
          go_ret
          exact ⟨b, bm, wsB, rfl, FF.out.sat, SL.out, LE.out (by first | trivial | rfl), FF.out.b⟩
          --> fin
        | true =>
          have HMB := Aside0.mk (show muE (g.length + 4) wsB < gk from by have := MU.out; simp at this; omega)
          clear MU LE
          obtain ⟨go, hgo⟩ : ∃ go, go = gk := ⟨_, rfl⟩
          subst hgo
          go_wp2_with fail
          go_loopg [9, 59] l.length (fun gg s9 s59 wr => ∃ (i : Nat) (ws : List (Ek × Kn)) (ag : Bool), i ≤ l.length ∧ l.length - i ≤ gg ∧ s9 = .bool ag ∧ s59 = .int .i64 (i : Int) ∧ Aside0 (RndL (g.length + 4) (decide (g.length = 0)) gc ((g.length + 3 : Nat) : Int) l wsB i ag ws) ∧ Aside0 (SrchL (g.length + 4) (decide (g.length = 0)) gc ((g.length + 3 : Nat) : Int) l (InitI gc g) ws) ∧ Aside0 (FM E w wr b bm b3 gc G g.length gp ws))
          case atStart => exact ⟨0, wsB, false, Nat.zero_le _, by omega, rfl, rfl, ⟨RndL.start _ _ _ _ _ _⟩, SL, FF⟩
          case round =>
            obtain ⟨i, ws, ag, hi, hgi, rfl, rfl, RL, SL, FF⟩ := hrel
            by_cases hil : i < l.length
            · have hilz : (i : Int) < (l.length : Int) := by omega
              have hi8 : (i : Int) ≤ 8 := by have := HL.out.len; omega
              obtain ⟨ad, A1, c1, es, hpc, hpt, z0, z1, z2, z3⟩ := pu_get (Kd.C_below HR.out FF.out.b) rfl hil
              have HP := Aside0.mk (show (0 ≤ l[i].fr ∧ l[i].fr < 3) ∧ (0 ≤ l[i].tp ∧ l[i].tp < 3) ∧ (0 ≤ l[i].tw ∧ l[i].tw < 3) ∧ l[i].pt.length ≤ 2 ∧ (∀ x ∈ l[i].pt, 0 ≤ x ∧ x < 3) from ⟨HL.out.fr _ (List.getElem_mem hil), HL.out.tp _ (List.getElem_mem hil), HL.out.tw _ (List.getElem_mem hil), HL.out.pl _ (List.getElem_mem hil), HL.out.pt _ (List.getElem_mem hil)⟩)
              obtain ⟨r, hr⟩ : ∃ r, r = l[i] := ⟨_, rfl⟩
              rw [← hr] at hpc hpt z0 z1 z2 z3 HP
              have HRI := Aside0.mk hr
              have HPT := Aside0.mk hpt
              clear hr hpt hpc
              cases es
              have B11 := Aside0.mk (below_alloc (Below.refl wr.heap.size wr) (.cells #[.int .i64 r.fr, .int .i64 r.tp, .int .i64 r.tw, .slice A1 r.pt.length c1] 37))
              have X11 := Aside0.mk (blk_new wr (.cells #[.int .i64 r.fr, .int .i64 r.tp, .int .i64 r.tw, .slice A1 r.pt.length c1] 37 (0, 0)))
              go_upto_region 16 with fail
              clear z0 z1 z2 z3
              obtain ⟨b11, hb11⟩ : ∃ b11, b11 = wr.heap.size := ⟨_, rfl⟩
              rw [← hb11] at X11 ⊢
              generalize wr.alloc (.cells #[.int .i64 r.fr, .int .i64 r.tp, .int .i64 r.tw, .slice A1 r.pt.length c1] 37) = W11 at B11 X11 ⊢
              clear hb11
              have FF11 := Aside0.mk (FF.out.below B11.out)
              have HPT11 := Aside0.mk (Kd.C_below HPT.out B11.out)
              clear FF HPT B11
              have q2 : W11.cell? ⟨b11, 2, none⟩ = some (.int .i64 r.tw) := (blk_cell X11.out 2).trans rfl
              have q3 : W11.cell? ⟨b11, 3, none⟩ = some (.slice A1 r.pt.length c1) := (blk_cell X11.out 3).trans rfl
              have HW := Aside0.mk (ways_calls E E1.out E2.out W11 b bm gc G g.length gp l.length ws FF11.out.sat SL.out.ok (by have := HB.out; omega) HB.out.2 r.tw HP.out.2.2.1 A1 c1 r.pt HPT11.out HP.out.2.2.2.2 (by have := HP.out.2.2.2.1; omega))
              go_upto_region 17 with (go_at_call 49; refine HW.out.mono ?_; rintro e w2 ⟨Al, cl, lw, rfl, hlc, hC, hWL, hB2⟩; have LC := Aside0.mk hC; have WL := Aside0.mk hWL; have B2 := Aside0.mk hB2; have HLW := Aside0.mk hC.2.1; clear hlc hC hWL hB2 q2 q3)
              have FF2 := Aside0.mk (FF11.out.below B2.out)
              have X112 := Aside0.mk (blk_below X11.out B2.out)
              clear FF11 X11 HPT11 HW B2
              have HIN := Aside0.mk (show ∀ v ∈ lw, 0 ≤ v.to_ ∧ v.to_ < ((g.length + 4 : Nat) : Int) from fun v hv => RS_in SL.out.ok (ge := decide (g.length = 0)) (gc := gc) (last := ((g.length + 3 : Nat) : Int)) (by omega) r.pt (cloS (decide (g.length = 0)) gc ((g.length + 3 : Nat) : Int) (· = r.tw)) (fun q hq => by
                have := HB.out; have := HP.out.2.2.1
                rcases hq with rfl | ⟨_, _, rfl⟩
                · omega
                · omega) _ (WL.out.good v hv).1)
              have IN0 := Aside0.mk (RL.out.inn r.fr r.tp lw)
              obtain ⟨g2, hg2⟩ : ∃ g2, g2 = gk := ⟨_, rfl⟩
              subst hg2
              obtain ⟨W2, hW2⟩ : ∃ W2, W2 = w2 := ⟨_, rfl⟩
              subst hW2
              obtain ⟨ws0, hws0⟩ : ∃ ws0, ws0 = ws := ⟨_, rfl⟩
              subst hws0
              have hbigw : lw.length ≤ 9223372036854775807 := HLW.out
              go_loopg [9, 71] lw.length (fun gg s9 s71 wr => ∃ (j : Nat) (ws : List (Ek × Kn)) (ag : Bool), j ≤ lw.length ∧ lw.length - j ≤ gg ∧ s9 = .bool ag ∧ s71 = .int .i64 (j : Int) ∧ Aside0 (InnL (g.length + 4) (decide (g.length = 0)) gc ((g.length + 3 : Nat) : Int) l wsB i ws0 r.fr r.tp lw j ag ws) ∧ Aside0 (SrchL (g.length + 4) (decide (g.length = 0)) gc ((g.length + 3 : Nat) : Int) l (InitI gc g) ws) ∧ Aside0 (ExtW ws0 ws) ∧ Aside0 (FM E w wr b bm b3 gc G g.length gp ws) ∧ Aside0 (∀ p v, W2.cell? p = some v → wr.cell? p = some v) ∧ Aside0 (wr.heap[b11]? = some (.cells #[.int .i64 r.fr, .int .i64 r.tp, .int .i64 r.tw, .slice A1 r.pt.length c1] 37 (0, 0))))
              case atStart => exact ⟨0, _, ag, Nat.zero_le _, by omega, rfl, rfl, IN0, SL, ⟨ExtW.refl _⟩, FF2, ⟨fun _ _ h => h⟩, X112⟩
              case round =>
                obtain ⟨j, ws, ag, hj, hgj, rfl, rfl, IN, SL, EX, FF, KC, X11⟩ := hrel
                clear FF2 X112 IN0
                by_cases hjl : j < lw.length
                · have hjlz : (j : Int) < (lw.length : Int) := by omega
                  obtain ⟨ad2, A2, c2, es, hvc, hvo, z0, z1, z2⟩ := wy_get (C_wy_cells LC.out KC.out) rfl hjl
                  have HG := Aside0.mk (WL.out.good lw[j] (List.getElem_mem hjl))
                  have HVI := Aside0.mk (HIN.out lw[j] (List.getElem_mem hjl))
                  obtain ⟨v, hv⟩ : ∃ v, v = lw[j] := ⟨_, rfl⟩
                  rw [← hv] at hvc hvo z0 z1 z2 HG HVI
                  have HVJ := Aside0.mk hv
                  have HVO := Aside0.mk (And.intro hvc hvo)
                  clear hv hvc hvo
                  cases es
                  have HVC := Aside0.mk (show 0 ≤ v.cost ∧ v.cost ≤ 1099511627776 from ⟨HG.out.2.lo, HG.out.2.hi⟩)
                  have B13 := Aside0.mk (below_alloc (Below.refl wr.heap.size wr) (.cells #[.int .i64 v.to_, .int .i64 v.cost, .slice A2 v.over.length c2] 137))
                  have X13 := Aside0.mk (blk_new wr (.cells #[.int .i64 v.to_, .int .i64 v.cost, .slice A2 v.over.length c2] 137 (0, 0)))
                  go_upto_region 19 with fail
                  clear z0 z1 z2
                  obtain ⟨b13, hb13⟩ : ∃ b13, b13 = wr.heap.size := ⟨_, rfl⟩
                  rw [← hb13] at X13 ⊢
                  generalize wr.alloc (.cells #[.int .i64 v.to_, .int .i64 v.cost, .slice A2 v.over.length c2] 137) = W13 at B13 X13 ⊢
                  clear hb13
                  have FF13 := Aside0.mk (FF.out.below B13.out)
                  have KC13 := Aside0.mk (show ∀ p v, W2.cell? p = some v → W13.cell? p = some v from fun p v h => pw_cell_below B13.out (KC.out p v h))
                  have X1113 := Aside0.mk (blk_below X11.out B13.out)
                  have HVO13 := Aside0.mk (And.intro HVO.out.1 (Kd.C_below HVO.out.2 B13.out))
                  clear FF KC X11 B13 HVO
                  have q0 : W13.cell? ⟨b11, 0, none⟩ = some (.int .i64 r.fr) := (blk_cell X1113.out 0).trans rfl
                  have q1 : W13.cell? ⟨b11, 1, none⟩ = some (.int .i64 r.tp) := (blk_cell X1113.out 1).trans rfl
                  have q2 : W13.cell? ⟨b13, 0, none⟩ = some (.int .i64 v.to_) := (blk_cell X13.out 0).trans rfl
                  have B14 := Aside0.mk (below_alloc (Below.refl W13.heap.size W13) (.cells #[.int .i64 r.fr, .int .i64 r.tp, .int .i64 v.to_] 140))
                  have X14 := Aside0.mk (blk_new W13 (.cells #[.int .i64 r.fr, .int .i64 r.tp, .int .i64 v.to_] 140 (0, 0)))
                  go_upto_region 20 with fail
                  clear q0 q1 q2
                  obtain ⟨b14, hb14⟩ : ∃ b14, b14 = W13.heap.size := ⟨_, rfl⟩
                  rw [← hb14] at X14 ⊢
                  generalize W13.alloc (.cells #[.int .i64 r.fr, .int .i64 r.tp, .int .i64 v.to_] 140) = W14 at B14 X14 ⊢
                  clear hb14
                  have FF14 := Aside0.mk (FF13.out.below B14.out)
                  have KC14 := Aside0.mk (show ∀ p v, W2.cell? p = some v → W14.cell? p = some v from fun p v h => pw_cell_below B14.out (KC13.out p v h))
                  have X1114 := Aside0.mk (blk_below X1113.out B14.out)
                  have X1314 := Aside0.mk (blk_below X13.out B14.out)
                  have HVO14 := Aside0.mk (And.intro HVO13.out.1 (Kd.C_below HVO13.out.2 B14.out))
                  clear FF13 KC13 X1113 X13 B14 HVO13
                  have HIE := Aside0.mk (show InE (g.length + 4) (r.fr, r.tp, v.to_) from by
                    have := HB.out; have := HP.out; have := HVI.out
                    exact ⟨⟨by simp only []; omega, by simp only []; omega⟩, ⟨by simp only []; omega, by simp only []; omega⟩, by simp only []; omega, by simp only []; omega⟩)
                  have HEO := Aside0.mk (okK3_in (n := g.length + 4) (by have := HB.out; omega) HIE.out)
                  have p0 : W14.cell? ⟨b14, 0, none⟩ = some (.int .i64 r.fr) := (blk_cell X14.out 0).trans rfl
                  have p1 : W14.cell? ⟨b14, 1, none⟩ = some (.int .i64 r.tp) := (blk_cell X14.out 1).trans rfl
                  have p2 : W14.cell? ⟨b14, 2, none⟩ = some (.int .i64 v.to_) := (blk_cell X14.out 2).trans rfl
                  have p3 : W14.cell? ⟨b, 2, none⟩ = some (.map (some bm)) := (blk_cell FF14.out.sat.s 2).trans rfl
                  obtain ⟨kk, hkk⟩ : ∃ kk, kk = (lkG ws (r.fr, r.tp, v.to_)).getD kn0 := ⟨_, rfl⟩
                  obtain ⟨ok, hok⟩ : ∃ ok, ok = (lkG ws (r.fr, r.tp, v.to_)).isSome := ⟨_, rfl⟩
                  have HMS := Aside0.mk (show ∀ W', Below W14.heap.size W14 W' → (fun W' => W'.cell? ⟨b, 2, none⟩ = some (.map (some bm)) ∧ W'.cell? ⟨b14, 0, none⟩ = some (.int .i64 r.fr) ∧ W'.cell? ⟨b14, 1, none⟩ = some (.int .i64 r.tp) ∧ W'.cell? ⟨b14, 2, none⟩ = some (.int .i64 v.to_) ∧ (Instr.lookup 222 (.map (some bm)) (.agg #[.int .i64 r.fr, .int .i64 r.tp, .int .i64 v.to_]) true).run Try.prog W' = .ok (.tuple #[.agg #[.int .i64 kk.rule, .int .i64 kk.cost, .slice kk.A kk.over.length kk.c], .bool ok]) W') W' from fun W' hb => ⟨pw_cell_below hb p3, pw_cell_below hb p0, pw_cell_below hb p1, pw_cell_below hb p2, by
                    have := edge_look2 (FF14.out.below hb).sat.m E1.out E2.out (r.fr, r.tp, v.to_) HEO.out
                    rw [← hkk, ← hok] at this
                    exact this⟩)
                  have HKK := Aside0.mk hkk
                  have HOK := Aside0.mk hok
                  clear hkk hok
                  refine wp_region_held_drew (S := (fun W' => W'.cell? ⟨b, 2, none⟩ = some (.map (some bm)) ∧ W'.cell? ⟨b14, 0, none⟩ = some (.int .i64 r.fr) ∧ W'.cell? ⟨b14, 1, none⟩ = some (.int .i64 r.tp) ∧ W'.cell? ⟨b14, 2, none⟩ = some (.int .i64 v.to_) ∧ (Instr.lookup 222 (.map (some bm)) (.agg #[.int .i64 r.fr, .int .i64 r.tp, .int .i64 v.to_]) true).run Try.prog W' = .ok (.tuple #[.agg #[.int .i64 kk.rule, .int .i64 kk.cost, .slice kk.A kk.over.length kk.c], .bool ok]) W')) (by kernel_rfl) ?_ (fun hHeld => ?_)
                  · (try dsimp only); (first | (refine HMS.out _ ?_; (repeat (first | exact Below.refl _ _ | apply below_drew1 | apply below_alloc)); done) | fail)
                  refine wpAnyH_take (i := 0) (v := ?_) rfl (by kernel_rfl) (by kernel_rfl) (by kernel_rfl) (fun _ _ _ h => h) (Or.inl ⟨by kernel_rfl, ?_⟩) (by assumption) ?_
                  rotate_left 1
                  · intro w hSw; (try dsimp only at hSw); go_simp; (try with_reducible rfl)
                  (try simp only [Act.put, List.getElem_toArray, List.getElem_cons_zero, List.getElem_cons_succ, List.setIfInBounds_toArray, List.set_cons_zero, List.set_cons_succ])
                  refine wpAnyH_take (i := 1) (v := ?_) rfl (by kernel_rfl) (by kernel_rfl) (by kernel_rfl) (fun _ _ _ h => h) (Or.inl ⟨by kernel_rfl, ?_⟩) (by assumption) ?_
                  rotate_left 1
                  · intro w hSw; (try dsimp only at hSw); go_simp; (try with_reducible rfl)
                  (try simp only [Act.put, List.getElem_toArray, List.getElem_cons_zero, List.getElem_cons_succ, List.setIfInBounds_toArray, List.set_cons_zero, List.set_cons_succ])
                  refine wpAnyH_take (i := 2) (v := ?_) rfl (by kernel_rfl) (by kernel_rfl) (by kernel_rfl) (fun _ _ _ h => h) (Or.inl ⟨by kernel_rfl, ?_⟩) (by assumption) ?_
                  rotate_left 1
                  · intro w hSw; (try dsimp only at hSw); go_simp; (try with_reducible rfl)
                  (try simp only [Act.put, List.getElem_toArray, List.getElem_cons_zero, List.getElem_cons_succ, List.setIfInBounds_toArray, List.set_cons_zero, List.set_cons_succ])
                  refine wpAnyH_take (i := 3) (v := ?_) rfl (by kernel_rfl) (by kernel_rfl) (by kernel_rfl) (fun _ _ _ h => h) (Or.inl ⟨by kernel_rfl, ?_⟩) (by assumption) ?_
                  rotate_left 1
                  · intro w hSw; (try dsimp only at hSw); go_simp; (try with_reducible rfl)
                  (try simp only [Act.put, List.getElem_toArray, List.getElem_cons_zero, List.getElem_cons_succ, List.setIfInBounds_toArray, List.set_cons_zero, List.set_cons_succ])
                  refine wpAnyH_take (i := 4) (v := ?_) rfl (by kernel_rfl) (by kernel_rfl) (by kernel_rfl) (fun _ _ _ h => h) (Or.inl ⟨by kernel_rfl, ?_⟩) (by assumption) ?_
                  rotate_left 1
                  · intro w hSw; (try dsimp only at hSw); go_simp; (try with_reducible rfl)
                  (try simp only [Act.put, List.getElem_toArray, List.getElem_cons_zero, List.getElem_cons_succ, List.setIfInBounds_toArray, List.set_cons_zero, List.set_cons_succ])
                  refine wpAnyH_take (i := 5) (v := ?_) rfl (by kernel_rfl) (by kernel_rfl) (by kernel_rfl) (fun _ _ _ h => h) (Or.inl ⟨by kernel_rfl, ?_⟩) (by assumption) ?_
                  rotate_left 1
                  · intro w hSw; (try dsimp only at hSw); go_simp; (try with_reducible rfl)
                  (try simp only [Act.put, List.getElem_toArray, List.getElem_cons_zero, List.getElem_cons_succ, List.setIfInBounds_toArray, List.set_cons_zero, List.set_cons_succ])
                  refine wpAnyH_take (i := 6) (v := ?_) rfl (by kernel_rfl) (by kernel_rfl) (by kernel_rfl) (fun _ _ _ h => h) (Or.inl ⟨by kernel_rfl, ?_⟩) (by assumption) ?_
                  rotate_left 1
                  · intro w hSw; (try dsimp only at hSw); go_simp; (try with_reducible rfl)
                  (try simp only [Act.put, List.getElem_toArray, List.getElem_cons_zero, List.getElem_cons_succ, List.setIfInBounds_toArray, List.set_cons_zero, List.set_cons_succ])
                  refine wpAnyH_take (i := 7) (v := ?_) rfl (by kernel_rfl) (by kernel_rfl) (by kernel_rfl) (fun _ _ _ h => h) (Or.inl ⟨by kernel_rfl, ?_⟩) (by assumption) ?_
                  rotate_left 1
                  · intro w hSw; (try dsimp only at hSw); go_simp; (try with_reducible rfl)
                  (try simp only [Act.put, List.getElem_toArray, List.getElem_cons_zero, List.getElem_cons_succ, List.setIfInBounds_toArray, List.set_cons_zero, List.set_cons_succ])
                  refine wpAnyH_take (i := 8) (v := ?_) rfl (by kernel_rfl) (by kernel_rfl) (by kernel_rfl) (fun _ _ _ h => h) (Or.inl ⟨by kernel_rfl, ?_⟩) (by assumption) ?_
                  rotate_left 1
                  · intro w hSw; (try dsimp only at hSw); go_simp; (try with_reducible rfl)
                  (try simp only [Act.put, List.getElem_toArray, List.getElem_cons_zero, List.getElem_cons_succ, List.setIfInBounds_toArray, List.set_cons_zero, List.set_cons_succ])
                  refine wpAnyH_ready (rs := [9]) (by kernel_rfl) (by simp) ?_
                  refine AllReadyH.cons rfl (fun K hK => ?_) AllReadyH.nil
                  rw [if_pos (by kernel_rfl)]
                  go_simp
                  (try go_simp)
                  refine hK.out _ _ ?_ (fun hHeld => ?_)
                  · (try dsimp only); (first | (refine HMS.out _ ?_; (repeat (first | exact Below.refl _ _ | apply below_drew1 | apply below_alloc)); done) | fail)
                  clear hK K
                  (try simp only [Act.put, List.getElem_toArray, List.getElem_cons_zero, List.getElem_cons_succ, List.setIfInBounds_toArray, List.set_cons_zero, List.set_cons_succ])
                  refine wpAnyH_ready (rs := [10]) (by kernel_rfl) (by simp) ?_
                  refine AllReadyH.cons rfl (fun K hK => ?_) AllReadyH.nil
                  rw [if_pos (by kernel_rfl)]
                  go_simp
                  (try go_simp)
                  refine hK.out _ _ ?_ (fun hHeld => ?_)
                  · (try dsimp only); (first | (refine HMS.out _ ?_; (repeat (first | exact Below.refl _ _ | apply below_drew1 | apply below_alloc)); done) | fail)
                  clear hK K
                  (try simp only [Act.put, List.getElem_toArray, List.getElem_cons_zero, List.getElem_cons_succ, List.setIfInBounds_toArray, List.set_cons_zero, List.set_cons_succ])
                  refine wpAnyH_take (i := 11) (v := ?_) rfl (by kernel_rfl) (by kernel_rfl) (by kernel_rfl) (fun _ _ _ h => h) (Or.inl ⟨by kernel_rfl, ?_⟩) (by assumption) ?_
                  rotate_left 1
                  · intro w hSw; (try dsimp only at hSw); go_simp; (try with_reducible rfl)
                  (try simp only [Act.put, List.getElem_toArray, List.getElem_cons_zero, List.getElem_cons_succ, List.setIfInBounds_toArray, List.set_cons_zero, List.set_cons_succ])
                  refine wpAnyH_done (by kernel_rfl) ?_ _
                  have B15 := Aside0.mk (show Below W14.heap.size W14 (W14.alloc (.cells #[.int .i64 kk.rule, .int .i64 kk.cost, .slice kk.A kk.over.length kk.c] 226)).drew from below_drew1 (below_alloc (Below.refl _ _) _))
                  have X15 := Aside0.mk (show (W14.alloc (.cells #[.int .i64 kk.rule, .int .i64 kk.cost, .slice kk.A kk.over.length kk.c] 226)).drew.heap[W14.heap.size]? = some (.cells #[.int .i64 kk.rule, .int .i64 kk.cost, .slice kk.A kk.over.length kk.c] 226 (0, 0)) from blk_new W14 _)
                  obtain ⟨b15, hb15⟩ : ∃ b15, b15 = W14.heap.size := ⟨_, rfl⟩
                  go_upto_region 21 with fail
                  generalize (W14.alloc (.cells #[.int .i64 kk.rule, .int .i64 kk.cost, .slice kk.A kk.over.length kk.c] 226)).drew = W15 at B15 X15 ⊢
                  rw [← hb15] at X15 ⊢
                  have FF15 := Aside0.mk (FF14.out.below B15.out)
                  have KC15 := Aside0.mk (show ∀ p v, W2.cell? p = some v → W15.cell? p = some v from fun p v h => pw_cell_below B15.out (KC14.out p v h))
                  have X1115 := Aside0.mk (blk_below X1114.out B15.out)
                  have X1315 := Aside0.mk (blk_below X1314.out B15.out)
                  have X1415 := Aside0.mk (blk_below X14.out B15.out)
                  have HVO15 := Aside0.mk (And.intro HVO14.out.1 (Kd.C_below HVO14.out.2 B15.out))
                  clear hb15 p0 p1 p2 p3 HMS FF14 KC14 X1114 X1314 X14 B15 HVO14
                  obtain ⟨vc, hvc⟩ : ∃ vc : Int, vc = v.cost + 1 := ⟨_, rfl⟩
                  obtain ⟨nc, hnc⟩ : ∃ nc : Int, nc = min vc 1099511627776 := ⟨_, rfl⟩
                  have hw : IntKind.i64.wrap (v.cost + 1) = vc := (IntWalk.i64_in _ (by have := HVC.out; omega)).trans hvc.symm
                  have hmin : min vc 1099511627776 = nc := hnc.symm
                  have HNC := Aside0.mk (And.intro hvc hnc)
                  clear hvc hnc
                  have q0 : W15.cell? ⟨b13, 1, none⟩ = some (.int .i64 v.cost) := (blk_cell X1315.out 1).trans rfl
                  have q1 : W15.cell? ⟨b15, 1, none⟩ = some (.int .i64 kk.cost) := (blk_cell X15.out 1).trans rfl
                  go_upto_region 22 with fail
                  go_cut [101] (fun s101 wx => ∃ bl : Bool, s101 = .bool bl ∧ Aside0 (bl = false → ok = true) ∧ Aside0 (bl = true → ok = true → vc < kk.cost) ∧ Aside0 (Below W15.heap.size W15 wx))
                  case first =>
                    --< r22
                    cases ok with
                    | false =>
                      go_wp2_with fail
                      go_meet
                      exact ⟨_, rfl, ⟨fun h => by cases h⟩, ⟨fun _ h => by cases h⟩, ⟨Below.refl _ _⟩⟩
                    | true =>
                      by_cases hlc : vc < kk.cost
                      · go_wp2_with fail
                        go_meet
                        exact ⟨_, rfl, ⟨fun _ => by first | trivial | rfl⟩, ⟨fun _ _ => hlc⟩, ⟨Below.refl _ _⟩⟩
                      · go_wp2_with fail
                        go_meet
                        exact ⟨_, rfl, ⟨fun _ => by first | trivial | rfl⟩, ⟨fun h _ => by first | (cases h; done) | (exact absurd (of_decide_eq_true h) hlc) | (simp at h; omega)⟩, ⟨Below.refl _ _⟩⟩
                    --> r22
                  case rest =>
                    obtain ⟨bl, rfl, HBL, HBT, B16⟩ := hcut
                    clear q0 q1 X15
                    have FF16 := Aside0.mk (FF15.out.below B16.out)
                    have KC16 := Aside0.mk (show ∀ p v, W2.cell? p = some v → wc.cell? p = some v from fun p v h => pw_cell_below B16.out (KC15.out p v h))
                    have X1116 := Aside0.mk (blk_below X1115.out B16.out)
                    have X1316 := Aside0.mk (blk_below X1315.out B16.out)
                    have X1416 := Aside0.mk (blk_below X1415.out B16.out)
                    have HVO16 := Aside0.mk (And.intro HVO15.out.1 (Kd.C_below HVO15.out.2 B16.out))
                    clear FF15 KC15 X1115 X1315 X1415 B16 HVO15
                    cases bl with
                    | false =>
                      --< noput
                      have IN2 := Aside0.mk (IN.out.skip hjl (by rw [← HVJ.out, ← HOK.out]; exact HBL.out rfl))
                      go_wp2_with fail
                      go_roundg (lw.length - (j + 1))
                      case measure => omega
                      case rel => exact ⟨j + 1, ws, ag, by omega, by omega, rfl, by go_num, IN2, SL, EX, FF16, KC16, X1116⟩
                      --> noput
                    | true =>
                      --< put
                      have HPUT := Aside0.mk (SL.out.put EX.out hil (v := v) (by rw [← HRI.out]; exact HG.out.2) (by rw [← HRI.out]; exact HG.out.1) (by rw [← HRI.out]; exact HIE.out) A2 c2 (by
                        rw [← HRI.out]
                        cases hlk : lkG ws (r.fr, r.tp, v.to_) with
                        | none => exact .inl rfl
                        | some k' =>
                          refine .inr ⟨k', rfl, ?_⟩
                          have h1 := HBT.out rfl (by rw [HOK.out, hlk]; rfl)
                          have h2 : kk = k' := by rw [HKK.out, hlk]; rfl
                          rw [← h2, ← HNC.out.1]
                          exact h1))
                      rw [← HRI.out] at HPUT
                      have HNE := Aside0.mk (show min (v.cost + 1) endC = nc from by rw [HNC.out.2, HNC.out.1]; rfl)
                      rw [HNE.out] at HPUT
                      have FFd := Aside0.mk (FF16.out.below (below_drew1 (Below.refl _ _)))
                      have HVOd := Aside0.mk (show v.over.length ≤ c2 ∧ Kd.C kEk wc.drew A2 v.over.length v.over from ⟨HVO16.out.1, Kd.C_below HVO16.out.2 (below_drew1 (Below.refl _ _))⟩)
                      obtain ⟨w4, hrun4, F4, ht4⟩ := FFd.out.upd E1.out E2.out r.fr r.tp v.to_ HEO.out ⟨(i : Int), nc, v.over, A2, c2⟩ HVOd.out
                      replace hrun4 : (Instr.mapUpdate 222 (.map (some bm)) (.agg #[.int .i64 r.fr, .int .i64 r.tp, .int .i64 v.to_]) (.agg #[.int .i64 (i : Int), .int .i64 nc, .slice A2 v.over.length c2])).run Try.prog wc.drew = .ok () w4 := hrun4
                      have IN2 := Aside0.mk (IN.out.put HPUT.out.2.2 (j + 1))
                      have X114 := Aside0.mk (blk_turned (blk_below X1116.out (below_drew1 (Below.refl _ _))) ht4 (map_ne FFd.out.sat.m (blk_below X1116.out (below_drew1 (Below.refl _ _)))))
                      have KC4 := Aside0.mk (show ∀ p v, W2.cell? p = some v → w4.cell? p = some v from fun p v h => cells_turned ht4 FFd.out.sat.m.isMap p v (pw_cell_below (below_drew1 (Below.refl _ _)) (KC16.out p v h)))
                      have p0 : wc.cell? ⟨b14, 0, none⟩ = some (.int .i64 r.fr) := (blk_cell X1416.out 0).trans rfl
                      have p1 : wc.cell? ⟨b14, 1, none⟩ = some (.int .i64 r.tp) := (blk_cell X1416.out 1).trans rfl
                      have p2 : wc.cell? ⟨b14, 2, none⟩ = some (.int .i64 v.to_) := (blk_cell X1416.out 2).trans rfl
                      have p3 : wc.cell? ⟨b, 2, none⟩ = some (.map (some bm)) := (blk_cell FF16.out.sat.s 2).trans rfl
                      have p4 : wc.cell? ⟨b13, 2, none⟩ = some (.slice A2 v.over.length c2) := (blk_cell X1316.out 2).trans rfl
                      have HS0 := Aside0.mk (show (fun W' => W'.cell? ⟨b, 2, none⟩ = some (.map (some bm)) ∧ W'.cell? ⟨b14, 0, none⟩ = some (.int .i64 r.fr) ∧ W'.cell? ⟨b14, 1, none⟩ = some (.int .i64 r.tp) ∧ W'.cell? ⟨b14, 2, none⟩ = some (.int .i64 v.to_) ∧ W'.cell? ⟨b13, 2, none⟩ = some (.slice A2 v.over.length c2)) wc.drew from ⟨p3, p0, p1, p2, p4⟩)
                      have HS4 := Aside0.mk (show (fun W' => W'.cell? ⟨b, 2, none⟩ = some (.map (some bm)) ∧ W'.cell? ⟨b14, 0, none⟩ = some (.int .i64 r.fr) ∧ W'.cell? ⟨b14, 1, none⟩ = some (.int .i64 r.tp) ∧ W'.cell? ⟨b14, 2, none⟩ = some (.int .i64 v.to_) ∧ W'.cell? ⟨b13, 2, none⟩ = some (.slice A2 v.over.length c2)) w4 from ⟨cells_turned ht4 FFd.out.sat.m.isMap _ _ p3, cells_turned ht4 FFd.out.sat.m.isMap _ _ p0, cells_turned ht4 FFd.out.sat.m.isMap _ _ p1, cells_turned ht4 FFd.out.sat.m.isMap _ _ p2, cells_turned ht4 FFd.out.sat.m.isMap _ _ p4⟩)
                      have F4 := Aside0.mk F4
                      clear ht4 p0 p1 p2 p3 p4
                      go_upto_region 23 with fail
                      refine wp_region_held_drew (S := (fun W' => W'.cell? ⟨b, 2, none⟩ = some (.map (some bm)) ∧ W'.cell? ⟨b14, 0, none⟩ = some (.int .i64 r.fr) ∧ W'.cell? ⟨b14, 1, none⟩ = some (.int .i64 r.tp) ∧ W'.cell? ⟨b14, 2, none⟩ = some (.int .i64 v.to_) ∧ W'.cell? ⟨b13, 2, none⟩ = some (.slice A2 v.over.length c2))) (by kernel_rfl) ?_ (fun hHeld => ?_)
                      · (try dsimp only); (first | exact HS0.out | exact HS4.out | fail)
                      refine wpAnyH_take (i := 0) (v := ?_) rfl (by kernel_rfl) (by kernel_rfl) (by kernel_rfl) (fun _ _ _ h => h) (Or.inl ⟨by kernel_rfl, ?_⟩) (by assumption) ?_
                      rotate_left 1
                      · intro w hSw; (try dsimp only at hSw); go_simp; (try with_reducible rfl)
                      (try simp only [Act.put, List.getElem_toArray, List.getElem_cons_zero, List.getElem_cons_succ, List.setIfInBounds_toArray, List.set_cons_zero, List.set_cons_succ])
                      refine wpAnyH_take (i := 1) (v := ?_) rfl (by kernel_rfl) (by kernel_rfl) (by kernel_rfl) (fun _ _ _ h => h) (Or.inl ⟨by kernel_rfl, ?_⟩) (by assumption) ?_
                      rotate_left 1
                      · intro w hSw; (try dsimp only at hSw); go_simp; (try with_reducible rfl)
                      (try simp only [Act.put, List.getElem_toArray, List.getElem_cons_zero, List.getElem_cons_succ, List.setIfInBounds_toArray, List.set_cons_zero, List.set_cons_succ])
                      refine wpAnyH_take (i := 2) (v := ?_) rfl (by kernel_rfl) (by kernel_rfl) (by kernel_rfl) (fun _ _ _ h => h) (Or.inl ⟨by kernel_rfl, ?_⟩) (by assumption) ?_
                      rotate_left 1
                      · intro w hSw; (try dsimp only at hSw); go_simp; (try with_reducible rfl)
                      (try simp only [Act.put, List.getElem_toArray, List.getElem_cons_zero, List.getElem_cons_succ, List.setIfInBounds_toArray, List.set_cons_zero, List.set_cons_succ])
                      refine wpAnyH_take (i := 3) (v := ?_) rfl (by kernel_rfl) (by kernel_rfl) (by kernel_rfl) (fun _ _ _ h => h) (Or.inl ⟨by kernel_rfl, ?_⟩) (by assumption) ?_
                      rotate_left 1
                      · intro w hSw; (try dsimp only at hSw); go_simp; (try with_reducible rfl)
                      (try simp only [Act.put, List.getElem_toArray, List.getElem_cons_zero, List.getElem_cons_succ, List.setIfInBounds_toArray, List.set_cons_zero, List.set_cons_succ])
                      refine wpAnyH_take (i := 4) (v := ?_) rfl (by kernel_rfl) (by kernel_rfl) (by kernel_rfl) (fun _ _ _ h => h) (Or.inl ⟨by kernel_rfl, ?_⟩) (by assumption) ?_
                      rotate_left 1
                      · intro w hSw; (try dsimp only at hSw); go_simp; (try with_reducible rfl)
                      (try simp only [Act.put, List.getElem_toArray, List.getElem_cons_zero, List.getElem_cons_succ, List.setIfInBounds_toArray, List.set_cons_zero, List.set_cons_succ])
                      refine wpAnyH_take (i := 5) (v := ?_) rfl (by kernel_rfl) (by kernel_rfl) (by kernel_rfl) (fun _ _ _ h => h) (Or.inl ⟨by kernel_rfl, ?_⟩) (by assumption) ?_
                      rotate_left 1
                      · intro w hSw; (try dsimp only at hSw); go_simp; (try with_reducible rfl)
                      (try simp only [Act.put, List.getElem_toArray, List.getElem_cons_zero, List.getElem_cons_succ, List.setIfInBounds_toArray, List.set_cons_zero, List.set_cons_succ])
                      refine wpAnyH_take (i := 6) (v := ?_) rfl (by kernel_rfl) (by kernel_rfl) (by kernel_rfl) (fun _ _ _ h => h) (Or.inl ⟨by kernel_rfl, ?_⟩) (by assumption) ?_
                      rotate_left 1
                      · intro w hSw; (try dsimp only at hSw); go_simp; (try with_reducible rfl)
                      (try simp only [Act.put, List.getElem_toArray, List.getElem_cons_zero, List.getElem_cons_succ, List.setIfInBounds_toArray, List.set_cons_zero, List.set_cons_succ])
                      refine wpAnyH_take (i := 7) (v := ?_) rfl (by kernel_rfl) (by kernel_rfl) (by kernel_rfl) (fun _ _ _ h => h) (Or.inl ⟨by kernel_rfl, ?_⟩) (by assumption) ?_
                      rotate_left 1
                      · intro w hSw; (try dsimp only at hSw); go_simp; (try with_reducible rfl)
                      (try simp only [Act.put, List.getElem_toArray, List.getElem_cons_zero, List.getElem_cons_succ, List.setIfInBounds_toArray, List.set_cons_zero, List.set_cons_succ])
                      refine wpAnyH_take (i := 8) (v := ?_) rfl (by kernel_rfl) (by kernel_rfl) (by kernel_rfl) (fun _ _ _ h => h) (Or.inl ⟨by kernel_rfl, ?_⟩) (by assumption) ?_
                      rotate_left 1
                      · intro w hSw; (try dsimp only at hSw); go_simp; (try with_reducible rfl)
                      (try simp only [Act.put, List.getElem_toArray, List.getElem_cons_zero, List.getElem_cons_succ, List.setIfInBounds_toArray, List.set_cons_zero, List.set_cons_succ])
                      refine wpAnyH_take (i := 9) (v := ?_) rfl (by kernel_rfl) (by kernel_rfl) (by kernel_rfl) (fun _ _ _ h => h) (Or.inl ⟨by kernel_rfl, ?_⟩) (by assumption) ?_
                      rotate_left 1
                      · intro w hSw; (try dsimp only at hSw); go_simp; (try with_reducible rfl)
                      (try simp only [Act.put, List.getElem_toArray, List.getElem_cons_zero, List.getElem_cons_succ, List.setIfInBounds_toArray, List.set_cons_zero, List.set_cons_succ])
                      refine wpAnyH_take (i := 10) (v := ?_) rfl (by kernel_rfl) (by kernel_rfl) (by kernel_rfl) (fun _ _ _ h => h) (Or.inl ⟨by kernel_rfl, ?_⟩) (by assumption) ?_
                      rotate_left 1
                      · intro w hSw; (try dsimp only at hSw); go_simp; (try with_reducible rfl)
                      (try simp only [Act.put, List.getElem_toArray, List.getElem_cons_zero, List.getElem_cons_succ, List.setIfInBounds_toArray, List.set_cons_zero, List.set_cons_succ])
                      refine wpAnyH_ready (rs := [11]) (by kernel_rfl) (by simp) ?_
                      refine AllReadyH.cons rfl (fun K hK => ?_) AllReadyH.nil
                      rw [if_pos (by kernel_rfl)]
                      go_simp
                      (try go_simp)
                      refine hK.out _ _ ?_ (fun hHeld => ?_)
                      · (try dsimp only); (first | exact HS0.out | exact HS4.out | fail)
                      clear hK K
                      (try simp only [Act.put, List.getElem_toArray, List.getElem_cons_zero, List.getElem_cons_succ, List.setIfInBounds_toArray, List.set_cons_zero, List.set_cons_succ])
                      refine wpAnyH_done (by kernel_rfl) ?_ _
                      go_wp2_with fail
                      clear hrun4
                      go_roundg (lw.length - (j + 1))
                      case measure => omega
                      case rel => exact ⟨j + 1, _, true, by omega, by omega, rfl, by go_num, IN2, ⟨HPUT.out.1⟩, ⟨HPUT.out.2.1⟩, F4, KC4, X114⟩
                      --> put
                · --< jend
                  have hje : j = lw.length := by omega
                  subst hje
                  clear hgj
                  have RL2 := Aside0.mk (show RndL (g.length + 4) (decide (g.length = 0)) gc ((g.length + 3 : Nat) : Int) l wsB (i + 1) ag ws from by
                    have h1 := IN.out
                    have h2 := WL.out
                    rw [HRI.out] at h1 h2
                    exact h1.done hil h2)
                  go_wp2_with fail
                  go_roundg (l.length - (i + 1))
                  case measure => omega
                  case rel => exact ⟨i + 1, ws, ag, by omega, by omega, rfl, by go_num, RL2, SL, FF⟩
                  --> jend
            · --< rend
              have hie : i = l.length := by omega
              subst hie
              clear hgi
              go_wp2_with fail
              cases ag with
              | true =>
                have HM2 := Aside0.mk (show muE (g.length + 4) ws < muE (g.length + 4) wsB from by
                  rcases RL.out with ⟨_, h⟩ | ⟨h, _⟩
                  · exact h
                  · cases h)
                go_roundg (muE (g.length + 4) ws + 1)
                case measure => have := HM2.out; have := HMB.out; omega
                case rel => exact ⟨ws, true, rfl, ⟨by simp⟩, SL, ⟨fun h => by cases h⟩, FF⟩
              | false =>
                have HM2 := Aside0.mk (show ws = wsB from by
                  rcases RL.out with ⟨h, _⟩ | ⟨_, h, _⟩
                  · cases h
                  · exact h)
                have HLE := Aside0.mk (RL.out.least SL.out)
                go_roundg (muE (g.length + 4) ws)
                case measure => rw [HM2.out]; exact HMB.out
                case rel => exact ⟨ws, false, rfl, ⟨by simp⟩, SL, ⟨fun _ => HLE.out⟩, FF⟩
              --> rend
end Go.Proofs.Ytampgoendkjkhaa.H

namespace Go.Proofs.Ytampgoendkjkhaa.H
open Go.RowKit Go.Maps Go.Shelf Go.Proofs.YtampgoendkjkhaaW.PrintWords Go.Proofs.YtampgoendkjkhaaW.PrintMore
set_option linter.unusedVariables false
set_option linter.unusedSimpArgs false
theorem noB_in {n q : Int} (h : noB n q = false) : 0 ≤ q ∧ q < n := by
  unfold noB at h
  simp only [Bool.or_eq_false_iff, decide_eq_false_iff_not] at h
  omega
theorem noB_any {n : Int} {xs : List Int} (h : ¬ xs.any (noB n) = true) : ∀ x ∈ xs, 0 ≤ x ∧ x < n := fun x hx => noB_in (by
  cases e : noB n x with
  | false => rfl
  | true => exact absurd (List.any_eq_true.2 ⟨x, hx, e⟩) h)
theorem pChk_ok {l : List Psh} (h : pChk l = 0) : PuOk l := by
  unfold pChk at h
  split at h
  · cases h
  · rename_i h1
    split at h
    · cases h
    · rename_i h2
      rw [not_or] at h1
      have g1 : ∀ r ∈ l, pu1B r = false := fun r hr => by
        cases e : pu1B r with
        | false => rfl
        | true => exact absurd (List.any_eq_true.2 ⟨r, hr, e⟩) h1.2
      have g2 : ∀ r ∈ l, pu2B r = false := fun r hr => by
        cases e : pu2B r with
        | false => rfl
        | true => exact absurd (List.any_eq_true.2 ⟨r, hr, e⟩) h2
      unfold pu1B at g1
      unfold pu2B at g2
      refine ⟨by omega, fun r hr => ?_, fun r hr => ?_, fun r hr => ?_, fun r hr => ?_, fun r hr => ?_⟩
      · have := g2 r hr; simp only [Bool.or_eq_false_iff] at this; exact noB_in this.1
      · have := g2 r hr; simp only [Bool.or_eq_false_iff] at this; exact noB_in this.2.1
      · have := g2 r hr; simp only [Bool.or_eq_false_iff] at this; exact noB_in this.2.2.1
      · have := g1 r hr; simp only [decide_eq_false_iff_not] at this; omega
      · have := g2 r hr; simp only [Bool.or_eq_false_iff] at this; exact noB_any (by rw [this.2.2.2]; simp)
/-- a config that may be -/
def CfOk (x : Cfg) : Prop := x.2.length ≤ 20 ∧ (0 ≤ x.1 ∧ x.1 < 3) ∧ ∀ q ∈ x.2, 0 ≤ q ∧ q < 3
theorem cfChk_ok {x : Cfg} (h : cfChk x = 0) : CfOk x := by
  unfold cfChk at h
  split at h
  · cases h
  · rename_i h1
    split at h
    · cases h
    · rename_i h2
      rw [not_or] at h2
      exact ⟨by omega, noB_in (by simpa using h2.1), noB_any h2.2⟩
theorem ask_ok {l : List Psh} {x y : Cfg} (h : askF l x y = 0) : PuOk l ∧ CfOk x ∧ CfOk y ∧ y.2.length ≤ 3 := by
  unfold askF at h
  split at h
  · rename_i h1
    split at h
    · cases h
    · unfold ckdF at h1
      split at h1
      · rename_i h2
        unfold csChk at h1
        split at h1
        · rename_i h3
          unfold csChk at h1
          split at h1
          · rename_i h4
            exact ⟨pChk_ok h2, cfChk_ok h3, cfChk_ok h4, by omega⟩
          · rename_i h4; exact absurd h1 h4
        · rename_i h3; exact absurd h1 h3
      · rename_i h2; exact absurd h1 h2
  · rename_i h1; exact absurd h h1
theorem sum_cheap {l : List Psh} {ws : List (Ek × Kn)} (h : CheapL l ws) (hp : ∀ r ∈ l, r.pt = []) : ∀ es : List Ek, (∀ x ∈ es, (lkG ws x).isSome = true) → sumC ws es ≤ (es.length : Int)
  | [], _ => Int.le_refl _
  | e :: t, hs => by
    have ih := sum_cheap h hp t (fun x hx => hs x (List.mem_cons_of_mem _ hx))
    obtain ⟨k, hk⟩ := Option.isSome_iff_exists.1 (hs e (List.mem_cons_self ..))
    have h1 := h hp e k hk
    have h2 : costOf ws e = k.cost := by unfold costOf; rw [hk]; rfl
    simp only [sumC, List.length_cons, h2]
    omega
/-- whether the goal can be come to -/
def CanL (l : List Psh) (x y : Cfg) (can : Bool) : Prop := ∃ ws : List (Ek × Kn), LeastE (decide (y.2.length = 0)) y.1 ((y.2.length + 3 : Nat) : Int) l (InitI y.1 y.2) (EdE ws) ∧ (can = true ↔ RS (decide (y.2.length = 0)) y.1 ((y.2.length + 3 : Nat) : Int) (EdE ws) (cloS (decide (y.2.length = 0)) y.1 ((y.2.length + 3 : Nat) : Int) (· = x.1)) x.2 ((y.2.length + 3 : Nat) : Int))
def WayPost (w : World) (l : List Psh) (x y : Cfg) (e : Ending) (w' : World) : Prop := ∃ (v : Value) (can : Bool) (er : Int), e = .returned (.tuple #[v, .bool can, .int .i64 er]) ∧ (er = 0 → askF l x y = 0 ∧ CanL l x y can) ∧ (askF l x y = 0 → (∀ r ∈ l, r.pt = []) → er = 0) ∧ Below w.heap.size w w'
set_option maxHeartbeats 8000000 in
set_option maxRecDepth 100000 in
theorem way_calls (w : World) (A : Option Addr) (c : Nat) (l : List Psh) (hr : Kd.C kPu w A l.length l) (x y : Cfg) (X Y : Option Addr) (cx cy : Nat) (g0 : x.2.length ≤ cx) (g1 : y.2.length ≤ cy) (h0 : Kd.C (Kd.int .i64) w X x.2.length x.2) (h1 : Kd.C (Kd.int .i64) w Y y.2.length y.2) :
    Calls Try.prog 16 #[.slice A l.length c, .agg #[.int .i64 x.1, .slice X x.2.length cx], .agg #[.int .i64 y.1, .slice Y y.2.length cy]] w (WayPost w l x y) := by
  obtain ⟨E, hE1, hE2⟩ := keyV
  have E1 := Aside0.mk hE1
  have E2 := Aside0.mk hE2
  have HR := Aside0.mk hr
  have HX := Aside0.mk h0
  have HY := Aside0.mk h1
  have HC := Aside0.mk (And.intro g0 g1)
  have tk1 : True := trivial
  clear hE1 hE2 hr h0 h1 g0 g1
  go_enter Try.func16, Try.ntmps16
  go_upto_region 1 with fail
  have B1 := Aside0.mk (show Below w.heap.size w ((w.alloc (.cells #[.int .i64 x.1, .slice X x.2.length cx] 35)).alloc (.cells #[.int .i64 y.1, .slice Y y.2.length cy] 35)) from below_alloc (below_alloc (Below.refl _ _) _) _)
  have X4 := Aside0.mk (show ((w.alloc (.cells #[.int .i64 x.1, .slice X x.2.length cx] 35)).alloc (.cells #[.int .i64 y.1, .slice Y y.2.length cy] 35)).heap[w.heap.size]? = some (.cells #[.int .i64 x.1, .slice X x.2.length cx] 35 (0, 0)) from blk_below (blk_new w _) (below_alloc (Below.refl _ _) _))
  have X5 := Aside0.mk (show ((w.alloc (.cells #[.int .i64 x.1, .slice X x.2.length cx] 35)).alloc (.cells #[.int .i64 y.1, .slice Y y.2.length cy] 35)).heap[w.heap.size + 1]? = some (.cells #[.int .i64 y.1, .slice Y y.2.length cy] 35 (0, 0)) from blk_newn _ _ _ (by simp))
  generalize ((w.alloc (.cells #[.int .i64 x.1, .slice X x.2.length cx] 35)).alloc (.cells #[.int .i64 y.1, .slice Y y.2.length cy] 35)) = W1 at B1 X4 X5 ⊢
  obtain ⟨b5, hb5⟩ : ∃ b5, b5 = w.heap.size + 1 := ⟨_, rfl⟩
  obtain ⟨b4, hb4⟩ : ∃ b4, b4 = w.heap.size := ⟨_, rfl⟩
  rw [← hb5] at X5 ⊢
  replace X4 : Aside0 (W1.heap[b4]? = some (.cells #[.int .i64 x.1, .slice X x.2.length cx] 35 (0, 0))) := ⟨by rw [hb4]; exact X4.out⟩
  rw [← hb4]
  clear hb4 hb5
  have p40 : W1.cell? ⟨b4, 0, none⟩ = some (.int .i64 x.1) := (blk_cell X4.out 0).trans rfl
  have p41 : W1.cell? ⟨b4, 1, none⟩ = some (.slice X x.2.length cx) := (blk_cell X4.out 1).trans rfl
  have p50 : W1.cell? ⟨b5, 0, none⟩ = some (.int .i64 y.1) := (blk_cell X5.out 0).trans rfl
  have p51 : W1.cell? ⟨b5, 1, none⟩ = some (.slice Y y.2.length cy) := (blk_cell X5.out 1).trans rfl
  have B2 := Aside0.mk (below_alloc (Below.refl W1.heap.size W1) (.cells #[.int .i64 x.1, .slice X x.2.length cx, .int .i64 y.1, .slice Y y.2.length cy] 35))
  have HK := Aside0.mk (ask_calls A c W1.heap.size l x y X Y cx cy (W1.alloc (.cells #[.int .i64 x.1, .slice X x.2.length cx, .int .i64 y.1, .slice Y y.2.length cy] 35)) (Kd.C_below HR.out (below_step B1.out B2.out)) (blk_new W1 _) HC.out.1 HC.out.2 (Kd.C_below HX.out (below_step B1.out B2.out)) (Kd.C_below HY.out (below_step B1.out B2.out)))
  by_cases hask : askF l x y = 0
  · have HAK := Aside0.mk hask
    have HOK := Aside0.mk (ask_ok hask)
    rw [hask] at HK
    clear hask
    go_upto_region 4 with (go_at_call 47; refine HK.out.mono ?_; rintro e w3 ⟨rfl, hb3⟩; have B3 := Aside0.mk (below_step B2.out hb3); clear hb3)
    have BW3 := Aside0.mk (below_step B1.out B3.out)
    have q40 : w3.cell? ⟨b4, 0, none⟩ = some (.int .i64 x.1) := pw_cell_below B3.out p40
    have q41 : w3.cell? ⟨b4, 1, none⟩ = some (.slice X x.2.length cx) := pw_cell_below B3.out p41
    have q50 : w3.cell? ⟨b5, 0, none⟩ = some (.int .i64 y.1) := pw_cell_below B3.out p50
    have q51 : w3.cell? ⟨b5, 1, none⟩ = some (.slice Y y.2.length cy) := pw_cell_below B3.out p51
    have HF := Aside0.mk (found_calls E E1.out E2.out w3 A c l (Kd.C_below HR.out BW3.out) HOK.out.1 y.1 Y cy y.2 (Kd.C_below HY.out BW3.out) HOK.out.2.2.1.2.2 HOK.out.2.2.2 HOK.out.2.2.1.2.1)
    clear p40 p41 p50 p51 HK B2 X4 X5 B1
    go_upto_region 5 with (go_at_call 48; refine HF.out.mono ?_; rintro e w4 ⟨b, bm, ws, rfl, hS, hSL, hLE, hB4⟩; have S4 := Aside0.mk hS; have SL := Aside0.mk hSL; have LE := Aside0.mk hLE; have B4 := Aside0.mk hB4; clear hS hSL hLE hB4)
    have BW4 := Aside0.mk (below_step BW3.out B4.out)
    have r40 : w4.cell? ⟨b4, 0, none⟩ = some (.int .i64 x.1) := pw_cell_below B4.out q40
    have r41 : w4.cell? ⟨b4, 1, none⟩ = some (.slice X x.2.length cx) := pw_cell_below B4.out q41
    have HW := Aside0.mk (ways_calls E E1.out E2.out w4 b bm y.1 Y y.2.length cy l.length ws S4.out SL.out.ok HOK.out.2.2.2 HOK.out.2.2.1.2.1 x.1 HOK.out.2.1.2.1 X cx x.2 (Kd.C_below HX.out BW4.out) HOK.out.2.1.2.2 (by have := HOK.out.2.1.1; omega))
    clear q40 q41 q50 q51 HF
    go_wp2_with (go_at_call 49; refine HW.out.mono ?_; rintro e w5 ⟨Al, cl, lw, rfl, hlc, hC, hWL, hB5⟩; have LC := Aside0.mk hC; have WL := Aside0.mk hWL; have B5 := Aside0.mk hB5; have HLW := Aside0.mk hC.2.1; clear hlc hC hWL hB5)
    have BW5 := Aside0.mk (below_step BW4.out B5.out)
    have S5 := Aside0.mk (S4.out.below B5.out)
    clear r40 r41 HW S4 BW4 B5 BW3 B4 B3
    have hbigw : lw.length ≤ 9223372036854775807 := HLW.out
    go_loopg [6, 33] lw.length (fun gg s6 s33 wr => ∃ (i : Nat), i ≤ lw.length ∧ lw.length - i ≤ gg ∧ s6 = .slice none 0 0 ∧ s33 = .int .i64 (i : Int) ∧ Aside0 (∀ v ∈ lw.take i, v.to_ ≠ ((y.2.length + 3 : Nat) : Int)) ∧ Aside0 (Below w5.heap.size w5 wr))
    case atStart => exact ⟨0, Nat.zero_le _, by omega, rfl, rfl, ⟨fun v hv => by simp at hv⟩, ⟨Below.refl _ _⟩⟩
    case round =>
      obtain ⟨i, hi, hgg, rfl, rfl, NL, BR⟩ := hrel
      by_cases hlt : i < lw.length
      · have hltz : (i : Int) < (lw.length : Int) := by omega
        obtain ⟨ad2, A2, c2, es, hvc, hvo, y0, y1, y2⟩ := wy_get LC.out rfl hlt
        have z0 := pw_cell_below BR.out y0
        have z1 := pw_cell_below BR.out y1
        have z2 := pw_cell_below BR.out y2
        clear y0 y1 y2
        have HG := Aside0.mk (WL.out.good lw[i] (List.getElem_mem hlt))
        obtain ⟨v, hv⟩ : ∃ v, v = lw[i] := ⟨_, rfl⟩
        rw [← hv] at hvc hvo z0 z1 z2 HG
        have HVJ := Aside0.mk hv
        have HVO := Aside0.mk (And.intro hvc (Kd.C_below hvo BR.out))
        have HVO5 := Aside0.mk hvo
        clear hv hvc hvo
        cases es
        have B12 := Aside0.mk (below_alloc (Below.refl wr.heap.size wr) (.cells #[.int .i64 v.to_, .int .i64 v.cost, .slice A2 v.over.length c2] 137))
        have X12 := Aside0.mk (blk_new wr (.cells #[.int .i64 v.to_, .int .i64 v.cost, .slice A2 v.over.length c2] 137 (0, 0)))
        go_upto_region 8 with fail
        clear z0 z1 z2
        obtain ⟨b12, hb12⟩ : ∃ b12, b12 = wr.heap.size := ⟨_, rfl⟩
        rw [← hb12] at X12 ⊢
        generalize wr.alloc (.cells #[.int .i64 v.to_, .int .i64 v.cost, .slice A2 v.over.length c2] 137) = W12 at B12 X12 ⊢
        clear hb12
        have BR12 := Aside0.mk (below_step BR.out B12.out)
        have HVO12 := Aside0.mk (And.intro HVO.out.1 (Kd.C_below HVO.out.2 B12.out))
        clear BR B12 HVO
        have q0 : W12.cell? ⟨b12, 0, none⟩ = some (.int .i64 v.to_) := (blk_cell X12.out 0).trans rfl
        have HLST := Aside0.mk (fun (W' : World) (hb : Below W12.heap.size W12 W') => lst_calls b y.2.length cy y.1 Y (.map (some bm)) W' (S5.out.below (below_step BR12.out hb)).s (by have := HOK.out.2.2.2; omega))
        have HMS := Aside0.mk (show (fun W' => W'.cell? ⟨b12, 0, none⟩ = some (.int .i64 v.to_)) W12.drew from q0)
        refine wp_region_held_drew (S := (fun W' => W'.cell? ⟨b12, 0, none⟩ = some (.int .i64 v.to_))) (by kernel_rfl) ?_ (fun hHeld => ?_)
        · (try dsimp only); exact HMS.out
        refine wpAnyH_take (i := 0) (v := ?_) rfl (by kernel_rfl) (by kernel_rfl) (by kernel_rfl) (fun _ _ _ h => h) (Or.inl ⟨by kernel_rfl, ?_⟩) (by assumption) ?_
        rotate_left 1
        · intro w hSw; (try dsimp only at hSw); go_simp; (try with_reducible rfl)
        (try simp only [Act.put, List.getElem_toArray, List.getElem_cons_zero, List.getElem_cons_succ, List.setIfInBounds_toArray, List.set_cons_zero, List.set_cons_succ])
        refine wpAnyH_take (i := 1) (v := ?_) rfl (by kernel_rfl) (by kernel_rfl) (by kernel_rfl) (fun _ _ _ h => h) (Or.inl ⟨by kernel_rfl, ?_⟩) (by assumption) ?_
        rotate_left 1
        · intro w hSw; (try dsimp only at hSw); go_simp; (try with_reducible rfl)
        (try simp only [Act.put, List.getElem_toArray, List.getElem_cons_zero, List.getElem_cons_succ, List.setIfInBounds_toArray, List.set_cons_zero, List.set_cons_succ])
        refine wpAnyH_take (i := 2) (v := ?_) rfl (by kernel_rfl) (by kernel_rfl) (by kernel_rfl) (fun _ _ _ h => h) (Or.inl ⟨by kernel_rfl, ?_⟩) (by assumption) ?_
        rotate_left 1
        · intro w hSw; (try dsimp only at hSw); go_simp; (try with_reducible rfl)
        (try simp only [Act.put, List.getElem_toArray, List.getElem_cons_zero, List.getElem_cons_succ, List.setIfInBounds_toArray, List.set_cons_zero, List.set_cons_succ])
        refine wpAnyH_ready (rs := [3]) (by kernel_rfl) (by simp) ?_
        refine AllReadyH.cons rfl (fun K hK => ?_) AllReadyH.nil
        rw [if_pos (by kernel_rfl)]
        go_simp
        (go_at_call 50; refine (HLST.out _ (below_drew1 (Below.refl _ _))).mono ?_; rintro e w4 ⟨rfl, rfl⟩)
        (try go_simp)
        refine hK.out _ _ ?_ (fun hHeld => ?_)
        · (try dsimp only); exact HMS.out
        clear hK K
        (try simp only [Act.put, List.getElem_toArray, List.getElem_cons_zero, List.getElem_cons_succ, List.setIfInBounds_toArray, List.set_cons_zero, List.set_cons_succ])
        refine wpAnyH_take (i := 4) (v := ?_) rfl (by kernel_rfl) (by kernel_rfl) (by kernel_rfl) (fun _ _ _ h => h) (Or.inl ⟨by kernel_rfl, ?_⟩) (by assumption) ?_
        rotate_left 1
        · intro w hSw; (try dsimp only at hSw); go_simp; (try with_reducible rfl)
        (try simp only [Act.put, List.getElem_toArray, List.getElem_cons_zero, List.getElem_cons_succ, List.setIfInBounds_toArray, List.set_cons_zero, List.set_cons_succ])
        refine wpAnyH_done (by kernel_rfl) ?_ _
        have BRd := Aside0.mk (below_step BR12.out (below_drew1 (Below.refl W12.heap.size W12)))
        have X12d := Aside0.mk (show W12.drew.heap[b12]? = _ from X12.out)
        have HVOd := Aside0.mk (And.intro HVO12.out.1 (Kd.C_below HVO12.out.2 (below_drew1 (Below.refl W12.heap.size W12))))
        clear BR12 X12 HVO12 HMS HLST q0
        generalize W12.drew = W13 at BRd X12d HVOd ⊢
        have q1 : W13.cell? ⟨b12, 1, none⟩ = some (.int .i64 v.cost) := (blk_cell X12d.out 1).trans rfl
        have q2 : W13.cell? ⟨b12, 2, none⟩ = some (.slice A2 v.over.length c2) := (blk_cell X12d.out 2).trans rfl
        by_cases hto : v.to_ = ((y.2.length + 3 : Nat) : Int)
        · have h1 : (v.to_ != ((y.2.length + 3 : Nat) : Int)) = false := by rw [hto]; exact bne_self_eq_false _
          by_cases hco : v.cost > 2000
          · --< full
            have HNO := Aside0.mk (show (∀ r ∈ l, r.pt = []) → False from fun hp => by
              have h2 := sum_cheap SL.out.cheap hp v.over HG.out.2.over
              have h3 := HG.out.2.up
              have h4 := HG.out.2.len
              have h5 := HOK.out.2.1.1
              omega)
            go_wp2_with fail
            go_ret3
            exact ⟨_, _, _, rfl, (fun h => by cases h), fun _ hp => (HNO.out hp).elim, below_step BW5.out BRd.out⟩
            --> full
          · have HCO := Aside0.mk (show v.cost ≤ 2000 ∧ sumC ws v.over ≤ 2000 from by
              have h3 := HG.out.2.sum
              have h4 : min endC (sumC ws v.over) ≤ 2000 := by omega
              have h5 : ¬ endC ≤ 2000 := by decide
              omega)
            have HCAN := Aside0.mk (show CanL l x y true from ⟨ws, LE.out, fun _ => by have := HG.out.1; rw [hto] at this; exact this, fun _ => rfl⟩)
            clear hto
            have hbigv : v.over.length ≤ 9223372036854775807 := HVOd.out.2.2.1
            go_wp2_with fail
            go_loopg [6, 48] v.over.length (fun gg s6 s48 wr => ∃ (j : Nat) (out : List Int) (v' : Value), v' = s6 ∧ j ≤ v.over.length ∧ v.over.length - j ≤ gg ∧ s48 = .int .i64 (j : Int) ∧ Aside0 ((out.length : Int) ≤ sumC ws (v.over.take j)) ∧ Aside0 (Kd.R (Kd.int .i64) 3 wr w5.heap.size (fun _ => True) v' out) ∧ Aside0 (Below w5.heap.size w5 wr))
            case atStart => exact ⟨0, [], _, rfl, Nat.zero_le _, by omega, rfl, ⟨by simp [sumC]⟩, ⟨Kd.R_nil _ _ _ _ _⟩, BRd⟩
            case round =>
              obtain ⟨j, out, v', rfl, hj, hgj, rfl, LL, OO, BB⟩ := hrel
              by_cases hjl : j < v.over.length
              · --< told
                have hjlz : (j : Int) < (v.over.length : Int) := by omega
                obtain ⟨ad, e0, y0, y1, y2⟩ := ek_get (Kd.C_below HVO5.out BB.out) rfl hjl
                have HSM := Aside0.mk (show sumC ws (v.over.take (j + 1)) = sumC ws (v.over.take j) + costOf ws v.over[j] from by
                  rw [List.take_succ_eq_append_getElem hjl, sumC_app]; simp [sumC])
                have HTL := Aside0.mk (show sumC ws (v.over.take (j + 1)) ≤ sumC ws v.over from by
                  have := sumC_app ws (v.over.take (j + 1)) (v.over.drop (j + 1))
                  rw [List.take_append_drop] at this
                  have := sumC_nonneg SL.out.ok (v.over.drop (j + 1))
                  omega)
                have HTN := Aside0.mk (sumC_nonneg SL.out.ok (v.over.take j))
                obtain ⟨ky, hky⟩ := Option.isSome_iff_exists.1 (HG.out.2.over v.over[j] (List.getElem_mem hjl))
                have HCY := Aside0.mk (show costOf ws v.over[j] = ky.cost from by unfold costOf; rw [hky]; rfl)
                have HCN := Aside0.mk (SL.out.ok.cost _ _ hky).1
                have HKY := Aside0.mk hky
                clear hky
                generalize v.over[j] = q at y0 y1 y2 HSM HCY HKY
                have BA := Aside0.mk (below_alloc (Below.refl wr.heap.size wr) (.cells #[.int .i64 q.1, .int .i64 q.2.1, .int .i64 q.2.2] 140))
                have HCALL := Aside0.mk (told_calls E E1.out E2.out w5 b bm y.1 Y y.2.length cy (y.2.length + 4) l.length ws S5.out SL.out.ok (by have := HOK.out.2.2.2; omega) 2000 (Nat.le_refl _) q ky _ v' out HKY.out (by have := HCO.out; have := HTL.out; have := HTN.out; have := HSM.out; have := HCY.out; omega) (below_step BB.out BA.out) (Kd.R_below OO.out BA.out) (by have := LL.out; have := HCO.out; have := HTL.out; have := HTN.out; have := HSM.out; have := HCY.out; have := HCN.out; omega))
                cases e0
                have x0 := pw_cell_below BA.out y0
                go_wp2_with (go_at_call 51; refine HCALL.out.mono ?_; rintro e' w6 ⟨v6, out6, rfl, hl6, ho6, hb6⟩; have L6 := Aside0.mk hl6; have O6 := Aside0.mk ho6; have B6 := Aside0.mk hb6; clear hl6 ho6 hb6)
                go_roundg (v.over.length - (j + 1))
                case measure => omega
                case rel => exact ⟨j + 1, out6, _, rfl, by omega, by omega, by go_num, ⟨by have := L6.out; have := LL.out; have := HSM.out; have := HCY.out; omega⟩, O6, B6⟩
                --> told
              · --< yes
                have hje : j = v.over.length := by omega
                subst hje
                go_wp2_with fail
                go_ret3
                exact ⟨_, _, _, rfl, fun _ => ⟨HAK.out, HCAN.out⟩, fun _ _ => rfl, below_step BW5.out BB.out⟩
                --> yes
        · --< next
          have h1 : (v.to_ != ((y.2.length + 3 : Nat) : Int)) = true := bne_iff_ne.2 hto
          have NL2 := Aside0.mk (show ∀ u ∈ lw.take (i + 1), u.to_ ≠ ((y.2.length + 3 : Nat) : Int) from fun u hu => by
            rw [List.take_succ_eq_append_getElem hlt] at hu
            rcases List.mem_append.1 hu with hu | hu
            · exact NL.out u hu
            · obtain rfl := List.mem_singleton.1 hu
              rw [← HVJ.out]; exact hto)
          clear hto
          go_wp2_with fail
          go_roundg (lw.length - (i + 1))
          case measure => omega
          case rel => exact ⟨i + 1, by omega, by omega, rfl, by go_num, NL2, BRd⟩
          --> next
      · --< none
        have hie : i = lw.length := by omega
        subst hie
        have HCAN := Aside0.mk (show CanL l x y false from ⟨ws, LE.out, (fun h => by cases h), fun h => by
          obtain ⟨v, hv, he⟩ := WL.out.full _ h
          exact absurd he (NL.out v (by rw [List.take_length]; exact hv))⟩)
        go_wp2_with fail
        go_ret3
        exact ⟨_, _, _, rfl, fun _ => ⟨HAK.out, HCAN.out⟩, fun _ _ => rfl, below_step BW5.out BR.out⟩
        --> none
  · --< bad
    have h1 : (askF l x y != 0) = true := by simpa using hask
    have HNZ := Aside0.mk hask
    clear hask
    go_wp2_with (go_at_call 47; refine HK.out.mono ?_; rintro e w3 ⟨rfl, hb3⟩; have B3 := Aside0.mk (below_step B2.out hb3); clear hb3)
    go_ret3
    exact ⟨_, _, _, rfl, fun h => absurd h HNZ.out, fun h => absurd h HNZ.out, below_step B1.out B3.out⟩
    --> bad
end Go.Proofs.Ytampgoendkjkhaa.H

namespace Go.Proofs.Ytampgoendkjkhaa.H
open Go.RowKit Go.Maps Go.Shelf Go.Proofs.YtampgoendkjkhaaW.PrintWords Go.Proofs.YtampgoendkjkhaaW.PrintMore
set_option linter.unusedVariables false
set_option linter.unusedSimpArgs false
/-- the example: one rule, from a stack of one to none -/
theorem can_tiny {can : Bool} (h : CanL [⟨0, 0, 1, []⟩] (0, [0]) (1, []) can) : can = true := by
  obtain ⟨ws, h1, h2⟩ := h
  exact h2.2 (stack_tiny h1)
/-- the rule ahead of a way is a way -/
theorem can_step {l : List Psh} {r : Psh} (hr : r ∈ l) {t : List Int} {y : Cfg} {a b : Bool} (ha : CanL l (r.fr, r.tp :: t) y a) (hb : CanL l (r.tw, r.pt ++ t) y b) (h : b = true) : a = true := by
  obtain ⟨ws, h1, h2⟩ := ha
  obtain ⟨ws', h3, h4⟩ := hb
  exact h2.2 (found_law h3 h1 hr t (h4.1 h))
theorem lit_pu1 {W : World} {b : Nat} {x y z : Int} (h : W.heap[b]? = some (.cells #[.int .i64 x, .int .i64 y, .int .i64 z, .slice none 0 0] 37 (0, 0))) : Kd.C kPu W (some ⟨b, 0, none⟩) 1 [⟨x, y, z, []⟩] := by
  refine ⟨rfl, by decide, fun _ => ⟨_, rfl, fun j p hj => ?_⟩⟩
  match j, hj with
  | 0, hj =>
    obtain rfl : (⟨x, y, z, []⟩ : Psh) = p := by simpa using hj
    refine ⟨[.int .i64 x, .int .i64 y, .int .i64 z, .slice none 0 0], rfl, ⟨none, 0, rfl, Nat.le_refl _, Kd.C_nil _ _⟩, fun i u hu => ?_⟩
    match i, hu with
    | 0, hu =>
      obtain rfl : Value.int .i64 x = u := by simpa using hu
      simpa [Addr.add] using blk_cell h 0
    | 1, hu =>
      obtain rfl : Value.int .i64 y = u := by simpa using hu
      simpa [Addr.add, kPu] using blk_cell h 1
    | 2, hu =>
      obtain rfl : Value.int .i64 z = u := by simpa using hu
      simpa [Addr.add, kPu] using blk_cell h 2
    | 3, hu =>
      obtain rfl : Value.slice none 0 0 = u := by simpa using hu
      simpa [Addr.add, kPu] using blk_cell h 3
set_option maxRecDepth 100000 in
theorem step_any (l : List Psh) (x : Cfg) (rule : Int) : (∀ (A : Option Addr) (c : Nat) (X : Option Addr) (cx : Nat) (W : World), Kd.C kPu W A l.length l → (x.2.length ≤ cx ∧ Kd.C (Kd.int .i64) W X x.2.length x.2) → Calls Try.prog 17 #[.slice A l.length c, .agg #[.int .i64 x.1, .slice X x.2.length cx], .int .i64 rule] W fun e w' => ∃ code : Int, code ≠ 0 ∧ e = .returned (.tuple #[.agg #[.int .i64 0, .slice none 0 0], .int .i64 code]) ∧ Below W.heap.size W w') ∨
    (∃ (j : Nat) (r : Psh) (t : List Int), rule = (j : Int) ∧ l[j]? = some r ∧ x.1 = r.fr ∧ x.2 = r.tp :: t ∧ ckdF l [x] = 0) := by
  by_cases h0 : ckdF l [x] = 0
  · by_cases hb : rule < 0 ∨ (l.length : Int) ≤ rule
    · exact .inl fun A c X cx W hr hx => step_bad A c l x X cx rule W hr hx (.inr ⟨h0, hb⟩)
    · obtain ⟨j, rfl⟩ : ∃ j : Nat, rule = (j : Int) := ⟨rule.toNat, by omega⟩
      have hj : j < l.length := by omega
      have hg : l[j]? = some l[j] := List.getElem?_eq_getElem hj
      generalize l[j] = r at hg
      by_cases h1 : x.1 = r.fr
      · by_cases h2 : x.2.head? = some r.tp
        · obtain ⟨t, ht⟩ := List.head?_eq_some_iff.1 h2
          exact .inr ⟨j, r, t, rfl, hg, h1, ht, h0⟩
        · exact .inl fun A c X cx W hr hx => step_off A c l x X cx j r W hr hx h0 hg (.inr h2)
      · exact .inl fun A c X cx W hr hx => step_off A c l x X cx j r W hr hx h0 hg (.inl h1)
  · exact .inl fun A c X cx W hr hx => step_bad A c l x X cx rule W hr hx (.inl h0)
set_option maxHeartbeats 8000000 in
set_option maxRecDepth 100000 in
theorem sg_calls (w : World) (A : Option Addr) (c : Nat) (l : List Psh) (hr : Kd.C kPu w A l.length l) (x y : Cfg) (rule : Int) (X Y : Option Addr) (cx cy : Nat) (g0 : x.2.length ≤ cx) (g1 : y.2.length ≤ cy) (h0 : Kd.C (Kd.int .i64) w X x.2.length x.2) (h1 : Kd.C (Kd.int .i64) w Y y.2.length y.2) :
    Calls Try.prog 4 #[.slice A l.length c, .agg #[.int .i64 x.1, .slice X x.2.length cx], .int .i64 rule, .agg #[.int .i64 y.1, .slice Y y.2.length cy]] w fun e w' => e = .returned (.bool true) ∧ Below w.heap.size w w' := by
  have HR := Aside0.mk hr
  have HX := Aside0.mk h0
  have HY := Aside0.mk h1
  have HC := Aside0.mk (And.intro g0 g1)
  have tok1 : True := trivial
  clear hr h0 h1 g0 g1
  go_enter Try.func4, Try.ntmps4
  go_upto_region 1 with fail
  have B1 := Aside0.mk (show Below w.heap.size w ((w.alloc (.cells #[.int .i64 x.1, .slice X x.2.length cx] 35)).alloc (.cells #[.int .i64 y.1, .slice Y y.2.length cy] 35)) from below_alloc (below_alloc (Below.refl _ _) _) _)
  have X5 := Aside0.mk (show ((w.alloc (.cells #[.int .i64 x.1, .slice X x.2.length cx] 35)).alloc (.cells #[.int .i64 y.1, .slice Y y.2.length cy] 35)).heap[w.heap.size]? = some (.cells #[.int .i64 x.1, .slice X x.2.length cx] 35 (0, 0)) from blk_below (blk_new w _) (below_alloc (Below.refl _ _) _))
  have X7 := Aside0.mk (show ((w.alloc (.cells #[.int .i64 x.1, .slice X x.2.length cx] 35)).alloc (.cells #[.int .i64 y.1, .slice Y y.2.length cy] 35)).heap[w.heap.size + 1]? = some (.cells #[.int .i64 y.1, .slice Y y.2.length cy] 35 (0, 0)) from blk_newn _ _ _ (by simp))
  generalize ((w.alloc (.cells #[.int .i64 x.1, .slice X x.2.length cx] 35)).alloc (.cells #[.int .i64 y.1, .slice Y y.2.length cy] 35)) = W1 at B1 X5 X7 ⊢
  obtain ⟨b7, hb7⟩ : ∃ b7, b7 = w.heap.size + 1 := ⟨_, rfl⟩
  obtain ⟨b5, hb5⟩ : ∃ b5, b5 = w.heap.size := ⟨_, rfl⟩
  rw [← hb7] at X7 ⊢
  replace X5 : Aside0 (W1.heap[b5]? = some (.cells #[.int .i64 x.1, .slice X x.2.length cx] 35 (0, 0))) := ⟨by rw [hb5]; exact X5.out⟩
  rw [← hb5]
  clear hb5 hb7
  have B3 := Aside0.mk (show Below W1.heap.size W1 ((W1.alloc (.cells #[.int .i64 0, .int .i64 0, .int .i64 1, .slice none 0 0] 37)).alloc (.cells #[.int .i64 0] 3)) from below_alloc (below_alloc (Below.refl _ _) _) _)
  have H1 := Aside0.mk (show Calls Try.prog 16 #[.slice (some ⟨W1.heap.size, 0, none⟩) 1 1, .agg #[.int .i64 0, .slice (some ⟨W1.heap.size + 1, 0, none⟩) 1 1], .agg #[.int .i64 1, .slice none 0 0]] ((W1.alloc (.cells #[.int .i64 0, .int .i64 0, .int .i64 1, .slice none 0 0] 37)).alloc (.cells #[.int .i64 0] 3)) (WayPost ((W1.alloc (.cells #[.int .i64 0, .int .i64 0, .int .i64 1, .slice none 0 0] 37)).alloc (.cells #[.int .i64 0] 3)) [⟨0, 0, 1, []⟩] (0, [0]) (1, [])) from
    way_calls _ (some ⟨W1.heap.size, 0, none⟩) 1 [⟨0, 0, 1, []⟩] (lit_pu1 (blk_below (blk_new W1 _) (below_alloc (Below.refl _ _) _))) (0, [0]) (1, []) (some ⟨W1.heap.size + 1, 0, none⟩) none 1 0 (Nat.le_refl _) (Nat.le_refl _) (lit_C (by go_simp)) (Kd.C_nil _ _))
  have HTI := Aside0.mk (show askF [⟨0, 0, 1, []⟩] (0, [0]) (1, []) = 0 from by decide)
  go_upto_region 3 with (first
    | (have _t := tok1
       go_at_call 16
       refine H1.out.mono ?_
       rintro e w4 ⟨v4, can4, er4, rfl, hcan, her, hb4⟩
       obtain rfl := her HTI.out (fun r hr => by obtain rfl := List.mem_singleton.1 hr; rfl)
       obtain rfl := can_tiny (hcan rfl).2
       have B4 := Aside0.mk (below_step B3.out hb4)
       clear hcan her hb4 tok1)
    | fail)
  have BW4 := Aside0.mk (below_step B1.out B4.out)
  have X54 := Aside0.mk (blk_below X5.out B4.out)
  have X74 := Aside0.mk (blk_below X7.out B4.out)
  clear H1 HTI B3 B1 X5 X7 B4
  go_upto_region 5 with fail
  have q50 : w4.cell? ⟨b5, 0, none⟩ = some (.int .i64 x.1) := (blk_cell X54.out 0).trans rfl
  have q51 : w4.cell? ⟨b5, 1, none⟩ = some (.slice X x.2.length cx) := (blk_cell X54.out 1).trans rfl
  rcases step_any l x rule with hst | ⟨j, r, t, rfl, hj, hx1, hx2, hck⟩
  · have H2 := Aside0.mk (hst A c X cx w4 (Kd.C_below HR.out BW4.out) ⟨HC.out.1, Kd.C_below HX.out BW4.out⟩)
    clear hst
    go_upto_region 6 with (first
      | (go_at_call 17
         refine H2.out.mono ?_
         rintro e w5 ⟨code, hcode, rfl, hb5⟩
         have hcd : (code != 0) = true := bne_iff_ne.2 hcode
         have B5 := Aside0.mk (below_step BW4.out hb5)
         clear hcode hb5)
      | fail)
    go_wp2_with fail
    go_ret
    exact ⟨rfl, by repeat (first | exact B5.out | apply below_drew1 | apply below_alloc)⟩
  · obtain ⟨u, hu⟩ : ∃ u, u = r.pt ++ t := ⟨_, rfl⟩
    have h2 := step_ok A c l x X cx j r t w4 (Kd.C_below HR.out BW4.out) ⟨HC.out.1, Kd.C_below HX.out BW4.out⟩ hck hj hx1 hx2
    rw [← hu] at h2
    have H2 := Aside0.mk h2
    have HRL := Aside0.mk (List.mem_of_getElem? hj)
    have HXE := Aside0.mk (show x = (r.fr, r.tp :: t) from Prod.ext hx1 hx2)
    have HU := Aside0.mk hu
    have HCK := Aside0.mk hck
    clear hck hj h2 hu hx1 hx2
    go_upto_region 6 with (first
      | (go_at_call 17
         refine H2.out.mono ?_
         rintro e w5 ⟨A5, c5, rfl, hc5, hC5, hb5⟩
         have C5 := Aside0.mk (And.intro hc5 hC5)
         have B5 := Aside0.mk hb5
         clear hc5 hC5 hb5)
      | fail)
    clear q50 q51 H2
    have B6 := Aside0.mk (below_step B5.out (below_alloc (Below.refl w5.heap.size w5) (.cells #[.int .i64 r.tw, .slice A5 u.length c5] 35)))
    have X13 := Aside0.mk (blk_new w5 (.cells #[.int .i64 r.tw, .slice A5 u.length c5] 35 (0, 0)))
    have C6 := Aside0.mk (Kd.C_below C5.out.2 (below_alloc (Below.refl w5.heap.size w5) (.cells #[.int .i64 r.tw, .slice A5 u.length c5] 35)))
    obtain ⟨b13, hb13⟩ : ∃ b13, b13 = w5.heap.size := ⟨_, rfl⟩
    rw [← hb13] at X13 ⊢
    generalize w5.alloc (.cells #[.int .i64 r.tw, .slice A5 u.length c5] 35) = W6 at B6 X13 C6 ⊢
    clear hb13 B5
    have BW6 := Aside0.mk (below_step BW4.out B6.out)
    have X56 := Aside0.mk (blk_below X54.out B6.out)
    have X76 := Aside0.mk (blk_below X74.out B6.out)
    clear X54 X74 B6
    have q131 : W6.cell? ⟨b13, 1, none⟩ = some (.slice A5 u.length c5) := (blk_cell X13.out 1).trans rfl
    by_cases h20 : (u.length : Int) > 20
    · go_wp2_with fail
      go_ret
      exact ⟨rfl, BW6.out⟩
    · have q50 : W6.cell? ⟨b5, 0, none⟩ = some (.int .i64 x.1) := (blk_cell X56.out 0).trans rfl
      have q51 : W6.cell? ⟨b5, 1, none⟩ = some (.slice X x.2.length cx) := (blk_cell X56.out 1).trans rfl
      have q70 : W6.cell? ⟨b7, 0, none⟩ = some (.int .i64 y.1) := (blk_cell X76.out 0).trans rfl
      have q71 : W6.cell? ⟨b7, 1, none⟩ = some (.slice Y y.2.length cy) := (blk_cell X76.out 1).trans rfl
      have H3 := Aside0.mk (way_calls W6 A c l (Kd.C_below HR.out BW6.out) x y X Y cx cy HC.out.1 HC.out.2 (Kd.C_below HX.out BW6.out) (Kd.C_below HY.out BW6.out))
      go_upto_region 9 with (first
        | (go_at_call 16
           refine H3.out.mono ?_
           rintro e w7 ⟨v7, can7, er7, rfl, hcan7, _, hb7⟩
           have HC7 := Aside0.mk hcan7
           have B7 := Aside0.mk hb7
           clear hcan7 hb7 q50 q51 q70 q71 q131)
        | fail)
      have BW7 := Aside0.mk (below_step BW6.out B7.out)
      have q70 : w7.cell? ⟨b7, 0, none⟩ = some (.int .i64 y.1) := (blk_cell (blk_below X76.out B7.out) 0).trans rfl
      have q71 : w7.cell? ⟨b7, 1, none⟩ = some (.slice Y y.2.length cy) := (blk_cell (blk_below X76.out B7.out) 1).trans rfl
      have q130 : w7.cell? ⟨b13, 0, none⟩ = some (.int .i64 r.tw) := (blk_cell (blk_below X13.out B7.out) 0).trans rfl
      have q131 : w7.cell? ⟨b13, 1, none⟩ = some (.slice A5 u.length c5) := (blk_cell (blk_below X13.out B7.out) 1).trans rfl
      have H4 := Aside0.mk (way_calls w7 A c l (Kd.C_below HR.out BW7.out) (r.tw, u) y A5 Y c5 cy C5.out.1 HC.out.2 (Kd.C_below C6.out B7.out) (Kd.C_below HY.out BW7.out))
      clear H3 X56 X76 X13
      go_upto_region 10 with (first
        | (go_at_call 16
           refine H4.out.mono ?_
           rintro e w8 ⟨v8, can8, er8, rfl, hcan8, _, hb8⟩
           have HC8 := Aside0.mk hcan8
           have B8 := Aside0.mk (below_step BW7.out hb8)
           clear hcan8 hb8 q70 q71 q130 q131)
        | fail)
      by_cases h7 : er7 = 0
      · by_cases h8 : er8 = 0
        · have HCC := Aside0.mk (show can8 = true → can7 = true from fun h => by
            have h1 := (HC7.out h7).2
            have h2 := (HC8.out h8).2
            rw [HXE.out] at h1
            rw [HU.out] at h2
            exact can_step HRL.out h1 h2 h)
          subst h7 h8
          cases can8 with
          | false =>
            go_wp2_with fail
            go_ret
            exact ⟨rfl, B8.out⟩
          | true =>
            obtain rfl := HCC.out rfl
            go_wp2_with fail
            go_ret
            exact ⟨rfl, B8.out⟩
        · have e8 : (er8 != 0) = true := bne_iff_ne.2 h8
          subst h7
          go_wp2_with fail
          go_ret
          exact ⟨rfl, B8.out⟩
      · have e7 : (er7 != 0) = true := bne_iff_ne.2 h7
        go_wp2_with fail
        go_ret
        exact ⟨rfl, B8.out⟩
end Go.Proofs.Ytampgoendkjkhaa.H

namespace Go.Proofs.Ytampgoendkjkhaa.H
open Go.RowKit Go.Joins Go.ChangeShapes Go.WideShapes Go.Deep Go.Proofs.YtampgoendkjkhaaW.PrintWords
set_option linter.unusedSimpArgs false
set_option linter.unusedVariables false
section
variable {H : Type} {enc : TypeId × Value → H} {w : World} {base : Nat} {spare : Nat → Bool} {held : Bool}
set_option maxRecDepth 100000 in
theorem Ki_pu {fuel : Nat} {cs : List Value} {x : DataW H × List MemPlace} (h : DataW.trod enc Try.prog w base spare held fuel 37 cs = some x) : ∃ a, kPu.K w a cs := by
  obtain ⟨xs, n, _, rfl, hl, hlen, hf⟩ := DataW.trod_struct Try.underlying37 h
  have hC : Try.prog.cellsOf 37 = 4 := by kernel_rfl
  have hI : Try.prog.cellsOf 3 = 1 := by kernel_rfl
  have hS : Try.prog.cellsOf 22 = 1 := by kernel_rfl
  replace hl := hl.trans hC
  match cs, hl with
  | [c0, c1, c2, c3], _ =>
    match xs, hlen with
    | [y0, y1, y2, y3], _ =>
      have h0 : DataW.trod enc Try.prog w base spare held n 3 (([c0, c1, c2, c3].drop 0).take (Try.prog.cellsOf 3)) = some y0 := by simpa using hf 0 _ rfl
      have h1 : DataW.trod enc Try.prog w base spare held n 3 (([c0, c1, c2, c3].drop 1).take (Try.prog.cellsOf 3)) = some y1 := by simpa using hf 1 _ rfl
      have h2 : DataW.trod enc Try.prog w base spare held n 3 (([c0, c1, c2, c3].drop 2).take (Try.prog.cellsOf 3)) = some y2 := by simpa using hf 2 _ rfl
      have h3 : DataW.trod enc Try.prog w base spare held n 22 (([c0, c1, c2, c3].drop 3).take (Try.prog.cellsOf 22)) = some y3 := by simpa using hf 3 _ rfl
      rw [hI] at h0 h1 h2
      rw [hS] at h3
      obtain ⟨n0, e0, _⟩ := K_int Try.underlying3 h0
      obtain ⟨n1, e1, _⟩ := K_int Try.underlying3 h1
      obtain ⟨n2, e2, _⟩ := K_int Try.underlying3 h2
      obtain ⟨l3, A3, d3, e3, g3, r3⟩ := K_slice Try.underlying22 (d := (Kd.int .i64)) (by kernel_rfl) (fun _ _ _ h => Ki_int Try.underlying3 h) h3
      exact ⟨⟨n0, n1, n2, l3⟩, A3, d3, by rw [e0, e1, e2, e3], g3, r3⟩
end
end Go.Proofs.Ytampgoendkjkhaa.H
