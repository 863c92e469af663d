/- Slices of the call's own, level by level: own blocks from a base on, below a bound. -/
import Derived.Test.YtampgoendkjkhaaGet
namespace Go.Proofs.Ytampgoendkjkhaa.H
open Go.RowKit Go.Shelf Go.Proofs.YtampgoendkjkhaaW.PrintWords
set_option linter.unusedVariables false
set_option linter.unusedSimpArgs false
/-- v is a slice of the call's own, all of whose blocks lie from b on and below u -/
def Own {α : Type} (d : Kd α) (e b u : Nat) (W : World) (v : Value) (xs : List α) : Prop := Kd.S d e W b (fun k => k < u) v xs ∧ u ≤ W.heap.size
section
variable {α : Type} {d : Kd α} {e b b' u u' : Nat} {W W' : World} {v : Value} {xs : List α}
theorem own_nil (d : Kd α) (e b u : Nat) (W : World) (hu : u ≤ W.heap.size) : Own d e b u W (.slice none 0 0) [] := ⟨Kd.S_nil _ _ _ _ _, hu⟩
theorem Own.below (h : Own d e b u W v xs) (hb : Below W.heap.size W W') : Own d e b u W' v xs := ⟨Kd.S_below h.1 hb, Nat.le_trans h.2 hb.size⟩
theorem Own.below' {B : Nat} (h : Own d e b u W v xs) (hb : Below B W W') (hu : u ≤ B) : Own d e b u W' v xs := ⟨Kd.S_step h.1 (fun k hk _ => hb.block k (Nat.lt_of_lt_of_le hk hu)), Nat.le_trans h.2 hb.size⟩
theorem Own.lower (h : Own d e b u W v xs) (hb : b' ≤ b) : Own d e b' u W v xs := ⟨Kd.S_lower h.1 hb, h.2⟩
theorem Own.raise (h : Own d e b u W v xs) (hu : u ≤ u') (hw : u' ≤ W.heap.size) : Own d e b u' W v xs := ⟨Kd.S_mono h.1 (fun k hk => Nat.lt_of_lt_of_le hk hu), hw⟩
theorem Own.set (h : Own d e b u W v xs) {p : Addr} (hp : p.block < b ∨ u ≤ p.block) (x : Value) : Own d e b u (W.setCell p x) v xs :=
  ⟨Kd.S_mono (Kd.S_step (Kd.S_bound h.1) (fun k ho _ => Below.heap_setCell W p x k (by have h1 := ho.1; have h2 := ho.2.1; omega))) (fun _ h => h.1), by simpa using h.2⟩
theorem Own.slice (h : Own d e b u W v xs) : ∃ A c, v = .slice A xs.length c := Kd.S_slice h.1
theorem Own.reads {A : Option Addr} {n c : Nat} (h : Own d e b u W (.slice A n c) xs) : n = xs.length ∧ n ≤ c ∧ Kd.C d W A xs.length xs := Kd.S_reads' h.1
theorem Own.at_ (h : Own d e b u W v xs) : ∀ k, v.ownBlock = some k → b ≤ k ∧ k < u := fun k hk => ⟨Kd.S_base h.1 k hk, (Kd.S_R h.1).1 k hk⟩
theorem Own.grown (h : Own d e b u W v xs) {row : Option Nat} (hg : W.grownBy W' row) (hr : ∀ k, row = some k → k < b ∨ u ≤ k) : Own d e b u W' v xs :=
  ⟨Kd.S_mono (Kd.S_step (Kd.S_bound h.1) (fun k ho hl => hg.block k hl (fun e => by have := hr k e.symm; have h1 := ho.1; have h2 := ho.2.1; omega))) (fun _ h => h.1), Nat.le_trans h.2 hg.size⟩
end
theorem info_row {P : Program} {e : TypeId} : (P.info? e).map (fun i => (i.zero, i.size, i.bytes)) = some (some (.slice none 0 0), 1, 24) → (P.info? e).map (fun i => (i.zero, i.size, i.bytes)) = some (some (.slice none 0 0), 1, 24) := id
section
variable {P : Program} {ops : Array Oper} {rest : List Oper} {o : Oper} {a : Act} {Q : Exit → Act → World → Prop} {Kc : Act → World → Prop} {α : Type}
/-- append(v, row) -/
theorem own_push_row (d : Kd α) {w0 W : World} (b u b2 u2 : Nat) (s x : Operand) (t e e' : TypeId) (v vp : Value) (xs : List (List α)) (p : List α) (hgd : o.guard = none)
    (ho : o.op = .call { callee := .builtin .append, args := #[s, x], argTypes := #[t, t] })
    (ht : P.underlying t = some (.slice e)) (hinfo : (P.info? e).map (fun i => (i.zero, i.size, i.bytes)) = some (some (.slice none 0 0), 1, 24))
    (hs : a.eval s = v) (hx : a.eval x = .slice (some ⟨W.heap.size, 0, none⟩) 1 1) (HO : Own (Kd.slice e' d) e b u W v xs) (HP : Own d e' b2 u2 W vp p) (hu : u ≤ b2) (hb : b ≤ b2) (HB : Below b w0 W) (hbW : b ≤ W.heap.size) (hl : xs.length < 1000000)
    (h : ∀ v1 w1, Own (Kd.slice e' d) e b w1.heap.size w1 v1 (xs ++ [p]) → Below b w0 w1 → W.grownBy w1 v.ownBlock → wpList P ops Q rest (a.put o.dst v1) w1) :
    wpList P ops Q (o :: rest) a (W.alloc (.cells #[vp] e)) := by
  refine Kd.S_append (Kd.slice e' d) (w0 := w0) b hgd s x t e (.slice none 0 0) 24 ho ht hinfo rfl (by show 0 < 1; decide) (by decide) v xs p [vp] (fun _ => True) (fun k => b2 ≤ k) hs hx ?_ ?_ (fun _ _ => trivial) ?_ HB hbW (by omega) ?_
  · have h1 := Kd.R_bound (Kd.S_R HP.1)
    exact Kd.M_lower _ hb (Kd.M_row (Kd.R_mono h1 (fun k hk => hk.2.1)))
  · intro k hk
    refine ⟨trivial, fun e => ?_⟩
    have := (HO.at_ k e.symm).2
    omega
  · exact Kd.S_mono HO.1 (fun k hk => ⟨trivial, by omega⟩)
  · intro v1 w1 h1 h2 h3 _
    exact h v1 w1 ⟨Kd.S_mono (Kd.S_bound h1) (fun k hk => hk.2.2.1), Nat.le_refl _⟩ h2 h3
/-- append(v, n) -/
theorem own_push_int {w0 W : World} (b u : Nat) (s x : Operand) (t e : TypeId) (v : Value) (xs : List Int) (p : Int) (hgd : o.guard = none)
    (ho : o.op = .call { callee := .builtin .append, args := #[s, x], argTypes := #[t, t] })
    (ht : P.underlying t = some (.slice e)) (hinfo : (P.info? e).map (fun i => (i.zero, i.size, i.bytes)) = some (some (.int .i64 0), 1, 8))
    (hs : a.eval s = v) (hx : a.eval x = .slice (some ⟨W.heap.size, 0, none⟩) 1 1) (HO : Own (Kd.int .i64) e b u W v xs) (HB : Below b w0 W) (hbW : b ≤ W.heap.size) (hl : xs.length < 1000000)
    (h : ∀ v1 w1, Own (Kd.int .i64) e b w1.heap.size w1 v1 (xs ++ [p]) → Below b w0 w1 → W.grownBy w1 v.ownBlock → wpList P ops Q rest (a.put o.dst v1) w1) :
    wpList P ops Q (o :: rest) a (W.alloc (.cells #[.int .i64 p] e)) := by
  refine Kd.S_append (Kd.int .i64) (w0 := w0) b hgd s x t e (.int .i64 0) 8 ho ht hinfo rfl (by decide) (by decide) v xs p [.int .i64 p] (fun _ => True) (fun _ => False) hs hx rfl (fun _ h => h.elim) (fun _ _ => trivial) (Kd.S_mono HO.1 (fun k hk => ⟨trivial, id⟩)) HB hbW (by omega) ?_
  intro v1 w1 h1 h2 h3 _
  exact h v1 w1 ⟨Kd.S_mono (Kd.S_bound h1) (fun k hk => hk.2.2.1), Nat.le_refl _⟩ h2 h3
end
/-! ### a row of ints and another row, apart -/
structure Two {α : Type} (d : Kd α) (e B u : Nat) (W : World) (v1 : Value) (ms : List Int) (v2 : Value) (xs : List α) (s1 s2 : Nat → Prop) : Prop where
  p : Kd.R (Kd.int .i64) 3 W B s1 v1 ms
  q : Kd.S d e W B s2 v2 xs
  l1 : ∀ k, s1 k → k < u
  l2 : ∀ k, s2 k → k < u
  u : u ≤ W.heap.size
  ne : ∀ k, s1 k → ¬ s2 k
section
variable {α : Type} {d : Kd α} {e B u u' : Nat} {W W' w1 : World} {v1 v2 v' : Value} {ms ms' : List Int} {xs xs' : List α} {s1 s2 : Nat → Prop}
theorem Two.below' {B' : Nat} (h : Two d e B u W v1 ms v2 xs s1 s2) (hb : Below B' W W') (hu : u ≤ B') : Two d e B u W' v1 ms v2 xs s1 s2 where
  p := Kd.R_step h.p (fun k hk _ => hb.block k (Nat.lt_of_lt_of_le (h.l1 k hk) hu))
  q := Kd.S_step h.q (fun k hk _ => hb.block k (Nat.lt_of_lt_of_le (h.l2 k hk) hu))
  l1 := h.l1
  l2 := h.l2
  u := Nat.le_trans h.u hb.size
  ne := h.ne
theorem Two.below (h : Two d e B u W v1 ms v2 xs s1 s2) (hb : Below W.heap.size W W') : Two d e B u W' v1 ms v2 xs s1 s2 := h.below' hb h.u
theorem Two.set (h : Two d e B u W v1 ms v2 xs s1 s2) {a : Addr} (ha : a.block < B) (x : Value) : Two d e B u (W.setCell a x) v1 ms v2 xs s1 s2 where
  p := Kd.R_mono (Kd.R_step (Kd.R_bound h.p) (fun k ho _ => Below.heap_setCell W a x k (by have := ho.2.1; omega))) (fun _ h => h.1)
  q := Kd.S_mono (Kd.S_step (Kd.S_bound h.q) (fun k ho _ => Below.heap_setCell W a x k (by have := ho.2.1; omega))) (fun _ h => h.1)
  l1 := h.l1
  l2 := h.l2
  u := by simpa using h.u
  ne := h.ne
theorem Two.raise (h : Two d e B u W v1 ms v2 xs s1 s2) (hu : u ≤ u') (hw : u' ≤ W.heap.size) : Two d e B u' W v1 ms v2 xs s1 s2 :=
  { h with l1 := fun k hk => Nat.lt_of_lt_of_le (h.l1 k hk) hu, l2 := fun k hk => Nat.lt_of_lt_of_le (h.l2 k hk) hu, u := hw }
theorem Two.app1 (h : Two d e B u W v1 ms v2 xs s1 s2) (hR : Kd.R (Kd.int .i64) 3 w1 B (fun k => s1 k ∨ W.heap.size ≤ k) v' ms') (hg : W.grownBy w1 v1.ownBlock) : Two d e B w1.heap.size w1 v' ms' v2 xs (fun k => (s1 k ∨ W.heap.size ≤ k) ∧ k < w1.heap.size) s2 where
  p := Kd.R_mono (Kd.R_bound hR) (fun k hk => ⟨hk.1, hk.2.2.1⟩)
  q := Kd.S_step h.q (fun k ho hl => hg.block k hl (fun e => h.ne k (h.p.1 k e.symm) ho))
  l1 k hk := hk.2
  l2 k hk := Nat.lt_of_lt_of_le (h.l2 k hk) (Nat.le_trans h.u hg.size)
  u := Nat.le_refl _
  ne k hk h2 := by
    rcases hk.1 with h1 | h1
    · exact h.ne k h1 h2
    · have := h.l2 k h2; have := h.u; omega
end
section
variable {P : Program} {ops : Array Oper} {rest : List Oper} {o : Oper} {a : Act} {Q : Exit → Act → World → Prop} {Kc : Act → World → Prop} {α : Type}
theorem two_push_row (d : Kd α) {w0 W : World} (b u b2 u2 : Nat) (s x : Operand) (t e e' : TypeId) (v1 v vp : Value) (ms : List Int) (xs : List (List α)) (p : List α) (s1 s2 : Nat → Prop) (hgd : o.guard = none)
    (ho : o.op = .call { callee := .builtin .append, args := #[s, x], argTypes := #[t, t] })
    (ht : P.underlying t = some (.slice e)) (hinfo : (P.info? e).map (fun i => (i.zero, i.size, i.bytes)) = some (some (.slice none 0 0), 1, 24))
    (hs : a.eval s = v) (hx : a.eval x = .slice (some ⟨W.heap.size, 0, none⟩) 1 1) (HO : Two (Kd.slice e' d) e b u W v1 ms v xs s1 s2) (HP : Own d e' b2 u2 W vp p) (hu : u ≤ b2) (hb : b ≤ b2) (hb2 : b2 ≤ W.heap.size) (HB : Below b w0 W) (hl : xs.length < 1000000)
    (h : ∀ v' w1, Two (Kd.slice e' d) e b w1.heap.size w1 v1 ms v' (xs ++ [p]) s1 (fun k => (s2 k ∨ b2 ≤ k) ∧ k < w1.heap.size) → Below b w0 w1 → W.grownBy w1 v.ownBlock → wpList P ops Q rest (a.put o.dst v') w1) :
    wpList P ops Q (o :: rest) a (W.alloc (.cells #[vp] e)) := by
  refine Kd.S_append (Kd.slice e' d) (w0 := w0) b hgd s x t e (.slice none 0 0) 24 ho ht hinfo rfl (by show 0 < 1; decide) (by decide) v xs p [vp] (fun k => s2 k ∨ b2 ≤ k) (fun k => b2 ≤ k) hs hx ?_ ?_ (fun k hk => .inr (Nat.le_trans hb2 hk)) ?_ HB (Nat.le_trans hb hb2) (by omega) ?_
  · have h1 := Kd.R_bound (Kd.S_R HP.1)
    exact Kd.M_lower _ hb (Kd.M_row (Kd.R_mono h1 (fun k hk => hk.2.1)))
  · intro k hk
    refine ⟨.inr hk, fun e => ?_⟩
    have := HO.l2 k ((Kd.S_R HO.q).1 k e.symm)
    omega
  · exact Kd.S_mono HO.q (fun k hk => ⟨.inl hk, by have := HO.l2 k hk; omega⟩)
  · intro v' w1 h1 h2 h3 _
    refine h v' w1 ⟨Kd.R_step HO.p (fun k ho hl => h3.block k hl (fun e => HO.ne k ho ((Kd.S_R HO.q).1 k e.symm))), Kd.S_mono (Kd.S_bound h1) (fun k hk => ⟨hk.1, hk.2.2.1⟩), ?_, fun k hk => hk.2, Nat.le_refl _, ?_⟩ h2 h3
    · intro k hk
      have := HO.l1 k hk; have := HO.u; have := h3.size; omega
    · intro k hk h2
      rcases h2.1 with h4 | h4
      · exact HO.ne k hk h4
      · have := HO.l1 k hk; omega
end
end Go.Proofs.Ytampgoendkjkhaa.H
