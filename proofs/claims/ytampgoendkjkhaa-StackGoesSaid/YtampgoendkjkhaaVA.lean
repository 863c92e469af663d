/- What a stack can come to: the walk of the given package, with its plain law. -/
import Derived.Test.YtampgoendkjkhaaWWords
namespace Go.Proofs.Ytampgoendkjkhaa.H
set_option linter.unusedVariables false
set_option linter.unusedSimpArgs false
set_option linter.unusedSectionVars false
structure Psh where
  fr : Int
  tp : Int
  tw : Int
  pt : List Int
section
variable (ge : Bool) (gc last : Int)
/-- where the goal's stack is empty its control has read all -/
def cloS (S : Int → Prop) : Int → Prop := fun q => S q ∨ (ge = true ∧ S gc ∧ q = last)
def stpS (E : Int → Int → Int → Prop) (S : Int → Prop) (a : Int) : Int → Prop := fun q => ∃ p, S p ∧ E p a q
def RS (E : Int → Int → Int → Prop) : (Int → Prop) → List Int → Int → Prop
  | S, [] => S
  | S, a :: w => RS E (cloS ge gc last (stpS E S a)) w
theorem clo_mono {S T : Int → Prop} (h : ∀ q, S q → T q) : ∀ q, cloS ge gc last S q → cloS ge gc last T q := fun q hq =>
  hq.elim (fun a => .inl (h q a)) (fun ⟨a, b, c⟩ => .inr ⟨a, h gc b, c⟩)
theorem RS_mono {E F : Int → Int → Int → Prop} (hE : ∀ p a q, E p a q → F p a q) : ∀ (w : List Int) {S T : Int → Prop}, (∀ q, S q → T q) → ∀ q, RS ge gc last E S w q → RS ge gc last F T w q
  | [], _, _, h, q, hq => h q hq
  | a :: w, _, _, h, q, hq => RS_mono hE w (clo_mono ge gc last fun q ⟨p, hp, he⟩ => ⟨p, h p hp, hE p a q he⟩) q hq
theorem RS_app (E : Int → Int → Int → Prop) : ∀ (u v : List Int) (S : Int → Prop), RS ge gc last E S (u ++ v) = RS ge gc last E (RS ge gc last E S u) v
  | [], _, _ => rfl
  | a :: u, v, S => RS_app E u v _
/-- every rule ahead of a way is in it -/
def ClosedE (l : List Psh) (E : Int → Int → Int → Prop) : Prop := ∀ r ∈ l, ∀ q, RS ge gc last E (cloS ge gc last (· = r.tw)) r.pt q → E r.fr r.tp q
structure LeastE (l : List Psh) (I E : Int → Int → Int → Prop) : Prop where
  shut : ClosedE ge gc last l E
  init : ∀ p a q, I p a q → E p a q
  least : ∀ F, ClosedE ge gc last l F → (∀ p a q, I p a q → F p a q) → ∀ p a q, E p a q → F p a q
theorem least_eq {l : List Psh} {I E F : Int → Int → Int → Prop} (h : LeastE ge gc last l I E) (k : LeastE ge gc last l I F) : ∀ p a q, E p a q → F p a q := h.least F k.shut k.init
theorem stack_law {l : List Psh} {I E F : Int → Int → Int → Prop} (h : LeastE ge gc last l I E) (k : LeastE ge gc last l I F) {r : Psh} (hr : r ∈ l) (rest : List Int) {q : Int}
    (hq : RS ge gc last E (cloS ge gc last (· = r.tw)) (r.pt ++ rest) q) : RS ge gc last F (cloS ge gc last (· = r.fr)) (r.tp :: rest) q := by
  rw [RS_app] at hq
  refine RS_mono ge gc last (least_eq ge gc last h k) rest (fun p hp => .inl ⟨r.fr, .inl rfl, ?_⟩) q hq
  exact k.shut r hr p (RS_mono ge gc last (least_eq ge gc last h k) r.pt (fun _ h => h) p hp)
end
/-- the law's own example: one rule, from a stack of one to none -/
theorem stack_tiny {I E : Int → Int → Int → Prop} {last : Int} (h : LeastE true 1 last [⟨0, 0, 1, []⟩] I E) : RS true 1 last E (cloS true 1 last (· = 0)) [0] last := by
  have h1 := h.shut ⟨0, 0, 1, []⟩ (by simp) 1 (.inl rfl)
  exact .inr ⟨rfl, ⟨0, .inl rfl, h1⟩, rfl⟩
/-! ### maps as lists -/
section
variable {κ ν : Type} [DecidableEq κ]
def lkG (ws : List (κ × ν)) (k : κ) : Option ν := (ws.find? (fun p => decide (p.1 = k))).map (·.2)
def putG (ws : List (κ × ν)) (k : κ) (v : ν) : List (κ × ν) := if (lkG ws k).isSome then ws.map (fun p => if p.1 = k then (k, v) else p) else ws ++ [(k, v)]
theorem find_map_putG (ws : List (κ × ν)) (k j : κ) (v : ν) : ((ws.map (fun p => if p.1 = k then (k, v) else p)).find? (fun p => decide (p.1 = j))).map (·.2) = if j = k then (if (lkG ws k).isSome then some v else none) else lkG ws j := by
  induction ws with
  | nil => simp [lkG]
  | cons p ws ih =>
    unfold lkG at ih ⊢
    rw [List.map_cons, List.find?_cons, List.find?_cons, List.find?_cons]
    by_cases hp : p.1 = k
    · rw [if_pos hp, decide_eq_true hp]
      by_cases hj : j = k
      · subst hj; simp
      · rw [if_neg hj] at ih ⊢
        have h1 : decide (k = j) = false := decide_eq_false (fun e => hj e.symm)
        have h2 : decide (p.1 = j) = false := decide_eq_false (fun e => hj (e.symm.trans hp))
        simp only [h1, h2]
        exact ih
    · rw [if_neg hp, decide_eq_false hp]
      by_cases hpj : p.1 = j
      · have hj : j ≠ k := fun e => hp (hpj.trans e)
        rw [if_neg hj, decide_eq_true hpj]
      · simp only [decide_eq_false hpj]
        exact ih
theorem lkG_put (ws : List (κ × ν)) (k j : κ) (v : ν) : lkG (putG ws k v) j = if j = k then some v else lkG ws j := by
  unfold putG
  by_cases h : (lkG ws k).isSome = true
  · rw [if_pos h]
    have := find_map_putG ws k j v
    rw [if_pos h] at this
    exact this
  · rw [if_neg h]
    have hn : ws.find? (fun p => decide (p.1 = k)) = none := by
      unfold lkG at h
      cases hf : ws.find? (fun p => decide (p.1 = k)) with
      | none => rfl
      | some q => rw [hf] at h; exact absurd rfl h
    unfold lkG
    rw [List.find?_append]
    by_cases hj : j = k
    · subst hj
      rw [if_pos rfl, hn]
      simp
    · rw [if_neg hj]
      have h1 : decide (k = j) = false := decide_eq_false (fun e => hj e.symm)
      simp only [List.find?_cons, h1, List.find?_nil, Option.or_none]
theorem lkG_mem {ws : List (κ × ν)} {k : κ} {v : ν} (h : lkG ws k = some v) : (k, v) ∈ ws := by
  unfold lkG at h
  obtain ⟨p, hp, rfl⟩ := Option.map_eq_some_iff.1 h
  have h1 := List.find?_some hp
  have h2 := List.mem_of_find?_eq_some hp
  rw [← of_decide_eq_true h1]
  exact h2
theorem sum_oneG {L : List κ} (hn : L.Nodup) {k : κ} (hk : k ∈ L) {g g' : κ → Nat} (h : ∀ s, s ≠ k → g' s = g s) : (L.map g').sum + g k = (L.map g).sum + g' k := by
  induction L with
  | nil => cases hk
  | cons s L ih =>
    rw [List.nodup_cons] at hn
    rw [List.map_cons, List.map_cons, List.sum_cons, List.sum_cons]
    rcases List.mem_cons.1 hk with rfl | hk
    · have : L.map g' = L.map g := List.map_congr_left (fun s hs => h s (fun e => hn.1 (e ▸ hs)))
      rw [this]; omega
    · have hs : s ≠ k := fun e => hn.1 (e ▸ hk)
      have := ih hn.2 hk
      rw [h s hs]; omega
end
end Go.Proofs.Ytampgoendkjkhaa.H

namespace Go.Proofs.Ytampgoendkjkhaa.H
set_option linter.unusedVariables false
set_option linter.unusedSimpArgs false
set_option linter.unusedSectionVars false
abbrev Ek : Type := Int × Int × Int
/-- how an edge was found: by which rule, how many rules, over which edges (as a slice, too) -/
structure Kn where
  rule : Int
  cost : Int
  over : List Ek
  A : Option Addr
  c : Nat
def endC : Int := 1099511627776
def costOf (ws : List (Ek × Kn)) (e : Ek) : Int := ((lkG ws e).map (·.cost)).getD 0
def sumC (ws : List (Ek × Kn)) : List Ek → Int
  | [] => 0
  | e :: t => costOf ws e + sumC ws t
theorem sumC_app (ws : List (Ek × Kn)) (a b : List Ek) : sumC ws (a ++ b) = sumC ws a + sumC ws b := by
  induction a with
  | nil => simp [sumC]
  | cons e t ih => simp only [List.cons_append, sumC, ih]; omega
def InE (n : Nat) (e : Ek) : Prop := (0 ≤ e.1 ∧ e.1 < (n : Int)) ∧ (0 ≤ e.2.1 ∧ e.2.1 < 3) ∧ (0 ≤ e.2.2 ∧ e.2.2 < (n : Int))
/-- what holds of the edges found so far: n states, m rules -/
structure StOk (n m : Nat) (ws : List (Ek × Kn)) : Prop where
  key : ∀ e k, lkG ws e = some k → InE n e
  rule : ∀ e k, lkG ws e = some k → -1 ≤ k.rule ∧ k.rule < (m : Int)
  cost : ∀ e k, lkG ws e = some k → 0 ≤ k.cost ∧ k.cost ≤ endC
  over : ∀ e k, lkG ws e = some k → ∀ x ∈ k.over, (lkG ws x).isSome = true
  sum : ∀ e k, lkG ws e = some k → 0 ≤ k.rule → min endC (1 + sumC ws k.over) ≤ k.cost
theorem costOf_nonneg {n m : Nat} {ws : List (Ek × Kn)} (h : StOk n m ws) (e : Ek) : 0 ≤ costOf ws e := by
  unfold costOf
  cases hl : lkG ws e with
  | none => exact Int.le_refl _
  | some k => exact (h.cost e k hl).1
theorem sumC_nonneg {n m : Nat} {ws : List (Ek × Kn)} (h : StOk n m ws) : ∀ es, 0 ≤ sumC ws es
  | [] => Int.le_refl _
  | e :: t => by have := costOf_nonneg h e; have := sumC_nonneg h t; simp only [sumC]; omega
theorem sumC_mem {n m : Nat} {ws : List (Ek × Kn)} (h : StOk n m ws) : ∀ {es : List Ek} {e : Ek}, e ∈ es → costOf ws e ≤ sumC ws es
  | x :: t, e, he => by
    have h1 := costOf_nonneg h x
    have h2 := sumC_nonneg h t
    simp only [sumC]
    rcases List.mem_cons.1 he with rfl | he
    · omega
    · have := sumC_mem h he; omega
/-- an edge of few rules goes on over edges of fewer -/
theorem told_less {n m : Nat} {ws : List (Ek × Kn)} (h : StOk n m ws) {e : Ek} {k : Kn} (hk : lkG ws e = some k) (hr : 0 ≤ k.rule) (hc : k.cost < endC) : 1 + sumC ws k.over ≤ k.cost := by
  have := h.sum e k hk hr
  have := sumC_nonneg h k.over
  omega
theorem sumC_put {ws : List (Ek × Kn)} {e : Ek} {k : Kn} (hl : lkG ws e = none ∨ ∃ k', lkG ws e = some k' ∧ k.cost < k'.cost) : ∀ es : List Ek, (∀ x ∈ es, (lkG ws x).isSome = true) → sumC (putG ws e k) es ≤ sumC ws es
  | [], _ => Int.le_refl _
  | x :: t, h => by
    have ih := sumC_put hl t (fun y hy => h y (List.mem_cons_of_mem _ hy))
    have hx := h x (List.mem_cons_self ..)
    simp only [sumC]
    have : costOf (putG ws e k) x ≤ costOf ws x := by
      unfold costOf
      rw [lkG_put]
      by_cases ex : x = e
      · subst ex
        rw [if_pos rfl]
        rcases hl with hl | ⟨k', hl, hlt⟩
        · rw [hl] at hx; cases hx
        · rw [hl]; simp only [Option.map_some, Option.getD_some]; omega
      · rw [if_neg ex]; exact Int.le_refl _
    omega
theorem StOk.put {n m : Nat} {ws : List (Ek × Kn)} (h : StOk n m ws) {e : Ek} (he : InE n e) {k : Kn} (hr : 0 ≤ k.rule ∧ k.rule < (m : Int)) (hc : 0 ≤ k.cost ∧ k.cost ≤ endC) (ho : ∀ x ∈ k.over, (lkG ws x).isSome = true) (hs : min endC (1 + sumC ws k.over) ≤ k.cost)
    (hl : lkG ws e = none ∨ ∃ k', lkG ws e = some k' ∧ k.cost < k'.cost) : StOk n m (putG ws e k) := by
  have hsome : ∀ x, (lkG ws x).isSome = true → (lkG (putG ws e k) x).isSome = true := fun x hx => by
    rw [lkG_put]
    split
    · rfl
    · exact hx
  refine ⟨fun j v hj => ?_, fun j v hj => ?_, fun j v hj => ?_, fun j v hj => ?_, fun j v hj h0 => ?_⟩
  all_goals rw [lkG_put] at hj
  · split at hj
    · rename_i q; subst q; exact he
    · exact h.key j v hj
  · split at hj
    · obtain rfl := Option.some.inj hj; omega
    · exact h.rule j v hj
  · split at hj
    · obtain rfl := Option.some.inj hj; exact hc
    · exact h.cost j v hj
  · split at hj
    · obtain rfl := Option.some.inj hj; exact fun x hx => hsome x (ho x hx)
    · exact fun x hx => hsome x (h.over j v hj x hx)
  · split at hj
    · obtain rfl := Option.some.inj hj
      have := sumC_put hl k.over ho
      omega
    · have h1 := h.sum j v hj h0
      have h2 := sumC_put hl v.over (h.over j v hj)
      omega
/-! ### the measure -/
def allE (n : Nat) : List Ek := (List.range n).flatMap fun (p : Nat) => (List.range 3).flatMap fun (a : Nat) => (List.range n).map fun (q : Nat) => ((p : Int), (a : Int), (q : Int))
theorem allE_mem {n : Nat} {e : Ek} (h : InE n e) : e ∈ allE n := by
  obtain ⟨⟨h1, h2⟩, ⟨h3, h4⟩, h5, h6⟩ := h
  unfold allE
  refine List.mem_flatMap.2 ⟨e.1.toNat, List.mem_range.2 (by omega), List.mem_flatMap.2 ⟨e.2.1.toNat, List.mem_range.2 (by omega), List.mem_map.2 ⟨e.2.2.toNat, List.mem_range.2 (by omega), ?_⟩⟩⟩
  exact Prod.ext (Int.toNat_of_nonneg h1) (Prod.ext (Int.toNat_of_nonneg h3) (Int.toNat_of_nonneg h5))
theorem nodup_flatMap {α β : Type} {f : α → List β} : ∀ {l : List α}, l.Nodup → (∀ x ∈ l, (f x).Nodup) → (∀ x ∈ l, ∀ y ∈ l, x ≠ y → ∀ b, b ∈ f x → b ∉ f y) → (l.flatMap f).Nodup
  | [], _, _, _ => by simp
  | x :: l, hn, hf, hd => by
    rw [List.nodup_cons] at hn
    rw [List.flatMap_cons, List.nodup_append]
    refine ⟨hf x (List.mem_cons_self ..), nodup_flatMap hn.2 (fun y hy => hf y (List.mem_cons_of_mem _ hy)) (fun y hy z hz => hd y (List.mem_cons_of_mem _ hy) z (List.mem_cons_of_mem _ hz)), fun a ha b hb e => ?_⟩
    subst e
    obtain ⟨y, hy, hay⟩ := List.mem_flatMap.1 hb
    exact hd x (List.mem_cons_self ..) y (List.mem_cons_of_mem _ hy) (fun e => hn.1 (e ▸ hy)) a ha hay
theorem allE_nodup (n : Nat) : (allE n).Nodup := by
  unfold allE
  refine nodup_flatMap List.nodup_range (fun p hp => nodup_flatMap List.nodup_range (fun a ha => ?_) (fun a ha a' ha' hne e he he' => ?_)) (fun p hp p' hp' hne e he he' => ?_)
  · rw [List.nodup_iff_pairwise_ne, List.pairwise_map]
    refine (List.nodup_iff_pairwise_ne.1 List.nodup_range).imp fun h e => h ?_
    have := congrArg (fun e : Ek => e.2.2) e
    simp only [] at this
    omega
  · obtain ⟨q, _, rfl⟩ := List.mem_map.1 he
    obtain ⟨q', _, e'⟩ := List.mem_map.1 he'
    have := congrArg (fun e : Ek => e.2.1) e'
    simp only [] at this
    omega
  · obtain ⟨a, _, he⟩ := List.mem_flatMap.1 he
    obtain ⟨q, _, rfl⟩ := List.mem_map.1 he
    obtain ⟨a', _, he'⟩ := List.mem_flatMap.1 he'
    obtain ⟨q', _, e'⟩ := List.mem_map.1 he'
    have := congrArg (fun e : Ek => e.1) e'
    simp only [] at this
    omega
def valE : Option Kn → Nat
  | none => 1099511627777
  | some k => k.cost.toNat
def muE (n : Nat) (ws : List (Ek × Kn)) : Nat := ((allE n).map fun e => valE (lkG ws e)).sum
/-- every edge that comes in, or comes cheaper, leaves less to do -/
theorem muE_put {n m : Nat} {ws : List (Ek × Kn)} (h : StOk n m ws) {e : Ek} (he : InE n e) {k : Kn} (hc : 0 ≤ k.cost ∧ k.cost ≤ endC) (hl : lkG ws e = none ∨ ∃ k', lkG ws e = some k' ∧ k.cost < k'.cost) : muE n (putG ws e k) < muE n ws := by
  have := sum_oneG (allE_nodup n) (allE_mem he) (g := fun s => valE (lkG ws s)) (g' := fun s => valE (lkG (putG ws e k) s)) (fun s hs => by rw [lkG_put, if_neg hs])
  simp only [lkG_put, if_true] at this
  unfold muE
  simp only [lkG_put]
  have hlt : valE (some k) < valE (lkG ws e) := by
    unfold endC at hc
    rcases hl with hl | ⟨k', hl, hlt⟩
    · rw [hl]; simp only [valE]; omega
    · rw [hl]; have := (h.cost e k' hl).1; simp only [valE]; omega
  omega
end Go.Proofs.Ytampgoendkjkhaa.H
