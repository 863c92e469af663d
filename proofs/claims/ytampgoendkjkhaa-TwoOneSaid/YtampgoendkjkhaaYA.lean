/- Who goes to and fro, and who goes one way: the walk of the given package, with its plain law. -/
import Derived.Test.YtampgoendkjkhaaDtM
import Derived.Test.YtampgoendkjkhaaSl
import Derived.Test.YtampgoendkjkhaaSlA
import Derived.Test.YtampgoendkjkhaaLst
import Derived.Test.YtampgoendkjkhaaArr
import Derived.WalkKit
import Derived.KernelRfl
import Derived.Outline
namespace Go.Proofs.Ytampgoendkjkhaa.H
open Go.Proofs.Ytampgoendkjkhaa.DtM
set_option linter.unusedVariables false
set_option linter.unusedSimpArgs false
set_option linter.unusedSectionVars false
/-- exits told by their times: as many things as times -/
theorem times_len {κ : Type} [DecidableEq κ] {R : Nat → κ → Prop} (hu : ∀ j j' x, R j x → R j' x → j = j') {U : List κ} {k : Nat} (h : ∀ j, j ≤ k → ∃ x ∈ U, R j x) : k + 1 ≤ U.length := by
  have : ∀ m, m ≤ k + 1 → ∃ M : List κ, M.Nodup ∧ M.length = m ∧ (∀ x ∈ M, x ∈ U ∧ ∃ j, j < m ∧ R j x) := by
    intro m
    induction m with
    | zero => exact fun _ => ⟨[], List.nodup_nil, rfl, fun x hx => by cases hx⟩
    | succ m ih =>
      intro hm
      obtain ⟨M, h1, h2, h3⟩ := ih (by omega)
      obtain ⟨x, hx, hr⟩ := h m (by omega)
      refine ⟨x :: M, List.nodup_cons.2 ⟨fun hxm => ?_, h1⟩, by simp [h2], fun y hy => ?_⟩
      · obtain ⟨_, j, hj, hrj⟩ := h3 x hxm
        have := hu _ _ _ hr hrj
        omega
      · rcases List.mem_cons.1 hy with rfl | hy
        · exact ⟨hx, m, by omega, hr⟩
        · obtain ⟨a, j, hj, hrj⟩ := h3 y hy
          exact ⟨a, j, by omega, hrj⟩
  obtain ⟨M, h1, h2, h3⟩ := this (k + 1) (Nat.le_refl _)
  have := nodup_len h1 (fun x hx => (h3 x hx).1)
  omega
/-! ### a machine that goes to and fro: d of a state and a letter; T the tape -/
section
variable (d : Int → Int → Int × Int) (T : Int → Int)
/-- from (p, q), in k steps, out of the places 0 .. hi: at (p', q') -/
inductive Ex (hi : Int) : Nat → Int → Int → Int → Int → Prop
  | out {p q : Int} : p < 0 ∨ hi < p → Ex hi 0 p q p q
  | step {k : Nat} {p q p' q' : Int} : 0 ≤ p → p ≤ hi → Ex hi k (p + (d q (T p)).2) (d q (T p)).1 p' q' → Ex hi (k + 1) p q p' q'
variable {d T}
theorem Ex.det {hi : Int} {k : Nat} {p q p1 q1 : Int} (h : Ex d T hi k p q p1 q1) : ∀ {k' : Nat} {p2 q2 : Int}, Ex d T hi k' p q p2 q2 → k = k' ∧ p1 = p2 ∧ q1 = q2 := by
  induction h with
  | out ho =>
    intro k' p2 q2 h'
    cases h' with
    | out _ => exact ⟨rfl, rfl, rfl⟩
    | step h1 h2 _ => omega
  | step h1 h2 _ ih =>
    intro k' p2 q2 h'
    cases h' with
    | out ho => omega
    | step _ _ h' =>
      obtain ⟨a, b, c⟩ := ih h'
      exact ⟨by rw [a], b, c⟩
theorem Ex.outer {hi : Int} {k : Nat} {p q p' q' : Int} (h : Ex d T hi k p q p' q') : p' < 0 ∨ hi < p' := by
  induction h with
  | out ho => exact ho
  | step _ _ _ ih => exact ih
theorem Ex.trans {hi : Int} {k : Nat} {p q p' q' : Int} (h : Ex d T hi k p q p' q') : ∀ {m : Nat} {p2 q2 : Int}, Ex d T (hi + 1) m p' q' p2 q2 → Ex d T (hi + 1) (k + m) p q p2 q2 := by
  induction h with
  | out _ => intro m p2 q2 h'; rw [Nat.zero_add]; exact h'
  | @step k p q p' q' h1 h2 _ ih =>
    intro m p2 q2 h'
    rw [show k + 1 + m = (k + m) + 1 from by omega]
    exact .step h1 (by omega) (ih h')
theorem Ex.split {hi : Int} {k : Nat} {p q p2 q2 : Int} (h : Ex d T (hi + 1) k p q p2 q2) : ∃ (k1 k2 : Nat) (p' q' : Int), k = k1 + k2 ∧ Ex d T hi k1 p q p' q' ∧ Ex d T (hi + 1) k2 p' q' p2 q2 := by
  induction h with
  | @out p q ho => exact ⟨0, 0, p, q, rfl, .out (by omega), .out ho⟩
  | @step k p q p2 q2 h1 h2 h ih =>
    by_cases hp : p ≤ hi
    · obtain ⟨k1, k2, p', q', e, a, b⟩ := ih
      exact ⟨k1 + 1, k2, p', q', by omega, .step h1 hp a, b⟩
    · exact ⟨0, k + 1, p, q, by omega, .out (by omega), .step h1 h2 h⟩
theorem Ex.inv {hi : Int} {k : Nat} {p q p' q' : Int} (h : Ex d T hi k p q p' q') (h1 : 0 ≤ p) (h2 : p ≤ hi) : ∃ k', k = k' + 1 ∧ Ex d T hi k' (p + (d q (T p)).2) (d q (T p)).1 p' q' := by
  cases h with
  | out ho => omega
  | step _ _ h => exact ⟨_, rfl, h⟩
/-- what is asked of a machine: n states, moves by one -/
structure TwOk (d : Int → Int → Int × Int) (n : Nat) (La : Int → Prop) : Prop where
  st : ∀ q a, 0 ≤ q → q < (n : Int) → La a → 0 ≤ (d q a).1 ∧ (d q a).1 < (n : Int)
  mv : ∀ q a, 0 ≤ q → q < (n : Int) → La a → (d q a).2 = 1 ∨ (d q a).2 = -1
variable {n : Nat} {La : Int → Prop}
theorem Ex.ends (hd : TwOk d n La) (hT : ∀ p, La (T p)) {hi : Int} {k : Nat} {p q p' q' : Int} (h : Ex d T hi k p q p' q') : -1 ≤ p → p ≤ hi + 1 → 0 ≤ q → q < (n : Int) → (p' = -1 ∨ p' = hi + 1) ∧ 0 ≤ q' ∧ q' < (n : Int) := by
  induction h with
  | out ho => intro h1 h2 h3 h4; exact ⟨by omega, h3, h4⟩
  | @step k p q p' q' h1 h2 _ ih =>
    intro _ _ h3 h4
    have a := hd.st q (T p) h3 h4 (hT p)
    have b := hd.mv q (T p) h3 h4 (hT p)
    exact ih (by omega) (by omega) a.1 a.2
/-- a table of what is up to hi: of each state at hi, in which one leaves it to the right -/
def TabT (d : Int → Int → Int × Int) (T : Int → Int) (n : Nat) (hi : Int) (t : Int → Int) : Prop := ∀ q, 0 ≤ q → q < (n : Int) → (0 ≤ t q ∧ t q < (n : Int) ∧ ∃ k, Ex d T hi k hi q (hi + 1) (t q)) ∨ (t q = -1 ∧ ∀ k q', ¬ Ex d T hi k hi q (hi + 1) q')
/-- in which state one leaves the next letter to the right -/
def lvF (d : Int → Int → Int × Int) (t : Int → Int) (a : Int) : Nat → Int → Int
  | 0, _ => -1
  | k + 1, q => if (d q a).2 = 1 then (d q a).1 else if t (d q a).1 < 0 then -1 else lvF d t a k (t (d q a).1)
inductive Lv (d : Int → Int → Int × Int) (t : Int → Int) (a : Int) : Nat → Int → Int → Prop
  | out {q : Int} : (d q a).2 = 1 → Lv d t a 0 q (d q a).1
  | back {m : Nat} {q r : Int} : (d q a).2 ≠ 1 → 0 ≤ t (d q a).1 → Lv d t a m (t (d q a).1) r → Lv d t a (m + 1) q r
theorem Lv.det {t : Int → Int} {a : Int} {m : Nat} {q r : Int} (h : Lv d t a m q r) : ∀ {m' : Nat} {r' : Int}, Lv d t a m' q r' → m = m' ∧ r = r' := by
  induction h with
  | out ho =>
    intro m' r' h'
    cases h' with
    | out _ => exact ⟨rfl, rfl⟩
    | back h1 _ _ => exact absurd ho h1
  | back h1 h2 _ ih =>
    intro m' r' h'
    cases h' with
    | out ho => exact absurd ho h1
    | back _ _ h' =>
      obtain ⟨e, f⟩ := ih h'
      exact ⟨by rw [e], f⟩
theorem Lv.fuel {t : Int → Int} {a : Int} {m : Nat} {q r : Int} (h : Lv d t a m q r) : ∀ k, m < k → lvF d t a k q = r := by
  induction h with
  | out ho =>
    intro k hk
    match k, hk with
    | k + 1, _ => simp [lvF, ho]
  | back h1 h2 _ ih =>
    intro k hk
    match k, hk with
    | k + 1, hk => simp only [lvF]; rw [if_neg h1, if_neg (by omega)]; exact ih k (by omega)
theorem lv_sound (hd : TwOk d n La) (hT : ∀ p, La (T p)) {hi : Int} (h0 : 0 ≤ hi) {t : Int → Int} (ht : TabT d T n hi t) : ∀ (k : Nat) (q : Int), 0 ≤ q → q < (n : Int) → (0 ≤ lvF d t (T (hi + 1)) k q ∧ lvF d t (T (hi + 1)) k q < (n : Int) ∧ ∃ m, Ex d T (hi + 1) m (hi + 1) q (hi + 1 + 1) (lvF d t (T (hi + 1)) k q)) ∨ lvF d t (T (hi + 1)) k q = -1
  | 0, q, _, _ => .inr rfl
  | k + 1, q, h1, h2 => by
    have a := hd.st q (T (hi + 1)) h1 h2 (hT _)
    have b := hd.mv q (T (hi + 1)) h1 h2 (hT _)
    simp only [lvF]
    by_cases e : (d q (T (hi + 1))).2 = 1
    · rw [if_pos e]
      refine .inl ⟨a.1, a.2, 0 + 1, .step (by omega) (by omega) ?_⟩
      rw [e]
      exact .out (by omega)
    · rw [if_neg e]
      have e2 : (d q (T (hi + 1))).2 = -1 := by omega
      rcases ht _ a.1 a.2 with ⟨g1, g2, m, g3⟩ | ⟨g1, _⟩
      · rw [if_neg (by omega)]
        rcases lv_sound hd hT h0 ht k _ g1 g2 with ⟨f1, f2, m', f3⟩ | f
        · refine .inl ⟨f1, f2, (m + m') + 1, .step (by omega) (by omega) ?_⟩
          rw [e2, show hi + 1 + -1 = hi from by omega]
          exact g3.trans f3
        · exact .inr f
      · rw [if_pos (by omega)]
        exact .inr rfl
theorem lv_complete (hd : TwOk d n La) (hT : ∀ p, La (T p)) {hi : Int} (h0 : 0 ≤ hi) {t : Int → Int} (ht : TabT d T n hi t) : ∀ (k : Nat) (q r : Int), 0 ≤ q → q < (n : Int) → Ex d T (hi + 1) k (hi + 1) q (hi + 1 + 1) r → ∃ m, Lv d t (T (hi + 1)) m q r := by
  intro k
  induction k using Nat.strongRecOn with
  | _ k ih =>
    intro q r h1 h2 h
    have a := hd.st q (T (hi + 1)) h1 h2 (hT _)
    have b := hd.mv q (T (hi + 1)) h1 h2 (hT _)
    obtain ⟨k', hkk, h⟩ := h.inv (by omega) (by omega)
    by_cases e : (d q (T (hi + 1))).2 = 1
    · rw [e] at h
      obtain ⟨_, _, rfl⟩ := h.det (.out (by omega))
      exact ⟨0, .out e⟩
    · have e2 : (d q (T (hi + 1))).2 = -1 := by omega
      rw [e2, show hi + 1 + -1 = hi from by omega] at h
      obtain ⟨k1, k2, p', q', hk, g1, g2⟩ := h.split
      obtain ⟨hp, hq1, hq2⟩ := g1.ends hd hT (by omega) (by omega) a.1 a.2
      rcases hp with rfl | rfl
      · obtain ⟨_, hx, _⟩ := g2.det (.out (by omega))
        omega
      · rcases ht _ a.1 a.2 with ⟨f1, f2, m, f3⟩ | ⟨f1, f2⟩
        · obtain ⟨_, _, rfl⟩ := g1.det f3
          obtain ⟨m', hm⟩ := ih k2 (by omega) _ r f1 f2 g2
          exact ⟨m' + 1, .back e f1 hm⟩
        · exact absurd g1 (f2 k1 q')
def statesL (n : Nat) : List Int := (List.range n).map (fun (i : Nat) => (i : Int))
theorem statesL_mem {n : Nat} {q : Int} (h : 0 ≤ q ∧ q < (n : Int)) : q ∈ statesL n := List.mem_map.2 ⟨q.toNat, List.mem_range.2 (by omega), Int.toNat_of_nonneg h.1⟩
theorem statesL_len (n : Nat) : (statesL n).length = n := by simp [statesL]
theorem lv_all (hd : TwOk d n La) {hi : Int} {t : Int → Int} (ht : TabT d T n hi t) {a : Int} (ha : La a) {m : Nat} {q r : Int} (h : Lv d t a m q r) : 0 ≤ q → q < (n : Int) → ∀ j, j ≤ m → ∃ x ∈ statesL n, ∃ r, Lv d t a j x r := by
  induction h with
  | @out q ho =>
    intro h1 h2 j hj
    obtain rfl : j = 0 := by omega
    exact ⟨q, statesL_mem ⟨h1, h2⟩, _, .out ho⟩
  | @back m q r g1 g2 g ih =>
    intro h1 h2 j hj
    have b := hd.st q a h1 h2 ha
    by_cases e : j = m + 1
    · subst e
      exact ⟨q, statesL_mem ⟨h1, h2⟩, _, .back g1 g2 g⟩
    · rcases ht _ b.1 b.2 with ⟨f1, f2, _⟩ | ⟨f1, _⟩
      · exact ih f1 f2 j (by omega)
      · omega
theorem lv_bound (hd : TwOk d n La) {hi : Int} {t : Int → Int} (ht : TabT d T n hi t) {a : Int} (ha : La a) {m : Nat} {q r : Int} (h1 : 0 ≤ q) (h2 : q < (n : Int)) (h : Lv d t a m q r) : m + 1 ≤ n := by
  have := times_len (R := fun j x => ∃ r, Lv d t a j x r) (fun j j' x ⟨_, g1⟩ ⟨_, g2⟩ => (g1.det g2).1) (lv_all hd ht ha h h1 h2)
  rw [statesL_len] at this
  exact this
/-- the table behind one letter more -/
theorem tab_step (hd : TwOk d n La) (hT : ∀ p, La (T p)) {hi : Int} (h0 : 0 ≤ hi) {t : Int → Int} (ht : TabT d T n hi t) : TabT d T n (hi + 1) (fun q => lvF d t (T (hi + 1)) (n + 1) q) := by
  intro q h1 h2
  rcases lv_sound hd hT h0 ht (n + 1) q h1 h2 with h | h
  · exact .inl h
  · refine .inr ⟨h, fun k q' hx => ?_⟩
    obtain ⟨m, hm⟩ := lv_complete hd hT h0 ht k q q' h1 h2 hx
    have hb := lv_bound hd ht (hT _) h1 h2 hm
    have := hm.fuel (n + 1) (by omega)
    have hr := (hx.ends hd hT (by omega) (by omega) h1 h2).2
    omega
/-- the table of the left end alone -/
def bgF (d : Int → Int → Int × Int) (a : Int) (q : Int) : Int := if (d q a).2 = 1 then (d q a).1 else -1
theorem tab_begin (hd : TwOk d n La) (hT : ∀ p, La (T p)) : TabT d T n 0 (bgF d (T 0)) := by
  intro q h1 h2
  have a := hd.st q (T 0) h1 h2 (hT _)
  have b := hd.mv q (T 0) h1 h2 (hT _)
  unfold bgF
  by_cases e : (d q (T 0)).2 = 1
  · rw [if_pos e]
    refine .inl ⟨a.1, a.2, 0 + 1, .step (by omega) (by omega) ?_⟩
    rw [e]
    exact .out (by omega)
  · rw [if_neg e]
    refine .inr ⟨rfl, fun k q' hx => ?_⟩
    obtain ⟨k', _, hx⟩ := hx.inv (by omega) (by omega)
    have e2 : (d q (T 0)).2 = -1 := by omega
    rw [e2] at hx
    obtain ⟨_, h, _⟩ := hx.det (.out (by omega))
    omega
/-- where one who began at the left leaves what is up to hi -/
def BegT (d : Int → Int → Int × Int) (T : Int → Int) (n : Nat) (start : Int) (hi : Int) (s : Int) : Prop := (0 ≤ s ∧ s < (n : Int) ∧ ∃ k, Ex d T hi k 0 start (hi + 1) s) ∨ (s = -1 ∧ ∀ k q', ¬ Ex d T hi k 0 start (hi + 1) q')
theorem beg_begin (hd : TwOk d n La) (hT : ∀ p, La (T p)) {start : Int} (h1 : 0 ≤ start) (h2 : start < (n : Int)) : BegT d T n start 0 (bgF d (T 0) start) := tab_begin hd hT start h1 h2
theorem beg_step (hd : TwOk d n La) (hT : ∀ p, La (T p)) {hi : Int} (h0 : 0 ≤ hi) {t : Int → Int} (ht : TabT d T n hi t) {start s : Int} (h1 : 0 ≤ start) (h2 : start < (n : Int)) (hs : BegT d T n start hi s) : BegT d T n start (hi + 1) (if s < 0 then -1 else lvF d t (T (hi + 1)) (n + 1) s) := by
  rcases hs with ⟨g1, g2, k, g3⟩ | ⟨g1, g2⟩
  · rw [if_neg (by omega)]
    rcases tab_step hd hT h0 ht s g1 g2 with ⟨f1, f2, m, f3⟩ | ⟨f1, f2⟩
    · exact .inl ⟨f1, f2, k + m, g3.trans f3⟩
    · refine .inr ⟨f1, fun m q' hx => ?_⟩
      obtain ⟨k1, k2, p', q'', _, a, b⟩ := hx.split
      obtain ⟨_, rfl, rfl⟩ := a.det g3
      exact f2 _ _ b
  · rw [if_pos (by omega)]
    refine .inr ⟨rfl, fun m q' hx => ?_⟩
    obtain ⟨k1, k2, p', q'', _, a, b⟩ := hx.split
    obtain ⟨hp, _⟩ := a.ends hd hT (by omega) (by omega) h1 h2
    rcases hp with rfl | rfl
    · obtain ⟨_, h, _⟩ := b.det (.out (by omega))
      omega
    · exact g2 _ _ a
/-! ### the run itself, with its count of steps -/
def rnF (d : Int → Int → Int × Int) (T : Int → Int) (hi : Int) (acc : Int → Int → Bool) : Nat → Int → Int → Bool
  | 0, p, q => if 0 ≤ p ∧ p ≤ hi then false else acc p q
  | k + 1, p, q => if 0 ≤ p ∧ p ≤ hi then rnF d T hi acc k (p + (d q (T p)).2) (d q (T p)).1 else acc p q
theorem rn_ex {hi : Int} {acc : Int → Int → Bool} {k : Nat} {p q p' q' : Int} (h : Ex d T hi k p q p' q') : ∀ f, k ≤ f → rnF d T hi acc f p q = acc p' q' := by
  induction h with
  | @out p q ho =>
    intro f _
    cases f with
    | zero => exact if_neg (by omega)
    | succ f => exact if_neg (by omega)
  | @step k p q p' q' h1 h2 _ ih =>
    intro f hf
    match f, hf with
    | f + 1, hf =>
      simp only [rnF]
      rw [if_pos ⟨h1, h2⟩]
      exact ih f (by omega)
theorem rn_true {hi : Int} {acc : Int → Int → Bool} : ∀ (f : Nat) (p q : Int), rnF d T hi acc f p q = true → ∃ k p' q', Ex d T hi k p q p' q' ∧ acc p' q' = true
  | 0, p, q, h => by
    simp only [rnF] at h
    split at h
    · cases h
    · exact ⟨0, p, q, .out (by omega), h⟩
  | f + 1, p, q, h => by
    simp only [rnF] at h
    split at h
    · rename_i hp
      obtain ⟨k, p', q', a, b⟩ := rn_true f _ _ h
      exact ⟨k + 1, p', q', .step hp.1 hp.2 a, b⟩
    · exact ⟨0, p, q, .out (by omega), h⟩
def cfgsL (n len : Nat) : List (Int × Int) := (List.range len).flatMap fun (p : Nat) => (List.range n).map fun (q : Nat) => ((p : Int), (q : Int))
theorem cfgsL_mem {n len : Nat} {p q : Int} (h : 0 ≤ p ∧ p < (len : Int)) (h' : 0 ≤ q ∧ q < (n : Int)) : (p, q) ∈ cfgsL n len :=
  List.mem_flatMap.2 ⟨p.toNat, List.mem_range.2 (by omega), List.mem_map.2 ⟨q.toNat, List.mem_range.2 (by omega), by rw [Int.toNat_of_nonneg h.1, Int.toNat_of_nonneg h'.1]⟩⟩
theorem cfgsL_len (n len : Nat) : (cfgsL n len).length = len * n := by
  unfold cfgsL
  rw [List.length_flatMap]
  have h : ∀ l : List Nat, (l.map (fun _ => n)).sum = l.length * n := by
    intro l
    induction l with
    | nil => simp
    | cons x t ih => rw [List.map_cons, List.sum_cons, ih, List.length_cons, Nat.succ_mul, Nat.add_comm]
  have := h (List.range len)
  rw [List.length_range] at this
  simpa using this
theorem ex_all (hd : TwOk d n La) (hT : ∀ p, La (T p)) {len : Nat} {k : Nat} {p q p' q' : Int} (h : Ex d T ((len : Int) - 1) k p q p' q') : 0 ≤ q → q < (n : Int) → ∀ j, 1 ≤ j → j ≤ k → ∃ x ∈ cfgsL n len, ∃ p' q', Ex d T ((len : Int) - 1) j x.1 x.2 p' q' := by
  induction h with
  | out _ => intro _ _ j h1 h2; omega
  | @step k p q p' q' h1 h2 h ih =>
    intro g1 g2 j hj1 hj2
    have a := hd.st q (T p) g1 g2 (hT p)
    by_cases e : j = k + 1
    · subst e
      exact ⟨(p, q), cfgsL_mem ⟨h1, by omega⟩ ⟨g1, g2⟩, p', q', .step h1 h2 h⟩
    · exact ih a.1 a.2 j hj1 (by omega)
theorem ex_bound (hd : TwOk d n La) (hT : ∀ p, La (T p)) {len : Nat} {k : Nat} {p q p' q' : Int} (h : Ex d T ((len : Int) - 1) k p q p' q') (g1 : 0 ≤ q) (g2 : q < (n : Int)) : k ≤ len * n := by
  cases k with
  | zero => omega
  | succ k =>
    have := times_len (U := cfgsL n len) (k := k) (R := fun j (x : Int × Int) => ∃ p' q', Ex d T ((len : Int) - 1) (j + 1) x.1 x.2 p' q') (fun j j' x ⟨_, _, a⟩ ⟨_, _, b⟩ => by have := (a.det b).1; omega) (fun j hj => ex_all hd hT h g1 g2 (j + 1) (by omega) (by omega))
    rw [cfgsL_len] at this
    exact this
end
/-- the run says just what the last table's number of who began at the left says -/
theorem run_tab {d : Int → Int → Int × Int} {T : Int → Int} {n : Nat} {La : Int → Prop} (hd : TwOk d n La) (hT : ∀ p, La (T p)) {len : Nat} (hl : 1 ≤ len) {start : Int} (h1 : 0 ≤ start) (h2 : start < (n : Int)) {s : Int} (hs : BegT d T n start ((len : Int) - 1) s) (mk : Int → Bool) :
    rnF d T ((len : Int) - 1) (fun p q => decide (0 < p) && mk q) (len * n + 1) 0 start = (decide (0 ≤ s) && mk s) := by
  rcases hs with ⟨g1, g2, k, g3⟩ | ⟨g1, g2⟩
  · rw [rn_ex g3 _ (Nat.le_succ_of_le (ex_bound hd hT g3 h1 h2))]
    rw [decide_eq_true g1, decide_eq_true (by omega)]
  · have hf : decide (0 ≤ s) = false := decide_eq_false (by omega)
    rw [hf, Bool.false_and]
    cases hr : rnF d T ((len : Int) - 1) (fun p q => decide (0 < p) && mk q) (len * n + 1) 0 start with
    | false => rfl
    | true =>
      obtain ⟨k, p', q', a, b⟩ := rn_true _ _ _ hr
      simp only [Bool.and_eq_true, decide_eq_true_eq] at b
      obtain ⟨hp, _⟩ := a.ends hd hT (by omega) (by omega) h1 h2
      rcases hp with rfl | rfl
      · omega
      · exact absurd a (g2 _ _)
end Go.Proofs.Ytampgoendkjkhaa.H

namespace Go.Proofs.Ytampgoendkjkhaa.H
open Go.RowKit Go.Proofs.YtampgoendkjkhaaW.PrintWords
set_option linter.unusedVariables false
set_option linter.unusedSimpArgs false
def csD2 (x : Int × Int) : List Int := [x.1, x.2]
def kD2 : Kd (Int × Int) := kArr 2 csD2 (fun _ => rfl)

/-- What is asked of a closure: at each element, in each world in which all that lay lies. -/
def Pred_p2 (g : Nat) (lb : Array Value) (p : (Int × Int) → Bool) (xs : List (Int × Int)) (w : World) : Prop :=
  ∀ (W : World) (x0 x1 : Int), (x0, x1) ∈ xs → Below w.heap.size w W → Calls Try.prog g (#[.agg #[.int .i64 x0, .int .i64 x1]] ++ lb) W fun e w' => e = .returned (.bool (p (x0, x1))) ∧ Below w.heap.size w w'
set_option maxHeartbeats 1000000 in
theorem IndexFunc_p2 (g : Nat) (lb : Array Value) (eg : ∀ args w, (callFunc g args).run Try.prog w = .ok (.enter g args) w) (p : Int × Int → Bool) (A : Option Addr) (c : Nat) (xs : List (Int × Int)) (w : World)
    (hr : Kd.C kD2 w A xs.length xs) (hp : Pred_p2 g lb p xs w) :
    Calls Try.prog 200 #[.slice A xs.length c, .func (.func g) #[] lb] w fun e w' => e = .returned (.int .i64 (ixOf p xs)) ∧ Below w.heap.size w w' := by
  have hbig : xs.length ≤ 9223372036854775807 := hr.2.1
  have HR := Aside0.mk hr
  have HP := Aside0.mk hp
  clear hr hp
  go_enter Try.func200, Try.ntmps200
  go_wp2
  go_loopg [5, 8] xs.length (fun gg _ s8 wr => ∃ kk : Nat, kk ≤ xs.length ∧ xs.length - kk ≤ gg ∧ s8 = .int .i64 kk ∧ Aside0 (Below w.heap.size w wr) ∧ Aside0 (∀ j, ∀ hj : j < xs.length, j < kk → p xs[j] = false))
  case atStart => exact ⟨0, Nat.zero_le _, by omega, rfl, ⟨Below.refl _ w⟩, ⟨fun j _ hj => absurd hj (Nat.not_lt_zero _)⟩⟩
  case round =>
    obtain ⟨kk, hkk, hg, rfl, BW, AA⟩ := hrel
    by_cases hlt : kk < xs.length
    · have hltz : (kk : Int) < (xs.length : Int) := by omega
      obtain ⟨ad, e0, hc0⟩ := arr_get HR.out rfl hlt
      cases e0
      obtain ⟨x0, x1, hx⟩ : ∃ x0 x1, xs[kk] = (x0, x1) := ⟨_, _, rfl⟩
      have hc1 := pw_cell_below (BW.out) (hc0 0 x0 (by rw [hx]; rfl))
      have hc2 := pw_cell_below (BW.out) (hc0 1 x1 (by rw [hx]; rfl))
      clear hc0
      rw [show ad.add (kk * 2 + 0) = ad.add (kk * 2) from rfl] at hc1
      rw [show ad.add (kk * 2 + 1) = ⟨(ad.add (kk * 2)).block, (ad.add (kk * 2)).off + 1, none⟩ from by rw [← Addr.add_add, add_pos _ (by omega)]] at hc2
      have hcall := HP.out wr x0 x1 (hx ▸ List.getElem_mem hlt) BW.out
      have hat := Aside0.mk (fun (h : p xs[kk] = true) => ixOf_hit p xs kk hlt h AA.out)
      have hne := Aside0.mk (fun (h : p xs[kk] = false) (j : Nat) (hj : j < xs.length) (hjk : j < kk + 1) => by
        by_cases e : j = kk
        · subst e; exact h
        · exact AA.out j hj (by omega) : p xs[kk] = false → ∀ j, ∀ hj : j < xs.length, j < kk + 1 → p xs[j] = false)
      rw [hx] at hat hne
      clear hx
      cases hq : p (x0, x1) with
      | true =>
        rw [hq] at hcall
        have hq' := Aside0.mk hq
        clear hq
        go_wp2_with (go_at_fn g; refine hcall.mono ?_; rintro e w' ⟨rfl, hb'⟩)
        go_ret
        exact ⟨by rw [hat.out hq'.out]; rfl, hb'⟩
      | false =>
        rw [hq] at hcall
        have hq' := Aside0.mk hq
        clear hq
        go_wp2_with (go_at_fn g; refine hcall.mono ?_; rintro e w' ⟨rfl, hb'⟩)
        go_roundg (xs.length - (kk + 1))
        case measure => omega
        case rel => exact ⟨kk + 1, by omega, by omega, by go_num, ⟨hb'⟩, ⟨hne.out hq'.out⟩⟩
    · have hltz : ¬ (kk : Int) < (xs.length : Int) := by omega
      have hfin := Aside0.mk (ixOf_miss p xs (fun j hj => AA.out j hj (by omega)))
      go_wp2
      go_ret
      exact ⟨by rw [hfin.out]; rfl, BW.out⟩

set_option maxHeartbeats 1000000 in
theorem ContainsFunc_p2 (g : Nat) (lb : Array Value) (eg : ∀ args w, (callFunc g args).run Try.prog w = .ok (.enter g args) w) (p : Int × Int → Bool) (A : Option Addr) (c : Nat) (xs : List (Int × Int)) (w : World)
    (hr : Kd.C kD2 w A xs.length xs) (hp : Pred_p2 g lb p xs w) :
    Calls Try.prog 167 #[.slice A xs.length c, .func (.func g) #[] lb] w fun e w' => e = .returned (.bool (xs.any p)) ∧ Below w.heap.size w w' := by
  rw [← ixOf_any]
  have H := IndexFunc_p2 g lb eg p A c xs w hr hp
  clear hr hp
  go_enter Try.func167, Try.ntmps167
  go_wp2_with (go_at_call 200; refine H.mono ?_; rintro e w' ⟨rfl, hb'⟩)
  go_ret
  exact ⟨rfl, hb'⟩

/-- What is asked of a closure: at each element, in each world in which all that lay lies. -/
def Pred_rp2 (g : Nat) (lb : Array Value) (p : List (Int × Int) → Bool) (xs : List (List (Int × Int))) (w : World) : Prop :=
  ∀ (W : World) (x : List (Int × Int)) (A : Option Addr) (c : Nat), x ∈ xs → x.length ≤ c → Kd.C kD2 W A x.length x → Below w.heap.size w W → Calls Try.prog g (#[.slice A x.length c] ++ lb) W fun e w' => e = .returned (.bool (p x)) ∧ Below w.heap.size w w'
set_option maxHeartbeats 1000000 in
theorem IndexFunc_rp2 (g : Nat) (lb : Array Value) (eg : ∀ args w, (callFunc g args).run Try.prog w = .ok (.enter g args) w) (p : List (Int × Int) → Bool) (A : Option Addr) (c : Nat) (xs : List (List (Int × Int))) (w : World)
    (hr : Kd.C (Kd.slice 111 kD2) w A xs.length xs) (hp : Pred_rp2 g lb p xs w) :
    Calls Try.prog 199 #[.slice A xs.length c, .func (.func g) #[] lb] w fun e w' => e = .returned (.int .i64 (ixOf p xs)) ∧ Below w.heap.size w w' := by
  have hbig : xs.length ≤ 9223372036854775807 := hr.2.1
  have HR := Aside0.mk hr
  have HP := Aside0.mk hp
  clear hr hp
  go_enter Try.func199, Try.ntmps199
  go_wp2
  go_loopg [5, 8] xs.length (fun gg _ s8 wr => ∃ kk : Nat, kk ≤ xs.length ∧ xs.length - kk ≤ gg ∧ s8 = .int .i64 kk ∧ Aside0 (Below w.heap.size w wr) ∧ Aside0 (∀ j, ∀ hj : j < xs.length, j < kk → p xs[j] = false))
  case atStart => exact ⟨0, Nat.zero_le _, by omega, rfl, ⟨Below.refl _ w⟩, ⟨fun j _ hj => absurd hj (Nat.not_lt_zero _)⟩⟩
  case round =>
    obtain ⟨kk, hkk, hg, rfl, BW, AA⟩ := hrel
    by_cases hlt : kk < xs.length
    · have hltz : (kk : Int) < (xs.length : Int) := by omega
      obtain ⟨ad, ec, e0, _, ⟨A1, c1, rfl, hle, hrow⟩, hc0⟩ := Kd.C_get HR.out [] kk (by omega) hltz
      cases e0
      have hx : xs.getD ((kk : Int).toNat) [] = xs[kk] := by simp [List.getD_eq_getElem?_getD, hlt]
      rw [hx] at hle hrow hc0
      clear hx
      have hc1 := pw_cell_below (BW.out) (hc0 0 _ rfl)
      clear hc0
      replace hc1 : wr.cell? (ad.add kk) = some (.slice A1 xs[kk].length c1) := by simpa [Kd.slice] using hc1
      have hcall := HP.out wr xs[kk] A1 c1 (List.getElem_mem hlt) hle (Kd.C_below hrow BW.out) BW.out
      clear hle hrow
      have hat := Aside0.mk (fun (h : p xs[kk] = true) => ixOf_hit p xs kk hlt h AA.out)
      have hne := Aside0.mk (fun (h : p xs[kk] = false) (j : Nat) (hj : j < xs.length) (hjk : j < kk + 1) => by
        by_cases e : j = kk
        · subst e; exact h
        · exact AA.out j hj (by omega) : p xs[kk] = false → ∀ j, ∀ hj : j < xs.length, j < kk + 1 → p xs[j] = false)
      generalize xs[kk] = y at hc1 hcall hat hne
      cases hq : p y with
      | true =>
        rw [hq] at hcall
        have hq' := Aside0.mk hq
        clear hq
        go_wp2_with (go_at_fn g; refine hcall.mono ?_; rintro e w' ⟨rfl, hb'⟩)
        go_ret
        exact ⟨by rw [hat.out hq'.out]; rfl, hb'⟩
      | false =>
        rw [hq] at hcall
        have hq' := Aside0.mk hq
        clear hq
        go_wp2_with (go_at_fn g; refine hcall.mono ?_; rintro e w' ⟨rfl, hb'⟩)
        go_roundg (xs.length - (kk + 1))
        case measure => omega
        case rel => exact ⟨kk + 1, by omega, by omega, by go_num, ⟨hb'⟩, ⟨hne.out hq'.out⟩⟩
    · have hltz : ¬ (kk : Int) < (xs.length : Int) := by omega
      have hfin := Aside0.mk (ixOf_miss p xs (fun j hj => AA.out j hj (by omega)))
      go_wp2
      go_ret
      exact ⟨by rw [hfin.out]; rfl, BW.out⟩

set_option maxHeartbeats 1000000 in
theorem ContainsFunc_rp2 (g : Nat) (lb : Array Value) (eg : ∀ args w, (callFunc g args).run Try.prog w = .ok (.enter g args) w) (p : List (Int × Int) → Bool) (A : Option Addr) (c : Nat) (xs : List (List (Int × Int))) (w : World)
    (hr : Kd.C (Kd.slice 111 kD2) w A xs.length xs) (hp : Pred_rp2 g lb p xs w) :
    Calls Try.prog 163 #[.slice A xs.length c, .func (.func g) #[] lb] w fun e w' => e = .returned (.bool (xs.any p)) ∧ Below w.heap.size w w' := by
  rw [← ixOf_any]
  have H := IndexFunc_rp2 g lb eg p A c xs w hr hp
  clear hr hp
  go_enter Try.func163, Try.ntmps163
  go_wp2_with (go_at_call 199; refine H.mono ?_; rintro e w' ⟨rfl, hb'⟩)
  go_ret
  exact ⟨rfl, hb'⟩

end Go.Proofs.Ytampgoendkjkhaa.H

namespace Go.Proofs.Ytampgoendkjkhaa.H
open Go.Proofs.Ytampgoendkjkhaa.DtM
set_option linter.unusedVariables false
set_option linter.unusedSimpArgs false
set_option linter.unusedSectionVars false
abbrev K5 : Type := Int × Int × Int × Int × Int
def tabAt (s : K5) (q : Int) : Int := if q = 0 then s.1 else if q = 1 then s.2.1 else if q = 2 then s.2.2.1 else if q = 3 then s.2.2.2.1 else s.2.2.2.2
def dT (nx : List (List (Int × Int))) (q a : Int) : Int × Int := (nx.getD q.toNat []).getD a.toNat (0, 1)
/-- a machine that may be -/
structure TwM (L : Nat) (start : Int) (nx : List (List (Int × Int))) (mk : List Int) : Prop where
  L1 : 1 ≤ L
  L4 : L ≤ 4
  n1 : 1 ≤ nx.length
  n4 : nx.length ≤ 4
  ml : mk.length = nx.length
  row : ∀ r ∈ nx, r.length = L + 2
  st : 0 ≤ start ∧ start < (nx.length : Int)
  ent : ∀ r ∈ nx, ∀ x ∈ r, (0 ≤ x.1 ∧ x.1 < (nx.length : Int)) ∧ (x.2 = 1 ∨ x.2 = -1)
  bit : ∀ m ∈ mk, m = 0 ∨ m = 1
def LaT (L : Nat) (a : Int) : Prop := 0 ≤ a ∧ a ≤ (L : Int) + 1
theorem dT_at {nx : List (List (Int × Int))} {q a : Nat} (hq : q < nx.length) (ha : a < nx[q].length) : dT nx (q : Int) (a : Int) = nx[q][a] := by
  unfold dT
  rw [Int.toNat_natCast, Int.toNat_natCast]
  simp [List.getD_eq_getElem?_getD, hq, ha]
theorem TwM.at {L : Nat} {start : Int} {nx : List (List (Int × Int))} {mk : List Int} (h : TwM L start nx mk) {q a : Int} (h1 : 0 ≤ q) (h2 : q < (nx.length : Int)) (h3 : LaT L a) : ∃ (q' a' : Nat) (hq : q' < nx.length) (ha : a' < nx[q'].length), q = (q' : Int) ∧ a = (a' : Int) ∧ dT nx q a = nx[q'][a'] := by
  have hq : q.toNat < nx.length := by omega
  have hr := h.row _ (List.getElem_mem hq)
  have ha : a.toNat < nx[q.toNat].length := by rw [hr]; have := h3.1; have := h3.2; omega
  have e1 : q = (q.toNat : Int) := by omega
  have e2 : a = (a.toNat : Int) := by have := h3.1; omega
  exact ⟨q.toNat, a.toNat, hq, ha, e1, e2, by have g := dT_at hq ha; rw [← e1, ← e2] at g; exact g⟩
theorem TwM.ok {L : Nat} {start : Int} {nx : List (List (Int × Int))} {mk : List Int} (h : TwM L start nx mk) : TwOk (dT nx) nx.length (LaT L) where
  st := fun q a h1 h2 h3 => by
    obtain ⟨q', a', hq, ha, _, _, e⟩ := h.at h1 h2 h3
    rw [e]; exact (h.ent _ (List.getElem_mem hq) _ (List.getElem_mem ha)).1
  mv := fun q a h1 h2 h3 => by
    obtain ⟨q', a', hq, ha, _, _, e⟩ := h.at h1 h2 h3
    rw [e]; exact (h.ent _ (List.getElem_mem hq) _ (List.getElem_mem ha)).2
def lvT (nx : List (List (Int × Int))) (s : K5) (a q : Int) : Int := lvF (dT nx) (tabAt s) a (nx.length + 1) q
def gT (nx : List (List (Int × Int))) (s : K5) (a q : Int) : Int := if q < (nx.length : Int) then lvT nx s a q else -1
def fT (nx : List (List (Int × Int))) (s : K5) (a : Nat) : K5 := (gT nx s a 0, gT nx s a 1, gT nx s a 2, gT nx s a 3, if s.2.2.2.2 < 0 then -1 else lvT nx s a s.2.2.2.2)
def bT (nx : List (List (Int × Int))) (L q : Int) : Int := if q < (nx.length : Int) then bgF (dT nx) L q else -1
def k0T (nx : List (List (Int × Int))) (L start : Int) : K5 := (bT nx L 0, bT nx L 1, bT nx L 2, bT nx L 3, bgF (dT nx) L start)
def mkT (nx : List (List (Int × Int))) (mk : List Int) (L : Int) (s : K5) : Int := if s.2.2.2.2 < 0 then 0 else if 0 ≤ lvT nx s (L + 1) s.2.2.2.2 then mk.getD (lvT nx s (L + 1) s.2.2.2.2).toNat 0 else 0
/-! ### all tables -/
def valsT (n : Nat) : List Int := (-1) :: statesL n
theorem valsT_mem {n : Nat} {x : Int} : x ∈ valsT n ↔ -1 ≤ x ∧ x < (n : Int) := by
  unfold valsT statesL
  rw [List.mem_cons, List.mem_map]
  constructor
  · rintro (rfl | ⟨i, hi, rfl⟩)
    · omega
    · have := List.mem_range.1 hi; omega
  · intro h
    by_cases e : x = -1
    · exact .inl e
    · exact .inr ⟨x.toNat, List.mem_range.2 (by omega), by omega⟩
def UT (n : Nat) : List K5 := (valsT n).flatMap fun a => (valsT n).flatMap fun b => (valsT n).flatMap fun c => (valsT n).flatMap fun d => (valsT n).map fun e => (a, b, c, d, e)
def InT (n : Nat) (s : K5) : Prop := (-1 ≤ s.1 ∧ s.1 < (n : Int)) ∧ (-1 ≤ s.2.1 ∧ s.2.1 < (n : Int)) ∧ (-1 ≤ s.2.2.1 ∧ s.2.2.1 < (n : Int)) ∧ (-1 ≤ s.2.2.2.1 ∧ s.2.2.2.1 < (n : Int)) ∧ (-1 ≤ s.2.2.2.2 ∧ s.2.2.2.2 < (n : Int))
theorem UT_mem {n : Nat} {s : K5} : s ∈ UT n ↔ InT n s := by
  unfold UT InT
  obtain ⟨a, b, c, d, e⟩ := s
  simp only [List.mem_flatMap, List.mem_map, valsT_mem, Prod.mk.injEq]
  constructor
  · rintro ⟨a', ha, b', hb, c', hc, d', hd, e', he, rfl, rfl, rfl, rfl, rfl⟩
    exact ⟨ha, hb, hc, hd, he⟩
  · rintro ⟨ha, hb, hc, hd, he⟩
    exact ⟨a, ha, b, hb, c, hc, d, hd, e, he, rfl, rfl, rfl, rfl, rfl⟩
theorem len_flat {α β : Type} (f : α → List β) (c : Nat) : ∀ l : List α, (∀ x ∈ l, (f x).length = c) → (l.flatMap f).length = l.length * c
  | [], _ => by simp
  | x :: l, h => by
    rw [List.flatMap_cons, List.length_append, h x (List.mem_cons_self ..), len_flat f c l (fun y hy => h y (List.mem_cons_of_mem _ hy)), List.length_cons, Nat.succ_mul, Nat.add_comm]
theorem UT_len {n : Nat} (hn : n ≤ 4) : (UT n).length ≤ 3125 := by
  have hv : (valsT n).length = n + 1 := by simp [valsT, statesL]
  unfold UT
  rw [len_flat _ ((n + 1) * ((n + 1) * ((n + 1) * (n + 1)))) _ (fun a _ => by
    rw [len_flat _ ((n + 1) * ((n + 1) * (n + 1))) _ (fun b _ => by
      rw [len_flat _ ((n + 1) * (n + 1)) _ (fun c _ => by
        rw [len_flat _ (n + 1) _ (fun d _ => by rw [List.length_map, hv]), hv]), hv]), hv]), hv]
  match n, hn with
  | 0, _ => decide
  | 1, _ => decide
  | 2, _ => decide
  | 3, _ => decide
  | 4, _ => decide
theorem lvF_in {d : Int → Int → Int × Int} {n : Nat} {La : Int → Prop} (hd : TwOk d n La) {t : Int → Int} (ht : ∀ q, 0 ≤ q → q < (n : Int) → -1 ≤ t q ∧ t q < (n : Int)) {a : Int} (ha : La a) : ∀ (k : Nat) (q : Int), 0 ≤ q → q < (n : Int) → -1 ≤ lvF d t a k q ∧ lvF d t a k q < (n : Int)
  | 0, q, h1, h2 => by simp only [lvF]; omega
  | k + 1, q, h1, h2 => by
    have b := hd.st q a h1 h2 ha
    simp only [lvF]
    split
    · omega
    · split
      · omega
      · have c := ht _ b.1 b.2
        exact lvF_in hd ht ha k _ (by omega) c.2
theorem tab_in {n : Nat} {s : K5} (h : InT n s) (q : Int) : -1 ≤ tabAt s q ∧ tabAt s q < (n : Int) := by
  obtain ⟨h0, h1, h2, h3, h4⟩ := h
  unfold tabAt
  split
  · exact h0
  · split
    · exact h1
    · split
      · exact h2
      · split
        · exact h3
        · exact h4
section
variable {L : Nat} {start : Int} {nx : List (List (Int × Int))} {mk : List Int}
theorem lvT_in (h : TwM L start nx mk) {s : K5} (hs : InT nx.length s) {a : Int} (ha : LaT L a) {q : Int} (h1 : 0 ≤ q) (h2 : q < (nx.length : Int)) : -1 ≤ lvT nx s a q ∧ lvT nx s a q < (nx.length : Int) :=
  lvF_in h.ok (fun q _ _ => tab_in hs q) ha _ q h1 h2
theorem gT_in (h : TwM L start nx mk) {s : K5} (hs : InT nx.length s) {a : Int} (ha : LaT L a) {q : Int} (h1 : 0 ≤ q) : -1 ≤ gT nx s a q ∧ gT nx s a q < (nx.length : Int) := by
  unfold gT
  split
  · rename_i h2; exact lvT_in h hs ha h1 h2
  · have := h.n1; omega
theorem fT_in (h : TwM L start nx mk) {s : K5} (hs : InT nx.length s) {a : Nat} (ha : a < L) : InT nx.length (fT nx s a) := by
  have hla : LaT L (a : Int) := ⟨by omega, by omega⟩
  refine ⟨gT_in h hs hla (by omega), gT_in h hs hla (by omega), gT_in h hs hla (by omega), gT_in h hs hla (by omega), ?_⟩
  simp only [fT]
  split
  · have := h.n1; omega
  · exact lvT_in h hs hla (by omega) hs.2.2.2.2.2
theorem bg_in (h : TwM L start nx mk) {q : Int} (h1 : 0 ≤ q) (h2 : q < (nx.length : Int)) : -1 ≤ bgF (dT nx) (L : Int) q ∧ bgF (dT nx) (L : Int) q < (nx.length : Int) := by
  have b := h.ok.st q (L : Int) h1 h2 ⟨by omega, by omega⟩
  unfold bgF
  split <;> omega
theorem bT_in (h : TwM L start nx mk) {q : Int} (h1 : 0 ≤ q) : -1 ≤ bT nx (L : Int) q ∧ bT nx (L : Int) q < (nx.length : Int) := by
  unfold bT
  split
  · rename_i h2; exact bg_in h h1 h2
  · have := h.n1; omega
theorem k0T_in (h : TwM L start nx mk) : InT nx.length (k0T nx (L : Int) start) :=
  ⟨bT_in h (by omega), bT_in h (by omega), bT_in h (by omega), bT_in h (by omega), bg_in h h.st.1 h.st.2⟩
theorem mkT_bit (h : TwM L start nx mk) (s : K5) : mkT nx mk (L : Int) s = 0 ∨ mkT nx mk (L : Int) s = 1 := by
  unfold mkT
  split
  · exact .inl rfl
  · split
    · by_cases e : (lvT nx s ((L : Int) + 1) s.2.2.2.2).toNat < mk.length
      · rw [List.getD_eq_getElem?_getD, List.getElem?_eq_getElem e]
        exact h.bit _ (List.getElem_mem e)
      · rw [List.getD_eq_getElem?_getD, List.getElem?_eq_none (by omega)]
        exact .inl rfl
    · exact .inl rfl
theorem TabT.congr {d : Int → Int → Int × Int} {T : Int → Int} {n : Nat} {hi : Int} {t t' : Int → Int} (h : TabT d T n hi t) (e : ∀ q, 0 ≤ q → q < (n : Int) → t' q = t q) : TabT d T n hi t' := fun q h1 h2 => by
  rw [e q h1 h2]; exact h q h1 h2
theorem tab_f (h : TwM L start nx mk) (s : K5) (a : Nat) : ∀ q, 0 ≤ q → q < (nx.length : Int) → tabAt (fT nx s a) q = lvT nx s a q := fun q h1 h2 => by
  have hn := h.n4
  unfold tabAt
  have : q = 0 ∨ q = 1 ∨ q = 2 ∨ q = 3 := by omega
  rcases this with rfl | rfl | rfl | rfl <;> (simp only [fT, gT, if_pos h2]; rfl)
theorem tab_k0 (h : TwM L start nx mk) : ∀ q, 0 ≤ q → q < (nx.length : Int) → tabAt (k0T nx (L : Int) start) q = bgF (dT nx) (L : Int) q := fun q h1 h2 => by
  have hn := h.n4
  unfold tabAt
  have : q = 0 ∨ q = 1 ∨ q = 2 ∨ q = 3 := by omega
  rcases this with rfl | rfl | rfl | rfl <;> (simp only [k0T, bT, if_pos h2]; rfl)
/-- the tape: the word between its two ends -/
def tapeF (L : Nat) (w : List Int) : List Int := (L : Int) :: (w ++ [(L : Int) + 1])
def TpF (L : Nat) (w : List Int) (p : Int) : Int := (tapeF L w).getD p.toNat (L : Int)
theorem tape_len (L : Nat) (w : List Int) : (tapeF L w).length = w.length + 2 := by simp [tapeF]
theorem Tp_la {w : List Int} (hw : ∀ a ∈ w, 0 ≤ a ∧ a < (L : Int)) (p : Int) : LaT L (TpF L w p) := by
  unfold TpF
  by_cases e : p.toNat < (tapeF L w).length
  · rw [List.getD_eq_getElem?_getD, List.getElem?_eq_getElem e]
    have hm := List.getElem_mem e
    generalize (tapeF L w)[p.toNat] = x at hm
    unfold tapeF at hm
    rcases List.mem_cons.1 hm with rfl | hm
    · exact ⟨by simp only [Option.getD_some]; omega, by simp only [Option.getD_some]; omega⟩
    · rcases List.mem_append.1 hm with hm | hm
      · have := hw x hm; exact ⟨by simp only [Option.getD_some]; omega, by simp only [Option.getD_some]; omega⟩
      · obtain rfl := List.mem_singleton.1 hm; exact ⟨by simp only [Option.getD_some]; omega, by simp only [Option.getD_some]; omega⟩
  · rw [List.getD_eq_getElem?_getD, List.getElem?_eq_none (by omega)]
    exact ⟨by simp only [Option.getD_none]; omega, by simp only [Option.getD_none]; omega⟩
theorem Tp_zero (w : List Int) : TpF L w 0 = (L : Int) := rfl
theorem Tp_at {w : List Int} {i : Nat} (hi : i < w.length) : TpF L w ((i : Int) + 1) = w[i] := by
  unfold TpF tapeF
  rw [show ((i : Int) + 1).toNat = i + 1 from by omega, List.getD_cons_succ, List.getD_eq_getElem?_getD, List.getElem?_append_left hi, List.getElem?_eq_getElem hi]
  rfl
theorem Tp_end (w : List Int) : TpF L w ((w.length : Int) + 1) = (L : Int) + 1 := by
  unfold TpF tapeF
  rw [show ((w.length : Int) + 1).toNat = w.length + 1 from by omega, List.getD_cons_succ, List.getD_eq_getElem?_getD, List.getElem?_append_right (Nat.le_refl _)]
  simp
theorem fold_tab (h : TwM L start nx mk) {w : List Int} (hw : ∀ a ∈ w, 0 ≤ a ∧ a < (L : Int)) : ∀ i, i ≤ w.length → TabT (dT nx) (TpF L w) nx.length (i : Int) (tabAt (((w.take i).map Int.toNat).foldl (fT nx) (k0T nx (L : Int) start))) ∧ BegT (dT nx) (TpF L w) nx.length start (i : Int) (((w.take i).map Int.toNat).foldl (fT nx) (k0T nx (L : Int) start)).2.2.2.2
  | 0, _ => by
    constructor
    · have := tab_begin h.ok (Tp_la hw)
      rw [Tp_zero] at this
      exact this.congr (tab_k0 h)
    · have := beg_begin h.ok (Tp_la hw) h.st.1 h.st.2
      rw [Tp_zero] at this
      exact this
  | i + 1, hi => by
    obtain ⟨h1, h2⟩ := fold_tab h hw i (by omega)
    have hlt : i < w.length := by omega
    have hwi := hw _ (List.getElem_mem hlt)
    rw [List.take_succ_eq_append_getElem hlt, List.map_append, List.foldl_append]
    generalize ((w.take i).map Int.toNat).foldl (fT nx) (k0T nx (L : Int) start) = s at h1 h2
    have e : ((w[i].toNat : Nat) : Int) = w[i] := by omega
    have g1 := tab_step h.ok (Tp_la hw) (by omega) h1
    have g2 := beg_step h.ok (Tp_la hw) (by omega) h1 h.st.1 h.st.2 h2
    rw [Tp_at hlt] at g1 g2
    rw [show ((i + 1 : Nat) : Int) = (i : Int) + 1 from by omega]
    constructor
    · refine g1.congr (fun q q1 q2 => ?_)
      have := tab_f h s w[i].toNat q q1 q2
      rw [e] at this
      exact this
    · simp only [List.map_cons, List.map_nil, List.foldl_cons, List.foldl_nil, fT]
      rw [e]
      exact g2
/-- what the run to and fro tells is what the last table tells -/
theorem two_law (h : TwM L start nx mk) {w : List Int} (hw : ∀ a ∈ w, 0 ≤ a ∧ a < (L : Int)) :
    rnF (dT nx) (TpF L w) (((w.length + 2 : Nat) : Int) - 1) (fun p q => decide (0 < p) && decide (mk.getD q.toNat 0 = 1)) ((w.length + 2) * nx.length + 1) 0 start = decide (mkT nx mk (L : Int) ((w.map Int.toNat).foldl (fT nx) (k0T nx (L : Int) start)) = 1) := by
  obtain ⟨h1, h2⟩ := fold_tab h hw w.length (Nat.le_refl _)
  rw [List.take_length] at h1 h2
  generalize (w.map Int.toNat).foldl (fT nx) (k0T nx (L : Int) start) = s at h1 h2
  have g := beg_step h.ok (Tp_la hw) (by omega) h1 h.st.1 h.st.2 h2
  rw [Tp_end, show (w.length : Int) + 1 = ((w.length + 2 : Nat) : Int) - 1 from by omega] at g
  rw [run_tab h.ok (Tp_la hw) (by omega) h.st.1 h.st.2 g]
  unfold mkT lvT
  by_cases e : s.2.2.2.2 < 0
  · rw [if_pos e, if_pos e]; simp
  · rw [if_neg e, if_neg e]
    by_cases e2 : 0 ≤ lvF (dT nx) (tabAt s) ((L : Int) + 1) (nx.length + 1) s.2.2.2.2
    · rw [if_pos e2, decide_eq_true e2, Bool.true_and]
    · rw [if_neg e2, decide_eq_false e2, Bool.false_and]; simp
/-! ### the automaton -/
def lT (nx : List (List (Int × Int))) (L : Nat) (start : Int) : List K5 := expL (fT nx) L ((UT nx.length).length + 1) [k0T nx (L : Int) start] 0
theorem lT_expl (h : TwM L start nx mk) : Expl (fT nx) L (UT nx.length) (k0T nx (L : Int) start) (lT nx L start) :=
  expl_of (UT_mem.2 (k0T_in h)) (fun k a hk ha => UT_mem.2 (fT_in h (UT_mem.1 hk) ha))
def twR (nx : List (List (Int × Int))) (L : Nat) (start : Int) : List (List Int) := rowsL (fT nx) L (lT nx L start)
def twN (nx : List (List (Int × Int))) (mk : List Int) (L : Nat) (start : Int) : List Int := (lT nx L start).map (mkT nx mk (L : Int))
theorem tw_det (h : TwM L start nx mk) : DetOk L (twR nx L start) (twN nx mk L start) :=
  (lT_expl h).det (by have := UT_len h.n4; omega) h.L1 h.L4 _ (fun x _ => by rcases mkT_bit h x with e | e <;> rw [e] <;> decide)
theorem tw_mark (h : TwM L start nx mk) {w : List Int} (hw : ∀ a ∈ w, 0 ≤ a ∧ a < (L : Int)) : mkF (lstM L (twR nx L start) (twN nx mk L start) 0) (runS (nxF (lstR L (twR nx L start) (twN nx mk L start) 0)) 0 (w.map Int.toNat)) = mkT nx mk (L : Int) ((w.map Int.toNat).foldl (fT nx) (k0T nx (L : Int) start)) := by
  have hd := tw_det h
  have hwn : ∀ a ∈ w.map Int.toNat, a < L := fun a ha => by
    obtain ⟨x, hx, rfl⟩ := List.mem_map.1 ha
    have := hw x hx
    omega
  have hpos : 0 < (twR nx L start).length := hd.pos
  exact (lst_cross hd hpos _ hwn).trans ((lT_expl h).mark _ _ hwn)
end
end Go.Proofs.Ytampgoendkjkhaa.H

namespace Go.Proofs.Ytampgoendkjkhaa.H
open Go.RowKit Go.Shelf Go.Proofs.YtampgoendkjkhaaW.PrintWords Go.Proofs.Ytampgoendkjkhaa.DtM
set_option linter.unusedVariables false
section
variable {κ : Type} [DecidableEq κ]
def rowAtG (f : κ → Nat → κ) (l : List κ) (k : κ) (a : Nat) : List Int := (List.range a).map fun b => (ixd l (f k b) : Int)
def rowsAtG (f : κ → Nat → κ) (L : Nat) (l : List κ) (i : Nat) : List (List Int) := (l.take i).map fun k => rowAtG f l k L
structure ExpPG (L : Nat) (f : κ → Nat → κ) (mk : κ → Int) (U lF : List κ) (i : Nat) (l : List κ) (ms : List Int) (rows : List (List Int)) : Prop where
  il : i ≤ l.length
  iU : i ≤ U.length
  nd : l.Nodup
  sub : ∀ x ∈ l, x ∈ U
  fin : expL f L (U.length + 1 - i) l i = lF
  rows : rows = rowsAtG f L l i
  ms : ms = (l.take i).map mk
  has : ∀ j (hj : j < l.length), j < i → ∀ a, a < L → f l[j] a ∈ l
structure InPG (L : Nat) (f : κ → Nat → κ) (U : List κ) (k : κ) (l lE : List κ) (a : Nat) (l' : List κ) : Prop where
  nd : l'.Nodup
  sub : ∀ x ∈ l', x ∈ U
  fin : stepL f k (L - a) a l' = lE
  has : ∀ b, b < a → f k b ∈ l'
  pre : ∃ m, l' = l ++ m
theorem rowAtG_app {f : κ → Nat → κ} {l : List κ} {k : κ} {a : Nat} (h : ∀ b, b < a → f k b ∈ l) (m : List κ) : rowAtG f (l ++ m) k a = rowAtG f l k a := by
  unfold rowAtG
  apply List.map_congr_left
  intro b hb
  rw [ixd_app (h b (List.mem_range.1 hb))]
theorem rowAtG_succ (f : κ → Nat → κ) (l : List κ) (k : κ) (a : Nat) : rowAtG f l k (a + 1) = rowAtG f l k a ++ [(ixd l (f k a) : Int)] := by
  unfold rowAtG
  rw [List.range_succ, List.map_append]
  rfl
theorem rowAtG_len (f : κ → Nat → κ) (l : List κ) (k : κ) (a : Nat) : (rowAtG f l k a).length = a := by simp [rowAtG]
theorem rowG_next {f : κ → Nat → κ} {l : List κ} {k : κ} {L a : Nat} (ha : a < L) : (rowAtG f l k a ++ List.replicate (L - a) 0).set a (ixd l (f k a) : Int) = rowAtG f l k (a + 1) ++ List.replicate (L - (a + 1)) 0 := by
  obtain ⟨d, hd⟩ : ∃ d, L - a = d + 1 := ⟨L - a - 1, by omega⟩
  rw [rowAtG_succ, hd, show L - (a + 1) = d from by omega, List.replicate_succ, List.set_append_right _ _ (by rw [rowAtG_len]; exact Nat.le_refl _), rowAtG_len, Nat.sub_self, List.set_cons_zero, List.append_assoc]
  rfl
theorem InPG.old {L : Nat} {f : κ → Nat → κ} {U : List κ} {k : κ} {l lE : List κ} {a : Nat} {l' : List κ} (h : InPG L f U k l lE a l') (ha : a < L) (hm : f k a ∈ l') : InPG L f U k l lE (a + 1) l' := by
  refine ⟨h.nd, h.sub, ?_, fun b hb => ?_, h.pre⟩
  · rw [← h.fin, show L - a = (L - (a + 1)) + 1 from by omega, stepL, if_pos hm]
  · by_cases e : b = a
    · subst e; exact hm
    · exact h.has b (by omega)
theorem InPG.new {L : Nat} {f : κ → Nat → κ} {U : List κ} {k : κ} {l lE : List κ} {a : Nat} {l' : List κ} (h : InPG L f U k l lE a l') (ha : a < L) (hm : f k a ∉ l') (hU : f k a ∈ U) : InPG L f U k l lE (a + 1) (l' ++ [f k a]) := by
  refine ⟨?_, fun x hx => ?_, ?_, fun b hb => ?_, ?_⟩
  · rw [List.nodup_append]
    refine ⟨h.nd, by simp, fun x hx y hy e => ?_⟩
    simp only [List.mem_singleton] at hy
    exact hm (by rw [← hy, ← e]; exact hx)
  · rcases List.mem_append.1 hx with hx | hx
    · exact h.sub x hx
    · simp only [List.mem_singleton] at hx; rw [hx]; exact hU
  · rw [← h.fin, show L - a = (L - (a + 1)) + 1 from by omega, stepL, if_neg hm]
  · by_cases e : b = a
    · subst e; simp
    · exact List.mem_append_left _ (h.has b (by omega))
  · obtain ⟨m, hm⟩ := h.pre
    exact ⟨m ++ [f k a], by rw [hm, List.append_assoc]⟩
theorem ExpPG.next {L : Nat} {f : κ → Nat → κ} {mk : κ → Int} {U lF : List κ} {i : Nat} {l : List κ} {ms : List Int} {rows : List (List Int)} (h : ExpPG L f mk U lF i l ms rows) {k : κ} {lE l' : List κ} (hk : ∃ h : i < l.length, l[i] = k) (hE : stepL f k L 0 l = lE) (g : InPG L f U k l lE L l') {mv : Int} (hm : mk k = mv) :
    ExpPG L f mk U lF (i + 1) l' (ms ++ [mv]) (rows ++ [rowAtG f l' k L]) := by
  obtain ⟨hi, hik⟩ := hk
  obtain ⟨m, hl'⟩ := g.pre
  have hlE : l' = lE := by have := g.fin; rw [Nat.sub_self] at this; exact this
  have tk : l'.take (i + 1) = l.take i ++ [k] := by
    rw [hl', List.take_append_of_le_length (by omega), List.take_succ_eq_append_getElem hi, hik]
  refine ⟨by rw [hl', List.length_append]; omega, ?_, g.nd, g.sub, ?_, ?_, ?_, ?_⟩
  · have := nodup_len g.nd g.sub
    rw [hl', List.length_append] at this
    omega
  · have := h.fin
    have hU := nodup_len h.nd h.sub
    rw [show U.length + 1 - i = (U.length + 1 - (i + 1)) + 1 from by omega, expL, dif_pos hi, hik, hE, ← hlE] at this
    exact this
  · unfold rowsAtG
    rw [tk, List.map_append, h.rows]
    unfold rowsAtG
    congr 1
    apply List.map_congr_left
    intro x hx
    obtain ⟨j, hj, rfl⟩ := List.getElem_of_mem hx
    rw [List.length_take] at hj
    rw [List.getElem_take, hl', rowAtG_app (fun b hb => h.has j (by omega) (by omega) b hb)]
  · rw [tk, List.map_append, h.ms, ← hm]
    rfl
  · intro j hj hji b hb
    by_cases e : j = i
    · subst e
      have : l'[j] = k := by
        have e2 : l'[j]? = some k := by rw [hl', List.getElem?_append_left hi, List.getElem?_eq_getElem hi, hik]
        rw [List.getElem?_eq_getElem hj] at e2
        exact Option.some.inj e2
      rw [this]
      exact g.has b hb
    · have hjl : j < l.length := by omega
      have : l'[j] = l[j] := by
        have e2 : l'[j]? = some l[j] := by rw [hl', List.getElem?_append_left hjl, List.getElem?_eq_getElem hjl]
        rw [List.getElem?_eq_getElem hj] at e2
        exact Option.some.inj e2
      rw [this, hl']
      exact List.mem_append_left _ (h.has j hjl (by omega) b hb)
end
end Go.Proofs.Ytampgoendkjkhaa.H

namespace Go.Proofs.Ytampgoendkjkhaa.H
open Go.RowKit Go.Maps Go.Shelf Go.Proofs.YtampgoendkjkhaaW.PrintWords Go.Proofs.Ytampgoendkjkhaa.DtM
set_option linter.unusedVariables false
set_option linter.unusedSimpArgs false
abbrev KW : Type := Int × Int × Int × Int × Int
def csW (x : KW) : List Int := [x.1, x.2.1, x.2.2.1, x.2.2.2.1, x.2.2.2.2]
def encW (x : KW) : Value := .agg #[.int .i64 x.1, .int .i64 x.2.1, .int .i64 x.2.2.1, .int .i64 x.2.2.2.1, .int .i64 x.2.2.2.2]
def okW (x : KW) : Prop := (-9223372036854775808 ≤ x.1 ∧ x.1 ≤ 9223372036854775807) ∧ (-9223372036854775808 ≤ x.2.1 ∧ x.2.1 ≤ 9223372036854775807) ∧ (-9223372036854775808 ≤ x.2.2.1 ∧ x.2.2.1 ≤ 9223372036854775807) ∧ (-9223372036854775808 ≤ x.2.2.2.1 ∧ x.2.2.2.1 ≤ 9223372036854775807) ∧ (-9223372036854775808 ≤ x.2.2.2.2 ∧ x.2.2.2.2 ≤ 9223372036854775807)
def kdW : Kd KW := kArr 5 csW (fun _ => rfl)
theorem kaW_laid : laidOutB Try.prog = true := by kernel_rfl
theorem kaW_row : (201 : TypeId) < Try.prog.types.size := of_decide_eq_true (by kernel_rfl)
theorem kaW_wide : (match Try.prog.underlying 201 with | some (.array _ _) | some (.struct _) => true | _ => false) = true := by kernel_rfl
theorem kaW_kt3 : Try.prog.keyTypeAt 3 201 = true := by kernel_rfl
set_option maxRecDepth 100000 in
theorem kaW_law : WideMaps.KeyLaw Try.prog 201 := deep_law_laid (m := 3) kaW_laid (by decide) kaW_row kaW_kt3 kaW_wide
theorem kaW_kt : Try.prog.keyType 201 = true := by kernel_rfl
theorem kaW_c : Try.prog.cellsOf 201 = 5 := by kernel_rfl
theorem kaW_c3 : Try.prog.cellsOf 3 = 1 := by kernel_rfl
theorem kaW_fm (x0 x1 x2 x3 x4 : Int) : (Value.agg #[.int .i64 x0, .int .i64 x1, .int .i64 x2, .int .i64 x3, .int .i64 x4]).formed Try.prog 201 = true := by
  simp [Value.formed, Try.underlying201, kaW_c]
theorem kaW_kl (n : Nat) (x0 x1 x2 x3 x4 : Int) (h0 : (Lit.int .i64 x0).wf = true) (h1 : (Lit.int .i64 x1).wf = true) (h2 : (Lit.int .i64 x2).wf = true) (h3 : (Lit.int .i64 x3).wf = true) (h4 : (Lit.int .i64 x4).wf = true) : (Try.prog.keyLits (n + 2) 201 [.int .i64 x0, .int .i64 x1, .int .i64 x2, .int .i64 x3, .int .i64 x4]) = some [.int .i64 x0, .int .i64 x1, .int .i64 x2, .int .i64 x3, .int .i64 x4] := by
  simp [Program.keyLits, Try.underlying201, Try.underlying3, kaW_c, kaW_c3, List.range_succ, h0, h1, h2, h3, h4]
theorem kaW_tsz : Try.prog.types.size = (Try.prog.types.size - 1) + 1 := by kernel_rfl
theorem kaW_ko (x0 x1 x2 x3 x4 : Int) (h0 : (Lit.int .i64 x0).wf = true) (h1 : (Lit.int .i64 x1).wf = true) (h2 : (Lit.int .i64 x2).wf = true) (h3 : (Lit.int .i64 x3).wf = true) (h4 : (Lit.int .i64 x4).wf = true) : keyOf Try.prog 201 (.agg #[.int .i64 x0, .int .i64 x1, .int .i64 x2, .int .i64 x3, .int .i64 x4]) = some (.string (keyBytes [.int .i64 x0, .int .i64 x1, .int .i64 x2, .int .i64 x3, .int .i64 x4])) := by
  have hw : ∃ n e, Try.prog.underlying 201 = some (.array n e) := ⟨_, _, Try.underlying201⟩
  obtain ⟨n, e, hu⟩ := hw
  unfold keyOf
  rw [hu]
  simp only [kaW_kt, kaW_fm, Bool.and_self, if_true]
  rw [kaW_tsz]
  have := kaW_kl (Try.prog.types.size - 1) x0 x1 x2 x3 x4 h0 h1 h2 h3 h4
  simp only [Value.cells]
  rw [this]
  rfl
theorem keyW : ∃ E : KeyE Try.prog 201 KW, E.enc = encW ∧ E.ok = okW := ⟨{
  enc := encW
  ok := okW
  K := Keyed.of_law kaW_law
  lit := fun a => .string (keyBytes [.int .i64 a.1, .int .i64 a.2.1, .int .i64 a.2.2.1, .int .i64 a.2.2.2.1, .int .i64 a.2.2.2.2])
  key := fun a h => kaW_ko a.1 a.2.1 a.2.2.1 a.2.2.2.1 a.2.2.2.2 (wf_i64 (by have q := h.1; omega)) (wf_i64 (by have q := h.2.1; omega)) (wf_i64 (by have q := h.2.2.1; omega)) (wf_i64 (by have q := h.2.2.2.1; omega)) (wf_i64 (by have q := h.2.2.2.2; omega))
  inj := fun a b _ _ e => by
    unfold encW at e
    injection e with e
    have e0 := congrArg (fun z => z[0]?) e; have e1 := congrArg (fun z => z[1]?) e; have e2 := congrArg (fun z => z[2]?) e; have e3 := congrArg (fun z => z[3]?) e; have e4 := congrArg (fun z => z[4]?) e
    simp at e0 e1 e2 e3 e4
    exact Prod.ext e0 (Prod.ext e1 (Prod.ext e2 (Prod.ext e3 (e4)))) }, rfl, rfl⟩
theorem kInfoW : (Try.prog.info? 201).map (fun i => (i.zero, i.size, i.bytes)) = some (some (.agg #[.int .i64 0, .int .i64 0, .int .i64 0, .int .i64 0, .int .i64 0]), 5, 40) := by kernel_rfl
def NextAtW (g : Nat) (lb : Array Value) (f : KW → Nat → KW) (U : List KW) (L : Nat) (w : World) : Prop :=
  ∀ (W : World) (k : KW) (a : Nat), Below w.heap.size w W → k ∈ U → a < L → Calls Try.prog g (#[encW k, .int .i64 (a : Int)] ++ lb) W fun e W' => e = .returned (encW (f k a)) ∧ Below W.heap.size W W'
def MarkAtW (g : Nat) (lb : Array Value) (mk : KW → Int) (U : List KW) (w : World) : Prop :=
  ∀ (W : World) (k : KW), Below w.heap.size w W → k ∈ U → Calls Try.prog g (#[encW k] ++ lb) W fun e W' => e = .returned (.int .i64 (mk k)) ∧ Below W.heap.size W W'
structure ExpMW (E : KeyE Try.prog 201 KW) (w wr : World) (av : Nat → Prop) (L : Nat) (x : KW) (l : List KW) (ms : List Int) (rows : List (List Int)) (AL AM AN : Option Addr) (cL cM cN : Nat) (sL sM sN : Nat → Prop) : Prop where
  o : O3g kdW 201 wr (w.heap.size + 4) av (.slice AL l.length cL) l (.slice AM ms.length cM) ms (.slice AN rows.length cN) rows sL sM sN
  m : MapK E wr (w.heap.size + 3) (kvsOf l)
  d : wr.heap[w.heap.size + 2]? = some (.cells #[.int .i64 (L : Int), .int .i64 0, .slice AN rows.length cN, .slice AM ms.length cM] 101 (0, 0))
  r : wr.heap[w.heap.size + 1]? = some (.cells #[.int .i64 0, .int .i64 0, .slice none 0 0, .slice none 0 0] 101 (0, 0))
  b : Below w.heap.size w wr
section
variable {E : KeyE Try.prog 201 KW} {w wr w1 : World} {av av' : Nat → Prop} {L : Nat} {x : KW} {l : List KW} {ms : List Int} {rows : List (List Int)} {AL AM AN : Option Addr} {cL cM cN : Nat} {sL sM sN : Nat → Prop}
theorem ExpMW.below (h : ExpMW E w wr av L x l ms rows AL AM AN cL cM cN sL sM sN) (hb : Below wr.heap.size wr w1) : ExpMW E w w1 av L x l ms rows AL AM AN cL cM cN sL sM sN :=
  ⟨h.o.below hb, h.m.below hb, blk_below h.d hb, blk_below h.r hb, below_step h.b hb⟩
theorem ExpMW.avoid (h : ExpMW E w wr av L x l ms rows AL AM AN cL cM cN sL sM sN) (hav : ∀ k, av' k → av k ∨ wr.heap.size ≤ k) : ExpMW E w wr av' L x l ms rows AL AM AN cL cM cN sL sM sN :=
  ⟨h.o.avoid hav, h.m, h.d, h.r, h.b⟩
theorem ExpMW.setRow (h : ExpMW E w wr av L x l ms rows AL AM AN cL cM cN sL sM sN) {bw : Nat} (hav : av bw) (hb : w.heap.size + 4 ≤ bw) (a : Nat) (u : Value) : ExpMW E w (wr.setCell ⟨bw, a, none⟩ u) av L x l ms rows AL AM AN cL cM cN sL sM sN :=
  ⟨h.o.set (.inr hav) u, h.m.keep (Below.heap_setCell _ ⟨bw, a, none⟩ u _ (by show _ ≠ bw; omega)), blk_far h.d (p := ⟨bw, a, none⟩) (by show _ ≠ bw; omega) u, blk_far h.r (p := ⟨bw, a, none⟩) (by show _ ≠ bw; omega) u, below_set h.b (by omega)⟩
end
set_option maxHeartbeats 16000000 in
set_option maxRecDepth 100000 in
theorem exploreW_calls (g1 g2 : Nat) (lb1 lb2 : Array Value) (eg1 : ∀ args w, (callFunc g1 args).run Try.prog w = .ok (.enter g1 args) w) (eg2 : ∀ args w, (callFunc g2 args).run Try.prog w = .ok (.enter g2 args) w)
    (L : Nat) (x0 x1 x2 x3 x4 : Int) (most : Int) (f : KW → Nat → KW) (mk : KW → Int) (U : List KW) (w : World) (h1 : NextAtW g1 lb1 f U L w) (h2 : MarkAtW g2 lb2 mk U w)
    (hL : 1 ≤ L) (hL4 : L ≤ 1000) (hx : (x0, x1, x2, x3, x4) ∈ U) (hU : ∀ k a, k ∈ U → a < L → f k a ∈ U) (hUk : ∀ k ∈ U, okW k) (hUl : U.length ≤ 900000) (hmost : (U.length : Int) ≤ most) :
    Calls Try.prog 101 #[.int .i64 (L : Int), .agg #[.int .i64 x0, .int .i64 x1, .int .i64 x2, .int .i64 x3, .int .i64 x4], .func (.func g1) #[] lb1, .func (.func g2) #[] lb2, .int .i64 most] w fun e w' => ∃ vN vM : Value, e = .returned (.tuple #[.agg #[.int .i64 (L : Int), .int .i64 0, vN, vM], .bool true]) ∧ Below w.heap.size w w' ∧
      ∃ sN sM : Nat → Prop, (∀ k, sM k → ¬ sN k) ∧ Kd.S (Kd.slice 3 (Kd.int .i64)) 22 w' w.heap.size sN vN (rowsL f L (expL f L (U.length + 1) [(x0, x1, x2, x3, x4)] 0)) ∧ Kd.R (Kd.int .i64) 3 w' w.heap.size sM vM ((expL f L (U.length + 1) [(x0, x1, x2, x3, x4)] 0).map mk) := by
  obtain ⟨E, hE1, hE2⟩ := keyW
  have E1 := Aside0.mk hE1
  have E2 := Aside0.mk hE2
  have H1 := Aside0.mk h1
  have H2 := Aside0.mk h2
  have HX := Aside0.mk hx
  have HU := Aside0.mk hU
  have HUK := Aside0.mk hUk
  have HUL := Aside0.mk hUl
  have HMO := Aside0.mk hmost
  clear h1 h2 hx hU hUk hmost hE1 hE2
  have hmm := @run_makeMap Try.prog
  go_enter Try.func101, Try.ntmps101
  go_wp2_with (first
    | (refine wpList_ins E _ rfl _ _ _ 267 rfl Try.underlying267 (w.heap.size + 3) [] (x0, x1, x2, x3, x4) (.int .i64 0) (by rfl) (by rw [E1.out]; rfl) rfl (mapK_made' _ _ _ (by simp)) (by rw [E2.out]; exact HUK.out _ HX.out) ?_
       intro w2 hM2 ht2
       have e2 : w2.heap.size = w.heap.size + 4 := ht2.size.trans (by simp)
       have XB := Aside0.mk (show w2.heap[w.heap.size]? = some (.cells #[.int .i64 x0, .int .i64 x1, .int .i64 x2, .int .i64 x3, .int .i64 x4] 201 (0, 0)) from (ht2.block _ (by omega)).trans (blk_alloc (blk_alloc (blk_alloc (blk_new w _) _) _) _))
       have xb0 : w2.cell? ⟨w.heap.size, 0, none⟩ = some (.int .i64 x0) := (blk_cell XB.out 0).trans rfl
       have xb1 : w2.cell? ⟨w.heap.size, 1, none⟩ = some (.int .i64 x1) := (blk_cell XB.out 1).trans rfl
       have xb2 : w2.cell? ⟨w.heap.size, 2, none⟩ = some (.int .i64 x2) := (blk_cell XB.out 2).trans rfl
       have xb3 : w2.cell? ⟨w.heap.size, 3, none⟩ = some (.int .i64 x3) := (blk_cell XB.out 3).trans rfl
       have xb4 : w2.cell? ⟨w.heap.size, 4, none⟩ = some (.int .i64 x4) := (blk_cell XB.out 4).trans rfl
       have I0 := Aside0.mk (show ExpMW E w (w2.alloc (.cells #[.int .i64 x0, .int .i64 x1, .int .i64 x2, .int .i64 x3, .int .i64 x4] 201)) (fun _ => False) L (x0, x1, x2, x3, x4) [(x0, x1, x2, x3, x4)] [] [] (some ⟨w.heap.size + 4, 0, none⟩) none none 1 0 0 (fun k => k = w2.heap.size) (fun _ => False) (fun _ => False) from by
         rw [← e2]
         exact { o := { L := arr_lit 5 csW (fun _ => rfl) 201 w2 _ (x0, x1, x2, x3, x4) (by omega), M := Kd.R_nil _ _ _ _ _, N := Kd.S_nil _ _ _ _ _, ltL := fun k hk => (by simp; omega), ltM := fun _ h => h.elim, ltN := fun _ h => h.elim, LM := fun _ _ => id, LN := fun _ _ => id, MN := fun _ _ => id, avL := fun _ _ => id, avM := fun _ _ => id, avN := fun _ _ => id },
                 m := MapK.below hM2 (below_alloc (Below.refl _ _) _),
                 d := blk_alloc ((ht2.block _ (by omega)).trans (blk_alloc (blk_newn _ _ _ (by simp)) _)) _,
                 r := blk_alloc ((ht2.block _ (by omega)).trans (blk_alloc (blk_alloc (blk_newn _ _ _ (by simp)) _) _)) _,
                 b := below_alloc (ht2.below (below_alloc (below_alloc (below_alloc (below_alloc (Below.refl _ _) _) _) _) _) (by omega)) _ })
       clear hM2 ht2)
    | fail)
  generalize w2.alloc (.cells #[.int .i64 x0, .int .i64 x1, .int .i64 x2, .int .i64 x3, .int .i64 x4] 201) = W3 at I0 ⊢
  generalize (some { block := w.heap.size + 4, off := 0 } : Option Addr) = A3 at I0 ⊢
  generalize (fun k => k = w2.heap.size) = s3 at I0
  clear e2 XB xb0 xb1 xb2 xb3 xb4
  have HP0 := Aside0.mk (show ExpPG L f mk U (expL f L (U.length + 1) [(x0, x1, x2, x3, x4)] 0) 0 [(x0, x1, x2, x3, x4)] [] [] from ⟨Nat.zero_le _, Nat.zero_le _, by simp, fun x hx => by simp only [List.mem_singleton] at hx; rw [hx]; exact HX.out, rfl, rfl, rfl, fun j _ hj => by omega⟩)
  obtain ⟨lF, hlF⟩ : ∃ lF, expL f L (U.length + 1) [(x0, x1, x2, x3, x4)] 0 = lF := ⟨_, rfl⟩
  rw [hlF] at HP0
  have HLF := Aside0.mk hlF
  clear hlF
  go_loopg [14] (U.length + 1) (fun gg s14 wr => ∃ (i n iR : Nat) (l : List KW) (ms : List Int) (rows : List (List Int)) (AL AM AN : Option Addr) (cL cM cN : Nat) (sL sM sN : Nat → Prop), U.length + 1 - i ≤ gg ∧ s14 = .slice AL n cL ∧ Aside0 (n = l.length ∧ iR = i) ∧ Aside0 (ExpPG L f mk U lF i l ms rows) ∧ Aside0 (ExpMW E w wr (fun _ => False) L (x0, x1, x2, x3, x4) l ms rows AL AM AN cL cM cN sL sM sN))
  case atStart => exact ⟨0, 1, 0, [(x0, x1, x2, x3, x4)], [], [], A3, none, none, 1, 0, 0, s3, _, _, by omega, rfl, ⟨rfl, rfl⟩, HP0, I0⟩
  case round =>
    obtain ⟨i, n, iR, l, ms, rows, AL, AM, AN, cL, cM, cN, sL, sM, sN, hg, rfl, HN, HP, HM⟩ := hrel
    clear I0 HP0
    have er : rows.length = i := by rw [HP.out.rows]; simp [rowsAtG]; have := HP.out.il; omega
    have em : ms.length = i := by rw [HP.out.ms]; simp; have := HP.out.il; omega
    have hd := HM.out.d
    have d2 : wr.cell? ⟨w.heap.size + 1 + 1, 2, none⟩ = some (.slice AN i cN) := by rw [show w.heap.size + 1 + 1 = w.heap.size + 2 from rfl, blk_cell hd 2, er]; rfl
    have d3 : wr.cell? ⟨w.heap.size + 1 + 1, 3, none⟩ = some (.slice AM i cM) := by rw [show w.heap.size + 1 + 1 = w.heap.size + 2 from rfl, blk_cell hd 3, em]; rfl
    have zd : w.heap.size + 1 + 1 < wr.heap.size := blk_lt hd
    have ER := Aside0.mk (And.intro er em)
    clear hd er em
    have hnU : n ≤ U.length := by rw [HN.out.1]; exact nodup_len HP.out.nd HP.out.sub
    by_cases hlt : i < n
    · have hltz : decide ((i : Int) < (n : Int)) = true := by simp; omega
      have hil : i < l.length := by rw [← HN.out.1]; exact hlt
      obtain ⟨ad, eAL, hk⟩ := arr_get (Kd.R_reads' HM.out.o.L).2.2 rfl hil
      subst eAL
      obtain ⟨gL, rfl⟩ := R_addr HM.out.o.L
      obtain ⟨⟨k0, k1, k2, k3, k4⟩, hkk⟩ : ∃ k, l[i] = k := ⟨_, rfl⟩
      rw [hkk] at hk
      have hk0 : wr.cell? ⟨gL, i * 5, none⟩ = some (.int .i64 k0) := by have q := hk 0 k0 rfl; rw [add_at] at q; exact q
      have hk1 : wr.cell? ⟨gL, i * 5 + 1, none⟩ = some (.int .i64 k1) := by have q := hk 1 k1 rfl; rw [add_at] at q; exact q
      have hk2 : wr.cell? ⟨gL, i * 5 + 2, none⟩ = some (.int .i64 k2) := by have q := hk 2 k2 rfl; rw [add_at] at q; exact q
      have hk3 : wr.cell? ⟨gL, i * 5 + 3, none⟩ = some (.int .i64 k3) := by have q := hk 3 k3 rfl; rw [add_at] at q; exact q
      have hk4 : wr.cell? ⟨gL, i * 5 + 4, none⟩ = some (.int .i64 k4) := by have q := hk 4 k4 rfl; rw [add_at] at q; exact q
      have hkU : (k0, k1, k2, k3, k4) ∈ U := by rw [← hkk]; exact HP.out.sub _ (List.getElem_mem hil)
      have HKU := Aside0.mk hkU
      have HKK := Aside0.mk (show ∃ h : i < l.length, l[i] = (k0, k1, k2, k3, k4) from ⟨hil, hkk⟩)
      obtain ⟨lE, hlE⟩ : ∃ lE, stepL f (k0, k1, k2, k3, k4) L 0 l = lE := ⟨_, rfl⟩
      have HLE := Aside0.mk hlE
      clear hkk hkU hlE hil hk
      obtain ⟨bk, hbk⟩ : ∃ bk, wr.heap.size = bk := ⟨_, rfl⟩
      have HBK := Aside0.mk hbk
      clear hbk
      go_wp2_with (first
        | ((with_reducible refine gate_dst (N := 41) rfl ?_)
           refine Kd.R_make (Kd.int .i64) (w0 := wr.alloc (.cells #[.int .i64 k0, .int .i64 k1, .int .i64 k2, .int .i64 k3, .int .i64 k4] 201)) (wr.alloc (.cells #[.int .i64 k0, .int .i64 k1, .int .i64 k2, .int .i64 k3, .int .i64 k4] 201)).heap.size 3 rfl rfl 22 (.tmp 40) (.tmp 40) rfl (L : Int) rfl rfl Try.underlying22 (.int .i64 0) 8 int3 rfl (by decide) (by decide) (0 : Int) (ok := fun k => (wr.alloc (.cells #[.int .i64 k0, .int .i64 k1, .int .i64 k2, .int .i64 k3, .int .i64 k4] 201)).heap.size ≤ k) (okp := fun _ => False) rfl (fun _ h => h.elim) (Nat.le_refl _) (by omega) (by omega) (Below.refl _ _) (Nat.le_refl _) ?_
           intro v1 w1 hr1 hb1 hg1 hat1
           rw [Int.toNat_natCast] at hr1
           obtain ⟨bw, ebw, hbw⟩ := hat1
           obtain ⟨A1, cw, ev⟩ := Kd.R_slice hr1
           subst ev
           obtain ⟨a1, rfl⟩ : ∃ a1, A1 = some a1 := by cases A1 with
             | none => simp [Value.ownBlock] at ebw
             | some a => exact ⟨a, rfl⟩
           obtain ⟨bw', rfl, hl1, hrow, _, _⟩ := row_of_R hr1
           obtain rfl : bw' = bw := by simpa [Value.ownBlock] using ebw
           have hbw2 : wr.heap.size + 1 ≤ bw' := by simpa using hbw
           have ROW := Aside0.mk hrow
           have HBW := Aside0.mk (show w.heap.size + 4 ≤ bk ∧ bk < bw' by have := HM.out.m.lt; have := HBK.out; omega)
           have M1 := Aside0.mk ((HM.out.avoid (av' := fun k => k = bw' ∨ k = bk) (fun k hk => .inr (by have := HBK.out; omega))).below (below_step (below_alloc (Below.refl _ _) _) hb1))
           have K1 := Aside0.mk (show w1.heap[bk]? = some (.cells #[.int .i64 k0, .int .i64 k1, .int .i64 k2, .int .i64 k3, .int .i64 k4] 201 (0, 0)) from by rw [← HBK.out]; exact blk_below (blk_new wr _) hb1)
           rw [List.length_replicate, HBK.out]
           clear hr1 hb1 hg1 hrow ebw hl1 hbw hbw2)
        | fail)
      have IP0 := Aside0.mk (show InPG L f U (k0, k1, k2, k3, k4) l lE 0 l from ⟨HP.out.nd, HP.out.sub, HLE.out, fun b hb => by omega, [], by simp⟩)
      have R0 := Aside0.mk (show Row w1 bw' (rowAtG f l (k0, k1, k2, k3, k4) 0 ++ List.replicate (L - 0) 0) cw from ROW.out)
      clear ROW hlt hltz hk0 hk1 hk2 hk3 hk4 d2 d3 zd
      go_loopg [14, 43] L (fun gg s14 s43 wq => ∃ (a n' : Nat) (l' : List KW) (AL' : Option Addr) (cL' : Nat) (sL' : Nat → Prop), L - a ≤ gg ∧ a ≤ L ∧ s43 = .int .i64 (a : Int) ∧ s14 = .slice AL' n' cL' ∧ Aside0 (n' = l'.length) ∧ Aside0 (InPG L f U (k0, k1, k2, k3, k4) l lE a l') ∧ Aside0 (Row wq bw' (rowAtG f l' (k0, k1, k2, k3, k4) a ++ List.replicate (L - a) 0) cw) ∧ Aside0 (ExpMW E w wq (fun k => k = bw' ∨ k = bk) L (x0, x1, x2, x3, x4) l' ms rows AL' AM AN cL' cM cN sL' sM sN) ∧ Aside0 (wq.heap[bk]? = some (.cells #[.int .i64 k0, .int .i64 k1, .int .i64 k2, .int .i64 k3, .int .i64 k4] 201 (0, 0))))
      case atStart => exact ⟨0, n, l, some ⟨gL, 0, none⟩, cL, sL, by omega, by omega, rfl, rfl, ⟨HN.out.1⟩, IP0, R0, M1, K1⟩
      case round =>
        obtain ⟨a, n', l', AL', cL', sL', hga, haL, rfl, rfl, HN', IP, RW, MM, KK⟩ := hrel
        clear IP0 R0 M1 K1
        by_cases hal : a < L
        · have hltz : decide ((a : Int) < (L : Int)) = true := by simp; omega
          obtain ⟨⟨t0, t1, t2, t3, t4⟩, htq⟩ : ∃ tq, f (k0, k1, k2, k3, k4) a = tq := ⟨_, rfl⟩
          have htqU : (t0, t1, t2, t3, t4) ∈ U := by rw [← htq]; exact HU.out (k0, k1, k2, k3, k4) a HKU.out hal
          have hok := HUK.out (t0, t1, t2, t3, t4) htqU
          have HTQ := Aside0.mk (And.intro htq htqU)
          have HCALL := Aside0.mk (show Calls Try.prog g1 (#[.agg #[.int .i64 k0, .int .i64 k1, .int .i64 k2, .int .i64 k3, .int .i64 k4], .int .i64 (a : Int)] ++ lb1) wr fun e W' => e = .returned (.agg #[.int .i64 t0, .int .i64 t1, .int .i64 t2, .int .i64 t3, .int .i64 t4]) ∧ Below wr.heap.size wr W' from by have := H1.out wr (k0, k1, k2, k3, k4) a MM.out.b HKU.out hal; rw [htq] at this; exact this)
          have HOK := Aside0.mk hok
          have bc0 : wr.cell? ⟨bk, 0, none⟩ = some (.int .i64 k0) := (blk_cell KK.out 0).trans rfl
          have bc1 : wr.cell? ⟨bk, 1, none⟩ = some (.int .i64 k1) := (blk_cell KK.out 1).trans rfl
          have bc2 : wr.cell? ⟨bk, 2, none⟩ = some (.int .i64 k2) := (blk_cell KK.out 2).trans rfl
          have bc3 : wr.cell? ⟨bk, 3, none⟩ = some (.int .i64 k3) := (blk_cell KK.out 3).trans rfl
          have bc4 : wr.cell? ⟨bk, 4, none⟩ = some (.int .i64 k4) := (blk_cell KK.out 4).trans rfl
          have bcz : bk < wr.heap.size := blk_lt KK.out
          clear htq htqU hok
          have hal2 : (a : Int) < (L : Int) := by omega
          by_cases hm : (t0, t1, t2, t3, t4) ∈ l'
          · obtain ⟨X, hX⟩ : ∃ X : Int, (ixd l' (t0, t1, t2, t3, t4) : Int) = X := ⟨_, rfl⟩
            have HX2 := Aside0.mk hX
            have HLK := Aside0.mk (show lk (kvsOf l') (t0, t1, t2, t3, t4) = some (.int .i64 X) by rw [lk_kvs IP.out.nd, if_pos hm, ixk_ixd, hX])
            have HMM := Aside0.mk hm
            clear hX hm
            go_wp2_with (first
              | (go_at_fn g1
                 refine HCALL.out.mono ?_
                 rintro e w5 ⟨rfl, hb5⟩
                 have M5 := Aside0.mk ((MM.out.below hb5).below (below_alloc (Below.refl _ _) (.cells #[.int .i64 t0, .int .i64 t1, .int .i64 t2, .int .i64 t3, .int .i64 t4] 201)))
                 have R5 := Aside0.mk ((RW.out.below hb5).below (below_alloc (Below.refl _ _) (.cells #[.int .i64 t0, .int .i64 t1, .int .i64 t2, .int .i64 t3, .int .i64 t4] 201)))
                 have K5 := Aside0.mk (blk_alloc (blk_below KK.out hb5) (.cells #[.int .i64 t0, .int .i64 t1, .int .i64 t2, .int .i64 t3, .int .i64 t4] 201))
                 have hlk : (Instr.lookup 267 (.map (some (w.heap.size + 1 + 1 + 1))) (.agg #[.int .i64 t0, .int .i64 t1, .int .i64 t2, .int .i64 t3, .int .i64 t4]) true).run Try.prog (w5.alloc (.cells #[.int .i64 t0, .int .i64 t1, .int .i64 t2, .int .i64 t3, .int .i64 t4] 201)) = .ok (.tuple #[.int .i64 X, .bool true]) (w5.alloc (.cells #[.int .i64 t0, .int .i64 t1, .int .i64 t2, .int .i64 t3, .int .i64 t4] 201)) := by
                   have q := M5.out.m.look (t0, t1, t2, t3, t4) (by rw [E2.out]; exact HOK.out) Try.underlying267 (zero3 _) true
                   rw [HLK.out, E1.out] at q
                   exact q
                 have M50 := Aside0.mk (MM.out.below hb5)
                 have R50 := Aside0.mk (RW.out.below hb5)
                 have K50 := Aside0.mk (blk_below KK.out hb5)
                 have hc5 := (RW.out.below hb5).cell (i := a) (by rw [List.length_append, rowAtG_len, List.length_replicate]; omega)
                 have hf5 := (RW.out.below hb5).frozen a
                 have hz5 := (RW.out.below hb5).lt
                 clear hb5)
              | fail)
            go_roundg (L - (a + 1))
            case measure => omega
            case rel => exact ⟨a + 1, n', l', AL', cL', sL', by omega, by omega, by go_num, rfl, HN', ⟨IP.out.old hal (by rw [HTQ.out.1]; exact HMM.out)⟩, ⟨by have := (R50.out.set (i := a) (by rw [List.length_append, rowAtG_len, List.length_replicate]; omega) X).below (below_alloc (Below.refl _ _) (.cells #[.int .i64 t0, .int .i64 t1, .int .i64 t2, .int .i64 t3, .int .i64 t4] 201)); rw [← HX2.out, ← HTQ.out.1, rowG_next hal] at this; rw [← HX2.out, ← HTQ.out.1]; exact this⟩, ⟨(M50.out.setRow (.inl rfl) (by have := HBW.out; omega) a _).below (below_alloc (Below.refl _ _) _)⟩, ⟨blk_alloc (blk_far K50.out (p := ⟨bw', a, none⟩) (by show bk ≠ bw'; have := HBW.out; omega) _) _⟩⟩
          · have HLK := Aside0.mk (show lk (kvsOf l') (t0, t1, t2, t3, t4) = none by rw [lk_kvs IP.out.nd, if_neg hm])
            have IN := Aside0.mk (show InPG L f U (k0, k1, k2, k3, k4) l lE (a + 1) (l' ++ [(t0, t1, t2, t3, t4)]) from by have := IP.out.new hal (by rw [HTQ.out.1]; exact hm) (by rw [HTQ.out.1]; exact HTQ.out.2); rwa [HTQ.out.1] at this)
            have hnl : n' + 1 ≤ U.length := by
              have := nodup_len IN.out.nd IN.out.sub
              rw [List.length_append] at this
              rw [HN'.out]
              exact this
            have hne : ((n' : Int) == most) = false := beq_eq_false_iff_ne.mpr (by have := HMO.out; omega)
            have HMM := Aside0.mk hm
            have HNL := Aside0.mk hnl
            clear hm hnl
            go_wp2_with (first
              | (go_at_fn g1
                 refine HCALL.out.mono ?_
                 rintro e w5 ⟨rfl, hb5⟩
                 have M5 := Aside0.mk ((MM.out.below hb5).below (below_alloc (Below.refl _ _) (.cells #[.int .i64 t0, .int .i64 t1, .int .i64 t2, .int .i64 t3, .int .i64 t4] 201)))
                 have R5 := Aside0.mk ((RW.out.below hb5).below (below_alloc (Below.refl _ _) (.cells #[.int .i64 t0, .int .i64 t1, .int .i64 t2, .int .i64 t3, .int .i64 t4] 201)))
                 have K5 := Aside0.mk (blk_alloc (blk_below KK.out hb5) (.cells #[.int .i64 t0, .int .i64 t1, .int .i64 t2, .int .i64 t3, .int .i64 t4] 201))
                 have P5 := Aside0.mk (blk_new w5 (.cells #[.int .i64 t0, .int .i64 t1, .int .i64 t2, .int .i64 t3, .int .i64 t4] 201))
                 have hlk : (Instr.lookup 267 (.map (some (w.heap.size + 1 + 1 + 1))) (.agg #[.int .i64 t0, .int .i64 t1, .int .i64 t2, .int .i64 t3, .int .i64 t4]) true).run Try.prog (w5.alloc (.cells #[.int .i64 t0, .int .i64 t1, .int .i64 t2, .int .i64 t3, .int .i64 t4] 201)) = .ok (.tuple #[.int .i64 0, .bool false]) (w5.alloc (.cells #[.int .i64 t0, .int .i64 t1, .int .i64 t2, .int .i64 t3, .int .i64 t4] 201)) := by
                   have q := M5.out.m.look (t0, t1, t2, t3, t4) (by rw [E2.out]; exact HOK.out) Try.underlying267 (zero3 _) true
                   rw [HLK.out, E1.out] at q
                   exact q
                 have HZ5 := Aside0.mk (show w.heap.size + 4 ≤ w5.heap.size ∧ bk < w5.heap.size from by have h1 := MM.out.m.lt; have h2 := hb5.size; have h3 := blk_lt KK.out; omega)
                 clear hb5)
              | (at_mapUpdate
                 refine wpList_upd E _ rfl _ _ _ 267 rfl Try.underlying267 (w.heap.size + 1 + 1 + 1) (kvsOf l') (t0, t1, t2, t3, t4) (.int .i64 (n' : Int)) rfl (by rw [E1.out]; rfl) rfl M5.out.m (by rw [E2.out]; exact HOK.out) ?_
                 intro w6 hM6 ht6
                 rw [HN'.out, put_kvs IP.out.nd HMM.out] at hM6
                 have M6 := Aside0.mk hM6
                 have O6 := Aside0.mk (M5.out.o.turned ht6 (by omega))
                 have D6 := Aside0.mk ((ht6.block _ (by omega)).trans M5.out.d)
                 have Q6 := Aside0.mk ((ht6.block _ (by omega)).trans M5.out.r)
                 have B6 := Aside0.mk (ht6.below M5.out.b (by omega))
                 have R6 := Aside0.mk (R5.out.keep (ht6.block bw' (by have := HBW.out; omega)))
                 have K6 := Aside0.mk ((ht6.block bk (by have := HBW.out; omega)).trans K5.out)
                 have P6 := Aside0.mk ((ht6.block w5.heap.size (by have := HZ5.out; omega)).trans P5.out)
                 have pc0 : w6.cell? ⟨w5.heap.size, 0, none⟩ = some (.int .i64 t0) := (blk_cell P6.out 0).trans rfl
                 have pc1 : w6.cell? ⟨w5.heap.size, 1, none⟩ = some (.int .i64 t1) := (blk_cell P6.out 1).trans rfl
                 have pc2 : w6.cell? ⟨w5.heap.size, 2, none⟩ = some (.int .i64 t2) := (blk_cell P6.out 2).trans rfl
                 have pc3 : w6.cell? ⟨w5.heap.size, 3, none⟩ = some (.int .i64 t3) := (blk_cell P6.out 3).trans rfl
                 have pc4 : w6.cell? ⟨w5.heap.size, 4, none⟩ = some (.int .i64 t4) := (blk_cell P6.out 4).trans rfl
                 clear hM6 ht6)
              | (at_builtin
                 refine Kd.R_append kdW (w0 := w6) (w.heap.size + 4) rfl _ _ 268 201 (.agg #[.int .i64 0, .int .i64 0, .int .i64 0, .int .i64 0, .int .i64 0]) 40 rfl Try.underlying268 kInfoW rfl (by decide) (by decide) (.slice AL' n' cL') l' (t0, t1, t2, t3, t4) [.int .i64 t0, .int .i64 t1, .int .i64 t2, .int .i64 t3, .int .i64 t4] (fun k => sL' k ∨ w6.heap.size ≤ k) (fun _ => False) rfl rfl rfl (fun _ h => h.elim) (fun _ h => .inr h) (Kd.R_mono (by have := O6.out.L; rw [← HN'.out] at this; exact this) (fun _ h => .inl h)) (Below.refl _ _) (by have := M6.out.lt; omega) (by have := HNL.out; rw [← HN'.out]; omega) ?_
                 intro v7 w7 hr7 hb7 hg7 hat7
                 obtain ⟨A7, c7, ev7⟩ := Kd.R_slice hr7
                 subst ev7
                 have hgr : w6.grownBy w7 (Value.slice AL' l'.length cL').ownBlock := by rw [← HN'.out]; exact hg7
                 have hnb : ∀ b, b < w.heap.size + 4 → some b ≠ (Value.slice AL' n' cL').ownBlock := fun b hb e => by
                   have := Kd.R_base O6.out.L b (by rw [← HN'.out]; exact e.symm)
                   omega
                 have hown : ∀ b, (b = bw' ∨ b = bk) → some b ≠ (Value.slice AL' n' cL').ownBlock := fun b hb e => O6.out.avL b (O6.out.L.1 b (by rw [← HN'.out]; exact e.symm)) hb
                 have R7 := Aside0.mk (R6.out.keep (hg7.block bw' R6.out.lt (hown bw' (.inl rfl))))
                 have K7 := Aside0.mk ((hg7.block bk (blk_lt K6.out) (hown bk (.inr rfl))).trans K6.out)
                 have M7 := Aside0.mk (show ExpMW E w w7 (fun k => k = bw' ∨ k = bk) L (x0, x1, x2, x3, x4) (l' ++ [(t0, t1, t2, t3, t4)]) ms rows A7 AM AN c7 cM cN (fun k => (sL' k ∨ w6.heap.size ≤ k) ∧ k < w7.heap.size) sM sN from
                   ⟨O6.out.appL hr7 hgr (fun k hk e => by have h1 := R6.out.lt; have h2 := blk_lt K6.out; rcases e with e | e <;> omega), M6.out.keep (hg7.block _ M6.out.lt (hnb _ (by omega))), (hg7.block _ (blk_lt D6.out) (hnb _ (by omega))).trans D6.out, (hg7.block _ (blk_lt Q6.out) (hnb _ (by omega))).trans Q6.out, B6.out.grown hg7 (by have := M6.out.lt; omega) (fun k hk => by have := Kd.R_base O6.out.L k (by rw [← HN'.out]; exact hk); omega)⟩)
                 obtain ⟨n7, hn7⟩ : ∃ n7, (l' ++ [(t0, t1, t2, t3, t4)]).length = n7 := ⟨_, rfl⟩
                 rw [hn7]
                 have HN7 := Aside0.mk hn7.symm
                 have hc7 := R7.out.cell (i := a) (by rw [List.length_append, rowAtG_len, List.length_replicate]; omega)
                 have hf7 := R7.out.frozen a
                 clear hr7 hb7 hg7 hat7 hgr hnb hn7 hown)
              | fail)
            go_roundg (L - (a + 1))
            case measure => omega
            case rel => exact ⟨a + 1, n7, l' ++ [(t0, t1, t2, t3, t4)], A7, c7, _, by omega, by omega, by go_num, rfl, HN7, IN, ⟨by
                have e1 : rowAtG f l' (k0, k1, k2, k3, k4) a = rowAtG f (l' ++ [(t0, t1, t2, t3, t4)]) (k0, k1, k2, k3, k4) a := (rowAtG_app IP.out.has _).symm
                have e2 : (n' : Int) = (ixd (l' ++ [(t0, t1, t2, t3, t4)]) (f (k0, k1, k2, k3, k4) a) : Int) := by rw [HTQ.out.1, ixd_new HMM.out, HN'.out]
                have := R7.out.set (i := a) (by rw [List.length_append, rowAtG_len, List.length_replicate]; omega) (n' : Int)
                rw [e1, e2, rowG_next hal] at this
                rw [e2]
                exact this⟩, ⟨M7.out.setRow (.inl rfl) (by have := HBW.out; omega) a _⟩, ⟨blk_far K7.out (p := ⟨bw', a, none⟩) (by show bk ≠ bw'; have := HBW.out; omega) _⟩⟩
        · have hae : a = L := by omega
          subst hae
          have hd := MM.out.d
          have d0 : wr.cell? ⟨w.heap.size + 1 + 1, 2, none⟩ = some (.slice AN i cN) := by rw [show w.heap.size + 1 + 1 = w.heap.size + 2 from rfl, blk_cell hd 2, ER.out.1]; rfl
          have f0 : wr.frozen? ⟨w.heap.size + 1 + 1, 2, none⟩ = false := blk_frozen hd 2
          have zd : w.heap.size + 1 + 1 < wr.heap.size := blk_lt hd
          clear hd
          have e0 : rowAtG f l' (k0, k1, k2, k3, k4) a ++ List.replicate (a - a) 0 = rowAtG f l' (k0, k1, k2, k3, k4) a := by rw [Nat.sub_self]; simp
          have RW2 := Aside0.mk (show Row wr bw' (rowAtG f l' (k0, k1, k2, k3, k4) a) cw by have := RW.out; rwa [e0] at this)
          have hiU : i ≤ U.length := HP.out.iU
          clear e0 RW
          go_wp2_with (first
            | (at_builtin
               refine Kd.S_append (Kd.slice 3 (Kd.int .i64)) (w0 := wr) (w.heap.size + 4) rfl _ _ 43 22 (.slice none 0 0) 24 rfl Try.underlying43 row22 rfl (by decide) (by decide) (.slice AN i cN) rows (rowAtG f l' (k0, k1, k2, k3, k4) a) [.slice (some ⟨bw', 0, none⟩) a cw] (fun k => (sN k ∨ k = bw') ∨ wr.heap.size ≤ k) (fun k => k = bw') rfl rfl (Kd.M_row (by have := RW2.out.R (base := w.heap.size + 4) (ok := fun k => k = bw') (by have := HBW.out; omega) rfl; rw [rowAtG_len] at this; exact this)) (fun k hk => ⟨.inl (.inr hk), fun e => MM.out.o.avN k ((Kd.S_R MM.out.o.N).1 k (by rw [ER.out.1]; exact e.symm)) (.inl hk)⟩) (fun _ h => .inr h) (Kd.S_mono (by have := MM.out.o.N; rw [ER.out.1] at this; exact this) (fun k hk => ⟨.inl (.inl hk), fun e => MM.out.o.avN k hk (.inl e)⟩)) (Below.refl _ _) (by have := MM.out.m.lt; omega) (by have := ER.out.1; omega) ?_
               intro v8 w8 hs8 hb8 hg8 hat8
               obtain ⟨A8, c8, ev8⟩ := Kd.S_slice hs8
               subst ev8
               have hgr : wr.grownBy w8 (Value.slice AN rows.length cN).ownBlock := by rw [ER.out.1]; exact hg8
               have hnb : ∀ b, b < w.heap.size + 4 → some b ≠ (Value.slice AN i cN).ownBlock := fun b hb e => by
                 have := Kd.S_base MM.out.o.N b (by rw [ER.out.1]; exact e.symm)
                 omega
               have hnk : some bk ≠ (Value.slice AN i cN).ownBlock := fun e => MM.out.o.avN bk ((Kd.S_R MM.out.o.N).1 bk (by rw [ER.out.1]; exact e.symm)) (.inr rfl)
               have hln : (rows ++ [rowAtG f l' (k0, k1, k2, k3, k4) a]).length = i + 1 := by rw [List.length_append, ER.out.1]; rfl
               have O8 := Aside0.mk (MM.out.o.appN (av' := fun k => k = bk) (.inl rfl) (fun k hk => ⟨.inr hk, by have := HBW.out; omega, by have := blk_lt KK.out; omega⟩) hs8 hgr)
               have D8 := Aside0.mk ((hg8.block _ (blk_lt MM.out.d) (hnb _ (by omega))).trans MM.out.d)
               have Q8 := Aside0.mk ((hg8.block _ (blk_lt MM.out.r) (hnb _ (by omega))).trans MM.out.r)
               have MK8 := Aside0.mk (MM.out.m.keep (hg8.block _ MM.out.m.lt (hnb _ (by omega))))
               have K8 := Aside0.mk ((hg8.block bk (blk_lt KK.out) hnk).trans KK.out)
               have B8 := Aside0.mk (show Below w.heap.size w w8 from MM.out.b.grown hg8 (by have := MM.out.m.lt; omega) (fun k hk => by have := Kd.S_base MM.out.o.N k (by rw [ER.out.1]; exact hk); omega))
               rw [hln]
               have HLN := Aside0.mk hln
               have q2 : w8.cell? ⟨w.heap.size + 1 + 1, 2, none⟩ = some (.slice AN i cN) := by rw [show w.heap.size + 1 + 1 = w.heap.size + 2 from rfl, blk_cell D8.out 2, ER.out.1]; rfl
               have q3 : w8.frozen? ⟨w.heap.size + 1 + 1, 2, none⟩ = false := blk_frozen D8.out 2
               clear hs8 hb8 hg8 hat8 hgr hnb hln hnk)
            | fail)
          have M9 := Aside0.mk (show ExpMW E w (w8.setCell ⟨w.heap.size + 1 + 1, 2, none⟩ (.slice A8 (i + 1) c8)) (fun k => k = bk) a (x0, x1, x2, x3, x4) l' ms (rows ++ [rowAtG f l' (k0, k1, k2, k3, k4) a]) AL' AM A8 cL' cM c8 sL' sM (fun k => ((sN k ∨ k = bw') ∨ wr.heap.size ≤ k) ∧ k < w8.heap.size) from
            ⟨O8.out.set (p := ⟨w.heap.size + 2, 2, none⟩) (.inl (by show w.heap.size + 2 < _; omega)) _, MK8.out.keep (Below.heap_setCell _ ⟨w.heap.size + 2, 2, none⟩ _ _ (by show _ ≠ w.heap.size + 2; omega)), by rw [show w.heap.size + 1 + 1 = w.heap.size + 2 from rfl, blk_set D8.out 2, HLN.out]; rfl, blk_far Q8.out (p := ⟨w.heap.size + 2, 2, none⟩) (by show _ ≠ w.heap.size + 2; omega) _, below_set B8.out (by omega)⟩)
          have K9 := Aside0.mk (blk_far K8.out (p := ⟨w.heap.size + 1 + 1, 2, none⟩) (by show bk ≠ w.heap.size + 1 + 1; have := HBW.out; omega) (.slice A8 (i + 1) c8))
          generalize w8.setCell ⟨w.heap.size + 1 + 1, 2, none⟩ (.slice A8 (i + 1) c8) = W9 at M9 K9 ⊢
          have m3 : W9.cell? ⟨w.heap.size + 1 + 1, 3, none⟩ = some (.slice AM i cM) := by rw [show w.heap.size + 1 + 1 = w.heap.size + 2 from rfl, blk_cell M9.out.d 3, ER.out.2]; rfl
          have zlt : w.heap.size + 1 + 1 < W9.heap.size := blk_lt M9.out.d
          have m40 : W9.cell? ⟨bk, 0, none⟩ = some (.int .i64 k0) := (blk_cell K9.out 0).trans rfl
          have m41 : W9.cell? ⟨bk, 1, none⟩ = some (.int .i64 k1) := (blk_cell K9.out 1).trans rfl
          have m42 : W9.cell? ⟨bk, 2, none⟩ = some (.int .i64 k2) := (blk_cell K9.out 2).trans rfl
          have m43 : W9.cell? ⟨bk, 3, none⟩ = some (.int .i64 k3) := (blk_cell K9.out 3).trans rfl
          have m44 : W9.cell? ⟨bk, 4, none⟩ = some (.int .i64 k4) := (blk_cell K9.out 4).trans rfl
          obtain ⟨mv, hmv⟩ : ∃ mv, mk (k0, k1, k2, k3, k4) = mv := ⟨_, rfl⟩
          have HMV := Aside0.mk hmv
          have HC2 := Aside0.mk (show ∀ W, Below w.heap.size w W → Calls Try.prog g2 (#[.agg #[.int .i64 k0, .int .i64 k1, .int .i64 k2, .int .i64 k3, .int .i64 k4]] ++ lb2) W fun e W' => e = .returned (.int .i64 mv) ∧ Below W.heap.size W W' from fun W hb => by have := H2.out W (k0, k1, k2, k3, k4) hb HKU.out; rw [hmv] at this; exact this)
          clear hmv d0 f0 q2 q3 zd
          go_region_law (first
            | (rw [if_pos (by rfl)]
               go_simp
               go_at_fn g2
               refine (HC2.out _ (by repeat (first | exact M9.out.b | apply below_drew1 | apply pw_below_drewN))).mono ?_
               rintro e w10 ⟨rfl, hb10⟩
               have M10 := Aside0.mk (show ExpMW E w w10 (fun k => k = bk) a (x0, x1, x2, x3, x4) l' ms (rows ++ [rowAtG f l' (k0, k1, k2, k3, k4) a]) AL' AM A8 cL' cM c8 sL' sM (fun k => ((sN k ∨ k = bw') ∨ wr.heap.size ≤ k) ∧ k < w8.heap.size) from M9.out.below (below_step (by repeat (first | exact Below.refl _ _ | apply below_drew1 | apply pw_below_drewN)) hb10))
               have m10 : w10.cell? ⟨w.heap.size + 1 + 1, 3, none⟩ = some (.slice AM i cM) := by rw [show w.heap.size + 1 + 1 = w.heap.size + 2 from rfl, blk_cell M10.out.d 3, ER.out.2]; rfl
               have z10 : w.heap.size + 1 + 1 < w10.heap.size := blk_lt M10.out.d
               clear hb10)
            | (refine' append_int_step (x := mv) (B := w.heap.size + 4) (ok := sM) (.slice AM i cM) ms (.tmp 83) (.tmp 87) 22 (by rfl) (by rfl) Try.underlying22 int3 (by rfl) (by rfl) ?aO ?aC ?aS ?aL ?_
               (case aO => rw [← ER.out.2]; exact (M10.out.o.below (by repeat (first | exact Below.refl _ _ | apply below_drew1 | apply pw_below_drewN | apply below_alloc))).M)
               (case aC => go_simp)
               (case aS => have := M10.out.m.lt; simp; omega)
               (case aL => have := ER.out.2; omega)
               intro v11 w11 hr11 hg11
               have bb := bb_of (w10 := w10) hg11 (by repeat (first | exact Below.refl _ _ | apply below_drew1 | apply pw_below_drewN | apply below_alloc))
               obtain ⟨A11, c11, ev11⟩ := Kd.R_slice hr11
               subst ev11
               have M11 := Aside0.mk ((M10.out.avoid (av' := fun _ => False) (fun _ h => h.elim)).below bb.out)
               have hgr := hg11
               rw [← ER.out.2] at hgr
               have hnb : ∀ b, b < w.heap.size + 4 → some b ≠ (Value.slice AM i cM).ownBlock := fun b hb e => by
                 have := Kd.R_base M11.out.o.M b (by rw [ER.out.2]; exact e.symm)
                 omega
               have hln : (ms ++ [mv]).length = i + 1 := by rw [List.length_append, ER.out.2]; rfl
               have O11 := Aside0.mk (M11.out.o.appM hr11 hgr (fun _ _ => id))
               have D11 := Aside0.mk ((hg11.block _ (blk_lt M11.out.d) (hnb _ (by omega))).trans M11.out.d)
               have Q11 := Aside0.mk ((hg11.block _ (blk_lt M11.out.r) (hnb _ (by omega))).trans M11.out.r)
               have K11 := Aside0.mk (M11.out.m.keep (hg11.block _ M11.out.m.lt (hnb _ (by omega))))
               have B11 := Aside0.mk (show Below w.heap.size w w11 from M11.out.b.grown hg11 (by have := M11.out.m.lt; omega) (fun k hk => by have := Kd.R_base M11.out.o.M k (by rw [ER.out.2]; exact hk); omega))
               rw [hln]
               have HL11 := Aside0.mk hln
               have q11 : w11.cell? ⟨w.heap.size + 1 + 1, 3, none⟩ = some (.slice AM i cM) := by rw [show w.heap.size + 1 + 1 = w.heap.size + 2 from rfl, blk_cell D11.out 3, ER.out.2]; rfl
               have qf11 : w11.frozen? ⟨w.heap.size + 1 + 1, 3, none⟩ = false := blk_frozen D11.out 3
               clear hr11 hg11 hgr hnb hln bb)
            | fail)
          all_goals go_wp2
          all_goals
            go_roundg (U.length + 1 - (i + 1))
            case measure => omega
            case rel => exact ⟨i + 1, n', i + 1, l', ms ++ [mv], rows ++ [rowAtG f l' (k0, k1, k2, k3, k4) a], AL', A11, A8, cL', c11, c8, _, _, _, by omega, rfl, ⟨HN'.out, rfl⟩, ⟨HP.out.next HKK.out HLE.out IP.out HMV.out⟩, ⟨O11.out.set (p := ⟨w.heap.size + 2, 3, none⟩) (.inl (by show w.heap.size + 2 < _; omega)) _, K11.out.keep (Below.heap_setCell _ ⟨w.heap.size + 2, 3, none⟩ _ _ (by show _ ≠ w.heap.size + 2; omega)), by rw [show w.heap.size + 1 + 1 = w.heap.size + 2 from rfl, blk_set D11.out 3, HL11.out]; rfl, blk_far Q11.out (p := ⟨w.heap.size + 2, 3, none⟩) (by show _ ≠ w.heap.size + 2; omega) _, below_set B11.out (by omega)⟩⟩
    · have hin : i = n := by have := HP.out.il; have := HN.out.1; omega
      subst hin
      have hd := HM.out.d
      have hr := HM.out.r
      have d0 : wr.cell? ⟨w.heap.size + 1 + 1, 0, none⟩ = some (.int .i64 (L : Int)) := (blk_cell hd 0).trans rfl
      have d1 : wr.cell? ⟨w.heap.size + 1 + 1, 1, none⟩ = some (.int .i64 0) := (blk_cell hd 1).trans rfl
      have r0 : wr.cell? ⟨w.heap.size + 1, 0, none⟩ = some (.int .i64 0) := (blk_cell hr 0).trans rfl
      have r1 : wr.cell? ⟨w.heap.size + 1, 1, none⟩ = some (.int .i64 0) := (blk_cell hr 1).trans rfl
      have r2 : wr.cell? ⟨w.heap.size + 1, 2, none⟩ = some (.slice none 0 0) := (blk_cell hr 2).trans rfl
      have r3 : wr.cell? ⟨w.heap.size + 1, 3, none⟩ = some (.slice none 0 0) := (blk_cell hr 3).trans rfl
      have f0 := blk_frozen hr 0
      have f1 := blk_frozen hr 1
      have f2 := blk_frozen hr 2
      have f3 := blk_frozen hr 3
      have hil := Aside0.mk (show i = l.length from HN.out.1)
      have FIN := Aside0.mk (show ∃ vN vM : Value, Ending.returned (.tuple #[.agg #[.int .i64 (L : Int), .int .i64 0, .slice AN i cN, .slice AM i cM], .bool true]) = .returned (.tuple #[.agg #[.int .i64 (L : Int), .int .i64 0, vN, vM], .bool true]) ∧ Below w.heap.size w (set4 wr (w.heap.size + 1) (.int .i64 (L : Int)) (.int .i64 0) (.slice AN i cN) (.slice AM i cM)) ∧
          ∃ sN sM : Nat → Prop, (∀ k, sM k → ¬ sN k) ∧ Kd.S (Kd.slice 3 (Kd.int .i64)) 22 (set4 wr (w.heap.size + 1) (.int .i64 (L : Int)) (.int .i64 0) (.slice AN i cN) (.slice AM i cM)) w.heap.size sN vN (rowsL f L lF) ∧ Kd.R (Kd.int .i64) 3 (set4 wr (w.heap.size + 1) (.int .i64 (L : Int)) (.int .i64 0) (.slice AN i cN) (.slice AM i cM)) w.heap.size sM vM (lF.map mk) from by
        have o4 := HM.out.o.set4 (g := w.heap.size + 1) (by omega) (.int .i64 (L : Int)) (.int .i64 0) (.slice AN i cN) (.slice AM i cM)
        have el : l = lF := by
          have := HP.out.fin
          rw [← this]
          obtain ⟨g, hg⟩ : ∃ g, U.length + 1 - i = g + 1 := ⟨U.length - i, by omega⟩
          rw [hg, expL, dif_neg (by have := hil.out; omega)]
        have e1 : rows = rowsL f L lF := by
          rw [HP.out.rows, ← el, hil.out]
          unfold rowsAtG rowsL rowAtG
          rw [List.take_length]
        have e2 : ms = lF.map mk := by rw [HP.out.ms, ← el, hil.out, List.take_length]
        have hle : w.heap.size ≤ w.heap.size + 1 := by omega
        refine ⟨_, _, rfl, below_set (below_set (below_set (below_set HM.out.b hle) hle) hle) hle, sN, sM, o4.MN, ?_, ?_⟩
        · have := Kd.S_lower o4.N (show w.heap.size ≤ w.heap.size + 4 by omega)
          rw [ER.out.1, e1] at this
          exact this
        · have := Kd.R_lower o4.M (show w.heap.size ≤ w.heap.size + 4 by omega)
          rw [ER.out.2, e2] at this
          exact this)
      have zr : w.heap.size + 1 < wr.heap.size := blk_lt hr
      clear hd hr hlt hnU hg
      go_wp2
      refine bodyPost_ret (resD rfl _ _ (w.heap.size + 1) (.int .i64 (L : Int)) (.int .i64 0) (.slice AN i cN) (.slice AM i cM) (.bool true) rfl rfl (by go_simp) (by go_simp) (by go_simp) (by go_simp)) rfl ?_
      have fin := FIN.out
      rw [← HLF.out] at fin
      exact fin
end Go.Proofs.Ytampgoendkjkhaa.H
