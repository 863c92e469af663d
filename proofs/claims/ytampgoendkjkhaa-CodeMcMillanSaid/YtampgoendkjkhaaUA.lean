/- Several texts of this claim in one. -/
import Derived.Test.YtampgoendkjkhaaDtM
import Derived.Test.YtampgoendkjkhaaRow
import Derived.Test.YtampgoendkjkhaaDv
import Derived.OwnWalk
import Derived.Great.Walk
import Derived.Test.YtampgoendkjkhaaNat
import Derived.Test.YtampgoendkjkhaaNoB
import Derived.Test.YtampgoendkjkhaaGet
import Derived.Test.YtampgoendkjkhaaSl
import Derived.Deep.OwnRows
namespace Go.Proofs.Ytampgoendkjkhaa.H
open Go.Proofs.Ytampgoendkjkhaa.DtM
set_option linter.unusedVariables false
set_option linter.unusedSimpArgs false
set_option linter.unusedSectionVars false
/-! ### words that can be told apart: what the search for rests shows -/
section
variable {α : Type}
/-- all words of a row of numbers -/
def catW (l : List (List α)) (s : List Nat) : List α := s.flatMap fun i => l.getD i []
theorem catW_cons (l : List (List α)) (i : Nat) (s : List Nat) : catW l (i :: s) = l.getD i [] ++ catW l s := by simp [catW]
theorem catW_nil (l : List (List α)) : catW l [] = [] := rfl
/-- what the search has: rests from any two words, and from any rest and a word; none of them empty -/
structure RestS (l : List (List α)) (S : List α → Prop) : Prop where
  ne : ∀ i, i < l.length → l.getD i [] ≠ []
  first : ∀ i k, i < l.length → k < l.length → i ≠ k → ∀ r, l.getD i [] = l.getD k [] ++ r → S r
  low : ∀ r k, S r → k < l.length → ∀ r', r = l.getD k [] ++ r' → S r'
  high : ∀ r k, S r → k < l.length → ∀ r', l.getD k [] = r ++ r' → S r'
  no : ¬ S []
theorem split_two {a b c d : List α} (h : a ++ c = b ++ d) : (∃ r, a = b ++ r ∧ r ++ c = d) ∨ (∃ r, b = a ++ r ∧ c = r ++ d) := by
  induction a generalizing b with
  | nil => exact .inr ⟨b, rfl, h⟩
  | cons x a ih =>
    cases b with
    | nil => exact .inl ⟨x :: a, rfl, h⟩
    | cons y b =>
      simp only [List.cons_append, List.cons.injEq] at h
      obtain ⟨rfl, h⟩ := h
      rcases ih h with ⟨r, rfl, h2⟩ | ⟨r, rfl, h2⟩
      · exact .inl ⟨r, rfl, h2⟩
      · exact .inr ⟨r, rfl, h2⟩
def InR (l : List (List α)) (s : List Nat) : Prop := ∀ i ∈ s, i < l.length
/-- a rest that is there never comes out even -/
theorem rest_never {l : List (List α)} {S : List α → Prop} (h : RestS l S) : ∀ (n : Nat) (r : List α) (s t : List Nat), s.length + t.length ≤ n → S r → InR l s → InR l t → r ++ catW l s ≠ catW l t
  | n, r, s, [], _, hr, _, _ => fun e => by
    rw [catW_nil] at e
    obtain ⟨e1, _⟩ := List.append_eq_nil_iff.1 e
    subst e1
    exact h.no hr
  | 0, _, _, _ :: _, hn, _, _, _ => fun _ => by simp at hn
  | n + 1, r, s, k :: t, hn, hr, hs, ht => fun e => by
    have hk := ht k (List.mem_cons_self ..)
    have ht' : InR l t := fun i hi => ht i (List.mem_cons_of_mem _ hi)
    rw [catW_cons] at e
    simp only [List.length_cons] at hn
    rcases split_two e with ⟨r', e1, e2⟩ | ⟨r', e1, e2⟩
    · exact rest_never h n r' s t (by omega) (h.low r k hr hk r' e1) hs ht' e2
    · exact rest_never h n r' t s (by omega) (h.high r k hr hk r' e1) ht' hs e2.symm
/-- words that can be told apart -/
theorem told_apart {l : List (List α)} {S : List α → Prop} (h : RestS l S) : ∀ (s t : List Nat), InR l s → InR l t → catW l s = catW l t → s = t
  | [], [], _, _, _ => rfl
  | [], k :: t, _, ht, e => by
    rw [catW_cons, catW_nil] at e
    exact absurd (List.append_eq_nil_iff.1 e.symm).1 (h.ne k (ht k (List.mem_cons_self ..)))
  | i :: s, [], hs, _, e => by
    rw [catW_cons, catW_nil] at e
    exact absurd (List.append_eq_nil_iff.1 e).1 (h.ne i (hs i (List.mem_cons_self ..)))
  | i :: s, k :: t, hs, ht, e => by
    have hi := hs i (List.mem_cons_self ..)
    have hk := ht k (List.mem_cons_self ..)
    have hs' : InR l s := fun j hj => hs j (List.mem_cons_of_mem _ hj)
    have ht' : InR l t := fun j hj => ht j (List.mem_cons_of_mem _ hj)
    rw [catW_cons, catW_cons] at e
    by_cases hik : i = k
    · subst hik
      rw [told_apart h s t hs' ht' (List.append_cancel_left e)]
    · rcases split_two e with ⟨r, e1, e2⟩ | ⟨r, e1, e2⟩
      · exact absurd e2 (rest_never h _ r s t (Nat.le_refl _) (h.first i k hi hk hik r e1) hs' ht')
      · exact absurd e2.symm (rest_never h _ r t s (Nat.le_refl _) (h.first k i hk hi (fun q => hik q.symm) r e1) ht' hs')
end
/-! ### McMillan: there is room -/
section
variable (L M : Nat) (l : List (List Nat))
/-- all rows of m numbers -/
def seqsN (n : Nat) : Nat → List (List Nat)
  | 0 => [[]]
  | m + 1 => (List.range n).flatMap fun i => (seqsN n m).map fun s => i :: s
theorem seqs_mem {n : Nat} : ∀ {m : Nat} {s : List Nat}, s ∈ seqsN n m ↔ s.length = m ∧ ∀ i ∈ s, i < n
  | 0, s => by
    simp only [seqsN, List.mem_singleton]
    constructor
    · rintro rfl; exact ⟨rfl, fun i h => by cases h⟩
    · intro h; exact List.eq_nil_of_length_eq_zero h.1
  | m + 1, s => by
    simp only [seqsN, List.mem_flatMap, List.mem_map, List.mem_range]
    constructor
    · rintro ⟨i, hi, t, ht, rfl⟩
      obtain ⟨h1, h2⟩ := seqs_mem.1 ht
      exact ⟨by simp [h1], fun j hj => by
        rcases List.mem_cons.1 hj with rfl | hj
        · exact hi
        · exact h2 j hj⟩
    · rintro ⟨h1, h2⟩
      cases s with
      | nil => simp at h1
      | cons i t => exact ⟨i, h2 i (List.mem_cons_self ..), t, seqs_mem.2 ⟨by simpa using h1, fun j hj => h2 j (List.mem_cons_of_mem _ hj)⟩, rfl⟩
def wt (s : List Nat) : Nat := (s.map fun i => L ^ (M - (l.getD i []).length)).foldr (· * ·) 1
def kraft (n : Nat) : Nat := ((List.range n).map fun i => L ^ (M - (l.getD i []).length)).sum
theorem sum_mul_left (a : Nat) (xs : List Nat) : (xs.map fun x => a * x).sum = a * xs.sum := by
  induction xs with
  | nil => simp
  | cons x t ih => simp only [List.map_cons, List.sum_cons, ih, Nat.mul_add]
theorem sum_flat {β : Type} (f : β → List Nat) : ∀ xs : List β, (xs.flatMap f).sum = (xs.map fun x => (f x).sum).sum
  | [] => rfl
  | x :: t => by rw [List.flatMap_cons, List.sum_append, sum_flat f t, List.map_cons, List.sum_cons]
theorem sum_mul_right (a : Nat) (xs : List Nat) : (xs.map fun x => x * a).sum = xs.sum * a := by
  induction xs with
  | nil => simp
  | cons x t ih => simp only [List.map_cons, List.sum_cons, ih, Nat.add_mul]
/-- the sum's power is the sum over all rows -/
theorem kraft_pow (n : Nat) : ∀ m, ((seqsN n m).map (wt L M l)).sum = kraft L M l n ^ m
  | 0 => by simp [seqsN, wt]
  | m + 1 => by
    have ih := kraft_pow n m
    simp only [seqsN]
    rw [List.map_flatMap, sum_flat]
    have : ∀ i, (((seqsN n m).map fun s => i :: s).map (wt L M l)).sum = L ^ (M - (l.getD i []).length) * kraft L M l n ^ m := by
      intro i
      rw [← ih, ← sum_mul_left, List.map_map, List.map_map]
      rfl
    rw [show (fun x => (List.map (wt L M l) (List.map (fun s => x :: s) (seqsN n m))).sum) = fun i => L ^ (M - (l.getD i []).length) * kraft L M l n ^ m from funext this]
    have h2 := sum_mul_right (kraft L M l n ^ m) ((List.range n).map fun i => L ^ (M - (l.getD i []).length))
    rw [List.map_map] at h2
    rw [Nat.pow_succ, Nat.mul_comm]
    exact h2
theorem seqs_nodup (n : Nat) : ∀ m, (seqsN n m).Nodup
  | 0 => by simp [seqsN]
  | m + 1 => by
    simp only [seqsN]
    have ih := seqs_nodup n m
    have : ∀ xs : List Nat, xs.Nodup → (xs.flatMap fun i => (seqsN n m).map fun s => i :: s).Nodup := by
      intro xs
      induction xs with
      | nil => intro _; simp
      | cons x t iht =>
        intro hx
        rw [List.nodup_cons] at hx
        rw [List.flatMap_cons, List.nodup_append]
        refine ⟨?_, iht hx.2, fun a ha b hb e => ?_⟩
        · rw [List.nodup_iff_pairwise_ne, List.pairwise_map]
          exact (List.nodup_iff_pairwise_ne.1 ih).imp fun h e => h (List.cons.inj e).2
        · subst e
          obtain ⟨_, _, rfl⟩ := List.mem_map.1 ha
          obtain ⟨y, hy, hb⟩ := List.mem_flatMap.1 hb
          obtain ⟨_, _, e⟩ := List.mem_map.1 hb
          obtain ⟨rfl, _⟩ := List.cons.inj e
          exact hx.1 hy
    exact this _ List.nodup_range
theorem seqs_len (n : Nat) : ∀ m, (seqsN n m).length = n ^ m
  | 0 => by simp [seqsN]
  | m + 1 => by
    simp only [seqsN, List.length_flatMap, List.length_map, seqs_len n m]
    have h : ∀ xs : List Nat, (xs.map (fun _ => n ^ m)).sum = xs.length * n ^ m := by
      intro xs
      induction xs with
      | nil => simp
      | cons x t ih => rw [List.map_cons, List.sum_cons, ih, List.length_cons, Nat.succ_mul, Nat.add_comm]
    have := h (List.range n)
    rw [List.length_range] at this
    rw [this, Nat.pow_succ, Nat.mul_comm]
/-- a sum by the values of a number that goes with each -/
theorem sum_by {β : Type} (f g : β → Nat) (h : Nat → Nat) : ∀ (B : Nat) (xs : List β), (∀ x ∈ xs, f x ≤ B ∧ g x = h (f x)) → (xs.map g).sum = ((List.range (B + 1)).map fun n => (xs.filter fun x => decide (f x = n)).length * h n).sum := by
  intro B xs
  induction xs with
  | nil =>
    intro _
    have : ∀ N : List Nat, (N.map fun _ => 0).sum = 0 := by
      intro N
      induction N with
      | nil => rfl
      | cons n N ih => rw [List.map_cons, List.sum_cons, ih]
    simp [this]
  | cons x t ih =>
    intro hx
    have h1 := hx x (List.mem_cons_self ..)
    have h2 := ih (fun y hy => hx y (List.mem_cons_of_mem _ hy))
    rw [List.map_cons, List.sum_cons, h2, h1.2]
    have key : ∀ N : List Nat, N.Nodup → (N.map fun n => ((x :: t).filter fun x => decide (f x = n)).length * h n).sum = (if f x ∈ N then h (f x) else 0) + (N.map fun n => (t.filter fun x => decide (f x = n)).length * h n).sum := by
      intro N
      induction N with
      | nil => intro _; simp
      | cons n N ihN =>
        intro hN
        rw [List.nodup_cons] at hN
        have := ihN hN.2
        simp only [List.map_cons, List.sum_cons, this]
        by_cases e : f x = n
        · rw [List.filter_cons_of_pos (by simpa using e), List.length_cons, Nat.succ_mul]
          have hni : ¬ f x ∈ N := by rw [e]; exact hN.1
          have hps : f x ∈ n :: N := by rw [e]; exact List.mem_cons_self ..
          rw [if_neg hni, if_pos hps, e]
          omega
        · rw [List.filter_cons_of_neg (by simpa using e)]
          by_cases e2 : f x ∈ N
          · rw [if_pos e2, if_pos (List.mem_cons_of_mem _ e2)]; omega
          · rw [if_neg e2, if_neg (fun q => (List.mem_cons.1 q).elim e e2)]; omega
    rw [key _ List.nodup_range, if_pos (List.mem_range.2 (by omega))]
theorem sum_le {β : Type} {f g : β → Nat} : ∀ {xs : List β}, (∀ x ∈ xs, f x ≤ g x) → (xs.map f).sum ≤ (xs.map g).sum
  | [], _ => Nat.le_refl _
  | x :: t, h => by
    rw [List.map_cons, List.map_cons, List.sum_cons, List.sum_cons]
    have := h x (List.mem_cons_self ..)
    have := sum_le (xs := t) (fun y hy => h y (List.mem_cons_of_mem _ hy))
    omega
end
section
variable {L M : Nat} {l : List (List Nat)}
theorem cat_len (hM : ∀ i, i < l.length → (l.getD i []).length ≤ M) : ∀ s : List Nat, InR l s → (catW l s).length ≤ M * s.length ∧ wt L M l s = L ^ (M * s.length - (catW l s).length)
  | [], _ => by simp [catW, wt]
  | i :: s, hs => by
    obtain ⟨h1, h2⟩ := cat_len hM s (fun j hj => hs j (List.mem_cons_of_mem _ hj))
    have hi := hM i (hs i (List.mem_cons_self ..))
    rw [catW_cons, List.length_append, List.length_cons, Nat.mul_succ]
    refine ⟨by omega, ?_⟩
    have : wt L M l (i :: s) = L ^ (M - (l.getD i []).length) * wt L M l s := rfl
    rw [this, h2, ← Nat.pow_add]
    congr 1
    omega
theorem count_le (hu : ∀ s t, InR l s → InR l t → catW l s = catW l t → s = t) (hL : ∀ i, i < l.length → ∀ a ∈ l.getD i [], a < L) (m n : Nat) : ((seqsN l.length m).filter fun s => decide ((catW l s).length = n)).length ≤ L ^ n := by
  rw [← seqs_len L n, ← List.length_map (f := catW l)]
  refine nodup_len ?_ (fun x hx => ?_)
  · rw [List.nodup_iff_pairwise_ne, List.pairwise_map]
    have hp := (List.nodup_iff_pairwise_ne.1 (seqs_nodup l.length m)).filter (fun s => decide ((catW l s).length = n))
    refine hp.imp_of_mem fun {a b} ha hb h e => h (hu a b ?_ ?_ e)
    · exact (seqs_mem.1 (List.mem_filter.1 ha).1).2
    · exact (seqs_mem.1 (List.mem_filter.1 hb).1).2
  · obtain ⟨s, hs, rfl⟩ := List.mem_map.1 hx
    obtain ⟨h1, h2⟩ := List.mem_filter.1 hs
    refine seqs_mem.2 ⟨of_decide_eq_true h2, fun a ha => ?_⟩
    obtain ⟨i, hi, hai⟩ := List.mem_flatMap.1 ha
    exact hL i ((seqs_mem.1 h1).2 i hi) a hai
theorem kraft_le (hu : ∀ s t, InR l s → InR l t → catW l s = catW l t → s = t) (hL : ∀ i, i < l.length → ∀ a ∈ l.getD i [], a < L) (hM : ∀ i, i < l.length → (l.getD i []).length ≤ M) (m : Nat) : kraft L M l l.length ^ m ≤ (M * m + 1) * L ^ (M * m) := by
  rw [← kraft_pow]
  rw [sum_by (fun s => (catW l s).length) (wt L M l) (fun n => L ^ (M * m - n)) (M * m) (seqsN l.length m) (fun s hs => by
    obtain ⟨h1, h2⟩ := seqs_mem.1 hs
    have := cat_len (L := L) hM s h2
    rw [h1] at this
    exact this)]
  have h2 : ∀ n ∈ List.range (M * m + 1), ((seqsN l.length m).filter fun s => decide ((catW l s).length = n)).length * L ^ (M * m - n) ≤ L ^ (M * m) := fun n hn => by
    have hn' := List.mem_range.1 hn
    have := Nat.mul_le_mul_right (L ^ (M * m - n)) (count_le hu hL m n)
    rw [← Nat.pow_add, show n + (M * m - n) = M * m from by omega] at this
    exact this
  refine Nat.le_trans (sum_le h2) ?_
  have h : ∀ (c : Nat) (xs : List Nat), (xs.map (fun _ => c)).sum = xs.length * c := by
    intro c xs
    induction xs with
    | nil => simp
    | cons x t ih => rw [List.map_cons, List.sum_cons, ih, List.length_cons, Nat.succ_mul, Nat.add_comm]
  rw [h, List.length_range]
  exact Nat.le_refl _
theorem bern (P : Nat) : ∀ m, (P + m) * P ^ m ≤ P * (P + 1) ^ m
  | 0 => by simp
  | m + 1 => by
    have ih := bern P m
    have h1 : (P + (m + 1)) * P ≤ (P + m) * (P + 1) := by
      have e1 : (P + (m + 1)) * P = (P + m) * P + P := by rw [← Nat.add_assoc, Nat.add_mul, Nat.one_mul]
      have e2 : (P + m) * (P + 1) = (P + m) * P + (P + m) := by rw [Nat.mul_add, Nat.mul_one]
      omega
    calc (P + (m + 1)) * P ^ (m + 1) = ((P + (m + 1)) * P) * P ^ m := by rw [Nat.pow_succ, Nat.mul_assoc, Nat.mul_comm P (P ^ m)]
      _ ≤ ((P + m) * (P + 1)) * P ^ m := Nat.mul_le_mul_right _ h1
      _ = ((P + m) * P ^ m) * (P + 1) := by rw [Nat.mul_assoc, Nat.mul_comm (P + 1), ← Nat.mul_assoc]
      _ ≤ (P * (P + 1) ^ m) * (P + 1) := Nat.mul_le_mul_right _ ih
      _ = P * (P + 1) ^ (m + 1) := by rw [Nat.mul_assoc, Nat.pow_succ]
/-- what grows like a power stays below it -/
theorem pow_bound {K P M : Nat} (hP : 1 ≤ P) (h : ∀ m, K ^ m ≤ (M * m + 1) * P ^ m) : K ≤ P := by
  refine Nat.le_of_not_lt fun hlt => ?_
  obtain ⟨j, hj⟩ : ∃ j, j = P * P * (2 * M + 1) := ⟨_, rfl⟩
  have hj1 : 1 ≤ j := by rw [hj]; exact Nat.mul_pos (Nat.mul_pos hP hP) (by omega)
  have h1 := h (j + j)
  have h2 : (P + 1) ^ (j + j) ≤ K ^ (j + j) := Nat.pow_le_pow_left (by omega) _
  have h3 := bern P j
  have h4 : ((P + j) * P ^ j) * ((P + j) * P ^ j) ≤ (P * (P + 1) ^ j) * (P * (P + 1) ^ j) := Nat.mul_le_mul h3 h3
  have e1 : ((P + j) * P ^ j) * ((P + j) * P ^ j) = ((P + j) * (P + j)) * P ^ (j + j) := by rw [Nat.pow_add]; ac_rfl
  have e2 : (P * (P + 1) ^ j) * (P * (P + 1) ^ j) = (P * P) * (P + 1) ^ (j + j) := by rw [Nat.pow_add]; ac_rfl
  rw [e1, e2] at h4
  have h5 : (P * P) * (P + 1) ^ (j + j) ≤ (P * P) * ((M * (j + j) + 1) * P ^ (j + j)) := Nat.mul_le_mul_left _ (Nat.le_trans h2 h1)
  have h6 := Nat.le_trans h4 h5
  rw [← Nat.mul_assoc] at h6
  have hpp : 0 < P ^ (j + j) := Nat.pow_pos hP
  have h7 := Nat.le_of_mul_le_mul_right h6 hpp
  have h8 : P * P * (M * (j + j) + 1) ≤ j * j := by
    have : j * j = P * P * ((2 * M + 1) * j) := by
      conv => lhs; lhs; rw [hj]
      rw [Nat.mul_assoc]
    rw [this]
    refine Nat.mul_le_mul_left _ ?_
    have e3 : (2 * M + 1) * j = M * (j + j) + j := by rw [Nat.add_mul, Nat.one_mul, Nat.mul_assoc, Nat.two_mul, ← Nat.mul_add]
    omega
  have h9 : j * j < (P + j) * (P + j) := Nat.mul_lt_mul_of_lt_of_le (by omega) (by omega) (by omega)
  omega
/-- MCMILLAN -/
theorem mcmillan (h1 : 1 ≤ L) (hu : ∀ s t, InR l s → InR l t → catW l s = catW l t → s = t) (hL : ∀ i, i < l.length → ∀ a ∈ l.getD i [], a < L) (hM : ∀ i, i < l.length → (l.getD i []).length ≤ M) : kraft L M l l.length ≤ L ^ M :=
  pow_bound (M := M) (Nat.pow_pos h1) (fun m => by rw [← Nat.pow_mul]; exact kraft_le hu hL hM m)
end
/-! ### Kraft: words of sizes, one after the other -/
/-- a row of digits as a number -/
def valD (L : Nat) (ds : List Nat) : Nat := ds.foldl (fun v d => v * L + d) 0
theorem val_app (L : Nat) (ds : List Nat) (d : Nat) : valD L (ds ++ [d]) = valD L ds * L + d := by simp [valD, List.foldl_append]
theorem val_zeros (L : Nat) (ds : List Nat) : ∀ k, valD L (ds ++ List.replicate k 0) = valD L ds * L ^ k
  | 0 => by simp
  | k + 1 => by rw [List.replicate_succ', ← List.append_assoc, val_app, val_zeros L ds k, Nat.add_zero, Nat.pow_succ, Nat.mul_assoc]
theorem val_lt {L : Nat} : ∀ {ds : List Nat}, (∀ d ∈ ds, d < L) → valD L ds < L ^ ds.length ∨ ds = [] := by
  intro ds h
  exact .inl (by
    suffices ∀ n, ∀ ds : List Nat, ds.length = n → (∀ d ∈ ds, d < L) → valD L ds < L ^ n from this _ ds rfl h
    intro n
    induction n with
    | zero => intro ds hl _; rw [List.eq_nil_of_length_eq_zero hl]; simp [valD]
    | succ n ih =>
      intro ds hl hd
      obtain ⟨xs, d, rfl⟩ : ∃ xs d, ds = xs ++ [d] := ⟨ds.dropLast, ds.getLast (by intro e; rw [e] at hl; simp at hl), (List.dropLast_concat_getLast _).symm⟩
      have hx := ih xs (by simpa using hl) (fun y hy => hd y (List.mem_append.2 (.inl hy)))
      have hdl := hd d (List.mem_append.2 (.inr (List.mem_singleton.2 rfl)))
      rw [val_app, Nat.pow_succ]
      have : (valD L xs + 1) * L ≤ L ^ n * L := Nat.mul_le_mul_right _ hx
      rw [Nat.add_mul, Nat.one_mul] at this
      omega)
/-- the next row of digits, from the end on: k places are still to be looked at, those behind were turned to 0 -/
def incD (L : Nat) (ds : List Nat) : Nat → Option (List Nat)
  | 0 => none
  | k + 1 => if ds.getD k 0 = L - 1 then incD L (ds.set k 0) k else some (ds.set k (ds.getD k 0 + 1))
/-- digits split: those ahead of k, and zeros behind -/
theorem inc_spec {L : Nat} (hL : 1 ≤ L) : ∀ (k z : Nat) (xs : List Nat), xs.length = k → (∀ d ∈ xs, d < L) →
    (∃ ys, incD L (xs ++ List.replicate z 0) k = some ys ∧ ys.length = k + z ∧ (∀ d ∈ ys, d < L) ∧ valD L ys = (valD L xs + 1) * L ^ z) ∨ (incD L (xs ++ List.replicate z 0) k = none ∧ valD L xs + 1 = L ^ k)
  | 0, z, xs, hl, _ => by
    rw [List.eq_nil_of_length_eq_zero hl]
    exact .inr ⟨rfl, by simp [valD]⟩
  | k + 1, z, ds, hl, hd => by
    obtain ⟨xs, d, rfl⟩ : ∃ xs d, ds = xs ++ [d] := ⟨ds.dropLast, ds.getLast (by intro e; rw [e] at hl; simp at hl), (List.dropLast_concat_getLast _).symm⟩
    have hxl : xs.length = k := by simpa using hl
    have hx : ∀ y ∈ xs, y < L := fun y hy => hd y (List.mem_append.2 (.inl hy))
    have hdl := hd d (List.mem_append.2 (.inr (List.mem_singleton.2 rfl)))
    have hg : ((xs ++ [d]) ++ List.replicate z 0).getD k 0 = d := by
      rw [List.getD_eq_getElem?_getD, List.append_assoc, List.getElem?_append_right (by omega), hxl, Nat.sub_self]
      rfl
    have hset : ∀ y, ((xs ++ [d]) ++ List.replicate z 0).set k y = xs ++ [y] ++ List.replicate z 0 := fun y => by
      rw [List.append_assoc, List.set_append_right _ _ (by omega), hxl, Nat.sub_self]
      simp
    simp only [incD]
    rw [hg]
    by_cases e : d = L - 1
    · rw [if_pos e, hset 0, List.append_assoc, show [0] ++ List.replicate z 0 = List.replicate (z + 1) 0 from rfl]
      rcases inc_spec hL k (z + 1) xs hxl hx with ⟨ys, h1, h2, h3, h4⟩ | ⟨h1, h2⟩
      · refine .inl ⟨ys, h1, by omega, h3, ?_⟩
        rw [h4, val_app, e, Nat.pow_succ]
        rw [show valD L xs * L + (L - 1) + 1 = (valD L xs + 1) * L from by rw [Nat.add_mul, Nat.one_mul]; omega, Nat.mul_assoc, Nat.mul_comm L]
      · refine .inr ⟨h1, ?_⟩
        rw [val_app, e, Nat.pow_succ, ← h2, Nat.add_mul, Nat.one_mul]
        omega
    · rw [if_neg e, hset (d + 1)]
      refine .inl ⟨_, rfl, by simp; omega, fun y hy => ?_, ?_⟩
      · rcases List.mem_append.1 hy with hy | hy
        · rcases List.mem_append.1 hy with hy | hy
          · exact hx y hy
          · obtain rfl := List.mem_singleton.1 hy; omega
        · have := (List.mem_replicate.1 hy).2; omega
      · rw [val_zeros, val_app, val_app, Nat.add_assoc]
/-- the greedy row: next is the row of digits, none: there is no next one -/
def kraftF (L : Nat) : Option (List Nat) → List Nat → Bool
  | _, [] => true
  | none, _ :: _ => false
  | some ds, s :: t => kraftF L (incD L (ds ++ List.replicate (s - ds.length) 0) s) t
/-- where the sum of all is at most one there is room -/
theorem kraft_room {L : Nat} (hL : 1 ≤ L) (M : Nat) : ∀ (ss : List Nat) (ds : List Nat) (C : Nat), (∀ d ∈ ds, d < L) → ds.length ≤ M → valD L ds * L ^ (M - ds.length) = C → ss.Pairwise (· ≤ ·) → (∀ s ∈ ss, ds.length ≤ s ∧ s ≤ M) → C + (ss.map fun s => L ^ (M - s)).sum ≤ L ^ M → kraftF L (some ds) ss = true
  | [], _, _, _, _, _, _, _, _ => rfl
  | s :: t, ds, C, hd, hl, hC, hs, hb, hsum => by
    have hsb := hb s (List.mem_cons_self ..)
    rw [List.pairwise_cons] at hs
    rw [List.map_cons, List.sum_cons] at hsum
    simp only [kraftF]
    have hz : ∀ d ∈ ds ++ List.replicate (s - ds.length) 0, d < L := fun d hdm => by
      rcases List.mem_append.1 hdm with h | h
      · exact hd d h
      · have := (List.mem_replicate.1 h).2; omega
    have hzl : (ds ++ List.replicate (s - ds.length) 0).length = s := by simp; omega
    have hv : valD L (ds ++ List.replicate (s - ds.length) 0) * L ^ (M - s) = C := by
      rw [val_zeros, Nat.mul_assoc, ← Nat.pow_add, show s - ds.length + (M - s) = M - ds.length from by omega, hC]
    rcases inc_spec hL s 0 (ds ++ List.replicate (s - ds.length) 0) hzl hz with ⟨ys, h1, h2, h3, h4⟩ | ⟨h1, h2⟩
    · rw [List.replicate_zero, List.append_nil] at h1
      rw [h1]
      have hyl : ys.length = s := by omega
      refine kraft_room hL M t ys (C + L ^ (M - s)) h3 (by omega) ?_ hs.2 (fun x hx => ⟨by rw [hyl]; exact hs.1 x hx, (hb x (List.mem_cons_of_mem _ hx)).2⟩) (by omega)
      rw [h4, hyl, Nat.pow_zero, Nat.mul_one, Nat.add_mul, Nat.one_mul, hv]
    · rw [List.replicate_zero, List.append_nil] at h1
      rw [h1]
      cases t with
      | nil => rfl
      | cons x t =>
        exfalso
        have e1 : (valD L (ds ++ List.replicate (s - ds.length) 0) + 1) * L ^ (M - s) = L ^ M := by rw [h2, ← Nat.pow_add, show s + (M - s) = M from by omega]
        rw [Nat.add_mul, Nat.one_mul, hv] at e1
        rw [List.map_cons, List.sum_cons] at hsum
        have : 0 < L ^ (M - x) := Nat.pow_pos hL
        omega
/-! ### the search for rests: what its row holds -/
/-- every rest is the end of a word -/
def EndOf (l : List (List Int)) (r : List Int) : Prop := ∃ i n, i < l.length ∧ r = (l.getD i []).drop n
def endsL (l : List (List Int)) : List (List Int) := l.flatMap fun w => (List.range (w.length + 1)).map fun n => w.drop n
theorem ends_mem {l : List (List Int)} {r : List Int} (h : EndOf l r) : r ∈ endsL l := by
  obtain ⟨i, n, hi, rfl⟩ := h
  have hw : l.getD i [] ∈ l := by rw [List.getD_eq_getElem?_getD, List.getElem?_eq_getElem hi]; exact List.getElem_mem hi
  refine List.mem_flatMap.2 ⟨_, hw, List.mem_map.2 ?_⟩
  by_cases hn : n ≤ (l.getD i []).length
  · exact ⟨n, List.mem_range.2 (by omega), rfl⟩
  · exact ⟨(l.getD i []).length, List.mem_range.2 (by omega), by rw [List.drop_length, List.drop_of_length_le (by omega)]⟩
theorem ends_len {l : List (List Int)} {B : Nat} (h : ∀ w ∈ l, w.length ≤ B) : (endsL l).length ≤ l.length * (B + 1) := by
  unfold endsL
  induction l with
  | nil => simp
  | cons w t ih =>
    have h1 := h w (List.mem_cons_self ..)
    have h2 := ih (fun x hx => h x (List.mem_cons_of_mem _ hx))
    rw [List.flatMap_cons, List.length_append, List.length_map, List.length_range, List.length_cons, Nat.succ_mul]
    omega
/-- the row of rests: each once, each the end of a word -/
structure RowR (l : List (List Int)) (al : List (List Int)) : Prop where
  nd : al.Nodup
  sub : ∀ r ∈ al, EndOf l r
theorem RowR.nil (l : List (List Int)) : RowR l [] := ⟨List.nodup_nil, fun r h => by cases h⟩
theorem RowR.put {l al : List (List Int)} (h : RowR l al) {r : List Int} (hr : EndOf l r) (hn : r ∉ al) : RowR l (al ++ [r]) where
  nd := List.nodup_append.2 ⟨h.nd, by simp, fun a ha b hb e => by
    obtain rfl := List.mem_singleton.1 hb
    subst e
    exact hn ha⟩
  sub := fun x hx => by
    rcases List.mem_append.1 hx with hx | hx
    · exact h.sub x hx
    · obtain rfl := List.mem_singleton.1 hx; exact hr
theorem RowR.len {l al : List (List Int)} (h : RowR l al) {B : Nat} (hB : ∀ w ∈ l, w.length ≤ B) : al.length ≤ l.length * (B + 1) := Nat.le_trans (nodup_len h.nd (fun r hr => ends_mem (h.sub r hr))) (ends_len hB)
/-- the first round: of any two words ahead of (i, k) the rest is in the row -/
def Fst (l al : List (List Int)) (i k : Nat) : Prop := ∀ i' k', i' < l.length → k' < l.length → (i' < i ∨ i' = i ∧ k' < k) → i' ≠ k' → ∀ r, l.getD i' [] = l.getD k' [] ++ r → r ∈ al
/-- the second round: of the rests ahead of place j, with all words, and of that at j with the words ahead of k -/
def Snd (l al : List (List Int)) (j k : Nat) : Prop := ∀ j' k', j' < al.length → k' < l.length → (j' < j ∨ j' = j ∧ k' < k) → ∀ r', (al.getD j' [] = l.getD k' [] ++ r' → r' ∈ al) ∧ (l.getD k' [] = al.getD j' [] ++ r' → r' ∈ al)
def NoE (al : List (List Int)) (j : Nat) : Prop := ∀ j', j' < j → al.getD j' [] ≠ []
theorem Fst.more {l al : List (List Int)} {i k : Nat} (h : Fst l al i k) (m : List (List Int)) : Fst l (al ++ m) i k := fun i' k' h1 h2 h3 h4 r hr => List.mem_append.2 (.inl (h i' k' h1 h2 h3 h4 r hr))
theorem Snd.more {l al : List (List Int)} {j k : Nat} (h : Snd l al j k) (hj : j < al.length) (m : List (List Int)) : Snd l (al ++ m) j k := fun j' k' h1 h2 h3 r' => by
  have hj' : j' < al.length := by omega
  have e : (al ++ m).getD j' [] = al.getD j' [] := by rw [List.getD_eq_getElem?_getD, List.getD_eq_getElem?_getD, List.getElem?_append_left hj']
  rw [e]
  exact ⟨fun q => List.mem_append.2 (.inl ((h j' k' hj' h2 h3 r').1 q)), fun q => List.mem_append.2 (.inl ((h j' k' hj' h2 h3 r').2 q))⟩
/-- all looked at, none empty: told apart -/
theorem row_rests {l al : List (List Int)} (hw : ∀ i, i < l.length → l.getD i [] ≠ []) (h1 : Fst l al l.length 0) (h2 : Snd l al al.length 0) (h3 : NoE al al.length) : RestS l (· ∈ al) where
  ne := hw
  first := fun i k hi hk hik r hr => h1 i k hi hk (.inl hi) hik r hr
  low := fun r k hr hk r' e => by
    obtain ⟨j, hj, rfl⟩ := List.getElem_of_mem hr
    refine (h2 j k hj hk (.inl hj) r').1 ?_
    rw [List.getD_eq_getElem?_getD, List.getElem?_eq_getElem hj]
    exact e
  high := fun r k hr hk r' e => by
    obtain ⟨j, hj, rfl⟩ := List.getElem_of_mem hr
    refine (h2 j k hj hk (.inl hj) r').2 ?_
    rw [show al.getD j [] = al[j] from by rw [List.getD_eq_getElem?_getD, List.getElem?_eq_getElem hj]; rfl]
    exact e
  no := fun hr => by
    obtain ⟨j, hj, e⟩ := List.getElem_of_mem hr
    refine h3 j hj ?_
    rw [List.getD_eq_getElem?_getD, List.getElem?_eq_getElem hj]
    exact e
theorem map_inj {xs ys : List Int} (hx : ∀ a ∈ xs, 0 ≤ a) (hy : ∀ a ∈ ys, 0 ≤ a) (h : xs.map Int.toNat = ys.map Int.toNat) : xs = ys := by
  induction xs generalizing ys with
  | nil => cases ys with
    | nil => rfl
    | cons y t => simp at h
  | cons x t ih => cases ys with
    | nil => simp at h
    | cons y u =>
      simp only [List.map_cons, List.cons.injEq] at h
      have h1 := hx x (List.mem_cons_self ..)
      have h2 := hy y (List.mem_cons_self ..)
      rw [ih (fun a ha => hx a (List.mem_cons_of_mem _ ha)) (fun a ha => hy a (List.mem_cons_of_mem _ ha)) h.2, show x = y from by omega]
/-- a list of words that can be told apart has room -/
theorem room {L : Nat} {l al : List (List Int)} (h1 : 1 ≤ L) (hl : ∀ w ∈ l, 1 ≤ w.length ∧ w.length ≤ 10 ∧ ∀ a ∈ w, 0 ≤ a ∧ a < (L : Int)) (hf : Fst l al l.length 0) (hs : Snd l al al.length 0) (hn : NoE al al.length) : (l.map fun w => L ^ (10 - w.length)).sum ≤ L ^ 10 := by
  have hget : ∀ i, i < l.length → l.getD i [] ∈ l := fun i hi => by rw [List.getD_eq_getElem?_getD, List.getElem?_eq_getElem hi]; exact List.getElem_mem hi
  have hr := row_rests (l := l) (al := al) (fun i hi e => by have := (hl _ (hget i hi)).1; rw [e] at this; simp at this) hf hs hn
  have hta := told_apart hr
  obtain ⟨lN, hlN⟩ : ∃ lN, lN = l.map (fun w => w.map Int.toNat) := ⟨_, rfl⟩
  have hlen : lN.length = l.length := by rw [hlN, List.length_map]
  have hgN : ∀ i, lN.getD i [] = (l.getD i []).map Int.toNat := fun i => by
    rw [hlN, List.getD_eq_getElem?_getD, List.getD_eq_getElem?_getD, List.getElem?_map]
    cases l[i]? <;> rfl
  have hcat : ∀ s, catW lN s = (catW l s).map Int.toNat := fun s => by
    unfold catW
    rw [List.map_flatMap]
    congr 1
    funext i
    exact hgN i
  have hnn : ∀ s, InR l s → ∀ a ∈ catW l s, 0 ≤ a := fun s hs a ha => by
    obtain ⟨i, hi, hai⟩ := List.mem_flatMap.1 ha
    exact ((hl _ (hget i (hs i hi))).2.2 a hai).1
  have hin : ∀ s, InR lN s → InR l s := fun s hs i hi => by have := hs i hi; omega
  have hm := mcmillan (L := L) (M := 10) (l := lN) h1 (fun s t hs ht e => by
    rw [hcat, hcat] at e
    exact hta s t (hin s hs) (hin t ht) (map_inj (hnn s (hin s hs)) (hnn t (hin t ht)) e)) (fun i hi a ha => by
    rw [hgN] at ha
    obtain ⟨x, hx, rfl⟩ := List.mem_map.1 ha
    have := (hl _ (hget i (by omega))).2.2 x hx
    omega) (fun i hi => by rw [hgN, List.length_map]; exact (hl _ (hget i (by omega))).2.1)
  unfold kraft at hm
  have e : ((List.range lN.length).map fun i => L ^ (10 - (lN.getD i []).length)) = l.map fun w => L ^ (10 - w.length) := by
    apply List.ext_getElem
    · simp [hlen]
    · intro i h1 h2
      have hi : i < l.length := by simpa using h2
      simp only [List.getElem_map, List.getElem_range, hgN, List.length_map]
      rw [List.getD_eq_getElem?_getD, List.getElem?_eq_getElem hi]
      rfl
  rw [e] at hm
  exact hm
/-! ### insertion: one more comes into what is sorted -/
theorem sum_set {g : Int → Nat} : ∀ (xs : List Int) (i : Nat) (hi : i < xs.length) (v : Int), ((xs.set i v).map g).sum + g xs[i] = (xs.map g).sum + g v
  | x :: t, 0, _, v => by simp; omega
  | x :: t, i + 1, hi, v => by
    have := sum_set (g := g) t i (by simpa using hi) v
    simp only [List.set_cons_succ, List.map_cons, List.sum_cons, List.getElem_cons_succ]
    omega
def swapL (xs : List Int) (j : Nat) : List Int := (xs.set j (xs.getD (j - 1) 0)).set (j - 1) (xs.getD j 0)
theorem swap_len (xs : List Int) (j : Nat) : (swapL xs j).length = xs.length := by simp [swapL]
theorem swap_get {xs : List Int} {j : Nat} (hj : 0 < j) (hl : j < xs.length) (p : Nat) : (swapL xs j).getD p 0 = if p = j then xs.getD (j - 1) 0 else if p = j - 1 then xs.getD j 0 else xs.getD p 0 := by
  unfold swapL
  simp only [List.getD_eq_getElem?_getD, List.getElem?_set]
  by_cases e1 : j - 1 = p
  · rw [if_pos e1, if_pos (by simp; omega), if_neg (by omega), if_pos e1.symm]; rfl
  · rw [if_neg e1]
    by_cases e2 : j = p
    · rw [if_pos e2, if_pos hl, if_pos e2.symm]; rfl
    · rw [if_neg e2, if_neg (fun q => e2 q.symm), if_neg (fun q => e1 q.symm)]
theorem swap_sum {g : Int → Nat} {xs : List Int} {j : Nat} (hj : 0 < j) (hl : j < xs.length) : ((swapL xs j).map g).sum = (xs.map g).sum := by
  have h1 := sum_set (g := g) xs j hl (xs.getD (j - 1) 0)
  have hl2 : j - 1 < (xs.set j (xs.getD (j - 1) 0)).length := by simp; omega
  have h2 := sum_set (g := g) (xs.set j (xs.getD (j - 1) 0)) (j - 1) hl2 (xs.getD j 0)
  have e1 : (xs.set j (xs.getD (j - 1) 0))[j - 1] = xs.getD (j - 1) 0 := by
    rw [List.getElem_set_ne (by omega)]
    simp [List.getD_eq_getElem?_getD, (by omega : j - 1 < xs.length)]
  have e2 : xs.getD j 0 = xs[j] := by rw [List.getD_eq_getElem?_getD, List.getElem?_eq_getElem hl]; rfl
  rw [e1] at h2
  unfold swapL
  rw [e2] at h2 ⊢
  omega
def SortTo (f : Int → Int) (xs : List Int) (n : Nat) : Prop := ∀ p q, p < q → q < n → f (xs.getD p 0) ≤ f (xs.getD q 0)
/-- all but the one at j sorted up to i; that one is below those behind it -/
def InsAt (f : Int → Int) (xs : List Int) (i j : Nat) : Prop := (∀ p q, p < q → q ≤ i → p ≠ j → q ≠ j → f (xs.getD p 0) ≤ f (xs.getD q 0)) ∧ ∀ q, j < q → q ≤ i → f (xs.getD j 0) ≤ f (xs.getD q 0)
theorem InsAt.start {f : Int → Int} {xs : List Int} {i : Nat} (h : SortTo f xs i) : InsAt f xs i i := ⟨fun p q h1 h2 h3 h4 => h p q h1 (by omega), fun q h1 h2 => by omega⟩
theorem InsAt.swap {f : Int → Int} {xs : List Int} {i j : Nat} (h : InsAt f xs i j) (hj : 0 < j) (hji : j ≤ i) (hl : i < xs.length) (hlt : f (xs.getD j 0) < f (xs.getD (j - 1) 0)) : InsAt f (swapL xs j) i (j - 1) := by
  have g := swap_get (xs := xs) hj (by omega : j < xs.length)
  refine ⟨fun p q h1 h2 h3 h4 => ?_, fun q h1 h2 => ?_⟩
  · rw [g p, g q, if_neg h3, if_neg h4]
    by_cases e1 : p = j
    · rw [if_pos e1]
      by_cases e2 : q = j
      · omega
      · rw [if_neg e2]; exact h.1 (j - 1) q (by omega) h2 (by omega) e2
    · rw [if_neg e1]
      by_cases e2 : q = j
      · rw [if_pos e2]; exact h.1 p (j - 1) (by omega) (by omega) e1 (by omega)
      · rw [if_neg e2]; exact h.1 p q h1 h2 e1 e2
  · rw [g (j - 1), g q, if_neg (by omega), if_pos rfl]
    by_cases e2 : q = j
    · rw [if_pos e2]; omega
    · rw [if_neg e2, if_neg (by omega)]; exact h.2 q (by omega) h2
theorem InsAt.stop {f : Int → Int} {xs : List Int} {i j : Nat} (h : InsAt f xs i j) (hji : j ≤ i) (hs : j = 0 ∨ f (xs.getD (j - 1) 0) ≤ f (xs.getD j 0)) : SortTo f xs (i + 1) := fun p q h1 h2 => by
  by_cases e1 : p = j
  · subst e1; exact h.2 q h1 (by omega)
  · by_cases e2 : q = j
    · subst e2
      rcases hs with hs | hs
      · omega
      · by_cases e3 : p = q - 1
        · subst e3; exact hs
        · exact Int.le_trans (h.1 p (q - 1) (by omega) (by omega) e1 (by omega)) hs
    · exact h.1 p q h1 (by omega) e1 e2
theorem sort_pair {f : Int → Int} {xs : List Int} (h : SortTo f xs xs.length) : (xs.map f).Pairwise (· ≤ ·) := by
  rw [List.pairwise_map, List.pairwise_iff_getElem]
  intro i j hi hj hij
  have := h i j hij hj
  rw [List.getD_eq_getElem?_getD, List.getD_eq_getElem?_getD, List.getElem?_eq_getElem hi, List.getElem?_eq_getElem hj] at this
  exact this
end Go.Proofs.Ytampgoendkjkhaa.H

namespace Go.Proofs.Ytampgoendkjkhaa.H
open Go.RowKit Go.Shelf Go.Proofs.YtampgoendkjkhaaW.PrintWords Go.Proofs.Ytampgoendkjkhaa.DtM
set_option linter.unusedVariables false
set_option linter.unusedSimpArgs false
def cmpV (a b : Int) : Int := if a < b then -1 else if b < a then 1 else 0
/-- a comparing closure that reads nothing above b -/
def CmpAt (g : Nat) (lb : Array Value) (f : Int → Int) (P : Int → Prop) (b : Nat) (w : World) : Prop := ∀ (W : World) (x y : Int), Below b w W → P x → P y → Calls Try.prog g (#[.int .i64 x, .int .i64 y] ++ lb) W fun e w' => e = .returned (.int .i64 (cmpV (f x) (f y))) ∧ Below W.heap.size W w'
structure SrtL (f : Int → Int) (P : Int → Prop) (xs ys : List Int) : Prop where
  len : ys.length = xs.length
  dom : ∀ y ∈ ys, P y
  sum : ∀ g : Int → Nat, (ys.map g).sum = (xs.map g).sum
theorem SrtL.swap {f : Int → Int} {P : Int → Prop} {xs ys : List Int} (h : SrtL f P xs ys) {j : Nat} (hj : 0 < j) (hl : j < ys.length) : SrtL f P xs (swapL ys j) where
  len := by rw [swap_len]; exact h.len
  dom := fun y hy => by
    have hd : ∀ p, p < ys.length → P (ys.getD p 0) := fun p hp => by
      rw [List.getD_eq_getElem?_getD, List.getElem?_eq_getElem hp]
      exact h.dom _ (List.getElem_mem hp)
    obtain ⟨p, hp, rfl⟩ := List.getElem_of_mem hy
    rw [swap_len] at hp
    have e := swap_get hj hl p
    rw [List.getD_eq_getElem?_getD, List.getElem?_eq_getElem (by rw [swap_len]; exact hp)] at e
    have e' : (swapL ys j)[p]'(by rw [swap_len]; exact hp) = _ := e
    rw [e']
    split
    · exact hd _ (by omega)
    · split
      · exact hd _ hl
      · exact hd _ hp
  sum := fun g => by rw [swap_sum hj hl]; exact h.sum g
set_option maxHeartbeats 8000000 in
set_option maxRecDepth 100000 in
theorem ins_calls (g : Nat) (lb : Array Value) (eg : ∀ args w, (callFunc g args).run Try.prog w = .ok (.enter g args) w) (f : Int → Int) (P : Int → Prop) (b c : Nat) (xs : List Int) (w : World) (hc : CmpAt g lb f P b w) (hr : Row w b xs c) (hP : ∀ x ∈ xs, P x) (hn : xs.length ≤ 19) :
    Calls Try.prog 201 #[.slice (some ⟨b, 0, none⟩) xs.length c, .int .i64 0, .int .i64 (xs.length : Int), .func (.func g) #[] lb] w fun e w' => (e = .returned (.tuple #[])) ∧ ∃ ys, Row w' b ys c ∧ SrtL f P xs ys ∧ SortTo f ys ys.length ∧ Below b w w' := by
  have HC := Aside0.mk hc
  have HR := Aside0.mk hr
  have HN := Aside0.mk hn
  have L0 := Aside0.mk (show SrtL f P xs xs from ⟨rfl, hP, fun _ => rfl⟩)
  obtain ⟨n, hnn⟩ : ∃ n, n = xs.length := ⟨_, rfl⟩
  rw [← hnn]
  have HNN := Aside0.mk hnn
  clear hc hr hP hn hnn
  go_enter Try.func201, Try.ntmps201
  go_wp2_with fail
  go_loopg [8, 9] (n + 1) (fun gg s8 _ wr => ∃ (i : Nat) (ys : List Int), 1 ≤ i ∧ (i ≤ n ∨ i = 1) ∧ n + 1 - i ≤ gg ∧ s8 = .int .i64 (i : Int) ∧ Aside0 (Row wr b ys c) ∧ Aside0 (SrtL f P xs ys) ∧ Aside0 (SortTo f ys i) ∧ Aside0 (Below b w wr))
  case atStart => exact ⟨1, xs, Nat.le_refl _, .inr rfl, by omega, rfl, HR, L0, ⟨fun p q h1 h2 => by omega⟩, ⟨Below.refl _ _⟩⟩
  case round =>
    obtain ⟨i, ys, hi1, hin, hgg, rfl, RW, SL, ST, BR⟩ := hrel
    by_cases hlt : i < n
    · have hltz : (i : Int) < (n : Int) := by omega
      have hi19 : (i : Int) ≤ 19 := by have := HN.out; have := HNN.out; omega
      obtain ⟨go, hgo⟩ : ∃ go, go = gk := ⟨_, rfl⟩
      subst hgo
      go_wp2_with fail
      go_loopg [9] (i + 1) (fun gg s9 wr => ∃ (j : Nat) (ys : List Int), j ≤ i ∧ j + 1 ≤ gg ∧ s9 = .int .i64 (j : Int) ∧ Aside0 (Row wr b ys c) ∧ Aside0 (SrtL f P xs ys) ∧ Aside0 (InsAt f ys i j) ∧ Aside0 (Below b w wr))
      case atStart => exact ⟨i, ys, Nat.le_refl _, Nat.le_refl _, rfl, RW, SL, ⟨InsAt.start ST.out⟩, BR⟩
      case round =>
        obtain ⟨j, ys, hji, hgj, rfl, RW, SL, IA, BR⟩ := hrel
        have hln : ys.length = n := by rw [SL.out.len, HNN.out]
        by_cases hj0 : j = 0
        · --< zero
          subst hj0
          have ST2 := Aside0.mk (IA.out.stop hji (.inl rfl))
          have RWd := Aside0.mk (RW.out.below (below_drew1 (Below.refl _ _)))
          have BRd := Aside0.mk (below_drew1 BR.out)
          have hz : decide ((0 : Int) < ((0 : Nat) : Int)) = false := rfl
          go_upto_region 4 with fail
          refine wp_region_held_drew (S := (fun _ => True)) (by kernel_rfl) ?_ (fun hHeld => ?_)
          · (try dsimp only); (first | done | trivial)
          refine wpAnyH_take (i := 0) (v := ?_) rfl (by kernel_rfl) (by kernel_rfl) (by kernel_rfl) (fun _ _ _ h => h) (Or.inl ⟨by kernel_rfl, ?_⟩) (by assumption) ?_
          rotate_left 1
          · intro w hSw; (try dsimp only at hSw); go_simp; (try with_reducible rfl)
          (try simp only [Act.put, List.getElem_toArray, List.getElem_cons_zero, List.getElem_cons_succ, List.setIfInBounds_toArray, List.set_cons_zero, List.set_cons_succ])
          refine wpAnyH_take (i := 1) (v := ?_) rfl (by kernel_rfl) (by kernel_rfl) (by kernel_rfl) (fun _ _ _ h => h) (Or.inl ⟨by kernel_rfl, ?_⟩) (by assumption) ?_
          rotate_left 1
          · intro w hSw; (try dsimp only at hSw); go_simp; (try with_reducible rfl)
          (try simp only [Act.put, List.getElem_toArray, List.getElem_cons_zero, List.getElem_cons_succ, List.setIfInBounds_toArray, List.set_cons_zero, List.set_cons_succ])
          refine wpAnyH_take (i := 2) (v := ?_) rfl (by kernel_rfl) (by kernel_rfl) (by kernel_rfl) (fun _ _ _ h => h) (Or.inl ⟨by kernel_rfl, ?_⟩) (by assumption) ?_
          rotate_left 1
          · intro w hSw; (try dsimp only at hSw); go_simp; (try with_reducible rfl)
          (try simp only [Act.put, List.getElem_toArray, List.getElem_cons_zero, List.getElem_cons_succ, List.setIfInBounds_toArray, List.set_cons_zero, List.set_cons_succ])
          refine wpAnyH_take (i := 3) (v := ?_) rfl (by kernel_rfl) (by kernel_rfl) (by kernel_rfl) (fun _ _ _ h => h) (Or.inl ⟨by kernel_rfl, ?_⟩) (by assumption) ?_
          rotate_left 1
          · intro w hSw; (try dsimp only at hSw); go_simp; (try with_reducible rfl)
          (try simp only [Act.put, List.getElem_toArray, List.getElem_cons_zero, List.getElem_cons_succ, List.setIfInBounds_toArray, List.set_cons_zero, List.set_cons_succ])
          refine wpAnyH_take (i := 4) (v := undef) rfl (by kernel_rfl) (by kernel_rfl) (by kernel_rfl) (fun _ _ _ h => h) (Or.inr ⟨by kernel_rfl, rfl⟩) (by assumption) ?_
          (try simp only [Act.put, List.getElem_toArray, List.getElem_cons_zero, List.getElem_cons_succ, List.setIfInBounds_toArray, List.set_cons_zero, List.set_cons_succ])
          refine wpAnyH_take (i := 5) (v := undef) rfl (by kernel_rfl) (by kernel_rfl) (by kernel_rfl) (fun _ _ _ h => h) (Or.inr ⟨by kernel_rfl, rfl⟩) (by assumption) ?_
          (try simp only [Act.put, List.getElem_toArray, List.getElem_cons_zero, List.getElem_cons_succ, List.setIfInBounds_toArray, List.set_cons_zero, List.set_cons_succ])
          refine wpAnyH_take (i := 6) (v := undef) rfl (by kernel_rfl) (by kernel_rfl) (by kernel_rfl) (fun _ _ _ h => h) (Or.inr ⟨by kernel_rfl, rfl⟩) (by assumption) ?_
          (try simp only [Act.put, List.getElem_toArray, List.getElem_cons_zero, List.getElem_cons_succ, List.setIfInBounds_toArray, List.set_cons_zero, List.set_cons_succ])
          refine wpAnyH_take (i := 7) (v := undef) rfl (by kernel_rfl) (by kernel_rfl) (by kernel_rfl) (fun _ _ _ h => h) (Or.inr ⟨by kernel_rfl, rfl⟩) (by assumption) ?_
          (try simp only [Act.put, List.getElem_toArray, List.getElem_cons_zero, List.getElem_cons_succ, List.setIfInBounds_toArray, List.set_cons_zero, List.set_cons_succ])
          refine wpAnyH_take (i := 8) (v := undef) rfl (by kernel_rfl) (by kernel_rfl) (by kernel_rfl) (fun _ _ _ h => h) (Or.inr ⟨by kernel_rfl, rfl⟩) (by assumption) ?_
          (try simp only [Act.put, List.getElem_toArray, List.getElem_cons_zero, List.getElem_cons_succ, List.setIfInBounds_toArray, List.set_cons_zero, List.set_cons_succ])
          refine wpAnyH_take (i := 9) (v := undef) rfl (by kernel_rfl) (by kernel_rfl) (by kernel_rfl) (fun _ _ _ h => h) (Or.inr ⟨by kernel_rfl, rfl⟩) (by assumption) ?_
          (try simp only [Act.put, List.getElem_toArray, List.getElem_cons_zero, List.getElem_cons_succ, List.setIfInBounds_toArray, List.set_cons_zero, List.set_cons_succ])
          refine wpAnyH_take (i := 10) (v := undef) rfl (by kernel_rfl) (by kernel_rfl) (by kernel_rfl) (fun _ _ _ h => h) (Or.inr ⟨by kernel_rfl, rfl⟩) (by assumption) ?_
          (try simp only [Act.put, List.getElem_toArray, List.getElem_cons_zero, List.getElem_cons_succ, List.setIfInBounds_toArray, List.set_cons_zero, List.set_cons_succ])
          refine wpAnyH_take (i := 11) (v := undef) rfl (by kernel_rfl) (by kernel_rfl) (by kernel_rfl) (fun _ _ _ h => h) (Or.inr ⟨by kernel_rfl, rfl⟩) (by assumption) ?_
          (try simp only [Act.put, List.getElem_toArray, List.getElem_cons_zero, List.getElem_cons_succ, List.setIfInBounds_toArray, List.set_cons_zero, List.set_cons_succ])
          refine wpAnyH_take (i := 12) (v := undef) rfl (by kernel_rfl) (by kernel_rfl) (by kernel_rfl) (fun _ _ _ h => h) (Or.inr ⟨by kernel_rfl, rfl⟩) (by assumption) ?_
          (try simp only [Act.put, List.getElem_toArray, List.getElem_cons_zero, List.getElem_cons_succ, List.setIfInBounds_toArray, List.set_cons_zero, List.set_cons_succ])
          refine wpAnyH_take (i := 13) (v := undef) rfl (by kernel_rfl) (by kernel_rfl) (by kernel_rfl) (fun _ _ _ h => h) (Or.inr ⟨by kernel_rfl, rfl⟩) (by assumption) ?_
          (try simp only [Act.put, List.getElem_toArray, List.getElem_cons_zero, List.getElem_cons_succ, List.setIfInBounds_toArray, List.set_cons_zero, List.set_cons_succ])
          refine wpAnyH_take (i := 14) (v := undef) rfl (by kernel_rfl) (by kernel_rfl) (by kernel_rfl) (fun _ _ _ h => h) (Or.inr ⟨by kernel_rfl, rfl⟩) (by assumption) ?_
          (try simp only [Act.put, List.getElem_toArray, List.getElem_cons_zero, List.getElem_cons_succ, List.setIfInBounds_toArray, List.set_cons_zero, List.set_cons_succ])
          refine wpAnyH_take (i := 15) (v := undef) rfl (by kernel_rfl) (by kernel_rfl) (by kernel_rfl) (fun _ _ _ h => h) (Or.inr ⟨by kernel_rfl, rfl⟩) (by assumption) ?_
          (try simp only [Act.put, List.getElem_toArray, List.getElem_cons_zero, List.getElem_cons_succ, List.setIfInBounds_toArray, List.set_cons_zero, List.set_cons_succ])
          refine wpAnyH_take (i := 16) (v := ?_) rfl (by kernel_rfl) (by kernel_rfl) (by kernel_rfl) (fun _ _ _ h => h) (Or.inl ⟨by kernel_rfl, ?_⟩) (by assumption) ?_
          rotate_left 1
          · intro w hSw; (try dsimp only at hSw); go_simp; (try with_reducible rfl)
          (try simp only [Act.put, List.getElem_toArray, List.getElem_cons_zero, List.getElem_cons_succ, List.setIfInBounds_toArray, List.set_cons_zero, List.set_cons_succ])
          refine wpAnyH_done (by kernel_rfl) ?_ _
          go_wp2_with fail
          go_roundg (n + 1 - (i + 1))
          case measure => omega
          case rel => exact ⟨i + 1, ys, by omega, by omega, by omega, by go_num, RWd, SL, ST2, BRd⟩
          --> zero
        · obtain ⟨k, hjk⟩ : ∃ k, j = k + 1 := ⟨j - 1, by omega⟩
          have HJK := Aside0.mk hjk
          have hjz : (0 : Int) < (j : Int) := by omega
          have hjp : 0 < j := by omega
          have hgt : decide ((0 : Int) < (j : Int)) = true := decide_eq_true hjz
          have hjn : (j : Int) < (n : Int) := by omega
          have hkn : (k : Int) < (n : Int) := by omega
          have hw1 : IntKind.i64.wrap ((j : Int) - 1) = (k : Int) := (IntWalk.i64_in _ (by omega)).trans (by omega)
          obtain ⟨x, hx⟩ : ∃ x, x = ys.getD j 0 := ⟨_, rfl⟩
          obtain ⟨y, hy⟩ : ∃ y, y = ys.getD k 0 := ⟨_, rfl⟩
          have kx : wr.cell? ⟨b, j, none⟩ = some (.int .i64 x) := by rw [hx]; exact RW.out.cell (by omega)
          have ky : wr.cell? ⟨b, k, none⟩ = some (.int .i64 y) := by rw [hy]; exact RW.out.cell (by omega)
          have hPx : P x := SL.out.dom x (by rw [hx, List.getD_eq_getElem?_getD, List.getElem?_eq_getElem (by omega : j < ys.length)]; exact List.getElem_mem _)
          have hPy : P y := SL.out.dom y (by rw [hy, List.getD_eq_getElem?_getD, List.getElem?_eq_getElem (by omega : k < ys.length)]; exact List.getElem_mem _)
          have HCL := Aside0.mk (HC.out wr.drew x y (below_drew1 BR.out) hPx hPy)
          have HMS := Aside0.mk (show ∀ W', Below wr.heap.size wr W' → (fun W' => W'.cell? ⟨b, j, none⟩ = some (.int .i64 x) ∧ W'.cell? ⟨b, k, none⟩ = some (.int .i64 y)) W' from fun W' hb => ⟨pw_cell_below hb kx, pw_cell_below hb ky⟩)
          have HXY := Aside0.mk (And.intro hx hy)
          clear hx hy hPx hPy hjk hj0 hln
          by_cases hxy : f x < f y
          · have HV := Aside0.mk (show cmpV (f x) (f y) = -1 from if_pos hxy)
            rw [HV.out] at HCL
            clear kx ky
            go_upto_region 4 with fail
            refine wp_region_held_drew (S := (fun W' => W'.cell? ⟨b, j, none⟩ = some (.int .i64 x) ∧ W'.cell? ⟨b, k, none⟩ = some (.int .i64 y))) (by kernel_rfl) ?_ (fun hHeld => ?_)
            · (try dsimp only); (first | exact HMS.out _ (below_drew1 (Below.refl _ _)) | exact HMS.out _ B5.out | fail)
            refine wpAnyH_take (i := 0) (v := ?_) rfl (by kernel_rfl) (by kernel_rfl) (by kernel_rfl) (fun _ _ _ h => h) (Or.inl ⟨by kernel_rfl, ?_⟩) (by assumption) ?_
            rotate_left 1
            · intro w hSw; (try dsimp only at hSw); go_simp; (try with_reducible rfl)
            (try simp only [Act.put, List.getElem_toArray, List.getElem_cons_zero, List.getElem_cons_succ, List.setIfInBounds_toArray, List.set_cons_zero, List.set_cons_succ])
            refine wpAnyH_take (i := 1) (v := ?_) rfl (by kernel_rfl) (by kernel_rfl) (by kernel_rfl) (fun _ _ _ h => h) (Or.inl ⟨by kernel_rfl, ?_⟩) (by assumption) ?_
            rotate_left 1
            · intro w hSw; (try dsimp only at hSw); go_simp; (try with_reducible rfl)
            (try simp only [Act.put, List.getElem_toArray, List.getElem_cons_zero, List.getElem_cons_succ, List.setIfInBounds_toArray, List.set_cons_zero, List.set_cons_succ])
            refine wpAnyH_take (i := 2) (v := ?_) rfl (by kernel_rfl) (by kernel_rfl) (by kernel_rfl) (fun _ _ _ h => h) (Or.inl ⟨by kernel_rfl, ?_⟩) (by assumption) ?_
            rotate_left 1
            · intro w hSw; (try dsimp only at hSw); go_simp; (try with_reducible rfl)
            (try simp only [Act.put, List.getElem_toArray, List.getElem_cons_zero, List.getElem_cons_succ, List.setIfInBounds_toArray, List.set_cons_zero, List.set_cons_succ])
            refine wpAnyH_take (i := 3) (v := ?_) rfl (by kernel_rfl) (by kernel_rfl) (by kernel_rfl) (fun _ _ _ h => h) (Or.inl ⟨by kernel_rfl, ?_⟩) (by assumption) ?_
            rotate_left 1
            · intro w hSw; (try dsimp only at hSw); go_simp; (try with_reducible rfl)
            (try simp only [Act.put, List.getElem_toArray, List.getElem_cons_zero, List.getElem_cons_succ, List.setIfInBounds_toArray, List.set_cons_zero, List.set_cons_succ])
            refine wpAnyH_take (i := 4) (v := ?_) rfl (by kernel_rfl) (by kernel_rfl) (by kernel_rfl) (fun _ _ _ h => h) (Or.inl ⟨by kernel_rfl, ?_⟩) (by assumption) ?_
            rotate_left 1
            · intro w hSw; (try dsimp only at hSw); go_simp; (try with_reducible rfl)
            (try simp only [Act.put, List.getElem_toArray, List.getElem_cons_zero, List.getElem_cons_succ, List.setIfInBounds_toArray, List.set_cons_zero, List.set_cons_succ])
            refine wpAnyH_take (i := 5) (v := ?_) rfl (by kernel_rfl) (by kernel_rfl) (by kernel_rfl) (fun _ _ _ h => h) (Or.inl ⟨by kernel_rfl, ?_⟩) (by assumption) ?_
            rotate_left 1
            · intro w hSw; (try dsimp only at hSw); go_simp; (try with_reducible rfl)
            (try simp only [Act.put, List.getElem_toArray, List.getElem_cons_zero, List.getElem_cons_succ, List.setIfInBounds_toArray, List.set_cons_zero, List.set_cons_succ])
            refine wpAnyH_take (i := 6) (v := ?_) rfl (by kernel_rfl) (by kernel_rfl) (by kernel_rfl) (fun _ _ _ h => h) (Or.inl ⟨by kernel_rfl, ?_⟩) (by assumption) ?_
            rotate_left 1
            · intro w hSw; (try dsimp only at hSw); go_simp; (try with_reducible rfl)
            (try simp only [Act.put, List.getElem_toArray, List.getElem_cons_zero, List.getElem_cons_succ, List.setIfInBounds_toArray, List.set_cons_zero, List.set_cons_succ])
            refine wpAnyH_take (i := 7) (v := ?_) rfl (by kernel_rfl) (by kernel_rfl) (by kernel_rfl) (fun _ _ _ h => h) (Or.inl ⟨by kernel_rfl, ?_⟩) (by assumption) ?_
            rotate_left 1
            · intro w hSw; (try dsimp only at hSw); go_simp; (try with_reducible rfl)
            (try simp only [Act.put, List.getElem_toArray, List.getElem_cons_zero, List.getElem_cons_succ, List.setIfInBounds_toArray, List.set_cons_zero, List.set_cons_succ])
            refine wpAnyH_take (i := 8) (v := ?_) rfl (by kernel_rfl) (by kernel_rfl) (by kernel_rfl) (fun _ _ _ h => h) (Or.inl ⟨by kernel_rfl, ?_⟩) (by assumption) ?_
            rotate_left 1
            · intro w hSw; (try dsimp only at hSw); go_simp; (try with_reducible rfl)
            (try simp only [Act.put, List.getElem_toArray, List.getElem_cons_zero, List.getElem_cons_succ, List.setIfInBounds_toArray, List.set_cons_zero, List.set_cons_succ])
            refine wpAnyH_take (i := 9) (v := ?_) rfl (by kernel_rfl) (by kernel_rfl) (by kernel_rfl) (fun _ _ _ h => h) (Or.inl ⟨by kernel_rfl, ?_⟩) (by assumption) ?_
            rotate_left 1
            · intro w hSw; (try dsimp only at hSw); go_simp; (try with_reducible rfl)
            (try simp only [Act.put, List.getElem_toArray, List.getElem_cons_zero, List.getElem_cons_succ, List.setIfInBounds_toArray, List.set_cons_zero, List.set_cons_succ])
            refine wpAnyH_take (i := 10) (v := ?_) rfl (by kernel_rfl) (by kernel_rfl) (by kernel_rfl) (fun _ _ _ h => h) (Or.inl ⟨by kernel_rfl, ?_⟩) (by assumption) ?_
            rotate_left 1
            · intro w hSw; (try dsimp only at hSw); go_simp; (try with_reducible rfl)
            (try simp only [Act.put, List.getElem_toArray, List.getElem_cons_zero, List.getElem_cons_succ, List.setIfInBounds_toArray, List.set_cons_zero, List.set_cons_succ])
            refine wpAnyH_take (i := 11) (v := ?_) rfl (by kernel_rfl) (by kernel_rfl) (by kernel_rfl) (fun _ _ _ h => h) (Or.inl ⟨by kernel_rfl, ?_⟩) (by assumption) ?_
            rotate_left 1
            · intro w hSw; (try dsimp only at hSw); go_simp; (try with_reducible rfl)
            (try simp only [Act.put, List.getElem_toArray, List.getElem_cons_zero, List.getElem_cons_succ, List.setIfInBounds_toArray, List.set_cons_zero, List.set_cons_succ])
            refine wpAnyH_take (i := 12) (v := ?_) rfl (by kernel_rfl) (by kernel_rfl) (by kernel_rfl) (fun _ _ _ h => h) (Or.inl ⟨by kernel_rfl, ?_⟩) (by assumption) ?_
            rotate_left 1
            · intro w hSw; (try dsimp only at hSw); go_simp; (try with_reducible rfl)
            (try simp only [Act.put, List.getElem_toArray, List.getElem_cons_zero, List.getElem_cons_succ, List.setIfInBounds_toArray, List.set_cons_zero, List.set_cons_succ])
            refine wpAnyH_take (i := 13) (v := ?_) rfl (by kernel_rfl) (by kernel_rfl) (by kernel_rfl) (fun _ _ _ h => h) (Or.inl ⟨by kernel_rfl, ?_⟩) (by assumption) ?_
            rotate_left 1
            · intro w hSw; (try dsimp only at hSw); go_simp; (try with_reducible rfl)
            (try simp only [Act.put, List.getElem_toArray, List.getElem_cons_zero, List.getElem_cons_succ, List.setIfInBounds_toArray, List.set_cons_zero, List.set_cons_succ])
            refine wpAnyH_ready (rs := [14]) (by kernel_rfl) (by simp) ?_
            refine AllReadyH.cons rfl (fun K hK => ?_) AllReadyH.nil
            rw [if_pos (by kernel_rfl)]
            go_simp
            (go_at_fn g; refine HCL.out.mono ?_; rintro e w5 ⟨rfl, hb5⟩; have B5 := Aside0.mk (below_step (below_drew1 (Below.refl wr.heap.size wr)) hb5); clear hb5)
            (try go_simp)
            refine hK.out _ _ ?_ (fun hHeld => ?_)
            · (try dsimp only); (first | exact HMS.out _ (below_drew1 (Below.refl _ _)) | exact HMS.out _ B5.out | fail)
            clear hK K
            (try simp only [Act.put, List.getElem_toArray, List.getElem_cons_zero, List.getElem_cons_succ, List.setIfInBounds_toArray, List.set_cons_zero, List.set_cons_succ])
            refine wpAnyH_take (i := 15) (v := ?_) rfl (by kernel_rfl) (by kernel_rfl) (by kernel_rfl) (fun _ _ _ h => h) (Or.inl ⟨by kernel_rfl, ?_⟩) (by assumption) ?_
            rotate_left 1
            · intro w hSw; (try dsimp only at hSw); go_simp; (try with_reducible rfl)
            (try simp only [Act.put, List.getElem_toArray, List.getElem_cons_zero, List.getElem_cons_succ, List.setIfInBounds_toArray, List.set_cons_zero, List.set_cons_succ])
            refine wpAnyH_take (i := 16) (v := ?_) rfl (by kernel_rfl) (by kernel_rfl) (by kernel_rfl) (fun _ _ _ h => h) (Or.inl ⟨by kernel_rfl, ?_⟩) (by assumption) ?_
            rotate_left 1
            · intro w hSw; (try dsimp only at hSw); go_simp; (try with_reducible rfl)
            (try simp only [Act.put, List.getElem_toArray, List.getElem_cons_zero, List.getElem_cons_succ, List.setIfInBounds_toArray, List.set_cons_zero, List.set_cons_succ])
            refine wpAnyH_done (by kernel_rfl) ?_ _
            have R5 := Aside0.mk (RW.out.below B5.out)
            have BR5 := Aside0.mk (BR.out.trans (B5.out.mono (Nat.le_of_lt RW.out.lt)))
            have kx : w5.cell? ⟨b, j, none⟩ = some (.int .i64 x) := pw_cell_below B5.out (by rw [HXY.out.1]; exact RW.out.cell (by rw [SL.out.len, ← HNN.out]; omega))
            have ky : w5.cell? ⟨b, k, none⟩ = some (.int .i64 y) := pw_cell_below B5.out (by rw [HXY.out.2]; exact RW.out.cell (by rw [SL.out.len, ← HNN.out]; omega))
            obtain ⟨rest, hblk, _⟩ := R5.out
            have fx := blk_frozen hblk j
            have fy := blk_frozen hblk k
            have hne : j ≠ k := by have := HJK.out; omega
            have hne2 : k ≠ j := fun h => hne h.symm
            clear hblk
            go_upto_region 6 with fail
            go_region
            have hjl : j < ys.length := by rw [SL.out.len, ← HNN.out]; omega
            have hkl : k < ys.length := by have := HJK.out; omega
            have RS := Aside0.mk (show Row ((w5.setCell ⟨b, j, none⟩ (.int .i64 y)).setCell ⟨b, k, none⟩ (.int .i64 x)).drew b (swapL ys j) c from by
              have h1 := R5.out.set hjl y
              have h2 := h1.set (i := k) (by rw [List.length_set]; exact hkl) x
              have e : swapL ys j = (ys.set j y).set k x := by
                unfold swapL
                rw [show j - 1 = k from by have := HJK.out; omega, ← HXY.out.1, ← HXY.out.2]
              rw [e]
              exact h2.below (below_drew1 (Below.refl _ _)))
            have SL2 := Aside0.mk (SL.out.swap hjp hjl)
            have IA2 := Aside0.mk (IA.out.swap hjp hji (by rw [SL.out.len, ← HNN.out]; omega) (by rw [show j - 1 = k from by have := HJK.out; omega, ← HXY.out.1, ← HXY.out.2]; exact hxy))
            have BRS := Aside0.mk (show Below b w ((w5.setCell ⟨b, j, none⟩ (.int .i64 y)).setCell ⟨b, k, none⟩ (.int .i64 x)).drew from below_drew1 ((turned_set _ ⟨b, k, none⟩ _).below ((turned_set w5 ⟨b, j, none⟩ _).below BR5.out (Nat.le_refl _)) (Nat.le_refl _)))
            have HJ1 := Aside0.mk (show j - 1 = k from by have := HJK.out; omega)
            go_wp2_with fail
            go_roundg j
            case measure => omega
            case rel => exact ⟨k, swapL ys j, by have := HJK.out; omega, by have := HJK.out; omega, rfl, RS, SL2, ⟨by rw [← HJ1.out]; exact IA2.out⟩, BRS⟩
          · have HV := Aside0.mk (show 0 ≤ cmpV (f x) (f y) from by unfold cmpV; rw [if_neg hxy]; split <;> omega)
            obtain ⟨cv, hcv⟩ : ∃ cv, cv = cmpV (f x) (f y) := ⟨_, rfl⟩
            rw [← hcv] at HV HCL
            clear hcv kx ky
            have hv : ¬ cv < 0 := by have := HV.out; omega
            go_upto_region 4 with fail
            refine wp_region_held_drew (S := (fun W' => W'.cell? ⟨b, j, none⟩ = some (.int .i64 x) ∧ W'.cell? ⟨b, k, none⟩ = some (.int .i64 y))) (by kernel_rfl) ?_ (fun hHeld => ?_)
            · (try dsimp only); (first | exact HMS.out _ (below_drew1 (Below.refl _ _)) | exact HMS.out _ B5.out | fail)
            refine wpAnyH_take (i := 0) (v := ?_) rfl (by kernel_rfl) (by kernel_rfl) (by kernel_rfl) (fun _ _ _ h => h) (Or.inl ⟨by kernel_rfl, ?_⟩) (by assumption) ?_
            rotate_left 1
            · intro w hSw; (try dsimp only at hSw); go_simp; (try with_reducible rfl)
            (try simp only [Act.put, List.getElem_toArray, List.getElem_cons_zero, List.getElem_cons_succ, List.setIfInBounds_toArray, List.set_cons_zero, List.set_cons_succ])
            refine wpAnyH_take (i := 1) (v := ?_) rfl (by kernel_rfl) (by kernel_rfl) (by kernel_rfl) (fun _ _ _ h => h) (Or.inl ⟨by kernel_rfl, ?_⟩) (by assumption) ?_
            rotate_left 1
            · intro w hSw; (try dsimp only at hSw); go_simp; (try with_reducible rfl)
            (try simp only [Act.put, List.getElem_toArray, List.getElem_cons_zero, List.getElem_cons_succ, List.setIfInBounds_toArray, List.set_cons_zero, List.set_cons_succ])
            refine wpAnyH_take (i := 2) (v := ?_) rfl (by kernel_rfl) (by kernel_rfl) (by kernel_rfl) (fun _ _ _ h => h) (Or.inl ⟨by kernel_rfl, ?_⟩) (by assumption) ?_
            rotate_left 1
            · intro w hSw; (try dsimp only at hSw); go_simp; (try with_reducible rfl)
            (try simp only [Act.put, List.getElem_toArray, List.getElem_cons_zero, List.getElem_cons_succ, List.setIfInBounds_toArray, List.set_cons_zero, List.set_cons_succ])
            refine wpAnyH_take (i := 3) (v := ?_) rfl (by kernel_rfl) (by kernel_rfl) (by kernel_rfl) (fun _ _ _ h => h) (Or.inl ⟨by kernel_rfl, ?_⟩) (by assumption) ?_
            rotate_left 1
            · intro w hSw; (try dsimp only at hSw); go_simp; (try with_reducible rfl)
            (try simp only [Act.put, List.getElem_toArray, List.getElem_cons_zero, List.getElem_cons_succ, List.setIfInBounds_toArray, List.set_cons_zero, List.set_cons_succ])
            refine wpAnyH_take (i := 4) (v := ?_) rfl (by kernel_rfl) (by kernel_rfl) (by kernel_rfl) (fun _ _ _ h => h) (Or.inl ⟨by kernel_rfl, ?_⟩) (by assumption) ?_
            rotate_left 1
            · intro w hSw; (try dsimp only at hSw); go_simp; (try with_reducible rfl)
            (try simp only [Act.put, List.getElem_toArray, List.getElem_cons_zero, List.getElem_cons_succ, List.setIfInBounds_toArray, List.set_cons_zero, List.set_cons_succ])
            refine wpAnyH_take (i := 5) (v := ?_) rfl (by kernel_rfl) (by kernel_rfl) (by kernel_rfl) (fun _ _ _ h => h) (Or.inl ⟨by kernel_rfl, ?_⟩) (by assumption) ?_
            rotate_left 1
            · intro w hSw; (try dsimp only at hSw); go_simp; (try with_reducible rfl)
            (try simp only [Act.put, List.getElem_toArray, List.getElem_cons_zero, List.getElem_cons_succ, List.setIfInBounds_toArray, List.set_cons_zero, List.set_cons_succ])
            refine wpAnyH_take (i := 6) (v := ?_) rfl (by kernel_rfl) (by kernel_rfl) (by kernel_rfl) (fun _ _ _ h => h) (Or.inl ⟨by kernel_rfl, ?_⟩) (by assumption) ?_
            rotate_left 1
            · intro w hSw; (try dsimp only at hSw); go_simp; (try with_reducible rfl)
            (try simp only [Act.put, List.getElem_toArray, List.getElem_cons_zero, List.getElem_cons_succ, List.setIfInBounds_toArray, List.set_cons_zero, List.set_cons_succ])
            refine wpAnyH_take (i := 7) (v := ?_) rfl (by kernel_rfl) (by kernel_rfl) (by kernel_rfl) (fun _ _ _ h => h) (Or.inl ⟨by kernel_rfl, ?_⟩) (by assumption) ?_
            rotate_left 1
            · intro w hSw; (try dsimp only at hSw); go_simp; (try with_reducible rfl)
            (try simp only [Act.put, List.getElem_toArray, List.getElem_cons_zero, List.getElem_cons_succ, List.setIfInBounds_toArray, List.set_cons_zero, List.set_cons_succ])
            refine wpAnyH_take (i := 8) (v := ?_) rfl (by kernel_rfl) (by kernel_rfl) (by kernel_rfl) (fun _ _ _ h => h) (Or.inl ⟨by kernel_rfl, ?_⟩) (by assumption) ?_
            rotate_left 1
            · intro w hSw; (try dsimp only at hSw); go_simp; (try with_reducible rfl)
            (try simp only [Act.put, List.getElem_toArray, List.getElem_cons_zero, List.getElem_cons_succ, List.setIfInBounds_toArray, List.set_cons_zero, List.set_cons_succ])
            refine wpAnyH_take (i := 9) (v := ?_) rfl (by kernel_rfl) (by kernel_rfl) (by kernel_rfl) (fun _ _ _ h => h) (Or.inl ⟨by kernel_rfl, ?_⟩) (by assumption) ?_
            rotate_left 1
            · intro w hSw; (try dsimp only at hSw); go_simp; (try with_reducible rfl)
            (try simp only [Act.put, List.getElem_toArray, List.getElem_cons_zero, List.getElem_cons_succ, List.setIfInBounds_toArray, List.set_cons_zero, List.set_cons_succ])
            refine wpAnyH_take (i := 10) (v := ?_) rfl (by kernel_rfl) (by kernel_rfl) (by kernel_rfl) (fun _ _ _ h => h) (Or.inl ⟨by kernel_rfl, ?_⟩) (by assumption) ?_
            rotate_left 1
            · intro w hSw; (try dsimp only at hSw); go_simp; (try with_reducible rfl)
            (try simp only [Act.put, List.getElem_toArray, List.getElem_cons_zero, List.getElem_cons_succ, List.setIfInBounds_toArray, List.set_cons_zero, List.set_cons_succ])
            refine wpAnyH_take (i := 11) (v := ?_) rfl (by kernel_rfl) (by kernel_rfl) (by kernel_rfl) (fun _ _ _ h => h) (Or.inl ⟨by kernel_rfl, ?_⟩) (by assumption) ?_
            rotate_left 1
            · intro w hSw; (try dsimp only at hSw); go_simp; (try with_reducible rfl)
            (try simp only [Act.put, List.getElem_toArray, List.getElem_cons_zero, List.getElem_cons_succ, List.setIfInBounds_toArray, List.set_cons_zero, List.set_cons_succ])
            refine wpAnyH_take (i := 12) (v := ?_) rfl (by kernel_rfl) (by kernel_rfl) (by kernel_rfl) (fun _ _ _ h => h) (Or.inl ⟨by kernel_rfl, ?_⟩) (by assumption) ?_
            rotate_left 1
            · intro w hSw; (try dsimp only at hSw); go_simp; (try with_reducible rfl)
            (try simp only [Act.put, List.getElem_toArray, List.getElem_cons_zero, List.getElem_cons_succ, List.setIfInBounds_toArray, List.set_cons_zero, List.set_cons_succ])
            refine wpAnyH_take (i := 13) (v := ?_) rfl (by kernel_rfl) (by kernel_rfl) (by kernel_rfl) (fun _ _ _ h => h) (Or.inl ⟨by kernel_rfl, ?_⟩) (by assumption) ?_
            rotate_left 1
            · intro w hSw; (try dsimp only at hSw); go_simp; (try with_reducible rfl)
            (try simp only [Act.put, List.getElem_toArray, List.getElem_cons_zero, List.getElem_cons_succ, List.setIfInBounds_toArray, List.set_cons_zero, List.set_cons_succ])
            refine wpAnyH_ready (rs := [14]) (by kernel_rfl) (by simp) ?_
            refine AllReadyH.cons rfl (fun K hK => ?_) AllReadyH.nil
            rw [if_pos (by kernel_rfl)]
            go_simp
            (go_at_fn g; refine HCL.out.mono ?_; rintro e w5 ⟨rfl, hb5⟩; have B5 := Aside0.mk (below_step (below_drew1 (Below.refl wr.heap.size wr)) hb5); clear hb5)
            (try go_simp)
            refine hK.out _ _ ?_ (fun hHeld => ?_)
            · (try dsimp only); (first | exact HMS.out _ (below_drew1 (Below.refl _ _)) | exact HMS.out _ B5.out | fail)
            clear hK K
            (try simp only [Act.put, List.getElem_toArray, List.getElem_cons_zero, List.getElem_cons_succ, List.setIfInBounds_toArray, List.set_cons_zero, List.set_cons_succ])
            refine wpAnyH_take (i := 15) (v := ?_) rfl (by kernel_rfl) (by kernel_rfl) (by kernel_rfl) (fun _ _ _ h => h) (Or.inl ⟨by kernel_rfl, ?_⟩) (by assumption) ?_
            rotate_left 1
            · intro w hSw; (try dsimp only at hSw); go_simp; (try with_reducible rfl)
            (try simp only [Act.put, List.getElem_toArray, List.getElem_cons_zero, List.getElem_cons_succ, List.setIfInBounds_toArray, List.set_cons_zero, List.set_cons_succ])
            refine wpAnyH_take (i := 16) (v := ?_) rfl (by kernel_rfl) (by kernel_rfl) (by kernel_rfl) (fun _ _ _ h => h) (Or.inl ⟨by kernel_rfl, ?_⟩) (by assumption) ?_
            rotate_left 1
            · intro w hSw; (try dsimp only at hSw); go_simp; (try with_reducible rfl)
            (try simp only [Act.put, List.getElem_toArray, List.getElem_cons_zero, List.getElem_cons_succ, List.setIfInBounds_toArray, List.set_cons_zero, List.set_cons_succ])
            refine wpAnyH_done (by kernel_rfl) ?_ _
            have ST2 := Aside0.mk (IA.out.stop hji (.inr (by rw [show j - 1 = k from by have := HJK.out; omega, ← HXY.out.1, ← HXY.out.2]; omega)))
            have R5 := Aside0.mk (RW.out.below B5.out)
            have BR5 := Aside0.mk (BR.out.trans (B5.out.mono (Nat.le_of_lt RW.out.lt)))
            go_wp2_with fail
            go_roundg (n + 1 - (i + 1))
            case measure => omega
            case rel => exact ⟨i + 1, ys, by omega, by omega, by omega, by go_num, R5, SL, ST2, BR5⟩
    · --< fin
      have hi1 : n ≤ i := by omega
      have hlt2 : ¬ (i : Int) < (n : Int) := by omega
      have ST2 := Aside0.mk (show SortTo f ys ys.length from fun p q h1 h2 => ST.out p q h1 (by rw [SL.out.len, ← HNN.out] at h2; omega))
      go_wp2_with fail
      refine Go.Great.bodyPost_end0 rfl rfl ?_
      exact ⟨rfl, ys, RW.out, SL.out, ST2.out, BR.out⟩
      --> fin
end Go.Proofs.Ytampgoendkjkhaa.H

namespace Go.Proofs.Ytampgoendkjkhaa.H
open Go.RowKit Go.Shelf Go.Proofs.YtampgoendkjkhaaW.PrintWords Go.Proofs.Ytampgoendkjkhaa.DtM
set_option linter.unusedVariables false
set_option linter.unusedSimpArgs false
set_option maxHeartbeats 4000000 in
set_option maxRecDepth 100000 in
theorem stb_calls (g : Nat) (lb : Array Value) (eg : ∀ args w, (callFunc g args).run Try.prog w = .ok (.enter g args) w) (f : Int → Int) (P : Int → Prop) (b c : Nat) (xs : List Int) (w : World) (hc : CmpAt g lb f P b w) (hr : Row w b xs c) (hP : ∀ x ∈ xs, P x) (hn : xs.length ≤ 19) :
    Calls Try.prog 171 #[.slice (some ⟨b, 0, none⟩) xs.length c, .int .i64 (xs.length : Int), .func (.func g) #[] lb] w fun e w' => (e = .returned (.tuple #[])) ∧ ∃ ys, Row w' b ys c ∧ SrtL f P xs ys ∧ SortTo f ys ys.length ∧ Below b w w' := by
  have HI := Aside0.mk (ins_calls g lb eg f P b c xs w hc hr hP hn)
  have h1 : ¬ (20 : Int) ≤ (xs.length : Int) := by omega
  have h2 : ¬ (20 : Int) < (xs.length : Int) := by omega
  have h1b : (xs.length : Int) < 20 := by omega
  clear hc hr hP hn
  generalize (xs.length : Int) = n at HI h1 h2 h1b ⊢
  go_enter Try.func171, Try.ntmps171
  go_wp2_with fail
  go_loopg [7, 8] 1 (fun gg s7 s8 wr => s7 = .int .i64 0 ∧ s8 = .int .i64 20 ∧ wr = w)
  case atStart => exact ⟨rfl, rfl, rfl⟩
  case round =>
    obtain ⟨rfl, rfl, rfl⟩ := hrel
    go_wp2_with (go_at_call 201; refine HI.out.mono ?_; rintro e w2 ⟨rfl, ys, hR, hS, hT, hB⟩; have RW := Aside0.mk hR; have SL := Aside0.mk hS; have ST := Aside0.mk hT; have B2 := Aside0.mk hB; clear hR hS hT hB)
    go_loopg [6] 1 (fun gg s6 wr => s6 = .int .i64 20 ∧ wr = w2)
    case atStart => exact ⟨rfl, rfl⟩
    case round =>
      obtain ⟨rfl, rfl⟩ := hrel
      go_wp2_with fail
      refine Go.Great.bodyPost_end0 rfl rfl ?_
      exact ⟨rfl, ys, RW.out, SL.out, ST.out, B2.out⟩
set_option maxHeartbeats 4000000 in
set_option maxRecDepth 100000 in
theorem srt_calls (g : Nat) (lb : Array Value) (eg : ∀ args w, (callFunc g args).run Try.prog w = .ok (.enter g args) w) (f : Int → Int) (P : Int → Prop) (b c : Nat) (xs : List Int) (w : World) (hc : CmpAt g lb f P b w) (hr : Row w b xs c) (hP : ∀ x ∈ xs, P x) (hn : xs.length ≤ 19) :
    Calls Try.prog 108 #[.slice (some ⟨b, 0, none⟩) xs.length c, .func (.func g) #[] lb] w fun e w' => (e = .returned (.tuple #[])) ∧ ∃ ys, Row w' b ys c ∧ SrtL f P xs ys ∧ SortTo f ys ys.length ∧ Below b w w' := by
  have HI := Aside0.mk (stb_calls g lb eg f P b c xs w hc hr hP hn)
  clear hc hr hP hn
  go_enter Try.func108, Try.ntmps108
  go_wp2_with (go_at_call 171; refine HI.out.mono ?_; rintro e w2 ⟨rfl, ys, hR, hS, hT, hB⟩; have RW := Aside0.mk hR; have SL := Aside0.mk hS; have ST := Aside0.mk hT; have B2 := Aside0.mk hB; clear hR hS hT hB)
  refine Go.Great.bodyPost_end0 rfl rfl ?_
  exact ⟨rfl, ys, RW.out, SL.out, ST.out, B2.out⟩
end Go.Proofs.Ytampgoendkjkhaa.H

namespace Go.Proofs.Ytampgoendkjkhaa.H
open Go.RowKit Go.Shelf Go.Proofs.YtampgoendkjkhaaW.PrintWords Go.Proofs.Ytampgoendkjkhaa.DtM
set_option linter.unusedVariables false
set_option linter.unusedSimpArgs false
theorem isnan_f (a : Int) : PBase.cmp_isNaN_int.f a = some false := by unfold PBase.cmp_isNaN_int.f; simp
theorem cmp_f (x y : Int) : PBase.cmp_Compare_int.f x y = some (cmpV x y) := by
  unfold PBase.cmp_Compare_int.f cmpV
  rw [isnan_f, isnan_f]
  simp only [Option.bind_some, Bool.false_eq_true, if_false]
  by_cases h : x < y
  · rw [if_pos h, if_pos h]
  · rw [if_neg h, if_neg h]
    by_cases h2 : y < x
    · rw [if_pos h2, if_pos h2]
    · rw [if_neg h2, if_neg h2]
def szBad (q : Int) : Bool := decide (q < 1) || decide (30 < q)
theorem k1_calls (q : Int) (w : World) : Calls Try.prog 107 #[.int .i64 q] w fun e w' => e = .returned (.bool (szBad q)) ∧ w = w' := by
  by_cases h : q < 1
  · have HA := Aside0.mk (show szBad q = true from by unfold szBad; rw [decide_eq_true h, Bool.true_or])
    go_enter Try.func107, Try.ntmps107
    go_wp2
    go_ret
    exact ⟨by rw [HA.out]; rfl, rfl⟩
  · have HA := Aside0.mk (show szBad q = decide (30 < q) from by unfold szBad; rw [decide_eq_false h, Bool.false_or])
    go_enter Try.func107, Try.ntmps107
    go_wp2
    go_ret
    exact ⟨by rw [HA.out]; rfl, rfl⟩
/-- compares by sizes -/
theorem k2_calls (bs : Nat) (A : Option Addr) (c : Nat) (ss : List Int) (x y : Nat) (w : World) (hb : w.cell? ⟨bs, 0, none⟩ = some (.slice A ss.length c)) (hs : Kd.C (Kd.int .i64) w A ss.length ss) (hx : x < ss.length) (hy : y < ss.length) :
    Calls Try.prog 109 #[.int .i64 (x : Int), .int .i64 (y : Int), .pointer (some ⟨bs, 0, none⟩)] w fun e w' => e = .returned (.int .i64 (cmpV (ss.getD x 0) (ss.getD y 0))) ∧ Below w.heap.size w w' := by
  obtain ⟨ad, e1, c1⟩ := int_get hs rfl hx
  obtain ⟨ad', e2, c2⟩ := int_get hs rfl hy
  subst e1
  obtain rfl := Option.some.inj e2
  have g1 : ss.getD x 0 = ss[x] := by rw [List.getD_eq_getElem?_getD, List.getElem?_eq_getElem hx]; rfl
  have g2 : ss.getD y 0 = ss[y] := by rw [List.getD_eq_getElem?_getD, List.getElem?_eq_getElem hy]; rfl
  rw [g1, g2]
  have HC := Aside0.mk (fun (p q : Int) (W : World) => PBase.cmp_Compare_int.calls p q (cmpV p q) W (cmp_f p q))
  have z1 : (x : Int) < (ss.length : Int) := by omega
  have z2 : (y : Int) < (ss.length : Int) := by omega
  generalize ss[x] = p at c1 ⊢
  generalize ss[y] = q at c2 ⊢
  clear hs g1 g2 e2
  go_enter Try.func109, Try.ntmps109
  have HMS := Aside0.mk (show ∀ W', Below w.heap.size w W' → (fun W' : World => W'.cell? ⟨bs, 0, none⟩ = some (.slice (some ad) ss.length c) ∧ W'.cell? (ad.add x) = some (.int .i64 p) ∧ W'.cell? (ad.add y) = some (.int .i64 q)) W' from fun W' h => ⟨pw_cell_below h hb, pw_cell_below h c1, pw_cell_below h c2⟩)
  clear hb c1 c2
  go_upto_region 1 with fail
  refine wp_region_held_drew (S := (fun W' : World => W'.cell? ⟨bs, 0, none⟩ = some (.slice (some ad) ss.length c) ∧ W'.cell? (ad.add x) = some (.int .i64 p) ∧ W'.cell? (ad.add y) = some (.int .i64 q))) (by kernel_rfl) ?_ (fun hHeld => ?_)
  · (try dsimp only); (first | exact HMS.out _ (below_drew1 (Below.refl _ _)) | exact HMS.out _ B2.out | fail)
  refine wpAnyH_take (i := 0) (v := ?_) rfl (by kernel_rfl) (by kernel_rfl) (by kernel_rfl) (fun _ _ _ h => h) (Or.inl ⟨by kernel_rfl, ?_⟩) (by assumption) ?_
  rotate_left 1
  · intro w hSw; (try dsimp only at hSw); go_simp; (try with_reducible rfl)
  (try simp only [Act.put, List.getElem_toArray, List.getElem_cons_zero, List.getElem_cons_succ, List.setIfInBounds_toArray, List.set_cons_zero, List.set_cons_succ])
  refine wpAnyH_take (i := 1) (v := ?_) rfl (by kernel_rfl) (by kernel_rfl) (by kernel_rfl) (fun _ _ _ h => h) (Or.inl ⟨by kernel_rfl, ?_⟩) (by assumption) ?_
  rotate_left 1
  · intro w hSw; (try dsimp only at hSw); go_simp; (try with_reducible rfl)
  (try simp only [Act.put, List.getElem_toArray, List.getElem_cons_zero, List.getElem_cons_succ, List.setIfInBounds_toArray, List.set_cons_zero, List.set_cons_succ])
  refine wpAnyH_take (i := 2) (v := ?_) rfl (by kernel_rfl) (by kernel_rfl) (by kernel_rfl) (fun _ _ _ h => h) (Or.inl ⟨by kernel_rfl, ?_⟩) (by assumption) ?_
  rotate_left 1
  · intro w hSw; (try dsimp only at hSw); go_simp; (try with_reducible rfl)
  (try simp only [Act.put, List.getElem_toArray, List.getElem_cons_zero, List.getElem_cons_succ, List.setIfInBounds_toArray, List.set_cons_zero, List.set_cons_succ])
  refine wpAnyH_take (i := 3) (v := ?_) rfl (by kernel_rfl) (by kernel_rfl) (by kernel_rfl) (fun _ _ _ h => h) (Or.inl ⟨by kernel_rfl, ?_⟩) (by assumption) ?_
  rotate_left 1
  · intro w hSw; (try dsimp only at hSw); go_simp; (try with_reducible rfl)
  (try simp only [Act.put, List.getElem_toArray, List.getElem_cons_zero, List.getElem_cons_succ, List.setIfInBounds_toArray, List.set_cons_zero, List.set_cons_succ])
  refine wpAnyH_take (i := 4) (v := ?_) rfl (by kernel_rfl) (by kernel_rfl) (by kernel_rfl) (fun _ _ _ h => h) (Or.inl ⟨by kernel_rfl, ?_⟩) (by assumption) ?_
  rotate_left 1
  · intro w hSw; (try dsimp only at hSw); go_simp; (try with_reducible rfl)
  (try simp only [Act.put, List.getElem_toArray, List.getElem_cons_zero, List.getElem_cons_succ, List.setIfInBounds_toArray, List.set_cons_zero, List.set_cons_succ])
  refine wpAnyH_take (i := 5) (v := ?_) rfl (by kernel_rfl) (by kernel_rfl) (by kernel_rfl) (fun _ _ _ h => h) (Or.inl ⟨by kernel_rfl, ?_⟩) (by assumption) ?_
  rotate_left 1
  · intro w hSw; (try dsimp only at hSw); go_simp; (try with_reducible rfl)
  (try simp only [Act.put, List.getElem_toArray, List.getElem_cons_zero, List.getElem_cons_succ, List.setIfInBounds_toArray, List.set_cons_zero, List.set_cons_succ])
  refine wpAnyH_take (i := 6) (v := ?_) rfl (by kernel_rfl) (by kernel_rfl) (by kernel_rfl) (fun _ _ _ h => h) (Or.inl ⟨by kernel_rfl, ?_⟩) (by assumption) ?_
  rotate_left 1
  · intro w hSw; (try dsimp only at hSw); go_simp; (try with_reducible rfl)
  (try simp only [Act.put, List.getElem_toArray, List.getElem_cons_zero, List.getElem_cons_succ, List.setIfInBounds_toArray, List.set_cons_zero, List.set_cons_succ])
  refine wpAnyH_take (i := 7) (v := ?_) rfl (by kernel_rfl) (by kernel_rfl) (by kernel_rfl) (fun _ _ _ h => h) (Or.inl ⟨by kernel_rfl, ?_⟩) (by assumption) ?_
  rotate_left 1
  · intro w hSw; (try dsimp only at hSw); go_simp; (try with_reducible rfl)
  (try simp only [Act.put, List.getElem_toArray, List.getElem_cons_zero, List.getElem_cons_succ, List.setIfInBounds_toArray, List.set_cons_zero, List.set_cons_succ])
  refine wpAnyH_ready (rs := [8]) (by kernel_rfl) (by simp) ?_
  refine AllReadyH.cons rfl (fun K hK => ?_) AllReadyH.nil
  rw [if_pos (by kernel_rfl)]
  go_simp
  (go_at_call 110; refine (HC.out p q _).mono ?_; rintro e w2 ⟨rfl, hb2⟩; have B2 := Aside0.mk (below_step (below_drew1 (Below.refl w.heap.size w)) hb2.below); clear hb2)
  (try go_simp)
  refine hK.out _ _ ?_ (fun hHeld => ?_)
  · (try dsimp only); (first | exact HMS.out _ (below_drew1 (Below.refl _ _)) | exact HMS.out _ B2.out | fail)
  clear hK K
  (try simp only [Act.put, List.getElem_toArray, List.getElem_cons_zero, List.getElem_cons_succ, List.setIfInBounds_toArray, List.set_cons_zero, List.set_cons_succ])
  refine wpAnyH_take (i := 9) (v := ?_) rfl (by kernel_rfl) (by kernel_rfl) (by kernel_rfl) (fun _ _ _ h => h) (Or.inl ⟨by kernel_rfl, ?_⟩) (by assumption) ?_
  rotate_left 1
  · intro w hSw; (try dsimp only at hSw); go_simp; (try with_reducible rfl)
  (try simp only [Act.put, List.getElem_toArray, List.getElem_cons_zero, List.getElem_cons_succ, List.setIfInBounds_toArray, List.set_cons_zero, List.set_cons_succ])
  refine wpAnyH_done (by kernel_rfl) ?_ _
  go_wp2_with fail
  go_ret
  exact ⟨rfl, B2.out⟩
/-! ### code.Check -/
theorem cc1_calls (n q : Int) (B : Nat) (w : World) (hc : w.cell? ⟨B, 0, none⟩ = some (.int .i64 n)) :
    Calls Try.prog 170 #[.int .i64 q, .pointer (some ⟨B, 0, none⟩)] w fun e w' => e = .returned (.bool (noB n q)) ∧ w = w' := by
  by_cases h : q < 0
  · have h' : decide (q < 0) = true := decide_eq_true h
    go_enter Try.func170, Try.ntmps170
    go_wp2
    go_ret
    exact ⟨by simp [noB, h']; try rfl, rfl⟩
  · have h' : decide (q < 0) = false := decide_eq_false h
    go_enter Try.func170, Try.ntmps170
    go_wp2
    go_ret
    exact ⟨by simp [noB, h']; try rfl, rfl⟩
def wChk (L : Int) : List (List Int) → Int
  | [] => 0
  | w :: t => if (w.length : Int) < 1 ∨ 10 < (w.length : Int) then 1 else if w.any (noB L) = true then 2 else wChk L t
def cChk (L : Int) (l : List (List Int)) : Int := if L < 1 ∨ 4 < L then 2 else if (l.length : Int) < 1 ∨ 10 < (l.length : Int) then 1 else wChk L l
set_option maxHeartbeats 4000000 in
set_option maxRecDepth 100000 in
theorem ckc_calls (L : Int) (A : Option Addr) (c : Nat) (l : List (List Int)) (w : World) (hr : Kd.C (Kd.slice 3 (Kd.int .i64)) w A l.length l) :
    Calls Try.prog 105 #[.int .i64 L, .slice A l.length c] w fun e w' => e = .returned (.int .i64 (cChk L l)) ∧ Below w.heap.size w w' := by
  have HR := Aside0.mk hr
  have hbig : l.length ≤ 9223372036854775807 := hr.2.1
  have B1 := Aside0.mk (below_alloc (Below.refl w.heap.size w) (.cells #[.int .i64 L] 3))
  have X1 := Aside0.mk (blk_new w (.cells #[.int .i64 L] 3 (0, 0)))
  clear hr
  by_cases hL : L < 1 ∨ 4 < L
  · have HF := Aside0.mk (show cChk L l = 2 from if_pos hL)
    by_cases h1 : L < 1
    · have h1' : decide (L < 1) = true := decide_eq_true h1
      clear hL
      go_enter Try.func105, Try.ntmps105
      go_wp2_with fail
      go_ret
      exact ⟨by rw [HF.out]; rfl, B1.out⟩
    · have h1' : decide (L < 1) = false := decide_eq_false h1
      have h2 : 4 < L := by omega
      clear hL
      go_enter Try.func105, Try.ntmps105
      go_wp2_with fail
      go_ret
      exact ⟨by rw [HF.out]; rfl, B1.out⟩
  · have h1 : ¬ L < 1 := by omega
    have h2 : ¬ 4 < L := by omega
    by_cases hn : (l.length : Int) < 1 ∨ 10 < (l.length : Int)
    · have HF := Aside0.mk (show cChk L l = 1 from by unfold cChk; rw [if_neg hL, if_pos hn])
      by_cases h3 : (l.length : Int) < 1
      · clear hL hn
        go_enter Try.func105, Try.ntmps105
        go_wp2_with fail
        go_ret
        exact ⟨by rw [HF.out]; rfl, B1.out⟩
      · have h4 : 10 < (l.length : Int) := by omega
        clear hL hn
        go_enter Try.func105, Try.ntmps105
        go_wp2_with fail
        go_ret
        exact ⟨by rw [HF.out]; rfl, B1.out⟩
    · have h3 : ¬ (l.length : Int) < 1 := by omega
      have h4 : ¬ 10 < (l.length : Int) := by omega
      have hl10 : (l.length : Int) ≤ 10 := by omega
      obtain ⟨r, hrr⟩ : ∃ r, r = cChk L l := ⟨_, rfl⟩
      have HRR := Aside0.mk (show wChk L (l.drop 0) = r from by rw [hrr]; unfold cChk; rw [if_neg hL, if_neg hn]; rfl)
      rw [← hrr]
      clear hrr hL hn
      go_enter Try.func105, Try.ntmps105
      go_upto_region 3 with fail
      obtain ⟨b2, hb2⟩ : ∃ b2, b2 = w.heap.size := ⟨_, rfl⟩
      rw [← hb2] at X1 ⊢
      clear hb2
      generalize w.alloc (.cells #[.int .i64 L] 3) = W1 at B1 X1 ⊢
      go_wp2_with fail
      go_loopg [23] l.length (fun gg s23 wr => ∃ i : Nat, i ≤ l.length ∧ l.length - i ≤ gg ∧ s23 = .int .i64 (i : Int) ∧ Aside0 (wChk L (l.drop i) = r) ∧ Aside0 (Below W1.heap.size W1 wr))
      case atStart => exact ⟨0, Nat.zero_le _, by omega, rfl, HRR, ⟨Below.refl _ _⟩⟩
      case round =>
        obtain ⟨i, hi, hgg, rfl, HI, BR⟩ := hrel
        clear HRR
        by_cases hlt : i < l.length
        · have hltz : (i : Int) < (l.length : Int) := by omega
          obtain ⟨ad, A1, c1, es, hle, hrow, k0⟩ := row_get (Kd.C_below HR.out (below_step B1.out BR.out)) rfl hlt
          have HI2 := Aside0.mk (show (if ((l[i].length : Nat) : Int) < 1 ∨ 10 < ((l[i].length : Nat) : Int) then 1 else if l[i].any (noB L) = true then 2 else wChk L (l.drop (i + 1))) = r from by
            have h := HI.out
            rw [List.drop_eq_getElem_cons hlt] at h
            exact h)
          obtain ⟨v, hv⟩ : ∃ v, v = l[i] := ⟨_, rfl⟩
          rw [← hv] at hrow k0 HI2 hle
          have hbv : v.length ≤ 9223372036854775807 := hrow.2.1
          have HV := Aside0.mk hrow
          clear hv hle hrow HI
          subst es
          by_cases hw1 : ((v.length : Nat) : Int) < 1
          · have HQ := Aside0.mk (show (1 : Int) = r from by have h := HI2.out; rw [if_pos (.inl hw1)] at h; exact h)
            go_wp2_with fail
            go_ret
            exact ⟨by rw [← HQ.out]; rfl, below_step B1.out BR.out⟩
          · by_cases hw2 : 10 < ((v.length : Nat) : Int)
            · have HQ := Aside0.mk (show (1 : Int) = r from by have h := HI2.out; rw [if_pos (.inr hw2)] at h; exact h)
              go_wp2_with fail
              go_ret
              exact ⟨by rw [← HQ.out]; rfl, below_step B1.out BR.out⟩
            · have HQ := Aside0.mk (show (if v.any (noB L) = true then 2 else wChk L (l.drop (i + 1))) = r from by have h := HI2.out; rw [if_neg (by omega)] at h; exact h)
              have HCF := Aside0.mk (ContainsFunc_int 170 #[.pointer (some ⟨b2, 0, none⟩)] (enters_of Try.func170 (by kernel_rfl) rfl) (noB L) A1 c1 v wr HV.out (fun W x _ hb => (cc1_calls L x b2 W ((blk_cell (blk_below X1.out (below_step BR.out hb)) 0).trans rfl)).mono fun e w' ⟨he, hw⟩ => ⟨he, hw ▸ hb⟩))
              cases hany : v.any (noB L) with
              | true =>
                have HQ2 := Aside0.mk (show (2 : Int) = r from by have h := HQ.out; rw [if_pos hany] at h; exact h)
                rw [hany] at HCF
                clear hany
                go_wp2_with (go_at_call 66; refine HCF.out.mono ?_; rintro e w5 ⟨rfl, hb5⟩; have B5 := Aside0.mk hb5; clear hb5)
                go_ret
                exact ⟨by rw [← HQ2.out]; rfl, below_step (below_step B1.out BR.out) B5.out⟩
              | false =>
                have HQ2 := Aside0.mk (show wChk L (l.drop (i + 1)) = r from by have h := HQ.out; rw [if_neg (by rw [hany]; simp)] at h; exact h)
                rw [hany] at HCF
                clear hany
                go_wp2_with (go_at_call 66; refine HCF.out.mono ?_; rintro e w5 ⟨rfl, hb5⟩; have B5 := Aside0.mk (below_step BR.out hb5); clear hb5)
                go_roundg (l.length - (i + 1))
                case measure => omega
                case rel => exact ⟨i + 1, by omega, by omega, by go_num, HQ2, B5⟩
        · have hie : i = l.length := by omega
          subst hie
          have HQ := Aside0.mk (show (0 : Int) = r from by have h := HI.out; rw [List.drop_length] at h; exact h)
          go_wp2_with fail
          go_ret
          exact ⟨by rw [← HQ.out]; rfl, below_step B1.out BR.out⟩
end Go.Proofs.Ytampgoendkjkhaa.H

namespace Go.Proofs.Ytampgoendkjkhaa.H
open Go.RowKit Go.Shelf Go.Proofs.YtampgoendkjkhaaW.PrintWords Go.Proofs.Ytampgoendkjkhaa.DtM
set_option linter.unusedVariables false
set_option linter.unusedSimpArgs false
theorem made_row (W : World) (n : Nat) (hn : n ≤ 1000) : Row (W.alloc (.cells (madeCells #[.int .i64 0] n) 3)) W.heap.size (List.replicate n 0) n := by
  refine ⟨[], ?_, by simp [nums], by unfold maxLen; omega⟩
  rw [blk_new W _]
  congr 2
  rw [← Array.toList_inj]
  simp only [madeCells, nums, List.append_nil]
  apply List.ext_getElem
  · simp
  · intro i h1 h2
    simp [Nat.mod_one]
/-- the first numbers in their places -/
def ordL (n i : Nat) : List Int := (List.range n).map fun p => if p < i then (p : Int) else 0
theorem ord_zero (n : Nat) : ordL n 0 = List.replicate n 0 := by
  unfold ordL
  apply List.ext_getElem
  · simp
  · intro i h1 h2; simp
theorem ord_len (n i : Nat) : (ordL n i).length = n := by simp [ordL]
theorem ord_set {n i : Nat} (hi : i < n) : (ordL n i).set i (i : Int) = ordL n (i + 1) := by
  unfold ordL
  apply List.ext_getElem
  · simp
  · intro p h1 h2
    simp only [List.getElem_set, List.getElem_map, List.getElem_range]
    by_cases e : i = p
    · subst e; rw [if_pos rfl, if_pos (Nat.lt_succ_self _)]
    · rw [if_neg e]
      by_cases e2 : p < i
      · rw [if_pos e2, if_pos (by omega)]
      · rw [if_neg e2, if_neg (by omega)]
theorem ord_in (n : Nat) : ∀ x ∈ ordL n n, 0 ≤ x ∧ x < (n : Int) := fun x hx => by
  obtain ⟨p, hp, rfl⟩ := List.mem_map.1 hx
  have := List.mem_range.1 hp
  rw [if_pos this]
  omega
theorem ord_sum (ss : List Int) (g : Int → Nat) : ((ordL ss.length ss.length).map fun x => g (ss.getD x.toNat 0)).sum = (ss.map g).sum := by
  have : ((ordL ss.length ss.length).map fun x => g (ss.getD x.toNat 0)) = ss.map g := by
    unfold ordL
    apply List.ext_getElem
    · simp
    · intro i h1 h2
      have hi : i < ss.length := by simpa using h2
      simp only [List.getElem_map, List.getElem_range, if_pos hi, Int.toNat_natCast]
      rw [List.getD_eq_getElem?_getD, List.getElem?_eq_getElem hi]
      rfl
  rw [this]
/-- sizes in their order, from place k on -/
def szs (ss ys : List Int) (k : Nat) : List Nat := (ys.drop k).map fun x => (ss.getD x.toNat 0).toNat
structure KfM (W : World) (b7 b9 bL n c9 : Nat) (ys : List Int) (ds : List Nat) : Prop where
  o : Row W b7 ys n
  x : Row W b9 (ds.map fun (d : Nat) => (d : Int)) c9
  l : ∃ cs : Array Value, W.heap[bL]? = some (.cells cs 22 (0, 0)) ∧ cs.size = n
  ne : b7 < bL ∧ bL < b9
structure KfL (L : Nat) (sz ds : List Nat) (ok : Bool) : Prop where
  f : kraftF L (if ok = true then some ds else none) sz = true
  d : ∀ x ∈ ds, x < L
  s : ∀ x ∈ sz, ds.length ≤ x ∧ x ≤ 10
  p : sz.Pairwise (· ≤ ·)
theorem KfM.below {W W' : World} {b7 b9 bL n c9 : Nat} {ys : List Int} {ds : List Nat} (h : KfM W b7 b9 bL n c9 ys ds) (hb : Below W.heap.size W W') : KfM W' b7 b9 bL n c9 ys ds :=
  ⟨h.o.below hb, h.x.below hb, (by obtain ⟨cs, h1, h2⟩ := h.l; exact ⟨cs, blk_below h1 hb, h2⟩), h.ne⟩
theorem kf_start {L : Nat} {ss ys : List Int} (hL : 1 ≤ L) (hs : ∀ s ∈ ss, 1 ≤ s ∧ s ≤ 10) (hsum : (ss.map fun s => L ^ (10 - s.toNat)).sum ≤ L ^ 10) {P : Int → Prop} (hS : SrtL (fun x => ss.getD x.toNat 0) P (ordL ss.length ss.length) ys) (hP : ∀ x, P x → 0 ≤ x ∧ x < (ss.length : Int)) (hT : SortTo (fun x => ss.getD x.toNat 0) ys ys.length) : KfL L (szs ss ys 0) [] true where
  f := by
    have hin : ∀ x ∈ ys, 1 ≤ ss.getD x.toNat 0 ∧ ss.getD x.toNat 0 ≤ 10 := fun x hx => by
      have := hP x (hS.dom x hx)
      have hl : x.toNat < ss.length := by omega
      rw [List.getD_eq_getElem?_getD, List.getElem?_eq_getElem hl]
      exact hs _ (List.getElem_mem hl)
    have hp := sort_pair hT
    refine kraft_room hL 10 (szs ss ys 0) [] 0 (fun d hd => by cases hd) (by simp) (by simp [valD]) ?_ (fun x hx => ?_) ?_
    · unfold szs
      rw [List.drop_zero, List.pairwise_map]
      rw [List.pairwise_map] at hp
      exact hp.imp fun h => by omega
    · obtain ⟨y, hy, rfl⟩ := List.mem_map.1 hx
      have := hin y (by simpa using hy)
      exact ⟨Nat.zero_le _, by omega⟩
    · have h1 := hS.sum (fun x => L ^ (10 - (ss.getD x.toNat 0).toNat))
      have h2 := ord_sum ss (fun s => L ^ (10 - s.toNat))
      unfold szs
      rw [List.drop_zero, List.map_map, Nat.zero_add]
      have h3 : (ys.map ((fun s => L ^ (10 - s)) ∘ fun x => (ss.getD x.toNat 0).toNat)).sum = (ys.map fun x => L ^ (10 - (ss.getD x.toNat 0).toNat)).sum := rfl
      rw [h3, h1, h2]
      exact hsum
  d := fun x h => by cases h
  s := fun x hx => by
    obtain ⟨y, hy, rfl⟩ := List.mem_map.1 hx
    have hy' : y ∈ ys := by simpa using hy
    have := hP y (hS.dom y hy')
    have hl : y.toNat < ss.length := by omega
    have := hs _ (List.getElem_mem hl)
    rw [List.getD_eq_getElem?_getD, List.getElem?_eq_getElem hl]
    simp only [Option.getD_some]
    exact ⟨Nat.zero_le _, by omega⟩
  p := by
    have hp := sort_pair hT
    unfold szs
    rw [List.drop_zero, List.pairwise_map]
    rw [List.pairwise_map] at hp
    exact hp.imp fun h => by omega
set_option maxHeartbeats 8000000 in
set_option maxRecDepth 100000 in
theorem kft_calls (L : Nat) (A : Option Addr) (c : Nat) (ss : List Int) (w : World) (hr : Kd.C (Kd.int .i64) w A ss.length ss) (hL : 1 ≤ L ∧ L ≤ 4) (hn : 1 ≤ ss.length ∧ ss.length ≤ 10) (hs : ∀ s ∈ ss, 1 ≤ s ∧ s ≤ 10) (hsum : (ss.map fun s => L ^ (10 - s.toNat)).sum ≤ L ^ 10) :
    Calls Try.prog 44 #[.int .i64 (L : Int), .slice A ss.length c] w fun e w' => ∃ v : Value, e = .returned (.tuple #[v, .bool true, .int .i64 0]) ∧ Below w.heap.size w w' := by
  have HR := Aside0.mk hr
  have HS := Aside0.mk hs
  have HM := Aside0.mk hsum
  have h1 : ¬ (L : Int) < 1 := by omega
  have h2 : ¬ 4 < (L : Int) := by omega
  have h3 : ¬ (ss.length : Int) < 1 := by omega
  have h4 : ¬ 20 < (ss.length : Int) := by omega
  have HN := Aside0.mk (And.intro hL hn)
  have B1 := Aside0.mk (below_alloc (Below.refl w.heap.size w) (.cells #[.slice A ss.length c] 22))
  have X1 := Aside0.mk (blk_new w (.cells #[.slice A ss.length c] 22 (0, 0)))
  have hany : ss.any szBad = false := by
    rw [List.any_eq_false]
    intro x hx
    have := hs x hx
    unfold szBad
    simp
    omega
  clear hr hs hsum hL hn
  have e1 : ∀ args w, (callFunc 107 args).run Try.prog w = .ok (.enter 107 args) w := enters_of Try.func107 (by kernel_rfl) rfl
  go_enter Try.func44, Try.ntmps44
  go_upto_region 1 with fail
  obtain ⟨b3, hb3⟩ : ∃ b3, b3 = w.heap.size := ⟨_, rfl⟩
  rw [← hb3] at X1 ⊢
  have HZ := Aside0.mk (show w.heap.size ≤ b3 from Nat.le_of_eq hb3.symm)
  clear hb3
  generalize w.alloc (.cells #[.slice A ss.length c] 22) = W1 at B1 X1 ⊢
  have k0 : W1.cell? ⟨b3, 0, none⟩ = some (.slice A ss.length c) := (blk_cell X1.out 0).trans rfl
  have HCF := Aside0.mk (ContainsFunc_int 107 #[] e1 szBad A c ss W1 (Kd.C_below HR.out B1.out) (fun W x _ hb => (k1_calls x W).mono fun e w' ⟨he, hw⟩ => ⟨he, hw ▸ hb⟩))
  rw [hany] at HCF
  clear hany
  go_upto_region 7 with (go_at_call 66; refine HCF.out.mono ?_; rintro e w2 ⟨rfl, hb2⟩; have B2 := Aside0.mk hb2; clear hb2)
  have k2 : w2.cell? ⟨b3, 0, none⟩ = some (.slice A ss.length c) := pw_cell_below B2.out k0
  have X2 := Aside0.mk (blk_below X1.out B2.out)
  have B12 := Aside0.mk (below_step B1.out B2.out)
  clear k0 HCF X1 B1 B2
  obtain ⟨n, hnn⟩ : ∃ n, n = ss.length := ⟨_, rfl⟩
  have HNN := Aside0.mk hnn
  rw [← hnn] at k2 X2 h3 h4 ⊢
  have hn10 : n ≤ 10 := by have := HN.out.2.2; omega
  have hmk := run_make_row' (P := Try.prog) 22 3 (.int .i64 0) 8 Try.underlying22 int3 rfl .i64 .i64 n (by omega) (by omega) w2
  have R3 := Aside0.mk (made_row w2 n (by omega))
  have B3 := Aside0.mk (below_alloc (Below.refl w2.heap.size w2) (.cells (madeCells #[.int .i64 0] n) 3))
  clear hnn
  go_upto_region 8 with fail
  obtain ⟨b7, hb7⟩ : ∃ b7, b7 = w2.heap.size := ⟨_, rfl⟩
  rw [← hb7] at R3 ⊢
  clear hmk
  generalize w2.alloc (.cells (madeCells #[.int .i64 0] n) 3) = W3 at R3 B3 ⊢
  have HZ7 := Aside0.mk (show b3 < b7 ∧ w.heap.size ≤ b7 ∧ b7 = w2.heap.size from ⟨by rw [hb7]; exact blk_lt X2.out, by rw [hb7]; exact B12.out.size, hb7⟩)
  have X3 := Aside0.mk (blk_below X2.out B3.out)
  replace B3 : Aside0 (Below b7 w2 W3) := ⟨by rw [hb7]; exact B3.out⟩
  clear hb7 k2
  go_wp2_with fail
  go_loopg [35] n (fun gg s35 wr => ∃ i : Nat, i ≤ n ∧ n - i ≤ gg ∧ s35 = .int .i64 (i : Int) ∧ Aside0 (Row wr b7 (ordL n i) n) ∧ Aside0 (Below b7 w2 wr))
  case atStart => exact ⟨0, Nat.zero_le _, by omega, rfl, ⟨by rw [ord_zero]; exact R3.out⟩, B3⟩
  case round =>
    obtain ⟨i, hi, hgg, rfl, RW, BR⟩ := hrel
    by_cases hlt : i < n
    · --< fill
      have hltz : (i : Int) < (n : Int) := by omega
      have hi20 : (i : Int) ≤ 20 := by omega
      have k7 := RW.out.cell (i := i) (by rw [ord_len]; exact hlt)
      obtain ⟨rest, hblk, _⟩ := RW.out
      have f7 := blk_frozen hblk i
      clear hblk
      have RS := Aside0.mk (show Row (wr.setCell ⟨b7, i, none⟩ (.int .i64 (i : Int))) b7 (ordL n (i + 1)) n from by rw [← ord_set hlt]; exact RW.out.set (by rw [ord_len]; exact hlt) _)
      have BS := Aside0.mk (show Below b7 w2 (wr.setCell ⟨b7, i, none⟩ (.int .i64 (i : Int))) from (turned_set wr ⟨b7, i, none⟩ _).below BR.out (Nat.le_refl _))
      go_wp2_with fail
      go_roundg (n - (i + 1))
      case measure => omega
      case rel => exact ⟨i + 1, by omega, by omega, by go_num, RS, BS⟩
      --> fill
    · have hie : i = n := by omega
      subst hie
      clear hgg hlt R3 B3 X3
      have BW := Aside0.mk (show Below w.heap.size w wr from B12.out.trans (BR.out.mono HZ7.out.2.1))
      have XR := Aside0.mk (show wr.heap[b3]? = some (.cells #[.slice A i c] 22 (0, 0)) from (BR.out.block b3 HZ7.out.1).trans X2.out)
      have e2 : ∀ args w, (callFunc 109 args).run Try.prog w = .ok (.enter 109 args) w := enters_of Try.func109 (by kernel_rfl) rfl
      have HSR := Aside0.mk (srt_calls 109 #[.pointer (some ⟨b3, 0, none⟩)] e2 (fun x => ss.getD x.toNat 0) (fun x => 0 ≤ x ∧ x < (i : Int)) b7 i (ordL i i) wr (fun W x y hW hx hy => by
        obtain ⟨x', rfl⟩ : ∃ x' : Nat, x = (x' : Int) := ⟨x.toNat, by omega⟩
        obtain ⟨y', rfl⟩ : ∃ y' : Nat, y = (y' : Int) := ⟨y.toNat, by omega⟩
        have := k2_calls b3 A c ss x' y' W ((blk_cell (show W.heap[b3]? = some (.cells #[.slice A i c] 22 (0, 0)) from (hW.block b3 HZ7.out.1).trans XR.out) 0).trans (by rw [HNN.out]; rfl)) (Kd.C_below HR.out (BW.out.trans (hW.mono HZ7.out.2.1))) (by have := HNN.out; omega) (by have := HNN.out; omega)
        exact this) RW.out (ord_in i) (by rw [ord_len]; omega))
      rw [ord_len] at HSR
      go_upto_region 14 with (first
        | (go_at_call 108
           refine HSR.out.mono ?_
           rintro e w5 ⟨rfl, ys, hR5, hS5, hT5, hB5⟩
           have R5 := Aside0.mk hR5
           have S5 := Aside0.mk hS5
           have T5 := Aside0.mk hT5
           have B5 := Aside0.mk hB5
           clear hR5 hS5 hT5 hB5)
        | fail)
      have X5 := Aside0.mk (show w5.heap[b3]? = some (.cells #[.slice A i c] 22 (0, 0)) from (B5.out.block b3 HZ7.out.1).trans XR.out)
      have BW5 := Aside0.mk (show Below w.heap.size w w5 from BW.out.trans (B5.out.mono HZ7.out.2.1))
      have hyl : ys.length = i := by rw [S5.out.len, ord_len]
      have KF0 := Aside0.mk (show KfL L (szs ss ys 0) [] true from by
        have h1 := S5.out
        have h2 := T5.out
        rw [HNN.out] at h1
        exact kf_start HN.out.1.1 HS.out HM.out h1 (fun x h => by have := HNN.out; omega) h2)
      have k3 : w5.cell? ⟨b3, 0, none⟩ = some (.slice A i c) := (blk_cell X5.out 0).trans rfl
      have hmk := run_make_row' (P := Try.prog) 43 22 (.slice none 0 0) 24 Try.underlying43 row22 rfl .i64 .i64 i (by omega) (by omega) w5
      obtain ⟨W7, hW7⟩ : ∃ W7, W7 = ((w5.alloc (.cells (madeCells #[.slice none 0 0] i) 22)).alloc (.cells #[] 3)) := ⟨_, rfl⟩
      have B57 := Aside0.mk (show Below w5.heap.size w5 W7 from by rw [hW7]; exact below_alloc (below_alloc (Below.refl _ _) _) _)
      have hl7 : b7 < w5.heap.size := R5.out.lt
      have M7 := Aside0.mk (show KfM W7 b7 (w5.heap.size + 1) w5.heap.size i 0 ys [] from
        ⟨R5.out.below B57.out, ⟨[], by rw [hW7]; exact blk_newn _ _ _ (by simp), rfl, Nat.zero_le _⟩, ⟨madeCells #[.slice none 0 0] i, by rw [hW7]; exact blk_alloc (blk_new w5 _) _, size_madeCells _ _⟩, by omega⟩)
      go_upto_region 16 with fail
      rw [← hW7]
      obtain ⟨b9, hb9⟩ : ∃ b9, b9 = w5.heap.size + 1 := ⟨_, rfl⟩
      obtain ⟨bL, hbL⟩ : ∃ bL, bL = w5.heap.size := ⟨_, rfl⟩
      rw [← hb9] at M7 ⊢
      rw [← hbL] at M7 ⊢
      have B7 := Aside0.mk (show Below b7 w5 W7 from B57.out.mono (Nat.le_of_lt hl7))
      have HYL := Aside0.mk hyl
      clear hmk hW7 hb9 hbL k3 hl7 B57 R5 hyl
      go_wp2_with fail
      go_loopg [4, 9, 10, 52] i (fun gg s4 s9 s10 s52 wr => ∃ (k : Nat) (ds : List Nat) (b9 c9 : Nat) (okb : Bool), k ≤ i ∧ i - k ≤ gg ∧ s4 = .slice (some ⟨bL, 0, none⟩) i i ∧ s9 = .slice (some ⟨b9, 0, none⟩) ds.length c9 ∧ s10 = .bool okb ∧ s52 = .int .i64 (k : Int) ∧ Aside0 (KfM wr b7 b9 bL i c9 ys ds) ∧ Aside0 (KfL L (szs ss ys k) ds okb) ∧ Aside0 (Below b7 w5 wr))
      case atStart => exact ⟨0, [], b9, 0, true, Nat.zero_le _, by omega, rfl, rfl, rfl, rfl, M7, KF0, B7⟩
      case round =>
        obtain ⟨k, ds, b9, c9, okb, hk, hgk, rfl, rfl, rfl, rfl, MM, KF, BR⟩ := hrel
        by_cases hki : k < i
        · have hkiz : (k : Int) < (i : Int) := by omega
          have hyk : k < ys.length := by rw [HYL.out]; exact hki
          obtain ⟨x, hx⟩ : ∃ x, x = ys.getD k 0 := ⟨_, rfl⟩
          have hxm : 0 ≤ x ∧ x < (i : Int) := S5.out.dom x (by rw [hx, List.getD_eq_getElem?_getD, List.getElem?_eq_getElem hyk]; exact List.getElem_mem hyk)
          obtain ⟨x', hx'⟩ : ∃ x' : Nat, x = (x' : Int) := ⟨x.toNat, by omega⟩
          have hxl : x' < ss.length := by have := HNN.out; omega
          obtain ⟨sz, hsz⟩ : ∃ sz : Nat, ss[x'] = (sz : Int) := ⟨ss[x'].toNat, by have := HS.out _ (List.getElem_mem hxl); omega⟩
          have hcons : szs ss ys k = sz :: szs ss ys (k + 1) := by
            unfold szs
            rw [List.drop_eq_getElem_cons hyk, List.map_cons]
            congr 1
            have : ys[k] = (x' : Int) := by rw [← hx', hx, List.getD_eq_getElem?_getD, List.getElem?_eq_getElem hyk]; rfl
            rw [this, Int.toNat_natCast, List.getD_eq_getElem?_getD, List.getElem?_eq_getElem hxl]
            show ss[x'].toNat = sz
            rw [hsz]; rfl
          have k7 : wr.cell? ⟨b7, k, none⟩ = some (.int .i64 (x' : Int)) := by rw [← hx', hx]; exact MM.out.o.cell hyk
          have HCN := Aside0.mk hcons
          obtain ⟨ads, es, cs0⟩ := int_get HR.out rfl hxl
          rw [hsz] at cs0
          have CS := Aside0.mk cs0
          have HNS := Aside0.mk (show 1 ≤ sz from by have := HS.out _ (List.getElem_mem hxl); omega)
          have hxz : (x' : Int) < (i : Int) := by have := HNN.out; omega
          clear hx hxm hx' hcons hsz cs0 hyk
          clear hxl
          subst es
          cases okb with
          | false =>
            exfalso
            have h := KF.out.f
            rw [HCN.out] at h
            simp [kraftF] at h
          | true =>
            have HKS := Aside0.mk (KF.out.s sz (by rw [HCN.out]; exact List.mem_cons_self ..))
            obtain ⟨go, hgo⟩ : ∃ go, go = gk := ⟨_, rfl⟩
            subst hgo
            go_wp2_with fail
            go_loopg [9] (sz + 1) (fun gg s9 wr => ∃ (z b9 c9 : Nat), ds.length + z ≤ sz ∧ sz - (ds.length + z) + 1 ≤ gg ∧ s9 = .slice (some ⟨b9, 0, none⟩) (ds.length + z) c9 ∧ Aside0 (KfM wr b7 b9 bL i c9 ys (ds ++ List.replicate z 0)) ∧ Aside0 (Below b7 w5 wr))
            case atStart => exact ⟨0, b9, c9, by have := HKS.out; omega, by omega, rfl, ⟨by simpa using MM.out⟩, BR⟩
            case round =>
              obtain ⟨z, b9, c9, hz, hgz, rfl, MM, BR⟩ := hrel
              clear k7
              have X3 := Aside0.mk (show wr.heap[b3]? = some (.cells #[.slice (some ads) i c] 22 (0, 0)) from (BR.out.block b3 HZ7.out.1).trans X5.out)
              have k3 : wr.cell? ⟨b3, 0, none⟩ = some (.slice (some ads) i c) := (blk_cell X3.out 0).trans rfl
              have BWr := Aside0.mk (BW5.out.trans (BR.out.mono HZ7.out.2.1))
              have ks := pw_cell_below BWr.out CS.out
              by_cases hzs : ds.length + z < sz
              · --< more
                have hzz : ((ds.length + z : Nat) : Int) < (sz : Int) := by omega
                have hsm : ds.length + z ≤ 10 := by have := HKS.out; omega
                have BA := Aside0.mk (below_alloc (Below.refl wr.heap.size wr) (.cells #[.int .i64 0] 3))
                have hbl9 : b9 < wr.heap.size := MM.out.x.lt
                have RA := Aside0.mk (Row.R (base := bL + 1) (ok := fun _ => True) (MM.out.x.below BA.out) (by have := MM.out.ne.2; omega) trivial)
                have HBA := Aside0.mk (show Below (bL + 1) wr (wr.alloc (.cells #[.int .i64 0] 3)) from BA.out.mono (by have := MM.out.ne.2; omega))
                have hlz : ((ds ++ List.replicate z 0).map fun (d : Nat) => (d : Int)).length = ds.length + z := by simp
                rw [hlz] at RA
                have HLZ := Aside0.mk hlz
                clear hlz
                go_wp2_with (first
                  | (at_builtin
                     refine' Kd.R_append_row (w0 := wr) (Value.int .i64) 0 (bL + 1) rfl _ _ 22 3 (.int .i64 0) 8 rfl Try.underlying22 int3 rfl (by decide) (.slice (some ⟨b9, 0, none⟩) (ds.length + z) c9) ((ds ++ List.replicate z 0).map fun (d : Nat) => (d : Int)) [0] (some ⟨wr.heap.size, 0, none⟩) 1 1 (fun _ => True) ?q1 ?q2 ?q3 ?q4 ?q5 ?q6 ?q7 ?q8 ?_
                     (case q1 => rfl)
                     (case q2 => rfl)
                     (case q3 => exact fun _ _ => trivial)
                     (case q4 => exact RA.out)
                     (case q5 => exact lit_C (by go_simp))
                     (case q6 => exact HBA.out)
                     (case q7 => exact Nat.le_trans (show bL + 1 ≤ wr.heap.size from by have := MM.out.ne.2; omega) BA.out.size)
                     (case q8 => (have := HLZ.out; simp only [List.length_map, List.length_append, List.length_replicate] at this ⊢; omega))
                     intro v4 w4 hown hb4 hgr hat
                     obtain ⟨A4, c4, rfl⟩ := Kd.R_slice hown
                     have O4 := Aside0.mk hown
                     have B4 := Aside0.mk hb4
                     clear hown hb4 hgr hat k3 ks hbl9)
                  | fail)
                have hl4 : ((ds ++ List.replicate z 0).map (fun (d : Nat) => (d : Int)) ++ [0]).length = ds.length + (z + 1) := by have := HLZ.out; rw [List.length_append, this]; simp; omega
                have NX := Aside0.mk (show ∃ g, A4 = some ⟨g, 0, none⟩ ∧ Row w4 g ((ds ++ List.replicate (z + 1) 0).map fun (d : Nat) => (d : Int)) c4 ∧ bL + 1 ≤ g from by
                  have e : (ds ++ List.replicate z 0).map (fun (d : Nat) => (d : Int)) ++ [0] = (ds ++ List.replicate (z + 1) 0).map fun (d : Nat) => (d : Int) := by
                    simp [List.replicate_succ']
                  cases A4 with
                  | none =>
                    obtain ⟨_, q, _⟩ := int_get (i := 0) (Kd.R_reads' O4.out).2.2 rfl (by rw [hl4]; omega)
                    cases q
                  | some ay =>
                    obtain ⟨g, rfl, _, hrow, hgb, _⟩ := row_of_R O4.out
                    rw [e] at hrow
                    exact ⟨g, rfl, hrow, hgb⟩)
                obtain ⟨g, rfl, hrow, hgb⟩ := NX.out
                have M4 := Aside0.mk (show KfM w4 b7 g bL i c4 ys (ds ++ List.replicate (z + 1) 0) from
                  ⟨MM.out.o.keep (B4.out.block b7 (by have := MM.out.ne.1; omega)), hrow, (by obtain ⟨cs, h1, h2⟩ := MM.out.l; exact ⟨cs, (B4.out.block bL (Nat.lt_succ_self _)).trans h1, h2⟩), MM.out.ne.1, hgb⟩)
                have BR4 := Aside0.mk (BR.out.trans (B4.out.mono (by have := MM.out.ne.1; omega)))
                clear NX hrow hgb O4
                go_roundg (sz - (ds.length + (z + 1)) + 1)
                case measure => omega
                case rel => exact ⟨z + 1, g, c4, by omega, by omega, by first | rfl | rw [hl4] | (simp; done) | (simp; omega), M4, BR4⟩
                --> more
              · have hze : ds.length + z = sz := by omega
                have HZE := Aside0.mk hze
                have hzz : ¬ ((ds.length + z : Nat) : Int) < (sz : Int) := by omega
                have hlz : (ds ++ List.replicate z 0).length = sz := by simp; omega
                have KFI := Aside0.mk (show kraftF L (incD L (ds ++ List.replicate z 0) sz) (szs ss ys (k + 1)) = true from by
                  have h := KF.out.f
                  rw [HCN.out, if_pos rfl] at h
                  simp only [kraftF] at h
                  rw [show sz - ds.length = z from by omega] at h
                  exact h)
                have HNX := Aside0.mk (show ∀ q ∈ szs ss ys (k + 1), sz ≤ q ∧ q ≤ 10 from fun q hq => by
                  have hp := KF.out.p
                  rw [HCN.out, List.pairwise_cons] at hp
                  exact ⟨hp.1 q hq, (KF.out.s q (by rw [HCN.out]; exact List.mem_cons_of_mem _ hq)).2⟩)
                rw [hze]
                go_upto_region 23 with fail
                have hmapl : ((ds ++ List.replicate z 0).map fun (d : Nat) => (d : Int)).length = sz := by rw [List.length_map]; exact hlz
                have hsz10 : sz ≤ 10 := HKS.out.2
                have HCLO := Aside0.mk (clone_at (some ⟨b9, 0, none⟩) sz c9 _ wr hmapl (by rw [← hmapl]; exact MM.out.x.C) (by rw [← hmapl]; exact MM.out.x.le) (by omega))
                obtain ⟨cs, hcs, hcl⟩ := MM.out.l
                have HCS := Aside0.mk (And.intro hcs hcl)
                have hxi : x' < cs.size := by omega
                have HVX := Aside0.mk (show cs[x']? = some cs[x'] from Array.getElem?_eq_getElem hxi)
                generalize cs[x'] = vx at HVX
                clear hmapl hcs hcl hxi k3 ks
                go_upto_region 24 with (first
                  | (go_at_call 53
                     refine HCLO.out.mono ?_
                     rintro e w6 ⟨v6, rfl, hR6, hb6⟩
                     obtain ⟨A6, c6, rfl⟩ := Kd.R_slice hR6
                     have B6 := Aside0.mk hb6
                     have L6 := Aside0.mk (blk_below HCS.out.1 hb6)
                     have kL : w6.cell? ⟨bL, x', none⟩ = some vx := (blk_cell L6.out x').trans HVX.out
                     have fL := blk_frozen L6.out x'
                     clear hR6 hb6)
                  | fail)
                have hz10 : (sz : Int) ≤ 10 := by omega
                have hsz1 : 1 ≤ sz := by
                  have := HKS.out
                  exact HNS.out
                have M6 := Aside0.mk (MM.out.below B6.out)
                have T8 := Aside0.mk (turned_set w6 ⟨bL, x', none⟩ (.slice A6 sz c6))
                have M8 := Aside0.mk (show KfM (w6.setCell ⟨bL, x', none⟩ (.slice A6 sz c6)) b7 b9 bL i c9 ys (ds ++ List.replicate z 0) from
                  ⟨M6.out.o.keep (T8.out.block b7 (by have := MM.out.ne.1; show b7 ≠ bL; omega)), M6.out.x.keep (T8.out.block b9 (by have := MM.out.ne.2; show b9 ≠ bL; omega)), ⟨_, blk_set L6.out x' _, by have := HCS.out.2; simpa using this⟩, MM.out.ne⟩)
                have BR8 := Aside0.mk (show Below b7 w5 (w6.setCell ⟨bL, x', none⟩ (.slice A6 sz c6)) from T8.out.below (BR.out.trans (B6.out.mono (Nat.le_of_lt (Nat.lt_trans (Nat.lt_trans MM.out.ne.1 MM.out.ne.2) MM.out.x.lt)))) (Nat.le_of_lt MM.out.ne.1))
                have HD8 := Aside0.mk (show ∀ q ∈ ds ++ List.replicate z 0, q < L from fun q hq => by
                  have h1 := HN.out.1.1
                  rcases List.mem_append.1 hq with h | h
                  · exact KF.out.d q h
                  · have := (List.mem_replicate.1 h).2; omega)
                generalize w6.setCell ⟨bL, x', none⟩ (.slice A6 sz c6) = W8 at M8 BR8 ⊢
                clear T8 M6 fL kL L6 B6 HVX HCS HCLO CS X3 BWr
                have HL4 := Aside0.mk (show (L : Int) ≤ 4 ∧ 1 ≤ (L : Int) from by have := HN.out.1; omega)
                obtain ⟨dz, hdz⟩ : ∃ dz, dz = ds ++ List.replicate z 0 := ⟨_, rfl⟩
                rw [← hdz] at KFI M8 HD8 hlz
                have MM := 0
                have BR := 0
                clear hdz MM BR
                have hszd : ((sz : Nat) : Int) - 1 = ((sz : Int) - 1) := rfl
                go_wp2_with fail
                go_loopg [13] (sz + 1) (fun gg s13 wr => ∃ (j : Nat) (dj : List Nat), j ≤ sz ∧ j + 1 ≤ gg ∧ s13 = .int .i64 ((j : Int) - 1) ∧ dj.length = sz ∧ Aside0 (KfM wr b7 b9 bL i c9 ys dj) ∧ Aside0 (∀ q ∈ dj, q < L) ∧ Aside0 (kraftF L (incD L dj j) (szs ss ys (k + 1)) = true) ∧ Aside0 (Below b7 w5 wr))
                case atStart => exact ⟨sz, dz, Nat.le_refl _, Nat.le_refl _, rfl, hlz, M8, HD8, KFI, BR8⟩
                case round =>
                  obtain ⟨j, dj, hj, hgj, rfl, hlj, MM, HD, KJ, BR⟩ := hrel
                  clear M8 BR8 HD8 KFI
                  cases j with
                  | zero =>
                    have hm1 : ((0 : Nat) : Int) - 1 = -1 := rfl
                    rw [hm1]
                    have hneg : ¬ (0 : Int) ≤ -1 := by omega
                    go_wp2_with fail
                    have KN := Aside0.mk (show KfL L (szs ss ys (k + 1)) dj false from
                      ⟨by have := KJ.out; simpa [incD] using this, HD.out, fun q hq => by have := HNX.out q hq; omega, by have hp := KF.out.p; rw [HCN.out, List.pairwise_cons] at hp; exact hp.2⟩)
                    go_roundg (i - (k + 1))
                    case measure => omega
                    case rel => exact ⟨k + 1, dj, b9, c9, false, by omega, by omega, rfl, by rw [hlj], rfl, by go_num, MM, KN, BR⟩
                  | succ j =>
                    have hm1 : ((j + 1 : Nat) : Int) - 1 = (j : Int) := by omega
                    rw [hm1]
                    have hpos : (0 : Int) ≤ (j : Int) := by omega
                    have hjl : (j : Int) < (sz : Int) := by omega
                    have hj11 : (j : Int) ≤ 10 := by omega
                    have hjd : j < dj.length := by omega
                    obtain ⟨d, hd⟩ : ∃ d, d = dj.getD j 0 := ⟨_, rfl⟩
                    have hdL : d < L := by rw [hd, List.getD_eq_getElem?_getD, List.getElem?_eq_getElem hjd]; exact HD.out _ (List.getElem_mem hjd)
                    have kd : wr.cell? ⟨b9, j, none⟩ = some (.int .i64 (d : Int)) := by
                      have := MM.out.x.cell (i := j) (by rw [List.length_map]; exact hjd)
                      rw [this, hd]
                      congr 2
                      rw [List.getD_eq_getElem?_getD, List.getD_eq_getElem?_getD, List.getElem?_map, List.getElem?_eq_getElem hjd]
                      rfl
                    obtain ⟨rest9, hblk9, _⟩ := MM.out.x
                    have f9 := blk_frozen hblk9 j
                    clear hblk9
                    have hl4 := HL4.out
                    have hset : ∀ q : Nat, (dj.map fun (d : Nat) => (d : Int)).set j (q : Int) = (dj.set j q).map fun (d : Nat) => (d : Int) := fun q => by rw [List.map_set]
                    have hMS : ∀ q : Nat, KfM (wr.setCell ⟨b9, j, none⟩ (.int .i64 (q : Int))) b7 b9 bL i c9 ys (dj.set j q) := fun q =>
                      ⟨MM.out.o.keep ((turned_set wr ⟨b9, j, none⟩ _).block b7 (by have := MM.out.ne; show b7 ≠ b9; omega)), by rw [← hset]; exact MM.out.x.set (by rw [List.length_map]; exact hjd) _, (by obtain ⟨cs, h1, h2⟩ := MM.out.l; exact ⟨cs, ((turned_set wr ⟨b9, j, none⟩ _).block bL (by have := MM.out.ne; show bL ≠ b9; omega)).trans h1, h2⟩), MM.out.ne⟩
                    have hBS : ∀ v : Value, Below b7 w5 (wr.setCell ⟨b9, j, none⟩ v) := fun v => (turned_set wr ⟨b9, j, none⟩ _).below BR.out (by have := MM.out.ne; show b7 ≤ b9; omega)
                    have HMS := Aside0.mk hMS
                    have HBS := Aside0.mk hBS
                    have HDD := Aside0.mk hd
                    clear hMS hBS hset hd
                    by_cases he : d = L - 1
                    · have hez : (d : Int) = (L : Int) - 1 := by omega
                      have HK1 := Aside0.mk (show kraftF L (incD L (dj.set j 0) j) (szs ss ys (k + 1)) = true from by
                        have := KJ.out
                        simp only [incD] at this
                        rw [← HDD.out, if_pos he] at this
                        exact this)
                      have HD1 := Aside0.mk (show ∀ q ∈ dj.set j 0, q < L from fun q hq => by
                        rcases List.mem_or_eq_of_mem_set hq with h | h
                        · exact HD.out q h
                        · have := HN.out.1.1; omega)
                      have M1 := Aside0.mk (HMS.out 0)
                      have B1 := Aside0.mk (HBS.out (.int .i64 ((0 : Nat) : Int)))
                      go_wp2_with fail
                      go_roundg (j + 1)
                      case measure => omega
                      case rel => exact ⟨j, dj.set j 0, by omega, by omega, by go_num, by rw [List.length_set]; exact hlj, M1, HD1, HK1, B1⟩
                    · have hez : ¬ (d : Int) = (L : Int) - 1 := by omega
                      have KN := Aside0.mk (show KfL L (szs ss ys (k + 1)) (dj.set j (d + 1)) true from
                        ⟨by
                          have := KJ.out
                          simp only [incD] at this
                          rw [← HDD.out, if_neg he] at this
                          rw [if_pos rfl]
                          exact this, fun q hq => by
                          rcases List.mem_or_eq_of_mem_set hq with h | h
                          · exact HD.out q h
                          · omega, fun q hq => by rw [List.length_set]; have := HNX.out q hq; omega, by have hp := KF.out.p; rw [HCN.out, List.pairwise_cons] at hp; exact hp.2⟩)
                      have M1 := Aside0.mk (HMS.out (d + 1))
                      have B1 := Aside0.mk (HBS.out (.int .i64 ((d + 1 : Nat) : Int)))
                      have hdd4 : (d : Int) ≤ 4 := by omega
                      rw [show ((d + 1 : Nat) : Int) = (d : Int) + 1 from rfl] at M1 B1
                      go_wp2_with fail
                      go_roundg (i - (k + 1))
                      case measure => omega
                      case rel => exact ⟨k + 1, dj.set j (d + 1), b9, c9, true, by omega, by omega, rfl, by rw [List.length_set, hlj], rfl, by go_num, M1, KN, B1⟩
        · --< kend
          have hke : ¬ (k : Int) < (i : Int) := by omega
          go_wp2_with fail
          go_ret3
          exact ⟨⟨_, rfl⟩, BW5.out.trans (BR.out.mono HZ7.out.2.1)⟩
          --> kend
end Go.Proofs.Ytampgoendkjkhaa.H
