/- seqs: the plain law: how often each letter, each number stands below a place. -/
import Derived.Test.YtampgoendkjkhaaWWords
namespace Go.Proofs.Ytampgoendkjkhaa.H
set_option linter.unusedVariables false
set_option linter.unusedSimpArgs false
structure MorOk (b : Nat) (im : List (List Int)) (cd : List Int) : Prop where
  b2 : 2 ≤ b
  b4 : b ≤ 4
  n1 : 1 ≤ im.length
  n4 : im.length ≤ 4
  len : cd.length = im.length
  row : ∀ r ∈ im, r.length = b
  val : ∀ r ∈ im, ∀ x ∈ r, 0 ≤ x ∧ x < (im.length : Int)
  cod : ∀ x ∈ cd, 0 ≤ x ∧ x ≤ 9
  head : (im.getD 0 []).getD 0 0 = 0
def imN (im : List (List Int)) (a d : Nat) : Nat := ((im.getD a []).getD d 0).toNat
def letF (b : Nat) (im : List (List Int)) (n : Nat) : Nat :=
  if h : n = 0 ∨ b < 2 then 0 else imN im (letF b im (n / b)) (n % b)
termination_by n
decreasing_by exact Nat.div_lt_self (by omega) (by omega)
theorem let_zero (b : Nat) (im : List (List Int)) : letF b im 0 = 0 := by rw [letF, dif_pos (.inl rfl)]
theorem let_step {b : Nat} (hb : 2 ≤ b) (im : List (List Int)) {n : Nat} (hn : n ≠ 0) : letF b im n = imN im (letF b im (n / b)) (n % b) := by rw [letF, dif_neg (by omega)]
def cnt (b : Nat) (im : List (List Int)) (n c : Nat) : Nat := (List.range n).countP fun i => letF b im i == c
theorem cnt_succ (b : Nat) (im : List (List Int)) (n c : Nat) : cnt b im (n + 1) c = cnt b im n c + if letF b im n = c then 1 else 0 := by
  unfold cnt
  rw [List.range_succ, List.countP_append, List.countP_singleton]
  congr 1
  simp
theorem cnt_le (b : Nat) (im : List (List Int)) (n c : Nat) : cnt b im n c ≤ n := by
  unfold cnt
  exact Nat.le_trans List.countP_le_length (by simp)
def occ (im : List (List Int)) (a c : Nat) : Nat := (im.getD a []).countP fun x => x == (c : Int)
def accA (b : Nat) (im : List (List Int)) (q : Nat) : Nat → Nat → Nat
  | 0, _ => 0
  | a + 1, c => accA b im q a c + cnt b im q a * occ im a c
theorem acc_succ (b : Nat) (im : List (List Int)) (q c : Nat) : ∀ a, accA b im (q + 1) a c = accA b im q a c + if letF b im q < a then occ im (letF b im q) c else 0
  | 0 => by simp [accA]
  | a + 1 => by
    unfold accA
    rw [acc_succ b im q c a, cnt_succ]
    by_cases h : letF b im q = a
    · subst h
      rw [if_pos rfl, if_neg (Nat.lt_irrefl _), if_pos (Nat.lt_succ_self _), Nat.add_mul, Nat.one_mul]
      omega
    · rw [if_neg h]
      by_cases h2 : letF b im q < a
      · rw [if_pos h2, if_pos (by omega)]; simp only [Nat.add_zero]; omega
      · rw [if_neg h2, if_neg (by omega)]; simp
theorem acc_zero (b : Nat) (im : List (List Int)) (c : Nat) : ∀ a, accA b im 0 a c = 0
  | 0 => rfl
  | a + 1 => by unfold accA; rw [acc_zero b im c a]; simp [cnt]
section
variable {b : Nat} {im : List (List Int)} {cd : List Int}
theorem im_row (h : MorOk b im cd) {a : Nat} (ha : a < im.length) : im.getD a [] ∈ im ∧ (im.getD a []).length = b := by
  rw [List.getD_eq_getElem?_getD, List.getElem?_eq_getElem ha]
  exact ⟨List.getElem_mem ha, h.row _ (List.getElem_mem ha)⟩
theorem im_val (h : MorOk b im cd) {a d : Nat} (ha : a < im.length) (hd : d < b) : (im.getD a []).getD d 0 = (imN im a d : Int) ∧ imN im a d < im.length := by
  obtain ⟨h1, h2⟩ := im_row h ha
  have hx : (im.getD a []).getD d 0 ∈ im.getD a [] := by
    generalize im.getD a [] = r at h2
    rw [List.getD_eq_getElem?_getD, List.getElem?_eq_getElem (by omega)]
    exact List.getElem_mem _
  have := h.val _ h1 _ hx
  unfold imN
  omega
theorem let_lt (h : MorOk b im cd) : ∀ n, letF b im n < im.length := by
  intro n
  induction n using Nat.strongRecOn with
  | ind n ih =>
    by_cases hn : n = 0
    · subst hn; rw [let_zero]; exact h.n1
    · rw [let_step h.b2 im hn]
      have hb := h.b2
      exact (im_val h (ih _ (Nat.div_lt_self (by omega) (by omega))) (Nat.mod_lt _ (by omega))).2
theorem let_at (h : MorOk b im cd) (q : Nat) {d : Nat} (hd : d < b) : letF b im (q * b + d) = imN im (letF b im q) d := by
  have hb := h.b2
  by_cases hz : q * b + d = 0
  · have hd0 : d = 0 := by omega
    have hq0 : q = 0 := by
      rcases Nat.eq_zero_or_pos q with g | g
      · exact g
      · have := Nat.mul_pos g (show 0 < b by omega); omega
    subst hd0 hq0
    rw [Nat.zero_mul, let_zero]
    unfold imN
    rw [h.head]
    rfl
  · rw [let_step hb im hz]
    have h1 : (q * b + d) / b = q := by rw [Nat.mul_comm, Nat.mul_add_div (by omega), Nat.div_eq_of_lt hd, Nat.add_zero]
    have h2 : (q * b + d) % b = d := by rw [Nat.mul_comm, Nat.mul_add_mod, Nat.mod_eq_of_lt hd]
    rw [h1, h2]
theorem cnt_blk (h : MorOk b im cd) (q c : Nat) : ∀ d, d ≤ b → cnt b im (q * b + d) c = cnt b im (q * b) c + ((im.getD (letF b im q) []).take d).countP (fun x => x == (c : Int))
  | 0, _ => by simp
  | d + 1, hd => by
    have hl := let_lt h q
    obtain ⟨_, h2⟩ := im_row h hl
    have hv := im_val h hl (d := d) (by omega)
    rw [← Nat.add_assoc, cnt_succ, cnt_blk h q c d (by omega), let_at h q (by omega), List.take_succ_eq_append_getElem (by omega), List.countP_append, List.countP_singleton]
    have e : (im.getD (letF b im q) [])[d]'(by omega) = (imN im (letF b im q) d : Int) := by
      rw [← hv.1, List.getD_eq_getElem?_getD (l := im.getD (letF b im q) []), List.getElem?_eq_getElem (by omega)]
      rfl
    rw [e]
    by_cases hc : imN im (letF b im q) d = c
    · simp [hc]; omega
    · have : ¬ ((imN im (letF b im q) d : Int) = (c : Int)) := by omega
      simp [hc, this]
theorem acc_all (h : MorOk b im cd) (c : Nat) : ∀ q, accA b im q im.length c = cnt b im (q * b) c
  | 0 => by rw [acc_zero, Nat.zero_mul]; rfl
  | q + 1 => by
    rw [acc_succ, acc_all h c q, if_pos (let_lt h q), Nat.succ_mul, cnt_blk h q c b (Nat.le_refl _)]
    obtain ⟨_, h2⟩ := im_row h (let_lt h q)
    rw [List.take_of_length_le (by omega)]
    rfl
/-! ### the numbers -/
def outC (b : Nat) (im : List (List Int)) (cd : List Int) (n v : Nat) : Nat := (List.range n).countP fun i => cd.getD (letF b im i) 0 == (v : Int)
theorem out_succ (b : Nat) (im : List (List Int)) (cd : List Int) (n v : Nat) : outC b im cd (n + 1) v = outC b im cd n v + if cd.getD (letF b im n) 0 = (v : Int) then 1 else 0 := by
  unfold outC
  rw [List.range_succ, List.countP_append, List.countP_singleton]
  congr 1
  simp
def accC (b : Nat) (im : List (List Int)) (cd : List Int) (n : Nat) : Nat → Nat → Nat
  | 0, _ => 0
  | a + 1, v => accC b im cd n a v + if cd.getD a 0 = (v : Int) then cnt b im n a else 0
theorem accC_zero (b : Nat) (im : List (List Int)) (cd : List Int) (v : Nat) : ∀ a, accC b im cd 0 a v = 0
  | 0 => rfl
  | a + 1 => by unfold accC; rw [accC_zero b im cd v a]; simp [cnt]
theorem accC_succ (b : Nat) (im : List (List Int)) (cd : List Int) (n v : Nat) : ∀ a, accC b im cd (n + 1) a v = accC b im cd n a v + if letF b im n < a ∧ cd.getD (letF b im n) 0 = (v : Int) then 1 else 0
  | 0 => by simp [accC]
  | a + 1 => by
    unfold accC
    rw [accC_succ b im cd n v a, cnt_succ]
    by_cases h : letF b im n = a
    · subst h
      by_cases h3 : cd.getD (letF b im n) 0 = (v : Int)
      · simp only [h3, if_true, Nat.lt_irrefl, false_and, if_false, Nat.lt_succ_self, true_and]; omega
      · simp only [h3, if_false, Nat.lt_irrefl, false_and, and_false]
    · have e : (letF b im n < a + 1) = (letF b im n < a) := propext ⟨fun g => by omega, fun g => by omega⟩
      rw [if_neg h, Nat.add_zero]
      simp only [e]
      omega
theorem accC_all (h : MorOk b im cd) (v : Nat) : ∀ n, accC b im cd n im.length v = outC b im cd n v
  | 0 => by rw [accC_zero]; rfl
  | n + 1 => by
    rw [accC_succ, accC_all h v n, out_succ]
    have := let_lt h n
    by_cases h3 : cd.getD (letF b im n) 0 = (v : Int)
    · rw [if_pos ⟨this, h3⟩, if_pos h3]
    · rw [if_neg (fun g => h3 g.2), if_neg h3]
theorem cd_val (h : MorOk b im cd) {a : Nat} (ha : a < im.length) : ∃ v : Nat, cd.getD a 0 = (v : Int) ∧ v ≤ 9 := by
  have hx : cd.getD a 0 ∈ cd := by
    rw [List.getD_eq_getElem?_getD, List.getElem?_eq_getElem (by rw [h.len]; exact ha)]
    exact List.getElem_mem _
  have := h.cod _ hx
  exact ⟨(cd.getD a 0).toNat, by omega, by omega⟩
def sumC (b : Nat) (im : List (List Int)) (cd : List Int) (n : Nat) : Nat → Nat
  | 0 => 0
  | v + 1 => sumC b im cd n v + outC b im cd n v
theorem sum_succ (b : Nat) (im : List (List Int)) (cd : List Int) (n u : Nat) (hu : cd.getD (letF b im n) 0 = (u : Int)) : ∀ v, sumC b im cd (n + 1) v = sumC b im cd n v + if u < v then 1 else 0
  | 0 => by simp [sumC]
  | v + 1 => by
    unfold sumC
    rw [sum_succ b im cd n u hu v, out_succ, hu]
    by_cases h : u = v
    · subst h; simp; omega
    · have e : ¬ ((u : Int) = (v : Int)) := by omega
      rw [if_neg e]
      by_cases h2 : u < v
      · rw [if_pos h2, if_pos (by omega)]; omega
      · rw [if_neg h2, if_neg (by omega)]; omega
theorem sum_zero (b : Nat) (im : List (List Int)) (cd : List Int) : ∀ v, sumC b im cd 0 v = 0
  | 0 => rfl
  | v + 1 => by unfold sumC; rw [sum_zero b im cd v]; rfl
/-- all numbers are as many as the places -/
theorem sum_all (h : MorOk b im cd) : ∀ n, sumC b im cd n 10 = n
  | 0 => sum_zero b im cd 10
  | n + 1 => by
    obtain ⟨u, hu, h9⟩ := cd_val h (let_lt h n)
    rw [sum_succ b im cd n u hu, sum_all h n, if_pos (by omega)]
end
end Go.Proofs.Ytampgoendkjkhaa.H
