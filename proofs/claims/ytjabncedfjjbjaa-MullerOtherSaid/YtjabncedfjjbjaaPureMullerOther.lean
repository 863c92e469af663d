/- The law MullerOther, in plain words: the set that comes again and again does not hang on the table. -/
import Derived.Test.YtjabncedfjjbjaaPMullerOtherx
import Derived.Test.YtjabncedfjjbjaaBit
namespace Go.Proofs.Ytjabncedfjjbjaa.MullerOtherPure
open Go.RowKit Go.Proofs.YtjabncedfjjbjaaW.PrintWords Go.Proofs.YtjabncedfjjbjaaW.PrintMore Go.Proofs.Ytjabncedfjjbjaa.H Go.Proofs.Ytjabncedfjjbjaa.PMullerOther
set_option linter.unusedSimpArgs false
set_option linter.unusedVariables false

/-- an automaton and a lasso that fit -/
structure Fits (L S : Int) (nx : List (List Int)) (hd lp : List Int) : Prop where
  n1 : 1 ≤ nx.length
  n4 : nx.length ≤ 4
  s0 : 0 ≤ S
  s1 : S < nx.length
  rows : ∀ r ∈ nx, (r.length : Int) = L
  ent : ∀ r ∈ nx, ∀ a ∈ r, 0 ≤ a ∧ a < nx.length
  hl : ∀ a ∈ hd, 0 ≤ a ∧ a < L
  ll : ∀ a ∈ lp, 0 ≤ a ∧ a < L
  l1 : lp ≠ []
  hb : hd.length ≤ 60
  lb : lp.length ≤ 60

/-- one letter -/
def st (nx : List (List Int)) (q a : Nat) : Nat := ((nx.getD q []).getD a 0).toNat
theorem st_lt {L S : Int} {nx : List (List Int)} {hd lp : List Int} (F : Fits L S nx hd lp) {q a : Nat} (hq : q < nx.length) (ha : (a : Int) < L) : (((nx.getD q []).getD a 0) = (st nx q a : Int)) ∧ st nx q a < nx.length := by
  have h1 : nx.getD q [] = nx[q] := by simp [List.getD_eq_getElem?_getD, hq]
  have h2 := F.rows _ (List.getElem_mem hq)
  have h3 : a < nx[q].length := by omega
  have h4 : (nx[q]).getD a 0 = nx[q][a] := by simp [List.getD_eq_getElem?_getD, h3]
  have h5 := F.ent _ (List.getElem_mem hq) _ (List.getElem_mem h3)
  unfold st
  rw [h1, h4]
  omega
def run (nx : List (List Int)) (q : Nat) (w : List Int) : Nat := w.foldl (fun q a => st nx q a.toNat) q
theorem run_lt {L S : Int} {nx : List (List Int)} {hd lp : List Int} (F : Fits L S nx hd lp) (w : List Int) : ∀ q : Nat, q < nx.length → (∀ a ∈ w, 0 ≤ a ∧ a < L) → run nx q w < nx.length := by
  induction w with
  | nil => intro q hq _; exact hq
  | cons a w ih =>
    intro q hq hw
    have ha := hw a List.mem_cons_self
    exact ih _ (st_lt F hq (a := a.toNat) (by omega)).2 (fun b hb => hw b (List.mem_cons_of_mem _ hb))
theorem aft_run {L S : Int} {nx : List (List Int)} {hd lp : List Int} (F : Fits L S nx hd lp) (w : List Int) : ∀ q : Nat, q < nx.length → (∀ a ∈ w, 0 ≤ a ∧ a < L) → aftF nx (q : Int) w = some (run nx q w : Int) := by
  induction w with
  | nil => intro q hq _; rfl
  | cons a w ih =>
    intro q hq hw
    have ha := hw a List.mem_cons_self
    have h1 := st_lt F hq (a := a.toNat) (by omega)
    have h0 : nx.getD q [] = nx[q] := by simp [List.getD_eq_getElem?_getD, hq]
    have h2 := F.rows _ (List.getElem_mem hq)
    simp only [aftF, List.foldlM_cons]
    rw [if_pos (by rw [Int.toNat_natCast, h0]; omega), Int.toNat_natCast, h1.1]
    exact ih _ h1.2 (fun b hb => hw b (List.mem_cons_of_mem _ hb))
/-- the bits of the states on the way -/
def seen (nx : List (List Int)) : Nat → Nat → List Int → Nat
  | _, s, [] => s
  | q, s, a :: w => seen nx (st nx q a.toNat) (s ||| 2 ^ st nx q a.toNat) w
theorem pow_le16 {q n : Nat} (h : q < n) : 2 ^ q < 2 ^ n := Nat.pow_lt_pow_right (by omega) h
theorem seen_lt {L S : Int} {nx : List (List Int)} {hd lp : List Int} (F : Fits L S nx hd lp) (w : List Int) : ∀ q s : Nat, q < nx.length → (∀ a ∈ w, 0 ≤ a ∧ a < L) → s < 2 ^ nx.length → seen nx q s w < 2 ^ nx.length := by
  induction w with
  | nil => intro q s _ _ hs; exact hs
  | cons a w ih =>
    intro q s hq hw hs
    have ha := hw a List.mem_cons_self
    have h1 := st_lt F hq (a := a.toNat) (by omega)
    exact ih _ _ h1.2 (fun b hb => hw b (List.mem_cons_of_mem _ hb)) (Nat.or_lt_two_pow hs (pow_le16 h1.2))
theorem le_or (a b : Nat) : a ≤ a ||| b := Nat.left_le_or
theorem seen_ge (nx : List (List Int)) (w : List Int) : ∀ q s : Nat, s ≤ seen nx q s w := by
  induction w with
  | nil => intro q s; exact Nat.le_refl _
  | cons a w ih => intro q s; exact Nat.le_trans (le_or _ _) (ih _ _)
theorem seen_pos (nx : List (List Int)) (w : List Int) (hw : w ≠ []) (q s : Nat) : 1 ≤ seen nx q s w := by
  cases w with
  | nil => exact absurd rfl hw
  | cons a w =>
    refine Nat.le_trans ?_ (seen_ge nx w _ _)
    refine Nat.le_trans ?_ (Nat.right_le_or)
    exact Nat.one_le_two_pow

section
variable {L S : Int} {nx : List (List Int)} {hd lp : List Int} (F : Fits L S nx hd lp) (gd : List Int)
include F
theorem p16 : 2 ^ nx.length ≤ 16 := by
  have : 2 ^ nx.length ≤ 2 ^ 4 := Nat.pow_le_pow_right (by omega) F.n4
  simpa using this
/-- one time through the loop -/
theorem l2_run (fst : Nat) : ∀ (d i k q s : Nat), lp.length - i = d → i ≤ lp.length → d < k → q < nx.length → s < 2 ^ nx.length →
    muller_Accepts.l2 k (q : Int) (s : Int) (fst : Int) lp lp.length (i : Int) L S nx gd hd lp =
      (if run nx q (lp.drop i) = fst then (slices_Contains_int_int.f gd (seen nx q s (lp.drop i))).bind fun t => some (t, 0) else muller_Accepts.l1 (k - d - 1) (run nx q (lp.drop i)) (seen nx q s (lp.drop i)) fst L S nx gd hd lp) := by
  intro d
  induction d with
  | zero =>
    intro i k q s hdd hi hk hq hs
    obtain ⟨k, rfl⟩ : ∃ m, k = m + 1 := ⟨k - 1, by omega⟩
    rw [List.drop_of_length_le (by omega)]
    have er : run nx q [] = q := rfl
    have es : seen nx q s [] = s := rfl
    rw [er, es]
    simp only [muller_Accepts.l2]
    rw [if_neg (by omega), Nat.sub_zero, Nat.add_sub_cancel]
    by_cases e : q = fst
    · rw [if_pos (by omega), if_pos e]
    · rw [if_neg (by omega), if_neg e]
  | succ d ih =>
    intro i k q s hdd hi hk hq hs
    obtain ⟨k, rfl⟩ : ∃ m, k = m + 1 := ⟨k - 1, by omega⟩
    have hlt : i < lp.length := by omega
    have hlb := F.lb
    have ha := F.ll _ (List.getElem_mem hlt)
    have h1 := st_lt F hq (a := (lp[i]).toNat) (by omega)
    have h0 : nx.getD q [] = nx[q] := by simp [List.getD_eq_getElem?_getD, hq]
    have h2 := F.rows _ (List.getElem_mem hq)
    have hp := p16 F
    have hn4 := F.n4
    have e1 : rd_L1 nx (q : Int) = nx.getD q [] := by simp [rd_L1]
    have e2 : rd (nx.getD q []) lp[i] = (st nx q (lp[i]).toNat : Int) := by rw [← h1.1]; rfl
    have e3 : shl .i64 1 (st nx q (lp[i]).toNat : Int) = ((2 ^ st nx q (lp[i]).toNat : Nat) : Int) := shl_one _ (by omega)
    have hpw : 2 ^ st nx q (lp[i]).toNat < 2 ^ nx.length := pow_le16 h1.2
    have e4 : Go.bits .or .i64 (s : Int) ((2 ^ st nx q (lp[i]).toNat : Nat) : Int) = ((s ||| 2 ^ st nx q (lp[i]).toNat : Nat) : Int) := bits_or _ _ (by omega) (by omega)
    simp only [muller_Accepts.l2]
    rw [if_pos (by omega), if_pos (by omega), if_pos (by omega), if_pos (by omega), if_pos (by omega), rd_at hlt, if_pos ha.1, e1, if_pos (by rw [h0]; omega), e2, if_pos (by omega), e3, e4, w64 (by omega) (by omega), show ((i : Int) + 1) = ((i + 1 : Nat) : Int) from by omega]
    rw [ih (i + 1) k (st nx q (lp[i]).toNat) (s ||| 2 ^ st nx q (lp[i]).toNat) (by omega) (by omega) (by omega) h1.2 (Nat.or_lt_two_pow hs hpw)]
    have hdr : lp.drop i = lp[i] :: lp.drop (i + 1) := List.drop_eq_getElem_cons hlt
    rw [hdr]
    have ek : k + 1 - (d + 1) - 1 = k - d - 1 := by omega
    rw [ek]
    rfl

/-! ### the cycle -/
/-- the loop, m times -/
def itq (nx : List (List Int)) (lp : List Int) (q : Nat) : Nat → Nat
  | 0 => q
  | m + 1 => itq nx lp (run nx q lp) m
omit F in
theorem itq_add (a b q : Nat) : itq nx lp q (a + b) = itq nx lp (itq nx lp q a) b := by
  induction a generalizing q with
  | zero => rw [Nat.zero_add]; rfl
  | succ a ih => rw [show a + 1 + b = (a + b) + 1 from by omega]; exact ih _
theorem itq_lt (m : Nat) : ∀ q, q < nx.length → itq nx lp q m < nx.length := by
  induction m with
  | zero => intro q h; exact h
  | succ m ih => intro q h; exact ih _ (run_lt F lp q h F.ll)
/-- the bits of all states on the way through the loop m times -/
def itseen (nx : List (List Int)) (lp : List Int) (q s : Nat) : Nat → Nat
  | 0 => s
  | m + 1 => itseen nx lp (run nx q lp) (seen nx q s lp) m
/-- from a state that comes again, the search ends; what it has seen does not hang on the table -/
theorem l1_run (fst : Nat) : ∀ (m q s : Nat), q < nx.length → s < 2 ^ nx.length → itq nx lp q (m + 1) = fst → ∃ t : Nat, 1 ≤ t ∧ t < 2 ^ nx.length ∧ ∃ K, ∀ k, K ≤ k → ∀ gd : List Int,
    muller_Accepts.l1 k (q : Int) (s : Int) (fst : Int) L S nx gd hd lp = (slices_Contains_int_int.f gd t).bind fun b => some (b, 0) := by
  intro m
  induction m with
  | zero =>
    intro q s hq hs he
    have he' : run nx q lp = fst := he
    refine ⟨seen nx q s lp, seen_pos nx lp F.l1 q s, seen_lt F lp q s hq F.ll hs, lp.length + 2, fun k hk gd => ?_⟩
    obtain ⟨k, rfl⟩ : ∃ m, k = m + 1 := ⟨k - 1, by omega⟩
    rw [muller_Accepts.l1]
    have := l2_run F gd fst lp.length 0 k q s (by omega) (by omega) (by omega) hq hs
    simp only [List.drop_zero] at this
    rw [show muller_Accepts.l2 k (q : Int) (s : Int) (fst : Int) lp lp.length 0 L S nx gd hd lp = _ from this, if_pos he']
  | succ m ih =>
    intro q s hq hs he
    have hq' := run_lt F lp q hq F.ll
    have hs' := seen_lt F lp q s hq F.ll hs
    by_cases e : run nx q lp = fst
    · refine ⟨seen nx q s lp, seen_pos nx lp F.l1 q s, hs', lp.length + 2, fun k hk gd => ?_⟩
      obtain ⟨k, rfl⟩ : ∃ m, k = m + 1 := ⟨k - 1, by omega⟩
      rw [muller_Accepts.l1]
      have := l2_run F gd fst lp.length 0 k q s (by omega) (by omega) (by omega) hq hs
      simp only [List.drop_zero] at this
      rw [show muller_Accepts.l2 k (q : Int) (s : Int) (fst : Int) lp lp.length 0 L S nx gd hd lp = _ from this, if_pos e]
    · obtain ⟨t, h1, h2, K, hK⟩ := ih (run nx q lp) (seen nx q s lp) hq' hs' he
      refine ⟨t, h1, h2, K + lp.length + 3, fun k hk gd => ?_⟩
      obtain ⟨k, rfl⟩ : ∃ m, k = m + 1 := ⟨k - 1, by omega⟩
      rw [muller_Accepts.l1]
      have := l2_run F gd fst lp.length 0 k q s (by omega) (by omega) (by omega) hq hs
      simp only [List.drop_zero] at this
      rw [show muller_Accepts.l2 k (q : Int) (s : Int) (fst : Int) lp lp.length 0 L S nx gd hd lp = _ from this, if_neg e]
      exact hK _ (by omega) gd
omit F in
/-- among n + 1 states below n two are one -/
theorem php (f : Nat → Nat) : ∀ n, (∀ i, i ≤ n → f i < n) → ∃ i j, i < j ∧ j ≤ n ∧ f i = f j := by
  intro n
  induction n generalizing f with
  | zero => intro h; exact absurd (h 0 (Nat.le_refl _)) (by omega)
  | succ n ih =>
    intro h
    by_cases hx : ∃ i, i ≤ n ∧ f i = f (n + 1)
    · obtain ⟨i, hi, he⟩ := hx
      exact ⟨i, n + 1, by omega, Nat.le_refl _, he⟩
    · have hne : ∀ i, i ≤ n → f i ≠ f (n + 1) := fun i hi he => hx ⟨i, hi, he⟩
      obtain ⟨i, j, hij, hj, he⟩ := ih (fun i => if f i < f (n + 1) then f i else f i - 1) (fun i hi => by
        have h1 := h i (by omega)
        have h2 := h (n + 1) (Nat.le_refl _)
        have h3 := hne i hi
        show (if f i < f (n + 1) then f i else f i - 1) < n
        split <;> omega)
      refine ⟨i, j, hij, by omega, ?_⟩
      have a := hne i (by omega)
      have b := hne j hj
      split at he <;> split at he <;> omega
/-- behind as many times as there are states one is on the cycle -/
theorem again (q : Nat) (hq : q < nx.length) : ∃ m, itq nx lp (itq nx lp q nx.length) (m + 1) = itq nx lp q nx.length := by
  obtain ⟨i, j, hij, hj, he⟩ := php (fun i => itq nx lp q i) nx.length (fun i _ => itq_lt F i q hq)
  refine ⟨j - i - 1, ?_⟩
  have h1 : itq nx lp q nx.length = itq nx lp (itq nx lp q i) (nx.length - i) := by rw [← itq_add]; congr 1; omega
  have h2 : itq nx lp (itq nx lp q i) (j - i) = itq nx lp q i := by rw [← itq_add, show i + (j - i) = j from by omega]; exact he.symm
  have h3 : j - i - 1 + 1 = j - i := by omega
  rw [h3, h1, ← itq_add, Nat.add_comm, itq_add, h2]
theorem l0_run (q0 : Nat) (hq0 : q0 < nx.length) : ∀ d i k q, nx.length - i = d → i ≤ nx.length → d < k → q = itq nx lp q0 i → ∀ gd : List Int,
    muller_Accepts.l0 k (q : Int) nx.length (i : Int) L S nx gd hd lp L 0 nx = muller_Accepts.l1 (k - d - 1) (itq nx lp q0 nx.length : Int) 0 (itq nx lp q0 nx.length : Int) L S nx gd hd lp := by
  intro d
  induction d with
  | zero =>
    intro i k q hdd hi hk hq gd
    obtain ⟨k, rfl⟩ : ∃ m, k = m + 1 := ⟨k - 1, by omega⟩
    obtain rfl : i = nx.length := by omega
    rw [muller_Accepts.l0, if_neg (by omega), hq]
    rfl
  | succ d ih =>
    intro i k q hdd hi hk hq gd
    obtain ⟨k, rfl⟩ : ∃ m, k = m + 1 := ⟨k - 1, by omega⟩
    have hn4 := F.n4
    have hlb := F.lb
    have hql : q < nx.length := by rw [hq]; exact itq_lt F i q0 hq0
    rw [muller_Accepts.l0, if_pos (by omega)]
    have ea : det_After.f L 0 nx ([] : List Int) (q : Int) lp = some (run nx q lp : Int) := by
      unfold det_After.f
      rw [if_pos (by omega)]
      exact aft_run F lp q hql F.ll
    rw [ea, Option.bind_some, w64 (by omega) (by omega), show ((i : Int) + 1) = ((i + 1 : Nat) : Int) from by omega]
    rw [ih (i + 1) k (run nx q lp) (by omega) (by omega) (by omega) (by rw [itq_add, ← hq]; rfl) gd, show k + 1 - (d + 1) - 1 = k - d - 1 from by omega]
/-- What Accepts answers: whether one set is in the table. -/
theorem accepts : ∃ t : Nat, 1 ≤ t ∧ t < 2 ^ nx.length ∧ ∃ K, ∀ k, K ≤ k → ∀ gd : List Int, mCheck L S nx gd = 0 → lassoF L hd lp = 0 → gd.length ≤ 9223372036854775807 →
    muller_Accepts.f k L S nx gd hd lp = some (decide ((t : Int) ∈ gd), 0) := by
  have hlb := F.lb
  have hhb := F.hb
  obtain ⟨s0, hs0⟩ : ∃ s0 : Nat, S = s0 := ⟨S.toNat, by have := F.s0; omega⟩
  have hs0l : s0 < nx.length := by have := F.s1; omega
  have hq0 := run_lt F hd s0 hs0l F.hl
  obtain ⟨m, hm⟩ := again F (run nx s0 hd) hq0
  obtain ⟨t, h1, h2, K, hK⟩ := l1_run F _ m _ 0 (itq_lt F nx.length _ hq0) (Nat.two_pow_pos _) hm
  refine ⟨t, h1, h2, K + nx.length + 2, fun k hk gd hc hla hg => ?_⟩
  unfold muller_Accepts.f muller_Check.f word_Lasso.f
  rw [hc, Option.bind_some, if_pos rfl, hla, Option.bind_some, if_pos rfl]
  have ea : det_After.f L 0 nx ([] : List Int) S hd = some (run nx s0 hd : Int) := by
    unfold det_After.f
    rw [if_pos (by omega), hs0]
    exact aft_run F hd s0 hs0l F.hl
  rw [ea, Option.bind_some]
  have := l0_run F (run nx s0 hd) hq0 nx.length 0 k (run nx s0 hd) (by omega) (by omega) (by omega) rfl gd
  rw [show muller_Accepts.l0 k (run nx s0 hd : Int) nx.length 0 L S nx gd hd lp L 0 nx = _ from this, show muller_Accepts.l1 (k - nx.length - 1) (itq nx lp (run nx s0 hd) nx.length : Int) 0 (itq nx lp (run nx s0 hd) nx.length : Int) L S nx gd hd lp = _ from hK _ (by omega) gd]
  unfold slices_Contains_int_int.f
  rw [if_pos hg]
  rfl
end

/-! ### the other table -/
theorem rises_adj {gd : List Int} (h : riseCode gd = 0) : ∀ j, 0 < j → j < gd.length → gd.getD (j - 1) 0 < gd.getD j 0 := by
  intro j h0 h1
  have hr : risesB gd = true := by
    unfold riseCode at h
    by_cases e : risesB gd = true
    · exact e
    · rw [if_neg e] at h; cases h
  unfold risesB at hr
  have := List.all_eq_true.1 hr j (List.mem_range.2 h1)
  simp only [Bool.or_eq_true, decide_eq_true_eq, beq_iff_eq] at this
  omega
theorem adj_lt {gd : List Int} (h : ∀ j, 0 < j → j < gd.length → gd.getD (j - 1) 0 < gd.getD j 0) : ∀ j i, i < j → j < gd.length → gd.getD i 0 < gd.getD j 0 := by
  intro j
  induction j with
  | zero => intro i hi; omega
  | succ j ih =>
    intro i hi hj
    have h1 := h (j + 1) (by omega) hj
    rw [Nat.add_sub_cancel] at h1
    by_cases e : i = j
    · subst e; exact h1
    · exact Int.lt_trans (ih i (by omega) (by omega)) h1
theorem mem_getD {gd : List Int} {x : Int} (h : x ∈ gd) : ∃ i, i < gd.length ∧ gd.getD i 0 = x := by
  obtain ⟨i, hi, e⟩ := List.getElem_of_mem h
  exact ⟨i, hi, by simp [List.getD_eq_getElem?_getD, hi, e]⟩
theorem getD_mem {gd : List Int} {i : Nat} (h : i < gd.length) : gd.getD i 0 ∈ gd := by
  rw [List.getD_eq_getElem?_getD, List.getElem?_eq_getElem h]
  exact List.getElem_mem h
def outF (gd : List Int) (s : Nat) : List Int := ((List.range s).filter fun (x : Nat) => decide (1 ≤ x) && !decide ((x : Int) ∈ gd)).map fun (x : Nat) => (x : Int)
theorem outF_succ (gd : List Int) (s : Nat) (h1 : 1 ≤ s) : outF gd (s + 1) = outF gd s ++ if (s : Int) ∈ gd then [] else [(s : Int)] := by
  unfold outF
  rw [List.range_succ, List.filter_append, List.map_append]
  congr 1
  by_cases e : (s : Int) ∈ gd
  · simp [e]
  · simp [e, h1]
theorem outF_len (gd : List Int) (s : Nat) : (outF gd s).length ≤ s := by
  unfold outF
  rw [List.length_map]
  exact Nat.le_trans (List.length_filter_le _ _) (by simp)
theorem mem_outF (gd : List Int) (s : Nat) (x : Int) : x ∈ outF gd s ↔ 1 ≤ x ∧ x < s ∧ x ∉ gd := by
  unfold outF
  simp only [List.mem_map, List.mem_filter, List.mem_range, Bool.and_eq_true, decide_eq_true_eq, Bool.not_eq_true', decide_eq_false_iff_not]
  constructor
  · rintro ⟨a, ⟨h1, h2, h3⟩, rfl⟩
    exact ⟨by omega, by omega, h3⟩
  · rintro ⟨h1, h2, h3⟩
    exact ⟨x.toNat, ⟨by omega, by omega, by rw [show ((x.toNat : Nat) : Int) = x from by omega]; exact h3⟩, by omega⟩
theorem outF_rises (gd : List Int) (s : Nat) : riseCode (outF gd s) = 0 := by
  apply rises_true
  intro k h0 h1
  have hp : (outF gd s).Pairwise (· < ·) := by
    unfold outF
    rw [List.pairwise_map]
    refine List.Pairwise.imp ?_ (List.Pairwise.filter _ List.pairwise_lt_range)
    intro a b h
    omega
  have := List.pairwise_iff_getElem.1 hp (k - 1) k (by omega) h1 (by omega)
  rw [List.getD_eq_getElem?_getD, List.getD_eq_getElem?_getD, List.getElem?_eq_getElem h1, List.getElem?_eq_getElem (show k - 1 < (outF gd s).length by omega)]
  exact this
theorem pow_wrap (n : Nat) (h : n ≤ 4) : wrap64 (2 ^ ((n : Int)).toNat) = ((2 ^ n : Nat) : Int) := by
  rw [Int.toNat_natCast]
  have h2 : ((2 : Int) ^ n) = ((2 ^ n : Nat) : Int) := by simp
  have h1 : (2 : Nat) ^ n ≤ 2 ^ 4 := Nat.pow_le_pow_right (by omega) h
  rw [h2]
  generalize (2 : Nat) ^ n = P at h1
  exact w64 (by omega) (by omega)
theorem outF_good (gd : List Int) (n : Nat) (h : n ≤ 4) : goodB (n : Int) (outF gd (2 ^ n)) = false := by
  unfold goodB
  rw [List.any_eq_false]
  intro x hx
  have := (mem_outF gd _ x).1 hx
  unfold badB
  rw [pow_wrap n h]
  generalize (2 : Nat) ^ n = P at this
  simp
  omega

theorem check_parts {L S : Int} {nx : List (List Int)} {gd : List Int} (h : mCheck L S nx gd = 0) :
    ¬ (L < 1 ∨ 4 < L) ∧ ¬ ((nx.length : Int) < 1 ∨ 4 < (nx.length : Int)) ∧ shapeB L nx = false ∧ noB nx.length S = false ∧ edgeB nx = false ∧ goodB nx.length gd = false ∧ riseCode gd = 0 := by
  unfold mCheck at h
  by_cases h1 : L < 1 ∨ 4 < L
  · rw [if_pos h1] at h; cases h
  · rw [if_neg h1] at h
    by_cases h2 : (nx.length : Int) < 1 ∨ 4 < (nx.length : Int)
    · rw [if_pos h2] at h; cases h
    · rw [if_neg h2] at h
      cases h3 : shapeB L nx
      · rw [h3, if_neg (by simp)] at h
        cases h4 : noB nx.length S
        · cases h5 : edgeB nx
          · cases h6 : goodB nx.length gd
            · rw [h4, h5, h6, if_neg (by simp)] at h
              exact ⟨h1, h2, rfl, rfl, rfl, rfl, h⟩
            · rw [h6, if_pos (by simp)] at h; cases h
          · rw [h5, if_pos (by simp)] at h; cases h
        · rw [h4, if_pos (by simp)] at h; cases h
      · rw [h3, if_pos rfl] at h; cases h
theorem check_mk {L S : Int} {nx : List (List Int)} {gd gd' : List Int} (h : mCheck L S nx gd = 0) (hg : goodB nx.length gd' = false) (hr : riseCode gd' = 0) : mCheck L S nx gd' = 0 := by
  obtain ⟨h1, h2, h3, h4, h5, _, _⟩ := check_parts h
  unfold mCheck
  rw [if_neg h1, if_neg h2, h3, h4, h5, hg, if_neg (by simp), if_neg (by simp)]
  exact hr
theorem may_parts {L : Int} {w : List Int} (h : mayF L w = 0) : w.length ≤ 60 ∧ ∀ a ∈ w, 0 ≤ a ∧ a < L := by
  unfold mayF at h
  by_cases h1 : L < 1 ∨ 4 < L
  · rw [if_pos h1] at h; cases h
  · rw [if_neg h1] at h
    by_cases h2 : 60 < (w.length : Int)
    · rw [if_pos h2] at h; cases h
    · rw [if_neg h2] at h
      by_cases h3 : (w.any fun a => decide (a < 0) || decide (L ≤ a)) = true
      · rw [if_pos h3] at h; cases h
      · rw [Bool.not_eq_true, List.any_eq_false] at h3
        refine ⟨by omega, fun a ha => ?_⟩
        have := h3 a ha
        simp at this
        omega
theorem lasso_parts {L : Int} {hd lp : List Int} (h : lassoF L hd lp = 0) : mayF L hd = 0 ∧ mayF L lp = 0 ∧ lp ≠ [] := by
  unfold lassoF at h
  by_cases h1 : mayF L hd = 0
  · rw [if_pos h1] at h
    by_cases h2 : mayF L lp = 0
    · rw [if_pos h2] at h
      by_cases h3 : lp.length = 0
      · rw [if_pos h3] at h; cases h
      · exact ⟨h1, h2, fun e => h3 (by rw [e]; rfl)⟩
    · rw [if_neg h2] at h; exact absurd h h2
  · rw [if_neg h1] at h; exact absurd h h1
theorem fits {L S : Int} {nx : List (List Int)} {gd hd lp : List Int} (h : mCheck L S nx gd = 0) (hl : lassoF L hd lp = 0) : Fits L S nx hd lp := by
  obtain ⟨h1, h2, h3, h4, h5, h6, h7⟩ := check_parts h
  obtain ⟨m1, m2, m3⟩ := lasso_parts hl
  obtain ⟨a1, a2⟩ := may_parts m1
  obtain ⟨b1, b2⟩ := may_parts m2
  unfold noB at h4
  simp at h4
  refine ⟨by omega, by omega, by omega, by omega, fun r hr => ?_, fun r hr a ha => ?_, a2, b2, m3, a1, b1⟩
  · unfold shapeB at h3
    have := List.any_eq_false.1 h3 r hr
    simpa using this
  · unfold edgeB at h5
    have h := List.any_eq_false.1 h5 r hr
    rw [Bool.not_eq_true] at h
    have := List.any_eq_false.1 h a ha
    unfold noB at this
    simp at this
    omega

section
variable {L S : Int} {nx : List (List Int)} {gd hd lp : List Int}
/-- the other table is made, and asked -/
theorem other_run (hc : mCheck L S nx gd = 0) (hl : lassoF L hd lp = 0) (hgl : gd.length ≤ 9223372036854775807) (b : Bool) (P : Nat) (hP : shl .i64 1 (nx.length : Int) = (P : Int)) (hP16 : P ≤ 16) :
    ∀ (d k s K : Nat), P - s = d → 1 ≤ s → s ≤ P → d < K → k ≤ gd.length → (∀ i, i < k → gd.getD i 0 < s) → (∀ i, k ≤ i → i < gd.length → (s : Int) ≤ gd.getD i 0) →
      evermorekeep_MullerOther.l0 K b (k : Int) (s : Int) L S nx gd hd lp L S nx (outF gd s) =
        (muller_Accepts.f (K - d - 1) L S nx (outF gd (P)) hd lp).bind fun z => if z.2 = 0 then some (b != z.1) else some false := by
  have hadj := rises_adj (check_parts hc).2.2.2.2.2.2
  clear hc hl
  intro d
  induction d with
  | zero =>
    intro k s K hd' h1 hs hK hk hlo hhi
    obtain ⟨K, rfl⟩ : ∃ m, K = m + 1 := ⟨K - 1, by omega⟩
    obtain rfl : s = P := by omega
    rw [evermorekeep_MullerOther.l0, hP, if_neg (by omega)]
    rfl
  | succ d ih =>
    intro k s K hd' h1 hs hK hk hlo hhi
    obtain ⟨K, rfl⟩ : ∃ m, K = m + 1 := ⟨K - 1, by omega⟩
    have hlen := outF_len gd s
    rw [evermorekeep_MullerOther.l0, hP, if_pos (by omega)]
    have hw : wrap64 ((s : Int) + 1) = ((s + 1 : Nat) : Int) := by rw [w64 (by omega) (by omega)]; omega
    have ek : K + 1 - (d + 1) - 1 = K - d - 1 := by omega
    have other : (∀ i, k ≤ i → i < gd.length → ((s + 1 : Nat) : Int) ≤ gd.getD i 0) → evermorekeep_MullerOther.l0 K b (k : Int) (wrap64 ((s : Int) + 1)) L S nx gd hd lp L S nx (outF gd s ++ [(s : Int)]) =
        (muller_Accepts.f (K - d - 1) L S nx (outF gd (P)) hd lp).bind fun z => if z.2 = 0 then some (b != z.1) else some false := by
      intro hh
      have hne : (s : Int) ∉ gd := fun hm => by
        obtain ⟨i, hi, e⟩ := mem_getD hm
        by_cases hik : i < k
        · have := hlo i hik; rw [e] at this; exact absurd this (Int.lt_irrefl _)
        · have := hh i (by omega) hi; rw [e] at this; omega
      have e := outF_succ gd s h1
      rw [if_neg hne] at e
      rw [hw, ← e]
      exact ih k (s + 1) K (by omega) (by omega) (by omega) (by omega) hk (fun i hi => by have := hlo i hi; omega) hh
    by_cases hkl : k < gd.length
    · rw [if_pos (by omega), if_pos (by omega)]
      have erd : rd gd (k : Int) = gd.getD k 0 := by simp [rd]
      rw [erd]
      by_cases e : gd.getD k 0 = (s : Int)
      · rw [if_pos e, w64 (by omega) (by omega), hw, show ((k : Int) + 1) = ((k + 1 : Nat) : Int) from by omega, ek]
        have hm : (s : Int) ∈ gd := e ▸ getD_mem hkl
        have e2 := outF_succ gd s h1
        rw [if_pos hm, List.append_nil] at e2
        rw [← e2]
        refine ih (k + 1) (s + 1) K (by omega) (by omega) (by omega) (by omega) (by omega) (fun i hi => ?_) (fun i hi hi2 => ?_)
        · by_cases ei : i = k
          · subst ei; omega
          · have := hlo i (by omega); omega
        · have := adj_lt hadj i k (by omega) hi2; omega
      · rw [if_neg e, if_pos (by omega), ek]
        refine other (fun i hi hi2 => ?_)
        by_cases ei : i = k
        · subst ei; have := hhi i (by omega) hi2; omega
        · have h3 := adj_lt hadj i k (by omega) hi2
          have h4 := hhi k (by omega) hkl
          omega
    · rw [if_neg (by omega), if_pos (by omega), ek]
      exact other (fun i hi hi2 => by omega)
end
theorem tiny : muller_Accepts.f 20 1 0 [[0]] [1] [] [0] = some (true, 0) := by decide +kernel

theorem accepts_code (k : Nat) (L S : Int) (nx : List (List Int)) (gd hd lp : List Int) (h : mCheck L S nx gd ≠ 0 ∨ lassoF L hd lp ≠ 0) : ∃ e, e ≠ 0 ∧ muller_Accepts.f k L S nx gd hd lp = some (false, e) := by
  unfold muller_Accepts.f muller_Check.f word_Lasso.f
  by_cases h1 : mCheck L S nx gd = 0
  · have h2 : lassoF L hd lp ≠ 0 := h.resolve_left (fun h => h h1)
    exact ⟨_, h2, by rw [Option.bind_some, if_pos h1, Option.bind_some, if_neg h2]⟩
  · exact ⟨_, h1, by rw [Option.bind_some, if_neg h1]⟩

/-- THE LAW, in plain words: for every table and every lasso the answer is yes. -/
theorem law (L S : Int) (nx : List (List Int)) (gd hd lp : List Int) (hgl : gd.length ≤ 9223372036854775807) : ∃ k, evermorekeep_MullerOther.f k L S nx gd hd lp = some true := by
  by_cases h : mCheck L S nx gd = 0 ∧ lassoF L hd lp = 0
  · obtain ⟨hc, hl⟩ := h
    have F := fits hc hl
    have hp := p16 F
    obtain ⟨t, t1, t2, K, hK⟩ := accepts F
    have hlen := outF_len gd (2 ^ nx.length)
    refine ⟨K + 2 ^ nx.length + 30, ?_⟩
    unfold evermorekeep_MullerOther.f
    have ht : muller_Accepts.f (K + 2 ^ nx.length + 30) 1 0 [[0]] [1] [] [0] = some (true, 0) := at_rounds (muller_Accepts.mono 1 0 [[0]] [1] [] [0]) (by omega) tiny
    rw [ht, Option.bind_some, if_pos rfl]
    simp only [Bool.not_true]
    rw [show K + 2 ^ nx.length + 30 = (K + 2 ^ nx.length + 29) + 1 from rfl, evermorekeep_MullerOther.j0, if_neg (by decide), hK _ (by omega) gd hc hl hgl, Option.bind_some, if_pos rfl]
    have hg0 := (check_parts hc).2.2.2.2.2.1
    have hlo : ∀ i, 0 ≤ i → i < gd.length → ((1 : Nat) : Int) ≤ gd.getD i 0 := fun i _ hi => by
      unfold goodB at hg0
      have := List.any_eq_false.1 hg0 _ (getD_mem hi)
      unfold badB at this
      simp at this
      have h9 := this.1
      rw [List.getD_eq_getElem?_getD]
      omega
    have hr := other_run hc hl hgl (decide ((t : Int) ∈ gd)) (2 ^ nx.length) (shl_one _ (by have := F.n4; omega)) hp (2 ^ nx.length - 1) 0 1 (K + 2 ^ nx.length + 29) rfl (Nat.le_refl _) (Nat.one_le_two_pow) (by omega) (Nat.zero_le _) (fun i hi => by omega) hlo
    have e1 : outF gd 1 = [] := by unfold outF; simp [List.range_succ]
    rw [e1] at hr
    rw [show evermorekeep_MullerOther.l0 (K + 2 ^ nx.length + 29) (decide ((t : Int) ∈ gd)) 0 1 L S nx gd hd lp L S nx [] = _ from hr]
    rw [hK _ (by omega) _ (check_mk hc (outF_good gd _ F.n4) (outF_rises gd _)) hl (by omega), Option.bind_some, if_pos rfl]
    congr 1
    have hm := mem_outF gd (2 ^ nx.length) t
    by_cases e : (t : Int) ∈ gd
    · have : (t : Int) ∉ outF gd (2 ^ nx.length) := fun h => (hm.1 h).2.2 e
      simp [e, this]
    · have : (t : Int) ∈ outF gd (2 ^ nx.length) := hm.2 ⟨by omega, by omega, e⟩
      simp [e, this]
  · refine ⟨30, ?_⟩
    unfold evermorekeep_MullerOther.f
    have ht : muller_Accepts.f 30 1 0 [[0]] [1] [] [0] = some (true, 0) := at_rounds (muller_Accepts.mono 1 0 [[0]] [1] [] [0]) (by omega) tiny
    rw [ht, Option.bind_some, if_pos rfl]
    simp only [Bool.not_true]
    obtain ⟨e, he, hA⟩ := accepts_code 29 L S nx gd hd lp (by
      by_cases h1 : mCheck L S nx gd = 0
      · exact .inr (fun h2 => h ⟨h1, h2⟩)
      · exact .inl h1)
    rw [evermorekeep_MullerOther.j0, if_neg (by decide), hA, Option.bind_some, if_neg he]
#print axioms law
end Go.Proofs.Ytjabncedfjjbjaa.MullerOtherPure
