/- What the printed base functions answer, in plain words; and their contracts said so. -/
import Derived.Test.YtampgoendkjkhaaPBasex
namespace Go.Proofs.Ytampgoendkjkhaa.H
open Go.RowKit Go.Proofs.YtampgoendkjkhaaW.PrintWords
set_option linter.unusedVariables false
set_option linter.unusedSimpArgs false

theorem w64 {x : Int} (h0 : -9223372036854775808 ≤ x) (h1 : x ≤ 9223372036854775807) : wrap64 x = x := by unfold wrap64; omega
theorem rd_at {xs : List Int} {i : Nat} (h : i < xs.length) : rd xs (i : Int) = xs[i] := by simp [rd, List.getD_eq_getElem?_getD, h]
theorem rd_L1_at {xs : List (List Int)} {i : Nat} (h : i < xs.length) : PBase.rd_L1 xs (i : Int) = xs[i] := by simp [PBase.rd_L1, List.getD_eq_getElem?_getD, h]

/-! ### word.May -/
def mayF (L : Int) (w : List Int) : Int := if L < 1 ∨ 4 < L then 2 else if 60 < (w.length : Int) then 1 else if w.any (fun a => decide (a < 0) || decide (L ≤ a)) then 2 else 0
theorem may_l0 (L : Int) (w : List Int) (hn : w.length ≤ 60) : ∀ d i k, w.length - i = d → i ≤ w.length → d < k → PBase.word_May.l0 k L w w.length (i : Int) = some (if (w.drop i).any (fun a => decide (a < 0) || decide (L ≤ a)) then 2 else 0) := by
  intro d
  induction d with
  | zero =>
    intro i k hd hi hk
    obtain ⟨k, rfl⟩ : ∃ m, k = m + 1 := ⟨k - 1, by omega⟩
    rw [List.drop_of_length_le (by omega)]
    simp only [PBase.word_May.l0]
    rw [if_neg (by omega)]
    simp
  | succ d ih =>
    intro i k hd hi hk
    obtain ⟨k, rfl⟩ : ∃ m, k = m + 1 := ⟨k - 1, by omega⟩
    have hlt : i < w.length := by omega
    simp only [PBase.word_May.l0]
    rw [if_pos (by omega), if_pos (by omega), if_pos (by omega), rd_at hlt, List.drop_eq_getElem_cons hlt, List.any_cons]
    by_cases h1 : w[i] < 0
    · rw [if_pos h1]; simp [h1]
    · rw [if_neg h1]
      by_cases h2 : L ≤ w[i]
      · rw [if_pos h2]; simp [h2]
      · rw [if_neg h2, w64 (by omega) (by omega), show ((i : Int) + 1) = ((i + 1 : Nat) : Int) from by omega, ih (i + 1) k (by omega) (by omega) (by omega)]
        simp [h1, h2]
theorem may_ev (L : Int) (w : List Int) : PBase.word_May.f (w.length + 3) L w = some (mayF L w) := by
  unfold PBase.word_May.f mayF
  have hj : ∀ b, PBase.word_May.j0 (w.length + 3) L w b = if b = true then some 2 else if (w.length : Int) > 60 then some 1 else PBase.word_May.l0 (w.length + 2) L w w.length 0 := fun b => by rw [PBase.word_May.j0]
  rw [hj, hj]
  by_cases h1 : L < 1
  · simp [h1]
  · by_cases h2 : 4 < L
    · simp [h2]
    · simp only [h1, h2, or_self, if_false, gt_iff_lt, decide_false, Bool.false_eq_true]
      by_cases h3 : 60 < (w.length : Int)
      · simp [h3]
      · rw [if_neg h3, if_neg h3]
        have := may_l0 L w (by omega) w.length 0 (w.length + 2) (by omega) (by omega) (by omega)
        simpa using this
def word_May.f (L : Int) (w : List Int) : Option Int := some (mayF L w)
theorem word_May.calls (a0 : Int) (A1 : Option Addr) (c1 : Nat) (l1 : List Int) (r : Int) (w : World) (hr1 : Kd.C (Kd.int .i64) w A1 l1.length l1) (hc1 : l1.length ≤ c1) (h : word_May.f a0 l1 = some r) :
    Calls Try.prog 104 #[.int .i64 a0, .slice A1 l1.length c1] w fun e w' => e = .returned (.int .i64 r) ∧ Drawn0 w w' :=
  PBase.word_May.calls _ a0 A1 c1 l1 r w hr1 hc1 ((may_ev a0 l1).trans h)

/-! ### det.After -/
def aftF (nx : List (List Int)) (q : Int) (w : List Int) : Option Int :=
  w.foldlM (fun q a => if 0 ≤ q ∧ q < nx.length ∧ 0 ≤ a ∧ a < ((nx.getD q.toNat []).length : Int) then some ((nx.getD q.toNat []).getD a.toNat 0) else none) q
theorem aft_l0 (x0 x1 : Int) (nx : List (List Int)) (mk : List Int) (w : List Int) (hn : w.length ≤ 9223372036854775807) : ∀ d i k q, w.length - i = d → i ≤ w.length → d < k → PBase.det_After.l0 k q w w.length (i : Int) x0 x1 nx mk = aftF nx q (w.drop i) := by
  intro d
  induction d with
  | zero =>
    intro i k q hd hi hk
    obtain ⟨k, rfl⟩ : ∃ m, k = m + 1 := ⟨k - 1, by omega⟩
    rw [List.drop_of_length_le (by omega)]
    simp only [PBase.det_After.l0]
    rw [if_neg (by omega)]
    rfl
  | succ d ih =>
    intro i k q hd hi hk
    obtain ⟨k, rfl⟩ : ∃ m, k = m + 1 := ⟨k - 1, by omega⟩
    have hlt : i < w.length := by omega
    simp only [PBase.det_After.l0]
    rw [if_pos (by omega), if_pos (by omega), if_pos (by omega), rd_at hlt, List.drop_eq_getElem_cons hlt]
    simp only [aftF, List.foldlM_cons]
    by_cases h1 : 0 ≤ q
    · by_cases h2 : q < nx.length
      · by_cases h3 : 0 ≤ w[i]
        · have e1 : PBase.rd_L1 nx q = nx.getD q.toNat [] := rfl
          rw [if_pos h1, if_pos h2, if_pos h3, e1]
          by_cases h4 : w[i] < ((nx.getD q.toNat []).length : Int)
          · rw [if_pos h4, if_pos ⟨h1, h2, h3, h4⟩, w64 (by omega) (by omega), show ((i : Int) + 1) = ((i + 1 : Nat) : Int) from by omega, ih (i + 1) k _ (by omega) (by omega) (by omega)]
            rfl
          · rw [if_neg h4, if_neg (fun h => h4 h.2.2.2)]; rfl
        · rw [if_pos h1, if_pos h2, if_neg h3, if_neg (fun h => h3 h.2.2.1)]; rfl
      · rw [if_pos h1, if_neg h2, if_neg (fun h => h2 h.2.1)]; rfl
    · rw [if_neg h1, if_neg (fun h => h1 h.1)]; rfl
def det_After.f (a0_0 : Int) (a0_1 : Int) (l0_2 : List (List Int)) (l0_3 : List Int) (a1 : Int) (l2 : List Int) : Option Int := if l2.length ≤ 9223372036854775807 then aftF l0_2 a1 l2 else none
theorem det_After.calls (a0_0 : Int) (a0_1 : Int) (A0_2 : Option Addr) (c0_2 : Nat) (l0_2 : List (List Int)) (A0_3 : Option Addr) (c0_3 : Nat) (l0_3 : List Int) (a1 : Int) (A2 : Option Addr) (c2 : Nat) (l2 : List Int) (r : Int) (w : World) (hr0_2 : Kd.C (Kd.slice 3 (Kd.int .i64)) w A0_2 l0_2.length l0_2) (hc0_2 : l0_2.length ≤ c0_2) (hr0_3 : Kd.C (Kd.int .i64) w A0_3 l0_3.length l0_3) (hc0_3 : l0_3.length ≤ c0_3) (hr2 : Kd.C (Kd.int .i64) w A2 l2.length l2) (hc2 : l2.length ≤ c2) (h : det_After.f a0_0 a0_1 l0_2 l0_3 a1 l2 = some r) :
    Calls Try.prog 91 #[.agg #[.int .i64 a0_0, .int .i64 a0_1, .slice A0_2 l0_2.length c0_2, .slice A0_3 l0_3.length c0_3], .int .i64 a1, .slice A2 l2.length c2] w fun e w' => e = .returned (.int .i64 r) ∧ Below w.heap.size w w' := by
  unfold det_After.f at h
  by_cases hn : l2.length ≤ 9223372036854775807
  · rw [if_pos hn] at h
    refine PBase.det_After.calls (l2.length + 1) a0_0 a0_1 A0_2 c0_2 l0_2 A0_3 c0_3 l0_3 a1 A2 c2 l2 r w hr0_2 hc0_2 hr0_3 hc0_3 hr2 hc2 ?_
    unfold PBase.det_After.f
    have := aft_l0 a0_0 a0_1 l0_2 l0_3 l2 hn l2.length 0 (l2.length + 1) a1 (by omega) (by omega) (by omega)
    simp only [List.drop_zero] at this
    exact this.trans h
  · rw [if_neg hn] at h; cases h

/-! ### words that are one -/
theorem eq_run (g : Nat → List Int → List Int → Int → Option Bool)
    (hg : ∀ k x y (i : Int), g (k + 1) x y i = if i < (x.length : Int) then (if 0 ≤ i then (if i < (y.length : Int) then (if rd x i = rd y i then g k x y (wrap64 (i + 1)) else some false) else none) else none) else some true)
    (x y : List Int) (hl : x.length = y.length) (hn : x.length ≤ 9223372036854775807) : ∀ d i k, x.length - i = d → i ≤ x.length → d < k → g k x y (i : Int) = some (decide (x.drop i = y.drop i)) := by
  intro d
  induction d with
  | zero =>
    intro i k hd hi hk
    obtain ⟨k, rfl⟩ : ∃ m, k = m + 1 := ⟨k - 1, by omega⟩
    rw [hg, if_neg (by omega), List.drop_of_length_le (by omega), List.drop_of_length_le (by omega)]
    rfl
  | succ d ih =>
    intro i k hd hi hk
    obtain ⟨k, rfl⟩ : ∃ m, k = m + 1 := ⟨k - 1, by omega⟩
    have h1 : i < x.length := by omega
    have h2 : i < y.length := by omega
    have hc : (x.drop i = y.drop i) ↔ (x[i] = y[i] ∧ x.drop (i + 1) = y.drop (i + 1)) := by rw [List.drop_eq_getElem_cons h1, List.drop_eq_getElem_cons h2, List.cons.injEq]
    rw [hg, if_pos (by omega), if_pos (by omega), if_pos (by omega), rd_at h1, rd_at h2, decide_eq_decide.2 hc]
    by_cases e : x[i] = y[i]
    · rw [if_pos e, w64 (by omega) (by omega), show ((i : Int) + 1) = ((i + 1 : Nat) : Int) from by omega, ih (i + 1) k (by omega) (by omega) (by omega), decide_eq_decide.2 (show (x[i] = y[i] ∧ x.drop (i + 1) = y.drop (i + 1)) ↔ x.drop (i + 1) = y.drop (i + 1) from ⟨fun h => h.2, fun h => ⟨e, h⟩⟩)]
    · rw [if_neg e, decide_eq_false (fun h => e h.1)]
theorem eq_ev (f : Nat → List Int → List Int → Option Bool) (g : Nat → List Int → List Int → Int → Option Bool)
    (hf : ∀ k x y, f k x y = if (x.length : Int) = (y.length : Int) then g k x y 0 else some false)
    (hg : ∀ k x y (i : Int), g (k + 1) x y i = if i < (x.length : Int) then (if 0 ≤ i then (if i < (y.length : Int) then (if rd x i = rd y i then g k x y (wrap64 (i + 1)) else some false) else none) else none) else some true)
    (x y : List Int) (hn : x.length ≤ 9223372036854775807) : f (x.length + 1) x y = some (decide (x = y)) := by
  rw [hf]
  by_cases hl : x.length = y.length
  · rw [if_pos (by omega)]
    simpa using eq_run g hg x y hl hn x.length 0 (x.length + 1) (by omega) (by omega) (by omega)
  · rw [if_neg (by omega)]
    congr 1
    exact (decide_eq_false (fun e => hl (by rw [e]))).symm
def wordsEq (x y : List Int) : Option Bool := if x.length ≤ 9223372036854775807 then some (decide (x = y)) else none
theorem wordsEq_ev (f : Nat → List Int → List Int → Option Bool) (x y : List Int) (r : Bool) (h : x.length ≤ 9223372036854775807 → f (x.length + 1) x y = some (decide (x = y))) (e : wordsEq x y = some r) : f (x.length + 1) x y = some r := by
  unfold wordsEq at e
  by_cases hn : x.length ≤ 9223372036854775807
  · rw [if_pos hn] at e; rw [h hn]; exact e
  · rw [if_neg hn] at e; cases e
def evermorekeep_sameWords.f (l0 l1 : List Int) : Option Bool := wordsEq l0 l1
theorem evermorekeep_sameWords.calls (A0 : Option Addr) (c0 : Nat) (l0 : List Int) (A1 : Option Addr) (c1 : Nat) (l1 : List Int) (r : Bool) (w : World) (hr0 : Kd.C (Kd.int .i64) w A0 l0.length l0) (hc0 : l0.length ≤ c0) (hr1 : Kd.C (Kd.int .i64) w A1 l1.length l1) (hc1 : l1.length ≤ c1) (h : evermorekeep_sameWords.f l0 l1 = some r) :
    Calls Try.prog 96 #[.slice A0 l0.length c0, .slice A1 l1.length c1] w fun e w' => e = .returned (.bool r) ∧ Drawn0 w w' :=
  PBase.evermorekeep_sameWords.calls _ A0 c0 l0 A1 c1 l1 r w hr0 hc0 hr1 hc1 (wordsEq_ev PBase.evermorekeep_sameWords.f l0 l1 r (fun hn => eq_ev _ PBase.evermorekeep_sameWords.l0 (fun k x y => rfl) (fun k x y i => by rw [PBase.evermorekeep_sameWords.l0]) l0 l1 hn) h)
def evermorekeep_alikeWords.f (l0 l1 : List Int) : Option Bool := wordsEq l0 l1
theorem evermorekeep_alikeWords.calls (A0 : Option Addr) (c0 : Nat) (l0 : List Int) (A1 : Option Addr) (c1 : Nat) (l1 : List Int) (r : Bool) (w : World) (hr0 : Kd.C (Kd.int .i64) w A0 l0.length l0) (hc0 : l0.length ≤ c0) (hr1 : Kd.C (Kd.int .i64) w A1 l1.length l1) (hc1 : l1.length ≤ c1) (h : evermorekeep_alikeWords.f l0 l1 = some r) :
    Calls Try.prog 25 #[.slice A0 l0.length c0, .slice A1 l1.length c1] w fun e w' => e = .returned (.bool r) ∧ Drawn0 w w' :=
  PBase.evermorekeep_alikeWords.calls _ A0 c0 l0 A1 c1 l1 r w hr0 hc0 hr1 hc1 (wordsEq_ev PBase.evermorekeep_alikeWords.f l0 l1 r (fun hn => eq_ev _ PBase.evermorekeep_alikeWords.l0 (fun k x y => rfl) (fun k x y i => by rw [PBase.evermorekeep_alikeWords.l0]) l0 l1 hn) h)
def slices_Equal_int_int.f (l0 l1 : List Int) : Option Bool := wordsEq l0 l1
theorem slices_equal_l0 (x y : List Int) (n : Int) : ∀ k (i : Int), PBase.slices_Equal_int_int.l0 (k + 1) x y n i = if i < n then (if 0 ≤ i then (if i < (x.length : Int) then (if i < (y.length : Int) then (if rd x i = rd y i then PBase.slices_Equal_int_int.l0 k x y n (wrap64 (i + 1)) else some false) else none) else none) else none) else some true := fun k i => by rw [PBase.slices_Equal_int_int.l0]
theorem slices_Equal_int_int.calls (A0 : Option Addr) (c0 : Nat) (l0 : List Int) (A1 : Option Addr) (c1 : Nat) (l1 : List Int) (r : Bool) (w : World) (hr0 : Kd.C (Kd.int .i64) w A0 l0.length l0) (hc0 : l0.length ≤ c0) (hr1 : Kd.C (Kd.int .i64) w A1 l1.length l1) (hc1 : l1.length ≤ c1) (h : slices_Equal_int_int.f l0 l1 = some r) :
    Calls Try.prog 71 #[.slice A0 l0.length c0, .slice A1 l1.length c1] w fun e w' => e = .returned (.bool r) ∧ Drawn0 w w' := by
  refine PBase.slices_Equal_int_int.calls _ A0 c0 l0 A1 c1 l1 r w hr0 hc0 hr1 hc1 (wordsEq_ev PBase.slices_Equal_int_int.f l0 l1 r (fun hn => eq_ev _ (fun k x y i => PBase.slices_Equal_int_int.l0 k x y x.length i) (fun k x y => rfl) (fun k x y i => ?_) l0 l1 hn) h)
  rw [slices_equal_l0]
  by_cases h1 : i < (x.length : Int)
  · rw [if_pos h1, if_pos h1, if_pos h1]
  · rw [if_neg h1, if_neg h1]

/-! ### keep.alike -/
def bigOK (nx : List (List Int)) (mk : List Int) : Prop := nx.length ≤ 9223372036854775807 ∧ mk.length ≤ 9223372036854775807 ∧ ∀ r ∈ nx, r.length ≤ 9223372036854775807
instance (nx mk) : Decidable (bigOK nx mk) := by unfold bigOK; infer_instance
def evermorekeep_alike.f (a0_0 : Int) (a0_1 : Int) (l0_2 : List (List Int)) (l0_3 : List Int) (a1_0 : Int) (a1_1 : Int) (l1_2 : List (List Int)) (l1_3 : List Int) : Option Bool :=
  if bigOK l0_2 l0_3 then some (decide (a0_0 = a1_0 ∧ a0_1 = a1_1 ∧ l0_2 = l1_2 ∧ l0_3 = l1_3)) else none
theorem same_ev (x y : List Int) (hn : x.length ≤ 9223372036854775807) (k : Nat) (hk : x.length + 1 ≤ k) : PBase.evermorekeep_sameWords.f k x y = some (decide (x = y)) :=
  at_rounds (PBase.evermorekeep_sameWords.mono x y) hk (eq_ev PBase.evermorekeep_sameWords.f PBase.evermorekeep_sameWords.l0 (fun k x y => rfl) (fun k x y i => by rw [PBase.evermorekeep_sameWords.l0]) x y hn)
def longest (nx : List (List Int)) : Nat := nx.foldr (fun r m => max r.length m) 0
theorem longest_le (nx : List (List Int)) : ∀ r ∈ nx, r.length ≤ longest nx := by
  induction nx with
  | nil => intro r h; cases h
  | cons x xs ih =>
    intro r h
    simp only [longest, List.foldr_cons]
    rcases List.mem_cons.1 h with rfl | h
    · exact Nat.le_max_left _ _
    · exact Nat.le_trans (ih r h) (Nat.le_max_right _ _)
theorem alike_l0 (a0 a1 b0 b1 : Int) (nx ny : List (List Int)) (mk ml : List Int) (hl : nx.length = ny.length) (hn : nx.length ≤ 9223372036854775807) (hr : ∀ r ∈ nx, r.length ≤ 9223372036854775807) :
    ∀ d i k, nx.length - i = d → i ≤ nx.length → d + longest nx + 2 ≤ k → PBase.evermorekeep_alike.l0 k true (i : Int) a0 a1 nx mk b0 b1 ny ml = some (decide (nx.drop i = ny.drop i)) := by
  intro d
  induction d with
  | zero =>
    intro i k hd hi hk
    obtain ⟨k, rfl⟩ : ∃ m, k = m + 1 := ⟨k - 1, by omega⟩
    simp only [PBase.evermorekeep_alike.l0]
    rw [if_neg (by omega), List.drop_of_length_le (by omega), List.drop_of_length_le (by omega)]
    rfl
  | succ d ih =>
    intro i k hd hi hk
    obtain ⟨k, rfl⟩ : ∃ m, k = m + 1 := ⟨k - 1, by omega⟩
    have h1 : i < nx.length := by omega
    have h2 : i < ny.length := by omega
    have hc : (nx.drop i = ny.drop i) ↔ (nx[i] = ny[i] ∧ nx.drop (i + 1) = ny.drop (i + 1)) := by rw [List.drop_eq_getElem_cons h1, List.drop_eq_getElem_cons h2, List.cons.injEq]
    simp only [PBase.evermorekeep_alike.l0]
    rw [if_pos (by omega), if_pos trivial, if_pos (by omega), if_pos (by omega), rd_L1_at h1, rd_L1_at h2, same_ev _ _ (hr _ (List.getElem_mem h1)) k (by have := longest_le nx _ (List.getElem_mem h1); omega), Option.bind_some, w64 (by omega) (by omega), show ((i : Int) + 1) = ((i + 1 : Nat) : Int) from by omega, decide_eq_decide.2 hc]
    by_cases e : nx[i] = ny[i]
    · rw [decide_eq_true e, ih (i + 1) k (by omega) (by omega) (by omega), decide_eq_decide.2 (show (nx[i] = ny[i] ∧ nx.drop (i + 1) = ny.drop (i + 1)) ↔ nx.drop (i + 1) = ny.drop (i + 1) from ⟨fun h => h.2, fun h => ⟨e, h⟩⟩)]
    · obtain ⟨k, rfl⟩ : ∃ m, k = m + 1 := ⟨k - 1, by omega⟩
      rw [decide_eq_false e, decide_eq_false (fun h => e h.1)]
      simp only [PBase.evermorekeep_alike.l0]
      by_cases h3 : ((i + 1 : Nat) : Int) < nx.length
      · rw [if_pos h3, if_neg (by decide)]
      · rw [if_neg h3]
theorem alike_ev (a0 a1 : Int) (nx : List (List Int)) (mk : List Int) (b0 b1 : Int) (ny : List (List Int)) (ml : List Int) (r : Bool) (h : evermorekeep_alike.f a0 a1 nx mk b0 b1 ny ml = some r) :
    PBase.evermorekeep_alike.f (nx.length + mk.length + longest nx + 3) a0 a1 nx mk b0 b1 ny ml = some r := by
  unfold evermorekeep_alike.f at h
  by_cases hb : bigOK nx mk
  · rw [if_pos hb] at h
    rw [← h]
    unfold PBase.evermorekeep_alike.f
    have hj : ∀ b, PBase.evermorekeep_alike.j0 (nx.length + mk.length + longest nx + 3) b a0 a1 nx mk b0 b1 ny ml = if b = true then (some false) else ((PBase.evermorekeep_sameWords.f (nx.length + mk.length + longest nx + 2) mk ml).bind fun t116 => (PBase.evermorekeep_alike.l0 (nx.length + mk.length + longest nx + 2) t116 0 a0 a1 nx mk b0 b1 ny ml)) := fun b => by rw [PBase.evermorekeep_alike.j0]
    rw [hj, hj]
    by_cases e0 : a0 = b0
    · rw [if_pos e0]
      by_cases e1 : a1 = b1
      · rw [if_pos e1]
        by_cases e2 : nx.length = ny.length
        · rw [if_neg (by simp; omega), same_ev _ _ hb.2.1 _ (by omega), Option.bind_some]
          by_cases e3 : mk = ml
          · rw [decide_eq_true e3]
            have := alike_l0 a0 a1 b0 b1 nx ny mk ml e2 hb.1 hb.2.2 nx.length 0 (nx.length + mk.length + longest nx + 2) (by omega) (by omega) (by omega)
            simp only [List.drop_zero] at this
            rw [show (0 : Int) = ((0 : Nat) : Int) from rfl, this]
            simp [e0, e1, e3]
          · rw [decide_eq_false e3]
            simp only [PBase.evermorekeep_alike.l0]
            have : decide (a0 = b0 ∧ a1 = b1 ∧ nx = ny ∧ mk = ml) = false := decide_eq_false (fun h => e3 h.2.2.2)
            rw [this]
            by_cases h3 : (0 : Int) < nx.length
            · rw [if_pos h3, if_neg (by decide)]
            · rw [if_neg h3]
        · rw [if_pos (by simp; omega), decide_eq_false (fun h => e2 (by rw [h.2.2.1]))]
      · rw [if_neg e1, if_pos rfl, decide_eq_false (fun h => e1 h.2.1)]
    · rw [if_neg e0, if_pos rfl, decide_eq_false (fun h => e0 h.1)]
  · rw [if_neg hb] at h; cases h
theorem evermorekeep_alike.calls (a0_0 : Int) (a0_1 : Int) (A0_2 : Option Addr) (c0_2 : Nat) (l0_2 : List (List Int)) (A0_3 : Option Addr) (c0_3 : Nat) (l0_3 : List Int) (a1_0 : Int) (a1_1 : Int) (A1_2 : Option Addr) (c1_2 : Nat) (l1_2 : List (List Int)) (A1_3 : Option Addr) (c1_3 : Nat) (l1_3 : List Int) (r : Bool) (w : World) (hr0_2 : Kd.C (Kd.slice 3 (Kd.int .i64)) w A0_2 l0_2.length l0_2) (hc0_2 : l0_2.length ≤ c0_2) (hr0_3 : Kd.C (Kd.int .i64) w A0_3 l0_3.length l0_3) (hc0_3 : l0_3.length ≤ c0_3) (hr1_2 : Kd.C (Kd.slice 3 (Kd.int .i64)) w A1_2 l1_2.length l1_2) (hc1_2 : l1_2.length ≤ c1_2) (hr1_3 : Kd.C (Kd.int .i64) w A1_3 l1_3.length l1_3) (hc1_3 : l1_3.length ≤ c1_3) (h : evermorekeep_alike.f a0_0 a0_1 l0_2 l0_3 a1_0 a1_1 l1_2 l1_3 = some r) :
    Calls Try.prog 37 #[.agg #[.int .i64 a0_0, .int .i64 a0_1, .slice A0_2 l0_2.length c0_2, .slice A0_3 l0_3.length c0_3], .agg #[.int .i64 a1_0, .int .i64 a1_1, .slice A1_2 l1_2.length c1_2, .slice A1_3 l1_3.length c1_3]] w fun e w' => e = .returned (.bool r) ∧ Below w.heap.size w w' :=
  PBase.evermorekeep_alike.calls _ a0_0 a0_1 A0_2 c0_2 l0_2 A0_3 c0_3 l0_3 a1_0 a1_1 A1_2 c1_2 l1_2 A1_3 c1_3 l1_3 r w hr0_2 hc0_2 hr0_3 hc0_3 hr1_2 hc1_2 hr1_3 hc1_3 (alike_ev _ _ _ _ _ _ _ _ r h)

/-! ### slices.Index, Contains -/
def ix0F (xs : List Int) (x : Int) : Int := if x ∈ xs then ((xs.findIdx (· == x) : Nat) : Int) else -1
theorem ix_l0 (x : Int) (w : List Int) (hn : w.length ≤ 9223372036854775807) : ∀ d i k, w.length - i = d → i ≤ w.length → d < k → PBase.slices_Index_int_int.l0 k w x w.length (i : Int) = some (if x ∈ w.drop i then ((i + (w.drop i).findIdx (· == x) : Nat) : Int) else -1) := by
  intro d
  induction d with
  | zero =>
    intro i k hd hi hk
    obtain ⟨k, rfl⟩ : ∃ m, k = m + 1 := ⟨k - 1, by omega⟩
    simp only [PBase.slices_Index_int_int.l0]
    rw [if_neg (by omega), List.drop_of_length_le (by omega)]
    simp
  | succ d ih =>
    intro i k hd hi hk
    obtain ⟨k, rfl⟩ : ∃ m, k = m + 1 := ⟨k - 1, by omega⟩
    have hlt : i < w.length := by omega
    have hc : w.drop i = w[i] :: w.drop (i + 1) := List.drop_eq_getElem_cons hlt
    simp only [PBase.slices_Index_int_int.l0]
    rw [if_pos (by omega), if_pos (by omega), if_pos (by omega), rd_at hlt, hc]
    by_cases h1 : x = w[i]
    · rw [if_pos h1, if_pos (by rw [h1]; exact List.mem_cons_self), List.findIdx_cons]
      simp [h1]
    · rw [if_neg h1, w64 (by omega) (by omega), show ((i : Int) + 1) = ((i + 1 : Nat) : Int) from by omega, ih (i + 1) k (by omega) (by omega) (by omega)]
      have h2 : (w[i] == x) = false := by simpa using fun h => h1 h.symm
      rw [List.findIdx_cons, h2]
      by_cases h3 : x ∈ w.drop (i + 1)
      · rw [if_pos h3, if_pos (List.mem_cons_of_mem _ h3)]
        simp only [cond_false]
        congr 1
        omega
      · rw [if_neg h3, if_neg (fun h => (List.mem_cons.1 h).elim h1 h3)]
def slices_Index_int_int.f (l0 : List Int) (a1 : Int) : Option Int := if l0.length ≤ 9223372036854775807 then some (ix0F l0 a1) else none
theorem ix_ev (l0 : List Int) (a1 : Int) (r : Int) (h : slices_Index_int_int.f l0 a1 = some r) : PBase.slices_Index_int_int.f (l0.length + 1) l0 a1 = some r := by
  unfold slices_Index_int_int.f at h
  by_cases hn : l0.length ≤ 9223372036854775807
  · rw [if_pos hn] at h
    rw [← h]
    have := ix_l0 a1 l0 hn l0.length 0 (l0.length + 1) (by omega) (by omega) (by omega)
    unfold PBase.slices_Index_int_int.f ix0F
    simpa using this
  · rw [if_neg hn] at h; cases h
theorem slices_Index_int_int.calls (A0 : Option Addr) (c0 : Nat) (l0 : List Int) (a1 : Int) (r : Int) (w : World) (hr0 : Kd.C (Kd.int .i64) w A0 l0.length l0) (hc0 : l0.length ≤ c0) (h : slices_Index_int_int.f l0 a1 = some r) :
    Calls Try.prog 180 #[.slice A0 l0.length c0, .int .i64 a1] w fun e w' => e = .returned (.int .i64 r) ∧ Drawn0 w w' :=
  PBase.slices_Index_int_int.calls _ A0 c0 l0 a1 r w hr0 hc0 (ix_ev l0 a1 r h)
def slices_Contains_int_int.f (l0 : List Int) (a1 : Int) : Option Bool := if l0.length ≤ 9223372036854775807 then some (decide (a1 ∈ l0)) else none
theorem slices_Contains_int_int.calls (A0 : Option Addr) (c0 : Nat) (l0 : List Int) (a1 : Int) (r : Bool) (w : World) (hr0 : Kd.C (Kd.int .i64) w A0 l0.length l0) (hc0 : l0.length ≤ c0) (h : slices_Contains_int_int.f l0 a1 = some r) :
    Calls Try.prog 122 #[.slice A0 l0.length c0, .int .i64 a1] w fun e w' => e = .returned (.bool r) ∧ Drawn0 w w' := by
  refine PBase.slices_Contains_int_int.calls (l0.length + 1) A0 c0 l0 a1 r w hr0 hc0 ?_
  unfold slices_Contains_int_int.f at h
  by_cases hn : l0.length ≤ 9223372036854775807
  · rw [if_pos hn] at h
    rw [← h]
    unfold PBase.slices_Contains_int_int.f
    rw [ix_ev l0 a1 (ix0F l0 a1) (by unfold slices_Index_int_int.f; rw [if_pos hn]), Option.bind_some]
    unfold ix0F
    by_cases e : a1 ∈ l0
    · simp [e]
    · simp [e]
  · rw [if_neg hn] at h; cases h
end Go.Proofs.Ytampgoendkjkhaa.H
