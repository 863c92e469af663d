/- Words: borders, periods, roots, turns (plain). -/
import Init
namespace Go.Proofs.Ytampgoendkjkhaa.LyM
set_option linter.unusedVariables false
/-! ### borders and periods -/
def Bd (x : Nat → Int) (i b : Nat) : Prop := b < i ∧ ∀ j, j < b → x j = x (i - b + j)
def LBd (x : Nat → Int) (i b : Nat) : Prop := Bd x i b ∧ ∀ c, Bd x i c → c ≤ b
def Per (x : Nat → Int) (i p : Nat) : Prop := 0 < p ∧ ∀ j, j + p < i → x j = x (j + p)
theorem bd_bd {x : Nat → Int} {i k c : Nat} (h : Bd x i k) (g : Bd x i c) (hc : c < k) : Bd x k c := by
  refine ⟨hc, fun j hj => ?_⟩
  have h1 := g.2 j hj
  have h2 := h.2 (k - c + j) (by omega)
  have hk := h.1
  rw [h1, h2]
  congr 1
  omega
theorem bd_trans {x : Nat → Int} {i k c : Nat} (h : Bd x i k) (g : Bd x k c) : Bd x i c := by
  have hk := h.1
  have hc := g.1
  refine ⟨by omega, fun j hj => ?_⟩
  have h1 := g.2 j hj
  have h2 := h.2 (k - c + j) (by omega)
  rw [h1, h2]
  congr 1
  omega
theorem bd_succ {x : Nat → Int} {i c : Nat} (hc : c < i) : Bd x (i + 1) (c + 1) ↔ Bd x i c ∧ x i = x c := by
  constructor
  · rintro ⟨h0, h⟩
    refine ⟨⟨hc, fun j hj => ?_⟩, ?_⟩
    · have := h j (by omega)
      rw [this]; congr 1; omega
    · have := h c (by omega)
      rw [this]; congr 1; omega
  · rintro ⟨⟨_, h⟩, e⟩
    refine ⟨by omega, fun j hj => ?_⟩
    by_cases hjc : j = c
    · subst hjc; rw [← e]; congr 1; omega
    · rw [h j (by omega)]; congr 1; omega
theorem bd_zero {x : Nat → Int} {i : Nat} (h : 0 < i) : Bd x i 0 := ⟨h, fun j hj => by omega⟩
theorem lbd_one (x : Nat → Int) : LBd x 1 0 := ⟨bd_zero (by omega), fun c h => by have := h.1; omega⟩
theorem bd_per {x : Nat → Int} {i b : Nat} (h : Bd x i b) : Per x i (i - b) := by
  have := h.1
  refine ⟨by omega, fun j hj => ?_⟩
  rw [h.2 j (by omega)]; congr 1; omega
theorem per_bd {x : Nat → Int} {i p : Nat} (h : Per x i p) (hp : p ≤ i) : Bd x i (i - p) := by
  have := h.1
  refine ⟨by omega, fun j hj => ?_⟩
  rw [h.2 j (by omega)]; congr 1; omega
/-- The candidate's step: 'k' is a border, all that go on are at most 'k'. -/
def Cand (x : Nat → Int) (i k : Nat) : Prop := Bd x i k ∧ ∀ c, Bd x i c → x i = x c → c ≤ k
theorem cand_of {x : Nat → Int} {i k : Nat} (h : LBd x i k) : Cand x i k := ⟨h.1, fun c hc _ => h.2 c hc⟩
theorem cand_down {x : Nat → Int} {i k b : Nat} (h : Cand x i k) (hb : LBd x k b) (hne : x i ≠ x k) : Cand x i b := by
  refine ⟨bd_trans h.1 hb.1, fun c hc e => ?_⟩
  have h1 := h.2 c hc e
  by_cases hck : c = k
  · subst hck; exact absurd e hne
  · exact hb.2 c (bd_bd h.1 hc (by omega))
theorem cand_yes {x : Nat → Int} {i k : Nat} (h : Cand x i k) (e : x i = x k) : LBd x (i + 1) (k + 1) := by
  have := h.1.1
  refine ⟨(bd_succ this).2 ⟨h.1, e⟩, fun c hc => ?_⟩
  match c, hc with
  | 0, _ => omega
  | c + 1, hc =>
    have hci := hc.1
    have := (bd_succ (show c < i by omega)).1 hc
    have := h.2 c this.1 this.2
    omega
theorem cand_no {x : Nat → Int} {i : Nat} (h : Cand x i 0) (e : x i ≠ x 0) : LBd x (i + 1) 0 := by
  refine ⟨bd_zero (by omega), fun c hc => ?_⟩
  match c, hc with
  | 0, _ => omega
  | c + 1, hc =>
    have hci := hc.1
    have g := (bd_succ (show c < i by omega)).1 hc
    have := h.2 c g.1 g.2
    obtain rfl : c = 0 := by omega
    exact absurd g.2 e

/-! ### Fine and Wilf, weakly -/
theorem per_sub {x : Nat → Int} {n p q : Nat} (hp : Per x n p) (hq : Per x n q) (hlt : p < q) (h : p + q ≤ n) : Per x (n - p) (q - p) := by
  refine ⟨by omega, fun j hj => ?_⟩
  rw [hq.2 j (by omega), hp.2 (j + (q - p)) (by omega)]
  congr 1; omega
theorem per_less {x : Nat → Int} {n m p : Nat} (h : Per x n p) (hm : m ≤ n) : Per x m p := ⟨h.1, fun j _ => h.2 j (by omega)⟩
theorem per_ext {x : Nat → Int} {n p d : Nat} (hp : Per x n p) (hd : Per x p d) (hdp : d ∣ p) : Per x n d := by
  have hd0 := hd.1
  obtain ⟨c, rfl⟩ := hdp
  -- x j = x (j % d) for all j < n
  have key : ∀ j, j < n → x j = x (j % d) := by
    intro j
    induction j using Nat.strongRecOn with
    | _ j ih =>
      intro hj
      by_cases h1 : j < d
      · rw [Nat.mod_eq_of_lt h1]
      · by_cases h2 : j < d * c
        · have := hd.2 (j - d) (by omega)
          rw [show j - d + d = j from by omega] at this
          rw [← this, ih (j - d) (by omega) (by omega)]
          congr 1
          rw [Nat.mod_eq_sub_mod (show d ≤ j by omega)]
        · have := hp.2 (j - d * c) (by omega)
          rw [show j - d * c + d * c = j from by omega] at this
          have hpos := hp.1
          rw [← this, ih (j - d * c) (by omega) (by omega)]
          congr 1
          rw [show j = (j - d * c) + d * c from by omega, Nat.add_mul_mod_self_left]
          congr 1
          omega
  refine ⟨hd0, fun j hj => ?_⟩
  rw [key j (by omega), key (j + d) hj]
  congr 1
  rw [Nat.add_mod_right]
theorem fine (x : Nat → Int) : ∀ (s n p q : Nat), p + q ≤ s → Per x n p → Per x n q → p + q ≤ n → Per x n (Nat.gcd p q) := by
  intro s
  induction s with
  | zero => intro n p q hs hp; have := hp.1; omega
  | succ s ih =>
    intro n p q hs hp hq hn
    have hp0 := hp.1
    have hq0 := hq.1
    rcases Nat.lt_trichotomy p q with h | h | h
    · have h1 := per_sub hp hq h hn
      have h2 := ih (n - p) p (q - p) (by omega) (per_less hp (by omega)) h1 (by omega)
      have e : Nat.gcd p (q - p) = Nat.gcd p q := by rw [Nat.gcd_sub_self_right (by omega)]
      rw [e] at h2
      exact per_ext hp (per_less h2 (by omega)) (Nat.gcd_dvd_left p q)
    · subst h; rw [Nat.gcd_self]; exact hp
    · have h1 := per_sub hq hp h (by omega)
      have h2 := ih (n - q) (p - q) q (by omega) h1 (per_less hq (by omega)) (by omega)
      have e : Nat.gcd (p - q) q = Nat.gcd p q := by rw [Nat.gcd_sub_self_left (by omega)]
      rw [e] at h2
      exact per_ext hq (per_less h2 (by omega)) (Nat.gcd_dvd_right p q)

/-! ### roots -/
/-- the least period. -/
def LPer (x : Nat → Int) (n p : Nat) : Prop := Per x n p ∧ p ≤ n ∧ ∀ q, Per x n q → q ≤ n → p ≤ q
def rootN (n p : Nat) : Nat := if n % p = 0 then p else n
theorem lper_of {x : Nat → Int} {n b : Nat} (h : LBd x n b) : LPer x n (n - b) := by
  have := h.1.1
  refine ⟨bd_per h.1, by omega, fun q hq hn => ?_⟩
  have := h.2 _ (per_bd hq hn)
  have := hq.1
  omega
theorem lper_dvd {x : Nat → Int} {n p q : Nat} (h : LPer x n p) (hq : Per x n q) (hs : p + q ≤ n) : p ∣ q := by
  have g := fine x (p + q) n p q (Nat.le_refl _) h.1 hq hs
  have hp := h.1.1
  have : Nat.gcd p q ≤ p := Nat.le_of_dvd hp (Nat.gcd_dvd_left p q)
  have := h.2.2 _ g (by have := h.2.1; omega)
  have e : Nat.gcd p q = p := by omega
  rw [← e]; exact Nat.gcd_dvd_right p q
/-- A power's root. 'x' of length N = n * t, with period n. -/
theorem root_power {x : Nat → Int} {n t p P : Nat} (ht : 1 ≤ t) (hn : 0 < n) (hx : Per x (n * t) n) (hp : LPer x n p) (hP : LPer x (n * t) P) : rootN (n * t) P = rootN n p := by
  by_cases h1 : t = 1
  · subst h1
    rw [Nat.mul_one] at hP ⊢
    have a := hp.2.2 P hP.1 hP.2.1
    have b := hP.2.2 p hp.1 hp.2.1
    rw [show P = p from by omega]
  · have hnt : n * 2 ≤ n * t := Nat.mul_le_mul_left n (by omega)
    -- r = rootN n p divides n, is a period of all
    have hr : rootN n p ∣ n := by
      unfold rootN; split
      · exact Nat.dvd_of_mod_eq_zero (by assumption)
      · exact Nat.dvd_refl n
    have hrn : Per x n (rootN n p) := by
      unfold rootN; split
      · exact hp.1
      · exact ⟨hn, fun j hj => by omega⟩
    have hrN : Per x (n * t) (rootN n p) := per_ext hx hrn hr
    have hrle : rootN n p ≤ n := Nat.le_of_dvd hn hr
    have hPle : P ≤ rootN n p := hP.2.2 _ hrN (by omega)
    have hPr : P ∣ rootN n p := lper_dvd hP hrN (by omega)
    have hPn : P ∣ n := Nat.dvd_trans hPr hr
    have hPN : (n * t) % P = 0 := Nat.mod_eq_zero_of_dvd (Nat.dvd_trans hPn (Nat.dvd_mul_right n t))
    have e : rootN (n * t) P = P := by unfold rootN; rw [if_pos hPN]
    rw [e]
    -- P = rootN n p
    have hPp : Per x n P := per_less hP.1 (by omega)
    have hpP : p ≤ P := hp.2.2 P hPp (by omega)
    by_cases hd : n % p = 0
    · have e2 : rootN n p = p := by unfold rootN; rw [if_pos hd]
      omega
    · have e2 : rootN n p = n := by unfold rootN; rw [if_neg hd]
      by_cases hPn' : P = n
      · omega
      · exfalso
        have : P + P ≤ n := by
          obtain ⟨c, hc⟩ := hPn
          have hP0 := hP.1.1
          match c, hc with
          | 0, hc => omega
          | 1, hc => omega
          | c + 2, hc => rw [hc, Nat.mul_add]; omega
        have hdv := lper_dvd hp hPp (by omega)
        exact hd (Nat.mod_eq_zero_of_dvd (Nat.dvd_trans hdv hPn))
theorem rootN_dvd {n p : Nat} : rootN n p ∣ n := by
  unfold rootN; split
  · exact Nat.dvd_of_mod_eq_zero (by assumption)
  · exact Nat.dvd_refl n
theorem rootN_per {x : Nat → Int} {n p : Nat} (hn : 0 < n) (hp : LPer x n p) : Per x n (rootN n p) := by
  unfold rootN; split
  · exact hp.1
  · exact ⟨hn, fun j hj => by omega⟩

/-! ### comparing -/
def cmpL : List Int → List Int → Int
  | [], [] => 0
  | [], _ :: _ => -1
  | _ :: _, [] => 1
  | x :: xs, y :: ys => if x < y then -1 else if x > y then 1 else cmpL xs ys
theorem cmpL_self : ∀ l : List Int, cmpL l l = 0
  | [] => rfl
  | x :: l => by simp [cmpL, cmpL_self l]
theorem cmpL_eq : ∀ {a b : List Int}, cmpL a b = 0 → a = b
  | [], [], _ => rfl
  | [], _ :: _, h => by simp [cmpL] at h
  | _ :: _, [], h => by simp [cmpL] at h
  | x :: xs, y :: ys, h => by
    unfold cmpL at h
    split at h
    · simp at h
    · split at h
      · simp at h
      · rw [show x = y from by omega, cmpL_eq h]
theorem cmpL_trans : ∀ {a b c : List Int}, cmpL a b < 0 → cmpL b c < 0 → cmpL a c < 0
  | [], [], _, h, _ => by simp [cmpL] at h
  | [], _ :: _, [], _, h => by simp [cmpL] at h
  | [], _ :: _, _ :: _, _, _ => by simp [cmpL]
  | _ :: _, [], _, h, _ => by simp [cmpL] at h
  | _ :: _, _ :: _, [], _, h => by simp [cmpL] at h
  | x :: xs, y :: ys, z :: zs, h, g => by
    have ih := @cmpL_trans xs ys zs
    unfold cmpL at h g ⊢
    split at h
    · split at g
      · rw [if_pos (by omega)]; omega
      · split at g
        · simp at g
        · rw [if_pos (by omega)]; omega
    · split at h
      · simp at h
      · split at g
        · rw [if_pos (by omega)]; omega
        · split at g
          · simp at g
          · rw [if_neg (by omega), if_neg (by omega)]; exact ih h g
theorem cmpL_total : ∀ {a b : List Int}, ¬ cmpL a b < 0 → a = b ∨ cmpL b a < 0
  | [], [], _ => .inl rfl
  | [], _ :: _, h => by simp [cmpL] at h
  | _ :: _, [], _ => by simp [cmpL]
  | x :: xs, y :: ys, h => by
    have ih := @cmpL_total xs ys
    unfold cmpL at h ⊢
    split at h
    · simp at h
    · split at h
      · right; rw [if_pos (by omega)]; omega
      · rcases ih h with e | e
        · left; rw [show x = y from by omega, e]
        · right; rw [if_neg (by omega), if_neg (by omega)]; exact e
theorem cmpL_append : ∀ {a b : List Int} (c d : List Int), a.length = b.length → cmpL (a ++ c) (b ++ d) = if cmpL a b = 0 then cmpL c d else cmpL a b
  | [], [], c, d, _ => by simp [cmpL]
  | [], _ :: _, _, _, h => by simp at h
  | _ :: _, [], _, _, h => by simp at h
  | x :: xs, y :: ys, c, d, h => by
    have ih := @cmpL_append xs ys c d (by simpa using h)
    simp only [List.cons_append, cmpL]
    split
    · simp
    · split
      · simp
      · exact ih
def pow (w : List Int) (t : Nat) : List Int := (List.replicate t w).flatten
theorem pow_zero (w : List Int) : pow w 0 = [] := rfl
theorem pow_succ (w : List Int) (t : Nat) : pow w (t + 1) = w ++ pow w t := by unfold pow; rw [List.replicate_succ, List.flatten_cons]
theorem pow_len (w : List Int) (t : Nat) : (pow w t).length = w.length * t := by
  induction t with
  | zero => rfl
  | succ t ih => rw [pow_succ, List.length_append, ih, Nat.mul_succ]; omega
theorem pow_add (w : List Int) (s t : Nat) : pow w (s + t) = pow w s ++ pow w t := by
  induction s with
  | zero => simp [pow_zero]
  | succ s ih => rw [show s + 1 + t = (s + t) + 1 from by omega, pow_succ, pow_succ, ih, List.append_assoc]
theorem pow_one (w : List Int) : pow w 1 = w := by rw [pow_succ, pow_zero, List.append_nil]
theorem pow_snoc (w : List Int) (t : Nat) : pow w (t + 1) = pow w t ++ w := by rw [pow_add, pow_one]
theorem pow_mul (w : List Int) (s t : Nat) : pow (pow w s) t = pow w (s * t) := by
  induction t with
  | zero => rfl
  | succ t ih => rw [pow_succ, ih, ← pow_add]; congr 1; rw [Nat.mul_succ]; omega
theorem cmp_pow {a b : List Int} (h : a.length = b.length) : ∀ t, 1 ≤ t → cmpL (pow a t) (pow b t) = cmpL a b := by
  intro t
  induction t with
  | zero => intro ht; omega
  | succ t ih =>
    intro _
    rw [pow_succ, pow_succ, cmpL_append _ _ h]
    split
    · rename_i e
      rw [cmpL_eq e, cmpL_self, cmpL_self]
    · rfl

/-! ### turns -/
def rot (w : List Int) (k : Nat) : List Int := w.drop k ++ w.take k
def turnB (w : List Int) : Nat → Nat
  | 0 => 0
  | k + 1 => if cmpL (rot w k) (rot w (turnB w k)) < 0 then k else turnB w k
theorem turnB_le (w : List Int) : ∀ k, turnB w k ≤ k
  | 0 => Nat.le_refl _
  | k + 1 => by
    unfold turnB
    have := turnB_le w k
    split <;> omega
theorem turnB_lt (w : List Int) : ∀ k, 0 < k → turnB w k < k
  | 0, h => by omega
  | k + 1, _ => by
    unfold turnB
    have := turnB_le w k
    split <;> omega
theorem rot_len (w : List Int) (k : Nat) : (rot w k).length = w.length := by
  unfold rot; rw [List.length_append, List.length_drop, List.length_take]; omega
theorem turn_least (w : List Int) : ∀ k j, j < k → ¬ cmpL (rot w j) (rot w (turnB w k)) < 0
  | 0, j, h => by omega
  | k + 1, j, h => by
    have ih := turn_least w k
    unfold turnB
    split
    · rename_i hl
      by_cases hj : j = k
      · subst hj; rw [cmpL_self]; omega
      · exact fun g => ih j (by omega) (cmpL_trans g hl)
    · rename_i hl
      by_cases hj : j = k
      · subst hj; exact hl
      · exact ih j (by omega)
theorem pow_split {w : List Int} {s r : Nat} : (pow w s ++ w.take r).length = w.length * s + min r w.length := by
  rw [List.length_append, pow_len, List.length_take]
theorem rot_pow (w : List Int) (t s r : Nat) (hs : s < t) (hr : r < w.length) : rot (pow w t) (w.length * s + r) = pow (rot w r) t := by
  obtain ⟨q, rfl⟩ : ∃ q, t = s + 1 + q := ⟨t - (s + 1), by omega⟩
  have e : pow w (s + 1 + q) = (pow w s ++ w.take r) ++ (w.drop r ++ pow w q) := by
    rw [pow_add, pow_snoc, List.append_assoc, List.append_assoc, ← List.append_assoc (w.take r), List.take_append_drop]
  have l : (pow w s ++ w.take r).length = w.length * s + r := by rw [pow_split]; omega
  unfold rot
  rw [e, ← l, List.drop_left, List.take_left]
  -- drop r w ++ w^q ++ w^s ++ take r w = (drop r w ++ take r w)^(s+1+q)
  have g : ∀ m, (w.drop r ++ pow w m) ++ w.take r = pow (w.drop r ++ w.take r) (m + 1) := by
    intro m
    induction m with
    | zero => rw [pow_zero, List.append_nil, pow_one]
    | succ m ih =>
      rw [pow_succ, pow_succ (w.drop r ++ w.take r), ← ih]
      have : w = w.take r ++ w.drop r := (List.take_append_drop r w).symm
      conv => lhs; rw [show w ++ pow w m = (w.take r ++ w.drop r) ++ pow w m from by rw [List.take_append_drop]]
      simp only [List.append_assoc]
  rw [List.append_assoc, ← List.append_assoc (pow w q), ← pow_add, ← List.append_assoc, g]
  congr 1
  omega
theorem turn_pow (w : List Int) (t : Nat) (ht : 1 ≤ t) (hw : 0 < w.length) : turnB (pow w t) (w.length * t) = turnB w w.length := by
  have small : ∀ k, k ≤ w.length → turnB (pow w t) k = turnB w k := by
    intro k
    induction k with
    | zero => intro _; rfl
    | succ k ih =>
      intro hk
      have hb := turnB_le w k
      unfold turnB
      rw [ih (by omega)]
      have a := rot_pow w t 0 k (by omega) (by omega)
      have b := rot_pow w t 0 (turnB w k) (by omega) (by omega)
      rw [Nat.mul_zero, Nat.zero_add] at a b
      rw [a, b, cmp_pow (by rw [rot_len, rot_len]) t ht]
  have big : ∀ d, w.length + d ≤ w.length * t → turnB (pow w t) (w.length + d) = turnB w w.length := by
    intro d
    induction d with
    | zero => intro _; exact small _ (Nat.le_refl _)
    | succ d ih =>
      intro hd
      rw [show w.length + (d + 1) = (w.length + d) + 1 from by omega]
      conv => lhs; unfold turnB
      rw [ih (by omega)]
      have hdiv := Nat.div_add_mod (w.length + d) w.length
      have hmod := Nat.mod_lt (w.length + d) hw
      have hq : (w.length + d) / w.length < t := (Nat.div_lt_iff_lt_mul hw).2 (by rw [Nat.mul_comm]; omega)
      have a := rot_pow w t _ _ hq hmod
      rw [hdiv] at a
      have hb := turnB_lt w w.length hw
      have b := rot_pow w t 0 (turnB w w.length) (by omega) hb
      rw [Nat.mul_zero, Nat.zero_add] at b
      rw [a, b, cmp_pow (by rw [rot_len, rot_len]) t ht, if_neg (turn_least w _ _ hmod)]
  have hle : w.length ≤ w.length * t := Nat.le_mul_of_pos_right _ ht
  have := big (w.length * t - w.length) (by omega)
  rwa [show w.length + (w.length * t - w.length) = w.length * t from by omega] at this

/-! ### a word as its root's power -/
def ixf (w : List Int) (j : Nat) : Int := w.getD j 0
theorem per_pow {w : List Int} {r : Nat} (c : Nat) (hc : w.length = r * c) (h : Per (ixf w) w.length r) : w = pow (w.take r) c := by
  have hr := h.1
  induction c generalizing w with
  | zero => rw [Nat.mul_zero] at hc; rw [List.length_eq_zero_iff.1 hc]; rfl
  | succ c ih =>
    by_cases h0 : c = 0
    · subst h0
      rw [pow_one, List.take_of_length_le (by omega)]
    · have hc' : w.length = r * c + r := by rw [hc, Nat.mul_succ]
      have hl : r ≤ w.length := by omega
      have hrc : r ≤ r * c := Nat.le_mul_of_pos_right _ (by omega)
      have hd : (w.drop r).length = r * c := by rw [List.length_drop, hc, Nat.mul_succ]; omega
      have hp : Per (ixf (w.drop r)) (w.drop r).length r := by
        refine ⟨hr, fun j hj => ?_⟩
        have := h.2 (r + j) (by rw [List.length_drop] at hj; omega)
        unfold ixf at this ⊢
        simp only [List.getD_eq_getElem?_getD, List.getElem?_drop] at this ⊢
        rw [this]; congr 2; omega
      have ht : (w.drop r).take r = w.take r := by
        apply List.ext_getElem
        · rw [List.length_take, List.length_take, hd]; omega
        · intro i h1 h2
          rw [List.length_take] at h2
          rw [List.getElem_take, List.getElem_take, List.getElem_drop]
          have := h.2 i (by omega)
          unfold ixf at this
          rw [List.getD_eq_getElem?_getD, List.getD_eq_getElem?_getD, List.getElem?_eq_getElem (by omega), List.getElem?_eq_getElem (by omega)] at this
          simp only [Option.getD_some] at this
          rw [this]; congr 1; omega
      have := ih hd hp
      rw [ht] at this
      rw [pow_succ, ← this, List.take_append_drop]
theorem pow_per (w : List Int) (t : Nat) (hw : 0 < w.length) : Per (ixf (pow w t)) (w.length * t) w.length := by
  refine ⟨hw, fun j hj => ?_⟩
  match t, hj with
  | 0, hj => rw [Nat.mul_zero] at hj; omega
  | t + 1, hj =>
    unfold ixf
    rw [List.getD_eq_getElem?_getD, List.getD_eq_getElem?_getD]
    congr 1
    have a : (pow w (t + 1))[j + w.length]? = (pow w t)[j]? := by
      rw [pow_succ, List.getElem?_append_right (by omega)]; congr 1; omega
    have b : (pow w (t + 1))[j]? = (pow w t)[j]? := by
      rw [pow_snoc, List.getElem?_append_left (by rw [pow_len]; rw [Nat.mul_succ] at hj; omega)]
    rw [a, b]
end Go.Proofs.Ytampgoendkjkhaa.LyM
