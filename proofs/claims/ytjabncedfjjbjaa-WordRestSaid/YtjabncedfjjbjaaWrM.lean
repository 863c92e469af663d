/- Words without an end: the shortest lasso is unique (plain). -/
import Derived.Test.YtjabncedfjjbjaaLyM
namespace Go.Proofs.Ytjabncedfjjbjaa.WrM
open Go.Proofs.Ytjabncedfjjbjaa.LyM
set_option linter.unusedVariables false
def om (h l : List Int) (i : Nat) : Int := if i < h.length then h.getD i 0 else l.getD ((i - h.length) % l.length) 0
/-- From k on, x has period q. -/
def Ev (x : Nat → Int) (k q : Nat) : Prop := ∀ i, k ≤ i → x (i + q) = x i
theorem ev_sub {x : Nat → Int} {k p q : Nat} (hp : Ev x k p) (hq : Ev x k q) (h : p ≤ q) : Ev x k (q - p) := by
  intro i hi
  rw [← hq i hi, ← hp (i + (q - p)) (by omega)]
  congr 1; omega
theorem ev_gcd (x : Nat → Int) (k : Nat) : ∀ (s p q : Nat), p + q ≤ s → Ev x k p → Ev x k q → Ev x k (Nat.gcd p q) := by
  intro s
  induction s with
  | zero => intro p q h hp hq; obtain rfl : p = 0 := by omega
            obtain rfl : q = 0 := by omega
            exact hp
  | succ s ih =>
    intro p q h hp hq
    by_cases h0 : p = 0
    · subst h0; rw [Nat.gcd_zero_left]; exact hq
    by_cases h1 : q = 0
    · subst h1; rw [Nat.gcd_zero_right]; exact hp
    by_cases h2 : p ≤ q
    · have := ih p (q - p) (by omega) hp (ev_sub hp hq h2)
      rwa [Nat.gcd_sub_self_right h2] at this
    · have := ih (p - q) q (by omega) (ev_sub hq hp (by omega)) hq
      rwa [Nat.gcd_sub_self_left (by omega)] at this
theorem ev_mul {x : Nat → Int} {k p : Nat} (h : Ev x k p) : ∀ m, Ev x k (p * m)
  | 0 => fun i _ => by simp
  | m + 1 => fun i hi => by
    rw [Nat.mul_succ, ← Nat.add_assoc, h _ (by omega), ev_mul h m i hi]
/-- An eventual period holds from where any other eventual period holds. -/
theorem ev_back {x : Nat → Int} {k m p q : Nat} (h0 : 0 < p) (hp : Ev x k p) (hq : Ev x m q) : Ev x k q := by
  intro i hi
  have hm : m ≤ p * m := Nat.le_mul_of_pos_left m h0
  have a := ev_mul hp m (i + q) (by omega)
  have b := ev_mul hp m i hi
  have c := hq (i + p * m) (by omega)
  rw [← a, ← b, ← c]
  congr 1; omega
def prim (l : List Int) : Prop := ∀ n, 0 < n → n < l.length → n ∣ l.length → ¬ l.drop n = l.take (l.length - n)
structure Nf (h l : List Int) : Prop where
  pos : 0 < l.length
  pr : ∀ m q, Ev (om h l) m q → l.length ∣ q
  red : h = [] ∨ h.getD (h.length - 1) 0 ≠ l.getD (l.length - 1) 0
theorem om_ev {h l : List Int} (hl : 0 < l.length) : Ev (om h l) h.length l.length := by
  intro i hi
  unfold om
  rw [if_neg (by omega), if_neg (by omega), show i + l.length - h.length = (i - h.length) + l.length from by omega, Nat.add_mod_right]
theorem om_loop {h l : List Int} {i : Nat} (hi : i < l.length) : om h l (h.length + i) = l.getD i 0 := by
  unfold om
  rw [if_neg (by omega), show h.length + i - h.length = i from by omega, Nat.mod_eq_of_lt hi]
theorem om_head {h l : List Int} {i : Nat} (hi : i < h.length) : om h l i = h.getD i 0 := by unfold om; rw [if_pos hi]
theorem list_ext {a b : List Int} (hl : a.length = b.length) (h : ∀ i, i < a.length → a.getD i 0 = b.getD i 0) : a = b := by
  apply List.ext_getElem hl
  intro i h1 h2
  have := h i h1
  rw [List.getD_eq_getElem?_getD, List.getD_eq_getElem?_getD, List.getElem?_eq_getElem h1, List.getElem?_eq_getElem h2] at this
  exact this
theorem getD_drop (l : List Int) (n i : Nat) : (l.drop n).getD i 0 = l.getD (n + i) 0 := by
  rw [List.getD_eq_getElem?_getD, List.getD_eq_getElem?_getD, List.getElem?_drop]
theorem getD_take {l : List Int} {n i : Nat} (h : i < n) : (l.take n).getD i 0 = l.getD i 0 := by
  rw [List.getD_eq_getElem?_getD, List.getD_eq_getElem?_getD, List.getElem?_take_of_lt h]
theorem getD_app_left {a b : List Int} {i : Nat} (h : i < a.length) : (a ++ b).getD i 0 = a.getD i 0 := by
  rw [List.getD_eq_getElem?_getD, List.getD_eq_getElem?_getD, List.getElem?_append_left h]
theorem getD_app_right {a b : List Int} {i : Nat} (h : a.length ≤ i) : (a ++ b).getD i 0 = b.getD (i - a.length) 0 := by
  rw [List.getD_eq_getElem?_getD, List.getD_eq_getElem?_getD, List.getElem?_append_right h]
theorem prim_dvd {h l : List Int} {m q : Nat} (hl : 0 < l.length) (hp : prim l) (hq : Ev (om h l) m q) : l.length ∣ q := by
  have e := om_ev (h := h) hl
  have eq := ev_back hl e hq
  have g := ev_gcd _ _ _ _ _ (Nat.le_refl _) e eq
  have gd := Nat.gcd_dvd_left l.length q
  have g0 : 0 < Nat.gcd l.length q := Nat.gcd_pos_of_pos_left _ hl
  have gl := Nat.le_of_dvd hl gd
  by_cases he : Nat.gcd l.length q = l.length
  · rw [← he]; exact Nat.gcd_dvd_right _ _
  · exfalso
    refine hp _ g0 (by omega) gd ?_
    generalize Nat.gcd l.length q = d at *
    apply list_ext
    · rw [List.length_drop, List.length_take]; omega
    · intro i hi
      rw [List.length_drop] at hi
      rw [getD_drop, getD_take (by omega), ← om_loop (h := h) (by omega), ← om_loop (h := h) (l := l) (i := i) (by omega), ← g (h.length + i) (by omega)]
      congr 1; omega
theorem nf_head {h l h' l' : List Int} (n : Nf h l) (n' : Nf h' l') (e : om h l = om h' l') (hp : l.length = l'.length) : ¬ h.length < h'.length := by
  intro hlt
  have h0 := n'.pos
  rcases n'.red with r | r
  · rw [r] at hlt; simp at hlt
  · apply r
    have a := om_ev (h := h) n.pos (h'.length - 1) (by omega)
    rw [e] at a
    rw [show h'.length - 1 + l.length = h'.length + (l'.length - 1) from by omega, om_loop (by omega), om_head (by omega)] at a
    exact a.symm
theorem nf_unique {h l h' l' : List Int} (n : Nf h l) (n' : Nf h' l') (e : om h l = om h' l') : h = h' ∧ l = l' := by
  have d1 : l.length ∣ l'.length := n.pr h'.length _ (by rw [e]; exact om_ev n'.pos)
  have d2 : l'.length ∣ l.length := n'.pr h.length _ (by rw [← e]; exact om_ev n.pos)
  have hp : l.length = l'.length := Nat.dvd_antisymm d1 d2
  have a := nf_head n n' e hp
  have b := nf_head n' n e.symm hp.symm
  have hh : h.length = h'.length := by omega
  refine ⟨list_ext hh fun i hi => ?_, list_ext hp fun i hi => ?_⟩
  · rw [← om_head (l := l) hi, e, om_head (by omega)]
  · rw [← om_loop (h := h) hi, e, hh, om_loop (by omega)]
/-! ### what the program does -/
/-- the shortest loop of a loop. -/
def perFind (l : List Int) : Nat → Nat → List Int
  | 0, _ => l
  | d + 1, n => if 0 < n ∧ l.length % n = 0 ∧ l.drop n = l.take (l.length - n) then l.take n else perFind l d (n + 1)
def period (l : List Int) : List Int := perFind l l.length 0
theorem perFind_spec (l : List Int) (hl : 0 < l.length) : ∀ d n, n + d = l.length → (∀ k, 0 < k → k < n → k ∣ l.length → ¬ l.drop k = l.take (l.length - k)) →
    ∃ p, 0 < p ∧ p ≤ l.length ∧ p ∣ l.length ∧ perFind l d n = l.take p ∧ (p < l.length → l.drop p = l.take (l.length - p)) ∧ ∀ k, 0 < k → k < p → k ∣ l.length → ¬ l.drop k = l.take (l.length - k) := by
  intro d
  induction d with
  | zero =>
    intro n hn hk
    refine ⟨l.length, hl, Nat.le_refl _, Nat.dvd_refl _, ?_, fun h => by omega, ?_⟩
    · rw [List.take_length]; rfl
    · obtain rfl : n = l.length := by omega
      exact hk
  | succ d ih =>
    intro n hn hk
    unfold perFind
    split
    · rename_i h
      exact ⟨n, h.1, by omega, Nat.dvd_of_mod_eq_zero h.2.1, rfl, fun _ => h.2.2, hk⟩
    · rename_i h
      refine ih (n + 1) (by omega) fun k k0 k1 kd ke => ?_
      by_cases e : k = n
      · subst e; exact h ⟨k0, Nat.mod_eq_zero_of_dvd kd, ke⟩
      · exact hk k k0 (by omega) kd ke
theorem per_of_drop {l : List Int} {p : Nat} (hp : 0 < p) (h : l.drop p = l.take (l.length - p)) : Per (ixf l) l.length p := by
  refine ⟨hp, fun j hj => ?_⟩
  unfold ixf
  rw [show j + p = p + j from by omega, ← getD_drop, h, getD_take (by omega)]
theorem drop_of_per {l : List Int} {p : Nat} (h : Per (ixf l) l.length p) (hp : p ≤ l.length) : l.drop p = l.take (l.length - p) := by
  apply list_ext
  · rw [List.length_drop, List.length_take]; omega
  · intro i hi
    rw [List.length_drop] at hi
    rw [getD_drop, getD_take (by omega), show p + i = i + p from by omega]
    exact (h.2 i (by omega)).symm
theorem ixf_take {l : List Int} {n i : Nat} (h : i < n) : ixf (l.take n) i = ixf l i := getD_take h
theorem per_mod {x : Nat → Int} {n p : Nat} (h : Per x n p) : ∀ j, j < n → x j = x (j % p) := by
  intro j
  have h0 := h.1
  induction j using Nat.strongRecOn with
  | _ j ih =>
    intro hj
    by_cases h1 : j < p
    · rw [Nat.mod_eq_of_lt h1]
    · have := h.2 (j - p) (by omega)
      rw [show j - p + p = j from by omega] at this
      rw [← this, ih (j - p) (by omega) (by omega), Nat.mod_eq_sub_mod (show p ≤ j by omega)]
/-- The shortest loop: it is a loop of the same word, and the least one. -/
theorem period_spec {l : List Int} (hl : 0 < l.length) : ∃ p, 0 < p ∧ p ≤ l.length ∧ period l = l.take p ∧ (∀ h, om h (l.take p) = om h l) ∧ ∀ h m q, Ev (om h l) m q → p ∣ q := by
  obtain ⟨p, p0, p1, pd, pe, pp, pm⟩ := perFind_spec l hl l.length 0 (by omega) (fun k a b => by omega)
  have hper : Per (ixf l) l.length p := by
    by_cases e : p < l.length
    · exact per_of_drop p0 (pp e)
    · exact ⟨p0, fun j hj => by omega⟩
  have tl : (l.take p).length = p := by rw [List.length_take]; omega
  have homs : ∀ h, om h (l.take p) = om h l := by
    intro h
    funext i
    unfold om
    split
    · rfl
    · rw [tl]
      have a := Nat.mod_lt (i - h.length) hl
      have b := Nat.mod_lt (i - h.length) p0
      rw [getD_take b]
      have := per_mod hper _ a
      unfold ixf at this
      rw [this, Nat.mod_mod_of_dvd _ pd]
  have hpr : prim (l.take p) := by
    intro n n0 n1 nd ne
    rw [tl] at n1 nd ne
    have a : Per (ixf (l.take p)) p n := by have := per_of_drop n0 (l := l.take p) (by rw [tl]; exact ne); rwa [tl] at this
    have b : Per (ixf l) p n := ⟨n0, fun j hj => by
      have := a.2 j hj
      rwa [ixf_take (by omega), ixf_take (by omega)] at this⟩
    exact pm n n0 n1 (Nat.dvd_trans nd pd) (drop_of_per (per_ext hper b nd) (by omega))
  refine ⟨p, p0, p1, pe, homs, fun h m q hq => ?_⟩
  rw [← homs h] at hq
  have := prim_dvd (h := h) (by rw [tl]; exact p0) hpr hq
  rwa [tl] at this
def trimZ (h : List Int) : Nat → List Int → Nat × List Int
  | 0, r => (0, r)
  | j + 1, r => if h.getD j 0 = r.getD (r.length - 1) 0 then trimZ h j (h.getD j 0 :: r.take (r.length - 1)) else (j + 1, r)
theorem om_turn {h r : List Int} {j : Nat} (hj : j < h.length) (hr : 0 < r.length) (e : h.getD j 0 = r.getD (r.length - 1) 0) : om (h.take j) (h.getD j 0 :: r.take (r.length - 1)) = om (h.take (j + 1)) r := by
  funext i
  have l1 : (h.take j).length = j := by rw [List.length_take]; omega
  have l2 : (h.take (j + 1)).length = j + 1 := by rw [List.length_take]; omega
  have l3 : (h.getD j 0 :: r.take (r.length - 1)).length = r.length := by rw [List.length_cons, List.length_take]; omega
  unfold om
  rw [l1, l2, l3]
  by_cases h1 : i < j
  · rw [if_pos h1, if_pos (by omega), getD_take h1, getD_take (by omega)]
  · rw [if_neg h1]
    by_cases h2 : i = j
    · subst h2
      rw [if_pos (by omega), getD_take (by omega), Nat.sub_self, Nat.zero_mod]
      rfl
    · rw [if_neg (by omega)]
      have hm := Nat.mod_lt (i - j) hr
      have e1 : (i - (j + 1)) % r.length = if (i - j) % r.length = 0 then r.length - 1 else (i - j) % r.length - 1 := by
        have d := Nat.div_add_mod (i - j) r.length
        by_cases z : (i - j) % r.length = 0
        · rw [if_pos z]
          rw [z] at d
          have hq : 0 < (i - j) / r.length := by
            apply Nat.pos_of_ne_zero
            intro q; rw [q, Nat.mul_zero] at d; omega
          obtain ⟨c, hc⟩ : ∃ c, (i - j) / r.length = c + 1 := ⟨(i - j) / r.length - 1, by omega⟩
          rw [hc, Nat.mul_succ] at d
          rw [show i - (j + 1) = (r.length - 1) + r.length * c from by omega, Nat.add_mul_mod_self_left, Nat.mod_eq_of_lt (by omega)]
        · rw [if_neg z]
          rw [show i - (j + 1) = ((i - j) % r.length - 1) + r.length * ((i - j) / r.length) from by omega, Nat.add_mul_mod_self_left, Nat.mod_eq_of_lt (by omega)]
      rw [e1]
      split
      · rename_i z
        rw [z]
        exact e
      · rename_i z
        obtain ⟨c, hc⟩ : ∃ c, (i - j) % r.length = c + 1 := ⟨(i - j) % r.length - 1, by omega⟩
        rw [hc]
        show (r.take (r.length - 1)).getD c 0 = _
        rw [getD_take (by omega)]
        rfl
theorem trim_spec (h : List Int) : ∀ j r, j ≤ h.length → 0 < r.length → (trimZ h j r).1 ≤ j ∧ (trimZ h j r).2.length = r.length ∧ om (h.take (trimZ h j r).1) (trimZ h j r).2 = om (h.take j) r ∧ ((trimZ h j r).1 = 0 ∨ h.getD ((trimZ h j r).1 - 1) 0 ≠ (trimZ h j r).2.getD (r.length - 1) 0) ∧ ∀ P : Int → Prop, (∀ x ∈ h, P x) → (∀ x ∈ r, P x) → ∀ x ∈ (trimZ h j r).2, P x := by
  intro j
  induction j with
  | zero => intro r _ _; exact ⟨Nat.le_refl _, rfl, rfl, .inl rfl, fun P _ g => g⟩
  | succ j ih =>
    intro r hj hr
    unfold trimZ
    split
    · rename_i e
      have l3 : (h.getD j 0 :: r.take (r.length - 1)).length = r.length := by rw [List.length_cons, List.length_take]; omega
      obtain ⟨a, b, c, d, f⟩ := ih (h.getD j 0 :: r.take (r.length - 1)) (by omega) (by omega)
      rw [l3] at b d
      refine ⟨by omega, b, c.trans (om_turn (by omega) hr e), d, fun P p q => f P p fun x hx => ?_⟩
      rcases List.mem_cons.1 hx with rfl | hx
      · rw [List.getD_eq_getElem?_getD, List.getElem?_eq_getElem (show j < h.length by omega)]
        exact p _ (List.getElem_mem _)
      · exact q x (List.mem_of_mem_take hx)
    · rename_i e
      exact ⟨Nat.le_refl _, rfl, rfl, .inr e, fun P _ g => g⟩
def normZ (h l : List Int) : List Int × List Int := (h.take (trimZ h h.length (period l)).1, (trimZ h h.length (period l)).2)
theorem norm_spec {h l : List Int} (hl : 0 < l.length) : Nf (normZ h l).1 (normZ h l).2 ∧ om (normZ h l).1 (normZ h l).2 = om h l ∧ (normZ h l).1.length ≤ h.length ∧ (normZ h l).2.length ≤ l.length ∧ ∀ P : Int → Prop, (∀ x ∈ h, P x) → (∀ x ∈ l, P x) → (∀ x ∈ (normZ h l).1, P x) ∧ ∀ x ∈ (normZ h l).2, P x := by
  obtain ⟨p, p0, p1, pe, po, pm⟩ := period_spec hl
  have tl : (period l).length = p := by rw [pe, List.length_take]; omega
  obtain ⟨a, b, c, d, f⟩ := trim_spec h h.length (period l) (Nat.le_refl _) (by omega)
  unfold normZ
  generalize hz : trimZ h h.length (period l) = z at *
  obtain ⟨j, r⟩ := z
  simp only at a b c d f ⊢
  have jl : (h.take j).length = j := by rw [List.length_take]; omega
  have e : om (h.take j) r = om h l := by rw [c, List.take_length, pe, po]
  refine ⟨⟨by omega, fun m q hq => ?_, ?_⟩, e, by omega, by omega, fun P hp hq => ⟨fun x hx => hp x (List.mem_of_mem_take hx), f P hp fun x hx => hq x (by rw [pe] at hx; exact List.mem_of_mem_take hx)⟩⟩
  · rw [b, tl]
    rw [e] at hq
    exact pm h m q hq
  · rcases d with d | d
    · left; rw [d]; rfl
    · by_cases j0 : j = 0
      · left; rw [j0]; rfl
      · right
        rw [jl, getD_take (by omega), b]
        exact d
/-- what is left behind n letters: the lasso ahead of its shortening. -/
def restZ (h l : List Int) (n : Nat) : List Int × List Int := if n < h.length then normZ (h.drop n) l else normZ [] (l.drop ((n - h.length) % l.length) ++ l.take ((n - h.length) % l.length))
theorem om_drop {h l : List Int} {n : Nat} (hn : n < h.length) (i : Nat) : om (h.drop n) l i = om h l (n + i) := by
  unfold om
  rw [List.length_drop]
  by_cases g : i < h.length - n
  · rw [if_pos g, if_pos (by omega), getD_drop]
  · rw [if_neg g, if_neg (by omega), show i - (h.length - n) = n + i - h.length from by omega]
theorem om_rot {h l : List Int} {n : Nat} (hn : h.length ≤ n) (hl : 0 < l.length) (i : Nat) : om [] (l.drop ((n - h.length) % l.length) ++ l.take ((n - h.length) % l.length)) i = om h l (n + i) := by
  have hm := Nat.mod_lt (n - h.length) hl
  unfold om
  rw [if_neg (by simp), if_neg (by omega)]
  have ll : (l.drop ((n - h.length) % l.length) ++ l.take ((n - h.length) % l.length)).length = l.length := by rw [List.length_append, List.length_drop, List.length_take]; omega
  rw [ll]
  have e : (n + i - h.length) % l.length = ((n - h.length) % l.length + i % l.length) % l.length := by
    rw [show n + i - h.length = (n - h.length) + i from by omega, Nat.add_mod]
  have hi := Nat.mod_lt i hl
  rw [e]
  simp only [List.length_nil, Nat.sub_zero]
  generalize (n - h.length) % l.length = t at *
  generalize i % l.length = s at *
  by_cases g : s < l.length - t
  · rw [getD_app_left (by rw [List.length_drop]; omega), getD_drop, Nat.mod_eq_of_lt (by omega)]
  · rw [getD_app_right (by rw [List.length_drop]; omega), List.length_drop, getD_take (by omega), Nat.mod_eq_sub_mod (by omega), Nat.mod_eq_of_lt (by omega)]
    congr 1; omega
theorem rest_spec {h l : List Int} (n : Nat) (hl : 0 < l.length) : Nf (restZ h l n).1 (restZ h l n).2 ∧ (∀ i, om (restZ h l n).1 (restZ h l n).2 i = om h l (n + i)) ∧ (restZ h l n).1.length ≤ h.length ∧ (restZ h l n).2.length ≤ l.length ∧ ∀ P : Int → Prop, (∀ x ∈ h, P x) → (∀ x ∈ l, P x) → (∀ x ∈ (restZ h l n).1, P x) ∧ ∀ x ∈ (restZ h l n).2, P x := by
  unfold restZ
  split
  · rename_i g
    obtain ⟨a, b, c, d, f⟩ := norm_spec (h := h.drop n) hl
    exact ⟨a, fun i => by rw [b, om_drop g], by rw [List.length_drop] at c; omega, d, fun P hp hq => f P (fun x hx => hp x (List.mem_of_mem_drop hx)) hq⟩
  · rename_i g
    have ll : (l.drop ((n - h.length) % l.length) ++ l.take ((n - h.length) % l.length)).length = l.length := by
      have := Nat.mod_lt (n - h.length) hl
      rw [List.length_append, List.length_drop, List.length_take]; omega
    obtain ⟨a, b, c, d, f⟩ := norm_spec (h := []) (l := l.drop ((n - h.length) % l.length) ++ l.take ((n - h.length) % l.length)) (by omega)
    refine ⟨a, fun i => by rw [b, om_rot (by omega) hl], Nat.le_trans c (Nat.zero_le _), by omega, fun P hp hq => f P (fun x hx => by simp at hx) fun x hx => ?_⟩
    rcases List.mem_append.1 hx with hx | hx
    · exact hq x (List.mem_of_mem_drop hx)
    · exact hq x (List.mem_of_mem_take hx)
theorem rest_rest {h l : List Int} (n m : Nat) (hl : 0 < l.length) : restZ (restZ h l n).1 (restZ h l n).2 m = restZ h l (n + m) := by
  obtain ⟨a, b, _⟩ := rest_spec (h := h) n hl
  obtain ⟨a2, b2, _⟩ := rest_spec (h := (restZ h l n).1) (l := (restZ h l n).2) m a.pos
  obtain ⟨a3, b3, _⟩ := rest_spec (h := h) (n + m) hl
  have := nf_unique a2 a3 (by funext i; rw [b2, b, b3, Nat.add_assoc])
  exact Prod.ext this.1 this.2
theorem norm_rest {h l : List Int} (n : Nat) (hl : 0 < l.length) : normZ (restZ h l n).1 (restZ h l n).2 = restZ h l n := by
  obtain ⟨a, b, _⟩ := rest_spec (h := h) n hl
  obtain ⟨a2, b2, _⟩ := norm_spec (h := (restZ h l n).1) a.pos
  have := nf_unique a2 a b2
  exact Prod.ext this.1 this.2
end Go.Proofs.Ytjabncedfjjbjaa.WrM
