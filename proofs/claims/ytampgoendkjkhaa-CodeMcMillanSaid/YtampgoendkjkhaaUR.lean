/- Several texts of this claim in one. -/
import Derived.Test.YtampgoendkjkhaaWWords
import Derived.Test.YtampgoendkjkhaaLyM
import Derived.Test.YtampgoendkjkhaaSk
import Derived.Test.YtampgoendkjkhaaCut
import Derived.Test.YtampgoendkjkhaaPBasex
namespace Go.Proofs.Ytampgoendkjkhaa.H
set_option linter.unusedVariables false
set_option linter.unusedSimpArgs false
abbrev Rul : Type := List Int × List Int
/-- one rule put in once -/
def Stp (l : List Rul) (x y : List Int) : Prop := ∃ (p q : List Int) (s : Rul), s ∈ l ∧ x = p ++ s.1 ++ q ∧ y = p ++ s.2 ++ q
inductive Sts (l : List Rul) : List Int → List Int → Prop
  | nil (x : List Int) : Sts l x x
  | cons {x y z : List Int} (h : Stp l x y) (t : Sts l y z) : Sts l x z
def Nfm (l : List Rul) (x : List Int) : Prop := ∀ y, ¬ Stp l x y
def Nrm (l : List Rul) (x z : List Int) : Prop := Sts l x z ∧ Nfm l z
theorem Sts.trans {l : List Rul} {x y z : List Int} (h : Sts l x y) (t : Sts l y z) : Sts l x z := by
  induction h with
  | nil => exact t
  | cons h _ ih => exact .cons h (ih t)
theorem Stp.ctx {l : List Rul} {x y : List Int} (h : Stp l x y) (p q : List Int) : Stp l (p ++ x ++ q) (p ++ y ++ q) := by
  obtain ⟨p', q', s, hs, rfl, rfl⟩ := h
  exact ⟨p ++ p', q' ++ q, s, hs, by simp [List.append_assoc], by simp [List.append_assoc]⟩
theorem Sts.ctx {l : List Rul} {x y : List Int} (h : Sts l x y) (p q : List Int) : Sts l (p ++ x ++ q) (p ++ y ++ q) := by
  induction h with
  | nil => exact .nil _
  | cons h _ ih => exact .cons (h.ctx p q) ih
theorem Sts.app {l : List Rul} {x y u v : List Int} (h : Sts l x y) (t : Sts l u v) : Sts l (x ++ u) (y ++ v) := by
  have h1 := h.ctx [] u
  have h2 := t.ctx y []
  simp only [List.nil_append, List.append_nil] at h1 h2
  exact h1.trans h2
def ev (a : Nat) (x : List Int) : Nat := x.foldl (fun a d => a * 4 + d.toNat) a
theorem ev_app (a : Nat) (x y : List Int) : ev a (x ++ y) = ev (ev a x) y := List.foldl_append
theorem ev_cons (a : Nat) (d : Int) (y : List Int) : ev a (d :: y) = ev (a * 4 + d.toNat) y := rfl
def Let4 (x : List Int) : Prop := ∀ d ∈ x, 0 ≤ d ∧ d < 4
theorem ev_lt (q : List Int) : ∀ {a b : Nat}, a < b → ev a q < ev b q := by
  induction q with
  | nil => intro a b h; exact h
  | cons d q ih => intro a b h; rw [ev_cons, ev_cons]; exact ih (by omega)
theorem ev_up (x : List Int) (hx : Let4 x) : ∀ a : Nat, ev a x < (a + 1) * 4 ^ x.length := by
  induction x with
  | nil => intro a; simp [ev]
  | cons d x ih =>
    intro a
    have h1 := ih (fun e he => hx e (List.mem_cons_of_mem _ he)) (a * 4 + d.toNat)
    have h2 := hx d (List.mem_cons_self ..)
    rw [ev_cons]
    refine Nat.lt_of_lt_of_le h1 ?_
    rw [List.length_cons, Nat.pow_succ, Nat.mul_comm (4 ^ x.length) 4, ← Nat.mul_assoc]
    exact Nat.mul_le_mul_right _ (by omega)
theorem ev_ge (x : List Int) : ∀ a : Nat, a * 4 ^ x.length ≤ ev a x := by
  induction x with
  | nil => intro a; simp [ev]
  | cons d x ih =>
    intro a
    rw [ev_cons]
    refine Nat.le_trans ?_ (ih _)
    rw [List.length_cons, Nat.pow_succ, Nat.mul_comm (4 ^ x.length) 4, ← Nat.mul_assoc]
    exact Nat.mul_le_mul_right _ (by omega)
theorem ev_short {x y : List Int} (hx : Let4 x) (h : x.length < y.length) {a : Nat} (ha : 1 ≤ a) : ev a x < ev a y := by
  refine Nat.lt_of_lt_of_le (ev_up x hx a) (Nat.le_trans ?_ (ev_ge y a))
  have h1 : 4 ^ (x.length + 1) ≤ 4 ^ y.length := Nat.pow_le_pow_right (by omega) h
  rw [Nat.pow_succ] at h1
  refine Nat.le_trans ?_ (Nat.mul_le_mul_left a h1)
  rw [Nat.mul_comm (4 ^ x.length) 4, ← Nat.mul_assoc]
  exact Nat.mul_le_mul_right _ (by omega)
inductive LexL : List Int → List Int → Prop
  | head {d e : Int} {x y : List Int} (h : d < e) : LexL (d :: x) (e :: y)
  | tail {d : Int} {x y : List Int} (h : LexL x y) : LexL (d :: x) (d :: y)
theorem ev_lex {x y : List Int} (h : LexL x y) : Let4 x → Let4 y → x.length = y.length → ∀ a : Nat, ev a x < ev a y := by
  induction h with
  | @head d e x y h =>
    intro hx hy hl a
    have h1 := ev_up x (fun e he => hx e (List.mem_cons_of_mem _ he)) (a * 4 + d.toNat)
    have h2 := ev_ge y (a * 4 + e.toNat)
    have h3 := hx d (List.mem_cons_self ..)
    rw [ev_cons, ev_cons]
    refine Nat.lt_of_lt_of_le h1 (Nat.le_trans ?_ h2)
    simp only [List.length_cons] at hl
    rw [show x.length = y.length by omega]
    exact Nat.mul_le_mul_right _ (by omega)
  | @tail d x y h ih =>
    intro hx hy hl a
    rw [ev_cons, ev_cons]
    exact ih (fun e he => hx e (List.mem_cons_of_mem _ he)) (fun e he => hy e (List.mem_cons_of_mem _ he)) (by simpa using hl) _
structure SwOk (n : Nat) (l : List Rul) : Prop where
  n1 : 1 ≤ n
  n4 : n ≤ 4
  len : l.length ≤ 8
  f1 : ∀ s ∈ l, 1 ≤ s.1.length
  f5 : ∀ s ∈ l, s.1.length ≤ 5
  t5 : ∀ s ∈ l, s.2.length ≤ 5
  fl : ∀ s ∈ l, ∀ x ∈ s.1, 0 ≤ x ∧ x < (n : Int)
  tl : ∀ s ∈ l, ∀ x ∈ s.2, 0 ≤ x ∧ x < (n : Int)
  ord : ∀ s ∈ l, s.2.length < s.1.length ∨ s.2.length = s.1.length ∧ LexL s.2 s.1
def LetN (n : Nat) (x : List Int) : Prop := ∀ d ∈ x, 0 ≤ d ∧ d < (n : Int)
theorem LetN.app {n : Nat} {x y : List Int} (h : LetN n x) (t : LetN n y) : LetN n (x ++ y) := fun d hd => (List.mem_append.1 hd).elim (h d) (t d)
section
variable {n : Nat} {l : List Rul} (H : SwOk n l)
include H
theorem Stp.lets {x y : List Int} (h : Stp l x y) (hx : LetN n x) : LetN n y := by
  obtain ⟨p, q, s, hs, rfl, rfl⟩ := h
  intro d hd
  simp only [List.mem_append] at hd
  rcases hd with (hd | hd) | hd
  · exact hx d (by simp [hd])
  · exact H.tl s hs d hd
  · exact hx d (by simp [hd])
theorem Stp.len {x y : List Int} (h : Stp l x y) : y.length ≤ x.length := by
  obtain ⟨p, q, s, hs, rfl, rfl⟩ := h
  have := H.ord s hs
  simp only [List.length_append]
  omega
theorem Sts.lets {x y : List Int} (h : Sts l x y) (hx : LetN n x) : LetN n y := by
  induction h with
  | nil => exact hx
  | cons h _ ih => exact ih (h.lets H hx)
theorem Sts.len {x y : List Int} (h : Sts l x y) : y.length ≤ x.length := by
  induction h with
  | nil => exact Nat.le_refl _
  | cons h _ ih => exact Nat.le_trans ih (h.len H)
theorem Stp.less {x y : List Int} (h : Stp l x y) : ev 1 y < ev 1 x := by
  obtain ⟨p, q, s, hs, rfl, rfl⟩ := h
  have hn := H.n4
  rw [ev_app, ev_app, ev_app, ev_app]
  refine ev_lt q ?_
  have h4 : ∀ t : List Int, LetN n t → Let4 t := fun t ht d hd => ⟨(ht d hd).1, by have := (ht d hd).2; omega⟩
  have h1 : 1 ≤ ev 1 p := Nat.le_trans (by rw [Nat.one_mul]; exact Nat.one_le_pow _ _ (by omega)) (ev_ge p 1)
  rcases H.ord s hs with h | ⟨h, hl⟩
  · exact ev_short (h4 _ (H.tl s hs)) h h1
  · exact ev_lex hl (h4 _ (H.tl s hs)) (h4 _ (H.fl s hs)) h _
theorem nrm_exists : ∀ (m : Nat) (x : List Int), ev 1 x < m → ∃ z, Nrm l x z
  | 0, x, h => absurd h (Nat.not_lt_zero _)
  | m + 1, x, h => by
    by_cases hx : Nfm l x
    · exact ⟨x, .nil x, hx⟩
    · obtain ⟨y, hy⟩ : ∃ y, Stp l x y := Classical.byContradiction fun g => hx fun y hy => g ⟨y, hy⟩
      have := hy.less H
      obtain ⟨z, hz, hn⟩ := nrm_exists m y (by omega)
      exact ⟨z, .cons hy hz, hn⟩
end
def Joins (l : List Rul) (x y : List Int) : Prop := ∃ z, Sts l x z ∧ Sts l y z
theorem Joins.ctx {l : List Rul} {x y : List Int} (h : Joins l x y) (p q : List Int) : Joins l (p ++ x ++ q) (p ++ y ++ q) := by
  obtain ⟨z, h1, h2⟩ := h
  exact ⟨_, h1.ctx p q, h2.ctx p q⟩
theorem Joins.symm {l : List Rul} {x y : List Int} (h : Joins l x y) : Joins l y x := by
  obtain ⟨z, h1, h2⟩ := h
  exact ⟨z, h2, h1⟩
def swpd (w : List Int) (s : Rul) (i : Nat) : List Int := w.take i ++ s.2 ++ w.drop (i + s.1.length)
/-- both ways that begin in one word come together -/
def CritAt (l : List Rul) (a b : Rul) (k : Nat) : Prop :=
  (a.1.drop k).take (min b.1.length (a.1.length - k)) = b.1.take (min b.1.length (a.1.length - k)) →
    Joins l (swpd (a.1 ++ b.1.drop (min b.1.length (a.1.length - k))) a 0) (swpd (a.1 ++ b.1.drop (min b.1.length (a.1.length - k))) b k)
def Crits (l : List Rul) : Prop := ∀ a ∈ l, ∀ b ∈ l, ∀ k, k < a.1.length → CritAt l a b k
theorem local_one {l : List Rul} (hc : Crits l) {p d q1 q2 : List Int} {a b : Rul} (ha : a ∈ l) (hb : b ∈ l) (h : a.1 ++ q1 = d ++ b.1 ++ q2) :
    Joins l (p ++ a.2 ++ q1) (p ++ d ++ b.2 ++ q2) := by
  rw [List.append_assoc d] at h
  rcases List.append_eq_append_iff.1 h with ⟨e, h1, h2⟩ | ⟨e, h1, h2⟩
  · subst h1 h2
    refine ⟨p ++ a.2 ++ e ++ b.2 ++ q2, .cons ⟨p ++ a.2 ++ e, q2, b, hb, by simp [List.append_assoc], by simp [List.append_assoc]⟩ (.nil _), .cons ⟨p, e ++ b.2 ++ q2, a, ha, by simp [List.append_assoc], by simp [List.append_assoc]⟩ (.nil _)⟩
  · by_cases he : e = []
    · subst he
      rw [List.append_nil] at h1
      rw [List.nil_append] at h2
      subst h1 h2
      refine ⟨p ++ a.2 ++ b.2 ++ q2, .cons ⟨p ++ a.2, q2, b, hb, by simp [List.append_assoc], by simp [List.append_assoc]⟩ (.nil _), .cons ⟨p, b.2 ++ q2, a, ha, by simp [List.append_assoc], by simp [List.append_assoc]⟩ (.nil _)⟩
    · have hel : 0 < e.length := List.length_pos_iff.2 he
      have hk : d.length < a.1.length := by rw [h1, List.length_append]; omega
      have hC := hc a ha b hb d.length hk
      unfold CritAt at hC
      have hsub : a.1.length - d.length = e.length := by rw [h1, List.length_append]; omega
      have hdr : a.1.drop d.length = e := by rw [h1, List.drop_left]
      rw [hsub, hdr] at hC
      rcases List.append_eq_append_iff.1 h2 with ⟨f, g1, g2⟩ | ⟨f, g1, g2⟩
      · have hb1 : b.1.length ≤ e.length := by rw [g1, List.length_append]; omega
        rw [Nat.min_eq_left hb1, List.take_length, List.drop_length, List.append_nil] at hC
        have hC2 := (hC (by rw [g1, List.take_left])).ctx p q1
        have s1 : swpd a.1 a 0 = a.2 := by simp [swpd]
        have s2 : swpd a.1 b d.length = d ++ b.2 ++ f := by
          unfold swpd
          rw [show a.1 = d ++ (b.1 ++ f) by rw [h1, g1], List.take_left, ← List.drop_drop, List.drop_left, List.drop_left]
        rw [s1, s2] at hC2
        rw [g2]
        simpa [List.append_assoc] using hC2
      · have hb1 : e.length ≤ b.1.length := by rw [g1, List.length_append]; omega
        rw [Nat.min_eq_right hb1] at hC
        have hbd : b.1.drop e.length = f := by rw [g1, List.drop_left]
        rw [hbd] at hC
        have hC2 := (hC (by rw [g1, List.take_left, List.take_length])).ctx p q2
        have s1 : swpd (a.1 ++ f) a 0 = a.2 ++ f := by simp [swpd]
        have s2 : swpd (a.1 ++ f) b d.length = d ++ b.2 := by
          unfold swpd
          rw [h1, List.append_assoc d e f, List.take_left, List.drop_eq_nil_of_le (by rw [g1]; simp only [List.length_append]; omega), List.append_nil]
        rw [s1, s2] at hC2
        rw [g2]
        simpa [List.append_assoc] using hC2
theorem local_conf {l : List Rul} (hc : Crits l) {x y z : List Int} (h : Stp l x y) (t : Stp l x z) : Joins l y z := by
  obtain ⟨p1, q1, a, ha, rfl, rfl⟩ := h
  obtain ⟨p2, q2, b, hb, h, rfl⟩ := t
  rw [List.append_assoc, List.append_assoc] at h
  rcases List.append_eq_append_iff.1 h with ⟨d, h1, h2⟩ | ⟨d, h1, h2⟩
  · subst h1
    rw [← List.append_assoc d] at h2
    exact local_one hc ha hb h2
  · subst h1
    rw [← List.append_assoc d] at h2
    exact (local_one hc hb ha h2).symm
theorem conf {n : Nat} {l : List Rul} (H : SwOk n l) (hc : Crits l) : ∀ (m : Nat) (x z1 z2 : List Int), ev 1 x < m → Nrm l x z1 → Nrm l x z2 → z1 = z2
  | 0, x, _, _, h, _, _ => absurd h (Nat.not_lt_zero _)
  | m + 1, x, z1, z2, hm, ⟨h1, n1⟩, ⟨h2, n2⟩ => by
    cases h1 with
    | nil =>
      cases h2 with
      | nil => rfl
      | cons g2 t2 => exact absurd g2 (n1 _)
    | @cons _ y1 _ g1 t1 =>
      cases h2 with
      | nil => exact absurd g1 (n2 _)
      | @cons _ y2 _ g2 t2 =>
        obtain ⟨v, v1, v2⟩ := local_conf hc g1 g2
        obtain ⟨z, hz, nz⟩ := nrm_exists H _ v (Nat.lt_succ_self _)
        have l1 := g1.less H
        have l2 := g2.less H
        have e1 := conf H hc m y1 z1 z (by omega) ⟨t1, n1⟩ ⟨v1.trans hz, nz⟩
        have e2 := conf H hc m y2 z2 z (by omega) ⟨t2, n2⟩ ⟨v2.trans hz, nz⟩
        rw [e1, e2]
theorem nrm_same {l : List Rul} {x y z : List Int} (h : Nrm l x y) (t : Nrm l y z) : z = y := by
  cases t.1 with
  | nil => rfl
  | cons g _ => exact absurd g (h.2 _)
theorem parts_first {n : Nat} {l : List Rul} (H : SwOk n l) (hc : Crits l) {u v x a b y : List Int} (hx : Nrm l (u ++ v) x) (ha : Nrm l u a) (hb : Nrm l v b) (hy : Nrm l (a ++ b) y) : y = x :=
  conf H hc _ (u ++ v) y x (Nat.lt_succ_self _) ⟨(ha.1.app hb.1).trans hy.1, hy.2⟩ hx
end Go.Proofs.Ytampgoendkjkhaa.H

namespace Go.Proofs.Ytampgoendkjkhaa.H
open Go.RowKit Go.Shelf Go.Proofs.YtampgoendkjkhaaW.PrintWords Go.Proofs.Ytampgoendkjkhaa.LyM
set_option linter.unusedVariables false
set_option linter.unusedSimpArgs false
theorem rw_cmp (x y : Int) : PBase.cmp_Compare_int.f x y = some (if x < y then -1 else if x > y then 1 else 0) := by
  unfold PBase.cmp_Compare_int.f PBase.cmp_isNaN_int.f
  by_cases h1 : x < y
  · simp [h1]
  · by_cases h2 : x > y <;> simp [h1, h2]
theorem cmpB_l0 (x y : List Int) (hn : x.length ≤ 9223372036854775807) : ∀ d i k, x.length - i = d → i ≤ x.length → i ≤ y.length → d < k → PBase.slices_Compare_int_int.l0 k x y x (x.length : Int) (i : Int) = some (cmpL (x.drop i) (y.drop i)) := by
  intro d
  induction d with
  | zero =>
    intro i k hd hi hj hk
    obtain ⟨k, rfl⟩ : ∃ m, k = m + 1 := ⟨k - 1, by omega⟩
    rw [List.drop_of_length_le (show x.length ≤ i by omega)]
    simp only [PBase.slices_Compare_int_int.l0]
    rw [if_neg (by omega)]
    by_cases h : i = y.length
    · rw [List.drop_of_length_le (show y.length ≤ i by omega), if_neg (by omega)]; rfl
    · have : i < y.length := by omega
      rw [List.drop_eq_getElem_cons this, if_pos (by omega)]; rfl
  | succ d ih =>
    intro i k hd hi hj hk
    obtain ⟨k, rfl⟩ : ∃ m, k = m + 1 := ⟨k - 1, by omega⟩
    have hlt : i < x.length := by omega
    simp only [PBase.slices_Compare_int_int.l0]
    rw [List.drop_eq_getElem_cons hlt, if_pos (by omega), if_pos (by omega), if_pos (by omega)]
    by_cases h : i = y.length
    · rw [if_pos (by omega), List.drop_of_length_le (show y.length ≤ i by omega)]; rfl
    · have hly : i < y.length := by omega
      rw [if_neg (by omega), if_pos (by omega), rd_at hlt, rd_at hly, rw_cmp, List.drop_eq_getElem_cons hly]
      simp only [Option.bind_some, cmpL]
      by_cases h1 : x[i] < y[i]
      · simp [h1]
      · by_cases h2 : x[i] > y[i]
        · simp [h1, h2]
        · simp only [h1, h2, if_false, if_true]
          rw [w64 (by omega) (by omega), show ((i : Int) + 1) = ((i + 1 : Nat) : Int) from by omega, ih (i + 1) k (by omega) (by omega) (by omega) (by omega)]
theorem cmpB_calls (A0 : Option Addr) (c0 : Nat) (l0 : List Int) (A1 : Option Addr) (c1 : Nat) (l1 : List Int) (w : World) (hr0 : Kd.C (Kd.int .i64) w A0 l0.length l0) (hc0 : l0.length ≤ c0) (hr1 : Kd.C (Kd.int .i64) w A1 l1.length l1) (hc1 : l1.length ≤ c1) (r : Int) (h : cmpL l0 l1 = r) :
    Calls Try.prog 185 #[.slice A0 l0.length c0, .slice A1 l1.length c1] w fun e w' => e = .returned (.int .i64 r) ∧ Drawn0 w w' := by
  refine PBase.slices_Compare_int_int.calls (l0.length + 1) A0 c0 l0 A1 c1 l1 r w hr0 hc0 hr1 hc1 ?_
  unfold PBase.slices_Compare_int_int.f
  have := cmpB_l0 l0 l1 hr0.2.1 l0.length 0 (l0.length + 1) (by omega) (by omega) (by omega) (by omega)
  rw [← h]
  exact this
theorem lex_of_cmp : ∀ {x y : List Int}, x.length = y.length → cmpL x y < 0 → LexL x y
  | [], [], _, h => by simp [cmpL] at h
  | [], _ :: _, h, _ => by simp at h
  | _ :: _, [], h, _ => by simp at h
  | a :: x, b :: y, hl, h => by
    unfold cmpL at h
    by_cases h1 : a < b
    · exact .head h1
    · by_cases h2 : a > b
      · simp [h1, h2] at h
      · obtain rfl : a = b := by omega
        simp only [h1, if_false] at h
        exact .tail (lex_of_cmp (by simpa using hl) (by simpa using h))
/-- does a word stand ahead of another one? -/
def befB (a b : List Int) : Bool := if a.length = b.length then decide (cmpL a b < 0) else decide (a.length < b.length)
theorem bef_ord {a b : List Int} (h : befB a b = true) : a.length < b.length ∨ a.length = b.length ∧ LexL a b := by
  unfold befB at h
  split at h
  · rename_i e
    exact .inr ⟨e, lex_of_cmp e (of_decide_eq_true h)⟩
  · exact .inl (of_decide_eq_true h)
theorem key_l0 (x : List Int) (hn : x.length < 1000000) : ∀ d i k acc, x.length - i = d → i ≤ x.length → d < k → acc.length ≤ 2 * i → PBase.det_Key.l0 k acc x (x.length : Int) (i : Int) = some (strOfNums (acc ++ bytesB (x.drop i))) := by
  intro d
  induction d with
  | zero =>
    intro i k acc hd hi hk ha
    obtain ⟨k, rfl⟩ : ∃ m, k = m + 1 := ⟨k - 1, by omega⟩
    rw [List.drop_of_length_le (show x.length ≤ i by omega)]
    simp only [PBase.det_Key.l0]
    rw [if_neg (by omega)]
    simp [bytesB]
  | succ d ih =>
    intro i k acc hd hi hk ha
    obtain ⟨k, rfl⟩ : ∃ m, k = m + 1 := ⟨k - 1, by omega⟩
    have hlt : i < x.length := by omega
    simp only [PBase.det_Key.l0]
    rw [List.drop_eq_getElem_cons hlt, if_pos (by omega), if_pos (by omega), if_pos (by omega), rd_at hlt]
    simp only [Option.bind_some]
    rw [if_pos (by simp; omega), w64 (by omega) (by omega), show ((i : Int) + 1) = ((i + 1 : Nat) : Int) from by omega, ih (i + 1) k _ (by omega) (by omega) (by omega) (by simp; omega), bytesB_cons]
    simp
theorem key_calls (A : Option Addr) (c : Nat) (x : List Int) (w : World) (hr : Kd.C (Kd.int .i64) w A x.length x) (hc : x.length ≤ c) (hx : x.length < 1000000) :
    Calls Try.prog 57 #[.slice A x.length c] w fun e w' => e = .returned (.string (bstr x)) ∧ Below w.heap.size w w' := by
  refine PBase.det_Key.calls (x.length + 1) A c x (bstr x) w hr hc ?_
  unfold PBase.det_Key.f
  exact key_l0 x hx x.length 0 (x.length + 1) [] (by omega) (by omega) (by omega) (by simp)
end Go.Proofs.Ytampgoendkjkhaa.H
