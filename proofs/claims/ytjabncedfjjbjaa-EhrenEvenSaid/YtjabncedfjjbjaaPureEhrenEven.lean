import Derived.Test.YtjabncedfjjbjaaPEhrenEvenx1
import Derived.Test.YtjabncedfjjbjaaEw
namespace Go.Proofs.Ytjabncedfjjbjaa.H.EhrenEvenPure
open Go.RowKit Go.Proofs.Ytjabncedfjjbjaa.H Go.Proofs.Ytjabncedfjjbjaa.PEhrenEven Go.Proofs.YtjabncedfjjbjaaW.PrintWords Go.Proofs.YtjabncedfjjbjaaW.PrintLast
set_option linter.unusedVariables false
set_option linter.unusedSimpArgs false

theorem zip_all (f g : Int → Int) : ∀ (a b : List Int), a.length = b.length → ((a.zip b).all (fun x => decide (f x.1 = g x.2)) = true ↔ a.map f = b.map g)
  | [], [], _ => by simp
  | x :: a, y :: b, h => by
    have ih := zip_all f g a b (by simpa using h)
    simp only [List.zip_cons_cons, List.all_cons, Bool.and_eq_true, decide_eq_true_eq, List.map_cons, List.cons.injEq]
    rw [ih]
  | [], _ :: _, h => by simp at h
  | _ :: _, [], h => by simp at h
theorem fits_iff {u v a b : List Int} {p q : Int} (h : a.length = b.length) : fitsF u v a b p q = true ↔ u.getD p.toNat 0 = v.getD q.toNat 0 ∧ a.map (fun x => cmpI x p) = b.map (fun x => cmpI x q) := by
  unfold fitsF
  rw [Bool.and_eq_true, decide_eq_true_eq, zip_all (fun x => cmpI x p) (fun x => cmpI x q) a b h]
theorem wins_iff {k : Nat} {u v a b : List Int} : winsF (k + 1) u v a b = true ↔
    (∀ p, p < u.length → ∃ q, q < v.length ∧ fitsF u v a b p q = true ∧ winsF k u v (a ++ [(p : Int)]) (b ++ [(q : Int)]) = true) ∧
    (∀ p, p < v.length → ∃ q, q < u.length ∧ fitsF v u b a p q = true ∧ winsF k v u (b ++ [(p : Int)]) (a ++ [(q : Int)]) = true) := by
  simp only [winsF, Bool.and_eq_true, List.all_eq_true, List.any_eq_true, List.mem_range]
theorem wins_comm (k : Nat) (u v a b : List Int) : winsF k u v a b = winsF k v u b a := by
  cases k with
  | zero => rfl
  | succ k => rw [winsF_succ, winsF_succ, Bool.and_comm]
theorem wins_refl : ∀ (k : Nat) (u a : List Int), winsF k u u a a = true
  | 0, _, _ => rfl
  | k + 1, u, a => by
    rw [wins_iff]
    have h : ∀ p, p < u.length → ∃ q, q < u.length ∧ fitsF u u a a p q = true ∧ winsF k u u (a ++ [(p : Int)]) (a ++ [(q : Int)]) = true := fun p hp => ⟨p, hp, (fits_iff rfl).2 ⟨rfl, rfl⟩, wins_refl k u _⟩
    exact ⟨h, h⟩
theorem wins_trans : ∀ (k : Nat) (u v w a b c : List Int), a.length = b.length → b.length = c.length → winsF k u v a b = true → winsF k v w b c = true → winsF k u w a c = true
  | 0, _, _, _, _, _, _, _, _, _, _ => rfl
  | k + 1, u, v, w, a, b, c, h1, h2, hx, hy => by
    rw [wins_iff] at hx hy ⊢
    refine ⟨fun p hp => ?_, fun p hp => ?_⟩
    · obtain ⟨q, hq, f1, g1⟩ := hx.1 p hp
      obtain ⟨r, hr, f2, g2⟩ := hy.1 q hq
      rw [fits_iff h1] at f1
      rw [fits_iff h2] at f2
      exact ⟨r, hr, (fits_iff (h1.trans h2)).2 ⟨f1.1.trans f2.1, f1.2.trans f2.2⟩, wins_trans k u v w _ _ _ (by simp [h1]) (by simp [h2]) g1 g2⟩
    · obtain ⟨q, hq, f1, g1⟩ := hy.2 p hp
      obtain ⟨r, hr, f2, g2⟩ := hx.2 q hq
      rw [fits_iff h2.symm] at f1
      rw [fits_iff h1.symm] at f2
      exact ⟨r, hr, (fits_iff (h1.trans h2).symm).2 ⟨f1.1.trans f2.1, f1.2.trans f2.2⟩, wins_trans k w v u _ _ _ (by simp [h2]) (by simp [h1]) g1 g2⟩
theorem wins_less : ∀ (k : Nat) (u v a b : List Int), winsF (k + 1) u v a b = true → winsF k u v a b = true
  | 0, _, _, _, _, _ => rfl
  | k + 1, u, v, a, b, h => by
    rw [wins_iff] at h ⊢
    refine ⟨fun p hp => ?_, fun p hp => ?_⟩
    · obtain ⟨q, hq, f, g⟩ := h.1 p hp
      exact ⟨q, hq, f, wins_less k _ _ _ _ g⟩
    · obtain ⟨q, hq, f, g⟩ := h.2 p hp
      exact ⟨q, hq, f, wins_less k _ _ _ _ g⟩
theorem checked_iff (u v : List Int) (k : Int) : checkedF u v k = 0 ↔ mayF 2 u = 0 ∧ mayF 2 v = 0 ∧ (u.length : Int) ≤ 8 ∧ (v.length : Int) ≤ 8 ∧ 0 ≤ k ∧ k ≤ 3 := by
  unfold checkedF
  split
  · split
    · split
      · simp; omega
      · split
        · simp; omega
        · split
          · simp; omega
          · split
            · simp; omega
            · simp; omega
    · simp_all
  · simp_all
theorem ans_ok {u v : List Int} {k : Int} (h : checkedF u v k = 0) : winsAns u v k = (winsF k.toNat u v [] [], 0) := if_pos h
theorem ans_no {u v : List Int} {k : Int} (h : ¬ checkedF u v k = 0) : winsAns u v k = (false, checkedF u v k) := if_neg h
theorem j3 (k : Nat) (x0 x1 x2 : List Int) (x3 : Int) (x11 : Bool) (hc : checkedF x0 x1 x3 = 0) (h11 : winsF x3.toNat x0 x1 [] [] = x11) : evermorekeep_EhrenEven.j3 (k + 1) x0 x1 x2 x3 x11 = some true := by
  simp only [evermorekeep_EhrenEven.j3, ehren_Wins.f, Option.bind_some]
  by_cases h : checkedF x1 x2 x3 = 0
  · rw [ans_ok h]
    have h02 : checkedF x0 x2 x3 = 0 := by rw [checked_iff] at hc h ⊢; exact ⟨hc.1, h.2.1, hc.2.2.1, h.2.2.2.1, h.2.2.2.2⟩
    rw [ans_ok h02]
    simp only [if_true]
    cases hb : x11 with
    | false => simp
    | true =>
      rw [hb] at h11
      cases hw : winsF x3.toNat x1 x2 [] [] with
      | false => simp
      | true => simp [wins_trans _ _ _ _ _ _ _ rfl rfl h11 hw]
  · rw [ans_no h]
    simp only [h, if_false]
theorem law (l0 l1 l2 : List Int) (a3 : Int) : ∃ k, evermorekeep_EhrenEven.f k l0 l1 l2 a3 = some true := by
  refine ⟨10, ?_⟩
  have ht : winsAns [0] [1] 1 = (false, 0) := by decide +kernel
  unfold evermorekeep_EhrenEven.f
  simp only [ehren_Wins.f, Option.bind_some, ht, if_true]
  simp only [evermorekeep_EhrenEven.j0, ehren_Wins.f, Option.bind_some, Bool.false_eq_true, if_false]
  by_cases hc : checkedF l0 l1 a3 = 0
  · have hc' : checkedF l1 l0 a3 = 0 := by rw [checked_iff] at hc ⊢; exact ⟨hc.2.1, hc.1, hc.2.2.2.1, hc.2.2.1, hc.2.2.2.2⟩
    have hu : checkedF l0 l0 a3 = 0 := by rw [checked_iff] at hc ⊢; exact ⟨hc.1, hc.1, hc.2.2.1, hc.2.2.1, hc.2.2.2.2⟩
    rw [ans_ok hc, ans_ok hc']
    simp only [if_true]
    rw [wins_comm _ l1 l0]
    simp only [bne_self_eq_false]
    simp only [evermorekeep_EhrenEven.j1, ehren_Wins.f, Option.bind_some, Bool.false_eq_true, if_false, if_true]
    rw [ans_ok hu, wins_refl]
    simp only [if_true, Bool.not_true]
    simp only [evermorekeep_EhrenEven.j2, ehren_Wins.f, Option.bind_some, Bool.false_eq_true, if_false]
    have hb := (checked_iff _ _ _).1 hc
    by_cases h3 : a3 > 0
    · rw [if_pos h3, w64 (by omega) (by omega)]
      have hm : checkedF l0 l1 (a3 - 1) = 0 := by rw [checked_iff]; refine ⟨hb.1, hb.2.1, hb.2.2.1, hb.2.2.2.1, by omega, by omega⟩
      rw [ans_ok hm]
      simp only [if_true]
      have hk : a3.toNat = (a3 - 1).toNat + 1 := by omega
      rw [j3 _ _ _ _ _ _ hc rfl]
      cases hx : winsF a3.toNat l0 l1 [] [] with
      | false => simp
      | true =>
        rw [hk] at hx
        rw [wins_less _ _ _ _ _ hx]
        simp
    · rw [if_neg h3, j3 _ _ _ _ _ _ hc rfl]
  · rw [ans_no hc]
    simp only [hc, if_false]
    simp only [evermorekeep_EhrenEven.j1, Bool.false_eq_true, if_false, hc]
end Go.Proofs.Ytjabncedfjjbjaa.H.EhrenEvenPure
