/- Closings: plain, ahead of det.Mixed. -/
import Derived.Test.YtampgoendkjkhaaHu
namespace Go.Proofs.Ytampgoendkjkhaa.H
open Go.RowKit Go.Shelf Go.Proofs.YtampgoendkjkhaaW.PrintWords Go.Proofs.YtampgoendkjkhaaW.PrintMore Go.Proofs.Ytampgoendkjkhaa.DtM
set_option linter.unusedVariables false
set_option linter.unusedSimpArgs false
theorem dCheck_ok {L st : Nat} {nx : List (List Int)} {ms : List Int} (h : DetOk L nx ms) (hs : st < nx.length) (hn : nx.length ≤ 3000) (hm : ∀ m ∈ ms, m = 0 ∨ m = 1) : dCheck L st nx ms = 0 := by
  have h1 := h.L1
  have h4 := h.L4
  have hp := h.pos
  have hno : ∀ n p : Int, 0 ≤ p → p < n → noB n p = false := fun n p h0 h1 => by
    unfold noB
    simp only [Bool.or_eq_false_iff, decide_eq_false_iff_not]
    omega
  have hS : dShape L nx = false := by
    unfold dShape
    rw [List.any_eq_false]
    intro r hr
    have := h.row r hr
    simp only [bne_iff_ne, ne_eq, Classical.not_not]
    omega
  have hO : dOut nx = false := by
    unfold dOut
    rw [List.any_eq_false]
    intro r hr
    rw [Bool.not_eq_true, List.any_eq_false]
    intro x hx
    rw [hno _ _ (h.tos r hr x hx).1 (h.tos r hr x hx).2]
    simp
  have hB : ms.any dbit = false := by
    rw [List.any_eq_false]
    intro m hm'
    rcases hm m hm' with rfl | rfl <;> simp [dbit]
  unfold dCheck
  rw [if_neg (by omega), if_neg (by omega), if_neg (fun q => q.elim (fun q => q h.len) (fun q => by rw [hS] at q; cases q)), if_neg (by rw [hO, hno _ _ (by omega) (by omega)]; simp), if_neg (by rw [hB]; simp)]
theorem lstM_bit {L : Nat} {nx : List (List Int)} {ms : List Int} (hm : ∀ m ∈ ms, m = 0 ∨ m = 1) (st : Nat) : ∀ m ∈ lstM L nx ms st, m = 0 ∨ m = 1 := by
  intro m h
  unfold lstM at h
  obtain ⟨c, _, rfl⟩ := List.mem_map.1 h
  exact mkF_bit hm _
theorem hgM_bit (L : Nat) (nx : List (List Int)) (ms : List Int) (mr : Nat → Nat → Nat) (first : Nat) : ∀ m ∈ hgMx L nx ms mr first, m = 0 ∨ m = 1 := by
  intro m h
  unfold hgMx at h
  obtain ⟨c, _, rfl⟩ := List.mem_map.1 h
  unfold hgMk
  split
  · exact .inl rfl
  · exact .inr rfl
/-- sets of states that hold where the automaton stands -/
structure HgUp (nx : List (List Int)) (L : Nat) (mr : Nat → Nat → Nat) (first st : Nat) : Prop where
  lt : ∀ S X, S < 2 ^ nx.length → X < 2 ^ nx.length → mr S X < 2 ^ nx.length
  fl : first < 2 ^ nx.length
  has : first.testBit st = true
  sup : ∀ S X p, S < 2 ^ nx.length → X < 2 ^ nx.length → X.testBit p = true → (mr S X).testBit p = true
section
variable {L st : Nat} {nx : List (List Int)} {ms : List Int}
theorem reachG_sup (h : SmOk L st nx ms) : ∀ g S, S < 2 ^ nx.length → ∀ p, S.testBit p = true → (reachG nx L g S).testBit p = true
  | 0, S, _, p, hp => by unfold reachG; exact hp
  | g + 1, S, hS, p, hp => by
    unfold reachG
    split
    · exact hp
    · exact reachG_sup h g _ (stepQ_lt h hS _ (Nat.le_refl _)) p (stepQ_sup nx L S nx.length p hp)
theorem up_has (h : SmOk L st nx ms) : HgUp nx L upMr (2 ^ st) st where
  lt := up_lt
  fl := Nat.pow_lt_pow_right (by omega) h.st
  has := by rw [Nat.testBit_two_pow]; simp
  sup := fun S X p _ _ hX => by unfold upMr; rw [Nat.testBit_or, hX, Bool.or_true]
theorem dn_has (h : SmOk L st nx ms) : HgUp nx L (dnMr nx L) (reachN nx L (2 ^ st)) st where
  lt := fun S X _ hX => reach_lt h hX
  fl := reach_lt h (Nat.pow_lt_pow_right (by omega) h.st)
  has := reachG_sup h _ _ (Nat.pow_lt_pow_right (by omega) h.st) _ (by rw [Nat.testBit_two_pow]; simp)
  sup := fun S X p _ hX2 hX => reachG_sup h _ _ hX2 _ hX
theorem nextK_has (a S : Nat) : ∀ n p, p < n → S.testBit p = true → (nextK nx a S n).testBit (nxF nx p a) = true
  | 0, p, hp, _ => by omega
  | n + 1, p, hp, hS => by
    unfold nextK
    rw [Nat.testBit_or]
    by_cases e : p = n
    · subst e
      rw [if_pos hS, Nat.testBit_two_pow]
      simp
    · rw [nextK_has a S n p (by omega) hS]
      rfl
theorem hg_run (h : SmOk L st nx ms) {mr : Nat → Nat → Nat} {first : Nat} (g : HgUp nx L mr first st) : ∀ (w : List Nat) (S q : Nat), S < 2 ^ nx.length → q < nx.length → S.testBit q = true → (∀ a ∈ w, a < L) →
    ∃ S' : Nat, w.foldl (hgF nx mr) (S : Int) = (S' : Int) ∧ S' < 2 ^ nx.length ∧ S'.testBit (runS (nxF nx) q w) = true
  | [], S, q, hS, _, hq, _ => ⟨S, rfl, hS, hq⟩
  | a :: w, S, q, hS, hql, hq, hw => by
    have ha := hw a (by simp)
    have e : hgF nx mr (S : Int) a = ((mr S (nextK nx a S nx.length) : Nat) : Int) := by unfold hgF; rw [Int.toNat_natCast]
    have hX := nextK_lt h ha (S := S) nx.length (Nat.le_refl _)
    rw [List.foldl_cons, e]
    exact hg_run h g w _ (nxF nx q a) (g.lt _ _ hS hX) (nx_lt h.det hql ha) (g.sup _ _ _ hS hX (nextK_has a S _ q hql hq)) (fun b hb => hw b (by simp [hb]))
/-- what the automaton accepts the closing accepts -/
theorem hg_within (h : SmOk L st nx ms) {mr : Nat → Nat → Nat} {first : Nat} (g : HgUp nx L mr first st) (w : List Nat) (hw : ∀ a ∈ w, a < L) (ha : mkF ms (runS (nxF nx) st w) = 1) :
    mkF (lstM L (hgRx L nx mr first) (hgMx L nx ms mr first) 0) (runS (nxF (lstR L (hgRx L nx mr first) (hgMx L nx ms mr first) 0)) 0 w) = 1 := by
  rw [lst_cross (hg_det h g.lt g.fl) (hg_det h g.lt g.fl).pos w hw]
  unfold hgMx hgRx
  rw [(hgL_expl h g.lt g.fl).mark _ w hw]
  obtain ⟨S', e, hS', hb⟩ := hg_run h g w first st g.fl h.st g.has hw
  rw [e]
  unfold hgMk
  rw [Int.toNat_natCast, if_neg]
  intro h0
  have hr := run_lt (n := nx.length) (L := L) (nx := nxF nx) (fun q a hq ha => nx_lt h.det hq ha) w st h.st hw
  have := congrArg (fun z => z.testBit (runS (nxF nx) st w)) h0
  simp only [Nat.testBit_and, Nat.zero_testBit] at this
  rw [hb, bN_test] at this
  unfold mkB at this
  have e2 : ms.getD (runS (nxF nx) st w) 0 = 1 := ha
  rw [e2] at this
  simp [h.len, hr] at this
theorem hg_small (h : SmOk L st nx ms) {mr : Nat → Nat → Nat} {first : Nat} (g : HgUp nx L mr first st) : (lstR L (hgRx L nx mr first) (hgMx L nx ms mr first) 0).length ≤ 32 := by
  have h1 := lst_le (hg_det h g.lt g.fl) (hg_det h g.lt g.fl).pos
  have h2 := (hgL_expl h g.lt g.fl).len
  have h3 := hgU_le h.n5
  have h4 : (hgRx L nx mr first).length = (hgL L nx mr first).length := rows_len _ _ _
  omega
end
/-- the automaton of one state that accepts nothing -/
theorem none_ok (L : Nat) (h1 : 1 ≤ L) (h4 : L ≤ 4) : DetOk L [List.replicate L 0] [0] :=
  ⟨by simp, by simp, h1, h4, by simp, by simp, rfl, by simp⟩
theorem none_mark (q : Nat) : mkF [0] q = 0 := by
  unfold mkF
  match q with
  | 0 => rfl
  | q + 1 => rfl
/-- the least automaton of no word -/
theorem none_least {L : Nat} {nx : List (List Int)} {ms : List Int} (h : DetOk L nx ms) (hw : ∀ w : List Nat, (∀ a ∈ w, a < L) → mkF ms (runS (nxF nx) 0 w) = 0) : (lstR L nx ms 0).length = 1 ∧ lstM L nx ms 0 = [0] := by
  have hn := none_ok L h.L1 h.L4
  have hs := lst_same h hn (st := 0) (st' := 0) h.pos (by simp) (fun w hw' => by rw [hw w hw', none_mark])
  rw [hs.1, hs.2]
  have h1 := lst_le hn (st := 0) (by simp)
  have h2 := (lst_ok hn (st := 0) (by simp)).pos
  have h3 := lst_len L [List.replicate L 0] [0] 0
  have h4 := lst_cross hn (st := 0) (by simp) [] (by simp)
  simp only [List.length_singleton] at h1
  have e1 : (lstR L [List.replicate L 0] [0] 0).length = 1 := by omega
  refine ⟨e1, ?_⟩
  rw [e1] at h3
  obtain ⟨x, hx⟩ := List.length_eq_one_iff.1 h3
  rw [hx] at h4 ⊢
  have : mkF [x] 0 = 0 := h4.trans (none_mark _)
  have hx0 : x = 0 := this
  rw [hx0]
end Go.Proofs.Ytampgoendkjkhaa.H
