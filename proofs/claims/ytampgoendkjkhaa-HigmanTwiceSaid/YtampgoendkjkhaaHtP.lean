/- Closings upwards and downwards: plain. -/
import Derived.Test.YtampgoendkjkhaaTwB
namespace Go.Proofs.Ytampgoendkjkhaa.H
open Go.RowKit Go.Shelf Go.Proofs.YtampgoendkjkhaaW.PrintWords Go.Proofs.YtampgoendkjkhaaW.PrintMore Go.Proofs.Ytampgoendkjkhaa.DtM
set_option linter.unusedVariables false
set_option linter.unusedSimpArgs false
section
variable {L st : Nat} {nx : List (List Int)} {ms : List Int}
theorem nextK_iff (a S : Nat) : ∀ n q, (nextK nx a S n).testBit q = true ↔ ∃ p, p < n ∧ S.testBit p = true ∧ nxF nx p a = q
  | 0, q => by simp [nextK]
  | n + 1, q => by
    unfold nextK
    rw [Nat.testBit_or, Bool.or_eq_true, nextK_iff a S n q]
    constructor
    · rintro (⟨p, hp, h1, h2⟩ | h)
      · exact ⟨p, by omega, h1, h2⟩
      · split at h
        · rename_i hb
          rw [Nat.testBit_two_pow] at h
          exact ⟨n, by omega, hb, by simpa using h⟩
        · simp at h
    · rintro ⟨p, hp, h1, h2⟩
      by_cases e : p = n
      · subst e
        right
        rw [if_pos h1, Nat.testBit_two_pow]
        simpa using h2
      · exact .inl ⟨p, by omega, h1, h2⟩
theorem stepR_iff (S p : Nat) : ∀ a x q, (stepR nx S p a x).testBit q = true ↔ x.testBit q = true ∨ (S.testBit p = true ∧ ∃ b, b < a ∧ nxF nx p b = q)
  | 0, x, q => by simp [stepR]
  | a + 1, x, q => by
    unfold stepR
    split
    · rename_i hb
      rw [Nat.testBit_or, Bool.or_eq_true, stepR_iff S p a x q, Nat.testBit_two_pow]
      constructor
      · rintro ((h | ⟨h1, b, h2, h3⟩) | h)
        · exact .inl h
        · exact .inr ⟨h1, b, by omega, h3⟩
        · exact .inr ⟨hb, a, by omega, by simpa using h⟩
      · rintro (h | ⟨h1, b, h2, h3⟩)
        · exact .inl (.inl h)
        · by_cases e : b = a
          · subst e; exact .inr (by simpa using h3)
          · exact .inl (.inr ⟨h1, b, by omega, h3⟩)
    · rename_i hb
      rw [stepR_iff S p a x q]
      constructor
      · rintro (h | ⟨h1, b, h2, h3⟩)
        · exact .inl h
        · exact absurd h1 hb
      · rintro (h | ⟨h1, b, h2, h3⟩)
        · exact .inl h
        · exact absurd h1 hb
theorem stepQ_iff (S : Nat) : ∀ n q, (stepQ nx L S n).testBit q = true ↔ S.testBit q = true ∨ ∃ p, p < n ∧ S.testBit p = true ∧ ∃ b, b < L ∧ nxF nx p b = q
  | 0, q => by simp [stepQ]
  | n + 1, q => by
    unfold stepQ
    rw [stepR_iff, stepQ_iff S n q]
    constructor
    · rintro ((h | ⟨p, hp, h1, h2⟩) | ⟨h1, h2⟩)
      · exact .inl h
      · exact .inr ⟨p, by omega, h1, h2⟩
      · exact .inr ⟨n, by omega, h1, h2⟩
    · rintro (h | ⟨p, hp, h1, h2⟩)
      · exact .inl (.inl h)
      · by_cases e : p = n
        · subst e; exact .inr ⟨h1, h2⟩
        · exact .inl (.inr ⟨p, by omega, h1, h2⟩)
theorem bit_lt {S q n : Nat} (hS : S < 2 ^ n) (h : S.testBit q = true) : q < n := by
  refine Classical.byContradiction fun hq => ?_
  rw [Nat.testBit_lt_two_pow (Nat.lt_of_lt_of_le hS (Nat.pow_le_pow_right (by omega) (by omega)))] at h
  cases h
/-- the states to which words lead from a set -/
def Come (nx : List (List Int)) (L S q : Nat) : Prop := ∃ p u, S.testBit p = true ∧ (∀ a ∈ u, a < L) ∧ runS (nxF nx) p u = q
theorem run_app (f : Nat → Nat → Nat) (q : Nat) (u v : List Nat) : runS f q (u ++ v) = runS f (runS f q u) v := by unfold runS; rw [List.foldl_append]
theorem reachG_only : ∀ g S q, (reachG nx L g S).testBit q = true → Come nx L S q
  | 0, S, q, h => by unfold reachG at h; exact ⟨q, [], h, by simp, rfl⟩
  | g + 1, S, q, h => by
    unfold reachG at h
    split at h
    · exact ⟨q, [], h, by simp, rfl⟩
    · obtain ⟨p, u, hp, hu, hr⟩ := reachG_only g _ q h
      rcases (stepQ_iff S nx.length p).1 hp with h1 | ⟨p', _, h1, b, hb, h2⟩
      · exact ⟨p, u, h1, hu, hr⟩
      · exact ⟨p', b :: u, h1, fun a ha => (List.mem_cons.1 ha).elim (fun e => e ▸ hb) (hu a), by rw [← hr, ← h2]; rfl⟩
theorem reach_step (h : SmOk L st nx ms) {S : Nat} (hS : S < 2 ^ nx.length) {p b : Nat} (hp : (reachN nx L S).testBit p = true) (hb : b < L) : (reachN nx L S).testBit (nxF nx p b) = true := by
  have hf := reachG_fix h _ S hS (Nat.sub_le (2 ^ nx.length) S)
  have : (stepA nx L (reachN nx L S)).testBit (nxF nx p b) = true := (stepQ_iff _ _ _).2 (.inr ⟨p, bit_lt (reach_lt h hS) hp, hp, b, hb, rfl⟩)
  have e : stepA nx L (reachN nx L S) = reachN nx L S := hf.2
  rwa [e] at this
theorem reach_run (h : SmOk L st nx ms) {S : Nat} (hS : S < 2 ^ nx.length) : ∀ (u : List Nat) (p : Nat), (∀ a ∈ u, a < L) → (reachN nx L S).testBit p = true → (reachN nx L S).testBit (runS (nxF nx) p u) = true
  | [], p, _, hp => hp
  | a :: u, p, hu, hp => reach_run h hS u _ (fun b hb => hu b (by simp [hb])) (reach_step h hS hp (hu a (by simp)))
theorem reach_iff (h : SmOk L st nx ms) {S : Nat} (hS : S < 2 ^ nx.length) (q : Nat) : (reachN nx L S).testBit q = true ↔ Come nx L S q := by
  constructor
  · exact reachG_only _ _ _
  · rintro ⟨p, u, hp, hu, rfl⟩
    exact reach_run h hS u p hu (reachG_sup h _ _ hS _ hp)
/-! ### sets along a word -/
theorem sub_let {u w : List Nat} (h : u.Sublist w) (hw : ∀ a ∈ w, a < L) : ∀ a ∈ u, a < L := fun a ha => hw a (h.subset ha)
theorem up_fold (h : SmOk L st nx ms) : ∀ (w : List Nat) (S : Nat), S < 2 ^ nx.length → (∀ a ∈ w, a < L) → ∃ S' : Nat, w.foldl (hgF nx upMr) (S : Int) = (S' : Int) ∧ S' < 2 ^ nx.length ∧
    ∀ q, S'.testBit q = true ↔ ∃ p u, S.testBit p = true ∧ u.Sublist w ∧ runS (nxF nx) p u = q
  | [], S, hS, _ => ⟨S, rfl, hS, fun q => ⟨fun hq => ⟨q, [], hq, List.Sublist.refl _, rfl⟩, fun ⟨p, u, hp, hu, hr⟩ => by rw [List.sublist_nil.1 hu] at hr; rw [← hr]; exact hp⟩⟩
  | a :: w, S, hS, hw => by
    have ha := hw a (by simp)
    have e : hgF nx upMr (S : Int) a = ((S ||| nextK nx a S nx.length : Nat) : Int) := by unfold hgF; rw [Int.toNat_natCast]; rfl
    have hX := nextK_lt h ha (S := S) nx.length (Nat.le_refl _)
    rw [List.foldl_cons, e]
    obtain ⟨S', e1, h1, h2⟩ := up_fold h w (S ||| nextK nx a S nx.length) (up_lt _ _ hS hX) (fun b hb => hw b (by simp [hb]))
    refine ⟨S', e1, h1, fun q => (h2 q).trans ?_⟩
    constructor
    · rintro ⟨p, u, hp, hu, hr⟩
      rw [Nat.testBit_or, Bool.or_eq_true, nextK_iff] at hp
      rcases hp with hp | ⟨p', _, hp, e⟩
      · exact ⟨p, u, hp, hu.trans (List.sublist_cons_self _ _), hr⟩
      · exact ⟨p', a :: u, hp, hu.cons_cons _, by rw [← hr, ← e]; rfl⟩
    · rintro ⟨p, u, hp, hu, hr⟩
      rcases List.sublist_cons_iff.1 hu with hu | ⟨v, rfl, hv⟩
      · exact ⟨p, u, by rw [Nat.testBit_or, hp, Bool.true_or], hu, hr⟩
      · exact ⟨nxF nx p a, v, by rw [Nat.testBit_or, Bool.or_eq_true, nextK_iff]; exact .inr ⟨p, bit_lt hS hp, hp, rfl⟩, hv, hr⟩
theorem dn_fold (h : SmOk L st nx ms) : ∀ (w : List Nat) (S : Nat), S < 2 ^ nx.length → (∀ p b, S.testBit p = true → b < L → S.testBit (nxF nx p b) = true) → (∀ a ∈ w, a < L) → ∃ S' : Nat, w.foldl (hgF nx (dnMr nx L)) (S : Int) = (S' : Int) ∧ S' < 2 ^ nx.length ∧
    ∀ q, S'.testBit q = true ↔ ∃ p u, S.testBit p = true ∧ w.Sublist u ∧ (∀ a ∈ u, a < L) ∧ runS (nxF nx) p u = q
  | [], S, hS, hc, _ => ⟨S, rfl, hS, fun q => by
      have hrun : ∀ (u : List Nat) (p : Nat), S.testBit p = true → (∀ a ∈ u, a < L) → S.testBit (runS (nxF nx) p u) = true := by
        intro u
        induction u with
        | nil => intro p hp _; exact hp
        | cons a u ih => intro p hp hu; exact ih _ (hc p a hp (hu a (by simp))) (fun b hb => hu b (by simp [hb]))
      exact ⟨fun hq => ⟨q, [], hq, List.Sublist.refl _, by simp, rfl⟩, fun ⟨p, u, hp, _, hu, hr⟩ => by rw [← hr]; exact hrun u p hp hu⟩⟩
  | a :: w, S, hS, hc, hw => by
    have ha := hw a (by simp)
    have e : hgF nx (dnMr nx L) (S : Int) a = ((reachN nx L (nextK nx a S nx.length) : Nat) : Int) := by unfold hgF; rw [Int.toNat_natCast]; rfl
    have hX := nextK_lt h ha (S := S) nx.length (Nat.le_refl _)
    rw [List.foldl_cons, e]
    obtain ⟨S', e1, h1, h2⟩ := dn_fold h w (reachN nx L (nextK nx a S nx.length)) (reach_lt h hX) (fun p b hp hb => reach_step h hX hp hb) (fun b hb => hw b (by simp [hb]))
    refine ⟨S', e1, h1, fun q => (h2 q).trans ?_⟩
    have hrun : ∀ (u : List Nat) (p : Nat), S.testBit p = true → (∀ a ∈ u, a < L) → S.testBit (runS (nxF nx) p u) = true := by
      intro u
      induction u with
      | nil => intro p hp _; exact hp
      | cons a u ih => intro p hp hu; exact ih _ (hc p a hp (hu a (by simp))) (fun b hb => hu b (by simp [hb]))
    constructor
    · rintro ⟨p, u, hp, hu, hul, hr⟩
      obtain ⟨p1, z, hp1, hz, hr1⟩ := (reach_iff h hX p).1 hp
      obtain ⟨p2, _, hp2, e2⟩ := (nextK_iff _ _ _ _).1 hp1
      refine ⟨p2, a :: (z ++ u), hp2, List.Sublist.cons_cons _ (hu.trans (List.sublist_append_right _ _)), ?_, ?_⟩
      · intro b hb
        rcases List.mem_cons.1 hb with rfl | hb
        · exact ha
        · rcases List.mem_append.1 hb with hb | hb
          · exact hz b hb
          · exact hul b hb
      · show runS (nxF nx) (nxF nx p2 a) (z ++ u) = q
        rw [run_app, e2, hr1, hr]
    · rintro ⟨p, u, hp, hu, hul, hr⟩
      obtain ⟨r1, r2, rfl, h1a, h2a⟩ := List.cons_sublist_iff.1 hu
      obtain ⟨x, y, rfl⟩ := List.append_of_mem h1a
      have hxl : ∀ b ∈ x, b < L := fun b hb => hul b (by simp [hb])
      refine ⟨nxF nx (runS (nxF nx) p x) a, y ++ r2, ?_, h2a.trans (List.sublist_append_right _ _), fun b hb => hul b (by rcases List.mem_append.1 hb with hb | hb <;> simp [hb]), ?_⟩
      · refine (reach_iff h hX _).2 ⟨_, [], (nextK_iff _ _ _ _).2 ⟨_, bit_lt hS (hrun x p hp hxl), hrun x p hp hxl, rfl⟩, by simp, rfl⟩
      · rw [← hr]
        have : x ++ a :: y ++ r2 = x ++ (a :: (y ++ r2)) := by simp
        rw [this]
        exact (run_app (nxF nx) p x (a :: (y ++ r2))).symm
/-! ### what the closings accept -/
def Acc (nx : List (List Int)) (ms : List Int) (st : Nat) (w : List Nat) : Prop := mkF ms (runS (nxF nx) st w) = 1
theorem hgMk_iff (h : SmOk L st nx ms) {S : Nat} : hgMk (bN (mkB ms) ms.length) (S : Int) = 1 ↔ ∃ q, S.testBit q = true ∧ q < nx.length ∧ mkF ms q = 1 := by
  have hz : S &&& bN (mkB ms) ms.length = 0 ↔ ∀ q, ¬ (S.testBit q = true ∧ q < nx.length ∧ mkF ms q = 1) := by
    constructor
    · intro h0 q ⟨h1, h2, h3⟩
      have := congrArg (fun z => z.testBit q) h0
      simp only [Nat.testBit_and, Nat.zero_testBit] at this
      rw [h1, bN_test] at this
      unfold mkB at this
      have e2 : ms.getD q 0 = 1 := h3
      rw [e2] at this
      simp [h.len, h2] at this
    · intro hq
      apply Nat.eq_of_testBit_eq
      intro q
      rw [Nat.testBit_and, Nat.zero_testBit, bN_test]
      have := hq q
      cases e1 : S.testBit q with
      | false => rfl
      | true =>
        by_cases e2 : q < nx.length
        · have e3 : mkB ms q = false := by
            have : ¬ mkF ms q = 1 := fun e3 => this ⟨e1, e2, e3⟩
            unfold mkB
            have e4 : ms.getD q 0 = mkF ms q := rfl
            rw [e4]
            simpa using this
          rw [e3]; simp
        · rw [show decide (q < ms.length) = false from decide_eq_false (by rw [h.len]; exact e2)]; rfl
  unfold hgMk
  rw [Int.toNat_natCast]
  split
  · rename_i h0
    constructor
    · intro e; cases e
    · rintro ⟨q, hq⟩; exact absurd hq (hz.1 h0 q)
  · rename_i h0
    refine ⟨fun _ => ?_, fun _ => rfl⟩
    refine Classical.byContradiction fun hn => h0 (hz.2 fun q hq => hn ⟨q, hq⟩)
theorem run_lt' (h : SmOk L st nx ms) {p : Nat} (hp : p < nx.length) {w : List Nat} (hw : ∀ a ∈ w, a < L) : runS (nxF nx) p w < nx.length :=
  run_lt (n := nx.length) (L := L) (nx := nxF nx) (fun q a hq ha => nx_lt h.det hq ha) w p hp hw
theorem up_acc (h : SmOk L st nx ms) (w : List Nat) (hw : ∀ a ∈ w, a < L) : Acc (hgRx L nx upMr (2 ^ st)) (hgMx L nx ms upMr (2 ^ st)) 0 w ↔ ∃ u, u.Sublist w ∧ Acc nx ms st u := by
  have g := up_has h
  unfold Acc hgMx hgRx
  rw [(hgL_expl h g.lt g.fl).mark _ w hw]
  obtain ⟨S', e, hS', hb⟩ := up_fold h w (2 ^ st) g.fl hw
  rw [e, hgMk_iff h]
  constructor
  · rintro ⟨q, hq, hql, hm⟩
    obtain ⟨p, u, hp, hu, hr⟩ := (hb q).1 hq
    rw [Nat.testBit_two_pow] at hp
    have hp' : st = p := by simpa using hp
    subst hp'
    exact ⟨u, hu, by rw [hr]; exact hm⟩
  · rintro ⟨u, hu, hm⟩
    exact ⟨_, (hb _).2 ⟨st, u, by rw [Nat.testBit_two_pow]; simp, hu, rfl⟩, run_lt' h h.st (sub_let hu hw), hm⟩
theorem dn_acc (h : SmOk L st nx ms) (w : List Nat) (hw : ∀ a ∈ w, a < L) : Acc (hgRx L nx (dnMr nx L) (reachN nx L (2 ^ st))) (hgMx L nx ms (dnMr nx L) (reachN nx L (2 ^ st))) 0 w ↔ ∃ u, w.Sublist u ∧ (∀ a ∈ u, a < L) ∧ Acc nx ms st u := by
  have g := dn_has h
  have h2 : 2 ^ st < 2 ^ nx.length := Nat.pow_lt_pow_right (by omega) h.st
  unfold Acc hgMx hgRx
  rw [(hgL_expl h g.lt g.fl).mark _ w hw]
  obtain ⟨S', e, hS', hb⟩ := dn_fold h w (reachN nx L (2 ^ st)) g.fl (fun p b hp hb => reach_step h h2 hp hb) hw
  rw [e, hgMk_iff h]
  constructor
  · rintro ⟨q, hq, hql, hm⟩
    obtain ⟨p, u, hp, hu, hul, hr⟩ := (hb q).1 hq
    obtain ⟨p', z, hp', hz, hr'⟩ := (reach_iff h h2 p).1 hp
    rw [Nat.testBit_two_pow] at hp'
    have hp2 : st = p' := by simpa using hp'
    subst hp2
    refine ⟨z ++ u, hu.trans (List.sublist_append_right _ _), fun b hb => ?_, by rw [run_app, hr', hr]; exact hm⟩
    rcases List.mem_append.1 hb with hb | hb
    · exact hz b hb
    · exact hul b hb
  · rintro ⟨u, hu, hul, hm⟩
    exact ⟨_, (hb _).2 ⟨st, u, g.has, hu, hul, rfl⟩, run_lt' h h.st hul, hm⟩
end
/-- two automata whose marks are bits tell the same just if they accept the same -/
theorem cross_of {L : Nat} {nx nx' : List (List Int)} {ms ms' : List Int} {st st' : Nat} (hb : ∀ m ∈ ms, m = 0 ∨ m = 1) (hb' : ∀ m ∈ ms', m = 0 ∨ m = 1) (h : ∀ w : List Nat, (∀ a ∈ w, a < L) → (Acc nx ms st w ↔ Acc nx' ms' st' w)) : Cross L (nxF nx) (nxF nx') (mkF ms) (mkF ms') st st' := by
  intro w hw
  have := h w hw
  unfold Acc at this
  rcases mkF_bit hb (runS (nxF nx) st w) with e | e <;> rcases mkF_bit hb' (runS (nxF nx') st' w) with e' | e' <;> rw [e, e'] at this ⊢ <;> simp at this
section
variable {L st : Nat} {nx : List (List Int)} {ms : List Int}
/-- the least automaton of an automaton accepts the same -/
theorem lst_acc {L : Nat} {nx : List (List Int)} {ms : List Int} (h : DetOk L nx ms) {st : Nat} (hs : st < nx.length) {w : List Nat} (hw : ∀ a ∈ w, a < L) : Acc (lstR L nx ms st) (lstM L nx ms st) 0 w ↔ Acc nx ms st w := by
  unfold Acc
  rw [lst_cross h hs w hw]
theorem sm_of {L : Nat} {nx : List (List Int)} {ms : List Int} (h : DetOk L nx ms) (h5 : nx.length ≤ 5) (hb : ∀ m ∈ ms, m = 0 ∨ m = 1) : SmOk L 0 nx ms := ⟨h.pos, h5, h.L1, h.L4, h.len, h.row, h.pos, h.tos, hb⟩
theorem smF_ok {L st : Nat} {nx : List (List Int)} {ms : List Int} (h : SmOk L st nx ms) : smF L st nx ms = 0 := by
  unfold smF
  rw [dCheck_ok h.det h.st (by have := h.n5; omega) h.mks, if_neg (by simp), if_neg (by have := h.n5; omega)]
/-- what the closing gives, as a least automaton -/
def UpR (L st : Nat) (nx : List (List Int)) (ms : List Int) : List (List Int) := lstR L (hgRx L nx upMr (2 ^ st)) (hgMx L nx ms upMr (2 ^ st)) 0
def UpM (L st : Nat) (nx : List (List Int)) (ms : List Int) : List Int := lstM L (hgRx L nx upMr (2 ^ st)) (hgMx L nx ms upMr (2 ^ st)) 0
def DnR (L st : Nat) (nx : List (List Int)) (ms : List Int) : List (List Int) := lstR L (hgRx L nx (dnMr nx L) (reachN nx L (2 ^ st))) (hgMx L nx ms (dnMr nx L) (reachN nx L (2 ^ st))) 0
def DnM (L st : Nat) (nx : List (List Int)) (ms : List Int) : List Int := lstM L (hgRx L nx (dnMr nx L) (reachN nx L (2 ^ st))) (hgMx L nx ms (dnMr nx L) (reachN nx L (2 ^ st))) 0
theorem upF_ok (h : SmOk L st nx ms) : upF L st nx ms = ((L : Int), UpR L st nx ms, UpM L st nx ms, 0) := by
  unfold upF; rw [if_pos (smF_ok h), Int.toNat_natCast, Int.toNat_natCast]; rfl
theorem dnF_ok (h : SmOk L st nx ms) : dnF L st nx ms = ((L : Int), DnR L st nx ms, DnM L st nx ms, 0) := by
  unfold dnF; rw [if_pos (smF_ok h), Int.toNat_natCast, Int.toNat_natCast]; rfl
theorem upD (h : SmOk L st nx ms) : DetOk L (hgRx L nx upMr (2 ^ st)) (hgMx L nx ms upMr (2 ^ st)) := hg_det h (up_has h).lt (up_has h).fl
theorem dnD (h : SmOk L st nx ms) : DetOk L (hgRx L nx (dnMr nx L) (reachN nx L (2 ^ st))) (hgMx L nx ms (dnMr nx L) (reachN nx L (2 ^ st))) := hg_det h (dn_has h).lt (dn_has h).fl
theorem upOk (h : SmOk L st nx ms) : DetOk L (UpR L st nx ms) (UpM L st nx ms) := lst_ok (upD h) (upD h).pos
theorem dnOk (h : SmOk L st nx ms) : DetOk L (DnR L st nx ms) (DnM L st nx ms) := lst_ok (dnD h) (dnD h).pos
theorem upB (L st : Nat) (nx : List (List Int)) (ms : List Int) : ∀ m ∈ UpM L st nx ms, m = 0 ∨ m = 1 := lstM_bit (hgM_bit _ _ _ _ _) _
theorem dnB (L st : Nat) (nx : List (List Int)) (ms : List Int) : ∀ m ∈ DnM L st nx ms, m = 0 ∨ m = 1 := lstM_bit (hgM_bit _ _ _ _ _) _
theorem up_acc' (h : SmOk L st nx ms) {w : List Nat} (hw : ∀ a ∈ w, a < L) : Acc (UpR L st nx ms) (UpM L st nx ms) 0 w ↔ ∃ u, u.Sublist w ∧ Acc nx ms st u := (lst_acc (upD h) (upD h).pos hw).trans (up_acc h w hw)
theorem dn_acc' (h : SmOk L st nx ms) {w : List Nat} (hw : ∀ a ∈ w, a < L) : Acc (DnR L st nx ms) (DnM L st nx ms) 0 w ↔ ∃ u, w.Sublist u ∧ (∀ a ∈ u, a < L) ∧ Acc nx ms st u := (lst_acc (dnD h) (dnD h).pos hw).trans (dn_acc h w hw)
/-- what is closed upwards stays so -/
theorem up_twice (h : SmOk L st nx ms) (h5 : (UpR L st nx ms).length ≤ 5) : UpR L 0 (UpR L st nx ms) (UpM L st nx ms) = UpR L st nx ms ∧ UpM L 0 (UpR L st nx ms) (UpM L st nx ms) = UpM L st nx ms := by
  have hs := sm_of (upOk h) h5 (upB L st nx ms)
  refine lst_same (upD hs) (upD h) (upD hs).pos (upD h).pos (cross_of (hgM_bit _ _ _ _ _) (hgM_bit _ _ _ _ _) fun w hw => ?_)
  rw [up_acc hs w hw, up_acc h w hw]
  constructor
  · rintro ⟨u, hu, ha⟩
    obtain ⟨v, hv, hb⟩ := (up_acc' h (sub_let hu hw)).1 ha
    exact ⟨v, hv.trans hu, hb⟩
  · rintro ⟨u, hu, ha⟩
    exact ⟨u, hu, (up_acc' h (sub_let hu hw)).2 ⟨u, List.Sublist.refl _, ha⟩⟩
/-- what is closed downwards stays so -/
theorem dn_twice (h : SmOk L st nx ms) (h5 : (DnR L st nx ms).length ≤ 5) : DnR L 0 (DnR L st nx ms) (DnM L st nx ms) = DnR L st nx ms ∧ DnM L 0 (DnR L st nx ms) (DnM L st nx ms) = DnM L st nx ms := by
  have hs := sm_of (dnOk h) h5 (dnB L st nx ms)
  refine lst_same (dnD hs) (dnD h) (dnD hs).pos (dnD h).pos (cross_of (hgM_bit _ _ _ _ _) (hgM_bit _ _ _ _ _) fun w hw => ?_)
  rw [dn_acc hs w hw, dn_acc h w hw]
  constructor
  · rintro ⟨u, hu, hul, ha⟩
    obtain ⟨v, hv, hvl, hb⟩ := (dn_acc' h hul).1 ha
    exact ⟨v, hu.trans hv, hvl, hb⟩
  · rintro ⟨u, hu, hul, ha⟩
    exact ⟨u, hu, hul, (dn_acc' h hul).2 ⟨u, List.Sublist.refl _, hul, ha⟩⟩
/-- what is not above -/
def notM (ms : List Int) : List Int := ms.map fun m => 1 - m
theorem notM_bit {ms : List Int} (h : ∀ m ∈ ms, m = 0 ∨ m = 1) : ∀ m ∈ notM ms, m = 0 ∨ m = 1 := by
  intro m hm
  unfold notM at hm
  obtain ⟨x, hx, rfl⟩ := List.mem_map.1 hm
  rcases h x hx with rfl | rfl <;> simp
theorem notM_ok {L : Nat} {nx : List (List Int)} {ms : List Int} (h : DetOk L nx ms) (hb : ∀ m ∈ ms, m = 0 ∨ m = 1) : DetOk L nx (notM ms) :=
  ⟨h.pos, h.big, h.L1, h.L4, h.row, h.tos, by unfold notM; rw [List.length_map]; exact h.len, fun m hm => by rcases notM_bit hb m hm with rfl | rfl <;> decide⟩
theorem notM_acc {L : Nat} {nx : List (List Int)} {ms : List Int} (h : DetOk L nx ms) (hb : ∀ m ∈ ms, m = 0 ∨ m = 1) {st : Nat} (hs : st < nx.length) {w : List Nat} (hw : ∀ a ∈ w, a < L) : Acc nx (notM ms) st w ↔ ¬ Acc nx ms st w := by
  have hr := run_lt (n := nx.length) (L := L) (nx := nxF nx) (fun q a hq ha => nx_lt h hq ha) w st hs hw
  have e : mkF (notM ms) (runS (nxF nx) st w) = 1 - mkF ms (runS (nxF nx) st w) := by
    unfold mkF notM
    rw [List.getD_eq_getElem?_getD, List.getD_eq_getElem?_getD, List.getElem?_map, List.getElem?_eq_getElem (by rw [h.len]; exact hr)]
    rfl
  unfold Acc
  rw [e]
  rcases mkF_bit hb (runS (nxF nx) st w) with e | e <;> rw [e] <;> simp
/-- what is not above is closed downwards -/
theorem not_up (h : SmOk L st nx ms) (h5 : (UpR L st nx ms).length ≤ 5) : DnR L 0 (UpR L st nx ms) (notM (UpM L st nx ms)) = lstR L (UpR L st nx ms) (notM (UpM L st nx ms)) 0 ∧ DnM L 0 (UpR L st nx ms) (notM (UpM L st nx ms)) = lstM L (UpR L st nx ms) (notM (UpM L st nx ms)) 0 := by
  have ho := upOk h
  have hb := upB L st nx ms
  have hno := notM_ok ho hb
  have hs := sm_of hno h5 (notM_bit hb)
  refine lst_same (dnD hs) hno (dnD hs).pos hno.pos (cross_of (hgM_bit _ _ _ _ _) (notM_bit hb) fun w hw => ?_)
  rw [dn_acc hs w hw]
  constructor
  · rintro ⟨u, hu, hul, ha⟩
    rw [notM_acc ho hb ho.pos hw]
    rw [notM_acc ho hb ho.pos hul] at ha
    intro hc
    obtain ⟨v, hv, hva⟩ := (up_acc' h hw).1 hc
    exact ha ((up_acc' h hul).2 ⟨v, hv.trans hu, hva⟩)
  · intro ha
    exact ⟨w, List.Sublist.refl _, hw, ha⟩
end
end Go.Proofs.Ytampgoendkjkhaa.H
