/- AlterTwice: the plain law. -/
import Derived.Test.YtjabncedfjjbjaaAlO
namespace Go.Proofs.Ytjabncedfjjbjaa.H
open Go.RowKit Go.Proofs.YtjabncedfjjbjaaW.PrintWords Go.Proofs.Ytjabncedfjjbjaa.DtM
set_option linter.unusedVariables false
def compl (n S : Nat) : Nat := bN (fun q => !S.testBit q) n
theorem ahead_test (nx : List (List (List (List Int)))) (a S q : Nat) : (aheadN nx a S).testBit q = (decide (q < nx.length) && aheadP nx a S q) := bN_test _ _ _
theorem oth_meets (l : List (List Int)) : ∀ k, ∀ s ∈ othSets l k, meets s l = true
  | 0, s, h => by simp [othSets] at h
  | k + 1, s, h => by
    unfold othSets othStep at h
    split at h
    · rename_i hc
      rcases List.mem_append.1 h with h | h
      · exact oth_meets l k s h
      · simp only [List.mem_singleton] at h
        rw [h]
        simp only [Bool.and_eq_true] at hc
        exact hc.1
    · exact oth_meets l k s h
theorem oth_mono (l : List (List Int)) (s : Nat) : ∀ d k, s ∈ othSets l k → s ∈ othSets l (k + d)
  | 0, k, h => h
  | d + 1, k, h => by
    have := oth_mono l s d k h
    show s ∈ othSets l ((k + d) + 1)
    unfold othSets othStep
    split
    · exact List.mem_append_left _ this
    · exact this
theorem oth_has (l : List (List Int)) {T N : Nat} (hT : T < N) (hm : meets T l = true) : ∃ s ∈ othSets l N, subB T s = true := by
  have h1 : ∃ s ∈ othSets l (T + 1), subB T s = true := by
    unfold othSets othStep
    by_cases ha : (othSets l T).any (subB T) = true
    · obtain ⟨s, hs, hb⟩ := List.any_eq_true.1 ha
      refine ⟨s, ?_, hb⟩
      split
      · exact List.mem_append_left _ hs
      · exact hs
    · rw [Bool.not_eq_true] at ha
      rw [hm, ha, if_pos (by rfl)]
      exact ⟨T, by simp, by simp [subB]⟩
  obtain ⟨s, hs, hb⟩ := h1
  obtain ⟨d, rfl⟩ : ∃ d, N = T + 1 + d := ⟨N - (T + 1), by omega⟩
  exact ⟨s, oth_mono l s d _ hs, hb⟩
theorem sub_test {T s : Nat} (h : subB T s = true) {q : Nat} (hq : s.testBit q = true) : T.testBit q = true := by
  have := congrArg (fun n => n.testBit q) (of_decide_eq_true h)
  simp only [Nat.testBit_and, hq, Bool.true_and] at this
  exact this
theorem meets_mono {s T : Nat} {l : List (List Int)} (h : ∀ q, s.testBit q = true → T.testBit q = true) (hm : meets s l = true) : meets T l = true := by
  unfold meets at *
  rw [Bool.not_eq_true', List.any_eq_false] at *
  intro c hc hmc
  refine hm c hc ?_
  unfold meetC at *
  rw [Bool.not_eq_true', List.any_eq_false] at *
  intro p hp hsp
  exact hmc p hp (h _ hsp)
theorem mem_setL {s n : Nat} {p : Int} : p ∈ setL s n ↔ ∃ q : Nat, p = (q : Int) ∧ q < n ∧ s.testBit q = true := by
  unfold setL
  rw [List.mem_map]
  constructor
  · rintro ⟨q, hq, rfl⟩
    rw [List.mem_filter, List.mem_range] at hq
    exact ⟨q, rfl, hq⟩
  · rintro ⟨q, rfl, hq⟩
    exact ⟨q, by rw [List.mem_filter, List.mem_range]; exact hq, rfl⟩
/-- the choices of the opposite: what they say of a set -/
theorem othL_any {n : Nat} {l : List (List Int)} {T : Nat} (hT : T < 2 ^ n) : (othL n l).any (aheadC T) = meets T l := by
  rw [Bool.eq_iff_iff, List.any_eq_true]
  constructor
  · rintro ⟨c, hc, hb⟩
    obtain ⟨s, hs, rfl⟩ := List.mem_map.1 hc
    refine meets_mono (fun q hq => ?_) (oth_meets l _ s hs)
    have hsn := (oth_lt l (2 ^ n)).2 s hs
    unfold aheadC at hb
    rw [Bool.not_eq_true', List.any_eq_false] at hb
    have hqn : q < n := Classical.byContradiction fun h => by
      have := Nat.testBit_lt_two_pow (x := s) (i := q) (Nat.lt_of_lt_of_le hsn (Nat.pow_le_pow_right (by omega) (by omega)))
      rw [this] at hq; cases hq
    have := hb (q : Int) (mem_setL.2 ⟨q, rfl, hqn, hq⟩)
    simpa using this
  · intro hm
    obtain ⟨s, hs, hb⟩ := oth_has l hT hm
    refine ⟨setL s n, List.mem_map.2 ⟨s, hs, rfl⟩, ?_⟩
    unfold aheadC
    rw [Bool.not_eq_true', List.any_eq_false]
    intro p hp
    obtain ⟨q, rfl, _, hq⟩ := mem_setL.1 hp
    have := sub_test hb hq
    simp [this]
theorem compl_lt (n S : Nat) : compl n S < 2 ^ n := bN_lt _ _
theorem compl_test (n S q : Nat) : (compl n S).testBit q = (decide (q < n) && !S.testBit q) := bN_test _ _ _
theorem meets_compl {n S : Nat} {l : List (List Int)} (h : ∀ c ∈ l, ∀ p ∈ c, 0 ≤ p ∧ p < (n : Int)) : meets (compl n S) l = !l.any (aheadC S) := by
  unfold meets
  congr 1
  rw [Bool.eq_iff_iff, List.any_eq_true, List.any_eq_true]
  have key : ∀ c ∈ l, meetC (compl n S) c = aheadC S c := by
    intro c hc
    unfold meetC aheadC
    congr 1
    rw [Bool.eq_iff_iff, List.any_eq_true, List.any_eq_true]
    constructor
    · rintro ⟨p, hp, hb⟩
      rw [compl_test] at hb
      simp only [Bool.and_eq_true] at hb
      exact ⟨p, hp, hb.2⟩
    · rintro ⟨p, hp, hb⟩
      have := h c hc p hp
      exact ⟨p, hp, by rw [compl_test, decide_eq_true (by omega), Bool.true_and]; exact hb⟩
  constructor
  · rintro ⟨c, hc, hb⟩; exact ⟨c, hc, by rw [← key c hc]; exact hb⟩
  · rintro ⟨c, hc, hb⟩; exact ⟨c, hc, by rw [key c hc]; exact hb⟩
theorem oth_len (nx : List (List (List (List Int)))) : (othNx nx).length = nx.length := by simp [othNx]
theorem oth_get {nx : List (List (List (List Int)))} {q a : Nat} (hq : q < nx.length) (ha : a < (nx.getD q []).length) : ((othNx nx).getD q []).getD a [] = othL nx.length ((nx.getD q []).getD a []) := by
  unfold othNx
  have e : (nx.map fun r => r.map (othL nx.length)).getD q [] = (nx.getD q []).map (othL nx.length) := by
    simp [List.getD_eq_getElem?_getD, hq]
  rw [e]
  simp only [List.getD_eq_getElem?_getD] at ha ⊢
  simp [ha]
theorem ahead_oth {L st : Nat} {nx : List (List (List (List Int)))} {ms : List Int} (h : AlOk L st nx ms) {a S : Nat} (ha : a < L) : aheadN (othNx nx) a (compl nx.length S) = compl nx.length (aheadN nx a S) := by
  apply Nat.eq_of_testBit_eq
  intro q
  rw [ahead_test, compl_test, ahead_test, oth_len]
  by_cases hq : q < nx.length
  · have hr : (nx.getD q []).length = L := by
      rw [List.getD_eq_getElem?_getD, List.getElem?_eq_getElem hq, Option.getD_some]
      exact h.row _ (List.getElem_mem hq)
    have hl : ∀ c ∈ (nx.getD q []).getD a [], ∀ p ∈ c, 0 ≤ p ∧ p < (nx.length : Int) := by
      have e1 : nx.getD q [] = nx[q] := by simp [List.getD_eq_getElem?_getD, hq]
      rw [e1] at hr ⊢
      have e2 : nx[q].getD a [] = nx[q][a]'(by omega) := by rw [List.getD_eq_getElem?_getD, List.getElem?_eq_getElem (by omega), Option.getD_some]
      rw [e2]
      exact h.tos _ (List.getElem_mem hq) _ (List.getElem_mem _)
    rw [decide_eq_true hq, Bool.true_and, Bool.true_and, Bool.true_and]
    unfold aheadP
    rw [oth_get hq (by omega), othL_any (compl_lt _ _), meets_compl hl]
  · simp [hq]
theorem ends_oth {L st : Nat} {nx : List (List (List (List Int)))} {ms : List Int} (h : AlOk L st nx ms) : endsN (othMs ms) = compl nx.length (endsN ms) := by
  apply Nat.eq_of_testBit_eq
  intro q
  have hl : (othMs ms).length = ms.length := by simp [othMs]
  rw [compl_test]
  unfold endsN
  rw [bN_test, bN_test, hl, ← h.len]
  by_cases hq : q < ms.length
  · rw [decide_eq_true hq, Bool.true_and, Bool.true_and, Bool.true_and]
    unfold mkB othMs
    rw [List.getD_eq_getElem?_getD, List.getElem?_map, List.getD_eq_getElem?_getD, List.getElem?_eq_getElem hq, Option.map_some, Option.getD_some, Option.getD_some]
    rcases h.mks _ (List.getElem_mem hq) with e | e <;> rw [e] <;> rfl
  · simp [hq]
/-! ### what is explored tells -/
theorem fold_test (nx : List (List (List (List Int)))) (h4 : nx.length ≤ 4) (st : Nat) : ∀ (w : List Nat) (g : Nat), (∀ X, g.testBit X = (decide (X < 16) && (g.testBit X))) → ∀ S, S < 16 → (w.foldl (alN nx) g).testBit S = g.testBit (w.foldr (aheadN nx) S)
  | [], g, hg, S, hS => rfl
  | a :: w, g, hg, S, hS => by
    rw [List.foldl_cons, List.foldr_cons]
    have h1 : ∀ X, (alN nx g a).testBit X = (decide (X < 16) && ((alN nx g a).testBit X)) := fun X => by
      unfold alN; rw [bN_test]; cases decide (X < 16) <;> simp
    rw [fold_test nx h4 st w (alN nx g a) h1 S hS]
    unfold alN
    rw [bN_test]
    have h2 : w.foldr (aheadN nx) S < 16 := by
      cases w with
      | nil => exact hS
      | cons b w => exact bN_small _ h4
    simp [h2]
theorem alF_fold (nx : List (List (List (List Int)))) : ∀ (w : List Nat) (g : Nat), w.foldl (alF nx) (g : Int) = ((w.foldl (alN nx) g : Nat) : Int)
  | [], g => rfl
  | a :: w, g => by
    rw [List.foldl_cons, List.foldl_cons]
    have : alF nx (g : Int) a = ((alN nx g a : Nat) : Int) := by unfold alF; rw [Int.toNat_natCast]
    rw [this]
    exact alF_fold nx w _
/-- the mark behind a word -/
theorem al_tells {L st : Nat} {nx : List (List (List (List Int)))} {ms : List Int} (h : AlOk L st nx ms) (w : List Nat) (hw : ∀ a ∈ w, a < L) : mkF (alMx L st nx ms) (runS (nxF (alRx L st nx)) 0 w) = if (w.foldr (aheadN nx) (endsN ms)).testBit st then 1 else 0 := by
  unfold alMx alRx
  rw [(alL_expl L st nx).mark (alMk (endsN ms)) w hw, alF_fold]
  unfold alMk
  rw [Int.toNat_natCast]
  have he := endsN_lt h
  rw [fold_test nx h.n4 st w (alFirst st) (fun X => by unfold alFirst; rw [bN_test]; cases decide (X < 16) <;> simp) _ he]
  have h2 : w.foldr (aheadN nx) (endsN ms) < 16 := by
    cases w with
    | nil => exact he
    | cons b w => exact bN_small _ h.n4
  unfold alFirst
  rw [bN_test]
  simp [h2]
theorem foldr_oth {L st : Nat} {nx : List (List (List (List Int)))} {ms : List Int} (h : AlOk L st nx ms) : ∀ (w : List Nat), (∀ a ∈ w, a < L) → w.foldr (aheadN (othNx nx)) (endsN (othMs ms)) = compl nx.length (w.foldr (aheadN nx) (endsN ms))
  | [], _ => ends_oth h
  | a :: w, hw => by
    rw [List.foldr_cons, List.foldr_cons, foldr_oth h w (fun b hb => hw b (by simp [hb])), ahead_oth h (hw a (by simp))]
/-- the opposite one may be -/
theorem oth_check {L st : Nat} {nx : List (List (List (List Int)))} {ms : List Int} (h : AlOk L st nx ms) : aCheck L st (othNx nx) (othMs ms) = 0 := by
  have h1 := h.n1
  have h4 := h.n4
  have hL1 := h.L1
  have hL4 := h.L4
  have hst := h.st
  have hlen := h.len
  have hp : 2 ^ nx.length ≤ 16 := Nat.le_trans (Nat.pow_le_pow_right (by omega) h4) (by decide)
  unfold aCheck
  rw [oth_len, if_neg (by omega), if_neg (by omega), if_neg, if_neg, if_neg]
  · simp only [Bool.or_eq_true, not_or, Bool.not_eq_true]
    refine ⟨⟨?_, ?_⟩, ?_⟩
    · unfold alOut outB
      rw [List.any_eq_false]
      intro r hr
      obtain ⟨r0, hr0, rfl⟩ := List.mem_map.1 hr
      rw [Bool.not_eq_true, List.any_eq_false]
      intro l hl
      obtain ⟨l0, hl0, rfl⟩ := List.mem_map.1 hl
      rw [Bool.not_eq_true, List.any_eq_false]
      intro c hc
      obtain ⟨s, hs, rfl⟩ := List.mem_map.1 hc
      rw [Bool.not_eq_true, List.any_eq_false]
      intro p hp
      obtain ⟨q, rfl, hq, _⟩ := mem_setL.1 hp
      unfold noB
      simp
      omega
    · unfold noB
      simp
      omega
    · rw [List.any_eq_false]
      intro m hm
      obtain ⟨m0, hm0, rfl⟩ := List.mem_map.1 hm
      rcases h.mks _ hm0 with e | e <;> rw [e] <;> decide
  · rw [Bool.not_eq_true]
    unfold alSize
    rw [List.any_eq_false]
    intro r hr
    obtain ⟨r0, hr0, rfl⟩ := List.mem_map.1 hr
    rw [Bool.not_eq_true, List.any_eq_false]
    intro l hl
    obtain ⟨l0, hl0, rfl⟩ := List.mem_map.1 hl
    unfold sizeB
    rw [Bool.not_eq_true, Bool.or_eq_false_iff]
    constructor
    · have := (oth_lt l0 (2 ^ nx.length)).1
      unfold othL
      rw [List.length_map]
      simp
      omega
    · rw [List.any_eq_false]
      intro c hc
      obtain ⟨s, hs, rfl⟩ := List.mem_map.1 hc
      have := setL_len s nx.length
      simp
      omega
  · intro hc
    rcases hc with hc | hc
    · exact hc (by simp [othMs, hlen])
    · unfold alShape at hc
      obtain ⟨r, hr, hb⟩ := List.any_eq_true.1 hc
      obtain ⟨r0, hr0, rfl⟩ := List.mem_map.1 hr
      have := h.row _ hr0
      simp at hb
      omega
theorem oth_ok {L st : Nat} {nx : List (List (List (List Int)))} {ms : List Int} (h : AlOk L st nx ms) : AlOk L st (othNx nx) (othMs ms) := by
  obtain ⟨L', st', e1, e2, h'⟩ := alOk_of (oth_check h)
  have : L' = L := by omega
  have : st' = st := by omega
  subst_vars
  exact h'
/-- **The law's main part.** -/
theorem al_twice {L st : Int} {nx : List (List (List (List Int)))} {ms : List Int} (h : (alDet L st nx ms).2.2.2 = 0) : ∃ (R : List (List Int)) (M M' : List Int), alDet L st nx ms = (L, R, M, 0) ∧ alOth L st nx ms = (L, st, othNx nx, othMs ms, 0) ∧
    alDet L st (othNx nx) (othMs ms) = (L, R, M', 0) ∧ M'.map (fun m => 1 - m) = M ∧ (∀ m ∈ M', 0 ≤ m ∧ m < 65536) ∧ alOth L st (othNx nx) (othMs ms) = (L, st, othNx (othNx nx), othMs (othMs ms), 0) ∧ alDet L st (othNx (othNx nx)) (othMs (othMs ms)) = (L, R, M, 0) := by
  have hc : aCheck L st nx ms = 0 := by
    refine Classical.byContradiction fun hc => ?_
    unfold alDet at h
    rw [if_neg hc] at h
    exact hc h
  obtain ⟨L, st, rfl, rfl, hok⟩ := alOk_of hc
  have hok1 := oth_ok hok
  have hok2 := oth_ok hok1
  have hd := al_det hok
  have hd1 := al_det hok1
  have hd2 := al_det hok2
  have f1 := lst_flip (st := 0) (st' := 0) hd1 hd hd1.pos hd.pos (fun w hw => by
    rw [al_tells hok1 w hw, al_tells hok w hw, foldr_oth hok w hw, compl_test, decide_eq_true hok.st, Bool.true_and]
    cases (w.foldr (aheadN nx) (endsN ms)).testBit st <;> rfl)
  have f2 := lst_flip (st := 0) (st' := 0) hd2 hd1 hd2.pos hd1.pos (fun w hw => by
    rw [al_tells hok2 w hw, al_tells hok1 w hw, foldr_oth hok1 w hw, compl_test, decide_eq_true hok1.st, Bool.true_and]
    cases (w.foldr (aheadN (othNx nx)) (endsN (othMs ms))).testBit st <;> rfl)
  have hflip : ∀ l : List Int, (l.map fun m => 1 - m).map (fun m => 1 - m) = l := fun l => by
    rw [List.map_map]
    have : ((fun m : Int => 1 - m) ∘ fun m => 1 - m) = id := by funext m; simp only [Function.comp, id]; omega
    rw [this, List.map_id]
  unfold alDet at h ⊢
  rw [if_pos hc, Int.toNat_natCast, Int.toNat_natCast] at h
  have hle : ¬ (lstR L (alRx L st nx) (alMx L st nx ms) 0).length > 3000 := fun q => by rw [if_pos q] at h; simp at h
  refine ⟨lstR L (alRx L st nx) (alMx L st nx ms) 0, lstM L (alRx L st nx) (alMx L st nx ms) 0, lstM L (alRx L st (othNx nx)) (alMx L st (othNx nx) (othMs ms)) 0, ?_, ?_, ?_, ?_, ?_, ?_, ?_⟩
  · rw [if_pos hc, Int.toNat_natCast, Int.toNat_natCast, if_neg hle]
  · unfold alOth; rw [if_pos hc]
  · rw [if_pos (oth_check hok), Int.toNat_natCast, Int.toNat_natCast, f1.1, if_neg hle]
  · rw [f1.2, hflip]
  · exact fun m hm => (lst_ok hd1 hd1.pos).mks m hm
  · unfold alOth; rw [if_pos (oth_check hok)]
  · rw [if_pos (oth_check hok1), Int.toNat_natCast, Int.toNat_natCast, f2.1, f1.1, if_neg hle, f2.2, f1.2, hflip]
/-! ### the closed one -/
theorem tiny_ok : AlOk 1 0 [[[[]]]] [1] := ⟨by decide, by decide, by decide, by decide, rfl, by decide, by decide, by decide, by decide⟩
theorem one_ok : DetOk 1 [[0]] [1] := ⟨by decide, by decide, by decide, by decide, by decide, by decide, rfl, by decide⟩
theorem one_lst : lstR 1 [[0]] [1] 0 = [[0]] ∧ lstM 1 [[0]] [1] 0 = [1] := by decide
theorem tiny_ahead : ∀ (w : List Nat), (∀ a ∈ w, a < 1) → (w.foldr (aheadN [[[[]]]]) (endsN [1])).testBit 0 = true
  | [], _ => by decide
  | a :: w, hw => by
    have : a = 0 := by have := hw a (by simp); omega
    subst this
    rw [List.foldr_cons, ahead_test]
    simp [aheadP, aheadC]
theorem al_closed : alDet 1 0 [[[[]]]] [1] = (1, [[0]], [1], 0) := by
  have hd := al_det tiny_ok
  have := lst_same (st := 0) (st' := 0) hd one_ok hd.pos one_ok.pos (fun w hw => by
    have hone : ∀ (w : List Nat), (∀ a ∈ w, a < 1) → runS (nxF [[0]]) 0 w = 0 := by
      intro w
      induction w with
      | nil => intro _; rfl
      | cons a w ih =>
        intro hw
        have : a = 0 := by have := hw a (by simp); omega
        subst this
        exact ih (fun b hb => hw b (by simp [hb]))
    rw [al_tells tiny_ok w hw, tiny_ahead w hw, hone w hw]
    rfl)
  unfold alDet
  rw [if_pos (by decide)]
  show (if (lstR 1 (alRx 1 0 [[[[]]]]) (alMx 1 0 [[[[]]]] [1]) 0).length > 3000 then _ else _) = _
  rw [this.1, one_lst.1, if_neg (by decide)]
  show ((1 : Int), lstR 1 (alRx 1 0 [[[[]]]]) (alMx 1 0 [[[[]]]] [1]) 0, lstM 1 (alRx 1 0 [[[[]]]]) (alMx 1 0 [[[[]]]] [1]) 0, (0 : Int)) = _
  rw [this.1, this.2, one_lst.1, one_lst.2]
end Go.Proofs.Ytjabncedfjjbjaa.H
