/- The law of LyndonPower, plain: borders, roots, turns of a power. -/
import Derived.Test.YtjabncedfjjbjaaPLyndonPowerx1
namespace Go.Proofs.Ytjabncedfjjbjaa.Pure
open Go.RowKit Go.Proofs.Ytjabncedfjjbjaa.PLyndonPower Go.Proofs.YtjabncedfjjbjaaW.PrintWords Go.Proofs.YtjabncedfjjbjaaW.PrintLast Go.Proofs.Ytjabncedfjjbjaa.H Go.Proofs.Ytjabncedfjjbjaa.LyM
set_option linter.unusedVariables false

theorem wsucc {i : Nat} (h : i ≤ 4000) : wrap64 ((i : Int) + 1) = ((i + 1 : Nat) : Int) := by rw [w64 (by omega) (by omega)]; omega
theorem wpred {i : Nat} (h : i ≤ 4000) (h0 : 0 < i) : wrap64 ((i : Int) - 1) = ((i - 1 : Nat) : Int) := by rw [w64 (by omega) (by omega)]; omega
def GoodB (w bl : List Int) (i : Nat) : Prop := bl.length = i ∧ ∀ j, j < i → ∃ b : Nat, rd bl (j : Int) = (b : Int) ∧ LBd (ixf w) (j + 1) b
theorem rd_ix (w : List Int) (i : Nat) : rd w (i : Int) = ixf w i := by simp [rd, ixf]
theorem goodB_snoc {w bl : List Int} {i b : Nat} (h : GoodB w bl i) (hb : LBd (ixf w) (i + 1) b) : GoodB w (bl ++ [(b : Int)]) (i + 1) := by
  refine ⟨by rw [List.length_append, h.1]; rfl, fun j hj => ?_⟩
  by_cases hji : j < i
  · obtain ⟨c, hc, hl⟩ := h.2 j hji
    refine ⟨c, ?_, hl⟩
    rw [← hc]
    simp only [rd, Int.toNat_natCast]
    rw [List.getD_eq_getElem?_getD, List.getD_eq_getElem?_getD, List.getElem?_append_left (by rw [h.1]; omega)]
  · obtain rfl : j = i := by omega
    refine ⟨b, ?_, hb⟩
    simp only [rd, Int.toNat_natCast]
    rw [List.getD_eq_getElem?_getD, List.getElem?_append_right (by rw [h.1]; omega), h.1, Nat.sub_self]
    rfl
theorem bor_main (w : List Int) (hn : w.length ≤ 60) : ∀ d (x3 : List Int) (i k0 : Nat), w.length - i = d → i ≤ w.length → GoodB w x3 i → (i = 0 → k0 = 0) → (0 < i → LBd (ixf w) i k0) →
    ∃ bl, Ev (fun k => PLyBase.lyndon_borders.l0 k w x3 (k0 : Int) (w.length : Int) (i : Int)) bl ∧ GoodB w bl w.length := by
  intro d
  induction d with
  | zero =>
    intro x3 i k0 hd hi hg _ _
    obtain rfl : i = w.length := by omega
    refine ⟨x3, Ev.step (f := fun _ => some x3) (fun k => ?_) (Ev.now _), hg⟩
    simp only [PLyBase.lyndon_borders.l0]
    rw [if_neg (by omega)]
  | succ d ih =>
    intro x3 i k0 hd hi hg hz hp
    have hlt : i < w.length := by omega
    have hl3 : x3.length < 17592186044416 := by have := hg.1; omega
    -- the inner loop
    have inner : 0 < i → ∀ n kk, kk < n → Cand (ixf w) i kk → ∃ bl, Ev (fun k => PLyBase.lyndon_borders.l1 k w x3 (kk : Int) (i : Int) (w.length : Int) (i : Int)) bl ∧ GoodB w bl w.length := by
      intro hi0 n
      induction n with
      | zero => intro kk h; omega
      | succ n ihn =>
        intro kk hkn hc
        have hki := hc.1.1
        by_cases he : ixf w i = ixf w kk
        · have hb := cand_yes hc he
          obtain ⟨bl, hev, hgb⟩ := ih (x3 ++ [((kk + 1 : Nat) : Int)]) (i + 1) (kk + 1) (by omega) (by omega) (goodB_snoc hg hb) (by omega) (fun _ => hb)
          refine ⟨bl, Ev.step (fun k => ?_) hev, hgb⟩
          simp only [PLyBase.lyndon_borders.l1, rd_ix, wsucc (show kk ≤ 4000 by omega), wsucc (show i ≤ 4000 by omega)]
          rw [if_pos (by omega)]
          by_cases hk0 : (kk : Int) > 0
          · rw [if_pos hk0, if_pos (by omega), if_pos (by omega), if_pos (by omega), if_pos (by omega), if_pos he, if_pos hl3]
          · rw [if_neg hk0, if_pos (by omega), if_pos (by omega), if_pos (by omega), if_pos (by omega), if_pos he, if_pos hl3]
        · by_cases hk0 : kk = 0
          · subst hk0
            have hb := cand_no hc he
            obtain ⟨bl, hev, hgb⟩ := ih (x3 ++ [((0 : Nat) : Int)]) (i + 1) 0 (by omega) (by omega) (goodB_snoc hg hb) (by omega) (fun _ => hb)
            refine ⟨bl, Ev.step (fun k => ?_) hev, hgb⟩
            simp only [PLyBase.lyndon_borders.l1, rd_ix, wsucc (show i ≤ 4000 by omega)]
            rw [if_pos (by omega), if_neg (by omega), if_pos (by omega), if_pos (by omega), if_pos (by omega), if_pos (by omega), if_neg he, if_pos hl3]
          · obtain ⟨b, hrb, hlb⟩ := hg.2 (kk - 1) (by omega)
            rw [show kk - 1 + 1 = kk from by omega] at hlb
            have hbk := hlb.1.1
            obtain ⟨bl, hev, hgb⟩ := ihn b (by omega) (cand_down hc hlb he)
            refine ⟨bl, Ev.step (fun k => ?_) hev, hgb⟩
            have hg1 := hg.1
            simp only [PLyBase.lyndon_borders.l1, wpred (show kk ≤ 4000 by omega) (show 0 < kk by omega), hrb]
            simp only [rd_ix]
            rw [if_pos (by omega), if_pos (by omega), if_pos (by omega), if_pos (by omega), if_pos (by omega), if_pos (by omega), if_neg he, if_pos (by omega), if_pos (by omega)]
    by_cases hi0 : i = 0
    · subst hi0
      obtain rfl := hz rfl
      have hb := lbd_one (ixf w)
      obtain ⟨bl, hev, hgb⟩ := ih (x3 ++ [((0 : Nat) : Int)]) 1 0 (by omega) (by omega) (goodB_snoc hg hb) (by omega) (fun _ => hb)
      refine ⟨bl, Ev.step (f := fun k => PLyBase.lyndon_borders.l1 k w x3 ((0 : Nat) : Int) ((0 : Nat) : Int) (w.length : Int) ((0 : Nat) : Int)) (fun k => ?_) (Ev.step (fun k => ?_) hev), hgb⟩
      · simp only [PLyBase.lyndon_borders.l0]
        rw [if_pos (by omega)]
      · have e2 : wrap64 (((0 : Nat) : Int) + 1) = ((1 : Nat) : Int) := wsucc (i := 0) (by omega)
        simp only [PLyBase.lyndon_borders.l1]
        rw [if_neg (by omega), if_pos hl3, e2]
    · obtain ⟨bl, hev, hgb⟩ := inner (by omega) (k0 + 1) k0 (by omega) (cand_of (hp (by omega)))
      refine ⟨bl, Ev.step (fun k => ?_) hev, hgb⟩
      simp only [PLyBase.lyndon_borders.l0]
      rw [if_pos (by omega)]
theorem bor_ev (w : List Int) (hn : w.length ≤ 60) : ∃ bl, Ev (fun k => PLyBase.lyndon_borders.f k w) bl ∧ GoodB w bl w.length :=
  bor_main w hn w.length [] 0 0 (by omega) (by omega) ⟨rfl, fun j h => by omega⟩ (fun _ => rfl) (fun h => by omega)
/-- The root. -/
theorem root_ev (w : List Int) (hm : mayF 4 w = 0) (h0 : 0 < w.length) : ∃ p, LPer (ixf w) w.length p ∧ Ev (fun k => lyndon_Root.f k w) (w.take (rootN w.length p), ((w.length / rootN w.length p : Nat) : Int), 0) := by
  obtain ⟨bl, hev, hg⟩ := bor_ev w (may60 hm)
  obtain ⟨b, hb, hl⟩ := hg.2 (w.length - 1) (by omega)
  rw [show w.length - 1 + 1 = w.length from by omega] at hl
  refine ⟨w.length - b, lper_of hl, ?_⟩
  have hz : rootZ w.length (b : Int) = rootN w.length (w.length - b) := by unfold rootZ rootN; simp
  have hlt := hl.1.1
  refine Ev.congr (f := fun k => (PLyBase.lyndon_borders.f k w).bind fun bl => if bl.length = w.length ∧ 0 ≤ rd bl ((w.length - 1 : Nat) : Int) ∧ rd bl ((w.length - 1 : Nat) : Int) < w.length then some (w.take (rootZ w.length (rd bl ((w.length - 1 : Nat) : Int))), ((w.length / rootZ w.length (rd bl ((w.length - 1 : Nat) : Int)) : Nat) : Int), 0) else none) (fun k => ?_) (Ev.bind hev ?_)
  · unfold lyndon_Root.f
    rw [if_pos hm, if_neg (by omega)]
  · rw [hb, hz, if_pos ⟨hg.1, by omega, by omega⟩]
    exact Ev.now _
theorem may_pow {w : List Int} (hm : mayF 4 w = 0) (t : Nat) (h : (pow w t).length ≤ 60) : mayF 4 (pow w t) = 0 := by
  unfold mayF at hm ⊢
  rw [if_neg (by omega)] at hm ⊢
  split at hm
  · cases hm
  · rw [if_neg (by omega)]
    split at hm
    · cases hm
    · rename_i hn
      rw [if_neg]
      intro ha
      apply hn
      rw [List.any_eq_true] at ha ⊢
      obtain ⟨x, hx, hp⟩ := ha
      unfold pow at hx
      rw [List.mem_flatten] at hx
      obtain ⟨l, hl, hx⟩ := hx
      rw [List.mem_replicate] at hl
      exact ⟨x, hl.2 ▸ hx, hp⟩
theorem turn_root {w : List Int} {p : Nat} (h0 : 0 < w.length) (hp : LPer (ixf w) w.length p) : turnB w w.length < rootN w.length p := by
  have hper := rootN_per h0 hp
  obtain ⟨c, hc⟩ := rootN_dvd (n := w.length) (p := p)
  generalize rootN w.length p = r at hper hc ⊢
  have e := per_pow c hc hper
  have hr := hper.1
  have hc1 : 1 ≤ c := by
    match c, hc with
    | 0, hc => rw [Nat.mul_zero] at hc; omega
    | c + 1, _ => omega
  have hl : (w.take r).length = r := by
    rw [List.length_take]
    have := Nat.le_mul_of_pos_right r hc1
    omega
  have := turn_pow (w.take r) c hc1 (by omega)
  rw [← e, hl, ← hc] at this
  rw [this]
  exact turnB_lt _ _ hr
theorem lyndonLaw (w : List Int) (times : Int) : ∃ k, evermorekeep_LyndonPower.f k w times = some true := by
  suffices h : ∃ r, Ev (fun k => evermorekeep_LyndonPower.f k w times) r ∧ r = true by
    obtain ⟨r, ⟨K, hK⟩, rfl⟩ := h
    exact ⟨K, hK K (Nat.le_refl _)⟩
  have start : ∀ r, Ev (fun k => evermorekeep_LyndonPower.j0 k w times false) r → Ev (fun k => evermorekeep_LyndonPower.f k w times) r := by
    intro r hr
    refine Ev.congr (fun k => ?_) hr
    unfold evermorekeep_LyndonPower.f lyndon_Factors.f
    simp
  have gone : ∀ (u : List Int) (n : Int), Ev (fun k => evermorekeep_LyndonPower.j1 k w times u n true) true := fun u n =>
    Ev.step (f := fun _ => some true) (fun k => by simp [evermorekeep_LyndonPower.j1]) (Ev.now _)
  refine ⟨true, start _ ?_, rfl⟩
  by_cases hm : mayF 4 w = 0
  · have h60 := may60 hm
    by_cases h0 : w.length = 0
    · -- the empty word
      refine Ev.step (f := fun k => evermorekeep_LyndonPower.j1 k w times [] 0 true) (fun k => ?_) (gone _ _)
      simp only [evermorekeep_LyndonPower.j0, lyndon_Root.f]
      rw [if_neg (by decide), if_pos hm, if_pos h0]
      simp [h0]
    · obtain ⟨p, hp, hev⟩ := root_ev w hm (by omega)
      have hroot := hev
      generalize hrr : rootN w.length p = r at hev
      -- ahead of the loop
      have ahead : ∀ b, Ev (fun k => evermorekeep_LyndonPower.j1 k w times (w.take r) ((w.length / r : Nat) : Int) b) true → (b = true ∨ (¬ times < 1 ∧ ¬ times > 60 ∧ b = decide (wrap64 (times * (w.length : Int)) > 60))) → (b = true → (times < 1 ∨ times > 60 ∨ decide (wrap64 (times * (w.length : Int)) > 60) = true)) → Ev (fun k => evermorekeep_LyndonPower.j0 k w times false) true := by
        intro b hb hc hd
        refine Ev.step (f := fun k => (lyndon_Root.f k w).bind fun bt108 => (if bt108.2.2 = 0 then (if (w.length : Int) = 0 then (evermorekeep_LyndonPower.j1 k w times bt108.1 bt108.2.1 true) else (if times < 1 then (evermorekeep_LyndonPower.j1 k w times bt108.1 bt108.2.1 true) else (if times > 60 then (evermorekeep_LyndonPower.j1 k w times bt108.1 bt108.2.1 true) else (if (w.length : Int) > 60 then (evermorekeep_LyndonPower.j1 k w times bt108.1 bt108.2.1 true) else (evermorekeep_LyndonPower.j1 k w times bt108.1 bt108.2.1 (decide ((wrap64 (times * (w.length : Int))) > 60))))))) else (evermorekeep_LyndonPower.j1 k w times bt108.1 bt108.2.1 true))) (fun k => ?_) (Ev.bind hev (Ev.congr (fun k => ?_) hb))
        · simp only [evermorekeep_LyndonPower.j0]
          rw [if_neg (by decide)]
        · rw [if_pos rfl, if_neg (by omega)]
          by_cases t1 : times < 1
          · rw [if_pos t1]
            rcases hc with hc | hc
            · rw [hc]
            · exact absurd t1 hc.1
          · rw [if_neg t1]
            by_cases t2 : times > 60
            · rw [if_pos t2]
              rcases hc with hc | hc
              · rw [hc]
              · exact absurd t2 hc.2.1
            · rw [if_neg t2, if_neg (by omega)]
              rcases hc with hc | hc
              · rcases hd hc with q | q | q
                · exact absurd q t1
                · exact absurd q t2
                · rw [hc, q]
              · rw [← hc.2.2]
      by_cases hout : times < 1 ∨ times > 60 ∨ decide (wrap64 (times * (w.length : Int)) > 60) = true
      · exact ahead true (gone _ _) (.inl rfl) (fun _ => hout)
      · have t1 : 1 ≤ times := by omega
        have t2 : times ≤ 60 := by omega
        obtain ⟨t, rfl⟩ : ∃ t : Nat, times = (t : Int) := ⟨times.toNat, by omega⟩
        have hmul : w.length * t ≤ 60 * 60 := Nat.mul_le_mul h60 (by omega)
        have ht3 : decide (wrap64 ((t : Int) * (w.length : Int)) > 60) = false := by
          by_cases q : decide (wrap64 ((t : Int) * (w.length : Int)) > 60) = true
          · exact absurd (.inr (.inr q)) hout
          · simpa using q
        have ht3' := Aside0.mk ht3
        clear ht3
        have hout' := Aside0.mk hout
        clear hout
        have hN : w.length * t ≤ 60 := by
          have h1 := of_decide_eq_false ht3'.out
          rw [show (t : Int) * (w.length : Int) = ((w.length * t : Nat) : Int) from by rw [Int.natCast_mul, Int.mul_comm], w64 (by omega) (by omega)] at h1
          omega
        refine ahead false ?_ (.inr ⟨by omega, by omega, ht3'.out.symm⟩) (fun h => by cases h)
        refine Ev.step (f := fun k => evermorekeep_LyndonPower.l0 k w (t : Int) (w.take r) ((w.length / r : Nat) : Int) [] 0) (fun k => by simp only [evermorekeep_LyndonPower.j1]; simp) ?_
        -- behind the loop
        have hlenp : ∀ s, (pow w s).length = w.length * s := pow_len w
        have last : Ev (fun k => evermorekeep_LyndonPower.l0 k w (t : Int) (w.take r) ((w.length / r : Nat) : Int) (pow w t) ((t : Nat) : Int)) true := by
          have hmp := may_pow hm t (by rw [hlenp]; exact hN)
          have hNpos : 0 < w.length * t := Nat.mul_pos (by omega) (by omega)
          obtain ⟨P, hP, hevP⟩ := root_ev (pow w t) hmp (by rw [hlenp]; exact hNpos)
          rw [hlenp] at hP hevP
          -- the pair's roots are one
          have hpx : LPer (ixf (pow w t)) w.length p := by
            have same : ∀ j, j < w.length → ixf (pow w t) j = ixf w j := by
              intro j hj
              obtain ⟨s, rfl⟩ : ∃ s, t = s + 1 := ⟨t - 1, by omega⟩
              unfold ixf
              rw [pow_succ, List.getD_eq_getElem?_getD, List.getElem?_append_left hj, ← List.getD_eq_getElem?_getD]
            have tr : ∀ q, Per (ixf (pow w t)) w.length q ↔ Per (ixf w) w.length q := by
              intro q
              constructor
              · intro h; refine ⟨h.1, fun j hj => ?_⟩; rw [← same j (by omega), ← same (j + q) hj]; exact h.2 j hj
              · intro h; refine ⟨h.1, fun j hj => ?_⟩; rw [same j (by omega), same (j + q) hj]; exact h.2 j hj
            exact ⟨(tr p).2 hp.1, hp.2.1, fun q hq hle => hp.2.2 q ((tr q).1 hq) hle⟩
          have hroots := root_power (by omega) (by omega) (pow_per w t (by omega)) hpx hP
          rw [hroots, hrr] at hevP
          have hrle : r ≤ w.length := by rw [← hrr]; exact Nat.le_of_dvd (by omega) rootN_dvd
          have hr0 : 0 < r := by rw [← hrr]; exact (rootN_per (by omega) hp).1
          have htk : (pow w t).take r = w.take r := by
            obtain ⟨s, rfl⟩ : ∃ s, t = s + 1 := ⟨t - 1, by omega⟩
            rw [pow_succ, List.take_append_of_le_length hrle]
          rw [htk] at hevP
          have hq := Aside0.mk (show ((w.length * t / r : Nat) : Int) = wrap64 (((w.length / r : Nat) : Int) * (t : Int)) by
            have hd : r ∣ w.length := by rw [← hrr]; exact rootN_dvd
            have e : w.length * t / r = w.length / r * t := by
              obtain ⟨c, hc⟩ := hd
              rw [hc, Nat.mul_assoc, Nat.mul_div_cancel_left _ hr0, Nat.mul_div_cancel_left _ hr0]
            have hb : w.length * t / r ≤ w.length * t := Nat.div_le_self _ _
            rw [← Int.natCast_mul, ← e, w64 (by omega) (by omega)])
          refine Ev.step (f := fun k => (lyndon_Root.f k (pow w t)).bind fun bt116 => ((evermorekeep_alikeWords.f (w.take r) bt116.1).bind fun t121 => (if bt116.2.2 = 0 then (if t121 = true then (evermorekeep_LyndonPower.j3 k w (w.take r) (pow w t) (bt116.2.1 != (wrap64 (((w.length / r : Nat) : Int) * (t : Int))))) else (evermorekeep_LyndonPower.j3 k w (w.take r) (pow w t) true)) else (evermorekeep_LyndonPower.j3 k w (w.take r) (pow w t) true)))) (fun k => ?_) (Ev.bind hevP ?_)
          · simp only [evermorekeep_LyndonPower.l0]
            rw [if_neg (by omega)]
          · have hal : evermorekeep_alikeWords.f (w.take r) (w.take r) = some true := by
              unfold evermorekeep_alikeWords.f wordsEq
              rw [if_pos (by rw [List.length_take]; omega)]
              simp
            refine Ev.congr (f := fun k => evermorekeep_LyndonPower.j3 k w (w.take r) (pow w t) false) (fun k => ?_) ?_
            · rw [hal]
              simp [hq.out]
            · refine Ev.step (f := fun _ => some true) (fun k => ?_) (Ev.now _)
              simp only [evermorekeep_LyndonPower.j3]
              have htp := turn_pow w t (by omega) (by omega)
              have htr := turn_root (by omega) hp
              rw [hrr] at htr
              unfold lyndon_Turn.f
              rw [if_neg (by decide), if_pos hm, if_pos hmp, hlenp, htp]
              simp only [Option.bind_some, if_true]
              congr 1
              simp only [List.length_take, decide_eq_true_eq]
              omega
        -- the loop
        have loop : ∀ d s, t - s = d → s ≤ t → Ev (fun k => evermorekeep_LyndonPower.l0 k w (t : Int) (w.take r) ((w.length / r : Nat) : Int) (pow w s) ((s : Nat) : Int)) true := by
          intro d
          induction d with
          | zero => intro s hd hs; obtain rfl : s = t := by omega
                    exact last
          | succ d ih =>
            intro s hd hs
            refine Ev.step (fun k => ?_) (ih (s + 1) (by omega) (by omega))
            have hls : w.length * s ≤ w.length * t := Nat.mul_le_mul_left _ hs
            simp only [evermorekeep_LyndonPower.l0]
            rw [if_pos (by omega), if_pos (by rw [hlenp]; omega), wsucc (by omega), pow_snoc]
        exact loop t 0 (by omega) (by omega)
  · -- no word
    refine Ev.step (f := fun k => evermorekeep_LyndonPower.j1 k w times [] 0 true) (fun k => ?_) (gone _ _)
    simp only [evermorekeep_LyndonPower.j0, lyndon_Root.f]
    rw [if_neg (by decide), if_neg hm]
    simp [hm]
theorem LyndonPower : evermorekeep_LyndonPower.Pure := fun w t _ _ _ _ => lyndonLaw w t
end Go.Proofs.Ytjabncedfjjbjaa.Pure
