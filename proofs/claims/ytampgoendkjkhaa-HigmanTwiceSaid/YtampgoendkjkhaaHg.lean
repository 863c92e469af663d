/- higman: sets of states; what can be come to. -/
import Derived.Test.YtampgoendkjkhaaDc
import Derived.Test.YtampgoendkjkhaaBt
namespace Go.Proofs.Ytampgoendkjkhaa.H
open Go.RowKit Go.Shelf Go.Proofs.YtampgoendkjkhaaW.PrintWords Go.Proofs.YtampgoendkjkhaaW.PrintMore Go.Proofs.Ytampgoendkjkhaa.DtM
set_option linter.unusedVariables false
set_option linter.unusedSimpArgs false
/-- an automaton with at most 5 states -/
structure SmOk (L st : Nat) (nx : List (List Int)) (ms : List Int) : Prop where
  n1 : 1 ≤ nx.length
  n5 : nx.length ≤ 5
  L1 : 1 ≤ L
  L4 : L ≤ 4
  len : ms.length = nx.length
  row : ∀ r ∈ nx, r.length = L
  st : st < nx.length
  tos : ∀ r ∈ nx, ∀ x ∈ r, 0 ≤ x ∧ x < (nx.length : Int)
  mks : ∀ m ∈ ms, m = 0 ∨ m = 1
theorem SmOk.det {L st : Nat} {nx : List (List Int)} {ms : List Int} (h : SmOk L st nx ms) : DetOk L nx ms :=
  ⟨h.n1, by have := h.n5; omega, h.L1, h.L4, h.row, h.tos, h.len, fun x hx => by rcases h.mks x hx with e | e <;> omega⟩
theorem bits_or_pow (x t : Nat) (hx : x < 2 ^ 62) (ht : t < 62) : bits .or .i64 (x : Int) (wrap64 (2 ^ t)) = ((x ||| 2 ^ t : Nat) : Int) := by
  have h2 := pow_lt62 t ht
  have e : wrap64 (2 ^ t) = ((2 ^ t : Nat) : Int) := by
    have h3 : ((2 : Int) ^ t) = ((2 ^ t : Nat) : Int) := by simp
    rw [h3]
    generalize 2 ^ t = z at h2
    unfold wrap64; omega
  rw [e, bits_or _ _ (by omega) (by omega)]
theorem or_pow_lt {x t n : Nat} (hx : x < 2 ^ n) (ht : t < n) : x ||| 2 ^ t < 2 ^ n := Nat.or_lt_two_pow hx (Nat.pow_lt_pow_right (by omega) ht)
theorem pow_le62 {x n : Nat} (hx : x < 2 ^ n) (hn : n ≤ 5) : x < 32 := Nat.lt_of_lt_of_le hx (Nat.le_trans (Nat.pow_le_pow_right (by omega) hn) (by decide))
/-! ### where a letter leads -/
def nextK (nx : List (List Int)) (a S : Nat) : Nat → Nat
  | 0 => 0
  | i + 1 => nextK nx a S i ||| (if S.testBit i then 2 ^ (nxF nx i a) else 0)
theorem nextK_lt {L st : Nat} {nx : List (List Int)} {ms : List Int} (h : SmOk L st nx ms) {a S : Nat} (ha : a < L) : ∀ i, i ≤ nx.length → nextK nx a S i < 2 ^ nx.length
  | 0, _ => Nat.two_pow_pos _
  | i + 1, hi => by
    unfold nextK
    refine Nat.or_lt_two_pow (nextK_lt h ha i (by omega)) ?_
    split
    · exact Nat.pow_lt_pow_right (by omega) (nx_lt h.det (by omega) ha)
    · exact Nat.two_pow_pos _
/-! ### what can be come to -/
def stepR (nx : List (List Int)) (S q : Nat) : Nat → Nat → Nat
  | 0, x => x
  | a + 1, x => if S.testBit q then stepR nx S q a x ||| 2 ^ (nxF nx q a) else stepR nx S q a x
def stepQ (nx : List (List Int)) (L S : Nat) : Nat → Nat
  | 0 => S
  | q + 1 => stepR nx S q L (stepQ nx L S q)
def stepA (nx : List (List Int)) (L S : Nat) : Nat := stepQ nx L S nx.length
theorem stepR_lt {L st : Nat} {nx : List (List Int)} {ms : List Int} (h : SmOk L st nx ms) {S q : Nat} (hq : q < nx.length) : ∀ a x, a ≤ L → x < 2 ^ nx.length → stepR nx S q a x < 2 ^ nx.length
  | 0, x, _, hx => hx
  | a + 1, x, ha, hx => by
    unfold stepR
    split
    · exact or_pow_lt (stepR_lt h hq a x (by omega) hx) (nx_lt h.det hq (by omega))
    · exact stepR_lt h hq a x (by omega) hx
theorem stepQ_lt {L st : Nat} {nx : List (List Int)} {ms : List Int} (h : SmOk L st nx ms) {S : Nat} (hS : S < 2 ^ nx.length) : ∀ q, q ≤ nx.length → stepQ nx L S q < 2 ^ nx.length
  | 0, _ => hS
  | q + 1, hq => by
    unfold stepQ
    exact stepR_lt h (by omega) L _ (Nat.le_refl _) (stepQ_lt h hS q (by omega))
theorem stepR_sup (nx : List (List Int)) (S q : Nat) : ∀ a x p, x.testBit p = true → (stepR nx S q a x).testBit p = true
  | 0, x, p, h => h
  | a + 1, x, p, h => by
    unfold stepR
    have := stepR_sup nx S q a x p h
    split
    · rw [Nat.testBit_or, this]; rfl
    · exact this
theorem stepQ_sup (nx : List (List Int)) (L S : Nat) : ∀ q p, S.testBit p = true → (stepQ nx L S q).testBit p = true
  | 0, p, h => h
  | q + 1, p, h => by
    unfold stepQ
    exact stepR_sup nx S q L _ p (stepQ_sup nx L S q p h)
theorem sup_le {x y : Nat} (h : ∀ p, x.testBit p = true → y.testBit p = true) : x ≤ y := by
  have : x ||| y = y := by
    apply Nat.eq_of_testBit_eq
    intro p
    rw [Nat.testBit_or]
    cases hx : x.testBit p with
    | false => simp
    | true => rw [h p hx]; rfl
  rw [← this]; exact Nat.left_le_or
theorem stepA_ge (nx : List (List Int)) (L S : Nat) : S ≤ stepA nx L S := sup_le (stepQ_sup nx L S nx.length)
def reachG (nx : List (List Int)) (L : Nat) : Nat → Nat → Nat
  | 0, S => S
  | g + 1, S => if stepA nx L S = S then S else reachG nx L g (stepA nx L S)
/-- all that can be come to from a set -/
def reachN (nx : List (List Int)) (L S : Nat) : Nat := reachG nx L (2 ^ nx.length) S
theorem reachG_fix {L st : Nat} {nx : List (List Int)} {ms : List Int} (h : SmOk L st nx ms) : ∀ g S, S < 2 ^ nx.length → 2 ^ nx.length - S ≤ g → reachG nx L g S < 2 ^ nx.length ∧ stepA nx L (reachG nx L g S) = reachG nx L g S
  | 0, S, hS, hg => by omega
  | g + 1, S, hS, hg => by
    unfold reachG
    by_cases e : stepA nx L S = S
    · rw [if_pos e]; exact ⟨hS, e⟩
    · rw [if_neg e]
      have h1 := stepA_ge nx L S
      have h2 := stepQ_lt h hS nx.length (Nat.le_refl _)
      exact reachG_fix h g _ h2 (by unfold stepA at *; omega)
theorem reachG_more {L st : Nat} {nx : List (List Int)} {ms : List Int} (h : SmOk L st nx ms) : ∀ g g' S, S < 2 ^ nx.length → 2 ^ nx.length - S ≤ g → 2 ^ nx.length - S ≤ g' → reachG nx L g S = reachG nx L g' S
  | 0, g', S, hS, hg, _ => by omega
  | g + 1, 0, S, hS, _, hg => by omega
  | g + 1, g' + 1, S, hS, hg, hg' => by
    unfold reachG
    by_cases e : stepA nx L S = S
    · rw [if_pos e, if_pos e]
    · rw [if_neg e, if_neg e]
      have h1 := stepA_ge nx L S
      have h2 := stepQ_lt h hS nx.length (Nat.le_refl _)
      exact reachG_more h g g' _ h2 (by unfold stepA at *; omega) (by unfold stepA at *; omega)
theorem reachN_step {L st : Nat} {nx : List (List Int)} {ms : List Int} (h : SmOk L st nx ms) {S : Nat} (hS : S < 2 ^ nx.length) (hne : stepA nx L S ≠ S) : reachN nx L S = reachN nx L (stepA nx L S) := by
  have h1 := stepA_ge nx L S
  have h2 := stepQ_lt h hS nx.length (Nat.le_refl _)
  unfold reachN
  rw [reachG_more h _ (2 ^ nx.length + 1) S hS (by omega) (by omega)]
  rw [show reachG nx L (2 ^ nx.length + 1) S = reachG nx L (2 ^ nx.length) (stepA nx L S) from by rw [reachG, if_neg hne]]
theorem reachN_end {L st : Nat} {nx : List (List Int)} {ms : List Int} (h : SmOk L st nx ms) {S : Nat} (hS : S < 2 ^ nx.length) (he : stepA nx L S = S) : reachN nx L S = S := by
  obtain ⟨g, hg⟩ : ∃ g, 2 ^ nx.length = g + 1 := ⟨2 ^ nx.length - 1, by have := Nat.two_pow_pos nx.length; omega⟩
  unfold reachN
  rw [hg, reachG, if_pos he]
set_option maxHeartbeats 4000000 in
set_option maxRecDepth 100000 in
theorem hg_ahead (L st : Nat) (A2 A3 : Option Addr) (c2 c3 : Nat) (nx : List (List Int)) (ms : List Int) (S : Nat) (w : World) (hr2 : Kd.C (Kd.slice 3 (Kd.int .i64)) w A2 nx.length nx) (hok : SmOk L st nx ms) (hS : S < 2 ^ nx.length) :
    Calls Try.prog 94 #[.agg #[.int .i64 (L : Int), .int .i64 (st : Int), .slice A2 nx.length c2, .slice A3 ms.length c3], .int .i64 (S : Int)] w fun e w' => e = .returned (.int .i64 ((reachN nx L S : Nat) : Int)) ∧ Below w.heap.size w w' := by
  have HR := Aside0.mk hr2
  have HOK := Aside0.mk hok
  have hn5 := hok.n5
  have hL4 := hok.L4
  have HS := Aside0.mk hS
  clear hr2 hok hS
  go_enter Try.func94, Try.ntmps94
  go_wp2
  have BW := Aside0.mk (below_alloc (Below.refl w.heap.size w) (.cells #[.int .i64 (L : Int), .int .i64 (st : Int), .slice A2 nx.length c2, .slice A3 ms.length c3] 101))
  have BX := Aside0.mk (blk_new w (.cells #[.int .i64 (L : Int), .int .i64 (st : Int), .slice A2 nx.length c2, .slice A3 ms.length c3] 101))
  generalize w.alloc (.cells #[.int .i64 (L : Int), .int .i64 (st : Int), .slice A2 nx.length c2, .slice A3 ms.length c3] 101) = W1 at BW BX ⊢
  have k2 : W1.cell? ⟨w.heap.size, 2, none⟩ = some (.slice A2 nx.length c2) := (blk_cell BX.out 2).trans rfl
  go_loopg [1] (2 ^ nx.length) (fun gg s1 wr => ∃ T : Nat, Aside0 (T < 2 ^ nx.length ∧ reachN nx L T = reachN nx L S) ∧ 2 ^ nx.length - T ≤ gg ∧ s1 = .int .i64 (T : Int) ∧ wr = W1)
  case atStart => exact ⟨S, ⟨HS.out, rfl⟩, Nat.sub_le _ _, rfl, rfl⟩
  case round =>
    obtain ⟨T, HT, hg, rfl, rfl⟩ := hrel
    have hT32 := pow_le62 HT.out.1 hn5
    go_wp2
    go_loopg [5, 14] nx.length (fun gg s5 s14 wq => ∃ q : Nat, q ≤ nx.length ∧ nx.length - q ≤ gg ∧ s14 = .int .i64 (q : Int) ∧ s5 = .int .i64 ((stepQ nx L T q : Nat) : Int) ∧ wq = wr)
    case atStart => exact ⟨0, Nat.zero_le _, by omega, rfl, rfl, rfl⟩
    case round =>
      obtain ⟨q, hq, hgq, rfl, rfl, rfl⟩ := hrel
      by_cases hql : q < nx.length
      · have hqz : (q : Int) < (nx.length : Int) := by omega
        obtain ⟨ad, A4, c4, rfl, hle, hrow, hc⟩ := row_get (Kd.C_below HR.out BW.out) rfl hql
        have hrl := HOK.out.row _ (List.getElem_mem hql)
        have HTO := Aside0.mk (HOK.out.tos _ (List.getElem_mem hql))
        have HNF := Aside0.mk (show ∀ a (ha : a < nx[q].length), nx[q][a] = (nxF nx q a : Int) from fun a ha => by
          have := HTO.out _ (List.getElem_mem ha)
          unfold nxF
          have e1 : nx.getD q [] = nx[q] := by rw [List.getD_eq_getElem?_getD, List.getElem?_eq_getElem hql, Option.getD_some]
          rw [e1, List.getD_eq_getElem?_getD, List.getElem?_eq_getElem ha, Option.getD_some]
          omega)
        rw [hrl] at hc
        have HRW := Aside0.mk hrow
        have HRL := Aside0.mk hrl
        have HSQ := Aside0.mk (stepQ_lt HOK.out HT.out.1 q (by omega))
        clear hrow hrl hle
        go_wp2
        go_loopg [5, 21] L (fun gg s5 s21 wq => ∃ a : Nat, a ≤ L ∧ L - a ≤ gg ∧ s21 = .int .i64 (a : Int) ∧ s5 = .int .i64 ((stepR nx T q a (stepQ nx L T q) : Nat) : Int) ∧ wq = wr)
        case atStart => exact ⟨0, Nat.zero_le _, by omega, rfl, rfl, rfl⟩
        case round =>
          obtain ⟨a, ha, hga, rfl, rfl, rfl⟩ := hrel
          by_cases hal : a < L
          · have haz : (a : Int) < (L : Int) := by omega
            obtain ⟨ad5, rfl, hc5⟩ := int_get HRW.out rfl (by rw [HRL.out]; exact hal)
            rw [HNF.out a (by rw [HRL.out]; exact hal)] at hc5
            have hto := nx_lt HOK.out.det hql hal
            have hx32 := pow_le62 (stepR_lt (S := T) HOK.out hql a _ ha HSQ.out) hn5
            have HB := Aside0.mk (bits_or_pow (stepR nx T q a (stepQ nx L T q)) (nxF nx q a) (by omega) (by omega))
            cases hb : T.testBit q with
            | true =>
              have hqq : (bits .and .i64 ((T : Int) / 2 ^ q) 1 == 1) = true := by rw [bits_test1 T q (by omega), hb]
              have HE := Aside0.mk (show stepR nx T q (a + 1) (stepQ nx L T q) = stepR nx T q a (stepQ nx L T q) ||| 2 ^ (nxF nx q a) from by rw [stepR, if_pos hb])
              clear hb
              generalize stepR nx T q a (stepQ nx L T q) = x at HB HE hx32 ⊢
              generalize nxF nx q a = t at HB HE hto hc5
              go_wp2
              go_roundg (L - (a + 1))
              case measure => omega
              case rel => exact ⟨a + 1, by omega, by omega, by go_num, by rw [HE.out, ← HB.out], rfl⟩
            | false =>
              have hqq : (bits .and .i64 ((T : Int) / 2 ^ q) 1 == 1) = false := by rw [bits_test1 T q (by omega), hb]
              have HE := Aside0.mk (show stepR nx T q (a + 1) (stepQ nx L T q) = stepR nx T q a (stepQ nx L T q) from by rw [stepR, if_neg (by simp [hb])])
              clear hb
              generalize stepR nx T q a (stepQ nx L T q) = x at HB HE hx32 ⊢
              generalize nxF nx q a = t at HB hto hc5
              go_wp2
              go_roundg (L - (a + 1))
              case measure => omega
              case rel => exact ⟨a + 1, by omega, by omega, by go_num, by rw [HE.out], rfl⟩
          · have hae : a = L := by omega
            subst hae
            go_wp2
            go_roundg (nx.length - (q + 1))
            case measure => omega
            case rel => exact ⟨q + 1, by omega, by omega, by go_num, rfl, rfl⟩
      · have hqe : q = nx.length := by omega
        subst hqe
        have HX := Aside0.mk (stepQ_lt HOK.out HT.out.1 nx.length (Nat.le_refl _))
        have HGE := Aside0.mk (stepA_ge nx L T)
        by_cases he : stepQ nx L T nx.length = T
        · have HE := Aside0.mk (show T = reachN nx L S from by rw [← HT.out.2]; exact (reachN_end HOK.out HT.out.1 he).symm)
          have hez : ((stepQ nx L T nx.length : Nat) : Int) = (T : Int) := by omega
          rw [hez]
          clear he hez
          go_wp2
          go_ret
          exact ⟨by rw [← HE.out]; rfl, BW.out⟩
        · have HE := Aside0.mk (show reachN nx L (stepQ nx L T nx.length) = reachN nx L S from by rw [← HT.out.2]; exact (reachN_step HOK.out HT.out.1 he).symm)
          have hez : (((stepQ nx L T nx.length : Nat) : Int) == (T : Int)) = false := by simp; omega
          have hne := Aside0.mk he
          clear he
          have HG2 := Aside0.mk (show T ≤ stepQ nx L T nx.length from HGE.out)
          generalize stepQ nx L T nx.length = x at hez HX HE hne HG2 ⊢
          go_wp2
          go_roundg (2 ^ nx.length - x)
          case measure =>
            have h1 := HG2.out
            have h2 := hne.out
            have h3 := HT.out.1
            have h4 := HX.out
            clear hT32
            generalize 2 ^ nx.length = P at *
            omega
          case rel => exact ⟨x, ⟨HX.out, HE.out⟩, Nat.le_refl _, rfl, rfl⟩
end Go.Proofs.Ytampgoendkjkhaa.H
