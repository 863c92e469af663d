/- Who goes to and fro, and who goes one way: the walk of the given package, with its plain law. -/
import Derived.Test.YtampgoendkjkhaaDc
import Derived.Test.YtampgoendkjkhaaBt
namespace Go.Proofs.Ytampgoendkjkhaa.H
open Go.RowKit Go.Shelf Go.Proofs.YtampgoendkjkhaaW.PrintWords Go.Proofs.YtampgoendkjkhaaW.PrintMore Go.Proofs.Ytampgoendkjkhaa.DtM
set_option linter.unusedVariables false
set_option linter.unusedSimpArgs false
/-- an automaton with at most 5 states -/
structure SmOk (L st : Nat) (nx : List (List Int)) (ms : List Int) : Prop where
  n1 : 1 ≤ nx.length
  n5 : nx.length ≤ 5
  L1 : 1 ≤ L
  L4 : L ≤ 4
  len : ms.length = nx.length
  row : ∀ r ∈ nx, r.length = L
  st : st < nx.length
  tos : ∀ r ∈ nx, ∀ x ∈ r, 0 ≤ x ∧ x < (nx.length : Int)
  mks : ∀ m ∈ ms, m = 0 ∨ m = 1
theorem SmOk.det {L st : Nat} {nx : List (List Int)} {ms : List Int} (h : SmOk L st nx ms) : DetOk L nx ms :=
  ⟨h.n1, by have := h.n5; omega, h.L1, h.L4, h.row, h.tos, h.len, fun x hx => by rcases h.mks x hx with e | e <;> omega⟩
theorem bits_or_pow (x t : Nat) (hx : x < 2 ^ 62) (ht : t < 62) : bits .or .i64 (x : Int) (wrap64 (2 ^ t)) = ((x ||| 2 ^ t : Nat) : Int) := by
  have h2 := pow_lt62 t ht
  have e : wrap64 (2 ^ t) = ((2 ^ t : Nat) : Int) := by
    have h3 : ((2 : Int) ^ t) = ((2 ^ t : Nat) : Int) := by simp
    rw [h3]
    generalize 2 ^ t = z at h2
    unfold wrap64; omega
  rw [e, bits_or _ _ (by omega) (by omega)]
theorem or_pow_lt {x t n : Nat} (hx : x < 2 ^ n) (ht : t < n) : x ||| 2 ^ t < 2 ^ n := Nat.or_lt_two_pow hx (Nat.pow_lt_pow_right (by omega) ht)
theorem pow_le62 {x n : Nat} (hx : x < 2 ^ n) (hn : n ≤ 5) : x < 32 := Nat.lt_of_lt_of_le hx (Nat.le_trans (Nat.pow_le_pow_right (by omega) hn) (by decide))
/-! ### where a letter leads -/
def nextK (nx : List (List Int)) (a S : Nat) : Nat → Nat
  | 0 => 0
  | i + 1 => nextK nx a S i ||| (if S.testBit i then 2 ^ (nxF nx i a) else 0)
theorem nextK_lt {L st : Nat} {nx : List (List Int)} {ms : List Int} (h : SmOk L st nx ms) {a S : Nat} (ha : a < L) : ∀ i, i ≤ nx.length → nextK nx a S i < 2 ^ nx.length
  | 0, _ => Nat.two_pow_pos _
  | i + 1, hi => by
    unfold nextK
    refine Nat.or_lt_two_pow (nextK_lt h ha i (by omega)) ?_
    split
    · exact Nat.pow_lt_pow_right (by omega) (nx_lt h.det (by omega) ha)
    · exact Nat.two_pow_pos _
/-! ### what can be come to -/
def stepR (nx : List (List Int)) (S q : Nat) : Nat → Nat → Nat
  | 0, x => x
  | a + 1, x => if S.testBit q then stepR nx S q a x ||| 2 ^ (nxF nx q a) else stepR nx S q a x
def stepQ (nx : List (List Int)) (L S : Nat) : Nat → Nat
  | 0 => S
  | q + 1 => stepR nx S q L (stepQ nx L S q)
def stepA (nx : List (List Int)) (L S : Nat) : Nat := stepQ nx L S nx.length
theorem stepR_lt {L st : Nat} {nx : List (List Int)} {ms : List Int} (h : SmOk L st nx ms) {S q : Nat} (hq : q < nx.length) : ∀ a x, a ≤ L → x < 2 ^ nx.length → stepR nx S q a x < 2 ^ nx.length
  | 0, x, _, hx => hx
  | a + 1, x, ha, hx => by
    unfold stepR
    split
    · exact or_pow_lt (stepR_lt h hq a x (by omega) hx) (nx_lt h.det hq (by omega))
    · exact stepR_lt h hq a x (by omega) hx
theorem stepQ_lt {L st : Nat} {nx : List (List Int)} {ms : List Int} (h : SmOk L st nx ms) {S : Nat} (hS : S < 2 ^ nx.length) : ∀ q, q ≤ nx.length → stepQ nx L S q < 2 ^ nx.length
  | 0, _ => hS
  | q + 1, hq => by
    unfold stepQ
    exact stepR_lt h (by omega) L _ (Nat.le_refl _) (stepQ_lt h hS q (by omega))
theorem stepR_sup (nx : List (List Int)) (S q : Nat) : ∀ a x p, x.testBit p = true → (stepR nx S q a x).testBit p = true
  | 0, x, p, h => h
  | a + 1, x, p, h => by
    unfold stepR
    have := stepR_sup nx S q a x p h
    split
    · rw [Nat.testBit_or, this]; rfl
    · exact this
theorem stepQ_sup (nx : List (List Int)) (L S : Nat) : ∀ q p, S.testBit p = true → (stepQ nx L S q).testBit p = true
  | 0, p, h => h
  | q + 1, p, h => by
    unfold stepQ
    exact stepR_sup nx S q L _ p (stepQ_sup nx L S q p h)
theorem sup_le {x y : Nat} (h : ∀ p, x.testBit p = true → y.testBit p = true) : x ≤ y := by
  have : x ||| y = y := by
    apply Nat.eq_of_testBit_eq
    intro p
    rw [Nat.testBit_or]
    cases hx : x.testBit p with
    | false => simp
    | true => rw [h p hx]; rfl
  rw [← this]; exact Nat.left_le_or
theorem stepA_ge (nx : List (List Int)) (L S : Nat) : S ≤ stepA nx L S := sup_le (stepQ_sup nx L S nx.length)
def reachG (nx : List (List Int)) (L : Nat) : Nat → Nat → Nat
  | 0, S => S
  | g + 1, S => if stepA nx L S = S then S else reachG nx L g (stepA nx L S)
/-- all that can be come to from a set -/
def reachN (nx : List (List Int)) (L S : Nat) : Nat := reachG nx L (2 ^ nx.length) S
theorem reachG_fix {L st : Nat} {nx : List (List Int)} {ms : List Int} (h : SmOk L st nx ms) : ∀ g S, S < 2 ^ nx.length → 2 ^ nx.length - S ≤ g → reachG nx L g S < 2 ^ nx.length ∧ stepA nx L (reachG nx L g S) = reachG nx L g S
  | 0, S, hS, hg => by omega
  | g + 1, S, hS, hg => by
    unfold reachG
    by_cases e : stepA nx L S = S
    · rw [if_pos e]; exact ⟨hS, e⟩
    · rw [if_neg e]
      have h1 := stepA_ge nx L S
      have h2 := stepQ_lt h hS nx.length (Nat.le_refl _)
      exact reachG_fix h g _ h2 (by unfold stepA at *; omega)
theorem reachG_more {L st : Nat} {nx : List (List Int)} {ms : List Int} (h : SmOk L st nx ms) : ∀ g g' S, S < 2 ^ nx.length → 2 ^ nx.length - S ≤ g → 2 ^ nx.length - S ≤ g' → reachG nx L g S = reachG nx L g' S
  | 0, g', S, hS, hg, _ => by omega
  | g + 1, 0, S, hS, _, hg => by omega
  | g + 1, g' + 1, S, hS, hg, hg' => by
    unfold reachG
    by_cases e : stepA nx L S = S
    · rw [if_pos e, if_pos e]
    · rw [if_neg e, if_neg e]
      have h1 := stepA_ge nx L S
      have h2 := stepQ_lt h hS nx.length (Nat.le_refl _)
      exact reachG_more h g g' _ h2 (by unfold stepA at *; omega) (by unfold stepA at *; omega)
theorem reachN_step {L st : Nat} {nx : List (List Int)} {ms : List Int} (h : SmOk L st nx ms) {S : Nat} (hS : S < 2 ^ nx.length) (hne : stepA nx L S ≠ S) : reachN nx L S = reachN nx L (stepA nx L S) := by
  have h1 := stepA_ge nx L S
  have h2 := stepQ_lt h hS nx.length (Nat.le_refl _)
  unfold reachN
  rw [reachG_more h _ (2 ^ nx.length + 1) S hS (by omega) (by omega)]
  rw [show reachG nx L (2 ^ nx.length + 1) S = reachG nx L (2 ^ nx.length) (stepA nx L S) from by rw [reachG, if_neg hne]]
theorem reachN_end {L st : Nat} {nx : List (List Int)} {ms : List Int} (h : SmOk L st nx ms) {S : Nat} (hS : S < 2 ^ nx.length) (he : stepA nx L S = S) : reachN nx L S = S := by
  obtain ⟨g, hg⟩ : ∃ g, 2 ^ nx.length = g + 1 := ⟨2 ^ nx.length - 1, by have := Nat.two_pow_pos nx.length; omega⟩
  unfold reachN
  rw [hg, reachG, if_pos he]
set_option maxHeartbeats 4000000 in
set_option maxRecDepth 100000 in
theorem hg_ahead (L st : Nat) (A2 A3 : Option Addr) (c2 c3 : Nat) (nx : List (List Int)) (ms : List Int) (S : Nat) (w : World) (hr2 : Kd.C (Kd.slice 3 (Kd.int .i64)) w A2 nx.length nx) (hok : SmOk L st nx ms) (hS : S < 2 ^ nx.length) :
    Calls Try.prog 94 #[.agg #[.int .i64 (L : Int), .int .i64 (st : Int), .slice A2 nx.length c2, .slice A3 ms.length c3], .int .i64 (S : Int)] w fun e w' => e = .returned (.int .i64 ((reachN nx L S : Nat) : Int)) ∧ Below w.heap.size w w' := by
  have HR := Aside0.mk hr2
  have HOK := Aside0.mk hok
  have hn5 := hok.n5
  have hL4 := hok.L4
  have HS := Aside0.mk hS
  clear hr2 hok hS
  go_enter Try.func94, Try.ntmps94
  go_wp2
  have BW := Aside0.mk (below_alloc (Below.refl w.heap.size w) (.cells #[.int .i64 (L : Int), .int .i64 (st : Int), .slice A2 nx.length c2, .slice A3 ms.length c3] 101))
  have BX := Aside0.mk (blk_new w (.cells #[.int .i64 (L : Int), .int .i64 (st : Int), .slice A2 nx.length c2, .slice A3 ms.length c3] 101))
  generalize w.alloc (.cells #[.int .i64 (L : Int), .int .i64 (st : Int), .slice A2 nx.length c2, .slice A3 ms.length c3] 101) = W1 at BW BX ⊢
  have k2 : W1.cell? ⟨w.heap.size, 2, none⟩ = some (.slice A2 nx.length c2) := (blk_cell BX.out 2).trans rfl
  go_loopg [1] (2 ^ nx.length) (fun gg s1 wr => ∃ T : Nat, Aside0 (T < 2 ^ nx.length ∧ reachN nx L T = reachN nx L S) ∧ 2 ^ nx.length - T ≤ gg ∧ s1 = .int .i64 (T : Int) ∧ wr = W1)
  case atStart => exact ⟨S, ⟨HS.out, rfl⟩, Nat.sub_le _ _, rfl, rfl⟩
  case round =>
    obtain ⟨T, HT, hg, rfl, rfl⟩ := hrel
    have hT32 := pow_le62 HT.out.1 hn5
    go_wp2
    go_loopg [5, 14] nx.length (fun gg s5 s14 wq => ∃ q : Nat, q ≤ nx.length ∧ nx.length - q ≤ gg ∧ s14 = .int .i64 (q : Int) ∧ s5 = .int .i64 ((stepQ nx L T q : Nat) : Int) ∧ wq = wr)
    case atStart => exact ⟨0, Nat.zero_le _, by omega, rfl, rfl, rfl⟩
    case round =>
      obtain ⟨q, hq, hgq, rfl, rfl, rfl⟩ := hrel
      by_cases hql : q < nx.length
      · have hqz : (q : Int) < (nx.length : Int) := by omega
        obtain ⟨ad, A4, c4, rfl, hle, hrow, hc⟩ := row_get (Kd.C_below HR.out BW.out) rfl hql
        have hrl := HOK.out.row _ (List.getElem_mem hql)
        have HTO := Aside0.mk (HOK.out.tos _ (List.getElem_mem hql))
        have HNF := Aside0.mk (show ∀ a (ha : a < nx[q].length), nx[q][a] = (nxF nx q a : Int) from fun a ha => by
          have := HTO.out _ (List.getElem_mem ha)
          unfold nxF
          have e1 : nx.getD q [] = nx[q] := by rw [List.getD_eq_getElem?_getD, List.getElem?_eq_getElem hql, Option.getD_some]
          rw [e1, List.getD_eq_getElem?_getD, List.getElem?_eq_getElem ha, Option.getD_some]
          omega)
        rw [hrl] at hc
        have HRW := Aside0.mk hrow
        have HRL := Aside0.mk hrl
        have HSQ := Aside0.mk (stepQ_lt HOK.out HT.out.1 q (by omega))
        clear hrow hrl hle
        go_wp2
        go_loopg [5, 21] L (fun gg s5 s21 wq => ∃ a : Nat, a ≤ L ∧ L - a ≤ gg ∧ s21 = .int .i64 (a : Int) ∧ s5 = .int .i64 ((stepR nx T q a (stepQ nx L T q) : Nat) : Int) ∧ wq = wr)
        case atStart => exact ⟨0, Nat.zero_le _, by omega, rfl, rfl, rfl⟩
        case round =>
          obtain ⟨a, ha, hga, rfl, rfl, rfl⟩ := hrel
          by_cases hal : a < L
          · have haz : (a : Int) < (L : Int) := by omega
            obtain ⟨ad5, rfl, hc5⟩ := int_get HRW.out rfl (by rw [HRL.out]; exact hal)
            rw [HNF.out a (by rw [HRL.out]; exact hal)] at hc5
            have hto := nx_lt HOK.out.det hql hal
            have hx32 := pow_le62 (stepR_lt (S := T) HOK.out hql a _ ha HSQ.out) hn5
            have HB := Aside0.mk (bits_or_pow (stepR nx T q a (stepQ nx L T q)) (nxF nx q a) (by omega) (by omega))
            cases hb : T.testBit q with
            | true =>
              have hqq : (bits .and .i64 ((T : Int) / 2 ^ q) 1 == 1) = true := by rw [bits_test1 T q (by omega), hb]
              have HE := Aside0.mk (show stepR nx T q (a + 1) (stepQ nx L T q) = stepR nx T q a (stepQ nx L T q) ||| 2 ^ (nxF nx q a) from by rw [stepR, if_pos hb])
              clear hb
              generalize stepR nx T q a (stepQ nx L T q) = x at HB HE hx32 ⊢
              generalize nxF nx q a = t at HB HE hto hc5
              go_wp2
              go_roundg (L - (a + 1))
              case measure => omega
              case rel => exact ⟨a + 1, by omega, by omega, by go_num, by rw [HE.out, ← HB.out], rfl⟩
            | false =>
              have hqq : (bits .and .i64 ((T : Int) / 2 ^ q) 1 == 1) = false := by rw [bits_test1 T q (by omega), hb]
              have HE := Aside0.mk (show stepR nx T q (a + 1) (stepQ nx L T q) = stepR nx T q a (stepQ nx L T q) from by rw [stepR, if_neg (by simp [hb])])
              clear hb
              generalize stepR nx T q a (stepQ nx L T q) = x at HB HE hx32 ⊢
              generalize nxF nx q a = t at HB hto hc5
              go_wp2
              go_roundg (L - (a + 1))
              case measure => omega
              case rel => exact ⟨a + 1, by omega, by omega, by go_num, by rw [HE.out], rfl⟩
          · have hae : a = L := by omega
            subst hae
            go_wp2
            go_roundg (nx.length - (q + 1))
            case measure => omega
            case rel => exact ⟨q + 1, by omega, by omega, by go_num, rfl, rfl⟩
      · have hqe : q = nx.length := by omega
        subst hqe
        have HX := Aside0.mk (stepQ_lt HOK.out HT.out.1 nx.length (Nat.le_refl _))
        have HGE := Aside0.mk (stepA_ge nx L T)
        by_cases he : stepQ nx L T nx.length = T
        · have HE := Aside0.mk (show T = reachN nx L S from by rw [← HT.out.2]; exact (reachN_end HOK.out HT.out.1 he).symm)
          have hez : ((stepQ nx L T nx.length : Nat) : Int) = (T : Int) := by omega
          rw [hez]
          clear he hez
          go_wp2
          go_ret
          exact ⟨by rw [← HE.out]; rfl, BW.out⟩
        · have HE := Aside0.mk (show reachN nx L (stepQ nx L T nx.length) = reachN nx L S from by rw [← HT.out.2]; exact (reachN_step HOK.out HT.out.1 he).symm)
          have hez : (((stepQ nx L T nx.length : Nat) : Int) == (T : Int)) = false := by simp; omega
          have hne := Aside0.mk he
          clear he
          have HG2 := Aside0.mk (show T ≤ stepQ nx L T nx.length from HGE.out)
          generalize stepQ nx L T nx.length = x at hez HX HE hne HG2 ⊢
          go_wp2
          go_roundg (2 ^ nx.length - x)
          case measure =>
            have h1 := HG2.out
            have h2 := hne.out
            have h3 := HT.out.1
            have h4 := HX.out
            clear hT32
            generalize 2 ^ nx.length = P at *
            omega
          case rel => exact ⟨x, ⟨HX.out, HE.out⟩, Nat.le_refl _, rfl, rfl⟩
end Go.Proofs.Ytampgoendkjkhaa.H

namespace Go.Proofs.Ytampgoendkjkhaa.H
open Go.RowKit Go.Shelf Go.Proofs.YtampgoendkjkhaaW.PrintWords Go.Proofs.YtampgoendkjkhaaW.PrintMore Go.Proofs.Ytampgoendkjkhaa.DtM
set_option linter.unusedVariables false
set_option linter.unusedSimpArgs false
def MoreAt (g : Nat) (lb : Array Value) (mr : Nat → Nat → Nat) (N : Nat) (w : World) : Prop :=
  ∀ (W : World) (S X : Nat), Below w.heap.size w W → S < N → X < N → Calls Try.prog g (#[.int .i64 (S : Int), .int .i64 (X : Int)] ++ lb) W fun e W' => e = .returned (.int .i64 ((mr S X : Nat) : Int)) ∧ Below W.heap.size W W'
theorem up1_calls (S X : Nat) (w : World) (hS : S < 32) (hX : X < 32) : Calls Try.prog 93 #[.int .i64 (S : Int), .int .i64 (X : Int)] w fun e w' => e = .returned (.int .i64 ((S ||| X : Nat) : Int)) ∧ w = w' := by
  have HB := Aside0.mk (bits_or S X (by omega) (by omega))
  go_enter Try.func93, Try.ntmps93
  go_wp2
  go_ret
  exact ⟨by rw [← HB.out]; rfl, rfl⟩
def hgMk (good : Nat) (S : Int) : Int := if S.toNat &&& good = 0 then 0 else 1
theorem hs2_calls (S good : Nat) (B : Nat) (w : World) (hc : w.cell? ⟨B, 0, none⟩ = some (.int .i64 (good : Int))) (hS : S < 32) (hg : good < 32) :
    Calls Try.prog 155 #[.int .i64 (S : Int), .pointer (some ⟨B, 0, none⟩)] w fun e w' => e = .returned (.int .i64 (hgMk good S)) ∧ w = w' := by
  have hb := bits_and S good (by omega) (by omega)
  have HR := Aside0.mk (show hgMk good (S : Int) = if S &&& good = 0 then 0 else 1 from by unfold hgMk; rw [Int.toNat_natCast])
  by_cases h : S &&& good = 0
  · have hq : (bits .and .i64 (S : Int) (good : Int) != 0) = false := by rw [hb, h]; rfl
    rw [if_pos h] at HR
    clear hb h
    go_enter Try.func155, Try.ntmps155
    go_wp2
    go_ret
    exact ⟨by rw [HR.out]; rfl, rfl⟩
  · have hq : (bits .and .i64 (S : Int) (good : Int) != 0) = true := by rw [hb]; simp; omega
    rw [if_neg h] at HR
    clear hb h
    go_enter Try.func155, Try.ntmps155
    go_wp2
    go_ret
    exact ⟨by rw [HR.out]; rfl, rfl⟩
set_option maxHeartbeats 2000000 in
theorem hs1_calls (g : Nat) (lb : Array Value) (eg : ∀ args w, (callFunc g args).run Try.prog w = .ok (.enter g args) w) (L st : Nat) (A2 A3 : Option Addr) (c2 c3 : Nat) (nx : List (List Int)) (ms : List Int) (mr : Nat → Nat → Nat) (S a : Nat) (b1 b2 : Nat) (w : World) (hr2 : Kd.C (Kd.slice 3 (Kd.int .i64)) w A2 nx.length nx) (hok : SmOk L st nx ms)
    (hx : w.heap[b1]? = some (.cells #[.int .i64 (L : Int), .int .i64 (st : Int), .slice A2 nx.length c2, .slice A3 ms.length c3] 101 (0, 0))) (hf : w.heap[b2]? = some (.cells #[.func (.func g) #[] lb] 196 (0, 0))) (hm : MoreAt g lb mr (2 ^ nx.length) w) (hS : S < 2 ^ nx.length) (ha : a < L) :
    Calls Try.prog 154 #[.int .i64 (S : Int), .int .i64 (a : Int), .pointer (some ⟨b1, 0, none⟩), .pointer (some ⟨b2, 0, none⟩)] w fun e w' => e = .returned (.int .i64 ((mr S (nextK nx a S nx.length) : Nat) : Int)) ∧ Below w.heap.size w w' := by
  have HR := Aside0.mk hr2
  have HOK := Aside0.mk hok
  have HM := Aside0.mk hm
  have HS := Aside0.mk hS
  have hn5 := hok.n5
  have hL4 := hok.L4
  have hS32 := pow_le62 hS hn5
  have k2 : w.cell? ⟨b1, 2, none⟩ = some (.slice A2 nx.length c2) := (blk_cell hx 2).trans rfl
  have kf : w.cell? ⟨b2, 0, none⟩ = some (.func (.func g) #[] lb) := (blk_cell hf 0).trans rfl
  clear hr2 hok hm hS hx hf
  go_enter Try.func154, Try.ntmps154
  go_wp2
  go_loopg [7, 13] nx.length (fun gg s7 s13 wr => ∃ i : Nat, i ≤ nx.length ∧ nx.length - i ≤ gg ∧ s13 = .int .i64 (i : Int) ∧ s7 = .int .i64 ((nextK nx a S i : Nat) : Int) ∧ wr = w)
  case atStart => exact ⟨0, Nat.zero_le _, by omega, rfl, rfl, rfl⟩
  case round =>
    obtain ⟨i, hi, hg, rfl, rfl, rfl⟩ := hrel
    have hx32 := pow_le62 (nextK_lt (S := S) HOK.out ha i hi) hn5
    by_cases hlt : i < nx.length
    · have hltz : (i : Int) < (nx.length : Int) := by omega
      obtain ⟨ad, A4, c4, rfl, hle, hrow, hc⟩ := row_get HR.out rfl hlt
      have hrl := HOK.out.row _ (List.getElem_mem hlt)
      have hal : a < nx[i].length := by omega
      obtain ⟨ad5, rfl, hc5⟩ := int_get hrow rfl hal
      have hNF : nx[i][a] = (nxF nx i a : Int) := by
        have := HOK.out.tos _ (List.getElem_mem hlt) _ (List.getElem_mem hal)
        unfold nxF
        have e1 : nx.getD i [] = nx[i] := by rw [List.getD_eq_getElem?_getD, List.getElem?_eq_getElem hlt, Option.getD_some]
        rw [e1, List.getD_eq_getElem?_getD, List.getElem?_eq_getElem hal, Option.getD_some]
        omega
      rw [hNF] at hc5
      rw [hrl] at hc
      have hto := nx_lt HOK.out.det hlt ha
      have HB := Aside0.mk (bits_or_pow (nextK nx a S i) (nxF nx i a) (by omega) (by omega))
      have haz : (a : Int) < (L : Int) := by omega
      clear hrow hrl hle hal hNF
      cases hb : S.testBit i with
      | true =>
        have hqq : (bits .and .i64 ((S : Int) / 2 ^ i) 1 == 1) = true := by rw [bits_test1 S i (by omega), hb]
        have HE := Aside0.mk (show nextK nx a S (i + 1) = nextK nx a S i ||| 2 ^ (nxF nx i a) from by rw [nextK, if_pos hb])
        clear hb
        generalize nextK nx a S i = x at HB HE hx32 ⊢
        generalize nxF nx i a = t at HB HE hto hc5
        go_wp2
        go_roundg (nx.length - (i + 1))
        case measure => omega
        case rel => exact ⟨i + 1, by omega, by omega, by go_num, by rw [HE.out, ← HB.out], rfl⟩
      | false =>
        have hqq : (bits .and .i64 ((S : Int) / 2 ^ i) 1 == 1) = false := by rw [bits_test1 S i (by omega), hb]
        have HE := Aside0.mk (show nextK nx a S (i + 1) = nextK nx a S i from by rw [nextK, if_neg (by simp [hb]), Nat.or_zero])
        clear hb
        generalize nextK nx a S i = x at HB HE hx32 ⊢
        generalize nxF nx i a = t at HB hto hc5
        go_wp2
        go_roundg (nx.length - (i + 1))
        case measure => omega
        case rel => exact ⟨i + 1, by omega, by omega, by go_num, by rw [HE.out], rfl⟩
    · have hie : i = nx.length := by omega
      subst hie
      have HC := Aside0.mk (HM.out wr S (nextK nx a S nx.length) (Below.refl _ _) HS.out (nextK_lt HOK.out ha nx.length (Nat.le_refl _)))
      go_wp2_with (go_at_fn g; refine HC.out.mono ?_; rintro e w6 ⟨rfl, hb6⟩)
      go_ret
      exact ⟨rfl, hb6⟩
/-! ### what sets explores -/
def hgF (nx : List (List Int)) (mr : Nat → Nat → Nat) (k : Int) (a : Nat) : Int := ((mr k.toNat (nextK nx a k.toNat nx.length) : Nat) : Int)
def hgU (nx : List (List Int)) : List Int := (List.range (2 ^ nx.length)).map fun i : Nat => (i : Int)
theorem mem_hgU (nx : List (List Int)) (x : Int) : x ∈ hgU nx ↔ ∃ i : Nat, x = (i : Int) ∧ i < 2 ^ nx.length := by
  unfold hgU
  rw [List.mem_map]
  constructor
  · rintro ⟨i, hi, rfl⟩; exact ⟨i, rfl, List.mem_range.1 hi⟩
  · rintro ⟨i, rfl, hi⟩; exact ⟨i, List.mem_range.2 hi, rfl⟩
theorem hgU_len (nx : List (List Int)) : (hgU nx).length = 2 ^ nx.length := by unfold hgU; rw [List.length_map, List.length_range]
theorem hgU_le {nx : List (List Int)} (h : nx.length ≤ 5) : (hgU nx).length ≤ 32 := by
  rw [hgU_len]; exact Nat.le_trans (Nat.pow_le_pow_right (by omega) h) (by decide)
theorem hgF_mem {L st : Nat} {nx : List (List Int)} {ms : List Int} (h : SmOk L st nx ms) {mr : Nat → Nat → Nat} (hmr : ∀ S X, S < 2 ^ nx.length → X < 2 ^ nx.length → mr S X < 2 ^ nx.length) (k : Int) (a : Nat) (hk : k ∈ hgU nx) (ha : a < L) : hgF nx mr k a ∈ hgU nx := by
  obtain ⟨i, rfl, hi⟩ := (mem_hgU nx k).1 hk
  refine (mem_hgU nx _).2 ⟨_, rfl, ?_⟩
  rw [Int.toNat_natCast]
  exact hmr _ _ hi (nextK_lt h ha _ (Nat.le_refl _))
def hgL (L : Nat) (nx : List (List Int)) (mr : Nat → Nat → Nat) (first : Nat) : List Int := expL (hgF nx mr) L ((hgU nx).length + 1) [((first : Nat) : Int)] 0
theorem hgL_expl {L st : Nat} {nx : List (List Int)} {ms : List Int} (h : SmOk L st nx ms) {mr : Nat → Nat → Nat} (hmr : ∀ S X, S < 2 ^ nx.length → X < 2 ^ nx.length → mr S X < 2 ^ nx.length) {first : Nat} (hf : first < 2 ^ nx.length) : Expl (hgF nx mr) L (hgU nx) ((first : Nat) : Int) (hgL L nx mr first) :=
  expl_of ((mem_hgU nx _).2 ⟨first, rfl, hf⟩) (fun k a hk ha => hgF_mem h hmr k a hk ha)
def hgRx (L : Nat) (nx : List (List Int)) (mr : Nat → Nat → Nat) (first : Nat) : List (List Int) := rowsL (hgF nx mr) L (hgL L nx mr first)
def hgMx (L : Nat) (nx : List (List Int)) (ms : List Int) (mr : Nat → Nat → Nat) (first : Nat) : List Int := (hgL L nx mr first).map (hgMk (bN (mkB ms) ms.length))
theorem hg_det {L st : Nat} {nx : List (List Int)} {ms : List Int} (h : SmOk L st nx ms) {mr : Nat → Nat → Nat} (hmr : ∀ S X, S < 2 ^ nx.length → X < 2 ^ nx.length → mr S X < 2 ^ nx.length) {first : Nat} (hf : first < 2 ^ nx.length) : DetOk L (hgRx L nx mr first) (hgMx L nx ms mr first) :=
  (hgL_expl h hmr hf).det (by have := hgU_le h.n5; omega) h.L1 h.L4 _ (fun x _ => by unfold hgMk; split <;> omega)
theorem more_below {g : Nat} {lb : Array Value} {mr : Nat → Nat → Nat} {N : Nat} {w W : World} (h : MoreAt g lb mr N w) (hb : Below w.heap.size w W) : MoreAt g lb mr N W :=
  fun W2 S X h2 hS hX => h W2 S X (below_step hb h2) hS hX
def DetPost0 (w w' : World) (e : Ending) (L : Int) (R : List (List Int)) (M : List Int) : Prop :=
  ∃ AN cN AM cM, e = .returned (.agg #[.int .i64 L, .int .i64 0, .slice AN R.length cN, .slice AM M.length cM]) ∧ Below w.heap.size w w' ∧
      ∃ sN sM : Nat → Prop, (∀ k, sM k → ¬ sN k) ∧ Kd.S (Kd.slice 3 (Kd.int .i64)) 22 w' w.heap.size sN (.slice AN R.length cN) R ∧ Kd.R (Kd.int .i64) 3 w' w.heap.size sM (.slice AM M.length cM) M
theorem hg_next (g : Nat) (lb : Array Value) (eg : ∀ args w, (callFunc g args).run Try.prog w = .ok (.enter g args) w) (L st : Nat) (A2 A3 : Option Addr) (c2 c3 : Nat) (nx : List (List Int)) (ms : List Int) (mr : Nat → Nat → Nat) (b1 b2 : Nat) (W0 : World) (hr2 : Kd.C (Kd.slice 3 (Kd.int .i64)) W0 A2 nx.length nx) (hok : SmOk L st nx ms)
    (hx : W0.heap[b1]? = some (.cells #[.int .i64 (L : Int), .int .i64 (st : Int), .slice A2 nx.length c2, .slice A3 ms.length c3] 101 (0, 0))) (hf : W0.heap[b2]? = some (.cells #[.func (.func g) #[] lb] 196 (0, 0))) (hm : MoreAt g lb mr (2 ^ nx.length) W0) :
    NextAt 154 #[.pointer (some ⟨b1, 0, none⟩), .pointer (some ⟨b2, 0, none⟩)] (hgF nx mr) (hgU nx) L W0 := by
  intro W k a hW hk ha
  obtain ⟨i, rfl, hi⟩ := (mem_hgU nx k).1 hk
  have hm' : MoreAt g lb mr (2 ^ nx.length) W := fun W2 S X h2 hS hX => hm W2 S X (below_step hW h2) hS hX
  have := hs1_calls g lb eg L st A2 A3 c2 c3 nx ms mr i a b1 b2 W (Kd.C_below hr2 hW) hok (blk_below hx hW) (blk_below hf hW) hm' hi ha
  unfold hgF
  rw [Int.toNat_natCast]
  exact this
theorem hg_mark (L st : Nat) (nx : List (List Int)) (ms : List Int) (B : Nat) (W0 : World) (hok : SmOk L st nx ms) (hx : W0.heap[B]? = some (.cells #[.int .i64 ((bN (mkB ms) ms.length : Nat) : Int)] 3 (0, 0))) : MarkAt 155 #[.pointer (some ⟨B, 0, none⟩)] (hgMk (bN (mkB ms) ms.length)) (hgU nx) W0 := by
  intro W k hW hk
  obtain ⟨i, rfl, hi⟩ := (mem_hgU nx k).1 hk
  refine (hs2_calls i _ B W ((blk_cell (blk_below hx hW) 0).trans rfl) (pow_le62 hi hok.n5) (pow_le62 (bN_lt _ _) (by have := hok.len; have := hok.n5; omega))).mono ?_
  rintro e w' ⟨he, rfl⟩
  exact ⟨he, Below.refl _ _⟩
theorem hgU_bound (nx : List (List Int)) (h : nx.length ≤ 5) : ∀ k ∈ hgU nx, -9223372036854775808 ≤ k ∧ k ≤ 9223372036854775807 := fun k hk => by
  obtain ⟨i, rfl, hi⟩ := (mem_hgU nx k).1 hk
  have := pow_le62 hi h
  omega
structure HsM (w W : World) (bR bG : Nat) (g : Nat) (lb : Array Value) (L st : Int) (A2 A3 : Option Addr) (n c2 m c3 : Nat) (gx : Nat) : Prop where
  b : Below w.heap.size w W
  x : W.heap[w.heap.size]? = some (.cells #[.int .i64 L, .int .i64 st, .slice A2 n c2, .slice A3 m c3] 101 (0, 0))
  f : W.heap[w.heap.size + 1]? = some (.cells #[.func (.func g) #[] lb] 196 (0, 0))
  r : W.heap[bR]? = some (.cells #[.int .i64 0, .int .i64 0, .slice none 0 0, .slice none 0 0] 101 (0, 0))
  g : W.heap[bG]? = some (.cells #[.int .i64 (gx : Int)] 3 (0, 0))
  eR : bR = w.heap.size + 2
  eG : bG = w.heap.size + 3
section
variable {w W W' : World} {bR bG g : Nat} {lb : Array Value} {L st : Int} {A2 A3 : Option Addr} {n c2 m c3 gx : Nat}
theorem HsM.below (h : HsM w W bR bG g lb L st A2 A3 n c2 m c3 gx) (hb : Below W.heap.size W W') : HsM w W' bR bG g lb L st A2 A3 n c2 m c3 gx :=
  ⟨below_step h.b hb, blk_below h.x hb, blk_below h.f hb, blk_below h.r hb, blk_below h.g hb, h.eR, h.eG⟩
theorem HsM.set (h : HsM w W bR bG g lb L st A2 A3 n c2 m c3 gx) (y : Nat) : HsM w (W.drew.setCell ⟨bG, 0, none⟩ (.int .i64 (y : Int))) bR bG g lb L st A2 A3 n c2 m c3 y := by
  have e1 := h.eR
  have e2 := h.eG
  exact ⟨below_set (below_drew1 h.b) (by show _ ≤ bG; omega), blk_far (blk_drew h.x) (p := ⟨bG, 0, none⟩) (by show _ ≠ bG; omega) _, blk_far (blk_drew h.f) (p := ⟨bG, 0, none⟩) (by show _ ≠ bG; omega) _, blk_far (blk_drew h.r) (p := ⟨bG, 0, none⟩) (by show _ ≠ bG; omega) _, blk_set (blk_drew h.g) 0 _, e1, e2⟩
end
set_option maxHeartbeats 8000000 in
set_option maxRecDepth 100000 in
theorem hgSets_calls (g : Nat) (lb : Array Value) (eg : ∀ args w, (callFunc g args).run Try.prog w = .ok (.enter g args) w) (L st : Nat) (A2 A3 : Option Addr) (c2 c3 : Nat) (nx : List (List Int)) (ms : List Int) (mr : Nat → Nat → Nat) (first : Nat) (w : World) (hr2 : Kd.C (Kd.slice 3 (Kd.int .i64)) w A2 nx.length nx) (hr3 : Kd.C (Kd.int .i64) w A3 ms.length ms) (hok : SmOk L st nx ms)
    (hm : MoreAt g lb mr (2 ^ nx.length) w) (hf : first < 2 ^ nx.length) (hmr : ∀ S X, S < 2 ^ nx.length → X < 2 ^ nx.length → mr S X < 2 ^ nx.length) :
    Calls Try.prog 92 #[.agg #[.int .i64 (L : Int), .int .i64 (st : Int), .slice A2 nx.length c2, .slice A3 ms.length c3], .int .i64 (first : Int), .func (.func g) #[] lb] w fun e w' =>
      DetPost0 w w' e (L : Int) (lstR L (hgRx L nx mr first) (hgMx L nx ms mr first) 0) (lstM L (hgRx L nx mr first) (hgMx L nx ms mr first) 0) := by
  have HR2 := Aside0.mk hr2
  have HR3 := Aside0.mk hr3
  have HOK := Aside0.mk hok
  have HM := Aside0.mk hm
  have HF := Aside0.mk hf
  have HMR := Aside0.mk hmr
  have hn5 := hok.n5
  have hL4 := hok.L4
  have hml := Aside0.mk hok.len
  have hm5 : ms.length ≤ 5 := by have := hok.len; omega
  have EG := Aside0.mk eg
  clear hr2 hr3 hok hm hf hmr eg
  go_enter Try.func92, Try.ntmps92
  go_wp2
  obtain ⟨bR, hbR⟩ : ∃ bR, w.heap.size + 1 + 1 = bR := ⟨_, rfl⟩
  obtain ⟨bG, hbG⟩ : ∃ bG, bR + 1 = bG := ⟨_, rfl⟩
  have M0 := Aside0.mk (show HsM w ((((w.alloc (.cells #[.int .i64 (L : Int), .int .i64 (st : Int), .slice A2 nx.length c2, .slice A3 ms.length c3] 101)).alloc (.cells #[.func (.func g) #[] lb] 196)).alloc (.cells #[.int .i64 0, .int .i64 0, .slice none 0 0, .slice none 0 0] 101)).alloc (.cells #[.int .i64 0] 3)) bR bG g lb (L : Int) (st : Int) A2 A3 nx.length c2 ms.length c3 (bN (mkB ms) 0) from
    ⟨below_alloc (below_alloc (below_alloc (below_alloc (Below.refl _ _) _) _) _) _, blk_alloc (blk_alloc (blk_alloc (blk_new w _) _) _) _, blk_alloc (blk_alloc (blk_newn _ _ _ (by simp)) _) _, blk_alloc (blk_newn _ _ _ (by rw [← hbR]; simp)) _, blk_newn _ _ _ (by rw [← hbG, ← hbR]; simp), by omega, by omega⟩)
  rw [hbR, hbG]
  generalize (((w.alloc (.cells #[.int .i64 (L : Int), .int .i64 (st : Int), .slice A2 nx.length c2, .slice A3 ms.length c3] 101)).alloc (.cells #[.func (.func g) #[] lb] 196)).alloc (.cells #[.int .i64 0, .int .i64 0, .slice none 0 0, .slice none 0 0] 101)).alloc (.cells #[.int .i64 0] 3) = W1 at M0 ⊢
  clear hbR hbG
  go_loopg [15] ms.length (fun gg s15 wr => ∃ i : Nat, i ≤ ms.length ∧ ms.length - i ≤ gg ∧ s15 = .int .i64 (i : Int) ∧ Aside0 (HsM w wr bR bG g lb (L : Int) (st : Int) A2 A3 nx.length c2 ms.length c3 (bN (mkB ms) i)))
  case atStart => exact ⟨0, Nat.zero_le _, by omega, rfl, M0⟩
  case round =>
    obtain ⟨i, hi, hgg, rfl, MM⟩ := hrel
    clear M0
    have kG : wr.cell? ⟨bG, 0, none⟩ = some (.int .i64 ((bN (mkB ms) i : Nat) : Int)) := (blk_cell MM.out.g 0).trans rfl
    have fG := blk_frozen MM.out.g 0
    by_cases hlt : i < ms.length
    · have hltz : (i : Int) < (ms.length : Int) := by omega
      obtain ⟨ad, rfl, hc⟩ := int_get (Kd.C_below HR3.out MM.out.b) rfl hlt
      rw [mk_get HOK.out.mks hlt] at hc
      cases hb : mkB ms i with
      | true =>
        rw [hb, if_pos rfl] at hc
        have HE := Aside0.mk (bN_or' (mkB ms) i (by omega) hb)
        clear hb
        go_wp2
        go_region
        all_goals go_wp2
        all_goals
          go_roundg (ms.length - (i + 1))
          case measure => omega
          case rel => exact ⟨i + 1, by omega, by omega, by go_num, ⟨by rw [HE.out]; exact MM.out.set _⟩⟩
      | false =>
        rw [hb, if_neg (by simp)] at hc
        have HE := Aside0.mk (bN_or0 (mkB ms) i (by omega) hb)
        clear hb
        go_wp2
        go_region
        all_goals go_wp2
        all_goals
          go_roundg (ms.length - (i + 1))
          case measure => omega
          case rel => exact ⟨i + 1, by omega, by omega, by go_num, ⟨by rw [HE.out]; exact MM.out.set _⟩⟩
    · have hie : i = ms.length := by omega
      subst hie
      have x0 : wr.cell? ⟨w.heap.size, 0, none⟩ = some (.int .i64 (L : Int)) := (blk_cell MM.out.x 0).trans rfl
      have EQ := Aside0.mk (And.intro MM.out.eR MM.out.eG)
      clear hlt hgg hi kG fG
      go_wp2_with (first
        | (go_at_call 153
           refine (explore_calls 154 155 _ _ (enters_of Try.func154 (by kernel_rfl) rfl) (enters_of Try.func155 (by kernel_rfl) rfl) L ((first : Nat) : Int) _ (hgF nx mr) (hgMk (bN (mkB ms) ms.length)) (hgU nx) wr (hg_next g lb EG.out L st A2 A3 c2 c3 nx ms mr w.heap.size (w.heap.size + 1) wr (Kd.C_below HR2.out MM.out.b) HOK.out MM.out.x MM.out.f (more_below HM.out MM.out.b)) (hg_mark L st nx ms bG wr HOK.out MM.out.g) HOK.out.L1 (by omega) ((mem_hgU nx _).2 ⟨first, rfl, HF.out⟩) (fun k a hk ha => hgF_mem HOK.out HMR.out k a hk ha) (hgU_bound nx hn5) (by have := hgU_le hn5; omega) (by have := hgU_le hn5; omega)).mono ?_
           rintro e w9 ⟨vN, vM, rfl, hb9, sN, sM, hd9, hN9, hM9⟩
           rw [show rowsL (hgF nx mr) L (expL (hgF nx mr) L ((hgU nx).length + 1) [((first : Nat) : Int)] 0) = hgRx L nx mr first from rfl] at hN9
           rw [show (expL (hgF nx mr) L ((hgU nx).length + 1) [((first : Nat) : Int)] 0).map (hgMk (bN (mkB ms) ms.length)) = hgMx L nx ms mr first from rfl] at hM9
           obtain ⟨AN, cN, rfl⟩ := Kd.S_slice hN9
           obtain ⟨AM, cM, rfl⟩ := Kd.R_slice hM9
           have M9 := Aside0.mk (MM.out.below hb9)
           have N9 := Aside0.mk (Kd.S_reads' hN9).2
           have K9 := Aside0.mk (Kd.R_reads' hM9).2
           clear hb9 hd9 hN9 hM9 x0)
        | (go_at_call 98
           refine (smallest_calls AN AM cN cM L 0 (hgRx L nx mr first) (hgMx L nx ms mr first) _ (Kd.C_below N9.out.2 (below_alloc (Below.refl _ _) _)) N9.out.1 (Kd.C_below K9.out.2 (below_alloc (Below.refl _ _) _)) K9.out.1 (hg_det HOK.out HMR.out HF.out) (hg_det HOK.out HMR.out HF.out).pos).mono ?_
           rintro e w10 ⟨vN, vM, rfl, hb10, sN, sM, hd10, hN10, hM10⟩
           obtain ⟨R, hR⟩ : ∃ R, lstR L (hgRx L nx mr first) (hgMx L nx ms mr first) 0 = R := ⟨_, rfl⟩
           obtain ⟨Mk, hMk⟩ : ∃ Mk, lstM L (hgRx L nx mr first) (hgMx L nx ms mr first) 0 = Mk := ⟨_, rfl⟩
           replace hN10 := hR ▸ (show Kd.S (Kd.slice 3 (Kd.int .i64)) 22 w10 _ sN vN (lstR L (hgRx L nx mr first) (hgMx L nx ms mr first) 0) from hN10)
           replace hM10 := hMk ▸ (show Kd.R (Kd.int .i64) 3 w10 _ sM vM (lstM L (hgRx L nx mr first) (hgMx L nx ms mr first) 0) from hM10)
           have HRR := Aside0.mk (And.intro hR hMk)
           obtain ⟨AR, cR, rfl⟩ := Kd.S_slice hN10
           obtain ⟨AM2, cM2, rfl⟩ := Kd.R_slice hM10
           have M10 := Aside0.mk (M9.out.below (below_step (below_alloc (Below.refl _ _) _) hb10))
           have hz9 : bR < w9.heap.size := blk_lt M9.out.r
           have Z10 := Aside0.mk M10.out.r
           have hzr : bR < w10.heap.size := blk_lt Z10.out
           have r0 := (blk_cell Z10.out 0).trans rfl
           have rf0 := blk_frozen Z10.out 0
           have r1 := (blk_cell Z10.out 1).trans rfl
           have rf1 := blk_frozen Z10.out 1
           have r2 := (blk_cell Z10.out 2).trans rfl
           have rf2 := blk_frozen Z10.out 2
           have r3 := (blk_cell Z10.out 3).trans rfl
           have rf3 := blk_frozen Z10.out 3
           have N10 := Aside0.mk (show Kd.S (Kd.slice 3 (Kd.int .i64)) 22 w10 (w9.heap.size + 1) sN (.slice AR R.length cR) R from Kd.S_lower hN10 (by simp))
           have K10 := Aside0.mk (show Kd.R (Kd.int .i64) 3 w10 (w9.heap.size + 1) sM (.slice AM2 Mk.length cM2) Mk from Kd.R_lower hM10 (by simp))
           have HD10 := Aside0.mk hd10
           clear hb10 hd10 hN10 hM10 hR hMk)
        | fail)
      rw [HRR.out.1, HRR.out.2]
      have hlo : w.heap.size ≤ bR := by have := EQ.out.1; omega
      have hlt1 : bR < w9.heap.size + 1 := by omega
      have hg3 : w.heap.size ≤ w9.heap.size + 1 := by omega
      refine bodyPost_ret (resC rfl _ _ bR (.int .i64 (L : Int)) (.int .i64 0) (.slice AR R.length cR) (.slice AM2 Mk.length cM2) rfl (by go_simp) (by go_simp) (by go_simp) (by go_simp)) rfl ?_
      refine ⟨AR, cR, AM2, cM2, rfl, ?_, sN, sM, HD10.out, Kd.S_lower (base := w9.heap.size + 1) ?_ hg3, Kd.R_lower (base := w9.heap.size + 1) ?_ hg3⟩
      · with_reducible repeat (first | exact M10.out.b | refine below_set ?_ hlo)
      · with_reducible repeat (first | exact N10.out | refine S_set' ?_ hlt1 _)
      · with_reducible repeat (first | exact K10.out | refine R_set' ?_ hlt1 _)
end Go.Proofs.Ytampgoendkjkhaa.H

namespace Go.Proofs.Ytampgoendkjkhaa.H
open Go.RowKit Go.Shelf Go.Proofs.YtampgoendkjkhaaW.PrintWords Go.Proofs.YtampgoendkjkhaaW.PrintMore Go.Proofs.Ytampgoendkjkhaa.DtM
set_option linter.unusedVariables false
set_option linter.unusedSimpArgs false
theorem detOk_of {L st : Int} {nx : List (List Int)} {ms : List Int} (h : dCheck L st nx ms = 0) : ∃ L' st' : Nat, L = (L' : Int) ∧ st = (st' : Int) ∧ st' < nx.length ∧ nx.length ≤ 3000 ∧ (∀ m ∈ ms, m = 0 ∨ m = 1) ∧ DetOk L' nx ms := by
  unfold dCheck at h
  split at h
  · omega
  rename_i h1
  split at h
  · omega
  rename_i h2
  split at h
  · omega
  rename_i h3
  split at h
  · omega
  rename_i h4
  split at h
  · omega
  rename_i h5
  simp only [Bool.or_eq_true, not_or, Bool.not_eq_true] at h4
  have hno : ∀ n p : Int, noB n p = false → 0 ≤ p ∧ p < n := fun n p h => by
    unfold noB at h; simp only [Bool.or_eq_false_iff, decide_eq_false_iff_not] at h; omega
  have hst := hno _ _ h4.1
  have hs : ¬ dShape L nx = true := fun q => h3 (.inr q)
  have hm : ∀ m ∈ ms, m = 0 ∨ m = 1 := by
    intro m hm
    have := List.any_eq_false.1 (Bool.not_eq_true _ ▸ h5) m hm
    rw [Bool.not_eq_true] at this
    unfold dbit at this
    simp at this
    omega
  refine ⟨L.toNat, st.toNat, by omega, by omega, by omega, by omega, hm, by omega, by omega, by omega, by omega, ?_, ?_, ?_, ?_⟩
  · intro r hr
    rw [Bool.not_eq_true] at hs
    have := List.any_eq_false.1 hs r hr
    simp at this
    omega
  · intro r hr x hx
    have q1 := List.any_eq_false.1 h4.2 r hr
    rw [Bool.not_eq_true] at q1
    have q2 := List.any_eq_false.1 q1 x hx
    rw [Bool.not_eq_true] at q2
    exact hno _ _ q2
  · exact Classical.byContradiction fun q => h3 (.inl q)
  · intro m hm'
    rcases hm m hm' with e | e <;> omega
def smF (L st : Int) (nx : List (List Int)) (ms : List Int) : Int := if dCheck L st nx ms ≠ 0 then dCheck L st nx ms else if 5 < (nx.length : Int) then 1 else 0
theorem smOk_of {L st : Int} {nx : List (List Int)} {ms : List Int} (h : smF L st nx ms = 0) : ∃ L' st' : Nat, L = (L' : Int) ∧ st = (st' : Int) ∧ SmOk L' st' nx ms := by
  unfold smF at h
  split at h
  · rename_i h1; exact absurd h h1
  rename_i h1
  split at h
  · cases h
  rename_i h2
  obtain ⟨L', st', e1, e2, h3, h4, h5, h6⟩ := detOk_of (Classical.not_not.1 h1)
  exact ⟨L', st', e1, e2, h6.pos, by omega, h6.L1, h6.L4, h6.len, h6.row, h3, h6.tos, h5⟩
theorem small_calls (L st : Int) (A2 A3 : Option Addr) (c2 c3 : Nat) (nx : List (List Int)) (ms : List Int) (w : World) (hr2 : Kd.C (Kd.slice 3 (Kd.int .i64)) w A2 nx.length nx) (hr3 : Kd.C (Kd.int .i64) w A3 ms.length ms) :
    Calls Try.prog 87 (dArgs L st A2 A3 c2 c3 nx ms) w fun e w' => e = .returned (.int .i64 (smF L st nx ms)) ∧ Below w.heap.size w w' := by
  have HB0 := Aside0.mk (below_alloc (Below.refl w.heap.size w) (.cells #[.int .i64 L, .int .i64 st, .slice A2 nx.length c2, .slice A3 ms.length c3] 101))
  have HC := Aside0.mk (det_Check_at L st A2 A3 c2 c3 nx ms _ (Kd.C_below hr2 HB0.out) (Kd.C_below hr3 HB0.out))
  clear hr2 hr3
  obtain ⟨er, her⟩ : ∃ er, dCheck L st nx ms = er := ⟨_, rfl⟩
  have HE := Aside0.mk (show smF L st nx ms = if er ≠ 0 then er else if 5 < (nx.length : Int) then 1 else 0 from by unfold smF; rw [her])
  rw [her] at HC
  clear her
  by_cases h0 : er = 0
  · subst h0
    by_cases h5 : (5 : Int) < (nx.length : Int)
    · have h5' : decide ((5 : Int) < (nx.length : Int)) = true := decide_eq_true h5
      rw [if_neg (by simp), if_pos h5] at HE
      clear h5
      go_enter Try.func87, Try.ntmps87
      go_wp2_with (go_at_call 97; refine HC.out.mono ?_; rintro e w1 ⟨rfl, hb1⟩; have B1 := Aside0.mk (below_step HB0.out hb1); have X1 := Aside0.mk (blk_below (blk_new w _) hb1); have k2 : w1.cell? ⟨w.heap.size, 2, none⟩ = some (.slice A2 nx.length c2) := (blk_cell X1.out 2).trans rfl; clear hb1)
      go_ret
      exact ⟨by rw [HE.out]; rfl, B1.out⟩
    · have h5' : decide ((5 : Int) < (nx.length : Int)) = false := decide_eq_false h5
      rw [if_neg (by simp), if_neg h5] at HE
      clear h5
      go_enter Try.func87, Try.ntmps87
      go_wp2_with (go_at_call 97; refine HC.out.mono ?_; rintro e w1 ⟨rfl, hb1⟩; have B1 := Aside0.mk (below_step HB0.out hb1); have X1 := Aside0.mk (blk_below (blk_new w _) hb1); have k2 : w1.cell? ⟨w.heap.size, 2, none⟩ = some (.slice A2 nx.length c2) := (blk_cell X1.out 2).trans rfl; clear hb1)
      go_ret
      exact ⟨by rw [HE.out]; rfl, B1.out⟩
  · have hne : (er != 0) = true := by simpa using h0
    rw [if_pos h0] at HE
    clear h0
    go_enter Try.func87, Try.ntmps87
    go_wp2_with (go_at_call 97; refine HC.out.mono ?_; rintro e w1 ⟨rfl, hb1⟩; have B1 := Aside0.mk (below_step HB0.out hb1); clear hb1)
    go_ret
    exact ⟨by rw [HE.out]; rfl, B1.out⟩
/-- a struct and an error: an automaton, or nothing and an error -/
def DetPostE (w w' : World) (e : Ending) (d : Int × List (List Int) × List Int × Int) : Prop :=
  ∃ AN cN AM cM, e = .returned (.tuple #[.agg #[.int .i64 d.1, .int .i64 0, .slice AN d.2.1.length cN, .slice AM d.2.2.1.length cM], .int .i64 d.2.2.2]) ∧ Below w.heap.size w w' ∧
      ∃ sN sM : Nat → Prop, (∀ k, sM k → ¬ sN k) ∧ Kd.S (Kd.slice 3 (Kd.int .i64)) 22 w' w.heap.size sN (.slice AN d.2.1.length cN) d.2.1 ∧ Kd.R (Kd.int .i64) 3 w' w.heap.size sM (.slice AM d.2.2.1.length cM) d.2.2.1
theorem detPostE_none (w w' : World) (er : Int) (hb : Below w.heap.size w w') : DetPostE w w' (.returned (.tuple #[.agg #[.int .i64 0, .int .i64 0, .slice none 0 0, .slice none 0 0], .int .i64 er])) (0, [], [], er) :=
  ⟨none, 0, none, 0, rfl, hb, fun _ => True, fun _ => False, fun _ h => h.elim, Kd.S_nil _ _ _ _ _, Kd.R_nil _ _ _ _ _⟩
theorem wrap_pow (t : Nat) (ht : t < 62) : IntKind.i64.wrap (2 ^ t) = ((2 ^ t : Nat) : Int) := by
  have h2 := pow_lt62 t ht
  have h3 : ((2 : Int) ^ t) = ((2 ^ t : Nat) : Int) := by simp
  rw [h3, IntKind.wrap_i64]
  generalize 2 ^ t = z at h2
  omega
/-! ### Up -/
def upMr (S X : Nat) : Nat := S ||| X
def upF (L st : Int) (nx : List (List Int)) (ms : List Int) : Int × List (List Int) × List Int × Int :=
  if smF L st nx ms = 0 then (L, lstR L.toNat (hgRx L.toNat nx upMr (2 ^ st.toNat)) (hgMx L.toNat nx ms upMr (2 ^ st.toNat)) 0, lstM L.toNat (hgRx L.toNat nx upMr (2 ^ st.toNat)) (hgMx L.toNat nx ms upMr (2 ^ st.toNat)) 0, 0) else (0, [], [], smF L st nx ms)
theorem up_lt {n : Nat} (S X : Nat) (hS : S < 2 ^ n) (hX : X < 2 ^ n) : upMr S X < 2 ^ n := Nat.or_lt_two_pow hS hX
theorem up_more {nx : List (List Int)} (h5 : nx.length ≤ 5) (w : World) : MoreAt 93 #[] upMr (2 ^ nx.length) w := by
  intro W S X hb hS hX
  refine (up1_calls S X W (pow_le62 hS h5) (pow_le62 hX h5)).mono ?_
  rintro e w' ⟨he, rfl⟩
  exact ⟨he, Below.refl _ _⟩
set_option maxHeartbeats 4000000 in
set_option maxRecDepth 100000 in
theorem up_calls (L st : Int) (A2 A3 : Option Addr) (c2 c3 : Nat) (nx : List (List Int)) (ms : List Int) (w : World) (hr2 : Kd.C (Kd.slice 3 (Kd.int .i64)) w A2 nx.length nx) (hr3 : Kd.C (Kd.int .i64) w A3 ms.length ms) :
    Calls Try.prog 35 (dArgs L st A2 A3 c2 c3 nx ms) w fun e w' => DetPostE w w' e (upF L st nx ms) := by
  have HB0 := Aside0.mk (below_alloc (below_alloc (Below.refl w.heap.size w) (.cells #[.int .i64 L, .int .i64 st, .slice A2 nx.length c2, .slice A3 ms.length c3] 101)) (.cells #[.int .i64 0, .int .i64 0, .slice none 0 0, .slice none 0 0] 101))
  have HC := Aside0.mk (small_calls L st A2 A3 c2 c3 nx ms _ (Kd.C_below hr2 HB0.out) (Kd.C_below hr3 HB0.out))
  have HR2 := Aside0.mk hr2
  have HR3 := Aside0.mk hr3
  clear hr2 hr3
  by_cases h : smF L st nx ms = 0
  · obtain ⟨L, st, rfl, rfl, hok⟩ := smOk_of h
    rw [h] at HC
    have HOK := Aside0.mk hok
    have HD := Aside0.mk (show upF (L : Int) (st : Int) nx ms = ((L : Int), lstR L (hgRx L nx upMr (2 ^ st)) (hgMx L nx ms upMr (2 ^ st)) 0, lstM L (hgRx L nx upMr (2 ^ st)) (hgMx L nx ms upMr (2 ^ st)) 0, 0) from by unfold upF; rw [if_pos h, Int.toNat_natCast, Int.toNat_natCast])
    rw [HD.out]
    have hst5 : st < 5 := by have := hok.st; have := hok.n5; omega
    have hpow := wrap_pow st (by omega)
    have HP := Aside0.mk hpow
    clear h hok HD hpow
    go_enter Try.func35, Try.ntmps35
    go_wp2_with (go_at_call 87
                 refine HC.out.mono ?_
                 rintro e w1 ⟨rfl, hb1⟩
                 have B1 := Aside0.mk (below_step HB0.out hb1)
                 have X1 := Aside0.mk (show w1.heap[w.heap.size]? = some (.cells #[.int .i64 (L : Int), .int .i64 (st : Int), .slice A2 nx.length c2, .slice A3 ms.length c3] 101 (0, 0)) from blk_below (blk_alloc (blk_new w _) _) hb1)
                 have Z1 := Aside0.mk (show w1.heap[w.heap.size + 1]? = some (.cells #[.int .i64 0, .int .i64 0, .slice none 0 0, .slice none 0 0] 101 (0, 0)) from blk_below (blk_newn _ _ _ (by simp)) hb1)
                 clear hb1)
    have hx0 : w1.cell? ⟨w.heap.size, 0, none⟩ = some (.int .i64 (L : Int)) := (blk_cell X1.out 0).trans rfl
    have hx1 : w1.cell? ⟨w.heap.size, 1, none⟩ = some (.int .i64 (st : Int)) := (blk_cell X1.out 1).trans rfl
    have hx2 : w1.cell? ⟨w.heap.size, 2, none⟩ = some (.slice A2 nx.length c2) := (blk_cell X1.out 2).trans rfl
    have hx3 : w1.cell? ⟨w.heap.size, 3, none⟩ = some (.slice A3 ms.length c3) := (blk_cell X1.out 3).trans rfl
    go_region_law (first
      | (rw [if_pos (by rfl)]
         go_simp
         go_at_call 92
         rw [HP.out]
         refine (hgSets_calls 93 #[] (enters_of Try.func93 (by kernel_rfl) rfl) L st A2 A3 c2 c3 nx ms upMr (2 ^ st) _ (Kd.C_below HR2.out (below_drew1 B1.out)) (Kd.C_below HR3.out (below_drew1 B1.out)) HOK.out (up_more HOK.out.n5 _) (Nat.pow_lt_pow_right (by omega) HOK.out.st) up_lt).mono ?_
         rintro e w2 ⟨AN, cN, AM, cM, rfl, hb2, sN, sM, hd, hN, hM⟩
         obtain ⟨R, hR⟩ : ∃ R, lstR L (hgRx L nx upMr (2 ^ st)) (hgMx L nx ms upMr (2 ^ st)) 0 = R := ⟨_, rfl⟩
         obtain ⟨Mk, hMk⟩ : ∃ Mk, lstM L (hgRx L nx upMr (2 ^ st)) (hgMx L nx ms upMr (2 ^ st)) 0 = Mk := ⟨_, rfl⟩
         rw [hR] at hN ⊢
         rw [hMk] at hM ⊢
         have HRR := Aside0.mk (And.intro hR hMk)
         have B2 := Aside0.mk (below_step (below_drew1 B1.out) hb2)
         have HSZ := Aside0.mk (show w1.heap.size ≤ w2.heap.size from hb2.size)
         have Z2 := Aside0.mk (blk_below (blk_drew Z1.out) hb2)
         have zz := blk_lt Z1.out
         have zl : w.heap.size + 1 < w2.heap.size := blk_lt Z2.out
         have r0 := (blk_cell Z2.out 0).trans rfl
         have rf0 := blk_frozen Z2.out 0
         have r1 := (blk_cell Z2.out 1).trans rfl
         have rf1 := blk_frozen Z2.out 1
         have r2 := (blk_cell Z2.out 2).trans rfl
         have rf2 := blk_frozen Z2.out 2
         have r3 := (blk_cell Z2.out 3).trans rfl
         have rf3 := blk_frozen Z2.out 3
         have N2 := Aside0.mk (show Kd.S (Kd.slice 3 (Kd.int .i64)) 22 w2 w1.heap.size sN (.slice AN R.length cN) R from hN)
         have K2 := Aside0.mk (show Kd.R (Kd.int .i64) 3 w2 w1.heap.size sM (.slice AM Mk.length cM) Mk from hM)
         have HDD := Aside0.mk hd
         clear hb2 hd hN hM hR hMk)
      | fail)
    all_goals go_wp2
    all_goals
      rw [HRR.out.1, HRR.out.2]
      have hlt1 : w.heap.size + 1 < w1.heap.size := zz
      have hg3 : w.heap.size ≤ w1.heap.size := by omega
      refine bodyPost_ret (resD rfl _ _ (w.heap.size + 1) (.int .i64 (L : Int)) (.int .i64 0) (.slice AN R.length cN) (.slice AM Mk.length cM) (.int .i64 0) rfl rfl (by go_simp) (by go_simp) (by go_simp) (by go_simp)) rfl ?_
      refine ⟨AN, cN, AM, cM, rfl, ?_, sN, sM, HDD.out, Kd.S_lower (base := w1.heap.size) ?_ hg3, Kd.R_lower (base := w1.heap.size) ?_ hg3⟩
      · with_reducible repeat (first | exact B2.out | refine below_set ?_ (Nat.le_succ _))
      · with_reducible repeat (first | exact N2.out | refine S_set' ?_ hlt1 _)
      · with_reducible repeat (first | exact K2.out | refine R_set' ?_ hlt1 _)
  · obtain ⟨er, her⟩ : ∃ er, smF L st nx ms = er := ⟨_, rfl⟩
    have HD : upF L st nx ms = (0, [], [], er) := by unfold upF; rw [if_neg h, her]
    rw [HD]
    clear HD
    rw [her] at h HC
    have hne : (er != 0) = true := by simpa using h
    clear her h
    go_enter Try.func35, Try.ntmps35
    go_wp2_with (go_at_call 87
                 refine HC.out.mono ?_
                 rintro e w1 ⟨rfl, hb1⟩
                 have B1 := Aside0.mk (below_step HB0.out hb1)
                 have Z1 := Aside0.mk (show w1.heap[w.heap.size + 1]? = some (.cells #[.int .i64 0, .int .i64 0, .slice none 0 0, .slice none 0 0] 101 (0, 0)) from blk_below (blk_newn _ _ _ (by simp)) hb1)
                 have zl : w.heap.size + 1 < w1.heap.size := blk_lt Z1.out
                 have r0 := (blk_cell Z1.out 0).trans rfl
                 have rf0 := blk_frozen Z1.out 0
                 have r1 := (blk_cell Z1.out 1).trans rfl
                 have rf1 := blk_frozen Z1.out 1
                 have r2 := (blk_cell Z1.out 2).trans rfl
                 have rf2 := blk_frozen Z1.out 2
                 have r3 := (blk_cell Z1.out 3).trans rfl
                 have rf3 := blk_frozen Z1.out 3
                 clear hb1)
    refine bodyPost_ret (resD rfl _ _ (w.heap.size + 1) (.int .i64 0) (.int .i64 0) (.slice none 0 0) (.slice none 0 0) (.int .i64 er) rfl rfl (by go_simp) (by go_simp) (by go_simp) (by go_simp)) rfl ?_
    refine detPostE_none _ _ _ ?_
    with_reducible repeat (first | exact B1.out | refine below_set ?_ (Nat.le_succ _))
/-! ### Down -/
def dnMr (nx : List (List Int)) (L : Nat) (_S X : Nat) : Nat := reachN nx L X
theorem reach_lt {L st : Nat} {nx : List (List Int)} {ms : List Int} (h : SmOk L st nx ms) {S : Nat} (hS : S < 2 ^ nx.length) : reachN nx L S < 2 ^ nx.length := (reachG_fix h _ S hS (Nat.sub_le _ _)).1
def dnF (L st : Int) (nx : List (List Int)) (ms : List Int) : Int × List (List Int) × List Int × Int :=
  if smF L st nx ms = 0 then (L, lstR L.toNat (hgRx L.toNat nx (dnMr nx L.toNat) (reachN nx L.toNat (2 ^ st.toNat))) (hgMx L.toNat nx ms (dnMr nx L.toNat) (reachN nx L.toNat (2 ^ st.toNat))) 0, lstM L.toNat (hgRx L.toNat nx (dnMr nx L.toNat) (reachN nx L.toNat (2 ^ st.toNat))) (hgMx L.toNat nx ms (dnMr nx L.toNat) (reachN nx L.toNat (2 ^ st.toNat))) 0, 0) else (0, [], [], smF L st nx ms)
theorem dn1_calls (L st : Nat) (A2 A3 : Option Addr) (c2 c3 : Nat) (nx : List (List Int)) (ms : List Int) (S X : Nat) (B : Nat) (w : World) (hr2 : Kd.C (Kd.slice 3 (Kd.int .i64)) w A2 nx.length nx) (hok : SmOk L st nx ms)
    (hx : w.heap[B]? = some (.cells #[.int .i64 (L : Int), .int .i64 (st : Int), .slice A2 nx.length c2, .slice A3 ms.length c3] 101 (0, 0))) (hX : X < 2 ^ nx.length) :
    Calls Try.prog 95 #[.int .i64 (S : Int), .int .i64 (X : Int), .pointer (some ⟨B, 0, none⟩)] w fun e w' => e = .returned (.int .i64 ((reachN nx L X : Nat) : Int)) ∧ Below w.heap.size w w' := by
  have HC := Aside0.mk (hg_ahead L st A2 A3 c2 c3 nx ms X w hr2 hok hX)
  have k0 : w.cell? ⟨B, 0, none⟩ = some (.int .i64 (L : Int)) := (blk_cell hx 0).trans rfl
  have k1 : w.cell? ⟨B, 1, none⟩ = some (.int .i64 (st : Int)) := (blk_cell hx 1).trans rfl
  have k2 : w.cell? ⟨B, 2, none⟩ = some (.slice A2 nx.length c2) := (blk_cell hx 2).trans rfl
  have k3 : w.cell? ⟨B, 3, none⟩ = some (.slice A3 ms.length c3) := (blk_cell hx 3).trans rfl
  clear hr2 hok hx hX
  go_enter Try.func95, Try.ntmps95
  go_wp2_with (go_at_call 94; refine HC.out.mono ?_; rintro e w' ⟨rfl, hb'⟩)
  go_ret
  exact ⟨rfl, hb'⟩
theorem dn_more (L st : Nat) (A2 A3 : Option Addr) (c2 c3 : Nat) (nx : List (List Int)) (ms : List Int) (B : Nat) (W0 : World) (hr2 : Kd.C (Kd.slice 3 (Kd.int .i64)) W0 A2 nx.length nx) (hok : SmOk L st nx ms)
    (hx : W0.heap[B]? = some (.cells #[.int .i64 (L : Int), .int .i64 (st : Int), .slice A2 nx.length c2, .slice A3 ms.length c3] 101 (0, 0))) : MoreAt 95 #[.pointer (some ⟨B, 0, none⟩)] (dnMr nx L) (2 ^ nx.length) W0 :=
  fun W S X hb hS hX => dn1_calls L st A2 A3 c2 c3 nx ms S X B W (Kd.C_below hr2 hb) hok (blk_below hx hb) hX
set_option maxHeartbeats 4000000 in
set_option maxRecDepth 100000 in
theorem dn_calls (L st : Int) (A2 A3 : Option Addr) (c2 c3 : Nat) (nx : List (List Int)) (ms : List Int) (w : World) (hr2 : Kd.C (Kd.slice 3 (Kd.int .i64)) w A2 nx.length nx) (hr3 : Kd.C (Kd.int .i64) w A3 ms.length ms) :
    Calls Try.prog 36 (dArgs L st A2 A3 c2 c3 nx ms) w fun e w' => DetPostE w w' e (dnF L st nx ms) := by
  have HB0 := Aside0.mk (below_alloc (below_alloc (Below.refl w.heap.size w) (.cells #[.int .i64 L, .int .i64 st, .slice A2 nx.length c2, .slice A3 ms.length c3] 101)) (.cells #[.int .i64 0, .int .i64 0, .slice none 0 0, .slice none 0 0] 101))
  have HC := Aside0.mk (small_calls L st A2 A3 c2 c3 nx ms _ (Kd.C_below hr2 HB0.out) (Kd.C_below hr3 HB0.out))
  have HR2 := Aside0.mk hr2
  have HR3 := Aside0.mk hr3
  clear hr2 hr3
  by_cases h : smF L st nx ms = 0
  · obtain ⟨L, st, rfl, rfl, hok⟩ := smOk_of h
    rw [h] at HC
    have HOK := Aside0.mk hok
    have HD := Aside0.mk (show dnF (L : Int) (st : Int) nx ms = ((L : Int), lstR L (hgRx L nx (dnMr nx L) (reachN nx L (2 ^ st))) (hgMx L nx ms (dnMr nx L) (reachN nx L (2 ^ st))) 0, lstM L (hgRx L nx (dnMr nx L) (reachN nx L (2 ^ st))) (hgMx L nx ms (dnMr nx L) (reachN nx L (2 ^ st))) 0, 0) from by unfold dnF; rw [if_pos h, Int.toNat_natCast, Int.toNat_natCast])
    rw [HD.out]
    have hst5 : st < 5 := by have := hok.st; have := hok.n5; omega
    have hpow := wrap_pow st (by omega)
    have HP := Aside0.mk hpow
    clear h hok HD hpow
    go_enter Try.func36, Try.ntmps36
    go_wp2_with (go_at_call 87
                 refine HC.out.mono ?_
                 rintro e w1 ⟨rfl, hb1⟩
                 have B1 := Aside0.mk (below_step HB0.out hb1)
                 have X1 := Aside0.mk (show w1.heap[w.heap.size]? = some (.cells #[.int .i64 (L : Int), .int .i64 (st : Int), .slice A2 nx.length c2, .slice A3 ms.length c3] 101 (0, 0)) from blk_below (blk_alloc (blk_new w _) _) hb1)
                 have Z1 := Aside0.mk (show w1.heap[w.heap.size + 1]? = some (.cells #[.int .i64 0, .int .i64 0, .slice none 0 0, .slice none 0 0] 101 (0, 0)) from blk_below (blk_newn _ _ _ (by simp)) hb1)
                 clear hb1)
    have hx0 : w1.cell? ⟨w.heap.size, 0, none⟩ = some (.int .i64 (L : Int)) := (blk_cell X1.out 0).trans rfl
    have hx1 : w1.cell? ⟨w.heap.size, 1, none⟩ = some (.int .i64 (st : Int)) := (blk_cell X1.out 1).trans rfl
    have hx2 : w1.cell? ⟨w.heap.size, 2, none⟩ = some (.slice A2 nx.length c2) := (blk_cell X1.out 2).trans rfl
    have hx3 : w1.cell? ⟨w.heap.size, 3, none⟩ = some (.slice A3 ms.length c3) := (blk_cell X1.out 3).trans rfl
    go_region_law (first
      | (rw [if_pos (by rfl)]
         go_simp
         go_at_call 94
         rw [HP.out]
         refine (hg_ahead L st A2 A3 c2 c3 nx ms (2 ^ st) _ (Kd.C_below HR2.out (below_drew1 B1.out)) HOK.out (Nat.pow_lt_pow_right (by omega) HOK.out.st)).mono ?_
         rintro e w5 ⟨rfl, hb5⟩
         have B5 := Aside0.mk (below_step (below_drew1 B1.out) hb5)
         have X5 := Aside0.mk (blk_below (blk_drew X1.out) hb5)
         have Z5 := Aside0.mk (blk_below (blk_drew Z1.out) hb5)
         have hy0 : w5.cell? ⟨w.heap.size, 0, none⟩ = some (.int .i64 (L : Int)) := (blk_cell X5.out 0).trans rfl
         have hy1 : w5.cell? ⟨w.heap.size, 1, none⟩ = some (.int .i64 (st : Int)) := (blk_cell X5.out 1).trans rfl
         have hy2 : w5.cell? ⟨w.heap.size, 2, none⟩ = some (.slice A2 nx.length c2) := (blk_cell X5.out 2).trans rfl
         have hy3 : w5.cell? ⟨w.heap.size, 3, none⟩ = some (.slice A3 ms.length c3) := (blk_cell X5.out 3).trans rfl
         clear hb5)
      | (rw [if_pos (by rfl)]
         go_simp
         go_at_call 92
         refine (hgSets_calls 95 #[.pointer (some ⟨w.heap.size, 0, none⟩)] (enters_of Try.func95 (by kernel_rfl) rfl) L st A2 A3 c2 c3 nx ms (dnMr nx L) (reachN nx L (2 ^ st)) _ (Kd.C_below HR2.out B5.out) (Kd.C_below HR3.out B5.out) HOK.out (dn_more L st A2 A3 c2 c3 nx ms w.heap.size _ (Kd.C_below HR2.out B5.out) HOK.out X5.out) (reach_lt HOK.out (Nat.pow_lt_pow_right (by omega) HOK.out.st)) (fun S X _ hX => reach_lt HOK.out hX)).mono ?_
         rintro e w2 ⟨AN, cN, AM, cM, rfl, hb2, sN, sM, hd, hN, hM⟩
         obtain ⟨R, hR⟩ : ∃ R, lstR L (hgRx L nx (dnMr nx L) (reachN nx L (2 ^ st))) (hgMx L nx ms (dnMr nx L) (reachN nx L (2 ^ st))) 0 = R := ⟨_, rfl⟩
         obtain ⟨Mk, hMk⟩ : ∃ Mk, lstM L (hgRx L nx (dnMr nx L) (reachN nx L (2 ^ st))) (hgMx L nx ms (dnMr nx L) (reachN nx L (2 ^ st))) 0 = Mk := ⟨_, rfl⟩
         rw [hR] at hN ⊢
         rw [hMk] at hM ⊢
         have HRR := Aside0.mk (And.intro hR hMk)
         have B2 := Aside0.mk (below_step B5.out hb2)
         have HSZ := Aside0.mk (show w5.heap.size ≤ w2.heap.size from hb2.size)
         have Z2 := Aside0.mk (blk_below Z5.out hb2)
         have zz := blk_lt Z5.out
         have zl : w.heap.size + 1 < w2.heap.size := blk_lt Z2.out
         have r0 := (blk_cell Z2.out 0).trans rfl
         have rf0 := blk_frozen Z2.out 0
         have r1 := (blk_cell Z2.out 1).trans rfl
         have rf1 := blk_frozen Z2.out 1
         have r2 := (blk_cell Z2.out 2).trans rfl
         have rf2 := blk_frozen Z2.out 2
         have r3 := (blk_cell Z2.out 3).trans rfl
         have rf3 := blk_frozen Z2.out 3
         have N2 := Aside0.mk (show Kd.S (Kd.slice 3 (Kd.int .i64)) 22 w2 w5.heap.size sN (.slice AN R.length cN) R from hN)
         have K2 := Aside0.mk (show Kd.R (Kd.int .i64) 3 w2 w5.heap.size sM (.slice AM Mk.length cM) Mk from hM)
         have HDD := Aside0.mk hd
         clear hb2 hd hN hM hR hMk)
      | fail)
    all_goals go_wp2
    all_goals
      rw [HRR.out.1, HRR.out.2]
      have hlt1 : w.heap.size + 1 < w5.heap.size := zz
      have hg3 : w.heap.size ≤ w5.heap.size := by omega
      refine bodyPost_ret (resD rfl _ _ (w.heap.size + 1) (.int .i64 (L : Int)) (.int .i64 0) (.slice AN R.length cN) (.slice AM Mk.length cM) (.int .i64 0) rfl rfl (by go_simp) (by go_simp) (by go_simp) (by go_simp)) rfl ?_
      refine ⟨AN, cN, AM, cM, rfl, ?_, sN, sM, HDD.out, Kd.S_lower (base := w5.heap.size) ?_ hg3, Kd.R_lower (base := w5.heap.size) ?_ hg3⟩
      · with_reducible repeat (first | exact B2.out | refine below_set ?_ (Nat.le_succ _))
      · with_reducible repeat (first | exact N2.out | refine S_set' ?_ hlt1 _)
      · with_reducible repeat (first | exact K2.out | refine R_set' ?_ hlt1 _)
  · obtain ⟨er, her⟩ : ∃ er, smF L st nx ms = er := ⟨_, rfl⟩
    have HD : dnF L st nx ms = (0, [], [], er) := by unfold dnF; rw [if_neg h, her]
    rw [HD]
    clear HD
    rw [her] at h HC
    have hne : (er != 0) = true := by simpa using h
    clear her h
    go_enter Try.func36, Try.ntmps36
    go_wp2_with (go_at_call 87
                 refine HC.out.mono ?_
                 rintro e w1 ⟨rfl, hb1⟩
                 have B1 := Aside0.mk (below_step HB0.out hb1)
                 have Z1 := Aside0.mk (show w1.heap[w.heap.size + 1]? = some (.cells #[.int .i64 0, .int .i64 0, .slice none 0 0, .slice none 0 0] 101 (0, 0)) from blk_below (blk_newn _ _ _ (by simp)) hb1)
                 have zl : w.heap.size + 1 < w1.heap.size := blk_lt Z1.out
                 have r0 := (blk_cell Z1.out 0).trans rfl
                 have rf0 := blk_frozen Z1.out 0
                 have r1 := (blk_cell Z1.out 1).trans rfl
                 have rf1 := blk_frozen Z1.out 1
                 have r2 := (blk_cell Z1.out 2).trans rfl
                 have rf2 := blk_frozen Z1.out 2
                 have r3 := (blk_cell Z1.out 3).trans rfl
                 have rf3 := blk_frozen Z1.out 3
                 clear hb1)
    refine bodyPost_ret (resD rfl _ _ (w.heap.size + 1) (.int .i64 0) (.int .i64 0) (.slice none 0 0) (.slice none 0 0) (.int .i64 er) rfl rfl (by go_simp) (by go_simp) (by go_simp) (by go_simp)) rfl ?_
    refine detPostE_none _ _ _ ?_
    with_reducible repeat (first | exact B1.out | refine below_set ?_ (Nat.le_succ _))
/-! ### det.Least -/
def dlF (L st : Int) (nx : List (List Int)) (ms : List Int) : Int × List (List Int) × List Int × Int :=
  if dCheck L st nx ms = 0 then (L, lstR L.toNat nx ms st.toNat, lstM L.toNat nx ms st.toNat, 0) else (0, [], [], dCheck L st nx ms)
set_option maxHeartbeats 4000000 in
theorem dl_calls (L st : Int) (A2 A3 : Option Addr) (c2 c3 : Nat) (nx : List (List Int)) (ms : List Int) (w : World) (hr2 : Kd.C (Kd.slice 3 (Kd.int .i64)) w A2 nx.length nx) (hc2 : nx.length ≤ c2) (hr3 : Kd.C (Kd.int .i64) w A3 ms.length ms) (hc3 : ms.length ≤ c3) :
    Calls Try.prog 38 (dArgs L st A2 A3 c2 c3 nx ms) w fun e w' => DetPostE w w' e (dlF L st nx ms) := by
  have HB0 := Aside0.mk (below_alloc (below_alloc (Below.refl w.heap.size w) (.cells #[.int .i64 L, .int .i64 st, .slice A2 nx.length c2, .slice A3 ms.length c3] 101)) (.cells #[.int .i64 0, .int .i64 0, .slice none 0 0, .slice none 0 0] 101))
  have HC := Aside0.mk (det_Check_at L st A2 A3 c2 c3 nx ms _ (Kd.C_below hr2 HB0.out) (Kd.C_below hr3 HB0.out))
  have HR2 := Aside0.mk hr2
  have HR3 := Aside0.mk hr3
  have HC2 := Aside0.mk hc2
  have HC3 := Aside0.mk hc3
  clear hr2 hr3 hc2 hc3
  by_cases h : dCheck L st nx ms = 0
  · obtain ⟨L, st, rfl, rfl, hst, _, _, hok⟩ := detOk_of h
    rw [h] at HC
    have HOK := Aside0.mk hok
    have HST := Aside0.mk hst
    have HD := Aside0.mk (show dlF (L : Int) (st : Int) nx ms = ((L : Int), lstR L nx ms st, lstM L nx ms st, 0) from by unfold dlF; rw [if_pos h, Int.toNat_natCast, Int.toNat_natCast])
    rw [HD.out]
    clear h hok HD hst
    go_enter Try.func38, Try.ntmps38
    go_wp2_with (first
      | (go_at_call 97
         refine HC.out.mono ?_
         rintro e w1 ⟨rfl, hb1⟩
         have B1 := Aside0.mk (below_step HB0.out hb1)
         have X1 := Aside0.mk (show w1.heap[w.heap.size]? = some (.cells #[.int .i64 (L : Int), .int .i64 (st : Int), .slice A2 nx.length c2, .slice A3 ms.length c3] 101 (0, 0)) from blk_below (blk_alloc (blk_new w _) _) hb1)
         have Z1 := Aside0.mk (show w1.heap[w.heap.size + 1]? = some (.cells #[.int .i64 0, .int .i64 0, .slice none 0 0, .slice none 0 0] 101 (0, 0)) from blk_below (blk_newn _ _ _ (by simp)) hb1)
         have x0 := (blk_cell X1.out 0).trans rfl
         have xf0 := blk_frozen X1.out 0
         have x1 := (blk_cell X1.out 1).trans rfl
         have xf1 := blk_frozen X1.out 1
         have x2 := (blk_cell X1.out 2).trans rfl
         have xf2 := blk_frozen X1.out 2
         have x3 := (blk_cell X1.out 3).trans rfl
         have xf3 := blk_frozen X1.out 3
         clear hb1)
      | (go_at_call 98
         refine (smallest_calls A2 A3 c2 c3 L st nx ms _ (Kd.C_below HR2.out B1.out) HC2.out (Kd.C_below HR3.out B1.out) HC3.out HOK.out HST.out).mono ?_
         rintro e w2 ⟨vN, vM, rfl, hb2, sN, sM, hd, hN, hM⟩
         obtain ⟨R, hR⟩ : ∃ R, lstR L nx ms st = R := ⟨_, rfl⟩
         obtain ⟨Mk, hMk⟩ : ∃ Mk, lstM L nx ms st = Mk := ⟨_, rfl⟩
         replace hN := hR ▸ (show Kd.S (Kd.slice 3 (Kd.int .i64)) 22 w2 _ sN vN (lstR L nx ms st) from hN)
         replace hM := hMk ▸ (show Kd.R (Kd.int .i64) 3 w2 _ sM vM (lstM L nx ms st) from hM)
         obtain ⟨AN, cN, rfl⟩ := Kd.S_slice hN
         obtain ⟨AM, cM, rfl⟩ := Kd.R_slice hM
         have HRR := Aside0.mk (And.intro hR hMk)
         have B2 := Aside0.mk (below_step B1.out hb2)
         have Z2 := Aside0.mk (blk_below Z1.out hb2)
         have zz := blk_lt Z1.out
         have zl : w.heap.size + 1 < w2.heap.size := blk_lt Z2.out
         have r0 := (blk_cell Z2.out 0).trans rfl
         have rf0 := blk_frozen Z2.out 0
         have r1 := (blk_cell Z2.out 1).trans rfl
         have rf1 := blk_frozen Z2.out 1
         have r2 := (blk_cell Z2.out 2).trans rfl
         have rf2 := blk_frozen Z2.out 2
         have r3 := (blk_cell Z2.out 3).trans rfl
         have rf3 := blk_frozen Z2.out 3
         have N2 := Aside0.mk hN
         have K2 := Aside0.mk hM
         have HDD := Aside0.mk hd
         clear hb2 hd hN hM hR hMk)
      | fail)
    rw [HRR.out.1, HRR.out.2]
    have hlt1 : w.heap.size + 1 < w1.heap.size := zz
    have hg3 : w.heap.size ≤ w1.heap.size := by omega
    refine bodyPost_ret (resD rfl _ _ (w.heap.size + 1) (.int .i64 (L : Int)) (.int .i64 0) (.slice AN R.length cN) (.slice AM Mk.length cM) (.int .i64 0) rfl rfl (by go_simp) (by go_simp) (by go_simp) (by go_simp)) rfl ?_
    refine ⟨AN, cN, AM, cM, rfl, ?_, sN, sM, HDD.out, Kd.S_lower (base := w1.heap.size) ?_ hg3, Kd.R_lower (base := w1.heap.size) ?_ hg3⟩
    · with_reducible repeat (first | exact B2.out | refine below_set ?_ (Nat.le_succ _))
    · with_reducible repeat (first | exact N2.out | refine S_set' ?_ hlt1 _)
    · with_reducible repeat (first | exact K2.out | refine R_set' ?_ hlt1 _)
  · obtain ⟨er, her⟩ : ∃ er, dCheck L st nx ms = er := ⟨_, rfl⟩
    have HD : dlF L st nx ms = (0, [], [], er) := by unfold dlF; rw [if_neg h, her]
    rw [HD]
    clear HD
    rw [her] at h HC
    have hne : (er != 0) = true := by simpa using h
    clear her h
    go_enter Try.func38, Try.ntmps38
    go_wp2_with (go_at_call 97
                 refine HC.out.mono ?_
                 rintro e w1 ⟨rfl, hb1⟩
                 have B1 := Aside0.mk (below_step HB0.out hb1)
                 have Z1 := Aside0.mk (show w1.heap[w.heap.size + 1]? = some (.cells #[.int .i64 0, .int .i64 0, .slice none 0 0, .slice none 0 0] 101 (0, 0)) from blk_below (blk_newn _ _ _ (by simp)) hb1)
                 have zl : w.heap.size + 1 < w1.heap.size := blk_lt Z1.out
                 have r0 := (blk_cell Z1.out 0).trans rfl
                 have rf0 := blk_frozen Z1.out 0
                 have r1 := (blk_cell Z1.out 1).trans rfl
                 have rf1 := blk_frozen Z1.out 1
                 have r2 := (blk_cell Z1.out 2).trans rfl
                 have rf2 := blk_frozen Z1.out 2
                 have r3 := (blk_cell Z1.out 3).trans rfl
                 have rf3 := blk_frozen Z1.out 3
                 clear hb1)
    refine bodyPost_ret (resD rfl _ _ (w.heap.size + 1) (.int .i64 0) (.int .i64 0) (.slice none 0 0) (.slice none 0 0) (.int .i64 er) rfl rfl (by go_simp) (by go_simp) (by go_simp) (by go_simp)) rfl ?_
    refine detPostE_none _ _ _ ?_
    with_reducible repeat (first | exact B1.out | refine below_set ?_ (Nat.le_succ _))
theorem mkF_bit {ms : List Int} (h : ∀ m ∈ ms, m = 0 ∨ m = 1) (q : Nat) : mkF ms q = 0 ∨ mkF ms q = 1 := by
  unfold mkF
  rw [List.getD_eq_getElem?_getD]
  by_cases hq : q < ms.length
  · rw [List.getElem?_eq_getElem hq]; exact h _ (List.getElem_mem _)
  · rw [List.getElem?_eq_none (by omega)]; exact .inl rfl
end Go.Proofs.Ytampgoendkjkhaa.H

namespace Go.Proofs.Ytampgoendkjkhaa.H
open Go.RowKit Go.Shelf Go.Proofs.YtampgoendkjkhaaW.PrintWords Go.Proofs.YtampgoendkjkhaaW.PrintMore Go.Proofs.Ytampgoendkjkhaa.DtM
set_option linter.unusedVariables false
set_option linter.unusedSimpArgs false
theorem dCheck_ok {L st : Nat} {nx : List (List Int)} {ms : List Int} (h : DetOk L nx ms) (hs : st < nx.length) (hn : nx.length ≤ 3000) (hm : ∀ m ∈ ms, m = 0 ∨ m = 1) : dCheck L st nx ms = 0 := by
  have h1 := h.L1
  have h4 := h.L4
  have hp := h.pos
  have hno : ∀ n p : Int, 0 ≤ p → p < n → noB n p = false := fun n p h0 h1 => by
    unfold noB
    simp only [Bool.or_eq_false_iff, decide_eq_false_iff_not]
    omega
  have hS : dShape L nx = false := by
    unfold dShape
    rw [List.any_eq_false]
    intro r hr
    have := h.row r hr
    simp only [bne_iff_ne, ne_eq, Classical.not_not]
    omega
  have hO : dOut nx = false := by
    unfold dOut
    rw [List.any_eq_false]
    intro r hr
    rw [Bool.not_eq_true, List.any_eq_false]
    intro x hx
    rw [hno _ _ (h.tos r hr x hx).1 (h.tos r hr x hx).2]
    simp
  have hB : ms.any dbit = false := by
    rw [List.any_eq_false]
    intro m hm'
    rcases hm m hm' with rfl | rfl <;> simp [dbit]
  unfold dCheck
  rw [if_neg (by omega), if_neg (by omega), if_neg (fun q => q.elim (fun q => q h.len) (fun q => by rw [hS] at q; cases q)), if_neg (by rw [hO, hno _ _ (by omega) (by omega)]; simp), if_neg (by rw [hB]; simp)]
theorem lstM_bit {L : Nat} {nx : List (List Int)} {ms : List Int} (hm : ∀ m ∈ ms, m = 0 ∨ m = 1) (st : Nat) : ∀ m ∈ lstM L nx ms st, m = 0 ∨ m = 1 := by
  intro m h
  unfold lstM at h
  obtain ⟨c, _, rfl⟩ := List.mem_map.1 h
  exact mkF_bit hm _
theorem hgM_bit (L : Nat) (nx : List (List Int)) (ms : List Int) (mr : Nat → Nat → Nat) (first : Nat) : ∀ m ∈ hgMx L nx ms mr first, m = 0 ∨ m = 1 := by
  intro m h
  unfold hgMx at h
  obtain ⟨c, _, rfl⟩ := List.mem_map.1 h
  unfold hgMk
  split
  · exact .inl rfl
  · exact .inr rfl
/-- sets of states that hold where the automaton stands -/
structure HgUp (nx : List (List Int)) (L : Nat) (mr : Nat → Nat → Nat) (first st : Nat) : Prop where
  lt : ∀ S X, S < 2 ^ nx.length → X < 2 ^ nx.length → mr S X < 2 ^ nx.length
  fl : first < 2 ^ nx.length
  has : first.testBit st = true
  sup : ∀ S X p, S < 2 ^ nx.length → X < 2 ^ nx.length → X.testBit p = true → (mr S X).testBit p = true
section
variable {L st : Nat} {nx : List (List Int)} {ms : List Int}
theorem reachG_sup (h : SmOk L st nx ms) : ∀ g S, S < 2 ^ nx.length → ∀ p, S.testBit p = true → (reachG nx L g S).testBit p = true
  | 0, S, _, p, hp => by unfold reachG; exact hp
  | g + 1, S, hS, p, hp => by
    unfold reachG
    split
    · exact hp
    · exact reachG_sup h g _ (stepQ_lt h hS _ (Nat.le_refl _)) p (stepQ_sup nx L S nx.length p hp)
theorem up_has (h : SmOk L st nx ms) : HgUp nx L upMr (2 ^ st) st where
  lt := up_lt
  fl := Nat.pow_lt_pow_right (by omega) h.st
  has := by rw [Nat.testBit_two_pow]; simp
  sup := fun S X p _ _ hX => by unfold upMr; rw [Nat.testBit_or, hX, Bool.or_true]
theorem dn_has (h : SmOk L st nx ms) : HgUp nx L (dnMr nx L) (reachN nx L (2 ^ st)) st where
  lt := fun S X _ hX => reach_lt h hX
  fl := reach_lt h (Nat.pow_lt_pow_right (by omega) h.st)
  has := reachG_sup h _ _ (Nat.pow_lt_pow_right (by omega) h.st) _ (by rw [Nat.testBit_two_pow]; simp)
  sup := fun S X p _ hX2 hX => reachG_sup h _ _ hX2 _ hX
theorem nextK_has (a S : Nat) : ∀ n p, p < n → S.testBit p = true → (nextK nx a S n).testBit (nxF nx p a) = true
  | 0, p, hp, _ => by omega
  | n + 1, p, hp, hS => by
    unfold nextK
    rw [Nat.testBit_or]
    by_cases e : p = n
    · subst e
      rw [if_pos hS, Nat.testBit_two_pow]
      simp
    · rw [nextK_has a S n p (by omega) hS]
      rfl
theorem hg_run (h : SmOk L st nx ms) {mr : Nat → Nat → Nat} {first : Nat} (g : HgUp nx L mr first st) : ∀ (w : List Nat) (S q : Nat), S < 2 ^ nx.length → q < nx.length → S.testBit q = true → (∀ a ∈ w, a < L) →
    ∃ S' : Nat, w.foldl (hgF nx mr) (S : Int) = (S' : Int) ∧ S' < 2 ^ nx.length ∧ S'.testBit (runS (nxF nx) q w) = true
  | [], S, q, hS, _, hq, _ => ⟨S, rfl, hS, hq⟩
  | a :: w, S, q, hS, hql, hq, hw => by
    have ha := hw a (by simp)
    have e : hgF nx mr (S : Int) a = ((mr S (nextK nx a S nx.length) : Nat) : Int) := by unfold hgF; rw [Int.toNat_natCast]
    have hX := nextK_lt h ha (S := S) nx.length (Nat.le_refl _)
    rw [List.foldl_cons, e]
    exact hg_run h g w _ (nxF nx q a) (g.lt _ _ hS hX) (nx_lt h.det hql ha) (g.sup _ _ _ hS hX (nextK_has a S _ q hql hq)) (fun b hb => hw b (by simp [hb]))
/-- what the automaton accepts the closing accepts -/
theorem hg_within (h : SmOk L st nx ms) {mr : Nat → Nat → Nat} {first : Nat} (g : HgUp nx L mr first st) (w : List Nat) (hw : ∀ a ∈ w, a < L) (ha : mkF ms (runS (nxF nx) st w) = 1) :
    mkF (lstM L (hgRx L nx mr first) (hgMx L nx ms mr first) 0) (runS (nxF (lstR L (hgRx L nx mr first) (hgMx L nx ms mr first) 0)) 0 w) = 1 := by
  rw [lst_cross (hg_det h g.lt g.fl) (hg_det h g.lt g.fl).pos w hw]
  unfold hgMx hgRx
  rw [(hgL_expl h g.lt g.fl).mark _ w hw]
  obtain ⟨S', e, hS', hb⟩ := hg_run h g w first st g.fl h.st g.has hw
  rw [e]
  unfold hgMk
  rw [Int.toNat_natCast, if_neg]
  intro h0
  have hr := run_lt (n := nx.length) (L := L) (nx := nxF nx) (fun q a hq ha => nx_lt h.det hq ha) w st h.st hw
  have := congrArg (fun z => z.testBit (runS (nxF nx) st w)) h0
  simp only [Nat.testBit_and, Nat.zero_testBit] at this
  rw [hb, bN_test] at this
  unfold mkB at this
  have e2 : ms.getD (runS (nxF nx) st w) 0 = 1 := ha
  rw [e2] at this
  simp [h.len, hr] at this
theorem hg_small (h : SmOk L st nx ms) {mr : Nat → Nat → Nat} {first : Nat} (g : HgUp nx L mr first st) : (lstR L (hgRx L nx mr first) (hgMx L nx ms mr first) 0).length ≤ 32 := by
  have h1 := lst_le (hg_det h g.lt g.fl) (hg_det h g.lt g.fl).pos
  have h2 := (hgL_expl h g.lt g.fl).len
  have h3 := hgU_le h.n5
  have h4 : (hgRx L nx mr first).length = (hgL L nx mr first).length := rows_len _ _ _
  omega
end
/-- the automaton of one state that accepts nothing -/
theorem none_ok (L : Nat) (h1 : 1 ≤ L) (h4 : L ≤ 4) : DetOk L [List.replicate L 0] [0] :=
  ⟨by simp, by simp, h1, h4, by simp, by simp, rfl, by simp⟩
theorem none_mark (q : Nat) : mkF [0] q = 0 := by
  unfold mkF
  match q with
  | 0 => rfl
  | q + 1 => rfl
/-- the least automaton of no word -/
theorem none_least {L : Nat} {nx : List (List Int)} {ms : List Int} (h : DetOk L nx ms) (hw : ∀ w : List Nat, (∀ a ∈ w, a < L) → mkF ms (runS (nxF nx) 0 w) = 0) : (lstR L nx ms 0).length = 1 ∧ lstM L nx ms 0 = [0] := by
  have hn := none_ok L h.L1 h.L4
  have hs := lst_same h hn (st := 0) (st' := 0) h.pos (by simp) (fun w hw' => by rw [hw w hw', none_mark])
  rw [hs.1, hs.2]
  have h1 := lst_le hn (st := 0) (by simp)
  have h2 := (lst_ok hn (st := 0) (by simp)).pos
  have h3 := lst_len L [List.replicate L 0] [0] 0
  have h4 := lst_cross hn (st := 0) (by simp) [] (by simp)
  simp only [List.length_singleton] at h1
  have e1 : (lstR L [List.replicate L 0] [0] 0).length = 1 := by omega
  refine ⟨e1, ?_⟩
  rw [e1] at h3
  obtain ⟨x, hx⟩ := List.length_eq_one_iff.1 h3
  rw [hx] at h4 ⊢
  have : mkF [x] 0 = 0 := h4.trans (none_mark _)
  have hx0 : x = 0 := this
  rw [hx0]
end Go.Proofs.Ytampgoendkjkhaa.H
