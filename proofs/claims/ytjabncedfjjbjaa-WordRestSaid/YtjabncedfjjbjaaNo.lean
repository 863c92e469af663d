/- Hand-proved: word.period, word.normal. -/
import Derived.Test.YtjabncedfjjbjaaRow
import Derived.Test.YtjabncedfjjbjaaPWrBasex
import Derived.Test.YtjabncedfjjbjaaWrM
import Derived.Deep.LoopGhost
import Derived.Deep.RegionHeld3
import Derived.Deep.QuietTactic
import Derived.BigQuiet
import Derived.Laws.CopyOwn
namespace Go.Proofs.Ytjabncedfjjbjaa.H
open Go.RowKit Go.Shelf Go.Proofs.YtjabncedfjjbjaaW.PrintWords Go.Proofs.Ytjabncedfjjbjaa.WrM
set_option linter.unusedVariables false
set_option linter.unusedSimpArgs false

theorem perFind_take (l : List Int) : ∀ d n, perFind l d n = l.take (perFind l d n).length ∧ (perFind l d n).length ≤ l.length
  | 0, n => ⟨(List.take_length ..).symm, Nat.le_refl _⟩
  | d + 1, n => by
    unfold perFind
    split
    · refine ⟨?_, by rw [List.length_take]; omega⟩
      rw [List.length_take]
      by_cases h : n ≤ l.length
      · rw [Nat.min_eq_left h]
      · rw [Nat.min_eq_right (by omega), List.take_length, List.take_of_length_le (by omega)]
    · exact perFind_take l d (n + 1)
theorem perFind_succ (l : List Int) (d n : Nat) : perFind l (d + 1) n = if 0 < n ∧ l.length % n = 0 ∧ l.drop n = l.take (l.length - n) then l.take n else perFind l d (n + 1) := rfl
set_option maxHeartbeats 4000000 in
set_option maxRecDepth 100000 in
theorem period_calls (A0 : Option Addr) (c0 : Nat) (l0 : List Int) (w : World) (hr0 : Kd.C (Kd.int .i64) w A0 l0.length l0) (hc0 : l0.length ≤ c0) (hl : l0.length ≤ 4000) :
    Calls Try.prog 116 #[.slice A0 l0.length c0] w fun e w' => e = .returned (.slice A0 (period l0).length c0) ∧ Drawn0 w w' := by
  have HR := Aside0.mk hr0
  have HC := Aside0.mk hc0
  have HL := Aside0.mk hl
  clear hr0
  go_enter Try.func116, Try.ntmps116
  go_wp2
  go_loopg [6] l0.length (fun gg s6 wr => ∃ (n : Nat) (x : Int), x = n ∧ n ≤ l0.length ∧ l0.length - n ≤ gg ∧ s6 = .int .i64 x ∧ Aside0 (perFind l0 (l0.length - n) n = period l0) ∧ Aside0 (Drawn0 w wr))
  case atStart => exact ⟨0, 0, rfl, Nat.zero_le _, by omega, rfl, ⟨rfl⟩, ⟨⟨0, rfl⟩⟩⟩
  case round =>
    obtain ⟨n, x, hx, hn, hg, rfl, HP, HD⟩ := hrel
    have HX := Aside0.mk hx
    have HBW := Aside0.mk HD.out.below
    by_cases hlt : n < l0.length
    · have hltz : decide (x < (l0.length : Int)) = true := by simp; omega
      have hx0 : 0 ≤ x := by omega
      have hx1 : x ≤ l0.length := by omega
      obtain ⟨d, hd⟩ : ∃ d, l0.length - n = d + 1 := ⟨l0.length - n - 1, by omega⟩
      rw [hd, perFind_succ] at HP
      by_cases hn0 : n = 0
      · subst hn0
        obtain rfl : x = 0 := by simpa using hx
        have HP2 := Aside0.mk (show perFind l0 (l0.length - 1) 1 = period l0 from by have := HP.out; rw [if_neg (by omega)] at this; rw [← this]; congr 1; omega)
        clear HP hx hx0 hd
        go_wp2
        go_quiet (fail)
        go_wp2
        go_roundg (l0.length - 1)
        case measure => omega
        case rel => exact ⟨1, 1, rfl, by omega, by omega, rfl, HP2, ⟨HD.out.step _⟩⟩
      · have hxp : decide (0 < x) = true := by simp; omega
        have hxz : (x == 0) = false := by simp; omega
        have hxn : (x != 0) = true := by simp; omega
        have emod : ((l0.length : Int) % x = 0) ↔ l0.length % n = 0 := by rw [hx]; omega
        have HL2 : (l0.length : Int) ≤ 4000 := by omega
        by_cases hdv : l0.length % n = 0
        · have hrem : (((l0.length : Int) % x) == 0) = true := by simpa using emod.2 hdv
          obtain ⟨A1, m1, d1, em1, hd1, hcut1, hC1⟩ := cutAi A0 c0 l0.length x hx0 hx1 HC.out
          obtain ⟨J, hJ⟩ : ∃ J : Int, (l0.length : Int) - x = J := ⟨_, rfl⟩
          have hJ0 : 0 ≤ J := by omega
          have hJ1 : J ≤ l0.length := by omega
          obtain ⟨m2, em2, hcut2, hC2⟩ := cutBi A0 c0 l0.length J hJ0 hJ1 HC.out
          obtain ⟨m3, em3, hcut3, hC3⟩ := cutBi A0 c0 l0.length x hx0 hx1 HC.out
          have exn : x.toNat = n := by omega
          rw [exn] at em1 hC1 em3
          have hJw : IntKind.i64.wrap ((l0.length : Int) - x) = J := by rw [IntKind.wrap_i64]; omega
          have F1 := Aside0.mk (And.intro (show ∀ W, Below w.heap.size w W → Kd.C (Kd.int .i64) W A1 m1 (l0.drop n) ∧ Kd.C (Kd.int .i64) W A0 m2 (l0.take (l0.length - n)) from fun W hb => ⟨hC1 W l0 (Kd.C_below HR.out hb), by have := hC2 W l0 (Kd.C_below HR.out hb); rwa [show m2 = l0.length - n from by omega] at this ⊢⟩) (show m1 ≤ d1 ∧ m2 ≤ c0 ∧ (l0.drop n).length = m1 ∧ (l0.take (l0.length - n)).length = m2 ∧ m1 ≤ 9223372036854775807 from ⟨hd1, by have := HC.out; omega, by rw [List.length_drop, em1], by rw [List.length_take]; omega, by omega⟩))
          obtain ⟨b, hb⟩ : ∃ b : Bool, decide (l0.drop n = l0.take (l0.length - n)) = b := ⟨_, rfl⟩
          have HBB := Aside0.mk hb
          have H3 := Aside0.mk em3
          clear hC1 hC2 hC3 em1 em2 em3 hd1 hb hJ
          cases b with
          | true =>
            have HQ := Aside0.mk (show period l0 = l0.take n from by have := HP.out; rw [if_pos ⟨by omega, hdv, of_decide_eq_true HBB.out⟩] at this; exact this.symm)
            have HE := Aside0.mk (show (period l0).length = m3 by rw [HQ.out, List.length_take, H3.out]; omega)
            clear HP hdv emod hd
            replace hx := Aside0.mk hx
            go_wp2_with (first | (go_at_call 104; (with_reducible refine (equal_at A1 d1 (l0.drop n) A0 c0 (l0.take (l0.length - n)) m1 m2 _ F1.out.2.2.2.1 F1.out.2.2.2.2.1 ?side1 F1.out.2.1 ?side2 F1.out.2.2.1 true HBB.out F1.out.2.2.2.2.2).mono ?_); (case side1 => exact (F1.out.1 _ (by repeat (first | exact HBW.out | apply pw_below_drewN))).1); (case side2 => exact (F1.out.1 _ (by repeat (first | exact HBW.out | apply pw_below_drewN))).2); rintro e w' ⟨rfl, ⟨nd, rfl⟩⟩; (try first | exact ⟨rfl, _, World.drewN_drewN _ _ _⟩ | exact ⟨rfl, _, Eq.trans (World.drewN_drewN _ _ _) (congrArg (World.drewN _) (Nat.add_assoc _ _ _))⟩)))
            repeat (go_quiet (first | (go_at_call 104; (with_reducible refine (equal_at A1 d1 (l0.drop n) A0 c0 (l0.take (l0.length - n)) m1 m2 _ F1.out.2.2.2.1 F1.out.2.2.2.2.1 ?side1 F1.out.2.1 ?side2 F1.out.2.2.1 true HBB.out F1.out.2.2.2.2.2).mono ?_); (case side1 => exact (F1.out.1 _ (by repeat (first | exact HBW.out | apply pw_below_drewN))).1); (case side2 => exact (F1.out.1 _ (by repeat (first | exact HBW.out | apply pw_below_drewN))).2); rintro e w' ⟨rfl, ⟨nd, rfl⟩⟩; (try first | exact ⟨rfl, _, World.drewN_drewN _ _ _⟩ | exact ⟨rfl, _, Eq.trans (World.drewN_drewN _ _ _) (congrArg (World.drewN _) (Nat.add_assoc _ _ _))⟩))); try go_wp2)
            go_ret
            exact ⟨by rw [HE.out]; rfl, by first | exact HD.out | exact HD.out.step _⟩
          | false =>
            have HQ := Aside0.mk (show perFind l0 (l0.length - (n + 1)) (n + 1) = period l0 from by have := HP.out; rw [if_neg (fun h => of_decide_eq_false HBB.out h.2.2)] at this; rw [← this]; congr 1; omega)
            clear HP hdv emod hd
            replace hx := Aside0.mk hx
            go_wp2_with (first | (go_at_call 104; (with_reducible refine (equal_at A1 d1 (l0.drop n) A0 c0 (l0.take (l0.length - n)) m1 m2 _ F1.out.2.2.2.1 F1.out.2.2.2.2.1 ?side1 F1.out.2.1 ?side2 F1.out.2.2.1 false HBB.out F1.out.2.2.2.2.2).mono ?_); (case side1 => exact (F1.out.1 _ (by repeat (first | exact HBW.out | apply pw_below_drewN))).1); (case side2 => exact (F1.out.1 _ (by repeat (first | exact HBW.out | apply pw_below_drewN))).2); rintro e w' ⟨rfl, ⟨nd, rfl⟩⟩; (try first | exact ⟨rfl, _, World.drewN_drewN _ _ _⟩ | exact ⟨rfl, _, Eq.trans (World.drewN_drewN _ _ _) (congrArg (World.drewN _) (Nat.add_assoc _ _ _))⟩)))
            (go_quiet (first | (go_at_call 104; (with_reducible refine (equal_at A1 d1 (l0.drop n) A0 c0 (l0.take (l0.length - n)) m1 m2 _ F1.out.2.2.2.1 F1.out.2.2.2.2.1 ?side1 F1.out.2.1 ?side2 F1.out.2.2.1 false HBB.out F1.out.2.2.2.2.2).mono ?_); (case side1 => exact (F1.out.1 _ (by repeat (first | exact HBW.out | apply pw_below_drewN))).1); (case side2 => exact (F1.out.1 _ (by repeat (first | exact HBW.out | apply pw_below_drewN))).2); rintro e w' ⟨rfl, ⟨nd, rfl⟩⟩; (try first | exact ⟨rfl, _, World.drewN_drewN _ _ _⟩ | exact ⟨rfl, _, Eq.trans (World.drewN_drewN _ _ _) (congrArg (World.drewN _) (Nat.add_assoc _ _ _))⟩))); try go_wp2)
            go_roundg (l0.length - (n + 1))
            case measure => omega
            case rel => exact ⟨n + 1, x + 1, by have := hx.out; omega, by omega, by omega, rfl, HQ, ⟨by first | exact HD.out | exact HD.out.step _⟩⟩
        · have hrem : (((l0.length : Int) % x) == 0) = false := beq_eq_false_iff_ne.mpr (fun h => hdv (emod.1 h))
          have hrem2 : (((l0.length : Int) % x) != 0) = true := bne_iff_ne.mpr (fun h => hdv (emod.1 h))
          have hxz0 : ¬ x = 0 := by omega
          have exn : x.toNat = n := by omega
          have HQ := Aside0.mk (show perFind l0 (l0.length - (n + 1)) (n + 1) = period l0 from by have := HP.out; rw [if_neg (fun h => hdv h.2.1)] at this; rw [← this]; congr 1; omega)
          clear HP hdv emod hd
          replace hx := Aside0.mk hx
          go_wp2
          go_quiet (fail)
          go_wp2
          go_roundg (l0.length - (n + 1))
          case measure => omega
          case rel => exact ⟨n + 1, x + 1, by have := hx.out; omega, by omega, by omega, rfl, HQ, ⟨by first | exact HD.out | exact HD.out.step _⟩⟩
    · obtain rfl : n = l0.length := by omega
      subst hx
      have e := HP.out
      rw [Nat.sub_self] at e
      have E := Aside0.mk (show l0.length = (period l0).length by rw [← e]; rfl)
      clear hg hlt hn e
      go_wp2
      go_ret
      exact ⟨by rw [← E.out]; rfl, HD.out⟩

/-! ### normal -/
def NoS (W1 : World) (b : Nat) (v0 v1 : Value) (W : World) : Prop := Below W1.heap.size W1 W ∧ W.cell? ⟨b, 0, none⟩ = some v0 ∧ W.cell? ⟨b, 1, none⟩ = some v1
theorem keepNo {W1 W W2 : World} {b : Nat} {v0 v1 : Value} (h : NoS W1 b v0 v1 W) (hb : Below W.heap.size W W2) : NoS W1 b v0 v1 W2 := ⟨below_step h.1 hb, pw_cell_below hb h.2.1, pw_cell_below hb h.2.2⟩
theorem word_at_ev (h l : List Int) (j : Nat) (hj : j < h.length) : PWrBase.word_at.f h l (j : Int) = some (h.getD j 0) := by
  unfold PWrBase.word_at.f
  rw [if_pos (by omega), if_pos (by omega)]
  simp [rd]
theorem trim_succ (h : List Int) (j : Nat) (r : List Int) : trimZ h (j + 1) r = if h.getD j 0 = r.getD (r.length - 1) 0 then trimZ h j (h.getD j 0 :: r.take (r.length - 1)) else (j + 1, r) := rfl
set_option maxHeartbeats 8000000 in
set_option maxRecDepth 100000 in
theorem normal_calls (A0 A1 : Option Addr) (c0 c1 : Nat) (h l : List Int) (w : World) (hr0 : Kd.C (Kd.int .i64) w A0 h.length h) (hc0 : h.length ≤ c0) (hr1 : Kd.C (Kd.int .i64) w A1 l.length l) (hc1 : l.length ≤ c1) (hl : 0 < l.length) (hh4 : h.length ≤ 4000) (hl4 : l.length ≤ 4000) :
    Calls Try.prog 48 #[.agg #[.slice A0 h.length c0, .slice A1 l.length c1]] w fun e w' => ∃ v0 v1 : Value, e = .returned (.agg #[v0, v1]) ∧ Kd.R (Kd.int .i64) 3 w' w.heap.size (fun k => some k ≠ v1.ownBlock) v0 (normZ h l).1 ∧ Kd.R (Kd.int .i64) 3 w' w.heap.size (fun k => some k ≠ v0.ownBlock) v1 (normZ h l).2 ∧ Below w.heap.size w w' := by
  have HR0 := Aside0.mk hr0
  have HR1 := Aside0.mk hr1
  have HC0 := Aside0.mk hc0
  have HC1 := Aside0.mk hc1
  clear hr0 hr1
  have HB1 := Aside0.mk (below_alloc (below_alloc (Below.refl w.heap.size w) (.cells #[.slice A0 h.length c0, .slice A1 l.length c1] 34)) (.cells #[.slice none 0 0, .slice none 0 0] 34))
  obtain ⟨p, p0, p1, pe, po, pm⟩ := period_spec hl
  obtain ⟨P, hP⟩ : ∃ P, period l = P := ⟨_, rfl⟩
  have tlP : P.length = p := by rw [← hP, pe, List.length_take]; omega
  have HNF := Aside0.mk (show normZ h l = (h.take (trimZ h h.length P).1, (trimZ h h.length P).2) by unfold normZ; rw [hP])
  have HPC := Aside0.mk (And.intro hP (show ∀ W, Below w.heap.size w W → Kd.C (Kd.int .i64) W A1 p P from fun W hb => by have := Kd.C_take (Kd.C_below HR1.out hb) (m := p) p1; rw [← pe, hP, tlP] at this; exact this))
  have HPL := Aside0.mk tlP
  have HPP := Aside0.mk (show (period l).length = p by rw [hP, tlP])
  clear pe po pm tlP hP
  go_enter Try.func48, Try.ntmps48
  go_wp2_with fail
  have z0 : ((w.alloc (.cells #[.slice A0 h.length c0, .slice A1 l.length c1] 34)).alloc (.cells #[.slice none 0 0, .slice none 0 0] 34)).cell? ⟨w.heap.size, 0, none⟩ = some (.slice A0 h.length c0) := by go_simp
  have z1 : ((w.alloc (.cells #[.slice A0 h.length c0, .slice A1 l.length c1] 34)).alloc (.cells #[.slice none 0 0, .slice none 0 0] 34)).cell? ⟨w.heap.size, 1, none⟩ = some (.slice A1 l.length c1) := by go_simp
  have hsz : ((w.alloc (.cells #[.slice A0 h.length c0, .slice A1 l.length c1] 34)).alloc (.cells #[.slice none 0 0, .slice none 0 0] 34)).heap.size = w.heap.size + 2 := by simp
  have hbk := blk_new (w.alloc (.cells #[.slice A0 h.length c0, .slice A1 l.length c1] 34)) (.cells #[.slice none 0 0, .slice none 0 0] 34)
  have hs1 : (w.alloc (.cells #[.slice A0 h.length c0, .slice A1 l.length c1] 34)).heap.size = w.heap.size + 1 := by simp
  rw [hs1] at hbk
  generalize (w.alloc (.cells #[.slice A0 h.length c0, .slice A1 l.length c1] 34)).alloc (.cells #[.slice none 0 0, .slice none 0 0] 34) = W1 at HB1 z0 z1 hsz hbk ⊢
  have HBK := Aside0.mk hbk
  have HSZ := Aside0.mk hsz
  clear hbk hsz hs1
  have HN0 := Aside0.mk (show NoS W1 w.heap.size (.slice A0 h.length c0) (.slice A1 l.length c1) W1 from ⟨Below.refl _ _, z0, z1⟩)
  have UP := Aside0.mk (show ∀ W, Below W1.heap.size W1 W → Below w.heap.size w W from fun W hb => below_step HB1.out hb)
  go_region_held3 (fun w' => Below W1.heap.size W1 w' ∧ w'.cell? ⟨w.heap.size, 0, none⟩ = some (.slice A0 h.length c0) ∧ w'.cell? ⟨w.heap.size, 1, none⟩ = some (.slice A1 l.length c1))
    (first
      | exact HN0.out
      | exact keepNo HN0.out (below_drew1 (Below.refl _ _))
      | exact NH.out
      | exact NP.out
      | exact NL.out)
    (first
      | (go_at_call 49
         (with_reducible refine (clone_at A0 h.length c0 h _ rfl ?sa HC0.out ?sb).mono ?_)
         (case sa => exact Kd.C_below HR0.out (UP.out _ (by go_split_ands; assumption)))
         (case sb => omega)
         have HN1 := Aside0.mk (show NoS W1 w.heap.size (.slice A0 h.length c0) (.slice A1 l.length c1) _ from by assumption)
         rintro e w3 ⟨v3, rfl, ho3, hb3⟩
         obtain ⟨Ah, ch, rfl⟩ := Kd.R_slice ho3
         have NH := Aside0.mk (keepNo (show NoS W1 w.heap.size (.slice A0 h.length c0) (.slice A1 l.length c1) _ from by assumption) hb3)
         have OH := Aside0.mk ho3
         have BH := Aside0.mk hb3
         clear ho3 hb3)
      | (go_at_call 49
         (with_reducible refine (clone_at A1 p c1 P _ HPL.out ?sa ?sb ?sc).mono ?_)
         (case sa => exact HPC.out.2 _ (UP.out _ (by go_split_ands; assumption)))
         (case sb => have := HC1.out; omega)
         (case sc => omega)
         rintro e w5 ⟨v5, rfl, ho5, hb5⟩
         obtain ⟨Al, cl, rfl⟩ := Kd.R_slice ho5
         obtain ⟨al, eal, _⟩ := Kd.at_int (Kd.R_reads' ho5).2.2 0 (by decide) (by have := HPL.out; omega)
         subst eal
         obtain ⟨g, rfl, _, hrow, hbg, _⟩ := row_of_R ho5
         have ROW := Aside0.mk hrow
         have HG := Aside0.mk (show w3.heap.size ≤ g from hbg)
         have RH := Aside0.mk (show Kd.R (Kd.int .i64) 3 w5 W1.heap.size (fun k => k < g) (.slice Ah h.length ch) h from Kd.R_lower (Kd.R_below (Kd.R_mono (Kd.R_bound OH.out) (fun k hk => by have := hk.2.2.1; have := HG.out; omega)) (below_step (pw_below_drewN (Below.refl _ _) _) hb5)) HN1.out.1.size)
         have NL := Aside0.mk (keepNo (show NoS W1 w.heap.size (.slice A0 h.length c0) (.slice A1 l.length c1) _ from by assumption) hb5)
         have HGB := Aside0.mk (show W1.heap.size ≤ g from Nat.le_trans HN1.out.1.size (Nat.le_trans BH.out.size HG.out))
         clear ho5 hb5 hrow hbg)
      | (go_at_call 116
         (with_reducible refine (period_calls A1 c1 l _ ?sa HC1.out hl4).mono ?_)
         (case sa => exact Kd.C_below HR1.out (UP.out _ (by go_split_ands; assumption)))
         rw [HPP.out]
         rintro e w4 ⟨rfl, ⟨n4, rfl⟩⟩
         have NP := Aside0.mk (keepNo (show NoS W1 w.heap.size (.slice A0 h.length c0) (.slice A1 l.length c1) _ from by assumption) (pw_below_drewN (Below.refl _ _) n4))))
  go_wp2
  go_loopg [3] h.length (fun gg s3 wr => ∃ (j : Nat) (r : List Int), j ≤ h.length ∧ j ≤ gg ∧ Aside0 (r.length = P.length) ∧ s3 = .slice Ah j ch ∧ Aside0 (trimZ h j r = trimZ h h.length P) ∧ Aside0 (Row wr g r cl) ∧ Aside0 (Below W1.heap.size W1 wr) ∧ Aside0 (Kd.R (Kd.int .i64) 3 wr W1.heap.size (fun k => k < g) (.slice Ah j ch) (h.take j)))
  case atStart => exact ⟨h.length, P, Nat.le_refl _, Nat.le_refl _, ⟨rfl⟩, rfl, ⟨rfl⟩, ROW, ⟨NL.out.1⟩, ⟨by rw [List.take_length]; exact RH.out⟩⟩
  case round =>
    obtain ⟨j, r, hj, hg, HLR, rfl, HT, HRow, HBW, HRH⟩ := hrel
    have zz0 : wr.cell? ⟨w.heap.size, 0, none⟩ = some (.slice A0 h.length c0) := (HBW.out.cell (p := ⟨w.heap.size, 0, none⟩) (by rw [HSZ.out]; simp)).trans z0
    have zz1 : wr.cell? ⟨w.heap.size, 1, none⟩ = some (.slice A1 l.length c1) := (HBW.out.cell (p := ⟨w.heap.size, 1, none⟩) (by rw [HSZ.out]; simp)).trans z1
    clear z0 z1
    have hbk : wr.heap[w.heap.size + 1]? = some (.cells #[.slice none 0 0, .slice none 0 0] 34 (0, 0)) := (HBW.out.block _ (by rw [HSZ.out]; omega)).trans HBK.out
    have y0 : wr.cell? ⟨w.heap.size + 1, 0, none⟩ = some (.slice none 0 0) := (blk_cell hbk 0).trans rfl
    have y1 : wr.cell? ⟨w.heap.size + 1, 1, none⟩ = some (.slice none 0 0) := (blk_cell hbk 1).trans rfl
    have f0 := blk_frozen hbk 0
    have f1 := blk_frozen hbk 1
    clear hbk
    have FIN := Aside0.mk (fun (nq : Nat) (hz : normZ h l = (h.take j, r)) => (show ∃ v0 v1 : Value, Ending.returned (.agg #[.slice Ah j ch, .slice (some ⟨g, 0, none⟩) P.length cl]) = .returned (.agg #[v0, v1]) ∧ Kd.R (Kd.int .i64) 3 (((wr.drewN nq).setCell ⟨w.heap.size + 1, 0, none⟩ (.slice Ah j ch)).setCell ⟨w.heap.size + 1, 1, none⟩ (.slice (some ⟨g, 0, none⟩) P.length cl)) w.heap.size (fun k => some k ≠ v1.ownBlock) v0 (normZ h l).1 ∧ Kd.R (Kd.int .i64) 3 (((wr.drewN nq).setCell ⟨w.heap.size + 1, 0, none⟩ (.slice Ah j ch)).setCell ⟨w.heap.size + 1, 1, none⟩ (.slice (some ⟨g, 0, none⟩) P.length cl)) w.heap.size (fun k => some k ≠ v0.ownBlock) v1 (normZ h l).2 ∧ Below w.heap.size w (((wr.drewN nq).setCell ⟨w.heap.size + 1, 0, none⟩ (.slice Ah j ch)).setCell ⟨w.heap.size + 1, 1, none⟩ (.slice (some ⟨g, 0, none⟩) P.length cl)) from by
      rw [hz]
      have hgs := HGB.out
      have hs := HSZ.out
      refine ⟨_, _, rfl, Kd.R_mono (Kd.R_lower (R_fin2 HRH.out (by omega) _ _) (by omega)) (fun k hk => ?_), ?_, ?_⟩
      · simp only [Value.ownBlock]; intro e; injection e with e; omega
      · have := (HRow.out.fin2 (nq := nq) (b := w.heap.size + 1) (by omega) (.slice Ah j ch) (.slice (some ⟨g, 0, none⟩) P.length cl)).R (base := w.heap.size) (ok := fun k => some k ≠ (Value.slice Ah j ch).ownBlock) (by omega) (fun e => by have := HRH.out.1 g e.symm; omega)
        rw [HLR.out] at this
        exact this
      · exact below_set (below_set (pw_below_drewN (UP.out _ HBW.out) nq) (by simp)) (by simp)))
    by_cases hj0 : j = 0
    · subst hj0
      go_wp2
      go_quiet (fail)
      go_wp2
      refine bodyPost_ret (res2 rfl _ _ (w.heap.size + 1) (.slice Ah 0 ch) (.slice (some ⟨g, 0, none⟩) P.length cl) rfl (by go_simp) (by go_simp)) rfl ?_
      exact FIN.out _ (by rw [HNF.out, ← HT.out]; rfl)
    · have hjn : 0 < j := by omega
      obtain ⟨Y, hY⟩ : ∃ Y : Int, (j : Int) - 1 = Y := ⟨_, rfl⟩
      have hYw : IntKind.i64.wrap ((j : Int) - 1) = Y := by rw [IntKind.wrap_i64]; omega
      have hY0 : 0 ≤ Y := by omega
      have hYj : Y < j := by omega
      obtain ⟨Z, hZ⟩ : ∃ Z : Int, (P.length : Int) - 1 = Z := ⟨_, rfl⟩
      have hZw : IntKind.i64.wrap ((P.length : Int) - 1) = Z := by have := HPL.out; rw [IntKind.wrap_i64]; omega
      have hZ0 : 0 ≤ Z := by have := HPL.out; omega
      have hZj : Z < P.length := by omega
      obtain ⟨ah, eah, hch⟩ := Kd.at_int (Kd.R_reads' HRH.out).2.2 Y hY0 (by rw [List.length_take]; omega)
      subst eah
      have hcl := HRow.out.cell (i := Z.toNat) (by have := HLR.out; omega)
      obtain ⟨a, ha⟩ : ∃ a, rd (h.take j) Y = a := ⟨_, rfl⟩
      obtain ⟨b, hb⟩ : ∃ b, r.getD Z.toNat 0 = b := ⟨_, rfl⟩
      rw [ha] at hch
      rw [hb] at hcl
      have EA := Aside0.mk (show h.getD (j - 1) 0 = a by rw [← ha]; simp only [rd]; rw [show Y.toNat = j - 1 from by omega, getD_take (by omega)])
      have EB := Aside0.mk (show r.getD (r.length - 1) 0 = b by rw [← hb]; have := HLR.out; congr 1; omega)
      have HYZ := Aside0.mk (And.intro hY hZ)
      clear ha hb hY hZ
      by_cases hab : a = b
      · subst hab
        have habb : (a == a) = true := by simp
        have hjc := (Kd.R_reads' HRH.out).2.1
        obtain ⟨m, em, hcutm, hCm⟩ := cutBi (some ah) ch j Y hY0 (by omega) hjc
        have hPc : P.length ≤ cl := by have := HRow.out.le; have := HLR.out; omega
        obtain ⟨A4, m4, d4, em4, hd4, hcut4, hA4⟩ := cut1 g cl P.length (by have := HPL.out; omega) hPc
        have E4 := Aside0.mk (And.intro (show m4 = P.length - 1 from em4) hA4)
        have EM := Aside0.mk (show m = j - 1 from by have := HYZ.out.1; omega)
        have hm : m < h.length := by have := EM.out; omega
        have HPC2 := Aside0.mk hPc
        have HRP := Aside0.mk (show 0 < r.length by have := HPL.out; have := HLR.out; omega)
        have HTN := Aside0.mk (show trimZ h m (a :: r.take (r.length - 1)) = trimZ h h.length P from by
          obtain ⟨i, rfl⟩ : ∃ i, j = i + 1 := ⟨j - 1, by omega⟩
          have e := HT.out
          rw [trim_succ, EB.out, show h.getD i 0 = a from EA.out, if_pos rfl] at e
          rw [← e, EM.out]
          rfl)
        clear em4 hA4 hCm hd4 hPc em y0 y1 f0 f1 FIN
        go_wp2
        go_quiet (fail)
        go_wp2_with fail
        go_region_held3 (fun w' => Below W1.heap.size W1 w' ∧ True)
          (first
            | exact ⟨B7.out, trivial⟩
            | exact ⟨B6.out, trivial⟩
            | exact ⟨below_drew1 HBW.out, trivial⟩
            | exact ⟨pw_below_drewN HBW.out _, trivial⟩
            | exact ⟨below_drew1 (pw_below_drewN HBW.out _), trivial⟩)
          (first
            | (go_at_call 49
               (with_reducible refine (clone_at (some ⟨g, 0, none⟩) P.length cl r _ HLR.out ?sa HPC2.out ?sb).mono ?_)
               (case sa => exact Row.C' (show Row _ g r cl from HRow.out.keep rfl) HLR.out)
               (case sb => have := HPL.out; omega)
               rintro e w6 ⟨v6, rfl, ho6, hb6⟩
               obtain ⟨A6, c6, rfl⟩ := Kd.R_slice ho6
               have B6 := Aside0.mk (below_step (show Below W1.heap.size W1 _ from by go_split_ands; assumption) hb6)
               have C6 := Aside0.mk (Kd.R_reads' ho6).2.2
               have R6 := Aside0.mk (show Row w6 g r cl from Row.below (by exact HRow.out.keep rfl) hb6)
               have H6 := Aside0.mk (show Kd.R (Kd.int .i64) 3 w6 W1.heap.size (fun k => k < g) (.slice (some ah) j ch) (h.take j) from Kd.R_below (by exact Kd.R_step HRH.out (fun _ _ _ => rfl)) hb6)
               clear ho6 hb6)
            | (refine step_copy_splice (by rfl) (.tmp 36) (.tmp 38) 22 22 (by rfl) 3 Try.underlying22 (by kernel_rfl) A4 A6 m4 d4 r.length c6 (by rfl) (by rfl) g 1 (nums .i64 r ++ R6.out.choose) 3 R6.out.choose_spec.1 (nums .i64 (r.take (r.length - 1))) ?sc ?sd ?se ?sf g w6 (Below.refl _ _) (Nat.le_refl _) ?_
               (case sc => rw [nums_length, List.length_take]; show min (r.length - 1) r.length = min r.length m4; have := E4.out.1; have := HLR.out; omega)
               (case sd => exact fun hp => ⟨E4.out.2 (by rw [nums_length, List.length_take] at hp; have := E4.out.1; have := HLR.out; omega), C_cells C6.out (r.length - 1) (by omega) (by rw [nums_length, List.length_take] at hp; omega)⟩)
               (case se => have e := R6.out.choose_spec.2.1; rw [e, nums_length, List.length_take]; have := HPC2.out; have := HLR.out; omega)
               (case sf => intro v hv; simp only [nums, List.mem_map] at hv; obtain ⟨x, _, rfl⟩ := hv; rfl)
               intro w7 hg7 hb7
               have R7 := Aside0.mk (show Row w7 g (r.getD 0 0 :: r.take (r.length - 1)) cl from Row.copied HRP.out R6.out.choose_spec.2.1 R6.out.choose_spec.2.2 hg7)
               have B7 := Aside0.mk (show Below W1.heap.size W1 w7 from B6.out.trans (hb7.mono HGB.out))
               have H7 := Aside0.mk (show Kd.R (Kd.int .i64) 3 w7 W1.heap.size (fun k => k < g) (.slice (some ah) j ch) (h.take j) from Kd.R_step H6.out (fun k hk _ => hb7.block k hk))
               clear hg7 hb7)
            | fail)
        have u0 : w7.cell? ⟨w.heap.size, 0, none⟩ = some (.slice A0 h.length c0) := (B7.out.cell (p := ⟨w.heap.size, 0, none⟩) (by rw [HSZ.out]; simp)).trans ((HBW.out.cell (p := ⟨w.heap.size, 0, none⟩) (by rw [HSZ.out]; simp)).symm.trans zz0)
        have u1 : w7.cell? ⟨w.heap.size, 1, none⟩ = some (.slice A1 l.length c1) := (B7.out.cell (p := ⟨w.heap.size, 1, none⟩) (by rw [HSZ.out]; simp)).trans ((HBW.out.cell (p := ⟨w.heap.size, 1, none⟩) (by rw [HSZ.out]; simp)).symm.trans zz1)
        have hgi : (P.length : Int) > 0 := by have := HPL.out; omega
        have hgn : 0 < P.length := by omega
        clear zz0 zz1 hch hcl
        generalize hcp : goInt ↑(nums .i64 (r.take (r.length - 1))).length = cpv
        clear hcp
        go_wp2_with (go_at_call 50
                     refine (PWrBase.word_at.calls A0 c0 h A1 c1 l (m : Int) a _ (Kd.C_below HR0.out (UP.out _ B7.out)) HC0.out (Kd.C_below HR1.out (UP.out _ B7.out)) HC1.out (by rw [word_at_ev h l m hm, EM.out, EA.out])).mono ?_
                     rintro e w8 ⟨rfl, hb8⟩
                     have R8 := Aside0.mk (Row.below R7.out hb8)
                     have H8 := Aside0.mk (Kd.R_below H7.out hb8)
                     have B8 := Aside0.mk (show Below W1.heap.size W1 w8 from below_step B7.out hb8)
                     have q8 := R8.out.cell (i := 0) (by simp)
                     have qf := R8.out.frozen 0
                     clear hb8)
        go_roundg (j - 1)
        case measure => omega
        case rel => exact ⟨m, a :: r.take (r.length - 1), by omega, by have := EM.out; omega, ⟨by rw [List.length_cons, List.length_take]; have := HRP.out; have := HLR.out; omega⟩, rfl, HTN, ⟨R8.out.set0 a⟩, ⟨below_set B8.out HGB.out⟩, ⟨by have q := Kd.R_far (Kd.R_take H8.out (m := m) (by rw [List.length_take]; have := EM.out; omega)) (p := ⟨g, 0, none⟩) (fun k hk => by show k ≠ g; omega) (.int .i64 a); rw [List.take_take, Nat.min_eq_left (by have := EM.out; omega)] at q; exact q⟩⟩
      · have habb : (a == b) = false := by simpa using hab
        go_wp2
        go_quiet (fail)
        go_wp2
        refine bodyPost_ret (res2 rfl _ _ (w.heap.size + 1) (.slice (some ah) j ch) (.slice (some ⟨g, 0, none⟩) P.length cl) rfl (by go_simp) (by go_simp)) rfl ?_
        refine FIN.out _ ?_
        obtain ⟨i, rfl⟩ : ∃ i, j = i + 1 := ⟨j - 1, by omega⟩
        have e := HT.out
        rw [trim_succ, EB.out, show h.getD i 0 = a from EA.out, if_neg hab] at e
        rw [HNF.out, ← e]
def word_normal.f (l0_0 l0_1 : List Int) : Option (List Int × List Int) := if 0 < l0_1.length ∧ l0_0.length ≤ 4000 ∧ l0_1.length ≤ 4000 then some (normZ l0_0 l0_1) else none
theorem word_normal.calls (A0_0 : Option Addr) (c0_0 : Nat) (l0_0 : List Int) (A0_1 : Option Addr) (c0_1 : Nat) (l0_1 : List Int) (r1 : List Int) (r2 : List Int) (w : World) (hr0_0 : Kd.C (Kd.int .i64) w A0_0 l0_0.length l0_0) (hc0_0 : l0_0.length ≤ c0_0) (hr0_1 : Kd.C (Kd.int .i64) w A0_1 l0_1.length l0_1) (hc0_1 : l0_1.length ≤ c0_1) (h : word_normal.f l0_0 l0_1 = some (r1, r2)) :
    Calls Try.prog 48 #[.agg #[.slice A0_0 l0_0.length c0_0, .slice A0_1 l0_1.length c0_1]] w fun e w' => ∃ v0_ v1_ : Value, e = .returned (.agg #[v0_, v1_]) ∧ Kd.R (Kd.int .i64) 3 w' w.heap.size (fun k_ => some k_ ≠ (v1_ : Value).ownBlock) v0_ r1 ∧ Kd.R (Kd.int .i64) 3 w' w.heap.size (fun k_ => some k_ ≠ (v0_ : Value).ownBlock) v1_ r2 ∧ Below w.heap.size w w' := by
  unfold word_normal.f at h
  by_cases hc : 0 < l0_1.length ∧ l0_0.length ≤ 4000 ∧ l0_1.length ≤ 4000
  · rw [if_pos hc] at h
    have e := Option.some.inj h
    have := normal_calls A0_0 A0_1 c0_0 c0_1 l0_0 l0_1 w hr0_0 hc0_0 hr0_1 hc0_1 hc.1 hc.2.1 hc.2.2
    rw [e] at this
    exact this
  · rw [if_neg hc] at h; cases h
end Go.Proofs.Ytjabncedfjjbjaa.H
