/- Hand-proved: package ehren, up to Wins. -/
import Derived.Test.YtjabncedfjjbjaaEh
import Derived.Test.YtjabncedfjjbjaaPFitsx
import Derived.Deep.LoopGhost
namespace Go.Proofs.Ytjabncedfjjbjaa.H
open Go.RowKit Go.Shelf Go.Proofs.YtjabncedfjjbjaaW.PrintWords
set_option linter.unusedVariables false
set_option linter.unusedSimpArgs false

/-! ### the plain words -/
def cmpI (x y : Int) : Int := if x < y then -1 else if x > y then 1 else 0
def fitsF (u v a b : List Int) (p q : Int) : Bool := decide (u.getD p.toNat 0 = v.getD q.toNat 0) && (a.zip b).all (fun x => decide (cmpI x.1 p = cmpI x.2 q))
def winsF : Nat → List Int → List Int → List Int → List Int → Bool
  | 0, _, _, _, _ => true
  | k + 1, u, v, a, b =>
    (List.range u.length).all (fun p => (List.range v.length).any (fun q => fitsF u v a b p q && winsF k u v (a ++ [(p : Int)]) (b ++ [(q : Int)])))
    && (List.range v.length).all (fun p => (List.range u.length).any (fun q => fitsF v u b a p q && winsF k v u (b ++ [(p : Int)]) (a ++ [(q : Int)])))
def okF (k : Nat) (u v a b : List Int) (p q : Nat) : Bool := fitsF u v a b p q && winsF k u v (a ++ [(p : Int)]) (b ++ [(q : Int)])
def replyF (k : Nat) (u v a b : List Int) (p : Nat) : Bool := (List.range v.length).any (okF k u v a b p)
theorem winsF_succ (k : Nat) (u v a b : List Int) : winsF (k + 1) u v a b = ((List.range u.length).all (replyF k u v a b) && (List.range v.length).all (replyF k v u b a)) := rfl

/-! ### fits -/
theorem cmp_ev (x y : Int) : PFits.cmp_Compare_int.f x y = some (cmpI x y) := by
  unfold PFits.cmp_Compare_int.f PFits.cmp_isNaN_int.f cmpI
  by_cases h1 : x < y
  · simp [h1]
  · by_cases h2 : x > y <;> simp [h1, h2]
theorem fits_l0 (u v a b : List Int) (p q : Int) (hab : a.length = b.length) (hn : a.length < 100) : ∀ d i k, a.length - i = d → i ≤ a.length → d < k → PFits.ehren_table_fits.l0 k p q (a.length : Int) (i : Int) u v a b = some (((a.drop i).zip (b.drop i)).all (fun x => decide (cmpI x.1 p = cmpI x.2 q))) := by
  intro d
  induction d with
  | zero =>
    intro i k hd hi hk
    obtain ⟨k, rfl⟩ : ∃ m, k = m + 1 := ⟨k - 1, by omega⟩
    rw [List.drop_of_length_le (show a.length ≤ i by omega)]
    simp only [PFits.ehren_table_fits.l0]
    rw [if_neg (by omega)]
    simp
  | succ d ih =>
    intro i k hd hi hk
    obtain ⟨k, rfl⟩ : ∃ m, k = m + 1 := ⟨k - 1, by omega⟩
    have hlt : i < a.length := by omega
    have hlb : i < b.length := by omega
    simp only [PFits.ehren_table_fits.l0]
    rw [if_pos (by omega), if_pos (by omega), if_pos (by omega), cmp_ev, rd_at hlt, rd_at hlb, cmp_ev, List.drop_eq_getElem_cons hlt, List.drop_eq_getElem_cons hlb, List.zip_cons_cons, List.all_cons]
    simp only [Option.bind_some]
    rw [if_pos (by omega)]
    by_cases e : cmpI a[i] p = cmpI b[i] q
    · rw [if_pos e, w64 (by omega) (by omega), show ((i : Int) + 1) = ((i + 1 : Nat) : Int) from by omega, ih (i + 1) k (by omega) (by omega) (by omega)]
      simp [e]
    · rw [if_neg e]; simp [e]
theorem fits_calls (A0 A1 A2 A3 : Option Addr) (c0 c1 c2 c3 : Nat) (u v a b : List Int) (p q : Nat) (w : World)
    (hr0 : Kd.C (Kd.int .i64) w A0 u.length u) (hc0 : u.length ≤ c0) (hr1 : Kd.C (Kd.int .i64) w A1 v.length v) (hc1 : v.length ≤ c1) (hr2 : Kd.C (Kd.int .i64) w A2 a.length a) (hc2 : a.length ≤ c2) (hr3 : Kd.C (Kd.int .i64) w A3 b.length b) (hc3 : b.length ≤ c3)
    (hp : p < u.length) (hq : q < v.length) (hab : a.length = b.length) (hn : a.length < 100) (r : Bool) (hr : fitsF u v a b p q = r) :
    Calls Try.prog 170 #[.agg #[.slice A0 u.length c0, .slice A1 v.length c1, .slice A2 a.length c2, .slice A3 b.length c3], .int .i64 p, .int .i64 q] w fun e w' => e = .returned (.bool r) ∧ Below w.heap.size w w' := by
  refine PFits.ehren_table_fits.calls (a.length + 1) A0 c0 u A1 c1 v A2 c2 a A3 c3 b p q r w hr0 hc0 hr1 hc1 hr2 hc2 hr3 hc3 ?_
  unfold PFits.ehren_table_fits.f
  have h0 := fits_l0 u v a b p q hab hn a.length 0 (a.length + 1) (by omega) (by omega) (by omega)
  simp only [List.drop_zero] at h0
  rw [if_pos (by omega), if_pos (by omega), if_pos (by omega), if_pos (by omega), show (0 : Int) = ((0 : Nat) : Int) from rfl, h0, ← hr]
  unfold fitsF rd
  by_cases e : u.getD ((p : Int).toNat) 0 = v.getD ((q : Int).toNat) 0
  · rw [if_pos e]; simp only [e, decide_true, Bool.true_and]
  · rw [if_neg e]; simp only [e, decide_false, Bool.false_and]

/-! ### turned -/
theorem turned_calls (A0 A1 A2 A3 : Option Addr) (n0 n1 n2 n3 c0 c1 c2 c3 : Nat) (w : World) :
    Calls Try.prog 122 #[.agg #[.slice A0 n0 c0, .slice A1 n1 c1, .slice A2 n2 c2, .slice A3 n3 c3]] w fun e w' => e = .returned (.agg #[.slice A1 n1 c1, .slice A0 n0 c0, .slice A3 n3 c3, .slice A2 n2 c2]) ∧ Below w.heap.size w w' := by
  have hu132 := Try.underlying132
  go_enter Try.func122, Try.ntmps122
  go_wp2
  (try simp only [Exit.inBlock, Exit.then])
  refine bodyPost_ret (res4 rfl _ _ (w.heap.size + 1) (.slice A1 n1 c1) (.slice A0 n0 c0) (.slice A3 n3 c3) (.slice A2 n2 c2) rfl (by go_simp) (by go_simp) (by go_simp) (by go_simp)) rfl ?_
  exact ⟨rfl, by repeat (first | exact Below.refl _ _ | refine below_set ?_ (Nat.le_succ _) | apply below_alloc)⟩

/-! ### reply -/
/-- What wins answers, k rounds being left. -/
def WinsC (k : Nat) : Prop := ∀ (A0 A1 A2 A3 : Option Addr) (c0 c1 c2 c3 : Nat) (u v a b : List Int) (w : World),
    Kd.C (Kd.int .i64) w A0 u.length u → u.length ≤ c0 → Kd.C (Kd.int .i64) w A1 v.length v → v.length ≤ c1 → Kd.C (Kd.int .i64) w A2 a.length a → a.length ≤ c2 → Kd.C (Kd.int .i64) w A3 b.length b → b.length ≤ c3 →
    a.length = b.length → a.length + k < 90 → ∀ r, winsF k u v a b = r →
    Calls Try.prog 55 #[.agg #[.slice A0 u.length c0, .slice A1 v.length c1, .slice A2 a.length c2, .slice A3 b.length c3], .int .i64 k] w fun e w' => e = .returned (.bool r) ∧ Below w.heap.size w w'
theorem any_lt {n : Nat} {f : Nat → Bool} (k : Nat) (hk : k < n) (h : f k = true) : (List.range n).any f = true := List.any_eq_true.2 ⟨k, List.mem_range.2 hk, h⟩
theorem any_no {n : Nat} {f : Nat → Bool} (h : ∀ k, k < n → f k = false) : (List.range n).any f = false := by
  rw [List.any_eq_false]; intro x hx; simp [h x (List.mem_range.1 hx)]
theorem WinsC.at_ {k : Nat} (h : WinsC k) (A0 A1 A2 A3 : Option Addr) (c0 c1 c2 c3 n2 n3 : Nat) (u v a b : List Int) (w : World)
    (hr0 : Kd.C (Kd.int .i64) w A0 u.length u) (hc0 : u.length ≤ c0) (hr1 : Kd.C (Kd.int .i64) w A1 v.length v) (hc1 : v.length ≤ c1) (e2 : a.length = n2) (e3 : b.length = n3) (hr2 : Kd.C (Kd.int .i64) w A2 a.length a) (hc2 : n2 ≤ c2) (hr3 : Kd.C (Kd.int .i64) w A3 b.length b) (hc3 : n3 ≤ c3)
    (hab : n2 = n3) (hn : n2 + k < 90) (r : Bool) (hr : winsF k u v a b = r) :
    Calls Try.prog 55 #[.agg #[.slice A0 u.length c0, .slice A1 v.length c1, .slice A2 n2 c2, .slice A3 n3 c3], .int .i64 k] w fun e w' => e = .returned (.bool r) ∧ Below w.heap.size w w' := by
  subst e2 e3
  exact h A0 A1 A2 A3 c0 c1 c2 c3 u v a b w hr0 hc0 hr1 hc1 hr2 hc2 hr3 hc3 hab hn r hr
set_option maxHeartbeats 4000000 in
theorem reply_calls (k : Nat) (hW : WinsC k) (A0 A1 A2 A3 : Option Addr) (c0 c1 c2 c3 : Nat) (u v a b : List Int) (p : Nat) (w : World)
    (hr0 : Kd.C (Kd.int .i64) w A0 u.length u) (hc0 : u.length ≤ c0) (hr1 : Kd.C (Kd.int .i64) w A1 v.length v) (hc1 : v.length ≤ c1) (hr2 : Kd.C (Kd.int .i64) w A2 a.length a) (hc2 : a.length ≤ c2) (hr3 : Kd.C (Kd.int .i64) w A3 b.length b) (hc3 : b.length ≤ c3)
    (hp : p < u.length) (hab : a.length = b.length) (hn : a.length + k < 89) (r : Bool) (hr : replyF k u v a b p = r) :
    Calls Try.prog 123 #[.agg #[.slice A0 u.length c0, .slice A1 v.length c1, .slice A2 a.length c2, .slice A3 b.length c3], .int .i64 p, .int .i64 k] w fun e w' => ∃ q : Int, e = .returned (.tuple #[.int .i64 q, .bool r]) ∧ Below w.heap.size w w' := by
  subst hr
  have hu132 := Try.underlying132
  have hbig : v.length ≤ 9223372036854775807 := hr1.2.1
  have HW := Aside0.mk hW
  have HR0 := Aside0.mk hr0
  have HR1 := Aside0.mk hr1
  have HR2 := Aside0.mk hr2
  have HR3 := Aside0.mk hr3
  have HC0 := Aside0.mk hc0
  have HC1 := Aside0.mk hc1
  have HC2 := Aside0.mk hc2
  have HC3 := Aside0.mk hc3
  have HP := Aside0.mk hp
  have HAB := Aside0.mk hab
  have HN := Aside0.mk hn
  clear hW hr0 hr1 hr2 hr3 hc0 hc1 hc2 hc3 hp hab hn
  go_enter Try.func123, Try.ntmps123
  go_wp2
  have HB0 := Aside0.mk (below_alloc (Below.refl w.heap.size w) (.cells #[.slice A0 u.length c0, .slice A1 v.length c1, .slice A2 a.length c2, .slice A3 b.length c3] 132))
  have hsz : (w.alloc (.cells #[.slice A0 u.length c0, .slice A1 v.length c1, .slice A2 a.length c2, .slice A3 b.length c3] 132)).heap.size = w.heap.size + 1 := by simp
  have hz0 : (w.alloc (.cells #[.slice A0 u.length c0, .slice A1 v.length c1, .slice A2 a.length c2, .slice A3 b.length c3] 132)).cell? ⟨w.heap.size, 0, none⟩ = some (.slice A0 u.length c0) := by go_simp
  have hz1 : (w.alloc (.cells #[.slice A0 u.length c0, .slice A1 v.length c1, .slice A2 a.length c2, .slice A3 b.length c3] 132)).cell? ⟨w.heap.size, 1, none⟩ = some (.slice A1 v.length c1) := by go_simp
  have hz2 : (w.alloc (.cells #[.slice A0 u.length c0, .slice A1 v.length c1, .slice A2 a.length c2, .slice A3 b.length c3] 132)).cell? ⟨w.heap.size, 2, none⟩ = some (.slice A2 a.length c2) := by go_simp
  have hz3 : (w.alloc (.cells #[.slice A0 u.length c0, .slice A1 v.length c1, .slice A2 a.length c2, .slice A3 b.length c3] 132)).cell? ⟨w.heap.size, 3, none⟩ = some (.slice A3 b.length c3) := by go_simp
  generalize (w.alloc (.cells #[.slice A0 u.length c0, .slice A1 v.length c1, .slice A2 a.length c2, .slice A3 b.length c3] 132)) = w0 at HB0 hsz hz0 hz1 hz2 hz3 ⊢
  go_loopg [8, 12] v.length (fun gg _ s12 wr => ∃ kk : Nat, kk ≤ v.length ∧ v.length - kk ≤ gg ∧ s12 = .int .i64 kk ∧ Aside0 (Below w0.heap.size w0 wr) ∧ Aside0 (∀ j, j < kk → okF k u v a b p j = false))
  case atStart => exact ⟨0, Nat.zero_le _, by omega, rfl, ⟨Below.refl _ _⟩, ⟨fun j hj => absurd hj (Nat.not_lt_zero _)⟩⟩
  case round =>
    obtain ⟨kk, hkk, hg, rfl, BW, AA⟩ := hrel
    have BWw := Aside0.mk (below_step HB0.out BW.out)
    have g0 := (BW.out.cell (p := ⟨w.heap.size, 0, none⟩) (by simp [hsz])).trans hz0
    have g1 := (BW.out.cell (p := ⟨w.heap.size, 1, none⟩) (by simp [hsz])).trans hz1
    have g2 := (BW.out.cell (p := ⟨w.heap.size, 2, none⟩) (by simp [hsz])).trans hz2
    have g3 := (BW.out.cell (p := ⟨w.heap.size, 3, none⟩) (by simp [hsz])).trans hz3
    by_cases hlt : kk < v.length
    · have hltz : (kk : Int) < (v.length : Int) := by omega
      have hf := fits_calls A0 A1 A2 A3 c0 c1 c2 c3 u v a b p kk wr (Kd.C_below HR0.out BWw.out) HC0.out (Kd.C_below HR1.out BWw.out) HC1.out (Kd.C_below HR2.out BWw.out) HC2.out (Kd.C_below HR3.out BWw.out) HC3.out HP.out hlt HAB.out (by have := HN.out; omega) _ rfl
      cases hq : fitsF u v a b p kk with
      | false =>
        have hno := Aside0.mk (show okF k u v a b p kk = false by unfold okF; rw [hq]; rfl)
        rw [hq] at hf
        have HF := Aside0.mk hf
        clear hf hq
        go_wp2_with (go_at_call 170; refine HF.out.mono ?_; rintro e w1 ⟨rfl, hb1⟩)
        go_roundg (v.length - (kk + 1))
        case measure => omega
        case rel => exact ⟨kk + 1, by omega, by omega, by go_num, ⟨below_step BW.out hb1⟩, ⟨fun j hj => by
          by_cases e : j = kk
          · subst e; exact hno.out
          · exact AA.out j (by omega)⟩⟩
      | true =>
        rw [hq] at hf
        have HF := Aside0.mk hf
        cases hw : winsF k u v (a ++ [(p : Int)]) (b ++ [(kk : Int)]) with
        | true =>
          have hyes := Aside0.mk (show replyF k u v a b p = true from any_lt kk hlt (by unfold okF; rw [hq, hw]; rfl))
          have HWR := Aside0.mk hw
          clear hf hq hw
          go_wp2_with (first
            | (go_at_call 170
               refine HF.out.mono ?_
               rintro e w1 ⟨rfl, hb1⟩
               have k0 := (hb1.cell (p := ⟨w.heap.size, 0, none⟩) (World.block_lt_of_cell? _ _ g0)).trans g0
               have k1 := (hb1.cell (p := ⟨w.heap.size, 1, none⟩) (World.block_lt_of_cell? _ _ g1)).trans g1
               have k2 := (hb1.cell (p := ⟨w.heap.size, 2, none⟩) (World.block_lt_of_cell? _ _ g2)).trans g2
               have k3 := (hb1.cell (p := ⟨w.heap.size, 3, none⟩) (World.block_lt_of_cell? _ _ g3)).trans g3
               have B1 := Aside0.mk (below_step BWw.out hb1)
               have BW1 := Aside0.mk (below_step BW.out hb1)
               clear hb1)
            | (go_at_call 171
               refine (with_calls A0 A1 A2 A3 u.length v.length c0 c1 c2 c3 a b p kk _ (Kd.C_below HR2.out B1.out) HC2.out (Kd.C_below HR3.out B1.out) HC3.out (by have := HN.out; omega) (by have := HN.out; have := HAB.out; omega)).mono ?_
               rintro e w2 ⟨v2, v3, rfl, h2, h3, hb2⟩
               obtain ⟨Ao2, co2, rfl⟩ := Kd.R_slice h2
               obtain ⟨Ao3, co3, rfl⟩ := Kd.R_slice h3
               have X2 := Aside0.mk (Kd.R_reads' h2)
               have X3 := Aside0.mk (Kd.R_reads' h3)
               have B2 := Aside0.mk (below_step B1.out hb2)
               have BW2 := Aside0.mk (below_step BW1.out hb2)
               clear h2 h3 hb2)
            | (go_at_call 55
               refine (WinsC.at_ HW.out A0 A1 Ao2 Ao3 c0 c1 co2 co3 (a.length + 1) (b.length + 1) u v (a ++ [(p : Int)]) (b ++ [(kk : Int)]) _ (Kd.C_below HR0.out B2.out) HC0.out (Kd.C_below HR1.out B2.out) HC1.out (by simp) (by simp) X2.out.2.2 (by simpa using X2.out.2.1) X3.out.2.2 (by simpa using X3.out.2.1) (by rw [HAB.out]) (by have := HN.out; omega) _ HWR.out).mono ?_
               rintro e w3 ⟨rfl, hb3⟩
               have B3 := Aside0.mk (below_step B2.out hb3)
               have BW3 := Aside0.mk (below_step BW2.out hb3)
               clear hb3))
          go_ret2
          exact ⟨_, by rw [hyes.out]; rfl, B3.out⟩
        | false =>
          have hno := Aside0.mk (show okF k u v a b p kk = false by unfold okF; rw [hq, hw]; rfl)
          have HWR := Aside0.mk hw
          clear hf hq hw
          go_wp2_with (first
            | (go_at_call 170
               refine HF.out.mono ?_
               rintro e w1 ⟨rfl, hb1⟩
               have k0 := (hb1.cell (p := ⟨w.heap.size, 0, none⟩) (World.block_lt_of_cell? _ _ g0)).trans g0
               have k1 := (hb1.cell (p := ⟨w.heap.size, 1, none⟩) (World.block_lt_of_cell? _ _ g1)).trans g1
               have k2 := (hb1.cell (p := ⟨w.heap.size, 2, none⟩) (World.block_lt_of_cell? _ _ g2)).trans g2
               have k3 := (hb1.cell (p := ⟨w.heap.size, 3, none⟩) (World.block_lt_of_cell? _ _ g3)).trans g3
               have B1 := Aside0.mk (below_step BWw.out hb1)
               have BW1 := Aside0.mk (below_step BW.out hb1)
               clear hb1)
            | (go_at_call 171
               refine (with_calls A0 A1 A2 A3 u.length v.length c0 c1 c2 c3 a b p kk _ (Kd.C_below HR2.out B1.out) HC2.out (Kd.C_below HR3.out B1.out) HC3.out (by have := HN.out; omega) (by have := HN.out; have := HAB.out; omega)).mono ?_
               rintro e w2 ⟨v2, v3, rfl, h2, h3, hb2⟩
               obtain ⟨Ao2, co2, rfl⟩ := Kd.R_slice h2
               obtain ⟨Ao3, co3, rfl⟩ := Kd.R_slice h3
               have X2 := Aside0.mk (Kd.R_reads' h2)
               have X3 := Aside0.mk (Kd.R_reads' h3)
               have B2 := Aside0.mk (below_step B1.out hb2)
               have BW2 := Aside0.mk (below_step BW1.out hb2)
               clear h2 h3 hb2)
            | (go_at_call 55
               refine (WinsC.at_ HW.out A0 A1 Ao2 Ao3 c0 c1 co2 co3 (a.length + 1) (b.length + 1) u v (a ++ [(p : Int)]) (b ++ [(kk : Int)]) _ (Kd.C_below HR0.out B2.out) HC0.out (Kd.C_below HR1.out B2.out) HC1.out (by simp) (by simp) X2.out.2.2 (by simpa using X2.out.2.1) X3.out.2.2 (by simpa using X3.out.2.1) (by rw [HAB.out]) (by have := HN.out; omega) _ HWR.out).mono ?_
               rintro e w3 ⟨rfl, hb3⟩
               have B3 := Aside0.mk (below_step B2.out hb3)
               have BW3 := Aside0.mk (below_step BW2.out hb3)
               clear hb3))
          go_roundg (v.length - (kk + 1))
          case measure => omega
          case rel => exact ⟨kk + 1, by omega, by omega, by go_num, ⟨BW3.out⟩, ⟨fun j hj => by
            by_cases e : j = kk
            · subst e; exact hno.out
            · exact AA.out j (by omega)⟩⟩
    · have hltz : ¬ (kk : Int) < (v.length : Int) := by omega
      have hfin := Aside0.mk (show replyF k u v a b p = false from any_no (fun j hj => AA.out j (by omega)))
      go_wp2
      go_ret2
      exact ⟨⟨0, by rw [hfin.out]; rfl⟩, BWw.out⟩

/-! ### wins -/
theorem all_no {n : Nat} {f : Nat → Bool} (k : Nat) (hk : k < n) (h : f k = false) : (List.range n).all f = false := by
  rw [List.all_eq_false]; exact ⟨k, List.mem_range.2 hk, by simp [h]⟩
theorem all_yes {n : Nat} {f : Nat → Bool} (h : ∀ k, k < n → f k = true) : (List.range n).all f = true := by
  rw [List.all_eq_true]; intro x hx; exact h x (List.mem_range.1 hx)
set_option maxHeartbeats 8000000 in
theorem wins_all : ∀ k, WinsC k := by
  intro k
  induction k with
  | zero =>
    intro A0 A1 A2 A3 c0 c1 c2 c3 u v a b w hr0 hc0 hr1 hc1 hr2 hc2 hr3 hc3 hab hn r hr
    subst hr
    go_enter Try.func55, Try.ntmps55
    go_wp2
    go_ret
    exact ⟨rfl, by repeat (first | exact Below.refl _ _ | apply below_alloc)⟩
  | succ k ih =>
    intro A0 A1 A2 A3 c0 c1 c2 c3 u v a b w hr0 hc0 hr1 hc1 hr2 hc2 hr3 hc3 hab hn r hr
    have hu132 := Try.underlying132
    have hbig : u.length ≤ 9223372036854775807 := hr0.2.1
    have hbig1 : v.length ≤ 9223372036854775807 := hr1.2.1
    have HRR := Aside0.mk hr
    have HR0 := Aside0.mk hr0
    have HR1 := Aside0.mk hr1
    have HR2 := Aside0.mk hr2
    have HR3 := Aside0.mk hr3
    have HC0 := Aside0.mk hc0
    have HC1 := Aside0.mk hc1
    have HC2 := Aside0.mk hc2
    have HC3 := Aside0.mk hc3
    have HAB := Aside0.mk hab
    have HN := Aside0.mk hn
    have IH := Aside0.mk ih
    have hk1 : IntKind.i64.wrap (((k + 1 : Nat) : Int) - 1) = (k : Int) := by rw [IntKind.wrap_i64]; omega
    have hk2 : (((k + 1 : Nat) : Int) == 0) = false := by simp; omega
    clear hr0 hr1 hr2 hr3 hc0 hc1 hc2 hc3 hab hn hr ih
    generalize ((k + 1 : Nat) : Int) = kz at hk1 hk2 ⊢
    go_enter Try.func55, Try.ntmps55
    go_wp2_with fail
    go_region_held3 (fun w' => Below w.heap.size w w' ∧ w'.cell? ⟨w.heap.size, 0, none⟩ = some (.slice A0 u.length c0) ∧ w'.cell? ⟨w.heap.size, 1, none⟩ = some (.slice A1 v.length c1) ∧ w'.cell? ⟨w.heap.size, 2, none⟩ = some (.slice A2 a.length c2) ∧ w'.cell? ⟨w.heap.size, 3, none⟩ = some (.slice A3 b.length c3))
      (first
        | exact ⟨HBt.out, T0, T1, T2, T3⟩
        | exact ⟨below_alloc HBt.out _, cell_al T0 _, cell_al T1 _, cell_al T2 _, cell_al T3 _⟩
        | exact ⟨by repeat (first | exact Below.refl _ _ | apply below_drew1 | apply below_alloc), by go_simp, by go_simp, by go_simp, by go_simp⟩)
      (first
        | (go_at_call 122
           refine (turned_calls A0 A1 A2 A3 u.length v.length a.length b.length c0 c1 c2 c3 _).mono ?_
           rintro e wt ⟨rfl, hbt⟩
           have HBt := Aside0.mk (below_step (show Below w.heap.size w _ from by repeat (first | exact Below.refl _ _ | apply below_drew1 | apply below_alloc)) hbt)
           have T0 : wt.cell? ⟨w.heap.size, 0, none⟩ = some (.slice A0 u.length c0) := (hbt.cell (p := ⟨w.heap.size, 0, none⟩) (by simp)).trans (by go_simp)
           have T1 : wt.cell? ⟨w.heap.size, 1, none⟩ = some (.slice A1 v.length c1) := (hbt.cell (p := ⟨w.heap.size, 1, none⟩) (by simp)).trans (by go_simp)
           have T2 : wt.cell? ⟨w.heap.size, 2, none⟩ = some (.slice A2 a.length c2) := (hbt.cell (p := ⟨w.heap.size, 2, none⟩) (by simp)).trans (by go_simp)
           have T3 : wt.cell? ⟨w.heap.size, 3, none⟩ = some (.slice A3 b.length c3) := (hbt.cell (p := ⟨w.heap.size, 3, none⟩) (by simp)).trans (by go_simp)
           clear hbt))
    go_wp2
    refine wp_loop_rounds 3 ?_
    rw [rounds_succ]
    go_wp2
    have W1 := Aside0.mk (below_alloc (below_alloc HBt.out (.cells #[.slice A0 u.length c0, .slice A1 v.length c1, .slice A2 a.length c2, .slice A3 b.length c3, .slice A1 v.length c1, .slice A0 u.length c0, .slice A3 b.length c3, .slice A2 a.length c2] 132)) (.cells #[.slice A0 u.length c0, .slice A1 v.length c1, .slice A2 a.length c2, .slice A3 b.length c3] 132))
    have hs1 : ((wt.alloc (.cells #[.slice A0 u.length c0, .slice A1 v.length c1, .slice A2 a.length c2, .slice A3 b.length c3, .slice A1 v.length c1, .slice A0 u.length c0, .slice A3 b.length c3, .slice A2 a.length c2] 132)).alloc (.cells #[.slice A0 u.length c0, .slice A1 v.length c1, .slice A2 a.length c2, .slice A3 b.length c3] 132)).heap.size = wt.heap.size + 2 := by simp
    have q0 : ((wt.alloc (.cells #[.slice A0 u.length c0, .slice A1 v.length c1, .slice A2 a.length c2, .slice A3 b.length c3, .slice A1 v.length c1, .slice A0 u.length c0, .slice A3 b.length c3, .slice A2 a.length c2] 132)).alloc (.cells #[.slice A0 u.length c0, .slice A1 v.length c1, .slice A2 a.length c2, .slice A3 b.length c3] 132)).cell? ⟨wt.heap.size, 0, none⟩ = some (.slice A0 u.length c0) := by go_simp
    have q1 : ((wt.alloc (.cells #[.slice A0 u.length c0, .slice A1 v.length c1, .slice A2 a.length c2, .slice A3 b.length c3, .slice A1 v.length c1, .slice A0 u.length c0, .slice A3 b.length c3, .slice A2 a.length c2] 132)).alloc (.cells #[.slice A0 u.length c0, .slice A1 v.length c1, .slice A2 a.length c2, .slice A3 b.length c3] 132)).cell? ⟨wt.heap.size, 1, none⟩ = some (.slice A1 v.length c1) := by go_simp
    have q2 : ((wt.alloc (.cells #[.slice A0 u.length c0, .slice A1 v.length c1, .slice A2 a.length c2, .slice A3 b.length c3, .slice A1 v.length c1, .slice A0 u.length c0, .slice A3 b.length c3, .slice A2 a.length c2] 132)).alloc (.cells #[.slice A0 u.length c0, .slice A1 v.length c1, .slice A2 a.length c2, .slice A3 b.length c3] 132)).cell? ⟨wt.heap.size, 2, none⟩ = some (.slice A2 a.length c2) := by go_simp
    have q3 : ((wt.alloc (.cells #[.slice A0 u.length c0, .slice A1 v.length c1, .slice A2 a.length c2, .slice A3 b.length c3, .slice A1 v.length c1, .slice A0 u.length c0, .slice A3 b.length c3, .slice A2 a.length c2] 132)).alloc (.cells #[.slice A0 u.length c0, .slice A1 v.length c1, .slice A2 a.length c2, .slice A3 b.length c3] 132)).cell? ⟨wt.heap.size, 3, none⟩ = some (.slice A3 b.length c3) := by go_simp
    have q4 : ((wt.alloc (.cells #[.slice A0 u.length c0, .slice A1 v.length c1, .slice A2 a.length c2, .slice A3 b.length c3, .slice A1 v.length c1, .slice A0 u.length c0, .slice A3 b.length c3, .slice A2 a.length c2] 132)).alloc (.cells #[.slice A0 u.length c0, .slice A1 v.length c1, .slice A2 a.length c2, .slice A3 b.length c3] 132)).cell? ⟨wt.heap.size, 4, none⟩ = some (.slice A1 v.length c1) := by go_simp
    have q5 : ((wt.alloc (.cells #[.slice A0 u.length c0, .slice A1 v.length c1, .slice A2 a.length c2, .slice A3 b.length c3, .slice A1 v.length c1, .slice A0 u.length c0, .slice A3 b.length c3, .slice A2 a.length c2] 132)).alloc (.cells #[.slice A0 u.length c0, .slice A1 v.length c1, .slice A2 a.length c2, .slice A3 b.length c3] 132)).cell? ⟨wt.heap.size, 5, none⟩ = some (.slice A0 u.length c0) := by go_simp
    have q6 : ((wt.alloc (.cells #[.slice A0 u.length c0, .slice A1 v.length c1, .slice A2 a.length c2, .slice A3 b.length c3, .slice A1 v.length c1, .slice A0 u.length c0, .slice A3 b.length c3, .slice A2 a.length c2] 132)).alloc (.cells #[.slice A0 u.length c0, .slice A1 v.length c1, .slice A2 a.length c2, .slice A3 b.length c3] 132)).cell? ⟨wt.heap.size, 6, none⟩ = some (.slice A3 b.length c3) := by go_simp
    have q7 : ((wt.alloc (.cells #[.slice A0 u.length c0, .slice A1 v.length c1, .slice A2 a.length c2, .slice A3 b.length c3, .slice A1 v.length c1, .slice A0 u.length c0, .slice A3 b.length c3, .slice A2 a.length c2] 132)).alloc (.cells #[.slice A0 u.length c0, .slice A1 v.length c1, .slice A2 a.length c2, .slice A3 b.length c3] 132)).cell? ⟨wt.heap.size, 7, none⟩ = some (.slice A2 a.length c2) := by go_simp
    have x0 : ((wt.alloc (.cells #[.slice A0 u.length c0, .slice A1 v.length c1, .slice A2 a.length c2, .slice A3 b.length c3, .slice A1 v.length c1, .slice A0 u.length c0, .slice A3 b.length c3, .slice A2 a.length c2] 132)).alloc (.cells #[.slice A0 u.length c0, .slice A1 v.length c1, .slice A2 a.length c2, .slice A3 b.length c3] 132)).cell? ⟨wt.heap.size + 1, 0, none⟩ = some (.slice A0 u.length c0) := by go_simp
    have x1 : ((wt.alloc (.cells #[.slice A0 u.length c0, .slice A1 v.length c1, .slice A2 a.length c2, .slice A3 b.length c3, .slice A1 v.length c1, .slice A0 u.length c0, .slice A3 b.length c3, .slice A2 a.length c2] 132)).alloc (.cells #[.slice A0 u.length c0, .slice A1 v.length c1, .slice A2 a.length c2, .slice A3 b.length c3] 132)).cell? ⟨wt.heap.size + 1, 1, none⟩ = some (.slice A1 v.length c1) := by go_simp
    have x2 : ((wt.alloc (.cells #[.slice A0 u.length c0, .slice A1 v.length c1, .slice A2 a.length c2, .slice A3 b.length c3, .slice A1 v.length c1, .slice A0 u.length c0, .slice A3 b.length c3, .slice A2 a.length c2] 132)).alloc (.cells #[.slice A0 u.length c0, .slice A1 v.length c1, .slice A2 a.length c2, .slice A3 b.length c3] 132)).cell? ⟨wt.heap.size + 1, 2, none⟩ = some (.slice A2 a.length c2) := by go_simp
    have x3 : ((wt.alloc (.cells #[.slice A0 u.length c0, .slice A1 v.length c1, .slice A2 a.length c2, .slice A3 b.length c3, .slice A1 v.length c1, .slice A0 u.length c0, .slice A3 b.length c3, .slice A2 a.length c2] 132)).alloc (.cells #[.slice A0 u.length c0, .slice A1 v.length c1, .slice A2 a.length c2, .slice A3 b.length c3] 132)).cell? ⟨wt.heap.size + 1, 3, none⟩ = some (.slice A3 b.length c3) := by go_simp
    generalize ((wt.alloc (.cells #[.slice A0 u.length c0, .slice A1 v.length c1, .slice A2 a.length c2, .slice A3 b.length c3, .slice A1 v.length c1, .slice A0 u.length c0, .slice A3 b.length c3, .slice A2 a.length c2] 132)).alloc (.cells #[.slice A0 u.length c0, .slice A1 v.length c1, .slice A2 a.length c2, .slice A3 b.length c3] 132)) = w1 at W1 hs1 q0 q1 q2 q3 q4 q5 q6 q7 x0 x1 x2 x3 ⊢
    clear T0 T1 T2 T3 HBt
    generalize wt.heap.size = sb at hs1 q0 q1 q2 q3 q4 q5 q6 q7 x0 x1 x2 x3 ⊢
    go_loopg [7, 8, 9, 24] u.length (fun gg _ _ _ s24 wr => ∃ kk : Nat, kk ≤ u.length ∧ u.length - kk ≤ gg ∧ s24 = .int .i64 kk ∧ Aside0 (Below w1.heap.size w1 wr) ∧ Aside0 (∀ j, j < kk → replyF k u v a b j = true))
    case atStart => exact ⟨0, Nat.zero_le _, by omega, rfl, ⟨Below.refl _ _⟩, ⟨fun j hj => absurd hj (Nat.not_lt_zero _)⟩⟩
    case round =>
      obtain ⟨kk, hkk, hg, rfl, BW, AA⟩ := hrel
      have BWw := Aside0.mk (below_step W1.out BW.out)
      have g0 := (BW.out.cell (p := ⟨sb + 1, 0, none⟩) (by simp [hs1])).trans x0
      have g1 := (BW.out.cell (p := ⟨sb + 1, 1, none⟩) (by simp [hs1])).trans x1
      have g2 := (BW.out.cell (p := ⟨sb + 1, 2, none⟩) (by simp [hs1])).trans x2
      have g3 := (BW.out.cell (p := ⟨sb + 1, 3, none⟩) (by simp [hs1])).trans x3
      by_cases hlt : kk < u.length
      · have hltz : (kk : Int) < (u.length : Int) := by omega
        have HF := Aside0.mk (reply_calls k IH.out A0 A1 A2 A3 c0 c1 c2 c3 u v a b kk wr (Kd.C_below HR0.out BWw.out) HC0.out (Kd.C_below HR1.out BWw.out) HC1.out (Kd.C_below HR2.out BWw.out) HC2.out (Kd.C_below HR3.out BWw.out) HC3.out hlt HAB.out (by have := HN.out; have := HAB.out; omega) _ rfl)
        cases hq : replyF k u v a b kk with
        | false =>
          rw [hq] at HF
          have HQ := Aside0.mk hq
          clear hq
          go_wp2_with (go_at_call 123; refine HF.out.mono ?_; rintro e wq ⟨q, rfl, hb1⟩)
          go_ret
          exact ⟨by rw [← HRR.out, winsF_succ, all_no (f := replyF k u v a b) kk hlt HQ.out]; simp, below_step BWw.out hb1⟩
        | true =>
          rw [hq] at HF
          have HQ := Aside0.mk hq
          clear hq
          go_wp2_with (go_at_call 123; refine HF.out.mono ?_; rintro e wq ⟨q, rfl, hb1⟩)
          go_roundg (u.length - (kk + 1))
          case measure => omega
          case rel => exact ⟨kk + 1, by omega, by omega, by go_num, ⟨below_step BW.out hb1⟩, ⟨fun j hj => by
            by_cases e : j = kk
            · subst e; exact HQ.out
            · exact AA.out j (by omega)⟩⟩
      · have hltz : ¬ (kk : Int) < (u.length : Int) := by omega
        have D1 := Aside0.mk (show (List.range u.length).all (replyF k u v a b) = true from all_yes (fun j hj => AA.out j (by omega)))
        have q4' := (BW.out.cell (p := ⟨sb, 4, none⟩) (by simp [hs1])).trans q4
        have q5' := (BW.out.cell (p := ⟨sb, 5, none⟩) (by simp [hs1])).trans q5
        have q6' := (BW.out.cell (p := ⟨sb, 6, none⟩) (by simp [hs1])).trans q6
        have q7' := (BW.out.cell (p := ⟨sb, 7, none⟩) (by simp [hs1])).trans q7
        clear x0 x1 x2 x3 g0 g1 g2 g3 q0 q1 q2 q3 q4 q5 q6 q7 AA
        go_wp2
        rw [rounds_succ]
        go_wp2
        have W2 := Aside0.mk (below_alloc BWw.out (.cells #[.slice A1 v.length c1, .slice A0 u.length c0, .slice A3 b.length c3, .slice A2 a.length c2] 132))
        have hs2 : (wr.alloc (.cells #[.slice A1 v.length c1, .slice A0 u.length c0, .slice A3 b.length c3, .slice A2 a.length c2] 132)).heap.size = wr.heap.size + 1 := by simp
        have x0 : (wr.alloc (.cells #[.slice A1 v.length c1, .slice A0 u.length c0, .slice A3 b.length c3, .slice A2 a.length c2] 132)).cell? ⟨wr.heap.size, 0, none⟩ = some (.slice A1 v.length c1) := by go_simp
        have x1 : (wr.alloc (.cells #[.slice A1 v.length c1, .slice A0 u.length c0, .slice A3 b.length c3, .slice A2 a.length c2] 132)).cell? ⟨wr.heap.size, 1, none⟩ = some (.slice A0 u.length c0) := by go_simp
        have x2 : (wr.alloc (.cells #[.slice A1 v.length c1, .slice A0 u.length c0, .slice A3 b.length c3, .slice A2 a.length c2] 132)).cell? ⟨wr.heap.size, 2, none⟩ = some (.slice A3 b.length c3) := by go_simp
        have x3 : (wr.alloc (.cells #[.slice A1 v.length c1, .slice A0 u.length c0, .slice A3 b.length c3, .slice A2 a.length c2] 132)).cell? ⟨wr.heap.size, 3, none⟩ = some (.slice A2 a.length c2) := by go_simp
        generalize (wr.alloc (.cells #[.slice A1 v.length c1, .slice A0 u.length c0, .slice A3 b.length c3, .slice A2 a.length c2] 132)) = w2 at W2 hs2 x0 x1 x2 x3 ⊢
        clear q4' q5' q6' q7' hs1 W1 BW BWw hlt hltz hkk hg
        generalize wr.heap.size = sb2 at hs2 x0 x1 x2 x3 ⊢
        clear wr
        go_loopg [7, 8, 9, 24] v.length (fun gg _ _ _ s24 wr => ∃ kk : Nat, kk ≤ v.length ∧ v.length - kk ≤ gg ∧ s24 = .int .i64 kk ∧ Aside0 (Below w2.heap.size w2 wr) ∧ Aside0 (∀ j, j < kk → replyF k v u b a j = true))
        case atStart => exact ⟨0, Nat.zero_le _, by omega, rfl, ⟨Below.refl _ _⟩, ⟨fun j hj => absurd hj (Nat.not_lt_zero _)⟩⟩
        case round =>
          obtain ⟨kk, hkk, hg, rfl, BW, AA⟩ := hrel
          have BWw := Aside0.mk (below_step W2.out BW.out)
          have g0 := (BW.out.cell (p := ⟨sb2, 0, none⟩) (by simp [hs2])).trans x0
          have g1 := (BW.out.cell (p := ⟨sb2, 1, none⟩) (by simp [hs2])).trans x1
          have g2 := (BW.out.cell (p := ⟨sb2, 2, none⟩) (by simp [hs2])).trans x2
          have g3 := (BW.out.cell (p := ⟨sb2, 3, none⟩) (by simp [hs2])).trans x3
          by_cases hlt : kk < v.length
          · have hltz : (kk : Int) < (v.length : Int) := by omega
            have HF := Aside0.mk (reply_calls k IH.out A1 A0 A3 A2 c1 c0 c3 c2 v u b a kk wr (Kd.C_below HR1.out BWw.out) HC1.out (Kd.C_below HR0.out BWw.out) HC0.out (Kd.C_below HR3.out BWw.out) HC3.out (Kd.C_below HR2.out BWw.out) HC2.out hlt HAB.out.symm (by have := HN.out; have := HAB.out; omega) _ rfl)
            cases hq : replyF k v u b a kk with
            | false =>
              rw [hq] at HF
              have HQ := Aside0.mk hq
              clear hq
              go_wp2_with (go_at_call 123; refine HF.out.mono ?_; rintro e wq ⟨q, rfl, hb1⟩)
              go_ret
              exact ⟨by rw [← HRR.out, winsF_succ, all_no (f := replyF k v u b a) kk hlt HQ.out]; simp, below_step BWw.out hb1⟩
            | true =>
              rw [hq] at HF
              have HQ := Aside0.mk hq
              clear hq
              go_wp2_with (go_at_call 123; refine HF.out.mono ?_; rintro e wq ⟨q, rfl, hb1⟩)
              go_roundg (v.length - (kk + 1))
              case measure => omega
              case rel => exact ⟨kk + 1, by omega, by omega, by go_num, ⟨below_step BW.out hb1⟩, ⟨fun j hj => by
                by_cases e : j = kk
                · subst e; exact HQ.out
                · exact AA.out j (by omega)⟩⟩
          · have hltz : ¬ (kk : Int) < (v.length : Int) := by omega
            have D2 := Aside0.mk (show (List.range v.length).all (replyF k v u b a) = true from all_yes (fun j hj => AA.out j (by omega)))
            go_wp2
            rw [rounds_succ]
            go_wp2
            go_ret
            exact ⟨by rw [← HRR.out, winsF_succ, D1.out, D2.out]; rfl, BWw.out⟩

/-! ### checked -/
def checkedF (u v : List Int) (k : Int) : Int := if mayF 2 u = 0 then (if mayF 2 v = 0 then (if 8 < (u.length : Int) then 1 else if 8 < (v.length : Int) then 1 else if k < 0 then 2 else if 3 < k then 2 else 0) else mayF 2 v) else mayF 2 u
theorem checked_calls (A0 A1 : Option Addr) (c0 c1 : Nat) (u v : List Int) (k : Int) (w : World) (hr0 : Kd.C (Kd.int .i64) w A0 u.length u) (hc0 : u.length ≤ c0) (hr1 : Kd.C (Kd.int .i64) w A1 v.length v) (hc1 : v.length ≤ c1) (r : Int) (hr : checkedF u v k = r) :
    Calls Try.prog 54 #[.slice A0 u.length c0, .slice A1 v.length c1, .int .i64 k] w fun e w' => e = .returned (.int .i64 r) ∧ Below w.heap.size w w' := by
  have HR0 := Aside0.mk hr0
  have HR1 := Aside0.mk hr1
  have HC0 := Aside0.mk hc0
  have HC1 := Aside0.mk hc1
  clear hr0 hr1 hc0 hc1
  unfold checkedF at hr
  generalize hm0 : mayF 2 u = m0 at hr
  generalize hm1 : mayF 2 v = m1 at hr
  have HM0 := Aside0.mk hm0
  have HM1 := Aside0.mk hm1
  clear hm0 hm1
  have hA : Below w.heap.size w (w.alloc (.cells #[.slice A0 u.length c0, .slice A1 v.length c1] 22)) := (Below.refl _ _).alloc (Nat.le_refl _) _
  have HA := Aside0.mk hA
  clear hA
  by_cases e0 : m0 = 0
  · subst e0
    rw [if_pos rfl] at hr
    by_cases e1 : m1 = 0
    · subst e1
      rw [if_pos rfl] at hr
      by_cases h8 : 8 < (u.length : Int)
      · rw [if_pos h8] at hr
        subst hr
        go_enter Try.func54, Try.ntmps54
        go_wp2
        refine wp_loop_rounds 3 ?_
        rw [rounds_succ]
        go_wp2_with (go_at_call 115; refine (may_calls 2 A0 c0 u _ (Kd.C_below HR0.out (by repeat (first | exact HA.out | apply pw_below_drewN))) HC0.out _ HM0.out).mono ?_; rintro e w1 ⟨rfl, ⟨n1, rfl⟩⟩)
        rw [rounds_succ]
        go_wp2_with (go_at_call 115; refine (may_calls 2 A1 c1 v _ (Kd.C_below HR1.out (by repeat (first | exact HA.out | apply pw_below_drewN))) HC1.out _ HM1.out).mono ?_; rintro e w2 ⟨rfl, ⟨n2, rfl⟩⟩)
        rw [rounds_succ]
        go_wp2
        go_ret
        exact ⟨rfl, by repeat (first | exact HA.out | apply pw_below_drewN)⟩
      · rw [if_neg h8] at hr
        by_cases h9 : 8 < (v.length : Int)
        · rw [if_pos h9] at hr
          subst hr
          go_enter Try.func54, Try.ntmps54
          go_wp2
          refine wp_loop_rounds 3 ?_
          rw [rounds_succ]
          go_wp2_with (go_at_call 115; refine (may_calls 2 A0 c0 u _ (Kd.C_below HR0.out (by repeat (first | exact HA.out | apply pw_below_drewN))) HC0.out _ HM0.out).mono ?_; rintro e w1 ⟨rfl, ⟨n1, rfl⟩⟩)
          rw [rounds_succ]
          go_wp2_with (go_at_call 115; refine (may_calls 2 A1 c1 v _ (Kd.C_below HR1.out (by repeat (first | exact HA.out | apply pw_below_drewN))) HC1.out _ HM1.out).mono ?_; rintro e w2 ⟨rfl, ⟨n2, rfl⟩⟩)
          rw [rounds_succ]
          go_wp2
          go_ret
          exact ⟨rfl, by repeat (first | exact HA.out | apply pw_below_drewN)⟩
        · rw [if_neg h9] at hr
          by_cases hk0 : k < 0
          · rw [if_pos hk0] at hr
            subst hr
            go_enter Try.func54, Try.ntmps54
            go_wp2
            refine wp_loop_rounds 3 ?_
            rw [rounds_succ]
            go_wp2_with (go_at_call 115; refine (may_calls 2 A0 c0 u _ (Kd.C_below HR0.out (by repeat (first | exact HA.out | apply pw_below_drewN))) HC0.out _ HM0.out).mono ?_; rintro e w1 ⟨rfl, ⟨n1, rfl⟩⟩)
            rw [rounds_succ]
            go_wp2_with (go_at_call 115; refine (may_calls 2 A1 c1 v _ (Kd.C_below HR1.out (by repeat (first | exact HA.out | apply pw_below_drewN))) HC1.out _ HM1.out).mono ?_; rintro e w2 ⟨rfl, ⟨n2, rfl⟩⟩)
            rw [rounds_succ]
            go_wp2
            go_ret
            exact ⟨rfl, by repeat (first | exact HA.out | apply pw_below_drewN)⟩
          · rw [if_neg hk0] at hr
            by_cases hk3 : 3 < k
            · rw [if_pos hk3] at hr
              subst hr
              go_enter Try.func54, Try.ntmps54
              go_wp2
              refine wp_loop_rounds 3 ?_
              rw [rounds_succ]
              go_wp2_with (go_at_call 115; refine (may_calls 2 A0 c0 u _ (Kd.C_below HR0.out (by repeat (first | exact HA.out | apply pw_below_drewN))) HC0.out _ HM0.out).mono ?_; rintro e w1 ⟨rfl, ⟨n1, rfl⟩⟩)
              rw [rounds_succ]
              go_wp2_with (go_at_call 115; refine (may_calls 2 A1 c1 v _ (Kd.C_below HR1.out (by repeat (first | exact HA.out | apply pw_below_drewN))) HC1.out _ HM1.out).mono ?_; rintro e w2 ⟨rfl, ⟨n2, rfl⟩⟩)
              rw [rounds_succ]
              go_wp2
              go_ret
              exact ⟨rfl, by repeat (first | exact HA.out | apply pw_below_drewN)⟩
            · rw [if_neg hk3] at hr
              subst hr
              go_enter Try.func54, Try.ntmps54
              go_wp2
              refine wp_loop_rounds 3 ?_
              rw [rounds_succ]
              go_wp2_with (go_at_call 115; refine (may_calls 2 A0 c0 u _ (Kd.C_below HR0.out (by repeat (first | exact HA.out | apply pw_below_drewN))) HC0.out _ HM0.out).mono ?_; rintro e w1 ⟨rfl, ⟨n1, rfl⟩⟩)
              rw [rounds_succ]
              go_wp2_with (go_at_call 115; refine (may_calls 2 A1 c1 v _ (Kd.C_below HR1.out (by repeat (first | exact HA.out | apply pw_below_drewN))) HC1.out _ HM1.out).mono ?_; rintro e w2 ⟨rfl, ⟨n2, rfl⟩⟩)
              rw [rounds_succ]
              go_wp2
              go_ret
              exact ⟨rfl, by repeat (first | exact HA.out | apply pw_below_drewN)⟩
    · rw [if_neg e1] at hr
      subst hr
      have hb : (m1 != 0) = true := by simpa using e1
      go_enter Try.func54, Try.ntmps54
      go_wp2
      refine wp_loop_rounds 2 ?_
      rw [rounds_succ]
      go_wp2_with (go_at_call 115; refine (may_calls 2 A0 c0 u _ (Kd.C_below HR0.out (by repeat (first | exact HA.out | apply pw_below_drewN))) HC0.out _ HM0.out).mono ?_; rintro e w1 ⟨rfl, ⟨n1, rfl⟩⟩)
      rw [rounds_succ]
      go_wp2_with (go_at_call 115; refine (may_calls 2 A1 c1 v _ (Kd.C_below HR1.out (by repeat (first | exact HA.out | apply pw_below_drewN))) HC1.out _ HM1.out).mono ?_; rintro e w2 ⟨rfl, ⟨n2, rfl⟩⟩)
      go_ret
      exact ⟨rfl, by repeat (first | exact HA.out | apply pw_below_drewN)⟩
  · rw [if_neg e0] at hr
    subst hr
    have hb : (m0 != 0) = true := by simpa using e0
    go_enter Try.func54, Try.ntmps54
    go_wp2
    refine wp_loop_rounds 1 ?_
    rw [rounds_succ]
    go_wp2_with (go_at_call 115; refine (may_calls 2 A0 c0 u _ (Kd.C_below HR0.out (by repeat (first | exact HA.out | apply pw_below_drewN))) HC0.out _ HM0.out).mono ?_; rintro e w1 ⟨rfl, ⟨n1, rfl⟩⟩)
    go_ret
    exact ⟨rfl, by repeat (first | exact HA.out | apply pw_below_drewN)⟩

/-! ### Wins -/
def winsAns (u v : List Int) (k : Int) : Bool × Int := if checkedF u v k = 0 then (winsF k.toNat u v [] [], 0) else (false, checkedF u v k)
def ehren_Wins.f (l0 l1 : List Int) (a2 : Int) : Option (Bool × Int) := some (winsAns l0 l1 a2)
theorem ehren_Wins.calls (A0 : Option Addr) (c0 : Nat) (l0 : List Int) (A1 : Option Addr) (c1 : Nat) (l1 : List Int) (a2 : Int) (r1 : Bool) (r2 : Int) (w : World) (hr0 : Kd.C (Kd.int .i64) w A0 l0.length l0) (hc0 : l0.length ≤ c0) (hr1 : Kd.C (Kd.int .i64) w A1 l1.length l1) (hc1 : l1.length ≤ c1) (h : ehren_Wins.f l0 l1 a2 = some (r1, r2)) :
    Calls Try.prog 21 #[.slice A0 l0.length c0, .slice A1 l1.length c1, .int .i64 a2] w fun e w' => e = .returned (.tuple #[.bool r1, .int .i64 r2]) ∧ Below w.heap.size w w' := by
  replace h := Option.some.inj h
  unfold winsAns at h
  have HCK := Aside0.mk (fun r (hr : checkedF l0 l1 a2 = r) => checked_calls A0 A1 c0 c1 l0 l1 a2 w hr0 hc0 hr1 hc1 r hr)
  have hu132 := Try.underlying132
  by_cases hc : checkedF l0 l1 a2 = 0
  · rw [if_pos hc] at h
    obtain ⟨rfl, rfl⟩ := Prod.mk.inj h
    have hk : 0 ≤ a2 ∧ a2 ≤ 3 := by
      unfold checkedF at hc
      split at hc
      · split at hc
        · split at hc
          · cases hc
          · split at hc
            · cases hc
            · split at hc
              · cases hc
              · split at hc
                · cases hc
                · omega
        · omega
      · omega
    obtain ⟨n, rfl⟩ : ∃ n : Nat, a2 = n := ⟨a2.toNat, by omega⟩
    have HQ := Aside0.mk (HCK.out 0 hc)
    have HR0 := Aside0.mk hr0
    have HR1 := Aside0.mk hr1
    have HC0 := Aside0.mk hc0
    have HC1 := Aside0.mk hc1
    have hn3 := Aside0.mk (show n ≤ 3 by omega)
    clear HCK hr0 hr1 hc0 hc1 hc hk h
    go_enter Try.func21, Try.ntmps21
    go_wp2_with (first
      | (go_at_call 54
         refine HQ.out.mono ?_
         rintro e w1 ⟨rfl, hb1⟩
         have HB1 := Aside0.mk hb1
         clear hb1)
      | (go_at_call 55
         refine (WinsC.at_ (wins_all n) A0 A1 none none c0 c1 0 0 0 0 l0 l1 [] [] _ (Kd.C_below HR0.out HB1.out) HC0.out (Kd.C_below HR1.out HB1.out) HC1.out rfl rfl ⟨rfl, by decide, fun h => absurd h (by decide)⟩ (by omega) ⟨rfl, by decide, fun h => absurd h (by decide)⟩ (by omega) rfl (by have := hn3.out; omega) _ rfl).mono ?_
         rintro e w2 ⟨rfl, hb2⟩
         have HB2 := Aside0.mk (below_step HB1.out hb2)
         clear hb2))
    go_ret2
    exact ⟨by simp, HB2.out⟩
  · rw [if_neg hc] at h
    obtain ⟨rfl, rfl⟩ := Prod.mk.inj h
    have HQ := Aside0.mk (HCK.out _ rfl)
    generalize checkedF l0 l1 a2 = m at hc HQ ⊢
    have hb : (m != 0) = true := by simpa using hc
    clear HCK hr0 hr1 hc0 hc1 hc h
    go_enter Try.func21, Try.ntmps21
    go_wp2_with (go_at_call 54; refine HQ.out.mono ?_; rintro e w1 ⟨rfl, hb1⟩; have HB1 := Aside0.mk hb1; clear hb1)
    go_ret2
    exact ⟨rfl, HB1.out⟩
end Go.Proofs.Ytjabncedfjjbjaa.H
