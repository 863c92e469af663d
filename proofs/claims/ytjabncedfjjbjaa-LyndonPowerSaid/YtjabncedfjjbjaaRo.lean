/- Hand-proved: lyndon.may (plain), lyndon.Root. -/
import Derived.Test.YtjabncedfjjbjaaCat
import Derived.Test.YtjabncedfjjbjaaPLyBasex
import Derived.Deep.RegionHeld3
namespace Go.Proofs.Ytjabncedfjjbjaa.H
open Go.RowKit Go.Shelf Go.Proofs.YtjabncedfjjbjaaW.PrintWords
set_option linter.unusedVariables false
set_option linter.unusedSimpArgs false

/-! ### may -/
def mayL : List (List Int) → Int
  | [] => 0
  | w :: l => if mayF 4 w = 0 then mayL l else mayF 4 w
theorem rd_L1_at' {xs : List (List Int)} {i : Nat} (h : i < xs.length) : PLyBase.rd_L1 xs (i : Int) = xs[i] := by simp [PLyBase.rd_L1, List.getD_eq_getElem?_getD, h]
theorem mayL_l0 (l : List (List Int)) (hn : l.length ≤ 9223372036854775807) : ∀ d i k, l.length - i = d → i ≤ l.length → d < k → PLyBase.lyndon_may.l0 k l (l.length : Int) (i : Int) = some (mayL (l.drop i)) := by
  intro d
  induction d with
  | zero =>
    intro i k hd hi hk
    obtain ⟨k, rfl⟩ : ∃ m, k = m + 1 := ⟨k - 1, by omega⟩
    rw [List.drop_of_length_le (by omega)]
    simp only [PLyBase.lyndon_may.l0]
    rw [if_neg (by omega)]
    rfl
  | succ d ih =>
    intro i k hd hi hk
    obtain ⟨k, rfl⟩ : ∃ m, k = m + 1 := ⟨k - 1, by omega⟩
    have hlt : i < l.length := by omega
    simp only [PLyBase.lyndon_may.l0]
    rw [if_pos (by omega), if_pos (by omega), if_pos (by omega), rd_L1_at' hlt, List.drop_eq_getElem_cons hlt]
    simp only [word_May.f, Option.bind_some, mayL]
    by_cases h : mayF 4 l[i] = 0
    · rw [if_pos h, if_pos h, w64 (by omega) (by omega), show ((i : Int) + 1) = ((i + 1 : Nat) : Int) from by omega, ih (i + 1) k (by omega) (by omega) (by omega)]
    · rw [if_neg h, if_neg h]
def lyndon_may.f (l0 : List (List Int)) : Option Int := some (mayL l0)
theorem lyndon_may.calls (A0 : Option Addr) (c0 : Nat) (l0 : List (List Int)) (r : Int) (w : World) (hr0 : Kd.C (Kd.slice 3 (Kd.int .i64)) w A0 l0.length l0) (hc0 : l0.length ≤ c0) (h : lyndon_may.f l0 = some r) :
    Calls Try.prog 56 #[.slice A0 l0.length c0] w fun e w' => e = .returned (.int .i64 r) ∧ Drawn0 w w' := by
  refine PLyBase.lyndon_may.calls (l0.length + 1) A0 c0 l0 r w hr0 hc0 ?_
  unfold PLyBase.lyndon_may.f
  have := mayL_l0 l0 hr0.2.1 l0.length 0 (l0.length + 1) (by omega) (by omega) (by omega)
  exact this.trans h
theorem reads_row1 {W : World} {b : Nat} {A : Option Addr} {c : Nat} {x : List Int} (h : W.cell? ⟨b, 0, none⟩ = some (.slice A x.length c)) (hc : x.length ≤ c) (hx : Kd.C (Kd.int .i64) W A x.length x) : Kd.C (Kd.slice 3 (Kd.int .i64)) W (some ⟨b, 0, none⟩) 1 [x] := by
  refine ⟨rfl, by decide, fun _ => ⟨_, rfl, fun j p hj => ?_⟩⟩
  match j, hj with
  | 0, hj =>
    obtain rfl : x = p := by simpa using hj
    refine ⟨[.slice A x.length c], rfl, ⟨A, c, rfl, hc, hx⟩, fun i u hu => ?_⟩
    match i, hu with
    | 0, hu =>
      obtain rfl : Value.slice A x.length c = u := by simpa using hu
      simpa [Addr.add, Kd.slice] using h

theorem clone_at (A : Option Addr) (n c : Nat) (l : List Int) (w : World) (hn : l.length = n) (hr : Kd.C (Kd.int .i64) w A n l) (hc : n ≤ c) (hl : n < 17592186044416) :
    Calls Try.prog 49 #[.slice A n c] w fun e w' => ∃ v : Value, e = .returned v ∧ Kd.R (Kd.int .i64) 3 w' w.heap.size (fun _ => True) v l ∧ Below w.heap.size w w' := by
  subst hn
  exact slices_Clone_int_int.calls A c l l w hr hc (by unfold slices_Clone_int_int.f; rw [if_pos hl])
theorem may60 {L : Int} {l : List Int} (h : mayF L l = 0) : l.length ≤ 60 := by
  unfold mayF at h
  split at h
  · cases h
  · split at h
    · cases h
    · omega
/-! ### Root -/
def rootZ (n : Nat) (b : Int) : Nat := if n % (n - b.toNat) = 0 then n - b.toNat else n
def lyndon_Root.f (k : Nat) (l0 : List Int) : Option (List Int × Int × Int) :=
  if mayF 4 l0 = 0 then
    (if l0.length = 0 then some ([], 0, 0) else
      (PLyBase.lyndon_borders.f k l0).bind fun bl =>
        if bl.length = l0.length ∧ 0 ≤ rd bl ((l0.length - 1 : Nat) : Int) ∧ rd bl ((l0.length - 1 : Nat) : Int) < l0.length then some (l0.take (rootZ l0.length (rd bl ((l0.length - 1 : Nat) : Int))), ((l0.length / rootZ l0.length (rd bl ((l0.length - 1 : Nat) : Int)) : Nat) : Int), 0) else none)
  else some ([], 0, mayF 4 l0)
set_option maxHeartbeats 4000000 in
theorem lyndon_Root.calls (k : Nat) (A0 : Option Addr) (c0 : Nat) (l0 : List Int) (r1 : List Int) (r2 : Int) (r3 : Int) (w : World) (hr0 : Kd.C (Kd.int .i64) w A0 l0.length l0) (hc0 : l0.length ≤ c0) (h : lyndon_Root.f k l0 = some (r1, r2, r3)) :
    Calls Try.prog 23 #[.slice A0 l0.length c0] w fun e w' => ∃ v0_ : Value, e = .returned (.tuple #[v0_, .int .i64 r2, .int .i64 r3]) ∧ Kd.R (Kd.int .i64) 3 w' w.heap.size (fun _ => True) v0_ r1 ∧ Below w.heap.size w w' := by
  unfold lyndon_Root.f at h
  have HR := Aside0.mk hr0
  have HC := Aside0.mk hc0
  have HA := Aside0.mk (below_alloc (Below.refl w.heap.size w) (.cells #[.slice A0 l0.length c0] 22))
  have HL := Aside0.mk (fun (W : World) (b : Nat) (hx : W.cell? ⟨b, 0, none⟩ = some (.slice A0 l0.length c0)) (hb : Below w.heap.size w W) => reads_row1 hx hc0 (Kd.C_below hr0 hb))
  clear hr0
  by_cases hm : mayF 4 l0 = 0
  · rw [if_pos hm] at h
    have HM := Aside0.mk (show mayL [l0] = 0 by simp [mayL, hm])
    have h60 := may60 hm
    clear hm
    by_cases hn : l0.length = 0
    · rw [if_pos hn] at h
      have h' := Option.some.inj h
      obtain ⟨rfl, h2⟩ := Prod.mk.inj h'
      obtain ⟨rfl, rfl⟩ := Prod.mk.inj h2
      clear h h' h2
      have hn' : ((l0.length : Int) == 0) = true := by simpa using hn
      clear hn
      go_enter Try.func23, Try.ntmps23
      go_wp2_with (go_at_call 56; refine (lyndon_may.calls (some ⟨w.heap.size, 0, none⟩) 1 [l0] 0 _ (HL.out _ _ (by go_simp) HA.out) (by simp) (by unfold lyndon_may.f; rw [HM.out])).mono ?_; rintro e w1 ⟨rfl, ⟨n1, rfl⟩⟩)
      go_ret3
      exact ⟨_, rfl, Kd.R_nil _ _ _ _ _, pw_below_drewN HA.out _⟩
    · rw [if_neg hn] at h
      obtain ⟨bl, hbl, h⟩ := Option.bind_eq_some_iff.1 h
      by_cases hok : bl.length = l0.length ∧ 0 ≤ rd bl ((l0.length - 1 : Nat) : Int) ∧ rd bl ((l0.length - 1 : Nat) : Int) < l0.length
      · rw [if_pos hok] at h
        have h' := Option.some.inj h
        obtain ⟨rfl, h2⟩ := Prod.mk.inj h'
        obtain ⟨rfl, rfl⟩ := Prod.mk.inj h2
        clear h h' h2
        have hlen := hok.1
        have hb0 := hok.2.1
        have hb1 := hok.2.2
        have hm1 : IntKind.i64.wrap ((l0.length : Int) - 1) = ((l0.length - 1 : Nat) : Int) := by have := HR.out.2.1; rw [IntKind.wrap_i64]; omega
        have hm2 : (0 : Int) ≤ ((l0.length - 1 : Nat) : Int) := by omega
        have hm3 : ((l0.length - 1 : Nat) : Int) < (l0.length : Int) := by omega
        have hn' : ((l0.length : Int) == 0) = false := by simpa using hn
        have hbig := HR.out.2.1
        generalize hbv : rd bl ((l0.length - 1 : Nat) : Int) = bv at hb0 hb1 ⊢
        have HBV := Aside0.mk hbv
        obtain ⟨z, hz⟩ : ∃ z : Nat, z = l0.length - bv.toNat := ⟨_, rfl⟩
        have hw2 : IntKind.i64.wrap ((l0.length : Int) - bv) = (z : Int) := by rw [IntKind.wrap_i64]; omega
        have hz1 : 1 ≤ z ∧ z ≤ l0.length := by omega
        have HBL := Aside0.mk hbl
        have hzn : ¬ z = 0 := by omega
        have hrem : IntKind.i64.wrap ((l0.length : Int).tmod (z : Int)) = ((l0.length % z : Nat) : Int) := by
          have : l0.length % z < z := Nat.mod_lt _ (by omega)
          rw [IntKind.wrap_i64, show (l0.length : Int).tmod (z : Int) = ((l0.length % z : Nat) : Int) from rfl]; omega
        have hrem : (l0.length : Int) % (z : Int) = ((l0.length % z : Nat) : Int) := rfl
        have hS : rootZ l0.length bv = if l0.length % z = 0 then z else l0.length := by unfold rootZ; rw [hz]
        clear hok hbl hbv
        by_cases hq : l0.length % z = 0
        · rw [hq] at hrem
          have hrem' : ((l0.length : Int) % (z : Int) != 0) = false := by rw [hrem]; rfl
          clear hrem
          have hS' := hS.trans (if_pos hq)
          clear hS hq
          rw [hS']
          have HT := Aside0.mk (show Kd.C (Kd.int .i64) w A0 z (l0.take z) from by have := Kd.C_take HR.out (m := z) (by omega); rwa [List.length_take, Nat.min_eq_left (by omega)] at this)
          have hls : (l0.take z).length = z := by rw [List.length_take]; omega
          have HLS := Aside0.mk hls
          have hquo : IntKind.i64.wrap ((l0.length : Int) / ((z : Nat) : Int)) = ((l0.length / z : Nat) : Int) := by
            have : l0.length / z ≤ l0.length := Nat.div_le_self _ _
            rw [show (l0.length : Int) / ((z : Nat) : Int) = ((l0.length / z : Nat) : Int) from rfl]
            generalize l0.length / z = dd at this ⊢
            rw [IntKind.wrap_i64]; omega
          have hcz : ((z : Nat) : Int) ≤ (c0 : Int) := by omega
          have hc3 := Aside0.mk (show z ≤ c0 by omega)
          have hc4 := Aside0.mk (show z < 17592186044416 by omega)
          have hc5 : (0 : Int) ≤ ((z : Nat) : Int) := by omega
          clear hls hS'
          try clear hz
          generalize l0.take z = tk at HT HLS ⊢
          generalize ((l0.length / z : Nat) : Int) = qv at hquo ⊢
          go_enter Try.func23, Try.ntmps23
          go_wp2_with (first
            | (go_at_call 56
               refine (lyndon_may.calls (some ⟨w.heap.size, 0, none⟩) 1 [l0] 0 _ (HL.out _ _ (by go_simp) HA.out) (by simp) (by unfold lyndon_may.f; rw [HM.out])).mono ?_
               rintro e w1 ⟨rfl, ⟨n1, rfl⟩⟩
               have HA1 := Aside0.mk (pw_below_drewN HA.out n1))
            | (go_at_call 57
               refine (PLyBase.lyndon_borders.calls k A0 c0 l0 bl _ (Kd.C_below HR.out HA1.out) HC.out HBL.out).mono ?_
               rintro e w2 ⟨vb, rfl, hob, hbb⟩
               obtain ⟨Ab, cb, rfl⟩ := Kd.R_slice hob
               obtain ⟨ad, e0, hcell⟩ := Kd.at_int (Kd.R_reads' hob).2.2 ((l0.length - 1 : Nat) : Int) hm2 (by rw [hlen]; exact hm3)
               subst e0
               rw [Int.toNat_natCast, HBV.out] at hcell
               have HB2 := Aside0.mk (below_step HA1.out hbb)
               clear hob hbb))
          go_region_held3 (fun w' => Below w.heap.size w w' ∧ True)
            (first
              | exact ⟨HB3.out, trivial⟩
              | exact ⟨below_drew1 HB2.out, trivial⟩
              | assumption)
            (first
              | (go_at_call 49
                 refine (clone_at A0 z c0 tk _ HLS.out (Kd.C_below HT.out (by go_split_ands; assumption)) hc3.out hc4.out).mono ?_
                 rintro e w3 ⟨v3, rfl, ho3, hb3⟩
                 have HO3 := Aside0.mk (Kd.R_lower ho3 (show w.heap.size ≤ _ from (show Below w.heap.size w _ from by go_split_ands; assumption).size))
                 have HB3 := Aside0.mk (below_step (by go_split_ands; assumption) hb3)
                 clear hb3 ho3))
          go_wp2
          go_ret3
          exact ⟨_, rfl, HO3.out, HB3.out⟩
        · have hS' := hS.trans (if_neg hq)
          have hrq : (((l0.length % z : Nat) : Int) != 0) = true := by simpa using (by omega : ¬ ((l0.length % z : Nat) : Int) = 0)
          rw [← hrem] at hrq
          clear hrem
          clear hS hq
          rw [hS']
          have HT := Aside0.mk (show Kd.C (Kd.int .i64) w A0 l0.length (l0.take l0.length) from by have := Kd.C_take HR.out (m := l0.length) (by omega); rwa [List.length_take, Nat.min_eq_left (by omega)] at this)
          have hls : (l0.take l0.length).length = l0.length := by rw [List.length_take]; omega
          have HLS := Aside0.mk hls
          have hquo : IntKind.i64.wrap ((l0.length : Int) / ((l0.length : Nat) : Int)) = ((l0.length / l0.length : Nat) : Int) := by
            have : l0.length / l0.length ≤ l0.length := Nat.div_le_self _ _
            rw [show (l0.length : Int) / ((l0.length : Nat) : Int) = ((l0.length / l0.length : Nat) : Int) from rfl]
            generalize l0.length / l0.length = dd at this ⊢
            rw [IntKind.wrap_i64]; omega
          have hcz : ((l0.length : Nat) : Int) ≤ (c0 : Int) := by omega
          have hc3 := Aside0.mk (show l0.length ≤ c0 by omega)
          have hc4 := Aside0.mk (show l0.length < 17592186044416 by omega)
          have hc5 : (0 : Int) ≤ ((l0.length : Nat) : Int) := by omega
          clear hls hS'
          try clear hz
          generalize l0.take l0.length = tk at HT HLS ⊢
          have h11 : ((l0.length / l0.length : Nat) : Int) = 1 := by rw [Nat.div_self (by omega)]; rfl
          rw [h11]
          clear hquo h11
          go_enter Try.func23, Try.ntmps23
          go_wp2_with (first
            | (go_at_call 56
               refine (lyndon_may.calls (some ⟨w.heap.size, 0, none⟩) 1 [l0] 0 _ (HL.out _ _ (by go_simp) HA.out) (by simp) (by unfold lyndon_may.f; rw [HM.out])).mono ?_
               rintro e w1 ⟨rfl, ⟨n1, rfl⟩⟩
               have HA1 := Aside0.mk (pw_below_drewN HA.out n1))
            | (go_at_call 57
               refine (PLyBase.lyndon_borders.calls k A0 c0 l0 bl _ (Kd.C_below HR.out HA1.out) HC.out HBL.out).mono ?_
               rintro e w2 ⟨vb, rfl, hob, hbb⟩
               obtain ⟨Ab, cb, rfl⟩ := Kd.R_slice hob
               obtain ⟨ad, e0, hcell⟩ := Kd.at_int (Kd.R_reads' hob).2.2 ((l0.length - 1 : Nat) : Int) hm2 (by rw [hlen]; exact hm3)
               subst e0
               rw [Int.toNat_natCast, HBV.out] at hcell
               have HB2 := Aside0.mk (below_step HA1.out hbb)
               clear hob hbb))
          go_region_held3 (fun w' => Below w.heap.size w w' ∧ True)
            (first
              | exact ⟨HB3.out, trivial⟩
              | exact ⟨below_drew1 HB2.out, trivial⟩
              | assumption)
            (first
              | (go_at_call 49
                 refine (clone_at A0 l0.length c0 tk _ HLS.out (Kd.C_below HT.out (by go_split_ands; assumption)) hc3.out hc4.out).mono ?_
                 rintro e w3 ⟨v3, rfl, ho3, hb3⟩
                 have HO3 := Aside0.mk (Kd.R_lower ho3 (show w.heap.size ≤ _ from (show Below w.heap.size w _ from by go_split_ands; assumption).size))
                 have HB3 := Aside0.mk (below_step (by go_split_ands; assumption) hb3)
                 clear hb3 ho3))
          go_wp2
          go_ret3
          exact ⟨_, rfl, HO3.out, HB3.out⟩
      · rw [if_neg hok] at h; cases h
  · rw [if_neg hm] at h
    have h' := Option.some.inj h
    obtain ⟨rfl, h2⟩ := Prod.mk.inj h'
    obtain ⟨rfl, rfl⟩ := Prod.mk.inj h2
    clear h h' h2
    have HM := Aside0.mk (show mayL [l0] = mayF 4 l0 by simp [mayL, hm])
    generalize mayF 4 l0 = m at hm HM ⊢
    have hb : (m != 0) = true := by simpa using hm
    go_enter Try.func23, Try.ntmps23
    go_wp2_with (go_at_call 56; refine (lyndon_may.calls (some ⟨w.heap.size, 0, none⟩) 1 [l0] m _ (HL.out _ _ (by go_simp) HA.out) (by simp) (by unfold lyndon_may.f; rw [HM.out])).mono ?_; rintro e w1 ⟨rfl, ⟨n1, rfl⟩⟩)
    go_ret3
    exact ⟨_, rfl, Kd.R_nil _ _ _ _ _, pw_below_drewN HA.out _⟩
theorem lyndon_Root.mono : ∀ a0 k, LeO (lyndon_Root.f k a0) (lyndon_Root.f (k + 1) a0) := by
  intro a0 k
  unfold lyndon_Root.f
  refine LeO.ite (LeO.ite (LeO.refl _) (LeO.bind (PLyBase.lyndon_borders.mono a0 k) (fun _ => LeO.refl _))) (LeO.refl _)
end Go.Proofs.Ytjabncedfjjbjaa.H
