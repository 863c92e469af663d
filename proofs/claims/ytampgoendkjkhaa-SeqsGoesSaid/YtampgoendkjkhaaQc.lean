/- seqs.Check. -/
import Derived.Test.YtampgoendkjkhaaQp
import Derived.Test.YtampgoendkjkhaaDc
namespace Go.Proofs.Ytampgoendkjkhaa.H
open Go.RowKit Go.Shelf Go.Proofs.YtampgoendkjkhaaW.PrintWords Go.Proofs.YtampgoendkjkhaaW.PrintMore
set_option linter.unusedVariables false
set_option linter.unusedSimpArgs false
theorem qc1_calls (A : Option Addr) (c n : Nat) (L : Int) (B : Nat) (w : World) (hc : w.cell? ⟨B, 0, none⟩ = some (.int .i64 L)) :
    Calls Try.prog 120 #[.slice A n c, .pointer (some ⟨B, 0, none⟩)] w fun e w' => e = .returned (.bool ((n : Int) != L)) ∧ w = w' := by
  go_enter Try.func120, Try.ntmps120
  go_wp2
  go_ret
  exact ⟨rfl, rfl⟩
theorem qc2_calls (n q : Int) (B : Nat) (w : World) (hc : w.cell? ⟨B, 0, none⟩ = some (.int .i64 n)) :
    Calls Try.prog 121 #[.int .i64 q, .pointer (some ⟨B, 0, none⟩)] w fun e w' => e = .returned (.bool (noB n q)) ∧ w = w' := by
  by_cases h : q < 0
  · have h' : decide (q < 0) = true := decide_eq_true h
    go_enter Try.func121, Try.ntmps121
    go_wp2
    go_ret
    exact ⟨by simp [noB, h']; try rfl, rfl⟩
  · have h' : decide (q < 0) = false := decide_eq_false h
    go_enter Try.func121, Try.ntmps121
    go_wp2
    go_ret
    exact ⟨by simp [noB, h']; try rfl, rfl⟩
def qBad (im : List (List Int)) (cd : List Int) (a : Nat) : Bool := (im.getD a []).any (noB im.length) || (decide (cd.getD a 0 < 0) || decide (9 < cd.getD a 0))
def qAny (im : List (List Int)) (cd : List Int) : Bool := (List.range im.length).any (qBad im cd)
def qShape (b : Int) (im : List (List Int)) : Bool := im.any fun r => (r.length : Int) != b
def qEnd (im : List (List Int)) (cd : List Int) : Int := if qAny im cd = true then 2 else if (im.getD 0 []).getD 0 0 ≠ 0 then 3 else 0
def qRest (b : Int) (im : List (List Int)) (cd : List Int) : Int := if cd.length ≠ im.length ∨ qShape b im = true then 3 else qEnd im cd
def qChk (b : Int) (im : List (List Int)) (cd : List Int) : Int := if b < 2 ∨ 4 < b then 2 else if (im.length : Int) < 1 ∨ 4 < (im.length : Int) then 1 else qRest b im cd
theorem qAny_hit {im : List (List Int)} {cd : List Int} {a : Nat} (ha : a < im.length) (h : qBad im cd a = true) : qAny im cd = true := List.any_eq_true.2 ⟨a, List.mem_range.2 ha, h⟩
theorem qAny_miss {im : List (List Int)} {cd : List Int} (h : ∀ a, a < im.length → qBad im cd a = false) : qAny im cd = false := by
  unfold qAny
  rw [List.any_eq_false]
  intro a ha
  rw [h a (List.mem_range.1 ha)]
  simp
theorem qOk_of {b : Int} {im : List (List Int)} {cd : List Int} (h : qChk b im cd = 0) : ∃ b' : Nat, b = (b' : Int) ∧ MorOk b' im cd := by
  unfold qChk at h
  split at h
  · cases h
  split at h
  · cases h
  rename_i h1 h2
  unfold qRest at h
  split at h
  · cases h
  rename_i h3
  unfold qEnd at h
  split at h
  · cases h
  split at h
  · cases h
  rename_i h4 h5
  have hl : cd.length = im.length := by
    refine Classical.byContradiction fun g => h3 (.inl g)
  have hs : ∀ r ∈ im, (r.length : Int) = b := fun r hr => by
    have : ¬ qShape b im = true := fun g => h3 (.inr g)
    rw [Bool.not_eq_true] at this
    have := List.any_eq_false.1 this r hr
    simpa using this
  have hq : ∀ a, a < im.length → qBad im cd a = false := fun a ha => by
    rw [Bool.not_eq_true] at h4
    have := List.any_eq_false.1 h4 a (List.mem_range.2 ha)
    simpa using this
  refine ⟨b.toNat, by omega, by omega, by omega, by omega, by omega, hl, fun r hr => by have := hs r hr; omega, ?_, ?_, Classical.byContradiction fun g => h5 g⟩
  · intro r hr x hx
    obtain ⟨a, ha, rfl⟩ := List.getElem_of_mem hr
    have := hq a ha
    unfold qBad at this
    rw [Bool.or_eq_false_iff, List.getD_eq_getElem?_getD, List.getElem?_eq_getElem ha] at this
    have := List.any_eq_false.1 this.1 x hx
    unfold noB at this
    simp only [Bool.or_eq_true, decide_eq_true_eq, not_or] at this
    omega
  · intro x hx
    obtain ⟨a, ha, rfl⟩ := List.getElem_of_mem hx
    have := hq a (by omega)
    unfold qBad at this
    rw [Bool.or_eq_false_iff, Bool.or_eq_false_iff, List.getD_eq_getElem?_getD (l := cd), List.getElem?_eq_getElem ha] at this
    simp only [Option.getD_some, decide_eq_false_iff_not] at this
    omega
section
variable (b : Int) (A1 A2 : Option Addr) (c1 c2 : Nat) (im : List (List Int)) (cd : List Int) (w : World)
abbrev mArgs : Array Value := #[.agg #[.int .i64 b, .slice A1 im.length c1, .slice A2 cd.length c2]]

theorem qc_b (h : b < 2 ∨ 4 < b) : Calls Try.prog 54 (mArgs b A1 A2 c1 c2 im cd) w fun e w' => e = .returned (.int .i64 2) ∧ Below w.heap.size w w' := by
  have HB := Aside0.mk (below_alloc (Below.refl w.heap.size w) (.cells #[.int .i64 b, .slice A1 im.length c1, .slice A2 cd.length c2] 45))
  rcases h with h | h
  · have h' : decide (b < 2) = true := decide_eq_true h
    go_enter Try.func54, Try.ntmps54
    go_wp2
    go_ret
    exact ⟨rfl, HB.out⟩
  · have h1 : decide (b < 2) = false := decide_eq_false (by omega)
    have h' : decide (4 < b) = true := decide_eq_true h
    go_enter Try.func54, Try.ntmps54
    go_wp2
    go_ret
    exact ⟨rfl, HB.out⟩
theorem qc_n (h : ¬ (b < 2 ∨ 4 < b)) (hn : (im.length : Int) < 1 ∨ 4 < (im.length : Int)) : Calls Try.prog 54 (mArgs b A1 A2 c1 c2 im cd) w fun e w' => e = .returned (.int .i64 1) ∧ Below w.heap.size w w' := by
  have HB := Aside0.mk (below_alloc (below_alloc (Below.refl w.heap.size w) (.cells #[.int .i64 b, .slice A1 im.length c1, .slice A2 cd.length c2] 45)) (.cells #[.int .i64 (im.length : Int)] 3))
  have h1 : decide (b < 2) = false := decide_eq_false (by omega)
  have h2 : decide (4 < b) = false := decide_eq_false (by omega)
  clear h
  rcases hn with h | h
  · have h' : decide ((im.length : Int) < 1) = true := decide_eq_true h
    go_enter Try.func54, Try.ntmps54
    go_wp2
    go_ret
    exact ⟨rfl, HB.out⟩
  · have h3 : decide ((im.length : Int) < 1) = false := decide_eq_false (by omega)
    have h' : decide (4 < (im.length : Int)) = true := decide_eq_true h
    go_enter Try.func54, Try.ntmps54
    go_wp2
    go_ret
    exact ⟨rfl, HB.out⟩
structure QcB (W : World) (b0 : Nat) : Prop where
  x : W.heap[b0]? = some (.cells #[.int .i64 b, .slice A1 im.length c1, .slice A2 cd.length c2] 45 (0, 0))
  n : W.heap[b0 + 1]? = some (.cells #[.int .i64 (im.length : Int)] 3 (0, 0))
end
theorem QcB.below {b : Int} {A1 A2 : Option Addr} {c1 c2 : Nat} {im : List (List Int)} {cd : List Int} {W W' : World} {b0 : Nat} (h : QcB b A1 A2 c1 c2 im cd W b0) (hb : Below W.heap.size W W') : QcB b A1 A2 c1 c2 im cd W' b0 := ⟨blk_below h.x hb, blk_below h.n hb⟩
set_option maxHeartbeats 8000000 in
set_option maxRecDepth 100000 in
theorem qc_rest (b : Int) (A1 A2 : Option Addr) (c1 c2 : Nat) (im : List (List Int)) (cd : List Int) (w : World) (hr1 : Kd.C (Kd.slice 3 (Kd.int .i64)) w A1 im.length im) (hr2 : Kd.C (Kd.int .i64) w A2 cd.length cd) (h : ¬ (b < 2 ∨ 4 < b)) (hn : ¬ ((im.length : Int) < 1 ∨ 4 < (im.length : Int))) :
    Calls Try.prog 54 (mArgs b A1 A2 c1 c2 im cd) w fun e w' => e = .returned (.int .i64 (qRest b im cd)) ∧ Below w.heap.size w w' := by
  have e1 : ∀ args w, (callFunc 120 args).run Try.prog w = .ok (.enter 120 args) w := enters_of Try.func120 (by kernel_rfl) rfl
  have e2 : ∀ args w, (callFunc 121 args).run Try.prog w = .ok (.enter 121 args) w := enters_of Try.func121 (by kernel_rfl) rfl
  have HR1 := Aside0.mk hr1
  have HR2 := Aside0.mk hr2
  have E2 := Aside0.mk e2
  have M0 := Aside0.mk (show QcB b A1 A2 c1 c2 im cd ((w.alloc (.cells #[.int .i64 b, .slice A1 im.length c1, .slice A2 cd.length c2] 45)).alloc (.cells #[.int .i64 (im.length : Int)] 3)) w.heap.size from ⟨blk_alloc (blk_new w _) _, blk_newn _ _ _ (by simp)⟩)
  have B0 := Aside0.mk (show Below w.heap.size w ((w.alloc (.cells #[.int .i64 b, .slice A1 im.length c1, .slice A2 cd.length c2] 45)).alloc (.cells #[.int .i64 (im.length : Int)] 3)) from below_alloc (below_alloc (Below.refl _ _) _) _)
  have HCF := Aside0.mk (ContainsFunc_row 120 #[.pointer (some ⟨w.heap.size, 0, none⟩)] e1 (fun r => (r.length : Int) != b) A1 c1 im _ (Kd.C_below hr1 B0.out) (fun W x A c hx hl hC hb => (qc1_calls A c x.length b w.heap.size W ((blk_cell (blk_below M0.out.x hb) 0).trans rfl)).mono fun e w' ⟨he, hw⟩ => ⟨he, hw ▸ hb⟩))
  clear hr1 hr2 e1 e2
  have g1 : decide (b < 2) = false := decide_eq_false (by omega)
  have g2 : decide (4 < b) = false := decide_eq_false (by omega)
  have g3 : decide ((im.length : Int) < 1) = false := decide_eq_false (by omega)
  have g4 : decide (4 < (im.length : Int)) = false := decide_eq_false (by omega)
  have hn4 : im.length ≤ 4 := by omega
  have hn1 : 0 < im.length := by omega
  clear h hn
  by_cases hl : cd.length = im.length
  · have gl : ((cd.length : Int) != (im.length : Int)) = false := by rw [hl]; simp
    have HL := Aside0.mk hl
    cases hs : qShape b im with
    | true =>
      have HQ := Aside0.mk (show qRest b im cd = 3 from by unfold qRest; rw [if_pos (.inr hs)])
      unfold qShape at hs
      rw [hs] at HCF
      clear hs hl
      rw [HQ.out]
      go_enter Try.func54, Try.ntmps54
      go_wp2_with (go_at_call 88; refine HCF.out.mono ?_; rintro e w1 ⟨rfl, hb1⟩; have B1 := Aside0.mk (below_step B0.out hb1); clear hb1)
      go_ret
      exact ⟨rfl, B1.out⟩
    | false =>
      have HQ := Aside0.mk (show qRest b im cd = qEnd im cd from by unfold qRest; rw [if_neg (by rw [hs]; simp [hl])])
      unfold qShape at hs
      have HL0 := Aside0.mk (show 0 < im[0].length from by
        have := List.any_eq_false.1 hs im[0] (List.getElem_mem hn1)
        simp only [bne_iff_ne, ne_eq, Classical.not_not] at this
        have := of_decide_eq_false g1
        omega)
      rw [hs] at HCF
      clear hs hl
      rw [HQ.out]
      go_enter Try.func54, Try.ntmps54
      go_wp2_with (go_at_call 88; refine HCF.out.mono ?_; rintro e w1 ⟨rfl, hb1⟩; have B1 := Aside0.mk (below_step B0.out hb1); have M1 := Aside0.mk (M0.out.below hb1); have k1 : w1.cell? ⟨w.heap.size, 1, none⟩ = some (.slice A1 im.length c1) := (blk_cell M1.out.x 1).trans rfl; clear hb1)
      clear HCF M0 B0 k1
      go_loopg [37] im.length (fun gg s37 wr => ∃ a : Nat, a ≤ im.length ∧ im.length - a ≤ gg ∧ s37 = .int .i64 (a : Int) ∧ Aside0 (QcB b A1 A2 c1 c2 im cd wr w.heap.size) ∧ Aside0 (Below w.heap.size w wr) ∧ Aside0 (∀ j, j < a → qBad im cd j = false))
      case atStart => exact ⟨0, Nat.zero_le _, by omega, rfl, M1, B1, ⟨fun j hj => absurd hj (Nat.not_lt_zero _)⟩⟩
      case round =>
        obtain ⟨a, ha, hgg, rfl, MM, BB, AA⟩ := hrel
        clear M1 B1
        by_cases hlt : a < im.length
        · have hltz : (a : Int) < (im.length : Int) := by omega
          have hltc : (a : Int) < (cd.length : Int) := by have := HL.out; omega
          obtain ⟨ad, Ar, cr, e0, hcr, hrow, hcell⟩ := row_get (Kd.C_below HR1.out BB.out) rfl hlt
          cases e0
          obtain ⟨ac, e0, hcc⟩ := int_get (Kd.C_below HR2.out BB.out) rfl (i := a) (by have := HL.out; omega)
          cases e0
          have HE := Aside0.mk (show qBad im cd a = (im[a].any (noB im.length) || (decide (cd[a]'(by have := HL.out; omega) < 0) || decide (9 < cd[a]'(by have := HL.out; omega)))) from by
            unfold qBad
            rw [List.getD_eq_getElem?_getD, List.getElem?_eq_getElem hlt, List.getD_eq_getElem?_getD, List.getElem?_eq_getElem (by have := HL.out; omega)]
            rfl)
          have k2 : wr.cell? ⟨w.heap.size, 2, none⟩ = some (.slice (some ac) cd.length c2) := (blk_cell MM.out.x 2).trans rfl
          have zx : w.heap.size < wr.heap.size := blk_lt MM.out.x
          have HCI := Aside0.mk (ContainsFunc_int 121 #[.pointer (some ⟨w.heap.size + 1, 0, none⟩)] E2.out (noB im.length) Ar cr im[a] wr hrow (fun W x _ hb => (qc2_calls im.length x (w.heap.size + 1) W ((blk_cell (blk_below MM.out.n hb) 0).trans rfl)).mono fun e w' ⟨he, hw⟩ => ⟨he, hw ▸ hb⟩))
          have HIT := Aside0.mk (fun h : qBad im cd a = true => (by unfold qEnd; rw [if_pos (qAny_hit hlt h)] : qEnd im cd = 2))
          have HNX := Aside0.mk (fun (h : qBad im cd a = false) (j : Nat) (hj : j < a + 1) => by
            by_cases e : j = a
            · subst e; exact h
            · exact AA.out j (by omega) : qBad im cd a = false → ∀ j, j < a + 1 → qBad im cd j = false)
          generalize im[a] = row at hrow hcell HE HCI hcr
          generalize cd[a]'(by have := HL.out; omega) = cv at hcc HE
          clear hrow
          cases hq : row.any (noB im.length) with
          | true =>
            rw [hq] at HCI HE
            have HF := Aside0.mk (HIT.out (HE.out.trans rfl))
            clear hq HIT HNX
            go_wp2_with (go_at_call 66; refine HCI.out.mono ?_; rintro e w3 ⟨rfl, hb3⟩; have B3 := Aside0.mk (below_step BB.out hb3); clear hb3)
            go_ret
            exact ⟨by rw [HF.out]; rfl, B3.out⟩
          | false =>
            rw [hq] at HCI HE
            clear hq
            by_cases h1 : cv < 0
            · have h1' : decide (cv < 0) = true := decide_eq_true h1
              rw [h1'] at HE
              have HF := Aside0.mk (HIT.out (HE.out.trans rfl))
              clear HIT HNX
              go_wp2_with (go_at_call 66; refine HCI.out.mono ?_; rintro e w3 ⟨rfl, hb3⟩; have B3 := Aside0.mk (below_step BB.out hb3); have k3 := pw_cell_below hb3 k2; have c3 := pw_cell_below hb3 hcc; clear hb3)
              go_ret
              exact ⟨by rw [HF.out]; rfl, B3.out⟩
            · have h1' : decide (cv < 0) = false := decide_eq_false h1
              rw [h1'] at HE
              by_cases h2 : 9 < cv
              · have h2' : decide (9 < cv) = true := decide_eq_true h2
                rw [h2'] at HE
                have HF := Aside0.mk (HIT.out (HE.out.trans rfl))
                clear HIT HNX
                go_wp2_with (go_at_call 66; refine HCI.out.mono ?_; rintro e w3 ⟨rfl, hb3⟩; have B3 := Aside0.mk (below_step BB.out hb3); have k3 := pw_cell_below hb3 k2; have c3 := pw_cell_below hb3 hcc; clear hb3)
                go_ret
                exact ⟨by rw [HF.out]; rfl, B3.out⟩
              · have h2' : decide (9 < cv) = false := decide_eq_false h2
                rw [h2'] at HE
                have HF := Aside0.mk (HNX.out (HE.out.trans rfl))
                clear HIT HNX
                go_wp2_with (go_at_call 66; refine HCI.out.mono ?_; rintro e w3 ⟨rfl, hb3⟩; have B3 := Aside0.mk (below_step BB.out hb3); have M3 := Aside0.mk (MM.out.below hb3); have k3 := pw_cell_below hb3 k2; have c3 := pw_cell_below hb3 hcc; clear hb3)
                go_roundg (im.length - (a + 1))
                case measure => omega
                case rel => exact ⟨a + 1, by omega, by omega, by go_num, M3, B3, HF⟩
        · have hae : a = im.length := by omega
          have HU := Aside0.mk (qAny_miss (fun j hj => AA.out j (by omega)))
          have k1 : wr.cell? ⟨w.heap.size, 1, none⟩ = some (.slice A1 im.length c1) := (blk_cell MM.out.x 1).trans rfl
          obtain ⟨ad, Ar, cr, e0, hcr, hrow, hcell⟩ := row_get (Kd.C_below HR1.out BB.out) rfl hn1
          cases e0
          obtain ⟨a0, e0, hc0⟩ := int_get hrow rfl (i := 0) HL0.out
          cases e0
          have hcell' : wr.cell? ad = some (.slice (some a0) im[0].length cr) := hcell
          have hc0' : wr.cell? a0 = some (.int .i64 (im[0][0]'HL0.out)) := hc0
          have HHD := Aside0.mk (show (im.getD 0 []).getD 0 0 = im[0][0]'HL0.out from by
            have e : im.getD 0 [] = im[0] := by rw [List.getD_eq_getElem?_getD, List.getElem?_eq_getElem hn1]; rfl
            rw [e, List.getD_eq_getElem?_getD, List.getElem?_eq_getElem HL0.out]
            rfl)
          have hln := HL0.out
          have hlnz : (0 : Int) < (im[0].length : Int) := by omega
          have hn1z : (0 : Int) < (im.length : Int) := by omega
          clear hcell hc0 hrow hcr
          generalize im[0][0]'HL0.out = hd at hc0' HHD
          by_cases h0 : hd = 0
          · have HF := Aside0.mk (show qEnd im cd = 0 from by unfold qEnd; rw [if_neg (by rw [HU.out]; simp), if_neg (by rw [HHD.out]; simp [h0])])
            subst h0
            go_wp2
            go_ret
            exact ⟨by rw [HF.out]; rfl, BB.out⟩
          · have HF := Aside0.mk (show qEnd im cd = 3 from by unfold qEnd; rw [if_neg (by rw [HU.out]; simp), if_pos (by rw [HHD.out]; exact h0)])
            have h0' : (hd != 0) = true := by simpa using h0
            go_wp2
            go_ret
            exact ⟨by rw [HF.out]; rfl, BB.out⟩
  · have gl : ((cd.length : Int) != (im.length : Int)) = true := by simp; omega
    have HQ := Aside0.mk (show qRest b im cd = 3 from by unfold qRest; rw [if_pos (.inl hl)])
    clear hl HCF
    rw [HQ.out]
    go_enter Try.func54, Try.ntmps54
    go_wp2
    go_ret
    exact ⟨rfl, B0.out⟩
theorem qc_calls (b : Int) (A1 A2 : Option Addr) (c1 c2 : Nat) (im : List (List Int)) (cd : List Int) (w : World) (hr1 : Kd.C (Kd.slice 3 (Kd.int .i64)) w A1 im.length im) (hr2 : Kd.C (Kd.int .i64) w A2 cd.length cd) :
    Calls Try.prog 54 (mArgs b A1 A2 c1 c2 im cd) w fun e w' => e = .returned (.int .i64 (qChk b im cd)) ∧ Below w.heap.size w w' := by
  unfold qChk
  by_cases h0 : b < 2 ∨ 4 < b
  · rw [if_pos h0]; exact qc_b b A1 A2 c1 c2 im cd w h0
  · rw [if_neg h0]
    by_cases h1 : (im.length : Int) < 1 ∨ 4 < (im.length : Int)
    · rw [if_pos h1]; exact qc_n b A1 A2 c1 c2 im cd w h0 h1
    · rw [if_neg h1]; exact qc_rest b A1 A2 c1 c2 im cd w hr1 hr2 h0 h1
end Go.Proofs.Ytampgoendkjkhaa.H
