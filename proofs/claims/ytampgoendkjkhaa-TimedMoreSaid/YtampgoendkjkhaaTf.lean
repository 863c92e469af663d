/- timed.found. -/
import Derived.Test.YtampgoendkjkhaaTg
namespace Go.Proofs.Ytampgoendkjkhaa.H
open Go.RowKit Go.Maps Go.Shelf Go.ChangeMaps Go.Proofs.YtampgoendkjkhaaW.PrintWords Go.Proofs.YtampgoendkjkhaaW.PrintMore
set_option linter.unusedVariables false
set_option linter.unusedSimpArgs false
theorem mapB_made' (W : World) (b : Nat) (hb : W.heap.size = b) : MapB (W.alloc (.map #[] 0)) b := by subst hb; exact mapB_made W
theorem enc_spt (p : Spt) : encT p = .agg #[.int .i64 p.1, .int .i64 p.2] := rfl
set_option maxHeartbeats 16000000 in
set_option maxRecDepth 100000 in
theorem found_calls (SA EA : Option Addr) (cs ce : Nat) (st : List Int) (ed : List Edg) (g : Int) (w : World) (hs : Kd.C (Kd.int .i64) w SA st.length st) (he : Kd.C kEd w EA ed.length ed) (hok : TmOk st ed) :
    Calls Try.prog 115 #[.agg #[.slice SA st.length cs, .slice EA ed.length ce, .int .i64 g]] w fun e w' => ∃ (ws : List (Spt × Wy)) (b : Nat) (E : KeyE Try.prog 220 Spt), E.enc = encT ∧ e = .returned (.map (some b)) ∧ MapK E w' b (kvW ws) ∧ MapB w' b ∧ (∀ s, TReach st ed s ↔ (lkW ws s).isSome = true) ∧ Below w.heap.size w w' := by
  obtain ⟨E, hE1, hE2⟩ := keyT
  have E1 := Aside0.mk hE1
  have E2 := Aside0.mk hE2
  have HS := Aside0.mk hs
  have HE := Aside0.mk he
  have HOK := Aside0.mk hok
  clear hs he hok hE1 hE2
  have hmm := @run_makeMap Try.prog
  go_enter Try.func115, Try.ntmps115
  go_wp2_with (first
    | (refine wpList_insB E _ rfl _ _ _ 217 rfl Try.underlying217 (w.heap.size + 1) [] (0, 0) (encW ⟨0, none, 0, 0, false⟩) (by rfl) (by rw [E1.out]; rfl) (by rfl) (mapK_made' _ _ _ (by simp)) (mapB_made' _ _ (by simp)) (by rw [E2.out]; exact ⟨by decide, by decide⟩) ?_
       intro w1 hM1 hB1 ht1
       have M1 := Aside0.mk (show FdM E w w1 (w.heap.size + 1 + 1) SA EA st.length cs ed.length ce g ws0 from
         ⟨ht1.below (below_alloc (below_alloc (Below.refl _ _) _) _) (by omega), by rw [show kvW ws0 = put [] (0, 0) (encW ⟨0, none, 0, 0, false⟩) from rfl]; exact hM1, hB1, blk_turned (blk_alloc (blk_new w _) _) ht1 (by omega), fun s v hs => by
           have := lkW_mem hs
           obtain ⟨rfl, rfl⟩ : s = (0, 0) ∧ v = ⟨0, none, 0, 0, false⟩ := by simpa [ws0] using this
           exact ⟨[], rfl, Kd.R_nil _ _ _ _ _, by rw [ht1.size]; simp⟩, Nat.le_refl _, by rw [ht1.size]; simp⟩)
       clear hM1 hB1 ht1)
    | fail)
  go_loopg [5] (muW ws0) (fun gg _ wr => ∃ (ws : List (Spt × Wy)) (u : Nat), muW ws ≤ gg ∧ Aside0 (FdM E w wr u SA EA st.length cs ed.length ce g ws) ∧ Aside0 (WsOk st ed ws) ∧ Aside0 (DoneCl st ed ws none))
  case atStart => exact ⟨ws0, _, Nat.le_refl _, M1, ⟨ws0_ok HOK.out.n1⟩, ⟨fun s v hs hd => by
    have := lkW_mem hs
    obtain ⟨rfl, rfl⟩ : s = (0, 0) ∧ v = ⟨0, none, 0, 0, false⟩ := by simpa [ws0] using this
    cases hd⟩⟩
  case round =>
    obtain ⟨ws, u, hgg, MM, OK, DC⟩ := hrel
    clear M1
    obtain ⟨wo, hwo⟩ : ∃ wo, wo = wr := ⟨_, rfl⟩
    subst hwo
    obtain ⟨go, hgo⟩ : ∃ go, go = gk := ⟨_, rfl⟩
    subst hgo
    obtain ⟨es, clock, hb, hold, hnd, hin, hof⟩ := MM.out.ents
    have hrng := run_range_map (P := Try.prog) (wo.alloc (.cells #[.int .i64 0, .int .i64 0] 220)) 217 220 127 (w.heap.size + 1) es clock Try.underlying217 (blk_alloc hb _)
    go_wp2
    clear hrng
    have R0 := Aside0.mk (show RgM wo ((wo.alloc (.cells #[.int .i64 0, .int .i64 0] 220)).alloc (.mapIter (some (w.heap.size + 1)) clock #[] clock)) (w.heap.size + 1) clock #[] 0 0 from ⟨below_alloc (below_alloc (Below.refl _ _) _) _, blk_newn _ _ _ (by simp), blk_alloc (blk_new wo _) _⟩)
    generalize (wo.alloc (.cells #[.int .i64 0, .int .i64 0] 220)).alloc (.mapIter (some (w.heap.size + 1)) clock #[] clock) = W2 at R0 ⊢
    have HB := Aside0.mk hb
    have HHO := Aside0.mk hold
    have HND := Aside0.mk hnd
    have HIN := Aside0.mk hin
    have HOF := Aside0.mk hof
    have zB : w.heap.size + 1 < wo.heap.size := blk_lt hb
    clear hb hold hnd hin hof
    go_loopg [5] (leftOf es #[]).size (fun gg s5 wr => ∃ (seen : Array Nat) (bl : Bool) (p c : Int), s5 = .bool bl ∧ (leftOf es seen).size ≤ gg ∧ Aside0 (RgM wo wr (w.heap.size + 1) clock seen p c) ∧ Aside0 (bl = false → ∀ x ∈ es.toList, seen.contains x.born = true → ∃ v : Wy, x.val = encW v ∧ v.d = true) ∧ Aside0 (bl = true → ∃ v, lkW ws (p, c) = some v ∧ v.d = false))
    case atStart => exact ⟨#[], false, 0, 0, rfl, Nat.le_refl _, R0, ⟨fun _ x _ h => by simp at h⟩, ⟨fun h => by cases h⟩⟩
    case round =>
      obtain ⟨seen, bl, p, c, rfl, hg2, RR, AA, BB⟩ := hrel
      clear R0
      have hbW : wr.heap[(w.heap.size + 1)]? = some (.map es clock) := (RR.out.b.block _ zB).trans HB.out
      rcases run_next_at (P := Try.prog) wr 0 (wo.heap.size + 1) (w.heap.size + 1) clock clock seen es clock RR.out.it hbW HHO.out (Nat.le_refl _) with ⟨h0, hrun⟩ | ⟨x, hx, w1, hw1, hrun⟩
      · -- nothing is left
        have HSE := Aside0.mk (all_seen es seen h0)
        clear h0 hbW
        cases bl with
        | false =>
          have HAD := Aside0.mk (show ∀ s v, lkW ws s = some v → v.d = true from fun s v hs => by
            obtain ⟨x, hx, hxv⟩ := HOF.out s v hs
            obtain ⟨v', hv', hd'⟩ := AA.out rfl x hx (HSE.out x hx)
            have e := hxv.symm.trans hv'
            unfold encW at e
            injection e with e
            have e2 := congrArg (fun z => z[2]?) e
            simp at e2
            rw [e2]; exact hd')
          clear AA BB
          go_wp2
          go_ret
          exact ⟨ws, (w.heap.size + 1), E, E1.out, rfl, (MM.out.move (RR.out.b.mono MM.out.hi)).map, (MM.out.move (RR.out.b.mono MM.out.hi)).brn, fun s => ⟨fun hr => reach_all OK.out DC.out HAD.out hr, fun hs => by obtain ⟨v, hv⟩ := Option.isSome_iff_exists.1 hs; exact OK.out.rch s v hv⟩, (MM.out.move (RR.out.b.mono MM.out.hi)).bel⟩
        | true =>
          clear AA HSE
          obtain ⟨⟨t, A, m, cc, d⟩, hv, hd⟩ := BB.out rfl
          clear BB
          simp only [] at hd
          subst hd
          have MR := Aside0.mk (MM.out.move (RR.out.b.mono MM.out.hi))
          have hlk := map_look MR.out.map E1.out E2.out hv (okT_in HOK.out.n8 (OK.out.key _ _ hv))
          have HOT := Aside0.mk (okT_in HOK.out.n8 (OK.out.key _ _ hv))
          have HV := Aside0.mk hv
          have q40 : wr.cell? ⟨wo.heap.size, 0, none⟩ = some (.int .i64 p) := (blk_cell RR.out.at4 0).trans rfl
          have q41 : wr.cell? ⟨wo.heap.size, 1, none⟩ = some (.int .i64 c) := (blk_cell RR.out.at4 1).trans rfl
          have z4 : wo.heap.size < wr.heap.size := blk_lt RR.out.at4
          simp only [] at hlk
          clear hv
          have HIN1 := Aside0.mk (OK.out.key _ _ HV.out)
          have HRC := Aside0.mk (OK.out.rch _ _ HV.out)
          obtain ⟨i, hpi⟩ : ∃ i : Nat, p = (i : Int) := ⟨p.toNat, by have := HIN1.out.1; simp only [] at this; omega⟩
          subst hpi
          have MK := Aside0.mk (OK.out.mark HOK.out HV.out rfl)
          have MXB := Aside0.mk (MR.out.move ((below_alloc (Below.refl wr.heap.size wr) (.cells #[.int .i64 t, .slice A m cc, .bool true] 127)).mono MR.out.hi))
          obtain ⟨w4, hrun4, hM4, ht4⟩ := MXB.out.map.upd ((i : Int), c) (by rw [E2.out]; exact HOT.out) Try.underlying217 (encW ⟨t, A, m, cc, true⟩)
          have hB4 := Aside0.mk (MXB.out.map.updB MXB.out.brn ((i : Int), c) (by rw [E2.out]; exact HOT.out) Try.underlying217 (encW ⟨t, A, m, cc, true⟩) hrun4)
          rw [E1.out] at hrun4
          replace hrun4 : (Instr.mapUpdate 217 (.map (some (w.heap.size + 1))) (.agg #[.int .i64 (i : Int), .int .i64 c]) (.agg #[.int .i64 t, .slice A m cc, .bool true])).run Try.prog (wr.alloc (.cells #[.int .i64 t, .slice A m cc, .bool true] 127)) = .ok () w4 := hrun4
          have HWV := Aside0.mk (MXB.out.legs _ _ HV.out)
          have M4 := Aside0.mk (show WtM E w w4 u SA EA st.length cs ed.length ce g st ed (putW ws ((i : Int), c) ⟨t, A, m, cc, true⟩) wo.heap.size wr.heap.size (i : Int) c ⟨t, A, m, cc, true⟩ (muW (putW ws ((i : Int), c) ⟨t, A, m, cc, true⟩)) from
            ⟨MXB.out.put (v := ⟨t, A, m, cc, true⟩) HWV.out hM4 hB4.out ht4, MK.out.1, DC.out.mark _ _, Nat.le_refl _, blk_turned (blk_alloc RR.out.at4 _) ht4 (by omega), blk_turned (blk_new wr _) ht4 (by omega), (show WyO _ _ _ (⟨t, A, m, cc, true⟩ : Wy) from HWV.out).turned ht4 (by omega),
              by have := OK.out.time _ _ HV.out; rw [MK.out.2.2]; exact this, by have := OK.out.len _ _ HV.out; have := MK.out.2.1; simp only [] at *; omega⟩)
          have HGO := Aside0.mk (show muW (putW ws ((i : Int), c) ⟨t, A, m, cc, true⟩) < go from Nat.lt_of_lt_of_le MK.out.2.1 hgg)
          clear hM4 ht4
          go_wp2
          clear hrun4 hlk q40 q41 z4 hrun
          generalize muW (putW ws ((i : Int), c) ⟨t, A, m, cc, true⟩) = mu1 at M4 HGO
          obtain ⟨b4, hb4⟩ : ∃ b4, b4 = wo.heap.size := ⟨_, rfl⟩
          obtain ⟨b8, hb8⟩ : ∃ b8, b8 = wr.heap.size := ⟨_, rfl⟩
          rw [← hb4, ← hb8] at M4 ⊢
          generalize putW ws ((i : Int), c) ⟨t, A, m, cc, true⟩ = ws4 at M4
          clear MXB MR RR HV hB4 HWV MK hb4 hb8 HB HHO HND HIN HOF
          go_loopg [54] 14 (fun gg s54 wr => ∃ (d : Nat) (ws : List (Spt × Wy)) (u : Nat), d ≤ 14 ∧ 14 - d ≤ gg ∧ s54 = .int .i64 (d : Int) ∧ Aside0 (WtM E w wr u SA EA st.length cs ed.length ce g st ed ws b4 b8 (i : Int) c ⟨t, A, m, cc, true⟩ mu1) ∧ Aside0 (∀ d', d' < d → TookW st ed ws ((i : Int), c) d' ed.length) ∧ Aside0 (∀ k, 0 < k → k < d → mayS st (nowS ((i : Int), c) k) = true))
          case atStart => exact ⟨0, ws4, u, by omega, by omega, rfl, M4, ⟨fun d hd => absurd hd (Nat.not_lt_zero _)⟩, ⟨fun k _ hk => absurd hk (Nat.not_lt_zero _)⟩⟩
          case round =>
            obtain ⟨d, ws, u, hd, hg3, rfl, MM, TT, WW⟩ := hrel
            clear M4
            by_cases hlt : d < 14
            · have hltz : (d : Int) < 14 := by omega
              have hc := HIN1.out.2.2
              simp only [] at hc
              obtain ⟨cd, hcd⟩ : ∃ cd : Int, cd = c + (d : Int) := ⟨_, rfl⟩
              obtain ⟨nc, hnc⟩ : ∃ nc : Int, nc = min 13 cd := ⟨_, rfl⟩
              have hw : IntKind.i64.wrap (c + (d : Int)) = cd := (IntWalk.i64_in _ (by omega)).trans hcd.symm
              have hmin : min (13 : Int) cd = nc := hnc.symm
              have HNW := Aside0.mk (show nowS ((i : Int), c) d = ((i : Int), nc) from by unfold nowS; rw [hnc, hcd])
              have HNB := Aside0.mk (show 0 ≤ nc ∧ nc ≤ 13 from by omega)
              have q40 : wr.cell? ⟨b4, 0, none⟩ = some (.int .i64 (i : Int)) := (blk_cell MM.out.x4 0).trans rfl
              have q41 : wr.cell? ⟨b4, 1, none⟩ = some (.int .i64 c) := (blk_cell MM.out.x4 1).trans rfl
              have MM5 := Aside0.mk (MM.out.below (below_alloc (Below.refl wr.heap.size wr) (.cells #[.int .i64 (i : Int), .int .i64 nc] 220)))
              have X10 := Aside0.mk (blk_new wr (.cells #[.int .i64 (i : Int), .int .i64 nc] 220 (0, 0)))
              have hilt : i < st.length := by have := HIN1.out.2.1; simp only [] at this; omega
              clear hcd hnc hc
              go_upto_region 18 with fail
              obtain ⟨b10, hb10⟩ : ∃ b10, b10 = wr.heap.size := ⟨_, rfl⟩
              generalize wr.alloc (.cells #[.int .i64 (i : Int), .int .i64 nc] 220) = W5 at MM5 X10 ⊢
              rw [← hb10] at X10 ⊢
              clear MM q40 q41 hb10
              have q10 : W5.cell? ⟨b10, 0, none⟩ = some (.int .i64 (i : Int)) := (blk_cell X10.out 0).trans rfl
              have q11 : W5.cell? ⟨b10, 1, none⟩ = some (.int .i64 nc) := (blk_cell X10.out 1).trans rfl
              have qt0 : W5.cell? ⟨w.heap.size, 0, none⟩ = some (.slice SA st.length cs) := (blk_cell MM5.out.fd.box 0).trans rfl
              have qt1 : W5.cell? ⟨w.heap.size, 1, none⟩ = some (.slice EA ed.length ce) := (blk_cell MM5.out.fd.box 1).trans rfl
              have qt2 : W5.cell? ⟨w.heap.size, 2, none⟩ = some (.int .i64 g) := (blk_cell MM5.out.fd.box 2).trans rfl
              go_cut [72] (fun s72 wx => ∃ bl : Bool, s72 = .bool bl ∧ Aside0 (bl = (decide (0 < d) && !mayS st ((i : Int), nc))) ∧ Aside0 (Below W5.heap.size W5 wx))
              case first =>
                by_cases h0 : d = 0
                · have hz : decide (0 < d) = false := decide_eq_false (by omega)
                  have hz2 : ¬ 0 < d := by omega
                  have HZ := Aside0.mk (show false = (decide (0 < d) && !mayS st ((i : Int), nc)) from by rw [decide_eq_false (by omega : ¬ 0 < d), Bool.false_and])
                  clear h0
                  go_wp2_with fail
                  go_meet
                  exact ⟨false, rfl, HZ, ⟨Below.refl _ _⟩⟩
                · have hz : decide (0 < d) = true := decide_eq_true (by omega)
                  have hz2 : 0 < d := by omega
                  have HZ := Aside0.mk (show (!mayS st ((i : Int), nc)) = (decide (0 < d) && !mayS st ((i : Int), nc)) from by rw [decide_eq_true (by omega : 0 < d), Bool.true_and])
                  clear h0
                  go_wp2_with (go_at_call 174; refine (may_spot SA EA cs ed.length ce st g nc i W5 (Kd.C_below HS.out MM5.out.fd.bel) hilt HOK.out.sv).mono ?_; rintro e w6 ⟨rfl, hb6⟩; have B6 := Aside0.mk hb6; clear hb6)
                  go_meet
                  exact ⟨_, rfl, HZ, B6⟩
              case rest =>
                obtain ⟨bl, rfl, HBL, BX⟩ := hcut
                have MM6 := Aside0.mk (MM5.out.below BX.out)
                have X6 := Aside0.mk (blk_below X10.out BX.out)
                clear MM5 X10 q10 q11 qt0 qt1 qt2
                cases bl with
                | true =>
                  have HBT := Aside0.mk (show 0 < d ∧ mayS st (nowS ((i : Int), c) d) = false from by
                    have h := HBL.out.symm
                    rw [Bool.and_eq_true] at h
                    rw [HNW.out]
                    exact ⟨of_decide_eq_true h.1, by simpa using h.2⟩)
                  have HCL := Aside0.mk (MM6.out.dc.shut (closed_of (n := d) (fun d' hd' => TT.out d' hd') (.inr HBT.out)))
                  clear TT WW HBL
                  go_wp2
                  go_roundg mu1
                  case measure => exact HGO.out
                  case rel => exact ⟨ws, u, MM6.out.mu, ⟨MM6.out.fd⟩, ⟨MM6.out.ok⟩, HCL⟩
                | false =>
                  have HWW := Aside0.mk (show ∀ k, 0 < k → k < d + 1 → mayS st (nowS ((i : Int), c) k) = true from fun k h0 hk => by
                    by_cases e : k = d
                    · subst e
                      have h := HBL.out.symm
                      rw [decide_eq_true h0, Bool.true_and] at h
                      rw [HNW.out]
                      simpa using h
                    · exact WW.out k h0 (by omega))
                  clear WW HBL
                  have qt1 : wc.cell? ⟨w.heap.size, 1, none⟩ = some (.slice EA ed.length ce) := (blk_cell MM6.out.fd.box 1).trans rfl
                  obtain ⟨gw, hgw⟩ : ∃ gw, gw = gk := ⟨_, rfl⟩
                  subst hgw
                  go_wp2
                  clear qt1
                  go_loopg [76] ed.length (fun gg s76 wr => ∃ (k : Nat) (ws : List (Spt × Wy)) (u : Nat), k ≤ ed.length ∧ ed.length - k ≤ gg ∧ s76 = .int .i64 (k : Int) ∧ Aside0 (WtM E w wr u SA EA st.length cs ed.length ce g st ed ws b4 b8 (i : Int) c ⟨t, A, m, cc, true⟩ mu1) ∧ Aside0 (wr.heap[b10]? = some (.cells #[.int .i64 (i : Int), .int .i64 nc] 220 (0, 0))) ∧ Aside0 (∀ d', d' < d → TookW st ed ws ((i : Int), c) d' ed.length) ∧ Aside0 (TookW st ed ws ((i : Int), c) d k))
                  case atStart => exact ⟨0, ws, u, Nat.zero_le _, by omega, rfl, MM6, X6, TT, ⟨fun j _ hj => absurd hj (Nat.not_lt_zero _)⟩⟩
                  case round =>
                    obtain ⟨k, ws, u, hk, hg4, rfl, MM, X10, TT, TK⟩ := hrel
                    clear MM6 X6
                    by_cases hlk : k < ed.length
                    · obtain ⟨ad, e0, hc0⟩ := arr_get HE.out rfl hlk
                      cases e0
                      have hlkz : (k : Int) < (ed.length : Int) := by omega
                      have he16 : ed.length ≤ 16 := HOK.out.e16
                      have hc1 := pw_cell_below MM.out.fd.bel (hc0 0 ed[k].fr rfl)
                      have hc2 := pw_cell_below MM.out.fd.bel (hc0 1 ed[k].tw rfl)
                      have hc3 := pw_cell_below MM.out.fd.bel (hc0 2 ed[k].lo rfl)
                      have hc4 := pw_cell_below MM.out.fd.bel (hc0 3 ed[k].hi rfl)
                      have hc5 := pw_cell_below MM.out.fd.bel (hc0 4 ed[k].op rfl)
                      have hc6 := pw_cell_below MM.out.fd.bel (hc0 5 ed[k].re rfl)
                      clear hc0
                      rw [show ad.add (k * 6 + 0) = ad.add (k * 6) from rfl] at hc1
                      rw [show ad.add (k * 6 + 1) = ⟨(ad.add (k * 6)).block, (ad.add (k * 6)).off + 1, none⟩ from by rw [← Addr.add_add, add_pos _ (by omega)]] at hc2
                      rw [show ad.add (k * 6 + 2) = ⟨(ad.add (k * 6)).block, (ad.add (k * 6)).off + 2, none⟩ from by rw [← Addr.add_add, add_pos _ (by omega)]] at hc3
                      rw [show ad.add (k * 6 + 3) = ⟨(ad.add (k * 6)).block, (ad.add (k * 6)).off + 3, none⟩ from by rw [← Addr.add_add, add_pos _ (by omega)]] at hc4
                      rw [show ad.add (k * 6 + 4) = ⟨(ad.add (k * 6)).block, (ad.add (k * 6)).off + 4, none⟩ from by rw [← Addr.add_add, add_pos _ (by omega)]] at hc5
                      rw [show ad.add (k * 6 + 5) = ⟨(ad.add (k * 6)).block, (ad.add (k * 6)).off + 5, none⟩ from by rw [← Addr.add_add, add_pos _ (by omega)]] at hc6
                      have HSN := Aside0.mk (fun (ws' : List (Spt × Wy)) (hm : MoreW ws ws') (hx : skipB ed[k] (i : Int) nc = false → mayS st (nextS ed[k] ((i : Int), nc)) = true → (lkW ws' (nextS ed[k] ((i : Int), nc))).isSome = true) => (TK.out.more hm).snoc hlk (by rw [HNW.out]; exact hx))
                      have HEV := Aside0.mk (HOK.out.ev _ (List.getElem_mem hlk))
                      have HSTEP := Aside0.mk (fun (h1 : skipB ed[k] (i : Int) nc = false) (h2 : mayS st (nextS ed[k] ((i : Int), nc)) = true) => TReach.step HRC.out ⟨d, ed[k], hlt, fun q h0 hq => HWW.out q h0 (by omega), List.getElem_mem hlk, by rw [HNW.out]; exact h1, by rw [HNW.out], h2⟩)
                      generalize ed[k] = e at hc1 hc2 hc3 hc4 hc5 hc6 HSN HEV HSTEP
                      have HME := Aside0.mk (show ed.length - (k + 1) < gk from by omega)
                      obtain ⟨m1, hm1⟩ : ∃ m1, m1 = 2 * e.lo := ⟨_, rfl⟩
                      obtain ⟨s1, hs1⟩ : ∃ s1, s1 = m1 + e.op := ⟨_, rfl⟩
                      obtain ⟨m2, hm2⟩ : ∃ m2, m2 = 2 * e.hi := ⟨_, rfl⟩
                      obtain ⟨s2, hs2⟩ : ∃ s2, s2 = m2 - e.op := ⟨_, rfl⟩
                      have hev := HEV.out
                      obtain ⟨td, htd⟩ : ∃ td : Int, td = t + (d : Int) := ⟨_, rfl⟩
                      have htm := MM.out.tm
                      simp only [] at htm
                      have hw5 : IntKind.i64.wrap (t + (d : Int)) = td := (IntWalk.i64_in _ (by omega)).trans htd.symm
                      have HTD := Aside0.mk htd
                      have hw1 : IntKind.i64.wrap (2 * e.lo) = m1 := (IntWalk.i64_in _ (by omega)).trans hm1.symm
                      have hw2 : IntKind.i64.wrap (m1 + e.op) = s1 := (IntWalk.i64_in _ (by omega)).trans hs1.symm
                      have hw3 : IntKind.i64.wrap (2 * e.hi) = m2 := (IntWalk.i64_in _ (by omega)).trans hm2.symm
                      have hw4 : IntKind.i64.wrap (m2 - e.op) = s2 := (IntWalk.i64_in _ (by omega)).trans hs2.symm
                      have HSK := Aside0.mk (show skipB e (i : Int) nc = ((e.fr != (i : Int)) || decide (nc < s1) || decide (s2 < nc)) from by unfold skipB; rw [hs1, hm1, hs2, hm2])
                      have q40 : wr.cell? ⟨b4, 0, none⟩ = some (.int .i64 (i : Int)) := (blk_cell MM.out.x4 0).trans rfl
                      have q10 : wr.cell? ⟨b10, 1, none⟩ = some (.int .i64 nc) := (blk_cell X10.out 1).trans rfl
                      have z4 : b4 < wr.heap.size := blk_lt MM.out.x4
                      have z10 : b10 < wr.heap.size := blk_lt X10.out
                      have MM12 := Aside0.mk (MM.out.below (below_alloc (Below.refl _ _) (.cells #[.int .i64 e.fr, .int .i64 e.tw, .int .i64 e.lo, .int .i64 e.hi, .int .i64 e.op, .int .i64 e.re] 27)))
                      have X1012 := Aside0.mk (blk_alloc X10.out (.cells #[.int .i64 e.fr, .int .i64 e.tw, .int .i64 e.lo, .int .i64 e.hi, .int .i64 e.op, .int .i64 e.re] 27))
                      clear hm1 hs1 hm2 hs2 hev TK htd htm
                      cases q1 : (e.fr != (i : Int)) with
                      | true =>
                        have HN := Aside0.mk (HSN.out ws (fun _ h => h) (fun h => by rw [HSK.out, q1] at h; cases h))
                        go_wp2
                        go_roundg (ed.length - (k + 1))
                        case measure => exact HME.out
                        case rel => exact ⟨k + 1, ws, u, hlk, Nat.le_refl _, by go_num, MM12, X1012, TT, HN⟩
                      | false =>
                        cases q2 : decide (nc < s1) with
                        | true =>
                          have HN := Aside0.mk (HSN.out ws (fun _ h => h) (fun h => by rw [HSK.out, q1, q2] at h; cases h))
                          go_wp2
                          go_roundg (ed.length - (k + 1))
                          case measure => exact HME.out
                          case rel => exact ⟨k + 1, ws, u, hlk, Nat.le_refl _, by go_num, MM12, X1012, TT, HN⟩
                        | false =>
                          cases q3 : decide (s2 < nc) with
                          | true =>
                            have HN := Aside0.mk (HSN.out ws (fun _ h => h) (fun h => by rw [HSK.out, q1, q2, q3] at h; cases h))
                            go_wp2
                            go_roundg (ed.length - (k + 1))
                            case measure => exact HME.out
                            case rel => exact ⟨k + 1, ws, u, hlk, Nat.le_refl _, by go_num, MM12, X1012, TT, HN⟩
                          | false =>
                            have HSF := Aside0.mk (show skipB e (i : Int) nc = false from by rw [HSK.out, q1, q2, q3]; rfl)
                            obtain ⟨j, hj⟩ : ∃ j : Nat, e.tw = (j : Int) := ⟨e.tw.toNat, by have := HEV.out.2.1.1; omega⟩
                            have hjlt : j < st.length := by have := HEV.out.2.1.2; omega
                            rw [hj] at hc2 MM12 X1012
                            have HJ := Aside0.mk hj
                            clear hj
                            cases q5 : (e.re == 1) with
                            | true =>
                              have HNX := Aside0.mk (show nextS e ((i : Int), nc) = ((j : Int), 0) from by unfold nextS; rw [HJ.out]; simp only []; rw [if_pos (by simpa using q5)])
                              go_upto_region 26 with fail
                              have MM13 := Aside0.mk (MM12.out.below (below_alloc (Below.refl _ _) (.cells #[.int .i64 (j : Int), .int .i64 0] 220)))
                              have X1013 := Aside0.mk (blk_alloc X1012.out (.cells #[.int .i64 (j : Int), .int .i64 0] 220 (0, 0)))
                              have X13 := Aside0.mk (show ((wr.alloc (.cells #[.int .i64 e.fr, .int .i64 (j : Int), .int .i64 e.lo, .int .i64 e.hi, .int .i64 e.op, .int .i64 e.re] 27)).alloc (.cells #[.int .i64 (j : Int), .int .i64 0] 220)).heap[wr.heap.size + 1]? = some (.cells #[.int .i64 (j : Int), .int .i64 0] 220 (0, 0)) from blk_newn _ _ _ (by simp))
                              obtain ⟨b13, hb13⟩ : ∃ b13, b13 = wr.heap.size + 1 := ⟨_, rfl⟩
                              generalize (wr.alloc (.cells #[.int .i64 e.fr, .int .i64 (j : Int), .int .i64 e.lo, .int .i64 e.hi, .int .i64 e.op, .int .i64 e.re] 27)).alloc (.cells #[.int .i64 (j : Int), .int .i64 0] 220) = W13 at MM13 X1013 X13 ⊢
                              rw [← hb13] at X13 ⊢
                              have q130 : W13.cell? ⟨b13, 0, none⟩ = some (.int .i64 (j : Int)) := (blk_cell X13.out 0).trans rfl
                              have q131 : W13.cell? ⟨b13, 1, none⟩ = some (.int .i64 0) := (blk_cell X13.out 1).trans rfl
                              have qt0 : W13.cell? ⟨w.heap.size, 0, none⟩ = some (.slice SA st.length cs) := (blk_cell MM13.out.fd.box 0).trans rfl
                              have qt1 : W13.cell? ⟨w.heap.size, 1, none⟩ = some (.slice (some ad) ed.length ce) := (blk_cell MM13.out.fd.box 1).trans rfl
                              have qt2 : W13.cell? ⟨w.heap.size, 2, none⟩ = some (.int .i64 g) := (blk_cell MM13.out.fd.box 2).trans rfl
                              have zt : w.heap.size < W13.heap.size := blk_lt MM13.out.fd.box
                              have z13 : b13 < W13.heap.size := blk_lt X13.out
                              have HI2 := Aside0.mk (show InS st.length ((j : Int), 0) from ⟨Int.natCast_nonneg _, (by show (j : Int) < (st.length : Int); exact Int.ofNat_lt.2 hjlt), Int.le_refl _, (by show (0 : Int) ≤ 13; decide)⟩)
                              have hlk2 := map_look2 MM13.out.fd.map E1.out E2.out ((j : Int), 0) (okT_in HOK.out.n8 HI2.out)
                              clear hb13 hc1 hc2 hc3 hc4 hc5 hc6 q40 q10 z4 z10 MM12 X1012 q1 q2 q3 q5 hw1 hw2 hw3 hw4
                              cases hl : lkW ws ((j : Int), 0) with
                              | none =>
                                rw [hl] at hlk2
                                simp only [Option.getD_none, Option.isSome_none] at hlk2
                                have B14 := Aside0.mk (below_alloc (Below.refl W13.heap.size W13) (.cells #[.int .i64 0, .slice none 0 0, .bool false] 127))
                                have HMY := Aside0.mk (may_spot SA (some ad) cs ed.length ce st g 0 j _ (Kd.C_below HS.out (below_step MM13.out.fd.bel B14.out)) hjlt HOK.out.sv)
                                have HLN := Aside0.mk hl
                                cases hm : mayS st ((j : Int), 0) with
                                | false =>
                                  rw [hm] at HMY
                                  have HN := Aside0.mk (HSN.out ws (fun _ h => h) (fun _ h => by rw [HNX.out, hm] at h; cases h))
                                  clear hl hm
                                  go_wp2_with (go_at_call 174; refine HMY.out.mono ?_; rintro e' w15 ⟨rfl, hb15⟩; have B15 := Aside0.mk (below_step B14.out hb15); clear hb15)
                                  go_roundg (ed.length - (k + 1))
                                  case measure => exact HME.out
                                  case rel => exact ⟨k + 1, ws, u, hlk, Nat.le_refl _, by go_num, ⟨MM13.out.below B15.out⟩, ⟨blk_below X1013.out B15.out⟩, TT, HN⟩
                                | true =>
                                  rw [hm] at HMY
                                  have HOR := Aside0.mk (show lkW ws ((j : Int), 0) = none ∨ ∃ v, lkW ws ((j : Int), 0) = some v ∧ t + (d : Int) < v.t from .inl hl)
                                  have HSP := Aside0.mk (show TReach st ed ((j : Int), 0) from by have := HSTEP.out HSF.out (by rw [HNX.out]; exact hm); rwa [HNX.out] at this)
                                  clear hl hm
                                  go_wp2_with (go_at_call 174; refine HMY.out.mono ?_; rintro e' w15 ⟨rfl, hb15⟩; have B15 := Aside0.mk (below_step B14.out hb15); clear hb15)
                                  have MM15 := Aside0.mk (MM13.out.below B15.out)
                                  have X1015 := Aside0.mk (blk_below X1013.out B15.out)
                                  have X1315 := Aside0.mk (blk_below X13.out B15.out)
                                  obtain ⟨xs, hxs, hxl⟩ := MM15.out.lg
                                  simp only [] at hxs hxl
                                  have HXS := Aside0.mk hxs
                                  have HXC := Aside0.mk hxl.reads.2.2
                                  have HML := Aside0.mk (show m < 1000001 from by have := MM15.out.ln; simp only [] at this; omega)
                                  have p0 : w15.cell? ⟨b13, 0, none⟩ = some (.int .i64 (j : Int)) := (blk_cell X1315.out 0).trans rfl
                                  have p1 : w15.cell? ⟨b13, 1, none⟩ = some (.int .i64 0) := (blk_cell X1315.out 1).trans rfl
                                  have p2 : w15.cell? ⟨b8, 0, none⟩ = some (.int .i64 t) := (blk_cell MM15.out.x8 0).trans rfl
                                  have p3 : w15.cell? ⟨b8, 1, none⟩ = some (.slice A m cc) := (blk_cell MM15.out.x8 1).trans rfl
                                  have HMS := Aside0.mk (show ∀ W', Below w15.heap.size w15 W' → (fun W' => W'.cell? ⟨b13, 0, none⟩ = some (.int .i64 (j : Int)) ∧ W'.cell? ⟨b13, 1, none⟩ = some (.int .i64 0) ∧ W'.cell? ⟨b8, 0, none⟩ = some (.int .i64 t) ∧ W'.cell? ⟨b8, 1, none⟩ = some (.slice A m cc)) W' from fun W' hb => ⟨pw_cell_below hb p0, pw_cell_below hb p1, pw_cell_below hb p2, pw_cell_below hb p3⟩)
                                  have ZB := Aside0.mk (show b4 ≠ w.heap.size + 1 ∧ b8 ≠ w.heap.size + 1 ∧ b10 ≠ w.heap.size + 1 ∧ b13 ≠ w.heap.size + 1 from by
                                    obtain ⟨es, ck, hmp, _⟩ := MM15.out.fd.ents
                                    refine ⟨fun e => ?_, fun e => ?_, fun e => ?_, fun e => ?_⟩
                                    · have := MM15.out.x4; rw [e, hmp] at this; injection this with this; cases this
                                    · have := MM15.out.x8; rw [e, hmp] at this; injection this with this; cases this
                                    · have := X1015.out; rw [e, hmp] at this; injection this with this; cases this
                                    · have := X1315.out; rw [e, hmp] at this; injection this with this; cases this)
                                  clear hxs hxl
                                  refine wp_region_held_drew (S := (fun W' => W'.cell? ⟨b13, 0, none⟩ = some (.int .i64 (j : Int)) ∧ W'.cell? ⟨b13, 1, none⟩ = some (.int .i64 0) ∧ W'.cell? ⟨b8, 0, none⟩ = some (.int .i64 t) ∧ W'.cell? ⟨b8, 1, none⟩ = some (.slice A m cc))) (by kernel_rfl) ?_ (fun hHeld => ?_)
                                  · (try dsimp only); (first | exact HS10.out | exact HMS.out _ (by repeat (first | exact BB9.out | exact BN.out | exact Below.refl _ _ | apply below_drew1 | apply below_alloc)) | fail)
                                  refine wpAnyH_take (i := 0) (v := ?_) rfl (by kernel_rfl) (by kernel_rfl) (by kernel_rfl) (fun _ _ _ h => h) (Or.inl ⟨by kernel_rfl, ?_⟩) (by assumption) ?_
                                  rotate_left 1
                                  · intro w hSw; (try dsimp only at hSw); go_simp; (try with_reducible rfl)
                                  (try simp only [Act.put, List.getElem_toArray, List.getElem_cons_zero, List.getElem_cons_succ, List.setIfInBounds_toArray, List.set_cons_zero, List.set_cons_succ])
                                  refine wpAnyH_take (i := 1) (v := ?_) rfl (by kernel_rfl) (by kernel_rfl) (by kernel_rfl) (fun _ _ _ h => h) (Or.inl ⟨by kernel_rfl, ?_⟩) (by assumption) ?_
                                  rotate_left 1
                                  · intro w hSw; (try dsimp only at hSw); go_simp; (try with_reducible rfl)
                                  (try simp only [Act.put, List.getElem_toArray, List.getElem_cons_zero, List.getElem_cons_succ, List.setIfInBounds_toArray, List.set_cons_zero, List.set_cons_succ])
                                  refine wpAnyH_take (i := 2) (v := ?_) rfl (by kernel_rfl) (by kernel_rfl) (by kernel_rfl) (fun _ _ _ h => h) (Or.inl ⟨by kernel_rfl, ?_⟩) (by assumption) ?_
                                  rotate_left 1
                                  · intro w hSw; (try dsimp only at hSw); go_simp; (try with_reducible rfl)
                                  (try simp only [Act.put, List.getElem_toArray, List.getElem_cons_zero, List.getElem_cons_succ, List.setIfInBounds_toArray, List.set_cons_zero, List.set_cons_succ])
                                  refine wpAnyH_take (i := 3) (v := ?_) rfl (by kernel_rfl) (by kernel_rfl) (by kernel_rfl) (fun _ _ _ h => h) (Or.inl ⟨by kernel_rfl, ?_⟩) (by assumption) ?_
                                  rotate_left 1
                                  · intro w hSw; (try dsimp only at hSw); go_simp; (try with_reducible rfl)
                                  (try simp only [Act.put, List.getElem_toArray, List.getElem_cons_zero, List.getElem_cons_succ, List.setIfInBounds_toArray, List.set_cons_zero, List.set_cons_succ])
                                  refine wpAnyH_take (i := 4) (v := ?_) rfl (by kernel_rfl) (by kernel_rfl) (by kernel_rfl) (fun _ _ _ h => h) (Or.inl ⟨by kernel_rfl, ?_⟩) (by assumption) ?_
                                  rotate_left 1
                                  · intro w hSw; (try dsimp only at hSw); go_simp; (try with_reducible rfl)
                                  (try simp only [Act.put, List.getElem_toArray, List.getElem_cons_zero, List.getElem_cons_succ, List.setIfInBounds_toArray, List.set_cons_zero, List.set_cons_succ])
                                  refine wpAnyH_take (i := 5) (v := ?_) rfl (by kernel_rfl) (by kernel_rfl) (by kernel_rfl) (fun _ _ _ h => h) (Or.inl ⟨by kernel_rfl, ?_⟩) (by assumption) ?_
                                  rotate_left 1
                                  · intro w hSw; (try dsimp only at hSw); go_simp; (try with_reducible rfl)
                                  (try simp only [Act.put, List.getElem_toArray, List.getElem_cons_zero, List.getElem_cons_succ, List.setIfInBounds_toArray, List.set_cons_zero, List.set_cons_succ])
                                  refine wpAnyH_take (i := 6) (v := ?_) rfl (by kernel_rfl) (by kernel_rfl) (by kernel_rfl) (fun _ _ _ h => h) (Or.inl ⟨by kernel_rfl, ?_⟩) (by assumption) ?_
                                  rotate_left 1
                                  · intro w hSw; (try dsimp only at hSw); go_simp; (try with_reducible rfl)
                                  (try simp only [Act.put, List.getElem_toArray, List.getElem_cons_zero, List.getElem_cons_succ, List.setIfInBounds_toArray, List.set_cons_zero, List.set_cons_succ])
                                  refine wpAnyH_take (i := 7) (v := ?_) rfl (by kernel_rfl) (by kernel_rfl) (by kernel_rfl) (fun _ _ _ h => h) (Or.inl ⟨by kernel_rfl, ?_⟩) (by assumption) ?_
                                  rotate_left 1
                                  · intro w hSw; (try dsimp only at hSw); go_simp; (try with_reducible rfl)
                                  (try simp only [Act.put, List.getElem_toArray, List.getElem_cons_zero, List.getElem_cons_succ, List.setIfInBounds_toArray, List.set_cons_zero, List.set_cons_succ])
                                  refine wpAnyH_take (i := 9) (v := ?_) rfl (by kernel_rfl) (by kernel_rfl) (by kernel_rfl) (fun _ _ _ h => h) (Or.inl ⟨by kernel_rfl, ?_⟩) (by assumption) ?_
                                  rotate_left 1
                                  · intro w hSw; (try dsimp only at hSw); go_simp; (try with_reducible rfl)
                                  (try simp only [Act.put, List.getElem_toArray, List.getElem_cons_zero, List.getElem_cons_succ, List.setIfInBounds_toArray, List.set_cons_zero, List.set_cons_succ])
                                  refine wpAnyH_take (i := 10) (v := ?_) rfl (by kernel_rfl) (by kernel_rfl) (by kernel_rfl) (fun _ _ _ h => h) (Or.inl ⟨by kernel_rfl, ?_⟩) (by assumption) ?_
                                  rotate_left 1
                                  · intro w hSw; (try dsimp only at hSw); go_simp; (try with_reducible rfl)
                                  (try simp only [Act.put, List.getElem_toArray, List.getElem_cons_zero, List.getElem_cons_succ, List.setIfInBounds_toArray, List.set_cons_zero, List.set_cons_succ])
                                  refine wpAnyH_take (i := 11) (v := ?_) rfl (by kernel_rfl) (by kernel_rfl) (by kernel_rfl) (fun _ _ _ h => h) (Or.inl ⟨by kernel_rfl, ?_⟩) (by assumption) ?_
                                  rotate_left 1
                                  · intro w hSw; (try dsimp only at hSw); go_simp; (try with_reducible rfl)
                                  (try simp only [Act.put, List.getElem_toArray, List.getElem_cons_zero, List.getElem_cons_succ, List.setIfInBounds_toArray, List.set_cons_zero, List.set_cons_succ])
                                  refine wpAnyH_ready (rs := [8, 12]) (by kernel_rfl) (by simp) ?_
                                  refine AllReadyH.cons rfl (fun K hK => ?_) (AllReadyH.cons rfl (fun K hK => ?_) AllReadyH.nil)
                                  · rw [if_pos (by kernel_rfl)]
                                    go_simp
                                    go_at_call 175
                                    refine calls_let ?_
                                    intro Wc hWc
                                    have BC := Aside0.mk (show Below w15.heap.size w15 Wc from by rw [hWc]; repeat (first | exact Below.refl _ _ | apply below_drew1 | apply below_alloc))
                                    clear hWc
                                    refine (clone_lg' A m cc xs Wc HXS.out (Kd.C_below HXC.out BC.out) (by have := HML.out; omega)).mono ?_
                                    rintro e' wn ⟨Ac, c4, rfl, hoc, hbc⟩
                                    have OC := Aside0.mk (Kd.R_lower hoc BC.out.size)
                                    have BN := Aside0.mk (below_step BC.out hbc)
                                    clear hoc hbc BC
                                    (try go_simp)
                                    refine hK.out _ _ ?_ (fun hHeld => ?_)
                                    · (try dsimp only); (first | exact HS10.out | exact HMS.out _ (by repeat (first | exact BB9.out | exact BN.out | exact Below.refl _ _ | apply below_drew1 | apply below_alloc)) | fail)
                                    clear hK K
                                    (try simp only [Act.put, List.getElem_toArray, List.getElem_cons_zero, List.getElem_cons_succ, List.setIfInBounds_toArray, List.set_cons_zero, List.set_cons_succ])
                                    refine wpAnyH_ready (rs := [12]) (by kernel_rfl) (by simp) ?_
                                    refine AllReadyH.cons rfl (fun K hK => ?_) AllReadyH.nil
                                    rw [if_pos (by kernel_rfl)]
                                    go_simp
                                    (try go_simp)
                                    refine hK.out _ _ ?_ (fun hHeld => ?_)
                                    · (try dsimp only); (first | exact HS10.out | exact HMS.out _ (by repeat (first | exact BB9.out | exact BN.out | exact Below.refl _ _ | apply below_drew1 | apply below_alloc)) | fail)
                                    clear hK K
                                    (try simp only [Act.put, List.getElem_toArray, List.getElem_cons_zero, List.getElem_cons_succ, List.setIfInBounds_toArray, List.set_cons_zero, List.set_cons_succ])
                                    refine wpAnyH_ready (rs := [13]) (by kernel_rfl) (by simp) ?_
                                    refine AllReadyH.cons rfl (fun K hK => ?_) AllReadyH.nil
                                    refine' Kd.R_append_rows_step kLg (w0 := w15) w15.heap.size (by rfl) _ _ 28 274 (.agg #[.int .i64 0, .int .i64 0]) 16 rfl Try.underlying28 info_lg rfl (by decide) (by decide) (.slice Ac m c4) xs [((d : Int), (k : Int))] (some ⟨_, 0, none⟩) 1 1 (fun _ => True) (fun _ => False) (by rfl) (by rfl) ?aO ?aC (fun _ _ h => h) (fun _ h => h.elim) (fun _ _ => trivial) ?aB ?aS ?aL ?_
                                    (case aO => exact Kd.R_below OC.out (by repeat (first | exact Below.refl _ _ | apply below_drew1 | apply below_alloc)))
                                    (case aC => exact lit_lg (by go_simp) (by go_simp))
                                    (case aB => repeat (first | exact BN.out | apply below_drew1 | apply below_alloc))
                                    (case aS => exact (show Below w15.heap.size w15 _ from by repeat (first | exact BN.out | apply below_drew1 | apply below_alloc)).size)
                                    (case aL => have := HML.out; have := HXS.out; omega)
                                    intro v9 w9 hown hb9 hg9 hat9
                                    obtain ⟨A9, c9, ev9⟩ := Kd.R_slice hown
                                    subst ev9
                                    have hl9 : (xs ++ [((d : Int), (k : Int))]).length = m + 1 := by rw [List.length_append, ← HXS.out]; rfl
                                    rw [hl9] at hown ⊢
                                    have O9 := Aside0.mk hown
                                    have HL9 := Aside0.mk hl9
                                    have BB9 := Aside0.mk hb9
                                    clear hown hb9 hg9 hat9 hl9
                                    (try go_simp)
                                    refine hK.out _ _ ?_ (fun hHeld => ?_)
                                    · (try dsimp only); (first | exact HS10.out | exact HMS.out _ (by repeat (first | exact BB9.out | exact BN.out | exact Below.refl _ _ | apply below_drew1 | apply below_alloc)) | fail)
                                    clear hK K
                                    (try simp only [Act.put, List.getElem_toArray, List.getElem_cons_zero, List.getElem_cons_succ, List.setIfInBounds_toArray, List.set_cons_zero, List.set_cons_succ])
                                    refine wpAnyH_take (i := 14) (v := ?_) rfl (by kernel_rfl) (by kernel_rfl) (by kernel_rfl) (fun _ _ _ h => h) (Or.inl ⟨by kernel_rfl, ?_⟩) (by assumption) ?_
                                    rotate_left 1
                                    · intro w hSw; (try dsimp only at hSw); go_simp; (try with_reducible rfl)
                                    (try simp only [Act.put, List.getElem_toArray, List.getElem_cons_zero, List.getElem_cons_succ, List.setIfInBounds_toArray, List.set_cons_zero, List.set_cons_succ])
                                    refine wpAnyH_ready (rs := [15]) (by kernel_rfl) (by simp) ?_
                                    refine AllReadyH.cons rfl (fun K hK => ?_) AllReadyH.nil
                                    refine' upd_stepB E _ (by rfl) _ _ _ 217 (by rfl) Try.underlying217 (w.heap.size + 1) (kvW ws) ((j : Int), 0) (encW ⟨td, A9, m + 1, c9, false⟩) (by rfl) (by rw [E1.out]; rfl) (by rfl) ?aM ?aN (by rw [E2.out]; exact okT_in HOK.out.n8 HI2.out) ?_
                                    (case aM => exact (MM15.out.fd.below (by repeat (first | exact BB9.out | apply below_drew1))).map)
                                    (case aN => exact (MM15.out.fd.below (by repeat (first | exact BB9.out | apply below_drew1))).brn)
                                    intro w10 hM10 hB10 ht10
                                    have M9 := Aside0.mk (MM15.out.below BB9.out)
                                    have M10 := Aside0.mk (WtM.put (v := ⟨t, A, m, cc, true⟩) (W' := w10) (d := d) (A' := A9) (c' := c9) (xs := xs ++ [((d : Int), (k : Int))]) (B := w15.heap.size) M9.out HOK.out HI2.out HSP.out hlt HOR.out (Nat.le_trans MM15.out.fd.lo MM15.out.fd.hi) HL9.out.symm O9.out ZB.out.1 ZB.out.2.1 (by rw [HTD.out] at hM10; exact hM10) hB10 ⟨ht10.os, ht10.tape, ht10.output, ht10.size, ht10.block⟩)
                                    have X1010 := Aside0.mk (blk_turned (blk_below X1015.out BB9.out) ht10 ZB.out.2.2.1)
                                    have X1310 := blk_turned (blk_below X1315.out BB9.out) ht10 ZB.out.2.2.2
                                    have HS10 := Aside0.mk (show (fun W' => W'.cell? ⟨b13, 0, none⟩ = some (.int .i64 (j : Int)) ∧ W'.cell? ⟨b13, 1, none⟩ = some (.int .i64 0) ∧ W'.cell? ⟨b8, 0, none⟩ = some (.int .i64 t) ∧ W'.cell? ⟨b8, 1, none⟩ = some (.slice A m cc)) w10 from ⟨(blk_cell X1310 0).trans rfl, (blk_cell X1310 1).trans rfl, (blk_cell M10.out.x8 0).trans rfl, (blk_cell M10.out.x8 1).trans rfl⟩)
                                    clear hM10 hB10 ht10 X1310
                                    (try go_simp)
                                    refine hK.out _ _ ?_ (fun hHeld => ?_)
                                    · (try dsimp only); (first | exact HS10.out | exact HMS.out _ (by repeat (first | exact BB9.out | exact BN.out | exact Below.refl _ _ | apply below_drew1 | apply below_alloc)) | fail)
                                    clear hK K
                                    (try simp only [Act.put, List.getElem_toArray, List.getElem_cons_zero, List.getElem_cons_succ, List.setIfInBounds_toArray, List.set_cons_zero, List.set_cons_succ])
                                    refine wpAnyH_done (by kernel_rfl) ?_ _
                                    have HN := Aside0.mk (HSN.out _ (MoreW.put ws ((j : Int), 0) ⟨t + d, A9, m + 1, c9, false⟩) (fun _ _ => by rw [HNX.out, lkW_put, if_pos rfl]; rfl))
                                    have HT2 := Aside0.mk (fun d' hd' => (TT.out d' hd').more (MoreW.put ws ((j : Int), 0) ⟨t + d, A9, m + 1, c9, false⟩))
                                    go_wp2
                                    go_roundg (ed.length - (k + 1))
                                    case measure => exact HME.out
                                    case rel => exact ⟨k + 1, _, _, hlk, Nat.le_refl _, by go_num, (by first | exact M10 | exact ⟨M10.out.below (below_drew1 (Below.refl _ _))⟩), (by first | exact X1010 | exact ⟨X1010.out⟩), HT2, HN⟩
                                  · rw [if_pos (by kernel_rfl)]
                                    go_simp
                                    (try go_simp)
                                    refine hK.out _ _ ?_ (fun hHeld => ?_)
                                    · (try dsimp only); (first | exact HS10.out | exact HMS.out _ (by repeat (first | exact BB9.out | exact BN.out | exact Below.refl _ _ | apply below_drew1 | apply below_alloc)) | fail)
                                    clear hK K
                                    (try simp only [Act.put, List.getElem_toArray, List.getElem_cons_zero, List.getElem_cons_succ, List.setIfInBounds_toArray, List.set_cons_zero, List.set_cons_succ])
                                    refine wpAnyH_ready (rs := [8]) (by kernel_rfl) (by simp) ?_
                                    refine AllReadyH.cons rfl (fun K hK => ?_) AllReadyH.nil
                                    rw [if_pos (by kernel_rfl)]
                                    go_simp
                                    go_at_call 175
                                    refine calls_let ?_
                                    intro Wc hWc
                                    have BC := Aside0.mk (show Below w15.heap.size w15 Wc from by rw [hWc]; repeat (first | exact Below.refl _ _ | apply below_drew1 | apply below_alloc))
                                    have l0 : Wc.cell? ⟨w15.heap.size, 0, none⟩ = some (.int .i64 (d : Int)) := by rw [hWc]; go_simp
                                    have l1 : Wc.cell? ⟨w15.heap.size, 1, none⟩ = some (.int .i64 (k : Int)) := by rw [hWc]; go_simp
                                    clear hWc
                                    refine (clone_lg' A m cc xs Wc HXS.out (Kd.C_below HXC.out BC.out) (by have := HML.out; omega)).mono ?_
                                    rintro e' wn ⟨Ac, c4, rfl, hoc, hbc⟩
                                    have n0 := pw_cell_below hbc l0
                                    have n1 := pw_cell_below hbc l1
                                    have OC := Aside0.mk (Kd.R_lower hoc BC.out.size)
                                    have BN := Aside0.mk (below_step BC.out hbc)
                                    clear hoc hbc BC l0 l1
                                    (try go_simp)
                                    refine hK.out _ _ ?_ (fun hHeld => ?_)
                                    · (try dsimp only); (first | exact HS10.out | exact HMS.out _ (by repeat (first | exact BB9.out | exact BN.out | exact Below.refl _ _ | apply below_drew1 | apply below_alloc)) | fail)
                                    clear hK K
                                    (try simp only [Act.put, List.getElem_toArray, List.getElem_cons_zero, List.getElem_cons_succ, List.setIfInBounds_toArray, List.set_cons_zero, List.set_cons_succ])
                                    refine wpAnyH_ready (rs := [13]) (by kernel_rfl) (by simp) ?_
                                    refine AllReadyH.cons rfl (fun K hK => ?_) AllReadyH.nil
                                    refine' Kd.R_append_rows_step kLg (w0 := w15) w15.heap.size (by rfl) _ _ 28 274 (.agg #[.int .i64 0, .int .i64 0]) 16 rfl Try.underlying28 info_lg rfl (by decide) (by decide) (.slice Ac m c4) xs [((d : Int), (k : Int))] (some ⟨_, 0, none⟩) 1 1 (fun _ => True) (fun _ => False) (by rfl) (by rfl) ?aO ?aC (fun _ _ h => h) (fun _ h => h.elim) (fun _ _ => trivial) ?aB ?aS ?aL ?_
                                    (case aO => exact Kd.R_below OC.out (by repeat (first | exact Below.refl _ _ | apply below_drew1 | apply below_alloc)))
                                    (case aC => exact lit_lg (by go_simp) (by go_simp))
                                    (case aB => repeat (first | exact BN.out | apply below_drew1 | apply below_alloc))
                                    (case aS => exact (show Below w15.heap.size w15 _ from by repeat (first | exact BN.out | apply below_drew1 | apply below_alloc)).size)
                                    (case aL => have := HML.out; have := HXS.out; omega)
                                    intro v9 w9 hown hb9 hg9 hat9
                                    obtain ⟨A9, c9, ev9⟩ := Kd.R_slice hown
                                    subst ev9
                                    have hl9 : (xs ++ [((d : Int), (k : Int))]).length = m + 1 := by rw [List.length_append, ← HXS.out]; rfl
                                    rw [hl9] at hown ⊢
                                    have O9 := Aside0.mk hown
                                    have HL9 := Aside0.mk hl9
                                    have BB9 := Aside0.mk hb9
                                    clear hown hb9 hg9 hat9 hl9
                                    (try go_simp)
                                    refine hK.out _ _ ?_ (fun hHeld => ?_)
                                    · (try dsimp only); (first | exact HS10.out | exact HMS.out _ (by repeat (first | exact BB9.out | exact BN.out | exact Below.refl _ _ | apply below_drew1 | apply below_alloc)) | fail)
                                    clear hK K
                                    (try simp only [Act.put, List.getElem_toArray, List.getElem_cons_zero, List.getElem_cons_succ, List.setIfInBounds_toArray, List.set_cons_zero, List.set_cons_succ])
                                    refine wpAnyH_take (i := 14) (v := ?_) rfl (by kernel_rfl) (by kernel_rfl) (by kernel_rfl) (fun _ _ _ h => h) (Or.inl ⟨by kernel_rfl, ?_⟩) (by assumption) ?_
                                    rotate_left 1
                                    · intro w hSw; (try dsimp only at hSw); go_simp; (try with_reducible rfl)
                                    (try simp only [Act.put, List.getElem_toArray, List.getElem_cons_zero, List.getElem_cons_succ, List.setIfInBounds_toArray, List.set_cons_zero, List.set_cons_succ])
                                    refine wpAnyH_ready (rs := [15]) (by kernel_rfl) (by simp) ?_
                                    refine AllReadyH.cons rfl (fun K hK => ?_) AllReadyH.nil
                                    refine' upd_stepB E _ (by rfl) _ _ _ 217 (by rfl) Try.underlying217 (w.heap.size + 1) (kvW ws) ((j : Int), 0) (encW ⟨td, A9, m + 1, c9, false⟩) (by rfl) (by rw [E1.out]; rfl) (by rfl) ?aM ?aN (by rw [E2.out]; exact okT_in HOK.out.n8 HI2.out) ?_
                                    (case aM => exact (MM15.out.fd.below (by repeat (first | exact BB9.out | apply below_drew1))).map)
                                    (case aN => exact (MM15.out.fd.below (by repeat (first | exact BB9.out | apply below_drew1))).brn)
                                    intro w10 hM10 hB10 ht10
                                    have M9 := Aside0.mk (MM15.out.below BB9.out)
                                    have M10 := Aside0.mk (WtM.put (v := ⟨t, A, m, cc, true⟩) (W' := w10) (d := d) (A' := A9) (c' := c9) (xs := xs ++ [((d : Int), (k : Int))]) (B := w15.heap.size) M9.out HOK.out HI2.out HSP.out hlt HOR.out (Nat.le_trans MM15.out.fd.lo MM15.out.fd.hi) HL9.out.symm O9.out ZB.out.1 ZB.out.2.1 (by rw [HTD.out] at hM10; exact hM10) hB10 ⟨ht10.os, ht10.tape, ht10.output, ht10.size, ht10.block⟩)
                                    have X1010 := Aside0.mk (blk_turned (blk_below X1015.out BB9.out) ht10 ZB.out.2.2.1)
                                    have X1310 := blk_turned (blk_below X1315.out BB9.out) ht10 ZB.out.2.2.2
                                    have HS10 := Aside0.mk (show (fun W' => W'.cell? ⟨b13, 0, none⟩ = some (.int .i64 (j : Int)) ∧ W'.cell? ⟨b13, 1, none⟩ = some (.int .i64 0) ∧ W'.cell? ⟨b8, 0, none⟩ = some (.int .i64 t) ∧ W'.cell? ⟨b8, 1, none⟩ = some (.slice A m cc)) w10 from ⟨(blk_cell X1310 0).trans rfl, (blk_cell X1310 1).trans rfl, (blk_cell M10.out.x8 0).trans rfl, (blk_cell M10.out.x8 1).trans rfl⟩)
                                    clear hM10 hB10 ht10 X1310
                                    (try go_simp)
                                    refine hK.out _ _ ?_ (fun hHeld => ?_)
                                    · (try dsimp only); (first | exact HS10.out | exact HMS.out _ (by repeat (first | exact BB9.out | exact BN.out | exact Below.refl _ _ | apply below_drew1 | apply below_alloc)) | fail)
                                    clear hK K
                                    (try simp only [Act.put, List.getElem_toArray, List.getElem_cons_zero, List.getElem_cons_succ, List.setIfInBounds_toArray, List.set_cons_zero, List.set_cons_succ])
                                    refine wpAnyH_done (by kernel_rfl) ?_ _
                                    have HN := Aside0.mk (HSN.out _ (MoreW.put ws ((j : Int), 0) ⟨t + d, A9, m + 1, c9, false⟩) (fun _ _ => by rw [HNX.out, lkW_put, if_pos rfl]; rfl))
                                    have HT2 := Aside0.mk (fun d' hd' => (TT.out d' hd').more (MoreW.put ws ((j : Int), 0) ⟨t + d, A9, m + 1, c9, false⟩))
                                    go_wp2
                                    go_roundg (ed.length - (k + 1))
                                    case measure => exact HME.out
                                    case rel => exact ⟨k + 1, _, _, hlk, Nat.le_refl _, by go_num, (by first | exact M10 | exact ⟨M10.out.below (below_drew1 (Below.refl _ _))⟩), (by first | exact X1010 | exact ⟨X1010.out⟩), HT2, HN⟩
                              | some v2 =>
                                obtain ⟨t2, A2, n2, c2, d2⟩ := v2
                                rw [hl] at hlk2
                                simp only [Option.getD_some, Option.isSome_some] at hlk2
                                have B14 := Aside0.mk (below_alloc (Below.refl W13.heap.size W13) (.cells #[.int .i64 t2, .slice A2 n2 c2, .bool d2] 127))
                                have X14 := Aside0.mk (blk_new W13 (.cells #[.int .i64 t2, .slice A2 n2 c2, .bool d2] 127 (0, 0)))
                                have HMY := Aside0.mk (may_spot SA (some ad) cs ed.length ce st g 0 j _ (Kd.C_below HS.out (below_step MM13.out.fd.bel B14.out)) hjlt HOK.out.sv)
                                have HLS := Aside0.mk hl
                                cases hm : mayS st ((j : Int), 0) with
                                | false =>
                                  rw [hm] at HMY
                                  have HN := Aside0.mk (HSN.out ws (fun _ h => h) (fun _ h => by rw [HNX.out, hm] at h; cases h))
                                  clear hl hm
                                  go_wp2_with (go_at_call 174; refine HMY.out.mono ?_; rintro e' w15 ⟨rfl, hb15⟩; have B15 := Aside0.mk (below_step B14.out hb15); clear hb15)
                                  go_roundg (ed.length - (k + 1))
                                  case measure => exact HME.out
                                  case rel => exact ⟨k + 1, ws, u, hlk, Nat.le_refl _, by go_num, ⟨MM13.out.below B15.out⟩, ⟨blk_below X1013.out B15.out⟩, TT, HN⟩
                                | true =>
                                  rw [hm] at HMY
                                  have HSP := Aside0.mk (show TReach st ed ((j : Int), 0) from by have := HSTEP.out HSF.out (by rw [HNX.out]; exact hm); rwa [HNX.out] at this)
                                  by_cases ht : td < t2
                                  · have HOR := Aside0.mk (show lkW ws ((j : Int), 0) = none ∨ ∃ v, lkW ws ((j : Int), 0) = some v ∧ t + (d : Int) < v.t from .inr ⟨_, hl, by rw [← HTD.out]; exact ht⟩)
                                    have ht' : decide (td < t2) = true := decide_eq_true ht
                                    clear hl hm ht
                                    go_wp2_with (go_at_call 174; refine HMY.out.mono ?_; rintro e' w15 ⟨rfl, hb15⟩; have B15 := Aside0.mk (below_step B14.out hb15); have q14 : w15.cell? ⟨W13.heap.size, 0, none⟩ = some (.int .i64 t2) := (blk_cell (blk_below X14.out hb15) 0).trans rfl; have q8 : w15.cell? ⟨b8, 0, none⟩ = some (.int .i64 t) := (blk_cell (blk_below MM13.out.x8 B15.out) 0).trans rfl; clear hb15)
                                    have MM15 := Aside0.mk (MM13.out.below B15.out)
                                    have X1015 := Aside0.mk (blk_below X1013.out B15.out)
                                    have X1315 := Aside0.mk (blk_below X13.out B15.out)
                                    obtain ⟨xs, hxs, hxl⟩ := MM15.out.lg
                                    simp only [] at hxs hxl
                                    have HXS := Aside0.mk hxs
                                    have HXC := Aside0.mk hxl.reads.2.2
                                    have HML := Aside0.mk (show m < 1000001 from by have := MM15.out.ln; simp only [] at this; omega)
                                    have p0 : w15.cell? ⟨b13, 0, none⟩ = some (.int .i64 (j : Int)) := (blk_cell X1315.out 0).trans rfl
                                    have p1 : w15.cell? ⟨b13, 1, none⟩ = some (.int .i64 0) := (blk_cell X1315.out 1).trans rfl
                                    have p2 : w15.cell? ⟨b8, 0, none⟩ = some (.int .i64 t) := (blk_cell MM15.out.x8 0).trans rfl
                                    have p3 : w15.cell? ⟨b8, 1, none⟩ = some (.slice A m cc) := (blk_cell MM15.out.x8 1).trans rfl
                                    have HMS := Aside0.mk (show ∀ W', Below w15.heap.size w15 W' → (fun W' => W'.cell? ⟨b13, 0, none⟩ = some (.int .i64 (j : Int)) ∧ W'.cell? ⟨b13, 1, none⟩ = some (.int .i64 0) ∧ W'.cell? ⟨b8, 0, none⟩ = some (.int .i64 t) ∧ W'.cell? ⟨b8, 1, none⟩ = some (.slice A m cc)) W' from fun W' hb => ⟨pw_cell_below hb p0, pw_cell_below hb p1, pw_cell_below hb p2, pw_cell_below hb p3⟩)
                                    have ZB := Aside0.mk (show b4 ≠ w.heap.size + 1 ∧ b8 ≠ w.heap.size + 1 ∧ b10 ≠ w.heap.size + 1 ∧ b13 ≠ w.heap.size + 1 from by
                                      obtain ⟨es, ck, hmp, _⟩ := MM15.out.fd.ents
                                      refine ⟨fun e => ?_, fun e => ?_, fun e => ?_, fun e => ?_⟩
                                      · have := MM15.out.x4; rw [e, hmp] at this; injection this with this; cases this
                                      · have := MM15.out.x8; rw [e, hmp] at this; injection this with this; cases this
                                      · have := X1015.out; rw [e, hmp] at this; injection this with this; cases this
                                      · have := X1315.out; rw [e, hmp] at this; injection this with this; cases this)
                                    clear hxs hxl
                                    refine wp_region_held_drew (S := (fun W' => W'.cell? ⟨b13, 0, none⟩ = some (.int .i64 (j : Int)) ∧ W'.cell? ⟨b13, 1, none⟩ = some (.int .i64 0) ∧ W'.cell? ⟨b8, 0, none⟩ = some (.int .i64 t) ∧ W'.cell? ⟨b8, 1, none⟩ = some (.slice A m cc))) (by kernel_rfl) ?_ (fun hHeld => ?_)
                                    · (try dsimp only); (first | exact HS10.out | exact HMS.out _ (by repeat (first | exact BB9.out | exact BN.out | exact Below.refl _ _ | apply below_drew1 | apply below_alloc)) | fail)
                                    refine wpAnyH_take (i := 0) (v := ?_) rfl (by kernel_rfl) (by kernel_rfl) (by kernel_rfl) (fun _ _ _ h => h) (Or.inl ⟨by kernel_rfl, ?_⟩) (by assumption) ?_
                                    rotate_left 1
                                    · intro w hSw; (try dsimp only at hSw); go_simp; (try with_reducible rfl)
                                    (try simp only [Act.put, List.getElem_toArray, List.getElem_cons_zero, List.getElem_cons_succ, List.setIfInBounds_toArray, List.set_cons_zero, List.set_cons_succ])
                                    refine wpAnyH_take (i := 1) (v := ?_) rfl (by kernel_rfl) (by kernel_rfl) (by kernel_rfl) (fun _ _ _ h => h) (Or.inl ⟨by kernel_rfl, ?_⟩) (by assumption) ?_
                                    rotate_left 1
                                    · intro w hSw; (try dsimp only at hSw); go_simp; (try with_reducible rfl)
                                    (try simp only [Act.put, List.getElem_toArray, List.getElem_cons_zero, List.getElem_cons_succ, List.setIfInBounds_toArray, List.set_cons_zero, List.set_cons_succ])
                                    refine wpAnyH_take (i := 2) (v := ?_) rfl (by kernel_rfl) (by kernel_rfl) (by kernel_rfl) (fun _ _ _ h => h) (Or.inl ⟨by kernel_rfl, ?_⟩) (by assumption) ?_
                                    rotate_left 1
                                    · intro w hSw; (try dsimp only at hSw); go_simp; (try with_reducible rfl)
                                    (try simp only [Act.put, List.getElem_toArray, List.getElem_cons_zero, List.getElem_cons_succ, List.setIfInBounds_toArray, List.set_cons_zero, List.set_cons_succ])
                                    refine wpAnyH_take (i := 3) (v := ?_) rfl (by kernel_rfl) (by kernel_rfl) (by kernel_rfl) (fun _ _ _ h => h) (Or.inl ⟨by kernel_rfl, ?_⟩) (by assumption) ?_
                                    rotate_left 1
                                    · intro w hSw; (try dsimp only at hSw); go_simp; (try with_reducible rfl)
                                    (try simp only [Act.put, List.getElem_toArray, List.getElem_cons_zero, List.getElem_cons_succ, List.setIfInBounds_toArray, List.set_cons_zero, List.set_cons_succ])
                                    refine wpAnyH_take (i := 4) (v := ?_) rfl (by kernel_rfl) (by kernel_rfl) (by kernel_rfl) (fun _ _ _ h => h) (Or.inl ⟨by kernel_rfl, ?_⟩) (by assumption) ?_
                                    rotate_left 1
                                    · intro w hSw; (try dsimp only at hSw); go_simp; (try with_reducible rfl)
                                    (try simp only [Act.put, List.getElem_toArray, List.getElem_cons_zero, List.getElem_cons_succ, List.setIfInBounds_toArray, List.set_cons_zero, List.set_cons_succ])
                                    refine wpAnyH_take (i := 5) (v := ?_) rfl (by kernel_rfl) (by kernel_rfl) (by kernel_rfl) (fun _ _ _ h => h) (Or.inl ⟨by kernel_rfl, ?_⟩) (by assumption) ?_
                                    rotate_left 1
                                    · intro w hSw; (try dsimp only at hSw); go_simp; (try with_reducible rfl)
                                    (try simp only [Act.put, List.getElem_toArray, List.getElem_cons_zero, List.getElem_cons_succ, List.setIfInBounds_toArray, List.set_cons_zero, List.set_cons_succ])
                                    refine wpAnyH_take (i := 6) (v := ?_) rfl (by kernel_rfl) (by kernel_rfl) (by kernel_rfl) (fun _ _ _ h => h) (Or.inl ⟨by kernel_rfl, ?_⟩) (by assumption) ?_
                                    rotate_left 1
                                    · intro w hSw; (try dsimp only at hSw); go_simp; (try with_reducible rfl)
                                    (try simp only [Act.put, List.getElem_toArray, List.getElem_cons_zero, List.getElem_cons_succ, List.setIfInBounds_toArray, List.set_cons_zero, List.set_cons_succ])
                                    refine wpAnyH_take (i := 7) (v := ?_) rfl (by kernel_rfl) (by kernel_rfl) (by kernel_rfl) (fun _ _ _ h => h) (Or.inl ⟨by kernel_rfl, ?_⟩) (by assumption) ?_
                                    rotate_left 1
                                    · intro w hSw; (try dsimp only at hSw); go_simp; (try with_reducible rfl)
                                    (try simp only [Act.put, List.getElem_toArray, List.getElem_cons_zero, List.getElem_cons_succ, List.setIfInBounds_toArray, List.set_cons_zero, List.set_cons_succ])
                                    refine wpAnyH_take (i := 9) (v := ?_) rfl (by kernel_rfl) (by kernel_rfl) (by kernel_rfl) (fun _ _ _ h => h) (Or.inl ⟨by kernel_rfl, ?_⟩) (by assumption) ?_
                                    rotate_left 1
                                    · intro w hSw; (try dsimp only at hSw); go_simp; (try with_reducible rfl)
                                    (try simp only [Act.put, List.getElem_toArray, List.getElem_cons_zero, List.getElem_cons_succ, List.setIfInBounds_toArray, List.set_cons_zero, List.set_cons_succ])
                                    refine wpAnyH_take (i := 10) (v := ?_) rfl (by kernel_rfl) (by kernel_rfl) (by kernel_rfl) (fun _ _ _ h => h) (Or.inl ⟨by kernel_rfl, ?_⟩) (by assumption) ?_
                                    rotate_left 1
                                    · intro w hSw; (try dsimp only at hSw); go_simp; (try with_reducible rfl)
                                    (try simp only [Act.put, List.getElem_toArray, List.getElem_cons_zero, List.getElem_cons_succ, List.setIfInBounds_toArray, List.set_cons_zero, List.set_cons_succ])
                                    refine wpAnyH_take (i := 11) (v := ?_) rfl (by kernel_rfl) (by kernel_rfl) (by kernel_rfl) (fun _ _ _ h => h) (Or.inl ⟨by kernel_rfl, ?_⟩) (by assumption) ?_
                                    rotate_left 1
                                    · intro w hSw; (try dsimp only at hSw); go_simp; (try with_reducible rfl)
                                    (try simp only [Act.put, List.getElem_toArray, List.getElem_cons_zero, List.getElem_cons_succ, List.setIfInBounds_toArray, List.set_cons_zero, List.set_cons_succ])
                                    refine wpAnyH_ready (rs := [8, 12]) (by kernel_rfl) (by simp) ?_
                                    refine AllReadyH.cons rfl (fun K hK => ?_) (AllReadyH.cons rfl (fun K hK => ?_) AllReadyH.nil)
                                    · rw [if_pos (by kernel_rfl)]
                                      go_simp
                                      go_at_call 175
                                      refine calls_let ?_
                                      intro Wc hWc
                                      have BC := Aside0.mk (show Below w15.heap.size w15 Wc from by rw [hWc]; repeat (first | exact Below.refl _ _ | apply below_drew1 | apply below_alloc))
                                      clear hWc
                                      refine (clone_lg' A m cc xs Wc HXS.out (Kd.C_below HXC.out BC.out) (by have := HML.out; omega)).mono ?_
                                      rintro e' wn ⟨Ac, c4, rfl, hoc, hbc⟩
                                      have OC := Aside0.mk (Kd.R_lower hoc BC.out.size)
                                      have BN := Aside0.mk (below_step BC.out hbc)
                                      clear hoc hbc BC
                                      (try go_simp)
                                      refine hK.out _ _ ?_ (fun hHeld => ?_)
                                      · (try dsimp only); (first | exact HS10.out | exact HMS.out _ (by repeat (first | exact BB9.out | exact BN.out | exact Below.refl _ _ | apply below_drew1 | apply below_alloc)) | fail)
                                      clear hK K
                                      (try simp only [Act.put, List.getElem_toArray, List.getElem_cons_zero, List.getElem_cons_succ, List.setIfInBounds_toArray, List.set_cons_zero, List.set_cons_succ])
                                      refine wpAnyH_ready (rs := [12]) (by kernel_rfl) (by simp) ?_
                                      refine AllReadyH.cons rfl (fun K hK => ?_) AllReadyH.nil
                                      rw [if_pos (by kernel_rfl)]
                                      go_simp
                                      (try go_simp)
                                      refine hK.out _ _ ?_ (fun hHeld => ?_)
                                      · (try dsimp only); (first | exact HS10.out | exact HMS.out _ (by repeat (first | exact BB9.out | exact BN.out | exact Below.refl _ _ | apply below_drew1 | apply below_alloc)) | fail)
                                      clear hK K
                                      (try simp only [Act.put, List.getElem_toArray, List.getElem_cons_zero, List.getElem_cons_succ, List.setIfInBounds_toArray, List.set_cons_zero, List.set_cons_succ])
                                      refine wpAnyH_ready (rs := [13]) (by kernel_rfl) (by simp) ?_
                                      refine AllReadyH.cons rfl (fun K hK => ?_) AllReadyH.nil
                                      refine' Kd.R_append_rows_step kLg (w0 := w15) w15.heap.size (by rfl) _ _ 28 274 (.agg #[.int .i64 0, .int .i64 0]) 16 rfl Try.underlying28 info_lg rfl (by decide) (by decide) (.slice Ac m c4) xs [((d : Int), (k : Int))] (some ⟨_, 0, none⟩) 1 1 (fun _ => True) (fun _ => False) (by rfl) (by rfl) ?aO ?aC (fun _ _ h => h) (fun _ h => h.elim) (fun _ _ => trivial) ?aB ?aS ?aL ?_
                                      (case aO => exact Kd.R_below OC.out (by repeat (first | exact Below.refl _ _ | apply below_drew1 | apply below_alloc)))
                                      (case aC => exact lit_lg (by go_simp) (by go_simp))
                                      (case aB => repeat (first | exact BN.out | apply below_drew1 | apply below_alloc))
                                      (case aS => exact (show Below w15.heap.size w15 _ from by repeat (first | exact BN.out | apply below_drew1 | apply below_alloc)).size)
                                      (case aL => have := HML.out; have := HXS.out; omega)
                                      intro v9 w9 hown hb9 hg9 hat9
                                      obtain ⟨A9, c9, ev9⟩ := Kd.R_slice hown
                                      subst ev9
                                      have hl9 : (xs ++ [((d : Int), (k : Int))]).length = m + 1 := by rw [List.length_append, ← HXS.out]; rfl
                                      rw [hl9] at hown ⊢
                                      have O9 := Aside0.mk hown
                                      have HL9 := Aside0.mk hl9
                                      have BB9 := Aside0.mk hb9
                                      clear hown hb9 hg9 hat9 hl9
                                      (try go_simp)
                                      refine hK.out _ _ ?_ (fun hHeld => ?_)
                                      · (try dsimp only); (first | exact HS10.out | exact HMS.out _ (by repeat (first | exact BB9.out | exact BN.out | exact Below.refl _ _ | apply below_drew1 | apply below_alloc)) | fail)
                                      clear hK K
                                      (try simp only [Act.put, List.getElem_toArray, List.getElem_cons_zero, List.getElem_cons_succ, List.setIfInBounds_toArray, List.set_cons_zero, List.set_cons_succ])
                                      refine wpAnyH_take (i := 14) (v := ?_) rfl (by kernel_rfl) (by kernel_rfl) (by kernel_rfl) (fun _ _ _ h => h) (Or.inl ⟨by kernel_rfl, ?_⟩) (by assumption) ?_
                                      rotate_left 1
                                      · intro w hSw; (try dsimp only at hSw); go_simp; (try with_reducible rfl)
                                      (try simp only [Act.put, List.getElem_toArray, List.getElem_cons_zero, List.getElem_cons_succ, List.setIfInBounds_toArray, List.set_cons_zero, List.set_cons_succ])
                                      refine wpAnyH_ready (rs := [15]) (by kernel_rfl) (by simp) ?_
                                      refine AllReadyH.cons rfl (fun K hK => ?_) AllReadyH.nil
                                      refine' upd_stepB E _ (by rfl) _ _ _ 217 (by rfl) Try.underlying217 (w.heap.size + 1) (kvW ws) ((j : Int), 0) (encW ⟨td, A9, m + 1, c9, false⟩) (by rfl) (by rw [E1.out]; rfl) (by rfl) ?aM ?aN (by rw [E2.out]; exact okT_in HOK.out.n8 HI2.out) ?_
                                      (case aM => exact (MM15.out.fd.below (by repeat (first | exact BB9.out | apply below_drew1))).map)
                                      (case aN => exact (MM15.out.fd.below (by repeat (first | exact BB9.out | apply below_drew1))).brn)
                                      intro w10 hM10 hB10 ht10
                                      have M9 := Aside0.mk (MM15.out.below BB9.out)
                                      have M10 := Aside0.mk (WtM.put (v := ⟨t, A, m, cc, true⟩) (W' := w10) (d := d) (A' := A9) (c' := c9) (xs := xs ++ [((d : Int), (k : Int))]) (B := w15.heap.size) M9.out HOK.out HI2.out HSP.out hlt HOR.out (Nat.le_trans MM15.out.fd.lo MM15.out.fd.hi) HL9.out.symm O9.out ZB.out.1 ZB.out.2.1 (by rw [HTD.out] at hM10; exact hM10) hB10 ⟨ht10.os, ht10.tape, ht10.output, ht10.size, ht10.block⟩)
                                      have X1010 := Aside0.mk (blk_turned (blk_below X1015.out BB9.out) ht10 ZB.out.2.2.1)
                                      have X1310 := blk_turned (blk_below X1315.out BB9.out) ht10 ZB.out.2.2.2
                                      have HS10 := Aside0.mk (show (fun W' => W'.cell? ⟨b13, 0, none⟩ = some (.int .i64 (j : Int)) ∧ W'.cell? ⟨b13, 1, none⟩ = some (.int .i64 0) ∧ W'.cell? ⟨b8, 0, none⟩ = some (.int .i64 t) ∧ W'.cell? ⟨b8, 1, none⟩ = some (.slice A m cc)) w10 from ⟨(blk_cell X1310 0).trans rfl, (blk_cell X1310 1).trans rfl, (blk_cell M10.out.x8 0).trans rfl, (blk_cell M10.out.x8 1).trans rfl⟩)
                                      clear hM10 hB10 ht10 X1310
                                      (try go_simp)
                                      refine hK.out _ _ ?_ (fun hHeld => ?_)
                                      · (try dsimp only); (first | exact HS10.out | exact HMS.out _ (by repeat (first | exact BB9.out | exact BN.out | exact Below.refl _ _ | apply below_drew1 | apply below_alloc)) | fail)
                                      clear hK K
                                      (try simp only [Act.put, List.getElem_toArray, List.getElem_cons_zero, List.getElem_cons_succ, List.setIfInBounds_toArray, List.set_cons_zero, List.set_cons_succ])
                                      refine wpAnyH_done (by kernel_rfl) ?_ _
                                      have HN := Aside0.mk (HSN.out _ (MoreW.put ws ((j : Int), 0) ⟨t + d, A9, m + 1, c9, false⟩) (fun _ _ => by rw [HNX.out, lkW_put, if_pos rfl]; rfl))
                                      have HT2 := Aside0.mk (fun d' hd' => (TT.out d' hd').more (MoreW.put ws ((j : Int), 0) ⟨t + d, A9, m + 1, c9, false⟩))
                                      go_wp2
                                      go_roundg (ed.length - (k + 1))
                                      case measure => exact HME.out
                                      case rel => exact ⟨k + 1, _, _, hlk, Nat.le_refl _, by go_num, (by first | exact M10 | exact ⟨M10.out.below (below_drew1 (Below.refl _ _))⟩), (by first | exact X1010 | exact ⟨X1010.out⟩), HT2, HN⟩
                                    · rw [if_pos (by kernel_rfl)]
                                      go_simp
                                      (try go_simp)
                                      refine hK.out _ _ ?_ (fun hHeld => ?_)
                                      · (try dsimp only); (first | exact HS10.out | exact HMS.out _ (by repeat (first | exact BB9.out | exact BN.out | exact Below.refl _ _ | apply below_drew1 | apply below_alloc)) | fail)
                                      clear hK K
                                      (try simp only [Act.put, List.getElem_toArray, List.getElem_cons_zero, List.getElem_cons_succ, List.setIfInBounds_toArray, List.set_cons_zero, List.set_cons_succ])
                                      refine wpAnyH_ready (rs := [8]) (by kernel_rfl) (by simp) ?_
                                      refine AllReadyH.cons rfl (fun K hK => ?_) AllReadyH.nil
                                      rw [if_pos (by kernel_rfl)]
                                      go_simp
                                      go_at_call 175
                                      refine calls_let ?_
                                      intro Wc hWc
                                      have BC := Aside0.mk (show Below w15.heap.size w15 Wc from by rw [hWc]; repeat (first | exact Below.refl _ _ | apply below_drew1 | apply below_alloc))
                                      have l0 : Wc.cell? ⟨w15.heap.size, 0, none⟩ = some (.int .i64 (d : Int)) := by rw [hWc]; go_simp
                                      have l1 : Wc.cell? ⟨w15.heap.size, 1, none⟩ = some (.int .i64 (k : Int)) := by rw [hWc]; go_simp
                                      clear hWc
                                      refine (clone_lg' A m cc xs Wc HXS.out (Kd.C_below HXC.out BC.out) (by have := HML.out; omega)).mono ?_
                                      rintro e' wn ⟨Ac, c4, rfl, hoc, hbc⟩
                                      have n0 := pw_cell_below hbc l0
                                      have n1 := pw_cell_below hbc l1
                                      have OC := Aside0.mk (Kd.R_lower hoc BC.out.size)
                                      have BN := Aside0.mk (below_step BC.out hbc)
                                      clear hoc hbc BC l0 l1
                                      (try go_simp)
                                      refine hK.out _ _ ?_ (fun hHeld => ?_)
                                      · (try dsimp only); (first | exact HS10.out | exact HMS.out _ (by repeat (first | exact BB9.out | exact BN.out | exact Below.refl _ _ | apply below_drew1 | apply below_alloc)) | fail)
                                      clear hK K
                                      (try simp only [Act.put, List.getElem_toArray, List.getElem_cons_zero, List.getElem_cons_succ, List.setIfInBounds_toArray, List.set_cons_zero, List.set_cons_succ])
                                      refine wpAnyH_ready (rs := [13]) (by kernel_rfl) (by simp) ?_
                                      refine AllReadyH.cons rfl (fun K hK => ?_) AllReadyH.nil
                                      refine' Kd.R_append_rows_step kLg (w0 := w15) w15.heap.size (by rfl) _ _ 28 274 (.agg #[.int .i64 0, .int .i64 0]) 16 rfl Try.underlying28 info_lg rfl (by decide) (by decide) (.slice Ac m c4) xs [((d : Int), (k : Int))] (some ⟨_, 0, none⟩) 1 1 (fun _ => True) (fun _ => False) (by rfl) (by rfl) ?aO ?aC (fun _ _ h => h) (fun _ h => h.elim) (fun _ _ => trivial) ?aB ?aS ?aL ?_
                                      (case aO => exact Kd.R_below OC.out (by repeat (first | exact Below.refl _ _ | apply below_drew1 | apply below_alloc)))
                                      (case aC => exact lit_lg (by go_simp) (by go_simp))
                                      (case aB => repeat (first | exact BN.out | apply below_drew1 | apply below_alloc))
                                      (case aS => exact (show Below w15.heap.size w15 _ from by repeat (first | exact BN.out | apply below_drew1 | apply below_alloc)).size)
                                      (case aL => have := HML.out; have := HXS.out; omega)
                                      intro v9 w9 hown hb9 hg9 hat9
                                      obtain ⟨A9, c9, ev9⟩ := Kd.R_slice hown
                                      subst ev9
                                      have hl9 : (xs ++ [((d : Int), (k : Int))]).length = m + 1 := by rw [List.length_append, ← HXS.out]; rfl
                                      rw [hl9] at hown ⊢
                                      have O9 := Aside0.mk hown
                                      have HL9 := Aside0.mk hl9
                                      have BB9 := Aside0.mk hb9
                                      clear hown hb9 hg9 hat9 hl9
                                      (try go_simp)
                                      refine hK.out _ _ ?_ (fun hHeld => ?_)
                                      · (try dsimp only); (first | exact HS10.out | exact HMS.out _ (by repeat (first | exact BB9.out | exact BN.out | exact Below.refl _ _ | apply below_drew1 | apply below_alloc)) | fail)
                                      clear hK K
                                      (try simp only [Act.put, List.getElem_toArray, List.getElem_cons_zero, List.getElem_cons_succ, List.setIfInBounds_toArray, List.set_cons_zero, List.set_cons_succ])
                                      refine wpAnyH_take (i := 14) (v := ?_) rfl (by kernel_rfl) (by kernel_rfl) (by kernel_rfl) (fun _ _ _ h => h) (Or.inl ⟨by kernel_rfl, ?_⟩) (by assumption) ?_
                                      rotate_left 1
                                      · intro w hSw; (try dsimp only at hSw); go_simp; (try with_reducible rfl)
                                      (try simp only [Act.put, List.getElem_toArray, List.getElem_cons_zero, List.getElem_cons_succ, List.setIfInBounds_toArray, List.set_cons_zero, List.set_cons_succ])
                                      refine wpAnyH_ready (rs := [15]) (by kernel_rfl) (by simp) ?_
                                      refine AllReadyH.cons rfl (fun K hK => ?_) AllReadyH.nil
                                      refine' upd_stepB E _ (by rfl) _ _ _ 217 (by rfl) Try.underlying217 (w.heap.size + 1) (kvW ws) ((j : Int), 0) (encW ⟨td, A9, m + 1, c9, false⟩) (by rfl) (by rw [E1.out]; rfl) (by rfl) ?aM ?aN (by rw [E2.out]; exact okT_in HOK.out.n8 HI2.out) ?_
                                      (case aM => exact (MM15.out.fd.below (by repeat (first | exact BB9.out | apply below_drew1))).map)
                                      (case aN => exact (MM15.out.fd.below (by repeat (first | exact BB9.out | apply below_drew1))).brn)
                                      intro w10 hM10 hB10 ht10
                                      have M9 := Aside0.mk (MM15.out.below BB9.out)
                                      have M10 := Aside0.mk (WtM.put (v := ⟨t, A, m, cc, true⟩) (W' := w10) (d := d) (A' := A9) (c' := c9) (xs := xs ++ [((d : Int), (k : Int))]) (B := w15.heap.size) M9.out HOK.out HI2.out HSP.out hlt HOR.out (Nat.le_trans MM15.out.fd.lo MM15.out.fd.hi) HL9.out.symm O9.out ZB.out.1 ZB.out.2.1 (by rw [HTD.out] at hM10; exact hM10) hB10 ⟨ht10.os, ht10.tape, ht10.output, ht10.size, ht10.block⟩)
                                      have X1010 := Aside0.mk (blk_turned (blk_below X1015.out BB9.out) ht10 ZB.out.2.2.1)
                                      have X1310 := blk_turned (blk_below X1315.out BB9.out) ht10 ZB.out.2.2.2
                                      have HS10 := Aside0.mk (show (fun W' => W'.cell? ⟨b13, 0, none⟩ = some (.int .i64 (j : Int)) ∧ W'.cell? ⟨b13, 1, none⟩ = some (.int .i64 0) ∧ W'.cell? ⟨b8, 0, none⟩ = some (.int .i64 t) ∧ W'.cell? ⟨b8, 1, none⟩ = some (.slice A m cc)) w10 from ⟨(blk_cell X1310 0).trans rfl, (blk_cell X1310 1).trans rfl, (blk_cell M10.out.x8 0).trans rfl, (blk_cell M10.out.x8 1).trans rfl⟩)
                                      clear hM10 hB10 ht10 X1310
                                      (try go_simp)
                                      refine hK.out _ _ ?_ (fun hHeld => ?_)
                                      · (try dsimp only); (first | exact HS10.out | exact HMS.out _ (by repeat (first | exact BB9.out | exact BN.out | exact Below.refl _ _ | apply below_drew1 | apply below_alloc)) | fail)
                                      clear hK K
                                      (try simp only [Act.put, List.getElem_toArray, List.getElem_cons_zero, List.getElem_cons_succ, List.setIfInBounds_toArray, List.set_cons_zero, List.set_cons_succ])
                                      refine wpAnyH_done (by kernel_rfl) ?_ _
                                      have HN := Aside0.mk (HSN.out _ (MoreW.put ws ((j : Int), 0) ⟨t + d, A9, m + 1, c9, false⟩) (fun _ _ => by rw [HNX.out, lkW_put, if_pos rfl]; rfl))
                                      have HT2 := Aside0.mk (fun d' hd' => (TT.out d' hd').more (MoreW.put ws ((j : Int), 0) ⟨t + d, A9, m + 1, c9, false⟩))
                                      go_wp2
                                      go_roundg (ed.length - (k + 1))
                                      case measure => exact HME.out
                                      case rel => exact ⟨k + 1, _, _, hlk, Nat.le_refl _, by go_num, (by first | exact M10 | exact ⟨M10.out.below (below_drew1 (Below.refl _ _))⟩), (by first | exact X1010 | exact ⟨X1010.out⟩), HT2, HN⟩
                                  · have ht' : decide (td < t2) = false := decide_eq_false ht
                                    have HN := Aside0.mk (HSN.out ws (fun _ h => h) (fun _ h => by rw [HNX.out, hl]; rfl))
                                    clear hl hm ht
                                    go_wp2_with (go_at_call 174; refine HMY.out.mono ?_; rintro e' w15 ⟨rfl, hb15⟩; have B15 := Aside0.mk (below_step B14.out hb15); have q14 : w15.cell? ⟨W13.heap.size, 0, none⟩ = some (.int .i64 t2) := (blk_cell (blk_below X14.out hb15) 0).trans rfl; have q8 : w15.cell? ⟨b8, 0, none⟩ = some (.int .i64 t) := (blk_cell (blk_below MM13.out.x8 B15.out) 0).trans rfl; clear hb15)
                                    go_roundg (ed.length - (k + 1))
                                    case measure => exact HME.out
                                    case rel => exact ⟨k + 1, ws, u, hlk, Nat.le_refl _, by go_num, ⟨MM13.out.below B15.out⟩, ⟨blk_below X1013.out B15.out⟩, TT, HN⟩
                            | false =>
                              have HNX := Aside0.mk (show nextS e ((i : Int), nc) = ((j : Int), nc) from by unfold nextS; rw [HJ.out]; simp only []; rw [if_neg (by simpa using q5)])
                              go_upto_region 26 with fail
                              have MM13 := Aside0.mk (MM12.out.below (below_alloc (Below.refl _ _) (.cells #[.int .i64 (j : Int), .int .i64 nc] 220)))
                              have X1013 := Aside0.mk (blk_alloc X1012.out (.cells #[.int .i64 (j : Int), .int .i64 nc] 220 (0, 0)))
                              have X13 := Aside0.mk (show ((wr.alloc (.cells #[.int .i64 e.fr, .int .i64 (j : Int), .int .i64 e.lo, .int .i64 e.hi, .int .i64 e.op, .int .i64 e.re] 27)).alloc (.cells #[.int .i64 (j : Int), .int .i64 nc] 220)).heap[wr.heap.size + 1]? = some (.cells #[.int .i64 (j : Int), .int .i64 nc] 220 (0, 0)) from blk_newn _ _ _ (by simp))
                              obtain ⟨b13, hb13⟩ : ∃ b13, b13 = wr.heap.size + 1 := ⟨_, rfl⟩
                              generalize (wr.alloc (.cells #[.int .i64 e.fr, .int .i64 (j : Int), .int .i64 e.lo, .int .i64 e.hi, .int .i64 e.op, .int .i64 e.re] 27)).alloc (.cells #[.int .i64 (j : Int), .int .i64 nc] 220) = W13 at MM13 X1013 X13 ⊢
                              rw [← hb13] at X13 ⊢
                              have q130 : W13.cell? ⟨b13, 0, none⟩ = some (.int .i64 (j : Int)) := (blk_cell X13.out 0).trans rfl
                              have q131 : W13.cell? ⟨b13, 1, none⟩ = some (.int .i64 nc) := (blk_cell X13.out 1).trans rfl
                              have qt0 : W13.cell? ⟨w.heap.size, 0, none⟩ = some (.slice SA st.length cs) := (blk_cell MM13.out.fd.box 0).trans rfl
                              have qt1 : W13.cell? ⟨w.heap.size, 1, none⟩ = some (.slice (some ad) ed.length ce) := (blk_cell MM13.out.fd.box 1).trans rfl
                              have qt2 : W13.cell? ⟨w.heap.size, 2, none⟩ = some (.int .i64 g) := (blk_cell MM13.out.fd.box 2).trans rfl
                              have zt : w.heap.size < W13.heap.size := blk_lt MM13.out.fd.box
                              have z13 : b13 < W13.heap.size := blk_lt X13.out
                              have HI2 := Aside0.mk (show InS st.length ((j : Int), nc) from ⟨Int.natCast_nonneg _, (by show (j : Int) < (st.length : Int); exact Int.ofNat_lt.2 hjlt), HNB.out.1, HNB.out.2⟩)
                              have hlk2 := map_look2 MM13.out.fd.map E1.out E2.out ((j : Int), nc) (okT_in HOK.out.n8 HI2.out)
                              clear hb13 hc1 hc2 hc3 hc4 hc5 hc6 q40 q10 z4 z10 MM12 X1012 q1 q2 q3 q5 hw1 hw2 hw3 hw4
                              cases hl : lkW ws ((j : Int), nc) with
                              | none =>
                                rw [hl] at hlk2
                                simp only [Option.getD_none, Option.isSome_none] at hlk2
                                have B14 := Aside0.mk (below_alloc (Below.refl W13.heap.size W13) (.cells #[.int .i64 0, .slice none 0 0, .bool false] 127))
                                have HMY := Aside0.mk (may_spot SA (some ad) cs ed.length ce st g nc j _ (Kd.C_below HS.out (below_step MM13.out.fd.bel B14.out)) hjlt HOK.out.sv)
                                have HLN := Aside0.mk hl
                                cases hm : mayS st ((j : Int), nc) with
                                | false =>
                                  rw [hm] at HMY
                                  have HN := Aside0.mk (HSN.out ws (fun _ h => h) (fun _ h => by rw [HNX.out, hm] at h; cases h))
                                  clear hl hm
                                  go_wp2_with (go_at_call 174; refine HMY.out.mono ?_; rintro e' w15 ⟨rfl, hb15⟩; have B15 := Aside0.mk (below_step B14.out hb15); clear hb15)
                                  go_roundg (ed.length - (k + 1))
                                  case measure => exact HME.out
                                  case rel => exact ⟨k + 1, ws, u, hlk, Nat.le_refl _, by go_num, ⟨MM13.out.below B15.out⟩, ⟨blk_below X1013.out B15.out⟩, TT, HN⟩
                                | true =>
                                  rw [hm] at HMY
                                  have HOR := Aside0.mk (show lkW ws ((j : Int), nc) = none ∨ ∃ v, lkW ws ((j : Int), nc) = some v ∧ t + (d : Int) < v.t from .inl hl)
                                  have HSP := Aside0.mk (show TReach st ed ((j : Int), nc) from by have := HSTEP.out HSF.out (by rw [HNX.out]; exact hm); rwa [HNX.out] at this)
                                  clear hl hm
                                  go_wp2_with (go_at_call 174; refine HMY.out.mono ?_; rintro e' w15 ⟨rfl, hb15⟩; have B15 := Aside0.mk (below_step B14.out hb15); clear hb15)
                                  have MM15 := Aside0.mk (MM13.out.below B15.out)
                                  have X1015 := Aside0.mk (blk_below X1013.out B15.out)
                                  have X1315 := Aside0.mk (blk_below X13.out B15.out)
                                  obtain ⟨xs, hxs, hxl⟩ := MM15.out.lg
                                  simp only [] at hxs hxl
                                  have HXS := Aside0.mk hxs
                                  have HXC := Aside0.mk hxl.reads.2.2
                                  have HML := Aside0.mk (show m < 1000001 from by have := MM15.out.ln; simp only [] at this; omega)
                                  have p0 : w15.cell? ⟨b13, 0, none⟩ = some (.int .i64 (j : Int)) := (blk_cell X1315.out 0).trans rfl
                                  have p1 : w15.cell? ⟨b13, 1, none⟩ = some (.int .i64 nc) := (blk_cell X1315.out 1).trans rfl
                                  have p2 : w15.cell? ⟨b8, 0, none⟩ = some (.int .i64 t) := (blk_cell MM15.out.x8 0).trans rfl
                                  have p3 : w15.cell? ⟨b8, 1, none⟩ = some (.slice A m cc) := (blk_cell MM15.out.x8 1).trans rfl
                                  have HMS := Aside0.mk (show ∀ W', Below w15.heap.size w15 W' → (fun W' => W'.cell? ⟨b13, 0, none⟩ = some (.int .i64 (j : Int)) ∧ W'.cell? ⟨b13, 1, none⟩ = some (.int .i64 nc) ∧ W'.cell? ⟨b8, 0, none⟩ = some (.int .i64 t) ∧ W'.cell? ⟨b8, 1, none⟩ = some (.slice A m cc)) W' from fun W' hb => ⟨pw_cell_below hb p0, pw_cell_below hb p1, pw_cell_below hb p2, pw_cell_below hb p3⟩)
                                  have ZB := Aside0.mk (show b4 ≠ w.heap.size + 1 ∧ b8 ≠ w.heap.size + 1 ∧ b10 ≠ w.heap.size + 1 ∧ b13 ≠ w.heap.size + 1 from by
                                    obtain ⟨es, ck, hmp, _⟩ := MM15.out.fd.ents
                                    refine ⟨fun e => ?_, fun e => ?_, fun e => ?_, fun e => ?_⟩
                                    · have := MM15.out.x4; rw [e, hmp] at this; injection this with this; cases this
                                    · have := MM15.out.x8; rw [e, hmp] at this; injection this with this; cases this
                                    · have := X1015.out; rw [e, hmp] at this; injection this with this; cases this
                                    · have := X1315.out; rw [e, hmp] at this; injection this with this; cases this)
                                  clear hxs hxl
                                  refine wp_region_held_drew (S := (fun W' => W'.cell? ⟨b13, 0, none⟩ = some (.int .i64 (j : Int)) ∧ W'.cell? ⟨b13, 1, none⟩ = some (.int .i64 nc) ∧ W'.cell? ⟨b8, 0, none⟩ = some (.int .i64 t) ∧ W'.cell? ⟨b8, 1, none⟩ = some (.slice A m cc))) (by kernel_rfl) ?_ (fun hHeld => ?_)
                                  · (try dsimp only); (first | exact HS10.out | exact HMS.out _ (by repeat (first | exact BB9.out | exact BN.out | exact Below.refl _ _ | apply below_drew1 | apply below_alloc)) | fail)
                                  refine wpAnyH_take (i := 0) (v := ?_) rfl (by kernel_rfl) (by kernel_rfl) (by kernel_rfl) (fun _ _ _ h => h) (Or.inl ⟨by kernel_rfl, ?_⟩) (by assumption) ?_
                                  rotate_left 1
                                  · intro w hSw; (try dsimp only at hSw); go_simp; (try with_reducible rfl)
                                  (try simp only [Act.put, List.getElem_toArray, List.getElem_cons_zero, List.getElem_cons_succ, List.setIfInBounds_toArray, List.set_cons_zero, List.set_cons_succ])
                                  refine wpAnyH_take (i := 1) (v := ?_) rfl (by kernel_rfl) (by kernel_rfl) (by kernel_rfl) (fun _ _ _ h => h) (Or.inl ⟨by kernel_rfl, ?_⟩) (by assumption) ?_
                                  rotate_left 1
                                  · intro w hSw; (try dsimp only at hSw); go_simp; (try with_reducible rfl)
                                  (try simp only [Act.put, List.getElem_toArray, List.getElem_cons_zero, List.getElem_cons_succ, List.setIfInBounds_toArray, List.set_cons_zero, List.set_cons_succ])
                                  refine wpAnyH_take (i := 2) (v := ?_) rfl (by kernel_rfl) (by kernel_rfl) (by kernel_rfl) (fun _ _ _ h => h) (Or.inl ⟨by kernel_rfl, ?_⟩) (by assumption) ?_
                                  rotate_left 1
                                  · intro w hSw; (try dsimp only at hSw); go_simp; (try with_reducible rfl)
                                  (try simp only [Act.put, List.getElem_toArray, List.getElem_cons_zero, List.getElem_cons_succ, List.setIfInBounds_toArray, List.set_cons_zero, List.set_cons_succ])
                                  refine wpAnyH_take (i := 3) (v := ?_) rfl (by kernel_rfl) (by kernel_rfl) (by kernel_rfl) (fun _ _ _ h => h) (Or.inl ⟨by kernel_rfl, ?_⟩) (by assumption) ?_
                                  rotate_left 1
                                  · intro w hSw; (try dsimp only at hSw); go_simp; (try with_reducible rfl)
                                  (try simp only [Act.put, List.getElem_toArray, List.getElem_cons_zero, List.getElem_cons_succ, List.setIfInBounds_toArray, List.set_cons_zero, List.set_cons_succ])
                                  refine wpAnyH_take (i := 4) (v := ?_) rfl (by kernel_rfl) (by kernel_rfl) (by kernel_rfl) (fun _ _ _ h => h) (Or.inl ⟨by kernel_rfl, ?_⟩) (by assumption) ?_
                                  rotate_left 1
                                  · intro w hSw; (try dsimp only at hSw); go_simp; (try with_reducible rfl)
                                  (try simp only [Act.put, List.getElem_toArray, List.getElem_cons_zero, List.getElem_cons_succ, List.setIfInBounds_toArray, List.set_cons_zero, List.set_cons_succ])
                                  refine wpAnyH_take (i := 5) (v := ?_) rfl (by kernel_rfl) (by kernel_rfl) (by kernel_rfl) (fun _ _ _ h => h) (Or.inl ⟨by kernel_rfl, ?_⟩) (by assumption) ?_
                                  rotate_left 1
                                  · intro w hSw; (try dsimp only at hSw); go_simp; (try with_reducible rfl)
                                  (try simp only [Act.put, List.getElem_toArray, List.getElem_cons_zero, List.getElem_cons_succ, List.setIfInBounds_toArray, List.set_cons_zero, List.set_cons_succ])
                                  refine wpAnyH_take (i := 6) (v := ?_) rfl (by kernel_rfl) (by kernel_rfl) (by kernel_rfl) (fun _ _ _ h => h) (Or.inl ⟨by kernel_rfl, ?_⟩) (by assumption) ?_
                                  rotate_left 1
                                  · intro w hSw; (try dsimp only at hSw); go_simp; (try with_reducible rfl)
                                  (try simp only [Act.put, List.getElem_toArray, List.getElem_cons_zero, List.getElem_cons_succ, List.setIfInBounds_toArray, List.set_cons_zero, List.set_cons_succ])
                                  refine wpAnyH_take (i := 7) (v := ?_) rfl (by kernel_rfl) (by kernel_rfl) (by kernel_rfl) (fun _ _ _ h => h) (Or.inl ⟨by kernel_rfl, ?_⟩) (by assumption) ?_
                                  rotate_left 1
                                  · intro w hSw; (try dsimp only at hSw); go_simp; (try with_reducible rfl)
                                  (try simp only [Act.put, List.getElem_toArray, List.getElem_cons_zero, List.getElem_cons_succ, List.setIfInBounds_toArray, List.set_cons_zero, List.set_cons_succ])
                                  refine wpAnyH_take (i := 9) (v := ?_) rfl (by kernel_rfl) (by kernel_rfl) (by kernel_rfl) (fun _ _ _ h => h) (Or.inl ⟨by kernel_rfl, ?_⟩) (by assumption) ?_
                                  rotate_left 1
                                  · intro w hSw; (try dsimp only at hSw); go_simp; (try with_reducible rfl)
                                  (try simp only [Act.put, List.getElem_toArray, List.getElem_cons_zero, List.getElem_cons_succ, List.setIfInBounds_toArray, List.set_cons_zero, List.set_cons_succ])
                                  refine wpAnyH_take (i := 10) (v := ?_) rfl (by kernel_rfl) (by kernel_rfl) (by kernel_rfl) (fun _ _ _ h => h) (Or.inl ⟨by kernel_rfl, ?_⟩) (by assumption) ?_
                                  rotate_left 1
                                  · intro w hSw; (try dsimp only at hSw); go_simp; (try with_reducible rfl)
                                  (try simp only [Act.put, List.getElem_toArray, List.getElem_cons_zero, List.getElem_cons_succ, List.setIfInBounds_toArray, List.set_cons_zero, List.set_cons_succ])
                                  refine wpAnyH_take (i := 11) (v := ?_) rfl (by kernel_rfl) (by kernel_rfl) (by kernel_rfl) (fun _ _ _ h => h) (Or.inl ⟨by kernel_rfl, ?_⟩) (by assumption) ?_
                                  rotate_left 1
                                  · intro w hSw; (try dsimp only at hSw); go_simp; (try with_reducible rfl)
                                  (try simp only [Act.put, List.getElem_toArray, List.getElem_cons_zero, List.getElem_cons_succ, List.setIfInBounds_toArray, List.set_cons_zero, List.set_cons_succ])
                                  refine wpAnyH_ready (rs := [8, 12]) (by kernel_rfl) (by simp) ?_
                                  refine AllReadyH.cons rfl (fun K hK => ?_) (AllReadyH.cons rfl (fun K hK => ?_) AllReadyH.nil)
                                  · rw [if_pos (by kernel_rfl)]
                                    go_simp
                                    go_at_call 175
                                    refine calls_let ?_
                                    intro Wc hWc
                                    have BC := Aside0.mk (show Below w15.heap.size w15 Wc from by rw [hWc]; repeat (first | exact Below.refl _ _ | apply below_drew1 | apply below_alloc))
                                    clear hWc
                                    refine (clone_lg' A m cc xs Wc HXS.out (Kd.C_below HXC.out BC.out) (by have := HML.out; omega)).mono ?_
                                    rintro e' wn ⟨Ac, c4, rfl, hoc, hbc⟩
                                    have OC := Aside0.mk (Kd.R_lower hoc BC.out.size)
                                    have BN := Aside0.mk (below_step BC.out hbc)
                                    clear hoc hbc BC
                                    (try go_simp)
                                    refine hK.out _ _ ?_ (fun hHeld => ?_)
                                    · (try dsimp only); (first | exact HS10.out | exact HMS.out _ (by repeat (first | exact BB9.out | exact BN.out | exact Below.refl _ _ | apply below_drew1 | apply below_alloc)) | fail)
                                    clear hK K
                                    (try simp only [Act.put, List.getElem_toArray, List.getElem_cons_zero, List.getElem_cons_succ, List.setIfInBounds_toArray, List.set_cons_zero, List.set_cons_succ])
                                    refine wpAnyH_ready (rs := [12]) (by kernel_rfl) (by simp) ?_
                                    refine AllReadyH.cons rfl (fun K hK => ?_) AllReadyH.nil
                                    rw [if_pos (by kernel_rfl)]
                                    go_simp
                                    (try go_simp)
                                    refine hK.out _ _ ?_ (fun hHeld => ?_)
                                    · (try dsimp only); (first | exact HS10.out | exact HMS.out _ (by repeat (first | exact BB9.out | exact BN.out | exact Below.refl _ _ | apply below_drew1 | apply below_alloc)) | fail)
                                    clear hK K
                                    (try simp only [Act.put, List.getElem_toArray, List.getElem_cons_zero, List.getElem_cons_succ, List.setIfInBounds_toArray, List.set_cons_zero, List.set_cons_succ])
                                    refine wpAnyH_ready (rs := [13]) (by kernel_rfl) (by simp) ?_
                                    refine AllReadyH.cons rfl (fun K hK => ?_) AllReadyH.nil
                                    refine' Kd.R_append_rows_step kLg (w0 := w15) w15.heap.size (by rfl) _ _ 28 274 (.agg #[.int .i64 0, .int .i64 0]) 16 rfl Try.underlying28 info_lg rfl (by decide) (by decide) (.slice Ac m c4) xs [((d : Int), (k : Int))] (some ⟨_, 0, none⟩) 1 1 (fun _ => True) (fun _ => False) (by rfl) (by rfl) ?aO ?aC (fun _ _ h => h) (fun _ h => h.elim) (fun _ _ => trivial) ?aB ?aS ?aL ?_
                                    (case aO => exact Kd.R_below OC.out (by repeat (first | exact Below.refl _ _ | apply below_drew1 | apply below_alloc)))
                                    (case aC => exact lit_lg (by go_simp) (by go_simp))
                                    (case aB => repeat (first | exact BN.out | apply below_drew1 | apply below_alloc))
                                    (case aS => exact (show Below w15.heap.size w15 _ from by repeat (first | exact BN.out | apply below_drew1 | apply below_alloc)).size)
                                    (case aL => have := HML.out; have := HXS.out; omega)
                                    intro v9 w9 hown hb9 hg9 hat9
                                    obtain ⟨A9, c9, ev9⟩ := Kd.R_slice hown
                                    subst ev9
                                    have hl9 : (xs ++ [((d : Int), (k : Int))]).length = m + 1 := by rw [List.length_append, ← HXS.out]; rfl
                                    rw [hl9] at hown ⊢
                                    have O9 := Aside0.mk hown
                                    have HL9 := Aside0.mk hl9
                                    have BB9 := Aside0.mk hb9
                                    clear hown hb9 hg9 hat9 hl9
                                    (try go_simp)
                                    refine hK.out _ _ ?_ (fun hHeld => ?_)
                                    · (try dsimp only); (first | exact HS10.out | exact HMS.out _ (by repeat (first | exact BB9.out | exact BN.out | exact Below.refl _ _ | apply below_drew1 | apply below_alloc)) | fail)
                                    clear hK K
                                    (try simp only [Act.put, List.getElem_toArray, List.getElem_cons_zero, List.getElem_cons_succ, List.setIfInBounds_toArray, List.set_cons_zero, List.set_cons_succ])
                                    refine wpAnyH_take (i := 14) (v := ?_) rfl (by kernel_rfl) (by kernel_rfl) (by kernel_rfl) (fun _ _ _ h => h) (Or.inl ⟨by kernel_rfl, ?_⟩) (by assumption) ?_
                                    rotate_left 1
                                    · intro w hSw; (try dsimp only at hSw); go_simp; (try with_reducible rfl)
                                    (try simp only [Act.put, List.getElem_toArray, List.getElem_cons_zero, List.getElem_cons_succ, List.setIfInBounds_toArray, List.set_cons_zero, List.set_cons_succ])
                                    refine wpAnyH_ready (rs := [15]) (by kernel_rfl) (by simp) ?_
                                    refine AllReadyH.cons rfl (fun K hK => ?_) AllReadyH.nil
                                    refine' upd_stepB E _ (by rfl) _ _ _ 217 (by rfl) Try.underlying217 (w.heap.size + 1) (kvW ws) ((j : Int), nc) (encW ⟨td, A9, m + 1, c9, false⟩) (by rfl) (by rw [E1.out]; rfl) (by rfl) ?aM ?aN (by rw [E2.out]; exact okT_in HOK.out.n8 HI2.out) ?_
                                    (case aM => exact (MM15.out.fd.below (by repeat (first | exact BB9.out | apply below_drew1))).map)
                                    (case aN => exact (MM15.out.fd.below (by repeat (first | exact BB9.out | apply below_drew1))).brn)
                                    intro w10 hM10 hB10 ht10
                                    have M9 := Aside0.mk (MM15.out.below BB9.out)
                                    have M10 := Aside0.mk (WtM.put (v := ⟨t, A, m, cc, true⟩) (W' := w10) (d := d) (A' := A9) (c' := c9) (xs := xs ++ [((d : Int), (k : Int))]) (B := w15.heap.size) M9.out HOK.out HI2.out HSP.out hlt HOR.out (Nat.le_trans MM15.out.fd.lo MM15.out.fd.hi) HL9.out.symm O9.out ZB.out.1 ZB.out.2.1 (by rw [HTD.out] at hM10; exact hM10) hB10 ⟨ht10.os, ht10.tape, ht10.output, ht10.size, ht10.block⟩)
                                    have X1010 := Aside0.mk (blk_turned (blk_below X1015.out BB9.out) ht10 ZB.out.2.2.1)
                                    have X1310 := blk_turned (blk_below X1315.out BB9.out) ht10 ZB.out.2.2.2
                                    have HS10 := Aside0.mk (show (fun W' => W'.cell? ⟨b13, 0, none⟩ = some (.int .i64 (j : Int)) ∧ W'.cell? ⟨b13, 1, none⟩ = some (.int .i64 nc) ∧ W'.cell? ⟨b8, 0, none⟩ = some (.int .i64 t) ∧ W'.cell? ⟨b8, 1, none⟩ = some (.slice A m cc)) w10 from ⟨(blk_cell X1310 0).trans rfl, (blk_cell X1310 1).trans rfl, (blk_cell M10.out.x8 0).trans rfl, (blk_cell M10.out.x8 1).trans rfl⟩)
                                    clear hM10 hB10 ht10 X1310
                                    (try go_simp)
                                    refine hK.out _ _ ?_ (fun hHeld => ?_)
                                    · (try dsimp only); (first | exact HS10.out | exact HMS.out _ (by repeat (first | exact BB9.out | exact BN.out | exact Below.refl _ _ | apply below_drew1 | apply below_alloc)) | fail)
                                    clear hK K
                                    (try simp only [Act.put, List.getElem_toArray, List.getElem_cons_zero, List.getElem_cons_succ, List.setIfInBounds_toArray, List.set_cons_zero, List.set_cons_succ])
                                    refine wpAnyH_done (by kernel_rfl) ?_ _
                                    have HN := Aside0.mk (HSN.out _ (MoreW.put ws ((j : Int), nc) ⟨t + d, A9, m + 1, c9, false⟩) (fun _ _ => by rw [HNX.out, lkW_put, if_pos rfl]; rfl))
                                    have HT2 := Aside0.mk (fun d' hd' => (TT.out d' hd').more (MoreW.put ws ((j : Int), nc) ⟨t + d, A9, m + 1, c9, false⟩))
                                    go_wp2
                                    go_roundg (ed.length - (k + 1))
                                    case measure => exact HME.out
                                    case rel => exact ⟨k + 1, _, _, hlk, Nat.le_refl _, by go_num, (by first | exact M10 | exact ⟨M10.out.below (below_drew1 (Below.refl _ _))⟩), (by first | exact X1010 | exact ⟨X1010.out⟩), HT2, HN⟩
                                  · rw [if_pos (by kernel_rfl)]
                                    go_simp
                                    (try go_simp)
                                    refine hK.out _ _ ?_ (fun hHeld => ?_)
                                    · (try dsimp only); (first | exact HS10.out | exact HMS.out _ (by repeat (first | exact BB9.out | exact BN.out | exact Below.refl _ _ | apply below_drew1 | apply below_alloc)) | fail)
                                    clear hK K
                                    (try simp only [Act.put, List.getElem_toArray, List.getElem_cons_zero, List.getElem_cons_succ, List.setIfInBounds_toArray, List.set_cons_zero, List.set_cons_succ])
                                    refine wpAnyH_ready (rs := [8]) (by kernel_rfl) (by simp) ?_
                                    refine AllReadyH.cons rfl (fun K hK => ?_) AllReadyH.nil
                                    rw [if_pos (by kernel_rfl)]
                                    go_simp
                                    go_at_call 175
                                    refine calls_let ?_
                                    intro Wc hWc
                                    have BC := Aside0.mk (show Below w15.heap.size w15 Wc from by rw [hWc]; repeat (first | exact Below.refl _ _ | apply below_drew1 | apply below_alloc))
                                    have l0 : Wc.cell? ⟨w15.heap.size, 0, none⟩ = some (.int .i64 (d : Int)) := by rw [hWc]; go_simp
                                    have l1 : Wc.cell? ⟨w15.heap.size, 1, none⟩ = some (.int .i64 (k : Int)) := by rw [hWc]; go_simp
                                    clear hWc
                                    refine (clone_lg' A m cc xs Wc HXS.out (Kd.C_below HXC.out BC.out) (by have := HML.out; omega)).mono ?_
                                    rintro e' wn ⟨Ac, c4, rfl, hoc, hbc⟩
                                    have n0 := pw_cell_below hbc l0
                                    have n1 := pw_cell_below hbc l1
                                    have OC := Aside0.mk (Kd.R_lower hoc BC.out.size)
                                    have BN := Aside0.mk (below_step BC.out hbc)
                                    clear hoc hbc BC l0 l1
                                    (try go_simp)
                                    refine hK.out _ _ ?_ (fun hHeld => ?_)
                                    · (try dsimp only); (first | exact HS10.out | exact HMS.out _ (by repeat (first | exact BB9.out | exact BN.out | exact Below.refl _ _ | apply below_drew1 | apply below_alloc)) | fail)
                                    clear hK K
                                    (try simp only [Act.put, List.getElem_toArray, List.getElem_cons_zero, List.getElem_cons_succ, List.setIfInBounds_toArray, List.set_cons_zero, List.set_cons_succ])
                                    refine wpAnyH_ready (rs := [13]) (by kernel_rfl) (by simp) ?_
                                    refine AllReadyH.cons rfl (fun K hK => ?_) AllReadyH.nil
                                    refine' Kd.R_append_rows_step kLg (w0 := w15) w15.heap.size (by rfl) _ _ 28 274 (.agg #[.int .i64 0, .int .i64 0]) 16 rfl Try.underlying28 info_lg rfl (by decide) (by decide) (.slice Ac m c4) xs [((d : Int), (k : Int))] (some ⟨_, 0, none⟩) 1 1 (fun _ => True) (fun _ => False) (by rfl) (by rfl) ?aO ?aC (fun _ _ h => h) (fun _ h => h.elim) (fun _ _ => trivial) ?aB ?aS ?aL ?_
                                    (case aO => exact Kd.R_below OC.out (by repeat (first | exact Below.refl _ _ | apply below_drew1 | apply below_alloc)))
                                    (case aC => exact lit_lg (by go_simp) (by go_simp))
                                    (case aB => repeat (first | exact BN.out | apply below_drew1 | apply below_alloc))
                                    (case aS => exact (show Below w15.heap.size w15 _ from by repeat (first | exact BN.out | apply below_drew1 | apply below_alloc)).size)
                                    (case aL => have := HML.out; have := HXS.out; omega)
                                    intro v9 w9 hown hb9 hg9 hat9
                                    obtain ⟨A9, c9, ev9⟩ := Kd.R_slice hown
                                    subst ev9
                                    have hl9 : (xs ++ [((d : Int), (k : Int))]).length = m + 1 := by rw [List.length_append, ← HXS.out]; rfl
                                    rw [hl9] at hown ⊢
                                    have O9 := Aside0.mk hown
                                    have HL9 := Aside0.mk hl9
                                    have BB9 := Aside0.mk hb9
                                    clear hown hb9 hg9 hat9 hl9
                                    (try go_simp)
                                    refine hK.out _ _ ?_ (fun hHeld => ?_)
                                    · (try dsimp only); (first | exact HS10.out | exact HMS.out _ (by repeat (first | exact BB9.out | exact BN.out | exact Below.refl _ _ | apply below_drew1 | apply below_alloc)) | fail)
                                    clear hK K
                                    (try simp only [Act.put, List.getElem_toArray, List.getElem_cons_zero, List.getElem_cons_succ, List.setIfInBounds_toArray, List.set_cons_zero, List.set_cons_succ])
                                    refine wpAnyH_take (i := 14) (v := ?_) rfl (by kernel_rfl) (by kernel_rfl) (by kernel_rfl) (fun _ _ _ h => h) (Or.inl ⟨by kernel_rfl, ?_⟩) (by assumption) ?_
                                    rotate_left 1
                                    · intro w hSw; (try dsimp only at hSw); go_simp; (try with_reducible rfl)
                                    (try simp only [Act.put, List.getElem_toArray, List.getElem_cons_zero, List.getElem_cons_succ, List.setIfInBounds_toArray, List.set_cons_zero, List.set_cons_succ])
                                    refine wpAnyH_ready (rs := [15]) (by kernel_rfl) (by simp) ?_
                                    refine AllReadyH.cons rfl (fun K hK => ?_) AllReadyH.nil
                                    refine' upd_stepB E _ (by rfl) _ _ _ 217 (by rfl) Try.underlying217 (w.heap.size + 1) (kvW ws) ((j : Int), nc) (encW ⟨td, A9, m + 1, c9, false⟩) (by rfl) (by rw [E1.out]; rfl) (by rfl) ?aM ?aN (by rw [E2.out]; exact okT_in HOK.out.n8 HI2.out) ?_
                                    (case aM => exact (MM15.out.fd.below (by repeat (first | exact BB9.out | apply below_drew1))).map)
                                    (case aN => exact (MM15.out.fd.below (by repeat (first | exact BB9.out | apply below_drew1))).brn)
                                    intro w10 hM10 hB10 ht10
                                    have M9 := Aside0.mk (MM15.out.below BB9.out)
                                    have M10 := Aside0.mk (WtM.put (v := ⟨t, A, m, cc, true⟩) (W' := w10) (d := d) (A' := A9) (c' := c9) (xs := xs ++ [((d : Int), (k : Int))]) (B := w15.heap.size) M9.out HOK.out HI2.out HSP.out hlt HOR.out (Nat.le_trans MM15.out.fd.lo MM15.out.fd.hi) HL9.out.symm O9.out ZB.out.1 ZB.out.2.1 (by rw [HTD.out] at hM10; exact hM10) hB10 ⟨ht10.os, ht10.tape, ht10.output, ht10.size, ht10.block⟩)
                                    have X1010 := Aside0.mk (blk_turned (blk_below X1015.out BB9.out) ht10 ZB.out.2.2.1)
                                    have X1310 := blk_turned (blk_below X1315.out BB9.out) ht10 ZB.out.2.2.2
                                    have HS10 := Aside0.mk (show (fun W' => W'.cell? ⟨b13, 0, none⟩ = some (.int .i64 (j : Int)) ∧ W'.cell? ⟨b13, 1, none⟩ = some (.int .i64 nc) ∧ W'.cell? ⟨b8, 0, none⟩ = some (.int .i64 t) ∧ W'.cell? ⟨b8, 1, none⟩ = some (.slice A m cc)) w10 from ⟨(blk_cell X1310 0).trans rfl, (blk_cell X1310 1).trans rfl, (blk_cell M10.out.x8 0).trans rfl, (blk_cell M10.out.x8 1).trans rfl⟩)
                                    clear hM10 hB10 ht10 X1310
                                    (try go_simp)
                                    refine hK.out _ _ ?_ (fun hHeld => ?_)
                                    · (try dsimp only); (first | exact HS10.out | exact HMS.out _ (by repeat (first | exact BB9.out | exact BN.out | exact Below.refl _ _ | apply below_drew1 | apply below_alloc)) | fail)
                                    clear hK K
                                    (try simp only [Act.put, List.getElem_toArray, List.getElem_cons_zero, List.getElem_cons_succ, List.setIfInBounds_toArray, List.set_cons_zero, List.set_cons_succ])
                                    refine wpAnyH_done (by kernel_rfl) ?_ _
                                    have HN := Aside0.mk (HSN.out _ (MoreW.put ws ((j : Int), nc) ⟨t + d, A9, m + 1, c9, false⟩) (fun _ _ => by rw [HNX.out, lkW_put, if_pos rfl]; rfl))
                                    have HT2 := Aside0.mk (fun d' hd' => (TT.out d' hd').more (MoreW.put ws ((j : Int), nc) ⟨t + d, A9, m + 1, c9, false⟩))
                                    go_wp2
                                    go_roundg (ed.length - (k + 1))
                                    case measure => exact HME.out
                                    case rel => exact ⟨k + 1, _, _, hlk, Nat.le_refl _, by go_num, (by first | exact M10 | exact ⟨M10.out.below (below_drew1 (Below.refl _ _))⟩), (by first | exact X1010 | exact ⟨X1010.out⟩), HT2, HN⟩
                              | some v2 =>
                                obtain ⟨t2, A2, n2, c2, d2⟩ := v2
                                rw [hl] at hlk2
                                simp only [Option.getD_some, Option.isSome_some] at hlk2
                                have B14 := Aside0.mk (below_alloc (Below.refl W13.heap.size W13) (.cells #[.int .i64 t2, .slice A2 n2 c2, .bool d2] 127))
                                have X14 := Aside0.mk (blk_new W13 (.cells #[.int .i64 t2, .slice A2 n2 c2, .bool d2] 127 (0, 0)))
                                have HMY := Aside0.mk (may_spot SA (some ad) cs ed.length ce st g nc j _ (Kd.C_below HS.out (below_step MM13.out.fd.bel B14.out)) hjlt HOK.out.sv)
                                have HLS := Aside0.mk hl
                                cases hm : mayS st ((j : Int), nc) with
                                | false =>
                                  rw [hm] at HMY
                                  have HN := Aside0.mk (HSN.out ws (fun _ h => h) (fun _ h => by rw [HNX.out, hm] at h; cases h))
                                  clear hl hm
                                  go_wp2_with (go_at_call 174; refine HMY.out.mono ?_; rintro e' w15 ⟨rfl, hb15⟩; have B15 := Aside0.mk (below_step B14.out hb15); clear hb15)
                                  go_roundg (ed.length - (k + 1))
                                  case measure => exact HME.out
                                  case rel => exact ⟨k + 1, ws, u, hlk, Nat.le_refl _, by go_num, ⟨MM13.out.below B15.out⟩, ⟨blk_below X1013.out B15.out⟩, TT, HN⟩
                                | true =>
                                  rw [hm] at HMY
                                  have HSP := Aside0.mk (show TReach st ed ((j : Int), nc) from by have := HSTEP.out HSF.out (by rw [HNX.out]; exact hm); rwa [HNX.out] at this)
                                  by_cases ht : td < t2
                                  · have HOR := Aside0.mk (show lkW ws ((j : Int), nc) = none ∨ ∃ v, lkW ws ((j : Int), nc) = some v ∧ t + (d : Int) < v.t from .inr ⟨_, hl, by rw [← HTD.out]; exact ht⟩)
                                    have ht' : decide (td < t2) = true := decide_eq_true ht
                                    clear hl hm ht
                                    go_wp2_with (go_at_call 174; refine HMY.out.mono ?_; rintro e' w15 ⟨rfl, hb15⟩; have B15 := Aside0.mk (below_step B14.out hb15); have q14 : w15.cell? ⟨W13.heap.size, 0, none⟩ = some (.int .i64 t2) := (blk_cell (blk_below X14.out hb15) 0).trans rfl; have q8 : w15.cell? ⟨b8, 0, none⟩ = some (.int .i64 t) := (blk_cell (blk_below MM13.out.x8 B15.out) 0).trans rfl; clear hb15)
                                    have MM15 := Aside0.mk (MM13.out.below B15.out)
                                    have X1015 := Aside0.mk (blk_below X1013.out B15.out)
                                    have X1315 := Aside0.mk (blk_below X13.out B15.out)
                                    obtain ⟨xs, hxs, hxl⟩ := MM15.out.lg
                                    simp only [] at hxs hxl
                                    have HXS := Aside0.mk hxs
                                    have HXC := Aside0.mk hxl.reads.2.2
                                    have HML := Aside0.mk (show m < 1000001 from by have := MM15.out.ln; simp only [] at this; omega)
                                    have p0 : w15.cell? ⟨b13, 0, none⟩ = some (.int .i64 (j : Int)) := (blk_cell X1315.out 0).trans rfl
                                    have p1 : w15.cell? ⟨b13, 1, none⟩ = some (.int .i64 nc) := (blk_cell X1315.out 1).trans rfl
                                    have p2 : w15.cell? ⟨b8, 0, none⟩ = some (.int .i64 t) := (blk_cell MM15.out.x8 0).trans rfl
                                    have p3 : w15.cell? ⟨b8, 1, none⟩ = some (.slice A m cc) := (blk_cell MM15.out.x8 1).trans rfl
                                    have HMS := Aside0.mk (show ∀ W', Below w15.heap.size w15 W' → (fun W' => W'.cell? ⟨b13, 0, none⟩ = some (.int .i64 (j : Int)) ∧ W'.cell? ⟨b13, 1, none⟩ = some (.int .i64 nc) ∧ W'.cell? ⟨b8, 0, none⟩ = some (.int .i64 t) ∧ W'.cell? ⟨b8, 1, none⟩ = some (.slice A m cc)) W' from fun W' hb => ⟨pw_cell_below hb p0, pw_cell_below hb p1, pw_cell_below hb p2, pw_cell_below hb p3⟩)
                                    have ZB := Aside0.mk (show b4 ≠ w.heap.size + 1 ∧ b8 ≠ w.heap.size + 1 ∧ b10 ≠ w.heap.size + 1 ∧ b13 ≠ w.heap.size + 1 from by
                                      obtain ⟨es, ck, hmp, _⟩ := MM15.out.fd.ents
                                      refine ⟨fun e => ?_, fun e => ?_, fun e => ?_, fun e => ?_⟩
                                      · have := MM15.out.x4; rw [e, hmp] at this; injection this with this; cases this
                                      · have := MM15.out.x8; rw [e, hmp] at this; injection this with this; cases this
                                      · have := X1015.out; rw [e, hmp] at this; injection this with this; cases this
                                      · have := X1315.out; rw [e, hmp] at this; injection this with this; cases this)
                                    clear hxs hxl
                                    refine wp_region_held_drew (S := (fun W' => W'.cell? ⟨b13, 0, none⟩ = some (.int .i64 (j : Int)) ∧ W'.cell? ⟨b13, 1, none⟩ = some (.int .i64 nc) ∧ W'.cell? ⟨b8, 0, none⟩ = some (.int .i64 t) ∧ W'.cell? ⟨b8, 1, none⟩ = some (.slice A m cc))) (by kernel_rfl) ?_ (fun hHeld => ?_)
                                    · (try dsimp only); (first | exact HS10.out | exact HMS.out _ (by repeat (first | exact BB9.out | exact BN.out | exact Below.refl _ _ | apply below_drew1 | apply below_alloc)) | fail)
                                    refine wpAnyH_take (i := 0) (v := ?_) rfl (by kernel_rfl) (by kernel_rfl) (by kernel_rfl) (fun _ _ _ h => h) (Or.inl ⟨by kernel_rfl, ?_⟩) (by assumption) ?_
                                    rotate_left 1
                                    · intro w hSw; (try dsimp only at hSw); go_simp; (try with_reducible rfl)
                                    (try simp only [Act.put, List.getElem_toArray, List.getElem_cons_zero, List.getElem_cons_succ, List.setIfInBounds_toArray, List.set_cons_zero, List.set_cons_succ])
                                    refine wpAnyH_take (i := 1) (v := ?_) rfl (by kernel_rfl) (by kernel_rfl) (by kernel_rfl) (fun _ _ _ h => h) (Or.inl ⟨by kernel_rfl, ?_⟩) (by assumption) ?_
                                    rotate_left 1
                                    · intro w hSw; (try dsimp only at hSw); go_simp; (try with_reducible rfl)
                                    (try simp only [Act.put, List.getElem_toArray, List.getElem_cons_zero, List.getElem_cons_succ, List.setIfInBounds_toArray, List.set_cons_zero, List.set_cons_succ])
                                    refine wpAnyH_take (i := 2) (v := ?_) rfl (by kernel_rfl) (by kernel_rfl) (by kernel_rfl) (fun _ _ _ h => h) (Or.inl ⟨by kernel_rfl, ?_⟩) (by assumption) ?_
                                    rotate_left 1
                                    · intro w hSw; (try dsimp only at hSw); go_simp; (try with_reducible rfl)
                                    (try simp only [Act.put, List.getElem_toArray, List.getElem_cons_zero, List.getElem_cons_succ, List.setIfInBounds_toArray, List.set_cons_zero, List.set_cons_succ])
                                    refine wpAnyH_take (i := 3) (v := ?_) rfl (by kernel_rfl) (by kernel_rfl) (by kernel_rfl) (fun _ _ _ h => h) (Or.inl ⟨by kernel_rfl, ?_⟩) (by assumption) ?_
                                    rotate_left 1
                                    · intro w hSw; (try dsimp only at hSw); go_simp; (try with_reducible rfl)
                                    (try simp only [Act.put, List.getElem_toArray, List.getElem_cons_zero, List.getElem_cons_succ, List.setIfInBounds_toArray, List.set_cons_zero, List.set_cons_succ])
                                    refine wpAnyH_take (i := 4) (v := ?_) rfl (by kernel_rfl) (by kernel_rfl) (by kernel_rfl) (fun _ _ _ h => h) (Or.inl ⟨by kernel_rfl, ?_⟩) (by assumption) ?_
                                    rotate_left 1
                                    · intro w hSw; (try dsimp only at hSw); go_simp; (try with_reducible rfl)
                                    (try simp only [Act.put, List.getElem_toArray, List.getElem_cons_zero, List.getElem_cons_succ, List.setIfInBounds_toArray, List.set_cons_zero, List.set_cons_succ])
                                    refine wpAnyH_take (i := 5) (v := ?_) rfl (by kernel_rfl) (by kernel_rfl) (by kernel_rfl) (fun _ _ _ h => h) (Or.inl ⟨by kernel_rfl, ?_⟩) (by assumption) ?_
                                    rotate_left 1
                                    · intro w hSw; (try dsimp only at hSw); go_simp; (try with_reducible rfl)
                                    (try simp only [Act.put, List.getElem_toArray, List.getElem_cons_zero, List.getElem_cons_succ, List.setIfInBounds_toArray, List.set_cons_zero, List.set_cons_succ])
                                    refine wpAnyH_take (i := 6) (v := ?_) rfl (by kernel_rfl) (by kernel_rfl) (by kernel_rfl) (fun _ _ _ h => h) (Or.inl ⟨by kernel_rfl, ?_⟩) (by assumption) ?_
                                    rotate_left 1
                                    · intro w hSw; (try dsimp only at hSw); go_simp; (try with_reducible rfl)
                                    (try simp only [Act.put, List.getElem_toArray, List.getElem_cons_zero, List.getElem_cons_succ, List.setIfInBounds_toArray, List.set_cons_zero, List.set_cons_succ])
                                    refine wpAnyH_take (i := 7) (v := ?_) rfl (by kernel_rfl) (by kernel_rfl) (by kernel_rfl) (fun _ _ _ h => h) (Or.inl ⟨by kernel_rfl, ?_⟩) (by assumption) ?_
                                    rotate_left 1
                                    · intro w hSw; (try dsimp only at hSw); go_simp; (try with_reducible rfl)
                                    (try simp only [Act.put, List.getElem_toArray, List.getElem_cons_zero, List.getElem_cons_succ, List.setIfInBounds_toArray, List.set_cons_zero, List.set_cons_succ])
                                    refine wpAnyH_take (i := 9) (v := ?_) rfl (by kernel_rfl) (by kernel_rfl) (by kernel_rfl) (fun _ _ _ h => h) (Or.inl ⟨by kernel_rfl, ?_⟩) (by assumption) ?_
                                    rotate_left 1
                                    · intro w hSw; (try dsimp only at hSw); go_simp; (try with_reducible rfl)
                                    (try simp only [Act.put, List.getElem_toArray, List.getElem_cons_zero, List.getElem_cons_succ, List.setIfInBounds_toArray, List.set_cons_zero, List.set_cons_succ])
                                    refine wpAnyH_take (i := 10) (v := ?_) rfl (by kernel_rfl) (by kernel_rfl) (by kernel_rfl) (fun _ _ _ h => h) (Or.inl ⟨by kernel_rfl, ?_⟩) (by assumption) ?_
                                    rotate_left 1
                                    · intro w hSw; (try dsimp only at hSw); go_simp; (try with_reducible rfl)
                                    (try simp only [Act.put, List.getElem_toArray, List.getElem_cons_zero, List.getElem_cons_succ, List.setIfInBounds_toArray, List.set_cons_zero, List.set_cons_succ])
                                    refine wpAnyH_take (i := 11) (v := ?_) rfl (by kernel_rfl) (by kernel_rfl) (by kernel_rfl) (fun _ _ _ h => h) (Or.inl ⟨by kernel_rfl, ?_⟩) (by assumption) ?_
                                    rotate_left 1
                                    · intro w hSw; (try dsimp only at hSw); go_simp; (try with_reducible rfl)
                                    (try simp only [Act.put, List.getElem_toArray, List.getElem_cons_zero, List.getElem_cons_succ, List.setIfInBounds_toArray, List.set_cons_zero, List.set_cons_succ])
                                    refine wpAnyH_ready (rs := [8, 12]) (by kernel_rfl) (by simp) ?_
                                    refine AllReadyH.cons rfl (fun K hK => ?_) (AllReadyH.cons rfl (fun K hK => ?_) AllReadyH.nil)
                                    · rw [if_pos (by kernel_rfl)]
                                      go_simp
                                      go_at_call 175
                                      refine calls_let ?_
                                      intro Wc hWc
                                      have BC := Aside0.mk (show Below w15.heap.size w15 Wc from by rw [hWc]; repeat (first | exact Below.refl _ _ | apply below_drew1 | apply below_alloc))
                                      clear hWc
                                      refine (clone_lg' A m cc xs Wc HXS.out (Kd.C_below HXC.out BC.out) (by have := HML.out; omega)).mono ?_
                                      rintro e' wn ⟨Ac, c4, rfl, hoc, hbc⟩
                                      have OC := Aside0.mk (Kd.R_lower hoc BC.out.size)
                                      have BN := Aside0.mk (below_step BC.out hbc)
                                      clear hoc hbc BC
                                      (try go_simp)
                                      refine hK.out _ _ ?_ (fun hHeld => ?_)
                                      · (try dsimp only); (first | exact HS10.out | exact HMS.out _ (by repeat (first | exact BB9.out | exact BN.out | exact Below.refl _ _ | apply below_drew1 | apply below_alloc)) | fail)
                                      clear hK K
                                      (try simp only [Act.put, List.getElem_toArray, List.getElem_cons_zero, List.getElem_cons_succ, List.setIfInBounds_toArray, List.set_cons_zero, List.set_cons_succ])
                                      refine wpAnyH_ready (rs := [12]) (by kernel_rfl) (by simp) ?_
                                      refine AllReadyH.cons rfl (fun K hK => ?_) AllReadyH.nil
                                      rw [if_pos (by kernel_rfl)]
                                      go_simp
                                      (try go_simp)
                                      refine hK.out _ _ ?_ (fun hHeld => ?_)
                                      · (try dsimp only); (first | exact HS10.out | exact HMS.out _ (by repeat (first | exact BB9.out | exact BN.out | exact Below.refl _ _ | apply below_drew1 | apply below_alloc)) | fail)
                                      clear hK K
                                      (try simp only [Act.put, List.getElem_toArray, List.getElem_cons_zero, List.getElem_cons_succ, List.setIfInBounds_toArray, List.set_cons_zero, List.set_cons_succ])
                                      refine wpAnyH_ready (rs := [13]) (by kernel_rfl) (by simp) ?_
                                      refine AllReadyH.cons rfl (fun K hK => ?_) AllReadyH.nil
                                      refine' Kd.R_append_rows_step kLg (w0 := w15) w15.heap.size (by rfl) _ _ 28 274 (.agg #[.int .i64 0, .int .i64 0]) 16 rfl Try.underlying28 info_lg rfl (by decide) (by decide) (.slice Ac m c4) xs [((d : Int), (k : Int))] (some ⟨_, 0, none⟩) 1 1 (fun _ => True) (fun _ => False) (by rfl) (by rfl) ?aO ?aC (fun _ _ h => h) (fun _ h => h.elim) (fun _ _ => trivial) ?aB ?aS ?aL ?_
                                      (case aO => exact Kd.R_below OC.out (by repeat (first | exact Below.refl _ _ | apply below_drew1 | apply below_alloc)))
                                      (case aC => exact lit_lg (by go_simp) (by go_simp))
                                      (case aB => repeat (first | exact BN.out | apply below_drew1 | apply below_alloc))
                                      (case aS => exact (show Below w15.heap.size w15 _ from by repeat (first | exact BN.out | apply below_drew1 | apply below_alloc)).size)
                                      (case aL => have := HML.out; have := HXS.out; omega)
                                      intro v9 w9 hown hb9 hg9 hat9
                                      obtain ⟨A9, c9, ev9⟩ := Kd.R_slice hown
                                      subst ev9
                                      have hl9 : (xs ++ [((d : Int), (k : Int))]).length = m + 1 := by rw [List.length_append, ← HXS.out]; rfl
                                      rw [hl9] at hown ⊢
                                      have O9 := Aside0.mk hown
                                      have HL9 := Aside0.mk hl9
                                      have BB9 := Aside0.mk hb9
                                      clear hown hb9 hg9 hat9 hl9
                                      (try go_simp)
                                      refine hK.out _ _ ?_ (fun hHeld => ?_)
                                      · (try dsimp only); (first | exact HS10.out | exact HMS.out _ (by repeat (first | exact BB9.out | exact BN.out | exact Below.refl _ _ | apply below_drew1 | apply below_alloc)) | fail)
                                      clear hK K
                                      (try simp only [Act.put, List.getElem_toArray, List.getElem_cons_zero, List.getElem_cons_succ, List.setIfInBounds_toArray, List.set_cons_zero, List.set_cons_succ])
                                      refine wpAnyH_take (i := 14) (v := ?_) rfl (by kernel_rfl) (by kernel_rfl) (by kernel_rfl) (fun _ _ _ h => h) (Or.inl ⟨by kernel_rfl, ?_⟩) (by assumption) ?_
                                      rotate_left 1
                                      · intro w hSw; (try dsimp only at hSw); go_simp; (try with_reducible rfl)
                                      (try simp only [Act.put, List.getElem_toArray, List.getElem_cons_zero, List.getElem_cons_succ, List.setIfInBounds_toArray, List.set_cons_zero, List.set_cons_succ])
                                      refine wpAnyH_ready (rs := [15]) (by kernel_rfl) (by simp) ?_
                                      refine AllReadyH.cons rfl (fun K hK => ?_) AllReadyH.nil
                                      refine' upd_stepB E _ (by rfl) _ _ _ 217 (by rfl) Try.underlying217 (w.heap.size + 1) (kvW ws) ((j : Int), nc) (encW ⟨td, A9, m + 1, c9, false⟩) (by rfl) (by rw [E1.out]; rfl) (by rfl) ?aM ?aN (by rw [E2.out]; exact okT_in HOK.out.n8 HI2.out) ?_
                                      (case aM => exact (MM15.out.fd.below (by repeat (first | exact BB9.out | apply below_drew1))).map)
                                      (case aN => exact (MM15.out.fd.below (by repeat (first | exact BB9.out | apply below_drew1))).brn)
                                      intro w10 hM10 hB10 ht10
                                      have M9 := Aside0.mk (MM15.out.below BB9.out)
                                      have M10 := Aside0.mk (WtM.put (v := ⟨t, A, m, cc, true⟩) (W' := w10) (d := d) (A' := A9) (c' := c9) (xs := xs ++ [((d : Int), (k : Int))]) (B := w15.heap.size) M9.out HOK.out HI2.out HSP.out hlt HOR.out (Nat.le_trans MM15.out.fd.lo MM15.out.fd.hi) HL9.out.symm O9.out ZB.out.1 ZB.out.2.1 (by rw [HTD.out] at hM10; exact hM10) hB10 ⟨ht10.os, ht10.tape, ht10.output, ht10.size, ht10.block⟩)
                                      have X1010 := Aside0.mk (blk_turned (blk_below X1015.out BB9.out) ht10 ZB.out.2.2.1)
                                      have X1310 := blk_turned (blk_below X1315.out BB9.out) ht10 ZB.out.2.2.2
                                      have HS10 := Aside0.mk (show (fun W' => W'.cell? ⟨b13, 0, none⟩ = some (.int .i64 (j : Int)) ∧ W'.cell? ⟨b13, 1, none⟩ = some (.int .i64 nc) ∧ W'.cell? ⟨b8, 0, none⟩ = some (.int .i64 t) ∧ W'.cell? ⟨b8, 1, none⟩ = some (.slice A m cc)) w10 from ⟨(blk_cell X1310 0).trans rfl, (blk_cell X1310 1).trans rfl, (blk_cell M10.out.x8 0).trans rfl, (blk_cell M10.out.x8 1).trans rfl⟩)
                                      clear hM10 hB10 ht10 X1310
                                      (try go_simp)
                                      refine hK.out _ _ ?_ (fun hHeld => ?_)
                                      · (try dsimp only); (first | exact HS10.out | exact HMS.out _ (by repeat (first | exact BB9.out | exact BN.out | exact Below.refl _ _ | apply below_drew1 | apply below_alloc)) | fail)
                                      clear hK K
                                      (try simp only [Act.put, List.getElem_toArray, List.getElem_cons_zero, List.getElem_cons_succ, List.setIfInBounds_toArray, List.set_cons_zero, List.set_cons_succ])
                                      refine wpAnyH_done (by kernel_rfl) ?_ _
                                      have HN := Aside0.mk (HSN.out _ (MoreW.put ws ((j : Int), nc) ⟨t + d, A9, m + 1, c9, false⟩) (fun _ _ => by rw [HNX.out, lkW_put, if_pos rfl]; rfl))
                                      have HT2 := Aside0.mk (fun d' hd' => (TT.out d' hd').more (MoreW.put ws ((j : Int), nc) ⟨t + d, A9, m + 1, c9, false⟩))
                                      go_wp2
                                      go_roundg (ed.length - (k + 1))
                                      case measure => exact HME.out
                                      case rel => exact ⟨k + 1, _, _, hlk, Nat.le_refl _, by go_num, (by first | exact M10 | exact ⟨M10.out.below (below_drew1 (Below.refl _ _))⟩), (by first | exact X1010 | exact ⟨X1010.out⟩), HT2, HN⟩
                                    · rw [if_pos (by kernel_rfl)]
                                      go_simp
                                      (try go_simp)
                                      refine hK.out _ _ ?_ (fun hHeld => ?_)
                                      · (try dsimp only); (first | exact HS10.out | exact HMS.out _ (by repeat (first | exact BB9.out | exact BN.out | exact Below.refl _ _ | apply below_drew1 | apply below_alloc)) | fail)
                                      clear hK K
                                      (try simp only [Act.put, List.getElem_toArray, List.getElem_cons_zero, List.getElem_cons_succ, List.setIfInBounds_toArray, List.set_cons_zero, List.set_cons_succ])
                                      refine wpAnyH_ready (rs := [8]) (by kernel_rfl) (by simp) ?_
                                      refine AllReadyH.cons rfl (fun K hK => ?_) AllReadyH.nil
                                      rw [if_pos (by kernel_rfl)]
                                      go_simp
                                      go_at_call 175
                                      refine calls_let ?_
                                      intro Wc hWc
                                      have BC := Aside0.mk (show Below w15.heap.size w15 Wc from by rw [hWc]; repeat (first | exact Below.refl _ _ | apply below_drew1 | apply below_alloc))
                                      have l0 : Wc.cell? ⟨w15.heap.size, 0, none⟩ = some (.int .i64 (d : Int)) := by rw [hWc]; go_simp
                                      have l1 : Wc.cell? ⟨w15.heap.size, 1, none⟩ = some (.int .i64 (k : Int)) := by rw [hWc]; go_simp
                                      clear hWc
                                      refine (clone_lg' A m cc xs Wc HXS.out (Kd.C_below HXC.out BC.out) (by have := HML.out; omega)).mono ?_
                                      rintro e' wn ⟨Ac, c4, rfl, hoc, hbc⟩
                                      have n0 := pw_cell_below hbc l0
                                      have n1 := pw_cell_below hbc l1
                                      have OC := Aside0.mk (Kd.R_lower hoc BC.out.size)
                                      have BN := Aside0.mk (below_step BC.out hbc)
                                      clear hoc hbc BC l0 l1
                                      (try go_simp)
                                      refine hK.out _ _ ?_ (fun hHeld => ?_)
                                      · (try dsimp only); (first | exact HS10.out | exact HMS.out _ (by repeat (first | exact BB9.out | exact BN.out | exact Below.refl _ _ | apply below_drew1 | apply below_alloc)) | fail)
                                      clear hK K
                                      (try simp only [Act.put, List.getElem_toArray, List.getElem_cons_zero, List.getElem_cons_succ, List.setIfInBounds_toArray, List.set_cons_zero, List.set_cons_succ])
                                      refine wpAnyH_ready (rs := [13]) (by kernel_rfl) (by simp) ?_
                                      refine AllReadyH.cons rfl (fun K hK => ?_) AllReadyH.nil
                                      refine' Kd.R_append_rows_step kLg (w0 := w15) w15.heap.size (by rfl) _ _ 28 274 (.agg #[.int .i64 0, .int .i64 0]) 16 rfl Try.underlying28 info_lg rfl (by decide) (by decide) (.slice Ac m c4) xs [((d : Int), (k : Int))] (some ⟨_, 0, none⟩) 1 1 (fun _ => True) (fun _ => False) (by rfl) (by rfl) ?aO ?aC (fun _ _ h => h) (fun _ h => h.elim) (fun _ _ => trivial) ?aB ?aS ?aL ?_
                                      (case aO => exact Kd.R_below OC.out (by repeat (first | exact Below.refl _ _ | apply below_drew1 | apply below_alloc)))
                                      (case aC => exact lit_lg (by go_simp) (by go_simp))
                                      (case aB => repeat (first | exact BN.out | apply below_drew1 | apply below_alloc))
                                      (case aS => exact (show Below w15.heap.size w15 _ from by repeat (first | exact BN.out | apply below_drew1 | apply below_alloc)).size)
                                      (case aL => have := HML.out; have := HXS.out; omega)
                                      intro v9 w9 hown hb9 hg9 hat9
                                      obtain ⟨A9, c9, ev9⟩ := Kd.R_slice hown
                                      subst ev9
                                      have hl9 : (xs ++ [((d : Int), (k : Int))]).length = m + 1 := by rw [List.length_append, ← HXS.out]; rfl
                                      rw [hl9] at hown ⊢
                                      have O9 := Aside0.mk hown
                                      have HL9 := Aside0.mk hl9
                                      have BB9 := Aside0.mk hb9
                                      clear hown hb9 hg9 hat9 hl9
                                      (try go_simp)
                                      refine hK.out _ _ ?_ (fun hHeld => ?_)
                                      · (try dsimp only); (first | exact HS10.out | exact HMS.out _ (by repeat (first | exact BB9.out | exact BN.out | exact Below.refl _ _ | apply below_drew1 | apply below_alloc)) | fail)
                                      clear hK K
                                      (try simp only [Act.put, List.getElem_toArray, List.getElem_cons_zero, List.getElem_cons_succ, List.setIfInBounds_toArray, List.set_cons_zero, List.set_cons_succ])
                                      refine wpAnyH_take (i := 14) (v := ?_) rfl (by kernel_rfl) (by kernel_rfl) (by kernel_rfl) (fun _ _ _ h => h) (Or.inl ⟨by kernel_rfl, ?_⟩) (by assumption) ?_
                                      rotate_left 1
                                      · intro w hSw; (try dsimp only at hSw); go_simp; (try with_reducible rfl)
                                      (try simp only [Act.put, List.getElem_toArray, List.getElem_cons_zero, List.getElem_cons_succ, List.setIfInBounds_toArray, List.set_cons_zero, List.set_cons_succ])
                                      refine wpAnyH_ready (rs := [15]) (by kernel_rfl) (by simp) ?_
                                      refine AllReadyH.cons rfl (fun K hK => ?_) AllReadyH.nil
                                      refine' upd_stepB E _ (by rfl) _ _ _ 217 (by rfl) Try.underlying217 (w.heap.size + 1) (kvW ws) ((j : Int), nc) (encW ⟨td, A9, m + 1, c9, false⟩) (by rfl) (by rw [E1.out]; rfl) (by rfl) ?aM ?aN (by rw [E2.out]; exact okT_in HOK.out.n8 HI2.out) ?_
                                      (case aM => exact (MM15.out.fd.below (by repeat (first | exact BB9.out | apply below_drew1))).map)
                                      (case aN => exact (MM15.out.fd.below (by repeat (first | exact BB9.out | apply below_drew1))).brn)
                                      intro w10 hM10 hB10 ht10
                                      have M9 := Aside0.mk (MM15.out.below BB9.out)
                                      have M10 := Aside0.mk (WtM.put (v := ⟨t, A, m, cc, true⟩) (W' := w10) (d := d) (A' := A9) (c' := c9) (xs := xs ++ [((d : Int), (k : Int))]) (B := w15.heap.size) M9.out HOK.out HI2.out HSP.out hlt HOR.out (Nat.le_trans MM15.out.fd.lo MM15.out.fd.hi) HL9.out.symm O9.out ZB.out.1 ZB.out.2.1 (by rw [HTD.out] at hM10; exact hM10) hB10 ⟨ht10.os, ht10.tape, ht10.output, ht10.size, ht10.block⟩)
                                      have X1010 := Aside0.mk (blk_turned (blk_below X1015.out BB9.out) ht10 ZB.out.2.2.1)
                                      have X1310 := blk_turned (blk_below X1315.out BB9.out) ht10 ZB.out.2.2.2
                                      have HS10 := Aside0.mk (show (fun W' => W'.cell? ⟨b13, 0, none⟩ = some (.int .i64 (j : Int)) ∧ W'.cell? ⟨b13, 1, none⟩ = some (.int .i64 nc) ∧ W'.cell? ⟨b8, 0, none⟩ = some (.int .i64 t) ∧ W'.cell? ⟨b8, 1, none⟩ = some (.slice A m cc)) w10 from ⟨(blk_cell X1310 0).trans rfl, (blk_cell X1310 1).trans rfl, (blk_cell M10.out.x8 0).trans rfl, (blk_cell M10.out.x8 1).trans rfl⟩)
                                      clear hM10 hB10 ht10 X1310
                                      (try go_simp)
                                      refine hK.out _ _ ?_ (fun hHeld => ?_)
                                      · (try dsimp only); (first | exact HS10.out | exact HMS.out _ (by repeat (first | exact BB9.out | exact BN.out | exact Below.refl _ _ | apply below_drew1 | apply below_alloc)) | fail)
                                      clear hK K
                                      (try simp only [Act.put, List.getElem_toArray, List.getElem_cons_zero, List.getElem_cons_succ, List.setIfInBounds_toArray, List.set_cons_zero, List.set_cons_succ])
                                      refine wpAnyH_done (by kernel_rfl) ?_ _
                                      have HN := Aside0.mk (HSN.out _ (MoreW.put ws ((j : Int), nc) ⟨t + d, A9, m + 1, c9, false⟩) (fun _ _ => by rw [HNX.out, lkW_put, if_pos rfl]; rfl))
                                      have HT2 := Aside0.mk (fun d' hd' => (TT.out d' hd').more (MoreW.put ws ((j : Int), nc) ⟨t + d, A9, m + 1, c9, false⟩))
                                      go_wp2
                                      go_roundg (ed.length - (k + 1))
                                      case measure => exact HME.out
                                      case rel => exact ⟨k + 1, _, _, hlk, Nat.le_refl _, by go_num, (by first | exact M10 | exact ⟨M10.out.below (below_drew1 (Below.refl _ _))⟩), (by first | exact X1010 | exact ⟨X1010.out⟩), HT2, HN⟩
                                  · have ht' : decide (td < t2) = false := decide_eq_false ht
                                    have HN := Aside0.mk (HSN.out ws (fun _ h => h) (fun _ h => by rw [HNX.out, hl]; rfl))
                                    clear hl hm ht
                                    go_wp2_with (go_at_call 174; refine HMY.out.mono ?_; rintro e' w15 ⟨rfl, hb15⟩; have B15 := Aside0.mk (below_step B14.out hb15); have q14 : w15.cell? ⟨W13.heap.size, 0, none⟩ = some (.int .i64 t2) := (blk_cell (blk_below X14.out hb15) 0).trans rfl; have q8 : w15.cell? ⟨b8, 0, none⟩ = some (.int .i64 t) := (blk_cell (blk_below MM13.out.x8 B15.out) 0).trans rfl; clear hb15)
                                    go_roundg (ed.length - (k + 1))
                                    case measure => exact HME.out
                                    case rel => exact ⟨k + 1, ws, u, hlk, Nat.le_refl _, by go_num, ⟨MM13.out.below B15.out⟩, ⟨blk_below X1013.out B15.out⟩, TT, HN⟩
                    · have hke : k = ed.length := by omega
                      subst hke
                      have HT2 := Aside0.mk (show ∀ d', d' < d + 1 → TookW st ed ws ((i : Int), c) d' ed.length from fun d' hd' => by
                        by_cases e : d' = d
                        · subst e; exact TK.out
                        · exact TT.out d' (by omega))
                      clear TT TK
                      go_wp2
                      go_roundg (14 - (d + 1))
                      case measure => omega
                      case rel => exact ⟨d + 1, ws, u, by omega, by omega, by go_num, MM, HT2, HWW⟩
            · have hd14 : d = 14 := by omega
              have HCL := Aside0.mk (MM.out.dc.shut (closed_of (n := 14) (fun d' hd' => TT.out d' (by omega)) (.inl (Nat.le_refl _))))
              clear TT WW
              subst hd14
              go_wp2
              go_roundg mu1
              case measure => exact HGO.out
              case rel => exact ⟨ws, u, MM.out.mu, ⟨MM.out.fd⟩, ⟨MM.out.ok⟩, HCL⟩
      · -- an entry has come
        obtain ⟨hxe, hxs⟩ := mem_left hx
        obtain ⟨⟨s1, s2⟩, ⟨t, A, m, cc, d⟩, hsv, hxk, hxv⟩ := HIN.out x hxe
        have hshr := left_shrinks es seen x hx
        have HL := Aside0.mk (show (leftOf es (seen.push x.born)).size < gk from by omega)
        have R3 := Aside0.mk (RR.out.next hw1 (seen.push x.born))
        have hb3 := (R3.out.b.block _ zB).trans HB.out
        have hent := run_entry_at (P := Try.prog) _ (wo.heap.size + 1) (w.heap.size + 1) clock seen es clock x R3.out.it hb3 hxe HND.out
        rw [hxk, hxv, E1.out] at hrun hent
        replace hrun : (Instr.next (.pointer (some ⟨wo.heap.size + 1, 0, none⟩)) false 0).run Try.prog wr = .ok (.tuple #[.bool true, .agg #[.int .i64 s1, .int .i64 s2], .agg #[.int .i64 t, .slice A m cc, .bool d]]) _ := hrun
        generalize setBlock w1 (wo.heap.size + 1) (.mapIter (some (w.heap.size + 1)) clock (seen.push x.born) clock) = W3 at R3 hent hrun hb3
        replace hent : (Instr.entry (.pointer (some ⟨wo.heap.size + 1, 0, none⟩))).run Try.prog W3 = .ok (.tuple #[.agg #[.int .i64 s1, .int .i64 s2], .agg #[.int .i64 t, .slice A m cc, .bool d]]) W3 := hent
        have HV := Aside0.mk hsv
        have HXS := Aside0.mk (show ∀ y ∈ es.toList, (seen.push x.born).contains y.born = true → seen.contains y.born = true ∨ y = x from fun y hy hyc => by
          rw [contains_push] at hyc
          rcases Bool.or_eq_true_iff.1 hyc with h | h
          · exact .inl h
          · exact .inr (born_inj HND.out hy hxe (by simpa using h)))
        have HXV := Aside0.mk hxv
        have B5 := Aside0.mk (below_alloc (below_alloc (Below.refl W3.heap.size W3) (.cells #[.int .i64 s1, .int .i64 s2] 220)) (.cells #[.int .i64 t, .slice A m cc, .bool d] 127))
        have X6 := Aside0.mk (blk_alloc (blk_new W3 (.cells #[.int .i64 s1, .int .i64 s2] 220 (0, 0))) (.cells #[.int .i64 t, .slice A m cc, .bool d] 127 (0, 0)))
        have X7 := Aside0.mk (show ((W3.alloc (.cells #[.int .i64 s1, .int .i64 s2] 220)).alloc (.cells #[.int .i64 t, .slice A m cc, .bool d] 127)).heap[W3.heap.size + 1]? = some (.cells #[.int .i64 t, .slice A m cc, .bool d] 127 (0, 0)) from blk_newn _ _ _ (by simp))
        clear hxe hxs hxk hxv hshr hb3 hbW hsv hx hw1
        go_wp2
        generalize (W3.alloc (.cells #[.int .i64 s1, .int .i64 s2] 220)).alloc (.cells #[.int .i64 t, .slice A m cc, .bool d] 127) = W5 at B5 X6 X7 ⊢
        have R5 := Aside0.mk (R3.out.below B5.out)
        have R5d := Aside0.mk (R5.out.below (below_drew1 (Below.refl _ _)))
        have q60 : W5.cell? ⟨W3.heap.size, 0, none⟩ = some (.int .i64 s1) := (blk_cell X6.out 0).trans rfl
        have q61 : W5.cell? ⟨W3.heap.size, 1, none⟩ = some (.int .i64 s2) := (blk_cell X6.out 1).trans rfl
        have q70 : W5.cell? ⟨W3.heap.size + 1, 0, none⟩ = some (.int .i64 t) := (blk_cell X7.out 0).trans rfl
        have q72 : W5.cell? ⟨W3.heap.size + 1, 2, none⟩ = some (.bool d) := (blk_cell X7.out 2).trans rfl
        have q40 : W5.cell? ⟨wo.heap.size, 0, none⟩ = some (.int .i64 p) := (blk_cell R5.out.at4 0).trans rfl
        have q41 : W5.cell? ⟨wo.heap.size, 1, none⟩ = some (.int .i64 c) := (blk_cell R5.out.at4 1).trans rfl
        have f40 := blk_frozen R5.out.at4 0
        have f41 := blk_frozen R5.out.at4 1
        clear hrun hent
        cases d with
        | true =>
          refine wp_region_held_drew (S := (fun W' => W'.cell? ⟨W3.heap.size + 1, 2, none⟩ = some (.bool true))) (by kernel_rfl) ?_ (fun hHeld => ?_)
          · (try dsimp only); exact q72
          refine wpAnyH_take (i := 0) (v := ?_) rfl (by kernel_rfl) (by kernel_rfl) (by kernel_rfl) (fun _ _ _ h => h) (Or.inl ⟨by kernel_rfl, ?_⟩) (by assumption) ?_
          rotate_left 1
          · intro w hSw; (try dsimp only at hSw); go_simp; (try with_reducible rfl)
          (try simp only [Act.put, List.getElem_toArray, List.getElem_cons_zero, List.getElem_cons_succ, List.setIfInBounds_toArray, List.set_cons_zero, List.set_cons_succ])
          refine wpAnyH_take (i := 1) (v := ?_) rfl (by kernel_rfl) (by kernel_rfl) (by kernel_rfl) (fun _ _ _ h => h) (Or.inl ⟨by kernel_rfl, ?_⟩) (by assumption) ?_
          rotate_left 1
          · intro w hSw; (try dsimp only at hSw); go_simp; (try with_reducible rfl)
          (try simp only [Act.put, List.getElem_toArray, List.getElem_cons_zero, List.getElem_cons_succ, List.setIfInBounds_toArray, List.set_cons_zero, List.set_cons_succ])
          refine wpAnyH_take (i := 2) (v := ?_) rfl (by kernel_rfl) (by kernel_rfl) (by kernel_rfl) (fun _ _ _ h => h) (Or.inl ⟨by kernel_rfl, ?_⟩) (by assumption) ?_
          rotate_left 1
          · intro w hSw; (try dsimp only at hSw); go_simp; (try with_reducible rfl)
          (try simp only [Act.put, List.getElem_toArray, List.getElem_cons_zero, List.getElem_cons_succ, List.setIfInBounds_toArray, List.set_cons_zero, List.set_cons_succ])
          refine wpAnyH_take (i := 3) (v := ?_) rfl (by kernel_rfl) (by kernel_rfl) (by kernel_rfl) (fun _ _ _ h => h) (Or.inl ⟨by kernel_rfl, ?_⟩) (by assumption) ?_
          rotate_left 1
          · intro w hSw; (try dsimp only at hSw); go_simp; (try with_reducible rfl)
          (try simp only [Act.put, List.getElem_toArray, List.getElem_cons_zero, List.getElem_cons_succ, List.setIfInBounds_toArray, List.set_cons_zero, List.set_cons_succ])
          refine wpAnyH_take (i := 4) (v := undef) rfl (by kernel_rfl) (by kernel_rfl) (by kernel_rfl) (fun _ _ _ h => h) (Or.inr ⟨by kernel_rfl, rfl⟩) (by assumption) ?_
          (try simp only [Act.put, List.getElem_toArray, List.getElem_cons_zero, List.getElem_cons_succ, List.setIfInBounds_toArray, List.set_cons_zero, List.set_cons_succ])
          refine wpAnyH_take (i := 5) (v := undef) rfl (by kernel_rfl) (by kernel_rfl) (by kernel_rfl) (fun _ _ _ h => h) (Or.inr ⟨by kernel_rfl, rfl⟩) (by assumption) ?_
          (try simp only [Act.put, List.getElem_toArray, List.getElem_cons_zero, List.getElem_cons_succ, List.setIfInBounds_toArray, List.set_cons_zero, List.set_cons_succ])
          refine wpAnyH_take (i := 6) (v := undef) rfl (by kernel_rfl) (by kernel_rfl) (by kernel_rfl) (fun _ _ _ h => h) (Or.inr ⟨by kernel_rfl, rfl⟩) (by assumption) ?_
          (try simp only [Act.put, List.getElem_toArray, List.getElem_cons_zero, List.getElem_cons_succ, List.setIfInBounds_toArray, List.set_cons_zero, List.set_cons_succ])
          refine wpAnyH_take (i := 7) (v := undef) rfl (by kernel_rfl) (by kernel_rfl) (by kernel_rfl) (fun _ _ _ h => h) (Or.inr ⟨by kernel_rfl, rfl⟩) (by assumption) ?_
          (try simp only [Act.put, List.getElem_toArray, List.getElem_cons_zero, List.getElem_cons_succ, List.setIfInBounds_toArray, List.set_cons_zero, List.set_cons_succ])
          refine wpAnyH_take (i := 8) (v := undef) rfl (by kernel_rfl) (by kernel_rfl) (by kernel_rfl) (fun _ _ _ h => h) (Or.inr ⟨by kernel_rfl, rfl⟩) (by assumption) ?_
          (try simp only [Act.put, List.getElem_toArray, List.getElem_cons_zero, List.getElem_cons_succ, List.setIfInBounds_toArray, List.set_cons_zero, List.set_cons_succ])
          refine wpAnyH_take (i := 9) (v := undef) rfl (by kernel_rfl) (by kernel_rfl) (by kernel_rfl) (fun _ _ _ h => h) (Or.inr ⟨by kernel_rfl, rfl⟩) (by assumption) ?_
          (try simp only [Act.put, List.getElem_toArray, List.getElem_cons_zero, List.getElem_cons_succ, List.setIfInBounds_toArray, List.set_cons_zero, List.set_cons_succ])
          refine wpAnyH_take (i := 10) (v := undef) rfl (by kernel_rfl) (by kernel_rfl) (by kernel_rfl) (fun _ _ _ h => h) (Or.inr ⟨by kernel_rfl, rfl⟩) (by assumption) ?_
          (try simp only [Act.put, List.getElem_toArray, List.getElem_cons_zero, List.getElem_cons_succ, List.setIfInBounds_toArray, List.set_cons_zero, List.set_cons_succ])
          refine wpAnyH_take (i := 11) (v := undef) rfl (by kernel_rfl) (by kernel_rfl) (by kernel_rfl) (fun _ _ _ h => h) (Or.inr ⟨by kernel_rfl, rfl⟩) (by assumption) ?_
          (try simp only [Act.put, List.getElem_toArray, List.getElem_cons_zero, List.getElem_cons_succ, List.setIfInBounds_toArray, List.set_cons_zero, List.set_cons_succ])
          refine wpAnyH_take (i := 12) (v := undef) rfl (by kernel_rfl) (by kernel_rfl) (by kernel_rfl) (fun _ _ _ h => h) (Or.inr ⟨by kernel_rfl, rfl⟩) (by assumption) ?_
          (try simp only [Act.put, List.getElem_toArray, List.getElem_cons_zero, List.getElem_cons_succ, List.setIfInBounds_toArray, List.set_cons_zero, List.set_cons_succ])
          refine wpAnyH_take (i := 13) (v := undef) rfl (by kernel_rfl) (by kernel_rfl) (by kernel_rfl) (fun _ _ _ h => h) (Or.inr ⟨by kernel_rfl, rfl⟩) (by assumption) ?_
          (try simp only [Act.put, List.getElem_toArray, List.getElem_cons_zero, List.getElem_cons_succ, List.setIfInBounds_toArray, List.set_cons_zero, List.set_cons_succ])
          refine wpAnyH_take (i := 14) (v := undef) rfl (by kernel_rfl) (by kernel_rfl) (by kernel_rfl) (fun _ _ _ h => h) (Or.inr ⟨by kernel_rfl, rfl⟩) (by assumption) ?_
          (try simp only [Act.put, List.getElem_toArray, List.getElem_cons_zero, List.getElem_cons_succ, List.setIfInBounds_toArray, List.set_cons_zero, List.set_cons_succ])
          refine wpAnyH_take (i := 15) (v := ?_) rfl (by kernel_rfl) (by kernel_rfl) (by kernel_rfl) (fun _ _ _ h => h) (Or.inl ⟨by kernel_rfl, ?_⟩) (by assumption) ?_
          rotate_left 1
          · intro w hSw; (try dsimp only at hSw); go_simp; (try with_reducible rfl)
          (try simp only [Act.put, List.getElem_toArray, List.getElem_cons_zero, List.getElem_cons_succ, List.setIfInBounds_toArray, List.set_cons_zero, List.set_cons_succ])
          refine wpAnyH_done (by kernel_rfl) ?_ _
          go_wp2
          go_roundg (leftOf es (seen.push x.born)).size
          case measure => exact HL.out
          case rel => exact ⟨seen.push x.born, bl, p, c, rfl, Nat.le_refl _, R5d, ⟨fun hb y hy hyc => (HXS.out y hy hyc).elim (fun h => AA.out hb y hy h) (fun h => ⟨⟨t, A, m, cc, true⟩, (congrArg MapEntry.val h).trans HXV.out, rfl⟩)⟩, BB⟩
        | false =>
          cases bl with
          | false =>
            refine wp_region_held_drew (S := (fun W' => W'.cell? ⟨W3.heap.size + 1, 2, none⟩ = some (.bool false))) (by kernel_rfl) ?_ (fun hHeld => ?_)
            · (try dsimp only); exact q72
            refine wpAnyH_take (i := 0) (v := ?_) rfl (by kernel_rfl) (by kernel_rfl) (by kernel_rfl) (fun _ _ _ h => h) (Or.inl ⟨by kernel_rfl, ?_⟩) (by assumption) ?_
            rotate_left 1
            · intro w hSw; (try dsimp only at hSw); go_simp; (try with_reducible rfl)
            (try simp only [Act.put, List.getElem_toArray, List.getElem_cons_zero, List.getElem_cons_succ, List.setIfInBounds_toArray, List.set_cons_zero, List.set_cons_succ])
            refine wpAnyH_take (i := 1) (v := ?_) rfl (by kernel_rfl) (by kernel_rfl) (by kernel_rfl) (fun _ _ _ h => h) (Or.inl ⟨by kernel_rfl, ?_⟩) (by assumption) ?_
            rotate_left 1
            · intro w hSw; (try dsimp only at hSw); go_simp; (try with_reducible rfl)
            (try simp only [Act.put, List.getElem_toArray, List.getElem_cons_zero, List.getElem_cons_succ, List.setIfInBounds_toArray, List.set_cons_zero, List.set_cons_succ])
            refine wpAnyH_take (i := 2) (v := ?_) rfl (by kernel_rfl) (by kernel_rfl) (by kernel_rfl) (fun _ _ _ h => h) (Or.inl ⟨by kernel_rfl, ?_⟩) (by assumption) ?_
            rotate_left 1
            · intro w hSw; (try dsimp only at hSw); go_simp; (try with_reducible rfl)
            (try simp only [Act.put, List.getElem_toArray, List.getElem_cons_zero, List.getElem_cons_succ, List.setIfInBounds_toArray, List.set_cons_zero, List.set_cons_succ])
            refine wpAnyH_take (i := 3) (v := ?_) rfl (by kernel_rfl) (by kernel_rfl) (by kernel_rfl) (fun _ _ _ h => h) (Or.inl ⟨by kernel_rfl, ?_⟩) (by assumption) ?_
            rotate_left 1
            · intro w hSw; (try dsimp only at hSw); go_simp; (try with_reducible rfl)
            (try simp only [Act.put, List.getElem_toArray, List.getElem_cons_zero, List.getElem_cons_succ, List.setIfInBounds_toArray, List.set_cons_zero, List.set_cons_succ])
            refine wpAnyH_take (i := 4) (v := ?_) rfl (by kernel_rfl) (by kernel_rfl) (by kernel_rfl) (fun _ _ _ h => h) (Or.inl ⟨by kernel_rfl, ?_⟩) (by assumption) ?_
            rotate_left 1
            · intro w hSw; (try dsimp only at hSw); go_simp; (try with_reducible rfl)
            (try simp only [Act.put, List.getElem_toArray, List.getElem_cons_zero, List.getElem_cons_succ, List.setIfInBounds_toArray, List.set_cons_zero, List.set_cons_succ])
            refine wpAnyH_take (i := 5) (v := ?_) rfl (by kernel_rfl) (by kernel_rfl) (by kernel_rfl) (fun _ _ _ h => h) (Or.inl ⟨by kernel_rfl, ?_⟩) (by assumption) ?_
            rotate_left 1
            · intro w hSw; (try dsimp only at hSw); go_simp; (try with_reducible rfl)
            (try simp only [Act.put, List.getElem_toArray, List.getElem_cons_zero, List.getElem_cons_succ, List.setIfInBounds_toArray, List.set_cons_zero, List.set_cons_succ])
            refine wpAnyH_take (i := 6) (v := ?_) rfl (by kernel_rfl) (by kernel_rfl) (by kernel_rfl) (fun _ _ _ h => h) (Or.inl ⟨by kernel_rfl, ?_⟩) (by assumption) ?_
            rotate_left 1
            · intro w hSw; (try dsimp only at hSw); go_simp; (try with_reducible rfl)
            (try simp only [Act.put, List.getElem_toArray, List.getElem_cons_zero, List.getElem_cons_succ, List.setIfInBounds_toArray, List.set_cons_zero, List.set_cons_succ])
            refine wpAnyH_take (i := 7) (v := undef) rfl (by kernel_rfl) (by kernel_rfl) (by kernel_rfl) (fun _ _ _ h => h) (Or.inr ⟨by kernel_rfl, rfl⟩) (by assumption) ?_
            (try simp only [Act.put, List.getElem_toArray, List.getElem_cons_zero, List.getElem_cons_succ, List.setIfInBounds_toArray, List.set_cons_zero, List.set_cons_succ])
            refine wpAnyH_take (i := 8) (v := undef) rfl (by kernel_rfl) (by kernel_rfl) (by kernel_rfl) (fun _ _ _ h => h) (Or.inr ⟨by kernel_rfl, rfl⟩) (by assumption) ?_
            (try simp only [Act.put, List.getElem_toArray, List.getElem_cons_zero, List.getElem_cons_succ, List.setIfInBounds_toArray, List.set_cons_zero, List.set_cons_succ])
            refine wpAnyH_take (i := 9) (v := undef) rfl (by kernel_rfl) (by kernel_rfl) (by kernel_rfl) (fun _ _ _ h => h) (Or.inr ⟨by kernel_rfl, rfl⟩) (by assumption) ?_
            (try simp only [Act.put, List.getElem_toArray, List.getElem_cons_zero, List.getElem_cons_succ, List.setIfInBounds_toArray, List.set_cons_zero, List.set_cons_succ])
            refine wpAnyH_take (i := 10) (v := undef) rfl (by kernel_rfl) (by kernel_rfl) (by kernel_rfl) (fun _ _ _ h => h) (Or.inr ⟨by kernel_rfl, rfl⟩) (by assumption) ?_
            (try simp only [Act.put, List.getElem_toArray, List.getElem_cons_zero, List.getElem_cons_succ, List.setIfInBounds_toArray, List.set_cons_zero, List.set_cons_succ])
            refine wpAnyH_take (i := 11) (v := undef) rfl (by kernel_rfl) (by kernel_rfl) (by kernel_rfl) (fun _ _ _ h => h) (Or.inr ⟨by kernel_rfl, rfl⟩) (by assumption) ?_
            (try simp only [Act.put, List.getElem_toArray, List.getElem_cons_zero, List.getElem_cons_succ, List.setIfInBounds_toArray, List.set_cons_zero, List.set_cons_succ])
            refine wpAnyH_take (i := 12) (v := undef) rfl (by kernel_rfl) (by kernel_rfl) (by kernel_rfl) (fun _ _ _ h => h) (Or.inr ⟨by kernel_rfl, rfl⟩) (by assumption) ?_
            (try simp only [Act.put, List.getElem_toArray, List.getElem_cons_zero, List.getElem_cons_succ, List.setIfInBounds_toArray, List.set_cons_zero, List.set_cons_succ])
            refine wpAnyH_take (i := 13) (v := undef) rfl (by kernel_rfl) (by kernel_rfl) (by kernel_rfl) (fun _ _ _ h => h) (Or.inr ⟨by kernel_rfl, rfl⟩) (by assumption) ?_
            (try simp only [Act.put, List.getElem_toArray, List.getElem_cons_zero, List.getElem_cons_succ, List.setIfInBounds_toArray, List.set_cons_zero, List.set_cons_succ])
            refine wpAnyH_take (i := 14) (v := ?_) rfl (by kernel_rfl) (by kernel_rfl) (by kernel_rfl) (fun _ _ _ h => h) (Or.inl ⟨by kernel_rfl, ?_⟩) (by assumption) ?_
            rotate_left 1
            · intro w hSw; (try dsimp only at hSw); go_simp; (try with_reducible rfl)
            (try simp only [Act.put, List.getElem_toArray, List.getElem_cons_zero, List.getElem_cons_succ, List.setIfInBounds_toArray, List.set_cons_zero, List.set_cons_succ])
            refine wpAnyH_take (i := 15) (v := ?_) rfl (by kernel_rfl) (by kernel_rfl) (by kernel_rfl) (fun _ _ _ h => h) (Or.inl ⟨by kernel_rfl, ?_⟩) (by assumption) ?_
            rotate_left 1
            · intro w hSw; (try dsimp only at hSw); go_simp; (try with_reducible rfl)
            (try simp only [Act.put, List.getElem_toArray, List.getElem_cons_zero, List.getElem_cons_succ, List.setIfInBounds_toArray, List.set_cons_zero, List.set_cons_succ])
            refine wpAnyH_done (by kernel_rfl) ?_ _
            go_wp2
            go_roundg (leftOf es (seen.push x.born)).size
            case measure => exact HL.out
            case rel => exact ⟨seen.push x.born, true, s1, s2, rfl, Nat.le_refl _, ⟨R5d.out.set s1 s2⟩, ⟨fun h => by cases h⟩, ⟨fun _ => ⟨_, HV.out, rfl⟩⟩⟩
          | true =>
            obtain ⟨⟨t', A', m', c', d'⟩, hv', hd'⟩ := BB.out rfl
            have HLK := Aside0.mk (map_look (MM.out.move (R5.out.b.mono MM.out.hi)).map E1.out E2.out hv' (okT_in HOK.out.n8 (OK.out.key _ _ hv')))
            have hfld : ∀ W, (Instr.field 127 (.agg #[.int .i64 t', .slice A' m' c', .bool d']) 0).run Try.prog W = .ok (.int .i64 t') W := fun _ => by kernel_rfl
            have HSS := Aside0.mk (show (W5.cell? ⟨W3.heap.size + 1, 0, none⟩ = some (.int .i64 t) ∧ W5.cell? ⟨W3.heap.size + 1, 2, none⟩ = some (.bool false) ∧ W5.cell? ⟨wo.heap.size, 0, none⟩ = some (.int .i64 p) ∧ W5.cell? ⟨wo.heap.size, 1, none⟩ = some (.int .i64 c)) ∧ MapK E W5.drew (w.heap.size + 1) (kvW ws) from ⟨⟨q70, q72, q40, q41⟩, (MM.out.move (below_drew1 (R5.out.b.mono MM.out.hi))).map⟩)
            have HLD := Aside0.mk (map_look HSS.out.2 E1.out E2.out hv' (okT_in HOK.out.n8 (OK.out.key _ _ hv')))
            by_cases ht : t < t'
            · have ht' : decide (t < t') = true := decide_eq_true ht
              clear ht hv' hd'
              refine wp_region_held_drew (S := (fun W' => W'.cell? ⟨W3.heap.size + 1, 0, none⟩ = some (.int .i64 t) ∧ W'.cell? ⟨W3.heap.size + 1, 2, none⟩ = some (.bool false) ∧ W'.cell? ⟨wo.heap.size, 0, none⟩ = some (.int .i64 p) ∧ W'.cell? ⟨wo.heap.size, 1, none⟩ = some (.int .i64 c) ∧ (Instr.lookup 217 (.map (some (w.heap.size + 1))) (.agg #[.int .i64 p, .int .i64 c]) false).run Try.prog W' = .ok (.agg #[.int .i64 t', .slice A' m' c', .bool d']) W')) (by kernel_rfl) ?_ (fun hHeld => ?_)
              · (try dsimp only); exact ⟨q70, q72, q40, q41, HLD.out⟩
              refine wpAnyH_take (i := 0) (v := ?_) rfl (by kernel_rfl) (by kernel_rfl) (by kernel_rfl) (fun _ _ _ h => h) (Or.inl ⟨by kernel_rfl, ?_⟩) (by assumption) ?_
              rotate_left 1
              · intro w hSw; (try dsimp only at hSw); go_simp; (try with_reducible rfl)
              (try simp only [Act.put, List.getElem_toArray, List.getElem_cons_zero, List.getElem_cons_succ, List.setIfInBounds_toArray, List.set_cons_zero, List.set_cons_succ])
              refine wpAnyH_take (i := 1) (v := ?_) rfl (by kernel_rfl) (by kernel_rfl) (by kernel_rfl) (fun _ _ _ h => h) (Or.inl ⟨by kernel_rfl, ?_⟩) (by assumption) ?_
              rotate_left 1
              · intro w hSw; (try dsimp only at hSw); go_simp; (try with_reducible rfl)
              (try simp only [Act.put, List.getElem_toArray, List.getElem_cons_zero, List.getElem_cons_succ, List.setIfInBounds_toArray, List.set_cons_zero, List.set_cons_succ])
              refine wpAnyH_take (i := 2) (v := ?_) rfl (by kernel_rfl) (by kernel_rfl) (by kernel_rfl) (fun _ _ _ h => h) (Or.inl ⟨by kernel_rfl, ?_⟩) (by assumption) ?_
              rotate_left 1
              · intro w hSw; (try dsimp only at hSw); go_simp; (try with_reducible rfl)
              (try simp only [Act.put, List.getElem_toArray, List.getElem_cons_zero, List.getElem_cons_succ, List.setIfInBounds_toArray, List.set_cons_zero, List.set_cons_succ])
              refine wpAnyH_take (i := 3) (v := ?_) rfl (by kernel_rfl) (by kernel_rfl) (by kernel_rfl) (fun _ _ _ h => h) (Or.inl ⟨by kernel_rfl, ?_⟩) (by assumption) ?_
              rotate_left 1
              · intro w hSw; (try dsimp only at hSw); go_simp; (try with_reducible rfl)
              (try simp only [Act.put, List.getElem_toArray, List.getElem_cons_zero, List.getElem_cons_succ, List.setIfInBounds_toArray, List.set_cons_zero, List.set_cons_succ])
              refine wpAnyH_take (i := 4) (v := ?_) rfl (by kernel_rfl) (by kernel_rfl) (by kernel_rfl) (fun _ _ _ h => h) (Or.inl ⟨by kernel_rfl, ?_⟩) (by assumption) ?_
              rotate_left 1
              · intro w hSw; (try dsimp only at hSw); go_simp; (try with_reducible rfl)
              (try simp only [Act.put, List.getElem_toArray, List.getElem_cons_zero, List.getElem_cons_succ, List.setIfInBounds_toArray, List.set_cons_zero, List.set_cons_succ])
              refine wpAnyH_take (i := 5) (v := ?_) rfl (by kernel_rfl) (by kernel_rfl) (by kernel_rfl) (fun _ _ _ h => h) (Or.inl ⟨by kernel_rfl, ?_⟩) (by assumption) ?_
              rotate_left 1
              · intro w hSw; (try dsimp only at hSw); go_simp; (try with_reducible rfl)
              (try simp only [Act.put, List.getElem_toArray, List.getElem_cons_zero, List.getElem_cons_succ, List.setIfInBounds_toArray, List.set_cons_zero, List.set_cons_succ])
              refine wpAnyH_take (i := 6) (v := ?_) rfl (by kernel_rfl) (by kernel_rfl) (by kernel_rfl) (fun _ _ _ h => h) (Or.inl ⟨by kernel_rfl, ?_⟩) (by assumption) ?_
              rotate_left 1
              · intro w hSw; (try dsimp only at hSw); go_simp; (try with_reducible rfl)
              (try simp only [Act.put, List.getElem_toArray, List.getElem_cons_zero, List.getElem_cons_succ, List.setIfInBounds_toArray, List.set_cons_zero, List.set_cons_succ])
              refine wpAnyH_take (i := 7) (v := ?_) rfl (by kernel_rfl) (by kernel_rfl) (by kernel_rfl) (fun _ _ _ h => h) (Or.inl ⟨by kernel_rfl, ?_⟩) (by assumption) ?_
              rotate_left 1
              · intro w hSw; (try dsimp only at hSw); go_simp; (try with_reducible rfl)
              (try simp only [Act.put, List.getElem_toArray, List.getElem_cons_zero, List.getElem_cons_succ, List.setIfInBounds_toArray, List.set_cons_zero, List.set_cons_succ])
              refine wpAnyH_take (i := 8) (v := ?_) rfl (by kernel_rfl) (by kernel_rfl) (by kernel_rfl) (fun _ _ _ h => h) (Or.inl ⟨by kernel_rfl, ?_⟩) (by assumption) ?_
              rotate_left 1
              · intro w hSw; (try dsimp only at hSw); go_simp; (try with_reducible rfl)
              (try simp only [Act.put, List.getElem_toArray, List.getElem_cons_zero, List.getElem_cons_succ, List.setIfInBounds_toArray, List.set_cons_zero, List.set_cons_succ])
              refine wpAnyH_take (i := 9) (v := ?_) rfl (by kernel_rfl) (by kernel_rfl) (by kernel_rfl) (fun _ _ _ h => h) (Or.inl ⟨by kernel_rfl, ?_⟩) (by assumption) ?_
              rotate_left 1
              · intro w hSw; (try dsimp only at hSw); go_simp; (try with_reducible rfl)
              (try simp only [Act.put, List.getElem_toArray, List.getElem_cons_zero, List.getElem_cons_succ, List.setIfInBounds_toArray, List.set_cons_zero, List.set_cons_succ])
              refine wpAnyH_take (i := 10) (v := ?_) rfl (by kernel_rfl) (by kernel_rfl) (by kernel_rfl) (fun _ _ _ h => h) (Or.inl ⟨by kernel_rfl, ?_⟩) (by assumption) ?_
              rotate_left 1
              · intro w hSw; (try dsimp only at hSw); go_simp; (try with_reducible rfl)
              (try simp only [Act.put, List.getElem_toArray, List.getElem_cons_zero, List.getElem_cons_succ, List.setIfInBounds_toArray, List.set_cons_zero, List.set_cons_succ])
              refine wpAnyH_take (i := 11) (v := ?_) rfl (by kernel_rfl) (by kernel_rfl) (by kernel_rfl) (fun _ _ _ h => h) (Or.inl ⟨by kernel_rfl, ?_⟩) (by assumption) ?_
              rotate_left 1
              · intro w hSw; (try dsimp only at hSw); go_simp; (try with_reducible rfl)
              (try simp only [Act.put, List.getElem_toArray, List.getElem_cons_zero, List.getElem_cons_succ, List.setIfInBounds_toArray, List.set_cons_zero, List.set_cons_succ])
              refine wpAnyH_take (i := 12) (v := ?_) rfl (by kernel_rfl) (by kernel_rfl) (by kernel_rfl) (fun _ _ _ h => h) (Or.inl ⟨by kernel_rfl, ?_⟩) (by assumption) ?_
              rotate_left 1
              · intro w hSw; (try dsimp only at hSw); go_simp; (try with_reducible rfl)
              (try simp only [Act.put, List.getElem_toArray, List.getElem_cons_zero, List.getElem_cons_succ, List.setIfInBounds_toArray, List.set_cons_zero, List.set_cons_succ])
              refine wpAnyH_take (i := 13) (v := ?_) rfl (by kernel_rfl) (by kernel_rfl) (by kernel_rfl) (fun _ _ _ h => h) (Or.inl ⟨by kernel_rfl, ?_⟩) (by assumption) ?_
              rotate_left 1
              · intro w hSw; (try dsimp only at hSw); go_simp; (try with_reducible rfl)
              (try simp only [Act.put, List.getElem_toArray, List.getElem_cons_zero, List.getElem_cons_succ, List.setIfInBounds_toArray, List.set_cons_zero, List.set_cons_succ])
              refine wpAnyH_take (i := 14) (v := ?_) rfl (by kernel_rfl) (by kernel_rfl) (by kernel_rfl) (fun _ _ _ h => h) (Or.inl ⟨by kernel_rfl, ?_⟩) (by assumption) ?_
              rotate_left 1
              · intro w hSw; (try dsimp only at hSw); go_simp; (try with_reducible rfl)
              (try simp only [Act.put, List.getElem_toArray, List.getElem_cons_zero, List.getElem_cons_succ, List.setIfInBounds_toArray, List.set_cons_zero, List.set_cons_succ])
              refine wpAnyH_take (i := 15) (v := ?_) rfl (by kernel_rfl) (by kernel_rfl) (by kernel_rfl) (fun _ _ _ h => h) (Or.inl ⟨by kernel_rfl, ?_⟩) (by assumption) ?_
              rotate_left 1
              · intro w hSw; (try dsimp only at hSw); go_simp; (try with_reducible rfl)
              (try simp only [Act.put, List.getElem_toArray, List.getElem_cons_zero, List.getElem_cons_succ, List.setIfInBounds_toArray, List.set_cons_zero, List.set_cons_succ])
              refine wpAnyH_done (by kernel_rfl) ?_ _
              go_wp2
              go_roundg (leftOf es (seen.push x.born)).size
              case measure => exact HL.out
              case rel => exact ⟨seen.push x.born, true, s1, s2, rfl, Nat.le_refl _, ⟨R5d.out.set s1 s2⟩, ⟨fun h => by cases h⟩, ⟨fun _ => ⟨_, HV.out, rfl⟩⟩⟩
            · have ht' : decide (t < t') = false := decide_eq_false ht
              clear ht hv' hd'
              refine wp_region_held_drew (S := (fun W' => W'.cell? ⟨W3.heap.size + 1, 0, none⟩ = some (.int .i64 t) ∧ W'.cell? ⟨W3.heap.size + 1, 2, none⟩ = some (.bool false) ∧ W'.cell? ⟨wo.heap.size, 0, none⟩ = some (.int .i64 p) ∧ W'.cell? ⟨wo.heap.size, 1, none⟩ = some (.int .i64 c) ∧ (Instr.lookup 217 (.map (some (w.heap.size + 1))) (.agg #[.int .i64 p, .int .i64 c]) false).run Try.prog W' = .ok (.agg #[.int .i64 t', .slice A' m' c', .bool d']) W')) (by kernel_rfl) ?_ (fun hHeld => ?_)
              · (try dsimp only); exact ⟨q70, q72, q40, q41, HLD.out⟩
              refine wpAnyH_take (i := 0) (v := ?_) rfl (by kernel_rfl) (by kernel_rfl) (by kernel_rfl) (fun _ _ _ h => h) (Or.inl ⟨by kernel_rfl, ?_⟩) (by assumption) ?_
              rotate_left 1
              · intro w hSw; (try dsimp only at hSw); go_simp; (try with_reducible rfl)
              (try simp only [Act.put, List.getElem_toArray, List.getElem_cons_zero, List.getElem_cons_succ, List.setIfInBounds_toArray, List.set_cons_zero, List.set_cons_succ])
              refine wpAnyH_take (i := 1) (v := ?_) rfl (by kernel_rfl) (by kernel_rfl) (by kernel_rfl) (fun _ _ _ h => h) (Or.inl ⟨by kernel_rfl, ?_⟩) (by assumption) ?_
              rotate_left 1
              · intro w hSw; (try dsimp only at hSw); go_simp; (try with_reducible rfl)
              (try simp only [Act.put, List.getElem_toArray, List.getElem_cons_zero, List.getElem_cons_succ, List.setIfInBounds_toArray, List.set_cons_zero, List.set_cons_succ])
              refine wpAnyH_take (i := 2) (v := ?_) rfl (by kernel_rfl) (by kernel_rfl) (by kernel_rfl) (fun _ _ _ h => h) (Or.inl ⟨by kernel_rfl, ?_⟩) (by assumption) ?_
              rotate_left 1
              · intro w hSw; (try dsimp only at hSw); go_simp; (try with_reducible rfl)
              (try simp only [Act.put, List.getElem_toArray, List.getElem_cons_zero, List.getElem_cons_succ, List.setIfInBounds_toArray, List.set_cons_zero, List.set_cons_succ])
              refine wpAnyH_take (i := 3) (v := ?_) rfl (by kernel_rfl) (by kernel_rfl) (by kernel_rfl) (fun _ _ _ h => h) (Or.inl ⟨by kernel_rfl, ?_⟩) (by assumption) ?_
              rotate_left 1
              · intro w hSw; (try dsimp only at hSw); go_simp; (try with_reducible rfl)
              (try simp only [Act.put, List.getElem_toArray, List.getElem_cons_zero, List.getElem_cons_succ, List.setIfInBounds_toArray, List.set_cons_zero, List.set_cons_succ])
              refine wpAnyH_take (i := 4) (v := ?_) rfl (by kernel_rfl) (by kernel_rfl) (by kernel_rfl) (fun _ _ _ h => h) (Or.inl ⟨by kernel_rfl, ?_⟩) (by assumption) ?_
              rotate_left 1
              · intro w hSw; (try dsimp only at hSw); go_simp; (try with_reducible rfl)
              (try simp only [Act.put, List.getElem_toArray, List.getElem_cons_zero, List.getElem_cons_succ, List.setIfInBounds_toArray, List.set_cons_zero, List.set_cons_succ])
              refine wpAnyH_take (i := 5) (v := ?_) rfl (by kernel_rfl) (by kernel_rfl) (by kernel_rfl) (fun _ _ _ h => h) (Or.inl ⟨by kernel_rfl, ?_⟩) (by assumption) ?_
              rotate_left 1
              · intro w hSw; (try dsimp only at hSw); go_simp; (try with_reducible rfl)
              (try simp only [Act.put, List.getElem_toArray, List.getElem_cons_zero, List.getElem_cons_succ, List.setIfInBounds_toArray, List.set_cons_zero, List.set_cons_succ])
              refine wpAnyH_take (i := 6) (v := ?_) rfl (by kernel_rfl) (by kernel_rfl) (by kernel_rfl) (fun _ _ _ h => h) (Or.inl ⟨by kernel_rfl, ?_⟩) (by assumption) ?_
              rotate_left 1
              · intro w hSw; (try dsimp only at hSw); go_simp; (try with_reducible rfl)
              (try simp only [Act.put, List.getElem_toArray, List.getElem_cons_zero, List.getElem_cons_succ, List.setIfInBounds_toArray, List.set_cons_zero, List.set_cons_succ])
              refine wpAnyH_take (i := 7) (v := ?_) rfl (by kernel_rfl) (by kernel_rfl) (by kernel_rfl) (fun _ _ _ h => h) (Or.inl ⟨by kernel_rfl, ?_⟩) (by assumption) ?_
              rotate_left 1
              · intro w hSw; (try dsimp only at hSw); go_simp; (try with_reducible rfl)
              (try simp only [Act.put, List.getElem_toArray, List.getElem_cons_zero, List.getElem_cons_succ, List.setIfInBounds_toArray, List.set_cons_zero, List.set_cons_succ])
              refine wpAnyH_take (i := 8) (v := ?_) rfl (by kernel_rfl) (by kernel_rfl) (by kernel_rfl) (fun _ _ _ h => h) (Or.inl ⟨by kernel_rfl, ?_⟩) (by assumption) ?_
              rotate_left 1
              · intro w hSw; (try dsimp only at hSw); go_simp; (try with_reducible rfl)
              (try simp only [Act.put, List.getElem_toArray, List.getElem_cons_zero, List.getElem_cons_succ, List.setIfInBounds_toArray, List.set_cons_zero, List.set_cons_succ])
              refine wpAnyH_take (i := 9) (v := ?_) rfl (by kernel_rfl) (by kernel_rfl) (by kernel_rfl) (fun _ _ _ h => h) (Or.inl ⟨by kernel_rfl, ?_⟩) (by assumption) ?_
              rotate_left 1
              · intro w hSw; (try dsimp only at hSw); go_simp; (try with_reducible rfl)
              (try simp only [Act.put, List.getElem_toArray, List.getElem_cons_zero, List.getElem_cons_succ, List.setIfInBounds_toArray, List.set_cons_zero, List.set_cons_succ])
              refine wpAnyH_take (i := 10) (v := ?_) rfl (by kernel_rfl) (by kernel_rfl) (by kernel_rfl) (fun _ _ _ h => h) (Or.inl ⟨by kernel_rfl, ?_⟩) (by assumption) ?_
              rotate_left 1
              · intro w hSw; (try dsimp only at hSw); go_simp; (try with_reducible rfl)
              (try simp only [Act.put, List.getElem_toArray, List.getElem_cons_zero, List.getElem_cons_succ, List.setIfInBounds_toArray, List.set_cons_zero, List.set_cons_succ])
              refine wpAnyH_take (i := 11) (v := ?_) rfl (by kernel_rfl) (by kernel_rfl) (by kernel_rfl) (fun _ _ _ h => h) (Or.inl ⟨by kernel_rfl, ?_⟩) (by assumption) ?_
              rotate_left 1
              · intro w hSw; (try dsimp only at hSw); go_simp; (try with_reducible rfl)
              (try simp only [Act.put, List.getElem_toArray, List.getElem_cons_zero, List.getElem_cons_succ, List.setIfInBounds_toArray, List.set_cons_zero, List.set_cons_succ])
              refine wpAnyH_take (i := 12) (v := ?_) rfl (by kernel_rfl) (by kernel_rfl) (by kernel_rfl) (fun _ _ _ h => h) (Or.inl ⟨by kernel_rfl, ?_⟩) (by assumption) ?_
              rotate_left 1
              · intro w hSw; (try dsimp only at hSw); go_simp; (try with_reducible rfl)
              (try simp only [Act.put, List.getElem_toArray, List.getElem_cons_zero, List.getElem_cons_succ, List.setIfInBounds_toArray, List.set_cons_zero, List.set_cons_succ])
              refine wpAnyH_take (i := 13) (v := ?_) rfl (by kernel_rfl) (by kernel_rfl) (by kernel_rfl) (fun _ _ _ h => h) (Or.inl ⟨by kernel_rfl, ?_⟩) (by assumption) ?_
              rotate_left 1
              · intro w hSw; (try dsimp only at hSw); go_simp; (try with_reducible rfl)
              (try simp only [Act.put, List.getElem_toArray, List.getElem_cons_zero, List.getElem_cons_succ, List.setIfInBounds_toArray, List.set_cons_zero, List.set_cons_succ])
              refine wpAnyH_take (i := 14) (v := ?_) rfl (by kernel_rfl) (by kernel_rfl) (by kernel_rfl) (fun _ _ _ h => h) (Or.inl ⟨by kernel_rfl, ?_⟩) (by assumption) ?_
              rotate_left 1
              · intro w hSw; (try dsimp only at hSw); go_simp; (try with_reducible rfl)
              (try simp only [Act.put, List.getElem_toArray, List.getElem_cons_zero, List.getElem_cons_succ, List.setIfInBounds_toArray, List.set_cons_zero, List.set_cons_succ])
              refine wpAnyH_take (i := 15) (v := ?_) rfl (by kernel_rfl) (by kernel_rfl) (by kernel_rfl) (fun _ _ _ h => h) (Or.inl ⟨by kernel_rfl, ?_⟩) (by assumption) ?_
              rotate_left 1
              · intro w hSw; (try dsimp only at hSw); go_simp; (try with_reducible rfl)
              (try simp only [Act.put, List.getElem_toArray, List.getElem_cons_zero, List.getElem_cons_succ, List.setIfInBounds_toArray, List.set_cons_zero, List.set_cons_succ])
              refine wpAnyH_done (by kernel_rfl) ?_ _
              go_wp2
              go_roundg (leftOf es (seen.push x.born)).size
              case measure => exact HL.out
              case rel => exact ⟨seen.push x.born, true, p, c, rfl, Nat.le_refl _, R5d, ⟨fun h => by cases h⟩, ⟨fun _ => by first | exact BB.out trivial | exact BB.out rfl⟩⟩
end Go.Proofs.Ytampgoendkjkhaa.H
