/- What a stack can come to: the walk of the given package, with its plain law. -/
import Derived.Test.YtampgoendkjkhaaVC
import Derived.Test.YtampgoendkjkhaaRow
import Derived.Test.YtampgoendkjkhaaCut
namespace Go.Proofs.Ytampgoendkjkhaa.H
open Go.RowKit Go.Maps Go.Shelf Go.Proofs.YtampgoendkjkhaaW.PrintWords Go.Proofs.YtampgoendkjkhaaW.PrintMore
set_option linter.unusedVariables false
set_option linter.unusedSimpArgs false
def WysPost (w : World) (ws : List (Ek × Kn)) (gl : Nat) (gc fr : Int) (sg : List Int) (e : Ending) (w' : World) : Prop := ∃ (Al : Option Addr) (cl : Nat) (lw : List Wv), e = .returned (.slice Al lw.length cl) ∧ lw.length ≤ cl ∧ Kd.C kWy w' Al lw.length lw ∧ WaysL ws (RS (decide (gl = 0)) gc ((gl + 3 : Nat) : Int) (EdE ws) (cloS (decide (gl = 0)) gc ((gl + 3 : Nat) : Int) (· = fr)) sg) sg.length lw ∧ Below w.heap.size w w'
theorem RS_in {n m : Nat} {ws : List (Ek × Kn)} (hO : StOk n m ws) {ge : Bool} {gc last : Int} (hl : 0 ≤ last ∧ last < (n : Int)) : ∀ (sg : List Int) (S : Int → Prop), (∀ q, S q → 0 ≤ q ∧ q < (n : Int)) → ∀ q, RS ge gc last (EdE ws) S sg q → 0 ≤ q ∧ q < (n : Int)
  | [], _, h, q, hq => h q hq
  | a :: w, S, h, q, hq => RS_in hO hl w _ (fun q hq => by
    have hin : ∀ q, stpS (EdE ws) S a q → 0 ≤ q ∧ q < (n : Int) := fun q ⟨p, _, he⟩ => by
      obtain ⟨k, hk⟩ := Option.isSome_iff_exists.1 he
      exact (hO.key _ _ hk).2.2
    rcases hq with hq | ⟨_, _, rfl⟩
    · exact hin q hq
    · exact hl) q hq
set_option maxHeartbeats 16000000 in
set_option maxRecDepth 100000 in
theorem ways_calls (E : KeyE Try.prog 140 Ek) (hE1 : E.enc = encK3) (hE2 : E.ok = okK3) (w : World) (b bm : Nat) (gc : Int) (G : Option Addr) (gl gp m : Nat) (ws : List (Ek × Kn)) (hS : SatM E w b bm gc G gl gp ws) (hO : StOk (gl + 4) m ws) (hgl : gl ≤ 3) (hgc : 0 ≤ gc ∧ gc < 3) (fr : Int) (hfr : 0 ≤ fr ∧ fr < 3)
    (A : Option Addr) (c : Nat) (sg : List Int) (hr : Kd.C (Kd.int .i64) w A sg.length sg) (hsg : ∀ x ∈ sg, 0 ≤ x ∧ x < 3) (hsl : sg.length ≤ 1000) :
    Calls Try.prog 49 #[.pointer (some ⟨b, 0, none⟩), .int .i64 fr, .slice A sg.length c] w (WysPost w ws gl gc fr sg) := by
  have HS := Aside0.mk hS
  have HO := Aside0.mk hO
  have E1 := Aside0.mk hE1
  have E2 := Aside0.mk hE2
  have HR := Aside0.mk hr
  have HSG := Aside0.mk hsg
  have HB := Aside0.mk (And.intro hgl (And.intro hgc (And.intro hfr hsl)))
  have HCL0 := Aside0.mk (show (⟨fr, 0, []⟩ : Wv) = ⟨fr, 0, []⟩ from rfl)
  clear hS hO hE1 hE2 hr hsg hgl hgc hfr hsl
  have hmm := @run_makeMap Try.prog
  go_enter Try.func49, Try.ntmps49
  go_upto_region 2 with fail
  have L1 := Aside0.mk (wy_lit w fr)
  have B1 := Aside0.mk (below_alloc (Below.refl w.heap.size w) (.cells #[.int .i64 fr, .int .i64 0, .slice none 0 0] 137))
  generalize hW1 : w.alloc (.cells #[.int .i64 fr, .int .i64 0, .slice none 0 0] 137) = W1 at L1 B1 ⊢
  clear hW1
  have HS1 := Aside0.mk (HS.out.below B1.out)
  have q0 : W1.cell? ⟨b, 0, none⟩ = some (.int .i64 gc) := (blk_cell HS1.out.s 0).trans rfl
  have q1 : W1.cell? ⟨b, 1, none⟩ = some (.slice G gl gp) := (blk_cell HS1.out.s 1).trans rfl
  have HG0 := Aside0.mk (show ∀ h : gl = 0, ((gl : Int) == 0) = true from fun h => by simp [h])
  go_cut [41] (fun s41 wx => s41 = .bool (decide (gl = 0) && decide (fr = gc)) ∧ Aside0 (Below W1.heap.size W1 wx))
  case first =>
    --< f1
    by_cases h0 : gl = 0
    · by_cases hf : fr = gc
      · have h1 : ((gl : Int) == 0) = true := by simp [h0]
        have h2 : (fr == gc) = true := by simp [hf]
        have HX := Aside0.mk (show (true : Bool) = (decide (gl = 0) && decide (fr = gc)) from by simp [h0, hf])
        clear h0 hf
        go_wp2_with fail
        go_meet
        exact ⟨congrArg Value.bool HX.out, ⟨Below.refl _ _⟩⟩
      · have h1 : ((gl : Int) == 0) = true := by simp [h0]
        have h2 : (fr == gc) = false := by simp [hf]
        have HX := Aside0.mk (show (false : Bool) = (decide (gl = 0) && decide (fr = gc)) from by simp [h0, hf])
        clear h0 hf
        go_wp2_with fail
        go_meet
        exact ⟨congrArg Value.bool HX.out, ⟨Below.refl _ _⟩⟩
    · have h1 : ((gl : Int) == 0) = false := by simp; omega
      have HX := Aside0.mk (show (false : Bool) = (decide (gl = 0) && decide (fr = gc)) from by simp [h0])
      clear h0
      go_wp2_with fail
      go_meet
      exact ⟨congrArg Value.bool HX.out, ⟨Below.refl _ _⟩⟩
    --> f1
  case rest =>
    obtain ⟨rfl, B12⟩ := hcut
    have L2 := Aside0.mk (Kd.R_below L1.out B12.out)
    have B2 := Aside0.mk (below_step B1.out B12.out)
    clear q0 q1 HS1 B1 B12 L1
    have HBL := Aside0.mk (show ∀ bl : Bool, (decide (gl = 0) && decide (fr = gc)) = bl → (bl = true ↔ (gl = 0 ∧ fr = gc)) from fun bl h => by rw [← h]; simp)
    have HBB := Aside0.mk (HBL.out _ rfl)
    clear HBL
    generalize (decide (gl = 0) && decide (fr = gc)) = bl at HBB ⊢
    generalize W1 = W1' at *
    go_upto_if 41 with fail
    go_cut [7] (fun s7 wx => ∃ (Al : Option Addr) (cl : Nat) (lw : List Wv), s7 = .slice Al lw.length cl ∧ Aside0 (lw.length ≤ 100) ∧ Aside0 (WaysL ws (cloS (decide (gl = 0)) gc ((gl + 3 : Nat) : Int) (· = fr)) 0 lw) ∧ Aside0 (Kd.R kWy 137 wx w.heap.size (fun _ => True) (.slice Al lw.length cl) lw) ∧ Aside0 (Below w.heap.size w wx))
    case first =>
      --< f2
      cases bl with
      | true =>
        have HX := Aside0.mk (HBB.out.1 rfl)
        have HCL := Aside0.mk (lst_calls b gl gp gc G (.map (some bm)) wc (HS.out.below B2.out).s (by have := HB.out; omega))
        go_wp2_with (first
          | (go_at_call 50; refine HCL.out.mono ?_; rintro e w2 ⟨rfl, rfl⟩)
          | (at_builtin
             refine wy_push (w0 := w) w.heap.size _ _ rfl rfl (.slice (some ⟨w.heap.size, 0, none⟩) 1 1) [⟨fr, 0, []⟩] ⟨((gl + 3 : Nat) : Int), 0, []⟩ none 0 0 (fun _ => False) rfl rfl rfl (Kd.R_nil _ _ _ _ _) (fun _ h => h.elim) L2.out B2.out B2.out.size (by simp) ?_
             intro A3 c3 w3 hR3 hB3 hg3 hat3
             have R3 := Aside0.mk hR3
             have B3 := Aside0.mk hB3
             clear hR3 hB3 hg3 hat3)
          | fail)
        go_meet
        exact ⟨A3, c3, [⟨fr, 0, []⟩, ⟨((gl + 3 : Nat) : Int), 0, []⟩], rfl, ⟨by simp⟩, ⟨WaysL.start _ _ _ _ _ _ (.inr ⟨rfl, by simp [HX.out.1], HX.out.2⟩)⟩, R3, B3⟩
      | false =>
        have HX := Aside0.mk (show ¬ (gl = 0 ∧ fr = gc) from fun h => by have := HBB.out.2 h; cases this)
        go_wp2_with fail
        go_meet
        exact ⟨_, _, [⟨fr, 0, []⟩], rfl, ⟨by simp⟩, ⟨WaysL.start _ _ _ _ _ _ (.inl ⟨rfl, fun h => HX.out ⟨by simpa using h.1, h.2⟩⟩)⟩, L2, B2⟩
      --> f2
    case rest =>
      obtain ⟨Ao, co, lo, rfl, LNo, WLo, LRo, BWo⟩ := hcut
      clear L2 HBB B2
      have hbigs : sg.length ≤ 9223372036854775807 := by have := HB.out; omega
      go_wp2_with fail
      go_loopg [7, 50] sg.length (fun gg s7 s50 wr => ∃ (i : Nat) (Al : Option Addr) (cl : Nat) (lw : List Wv), i ≤ sg.length ∧ sg.length - i ≤ gg ∧ s7 = .slice Al lw.length cl ∧ s50 = .int .i64 (i : Int) ∧ Aside0 (lw.length ≤ 100) ∧ Aside0 (WaysL ws (RS (decide (gl = 0)) gc ((gl + 3 : Nat) : Int) (EdE ws) (cloS (decide (gl = 0)) gc ((gl + 3 : Nat) : Int) (· = fr)) (sg.take i)) i lw) ∧ Aside0 (Kd.R kWy 137 wr w.heap.size (fun _ => True) (.slice Al lw.length cl) lw) ∧ Aside0 (Below w.heap.size w wr))
      case atStart => exact ⟨0, Ao, co, lo, Nat.zero_le _, by omega, rfl, rfl, LNo, WLo, LRo, BWo⟩
      case round =>
        obtain ⟨i, Al, cl, lw, hi, hgg, rfl, rfl, LN, WL, LR, BW⟩ := hrel
        clear LNo WLo LRo BWo
        obtain ⟨wo, hwo⟩ : ∃ wo, wo = wr := ⟨_, rfl⟩
        subst hwo
        by_cases hlt : i < sg.length
        · have hltz : (i : Int) < (sg.length : Int) := by omega
          obtain ⟨ads, es, cs0⟩ := int_get (Kd.C_below HR.out BW.out) rfl hlt
          have HSN := Aside0.mk (show RS (decide (gl = 0)) gc ((gl + 3 : Nat) : Int) (EdE ws) (cloS (decide (gl = 0)) gc ((gl + 3 : Nat) : Int) (· = fr)) (sg.take (i + 1)) = cloS (decide (gl = 0)) gc ((gl + 3 : Nat) : Int) (stpS (EdE ws) (RS (decide (gl = 0)) gc ((gl + 3 : Nat) : Int) (EdE ws) (cloS (decide (gl = 0)) gc ((gl + 3 : Nat) : Int) (· = fr)) (sg.take i)) sg[i]) from by
            rw [List.take_succ_eq_append_getElem hlt, RS_app]; rfl)
          have HSI := Aside0.mk (RS_in HO.out (ge := decide (gl = 0)) (gc := gc) (last := ((gl + 3 : Nat) : Int)) (by omega) (sg.take i) (cloS (decide (gl = 0)) gc ((gl + 3 : Nat) : Int) (· = fr)) (fun q hq => by
            have := HB.out
            rcases hq with rfl | ⟨_, _, rfl⟩
            · omega
            · omega))
          have HA := Aside0.mk (HSG.out sg[i] (List.getElem_mem hlt))
          generalize sg[i] = a at cs0 HSN HA
          generalize hRS : (RS (decide (gl = 0)) gc ((gl + 3 : Nat) : Int) (EdE ws) (cloS (decide (gl = 0)) gc ((gl + 3 : Nat) : Int) (· = fr)) (sg.take i)) = S at WL HSN HSI
          clear hRS
          cases es
          go_upto_region 8 with fail
          have BM0 := Aside0.mk ((BmM.made wo w.heap.size).raise (u' := (wo.alloc (.map #[] 0)).heap.size) (by simp) (Nat.le_refl _))
          have BO0 := Aside0.mk (below_alloc (Below.refl wo.heap.size wo) (.map #[] 0))
          generalize wo.alloc (.map #[] 0) = W3 at BM0 BO0 ⊢
          have hbigw : lw.length ≤ 9223372036854775807 := by have := LN.out; omega
          obtain ⟨go, hgo⟩ : ∃ go, go = gk := ⟨_, rfl⟩
          subst hgo
          go_wp2_with fail
          go_loopg [57] lw.length (fun gg s57 wr => ∃ (j : Nat) (bs : List (Int × Bv)), j ≤ lw.length ∧ lw.length - j ≤ gg ∧ s57 = .int .i64 (j : Int) ∧ Aside0 (BestL ws S a i (LookP lw j 0) (bestOf bs)) ∧ Aside0 (BmM wr wo.heap.size w.heap.size wr.heap.size bs) ∧ Aside0 (Below wo.heap.size wo wr))
          case atStart => exact ⟨0, [], Nat.zero_le _, by omega, rfl, ⟨BestL.start ws S a i lw⟩, BM0, BO0⟩
          case round =>
            obtain ⟨j, bs, hj, hgj, rfl, BL, BM, BO⟩ := hrel
            clear BM0 BO0
            by_cases hjl : j < lw.length
            · have hjlz : (j : Int) < (lw.length : Int) := by omega
              obtain ⟨ad2, A1, c1, e2, hoc, hov, y0, y1, y2⟩ := wy_get (Kd.R_reads' LR.out).2.2 rfl hjl
              have z0 := pw_cell_below BO.out y0
              have z1 := pw_cell_below BO.out y1
              have z2 := pw_cell_below BO.out y2
              clear y0 y1 y2
              have HV := Aside0.mk (WL.out.good lw[j] (List.getElem_mem hjl))
              have HVI := Aside0.mk (HSI.out _ HV.out.1)
              generalize hv : lw[j] = v at hoc hov z0 z1 z2 HV HVI
              have HJ := Aside0.mk hv
              have HOV := Aside0.mk hov
              have HOC := Aside0.mk hoc
              clear hv hov hoc
              cases e2
              have B4 := Aside0.mk (below_alloc (Below.refl wr.heap.size wr) (.cells #[.int .i64 v.to_, .int .i64 v.cost, .slice A1 v.over.length c1] 137))
              have X12 := Aside0.mk (blk_new wr (.cells #[.int .i64 v.to_, .int .i64 v.cost, .slice A1 v.over.length c1] 137 (0, 0)))
              have HCS := Aside0.mk (sts_calls b gl gp gc G (.map (some bm)) (wr.alloc (.cells #[.int .i64 v.to_, .int .i64 v.cost, .slice A1 v.over.length c1] 137)) (HS.out.below (below_step (below_step BW.out BO.out) B4.out)).s (by have := HB.out; omega))
              go_wp2_with (go_at_call 116; refine HCS.out.mono ?_; rintro e w5 ⟨rfl, rfl⟩)
              have BM5 := Aside0.mk (BM.out.top B4.out)
              have BO5 := Aside0.mk (below_step BO.out B4.out)
              obtain ⟨b12, hb12⟩ : ∃ b12, b12 = wr.heap.size := ⟨_, rfl⟩
              rw [← hb12] at X12 ⊢
              clear z0 z1 z2 HCS
              obtain ⟨g2, hg2⟩ : ∃ g2, g2 = gk := ⟨_, rfl⟩
              subst hg2
              generalize wr.alloc (.cells #[.int .i64 v.to_, .int .i64 v.cost, .slice A1 v.over.length c1] 137) = W5 at B4 X12 BM5 BO5 ⊢
              clear hb12 B4
              --< l3
              go_loopg [63] (gl + 4) (fun gg s63 wr => ∃ (t : Nat) (bs : List (Int × Bv)), t ≤ gl + 4 ∧ gl + 4 - t ≤ gg ∧ s63 = .int .i64 (t : Int) ∧ Aside0 (BestL ws S a i (LookP lw j t) (bestOf bs)) ∧ Aside0 (BmM wr wo.heap.size w.heap.size wr.heap.size bs) ∧ Aside0 (Below wo.heap.size wo wr) ∧ Aside0 (wr.heap[b12]? = some (.cells #[.int .i64 v.to_, .int .i64 v.cost, .slice A1 v.over.length c1] 137 (0, 0))))
              case atStart => exact ⟨0, bs, Nat.zero_le _, by omega, rfl, ⟨BL.out.imp fun p q hp _ => by
                rcases hp with h | ⟨_, _, _, h3⟩
                · exact .inl h
                · omega⟩, BM5, BO5, X12⟩
              case round =>
                obtain ⟨t, bs, ht, hgt, rfl, BL, BM, BO, X12⟩ := hrel
                clear BM5 BO5
                by_cases htn : t < gl + 4
                · have htz : (t : Int) < ((gl + 4 : Nat) : Int) := by omega
                  have htb : (t : Int) ≤ 100 := by have := HB.out; omega
                  have x12 : wr.cell? ⟨b12, 0, none⟩ = some (.int .i64 v.to_) := (blk_cell X12.out 0).trans rfl
                  have B6 := Aside0.mk (below_alloc (Below.refl wr.heap.size wr) (.cells #[.int .i64 v.to_, .int .i64 a, .int .i64 (t : Int)] 140))
                  have X14 := Aside0.mk (blk_new wr (.cells #[.int .i64 v.to_, .int .i64 a, .int .i64 (t : Int)] 140 (0, 0)))
                  have HEB := Aside0.mk (show okK3 (v.to_, a, (t : Int)) from by
                    have := HB.out; have := HVI.out; have := HA.out
                    exact ⟨⟨by simp only []; omega, by simp only []; omega⟩, ⟨by simp only []; omega, by simp only []; omega⟩, by simp only []; omega, by simp only []; omega⟩)
                  go_upto_region 15 with fail
                  clear x12
                  obtain ⟨b14, hb14⟩ : ∃ b14, b14 = wr.heap.size := ⟨_, rfl⟩
                  rw [← hb14] at X14 ⊢
                  generalize wr.alloc (.cells #[.int .i64 v.to_, .int .i64 a, .int .i64 (t : Int)] 140) = W6 at B6 X14 ⊢
                  have BM6 := Aside0.mk (BM.out.top B6.out)
                  have BO6 := Aside0.mk (below_step BO.out B6.out)
                  have X126 := Aside0.mk (blk_below X12.out B6.out)
                  have HS6 := Aside0.mk (HS.out.below (below_step BW.out BO6.out))
                  clear hb14 B6 BM BO X12
                  have p0 : W6.cell? ⟨b14, 0, none⟩ = some (.int .i64 v.to_) := (blk_cell X14.out 0).trans rfl
                  have p1 : W6.cell? ⟨b14, 1, none⟩ = some (.int .i64 a) := (blk_cell X14.out 1).trans rfl
                  have p2 : W6.cell? ⟨b14, 2, none⟩ = some (.int .i64 (t : Int)) := (blk_cell X14.out 2).trans rfl
                  have p3 : W6.cell? ⟨b, 2, none⟩ = some (.map (some bm)) := (blk_cell HS6.out.s 2).trans rfl
                  obtain ⟨kk, hkk⟩ : ∃ kk, kk = (lkG ws (v.to_, a, (t : Int))).getD kn0 := ⟨_, rfl⟩
                  obtain ⟨ok, hok⟩ : ∃ ok, ok = (lkG ws (v.to_, a, (t : Int))).isSome := ⟨_, rfl⟩
                  have HMS := Aside0.mk (show ∀ W', Below W6.heap.size W6 W' → (fun W' => W'.cell? ⟨b, 2, none⟩ = some (.map (some bm)) ∧ W'.cell? ⟨b14, 0, none⟩ = some (.int .i64 v.to_) ∧ W'.cell? ⟨b14, 1, none⟩ = some (.int .i64 a) ∧ W'.cell? ⟨b14, 2, none⟩ = some (.int .i64 (t : Int)) ∧ (Instr.lookup 222 (.map (some bm)) (.agg #[.int .i64 v.to_, .int .i64 a, .int .i64 (t : Int)]) true).run Try.prog W' = .ok (.tuple #[.agg #[.int .i64 kk.rule, .int .i64 kk.cost, .slice kk.A kk.over.length kk.c], .bool ok]) W') W' from fun W' hb => ⟨pw_cell_below hb p3, pw_cell_below hb p0, pw_cell_below hb p1, pw_cell_below hb p2, by
                    have := edge_look2 (HS6.out.below hb).m E1.out E2.out (v.to_, a, (t : Int)) HEB.out
                    rw [← hkk, ← hok] at this
                    exact this⟩)
                  have HKK := Aside0.mk hkk
                  have HOK := Aside0.mk hok
                  clear hkk hok
                  refine wp_region_held_drew (S := (fun W' => W'.cell? ⟨b, 2, none⟩ = some (.map (some bm)) ∧ W'.cell? ⟨b14, 0, none⟩ = some (.int .i64 v.to_) ∧ W'.cell? ⟨b14, 1, none⟩ = some (.int .i64 a) ∧ W'.cell? ⟨b14, 2, none⟩ = some (.int .i64 (t : Int)) ∧ (Instr.lookup 222 (.map (some bm)) (.agg #[.int .i64 v.to_, .int .i64 a, .int .i64 (t : Int)]) true).run Try.prog W' = .ok (.tuple #[.agg #[.int .i64 kk.rule, .int .i64 kk.cost, .slice kk.A kk.over.length kk.c], .bool ok]) W')) (by kernel_rfl) ?_ (fun hHeld => ?_)
                  · (try dsimp only); (first | (refine HMS.out _ ?_; (repeat (first | exact Below.refl _ _ | apply below_drew1 | apply below_alloc)); done) | fail)
                  refine wpAnyH_take (i := 0) (v := ?_) rfl (by kernel_rfl) (by kernel_rfl) (by kernel_rfl) (fun _ _ _ h => h) (Or.inl ⟨by kernel_rfl, ?_⟩) (by assumption) ?_
                  rotate_left 1
                  · intro w hSw; (try dsimp only at hSw); go_simp; (try with_reducible rfl)
                  (try simp only [Act.put, List.getElem_toArray, List.getElem_cons_zero, List.getElem_cons_succ, List.setIfInBounds_toArray, List.set_cons_zero, List.set_cons_succ])
                  refine wpAnyH_take (i := 1) (v := ?_) rfl (by kernel_rfl) (by kernel_rfl) (by kernel_rfl) (fun _ _ _ h => h) (Or.inl ⟨by kernel_rfl, ?_⟩) (by assumption) ?_
                  rotate_left 1
                  · intro w hSw; (try dsimp only at hSw); go_simp; (try with_reducible rfl)
                  (try simp only [Act.put, List.getElem_toArray, List.getElem_cons_zero, List.getElem_cons_succ, List.setIfInBounds_toArray, List.set_cons_zero, List.set_cons_succ])
                  refine wpAnyH_take (i := 2) (v := ?_) rfl (by kernel_rfl) (by kernel_rfl) (by kernel_rfl) (fun _ _ _ h => h) (Or.inl ⟨by kernel_rfl, ?_⟩) (by assumption) ?_
                  rotate_left 1
                  · intro w hSw; (try dsimp only at hSw); go_simp; (try with_reducible rfl)
                  (try simp only [Act.put, List.getElem_toArray, List.getElem_cons_zero, List.getElem_cons_succ, List.setIfInBounds_toArray, List.set_cons_zero, List.set_cons_succ])
                  refine wpAnyH_take (i := 3) (v := ?_) rfl (by kernel_rfl) (by kernel_rfl) (by kernel_rfl) (fun _ _ _ h => h) (Or.inl ⟨by kernel_rfl, ?_⟩) (by assumption) ?_
                  rotate_left 1
                  · intro w hSw; (try dsimp only at hSw); go_simp; (try with_reducible rfl)
                  (try simp only [Act.put, List.getElem_toArray, List.getElem_cons_zero, List.getElem_cons_succ, List.setIfInBounds_toArray, List.set_cons_zero, List.set_cons_succ])
                  refine wpAnyH_take (i := 4) (v := ?_) rfl (by kernel_rfl) (by kernel_rfl) (by kernel_rfl) (fun _ _ _ h => h) (Or.inl ⟨by kernel_rfl, ?_⟩) (by assumption) ?_
                  rotate_left 1
                  · intro w hSw; (try dsimp only at hSw); go_simp; (try with_reducible rfl)
                  (try simp only [Act.put, List.getElem_toArray, List.getElem_cons_zero, List.getElem_cons_succ, List.setIfInBounds_toArray, List.set_cons_zero, List.set_cons_succ])
                  refine wpAnyH_take (i := 5) (v := ?_) rfl (by kernel_rfl) (by kernel_rfl) (by kernel_rfl) (fun _ _ _ h => h) (Or.inl ⟨by kernel_rfl, ?_⟩) (by assumption) ?_
                  rotate_left 1
                  · intro w hSw; (try dsimp only at hSw); go_simp; (try with_reducible rfl)
                  (try simp only [Act.put, List.getElem_toArray, List.getElem_cons_zero, List.getElem_cons_succ, List.setIfInBounds_toArray, List.set_cons_zero, List.set_cons_succ])
                  refine wpAnyH_take (i := 6) (v := ?_) rfl (by kernel_rfl) (by kernel_rfl) (by kernel_rfl) (fun _ _ _ h => h) (Or.inl ⟨by kernel_rfl, ?_⟩) (by assumption) ?_
                  rotate_left 1
                  · intro w hSw; (try dsimp only at hSw); go_simp; (try with_reducible rfl)
                  (try simp only [Act.put, List.getElem_toArray, List.getElem_cons_zero, List.getElem_cons_succ, List.setIfInBounds_toArray, List.set_cons_zero, List.set_cons_succ])
                  refine wpAnyH_take (i := 7) (v := ?_) rfl (by kernel_rfl) (by kernel_rfl) (by kernel_rfl) (fun _ _ _ h => h) (Or.inl ⟨by kernel_rfl, ?_⟩) (by assumption) ?_
                  rotate_left 1
                  · intro w hSw; (try dsimp only at hSw); go_simp; (try with_reducible rfl)
                  (try simp only [Act.put, List.getElem_toArray, List.getElem_cons_zero, List.getElem_cons_succ, List.setIfInBounds_toArray, List.set_cons_zero, List.set_cons_succ])
                  refine wpAnyH_take (i := 8) (v := ?_) rfl (by kernel_rfl) (by kernel_rfl) (by kernel_rfl) (fun _ _ _ h => h) (Or.inl ⟨by kernel_rfl, ?_⟩) (by assumption) ?_
                  rotate_left 1
                  · intro w hSw; (try dsimp only at hSw); go_simp; (try with_reducible rfl)
                  (try simp only [Act.put, List.getElem_toArray, List.getElem_cons_zero, List.getElem_cons_succ, List.setIfInBounds_toArray, List.set_cons_zero, List.set_cons_succ])
                  refine wpAnyH_ready (rs := [9]) (by kernel_rfl) (by simp) ?_
                  refine AllReadyH.cons rfl (fun K hK => ?_) AllReadyH.nil
                  rw [if_pos (by kernel_rfl)]
                  go_simp
                  (try go_simp)
                  refine hK.out _ _ ?_ (fun hHeld => ?_)
                  · (try dsimp only); (first | (refine HMS.out _ ?_; (repeat (first | exact Below.refl _ _ | apply below_drew1 | apply below_alloc)); done) | fail)
                  clear hK K
                  (try simp only [Act.put, List.getElem_toArray, List.getElem_cons_zero, List.getElem_cons_succ, List.setIfInBounds_toArray, List.set_cons_zero, List.set_cons_succ])
                  refine wpAnyH_ready (rs := [10]) (by kernel_rfl) (by simp) ?_
                  refine AllReadyH.cons rfl (fun K hK => ?_) AllReadyH.nil
                  rw [if_pos (by kernel_rfl)]
                  go_simp
                  (try go_simp)
                  refine hK.out _ _ ?_ (fun hHeld => ?_)
                  · (try dsimp only); (first | (refine HMS.out _ ?_; (repeat (first | exact Below.refl _ _ | apply below_drew1 | apply below_alloc)); done) | fail)
                  clear hK K
                  (try simp only [Act.put, List.getElem_toArray, List.getElem_cons_zero, List.getElem_cons_succ, List.setIfInBounds_toArray, List.set_cons_zero, List.set_cons_succ])
                  refine wpAnyH_take (i := 11) (v := ?_) rfl (by kernel_rfl) (by kernel_rfl) (by kernel_rfl) (fun _ _ _ h => h) (Or.inl ⟨by kernel_rfl, ?_⟩) (by assumption) ?_
                  rotate_left 1
                  · intro w hSw; (try dsimp only at hSw); go_simp; (try with_reducible rfl)
                  (try simp only [Act.put, List.getElem_toArray, List.getElem_cons_zero, List.getElem_cons_succ, List.setIfInBounds_toArray, List.set_cons_zero, List.set_cons_succ])
                  refine wpAnyH_done (by kernel_rfl) ?_ _
                  have B7 := Aside0.mk (show Below W6.heap.size W6 (W6.alloc (.cells #[.int .i64 kk.rule, .int .i64 kk.cost, .slice kk.A kk.over.length kk.c] 226)).drew from below_drew1 (below_alloc (Below.refl _ _) _))
                  have X15 := Aside0.mk (show (W6.alloc (.cells #[.int .i64 kk.rule, .int .i64 kk.cost, .slice kk.A kk.over.length kk.c] 226)).drew.heap[W6.heap.size]? = some (.cells #[.int .i64 kk.rule, .int .i64 kk.cost, .slice kk.A kk.over.length kk.c] 226 (0, 0)) from blk_new W6 _)
                  obtain ⟨b15, hb15⟩ : ∃ b15, b15 = W6.heap.size := ⟨_, rfl⟩
                  go_upto_region 16 with fail
                  generalize (W6.alloc (.cells #[.int .i64 kk.rule, .int .i64 kk.cost, .slice kk.A kk.over.length kk.c] 226)).drew = W7 at B7 X15 ⊢
                  rw [← hb15] at X15 ⊢
                  have BM7 := Aside0.mk (BM6.out.top B7.out)
                  have BO7 := Aside0.mk (below_step BO6.out B7.out)
                  have X127 := Aside0.mk (blk_below X126.out B7.out)
                  have X147 := Aside0.mk (blk_below X14.out B7.out)
                  clear hb15 p0 p1 p2 p3 HMS BM6 BO6 X126 X14 B7 HS6
                  cases ok with
                  | false =>
                    --< nok
                    have HBL := Aside0.mk (BL.out.skip (p := v.to_) (q := (t : Int)) (fun p' q' h => by rw [← HJ.out]; exact LookP.step hjl h) (.inl (fun h => by have := HOK.out; unfold EdE at h; rw [h] at this; cases this)))
                    go_wp2_with fail
                    go_roundg (gl + 4 - (t + 1))
                    case measure => omega
                    case rel => exact ⟨t + 1, bs, by omega, by omega, by go_num, HBL, BM7, BO7, X127⟩
                    --> nok
                  | true =>
                    obtain ⟨k0, hk0⟩ := Option.isSome_iff_exists.1 HOK.out.symm
                    obtain rfl : kk = k0 := by have := HKK.out; rw [hk0] at this; exact this
                    have HK := Aside0.mk hk0
                    have HKC := Aside0.mk (HO.out.cost _ _ hk0)
                    clear hk0 HKK HOK
                    obtain ⟨sm, hsm⟩ : ∃ sm : Int, sm = v.cost + kk.cost := ⟨_, rfl⟩
                    obtain ⟨nc, hnc⟩ : ∃ nc : Int, nc = min sm 1099511627776 := ⟨_, rfl⟩
                    have HG := Aside0.mk (show GoodW ws (i + 1) ⟨(t : Int), nc, v.over ++ [(v.to_, a, (t : Int))]⟩ from by rw [hnc, hsm]; exact HV.out.2.ext HO.out HK.out (t : Int))
                    have HVC := Aside0.mk (show 0 ≤ v.cost ∧ v.cost ≤ 1099511627776 from ⟨HV.out.2.lo, HV.out.2.hi⟩)
                    have HLV := Aside0.mk HV.out.2.len
                    have hw : IntKind.i64.wrap (v.cost + kk.cost) = sm := (IntWalk.i64_in _ (by have := HKC.out; have := HVC.out; unfold endC at *; omega)).trans hsm.symm
                    have hmin : min sm 1099511627776 = nc := hnc.symm
                    have hov : Kd.C kEk W7 A1 v.over.length v.over := Kd.C_below HOV.out BO7.out
                    clear hsm hnc
                    have p0 : W7.cell? ⟨b12, 1, none⟩ = some (.int .i64 v.cost) := (blk_cell X127.out 1).trans rfl
                    have p1 : W7.cell? ⟨b12, 2, none⟩ = some (.slice A1 v.over.length c1) := (blk_cell X127.out 2).trans rfl
                    have p2 : W7.cell? ⟨b15, 1, none⟩ = some (.int .i64 kk.cost) := (blk_cell X15.out 1).trans rfl
                    have p3 : W7.cell? ⟨b14, 0, none⟩ = some (.int .i64 v.to_) := (blk_cell X147.out 0).trans rfl
                    have p4 : W7.cell? ⟨b14, 1, none⟩ = some (.int .i64 a) := (blk_cell X147.out 1).trans rfl
                    have p5 : W7.cell? ⟨b14, 2, none⟩ = some (.int .i64 (t : Int)) := (blk_cell X147.out 2).trans rfl
                    have HMS := Aside0.mk (show ∀ W', Below W7.heap.size W7 W' → (fun W' => W'.cell? ⟨b12, 1, none⟩ = some (.int .i64 v.cost) ∧ W'.cell? ⟨b12, 2, none⟩ = some (.slice A1 v.over.length c1) ∧ W'.cell? ⟨b15, 1, none⟩ = some (.int .i64 kk.cost) ∧ W'.cell? ⟨b14, 0, none⟩ = some (.int .i64 v.to_) ∧ W'.cell? ⟨b14, 1, none⟩ = some (.int .i64 a) ∧ W'.cell? ⟨b14, 2, none⟩ = some (.int .i64 (t : Int))) W' from fun W' hb => ⟨pw_cell_below hb p0, pw_cell_below hb p1, pw_cell_below hb p2, pw_cell_below hb p3, pw_cell_below hb p4, pw_cell_below hb p5⟩)
                    have HCLO := Aside0.mk (fun (W' : World) (hb : Below W7.heap.size W7 W') => clone_ek A1 c1 v.over W' (Kd.C_below hov hb) (by have := HLV.out; have := HB.out; omega))
                    have HL7 := Aside0.mk (show w.heap.size ≤ W7.heap.size ∧ v.over.length ≤ 1000 from ⟨(below_step BW.out (BO7.out)).size, by have := HLV.out; have := HB.out; omega⟩)
                    clear hov
                    go_upto_region 17 with fail
                    go_cut [17] (fun s17 wx => ∃ (A17 : Option Addr) (c17 b17 : Nat), s17 = .pointer (some ⟨b17, 0, none⟩) ∧ Aside0 (W17 W7 wx w.heap.size ⟨(t : Int), nc, v.over ++ [(v.to_, a, (t : Int))]⟩ b17 A17 c17))
                    case first =>
                      --< r17
                      have H0 := Aside0.mk ((P17.start W7 v.over v.to_ a (t : Int)).drew)
                      refine wp_region_held_drew (S := (fun W' => W'.cell? ⟨b12, 1, none⟩ = some (.int .i64 v.cost) ∧ W'.cell? ⟨b12, 2, none⟩ = some (.slice A1 v.over.length c1) ∧ W'.cell? ⟨b15, 1, none⟩ = some (.int .i64 kk.cost) ∧ W'.cell? ⟨b14, 0, none⟩ = some (.int .i64 v.to_) ∧ W'.cell? ⟨b14, 1, none⟩ = some (.int .i64 a) ∧ W'.cell? ⟨b14, 2, none⟩ = some (.int .i64 (t : Int)))) (by kernel_rfl) ?_ (fun hHeld => ?_)
                      · (try dsimp only); (first | exact HMS.out _ H0.out.b | exact HMS.out _ (below_alloc H0.out.b _) | exact HMS.out _ (below_drew1 (Below.refl _ _)) | exact HMS.out _ ((turned3 _ _ _ _ _).below H0.out.b (H0.out.x _ rfl).1) | fail)
                      generalize W7.drew = W8 at hHeld H0 ⊢
                      refine wpAnyH_take (i := 0) (v := ?_) rfl (by kernel_rfl) (by kernel_rfl) (by kernel_rfl) (fun _ _ _ h => h) (Or.inl ⟨by kernel_rfl, ?_⟩) (by assumption) ?_
                      rotate_left 1
                      · intro w hSw; (try dsimp only at hSw); go_simp; (try with_reducible rfl)
                      (try simp only [Act.put, List.getElem_toArray, List.getElem_cons_zero, List.getElem_cons_succ, List.setIfInBounds_toArray, List.set_cons_zero, List.set_cons_succ])
                      refine wpAnyH_take (i := 1) (v := ?_) rfl (by kernel_rfl) (by kernel_rfl) (by kernel_rfl) (fun _ _ _ h => h) (Or.inl ⟨by kernel_rfl, ?_⟩) (by assumption) ?_
                      rotate_left 1
                      · intro w hSw; (try dsimp only at hSw); go_simp; (try with_reducible rfl)
                      (try simp only [Act.put, List.getElem_toArray, List.getElem_cons_zero, List.getElem_cons_succ, List.setIfInBounds_toArray, List.set_cons_zero, List.set_cons_succ])
                      refine wpAnyH_take (i := 2) (v := ?_) rfl (by kernel_rfl) (by kernel_rfl) (by kernel_rfl) (fun _ _ _ h => h) (Or.inl ⟨by kernel_rfl, ?_⟩) (by assumption) ?_
                      rotate_left 1
                      · intro w hSw; (try dsimp only at hSw); go_simp; (try with_reducible rfl)
                      (try simp only [Act.put, List.getElem_toArray, List.getElem_cons_zero, List.getElem_cons_succ, List.setIfInBounds_toArray, List.set_cons_zero, List.set_cons_succ])
                      refine wpAnyH_take (i := 3) (v := ?_) rfl (by kernel_rfl) (by kernel_rfl) (by kernel_rfl) (fun _ _ _ h => h) (Or.inl ⟨by kernel_rfl, ?_⟩) (by assumption) ?_
                      rotate_left 1
                      · intro w hSw; (try dsimp only at hSw); go_simp; (try with_reducible rfl)
                      (try simp only [Act.put, List.getElem_toArray, List.getElem_cons_zero, List.getElem_cons_succ, List.setIfInBounds_toArray, List.set_cons_zero, List.set_cons_succ])
                      refine wpAnyH_take (i := 4) (v := ?_) rfl (by kernel_rfl) (by kernel_rfl) (by kernel_rfl) (fun _ _ _ h => h) (Or.inl ⟨by kernel_rfl, ?_⟩) (by assumption) ?_
                      rotate_left 1
                      · intro w hSw; (try dsimp only at hSw); go_simp; (try with_reducible rfl)
                      (try simp only [Act.put, List.getElem_toArray, List.getElem_cons_zero, List.getElem_cons_succ, List.setIfInBounds_toArray, List.set_cons_zero, List.set_cons_succ])
                      refine wpAnyH_take (i := 5) (v := ?_) rfl (by kernel_rfl) (by kernel_rfl) (by kernel_rfl) (fun _ _ _ h => h) (Or.inl ⟨by kernel_rfl, ?_⟩) (by assumption) ?_
                      rotate_left 1
                      · intro w hSw; (try dsimp only at hSw); go_simp; (try with_reducible rfl)
                      (try simp only [Act.put, List.getElem_toArray, List.getElem_cons_zero, List.getElem_cons_succ, List.setIfInBounds_toArray, List.set_cons_zero, List.set_cons_succ])
                      refine wpAnyH_take (i := 6) (v := ?_) rfl (by kernel_rfl) (by kernel_rfl) (by kernel_rfl) (fun _ _ _ h => h) (Or.inl ⟨by kernel_rfl, ?_⟩) (by assumption) ?_
                      rotate_left 1
                      · intro w hSw; (try dsimp only at hSw); go_simp; (try with_reducible rfl)
                      (try simp only [Act.put, List.getElem_toArray, List.getElem_cons_zero, List.getElem_cons_succ, List.setIfInBounds_toArray, List.set_cons_zero, List.set_cons_succ])
                      refine wpAnyH_take (i := 7) (v := ?_) rfl (by kernel_rfl) (by kernel_rfl) (by kernel_rfl) (fun _ _ _ h => h) (Or.inl ⟨by kernel_rfl, ?_⟩) (by assumption) ?_
                      rotate_left 1
                      · intro w hSw; (try dsimp only at hSw); go_simp; (try with_reducible rfl)
                      (try simp only [Act.put, List.getElem_toArray, List.getElem_cons_zero, List.getElem_cons_succ, List.setIfInBounds_toArray, List.set_cons_zero, List.set_cons_succ])
                      refine wpAnyH_take (i := 8) (v := ?_) rfl (by kernel_rfl) (by kernel_rfl) (by kernel_rfl) (fun _ _ _ h => h) (Or.inl ⟨by kernel_rfl, ?_⟩) (by assumption) ?_
                      rotate_left 1
                      · intro w hSw; (try dsimp only at hSw); go_simp; (try with_reducible rfl)
                      (try simp only [Act.put, List.getElem_toArray, List.getElem_cons_zero, List.getElem_cons_succ, List.setIfInBounds_toArray, List.set_cons_zero, List.set_cons_succ])
                      refine wpAnyH_take (i := 10) (v := ?_) rfl (by kernel_rfl) (by kernel_rfl) (by kernel_rfl) (fun _ _ _ h => h) (Or.inl ⟨by kernel_rfl, ?_⟩) (by assumption) ?_
                      rotate_left 1
                      · intro w hSw; (try dsimp only at hSw); go_simp; (try with_reducible rfl)
                      (try simp only [Act.put, List.getElem_toArray, List.getElem_cons_zero, List.getElem_cons_succ, List.setIfInBounds_toArray, List.set_cons_zero, List.set_cons_succ])
                      refine wpAnyH_ready (rs := [9, 11, 14]) (by kernel_rfl) (by simp) ?_
                      refine AllReadyH.cons rfl (fun K hK => ?_) (AllReadyH.cons rfl (fun K hK => ?_) (AllReadyH.cons rfl (fun K hK => ?_) AllReadyH.nil))
                      · rw [if_pos (by kernel_rfl)]
                        go_simp
                        go_at_call 117
                        refine (HCLO.out _ H0.out.b).mono ?_
                        rintro e' Wo9 ⟨v9, rfl, hR9, hB9⟩
                        obtain ⟨A9, c9, rfl⟩ := Kd.R_slice hR9
                        replace H0 := Aside0.mk (H0.out.clone hR9 hB9)
                        clear hR9 hB9
                        (try go_simp)
                        refine hK.out _ _ ?_ (fun hHeld => ?_)
                        · (try dsimp only); (first | exact HMS.out _ H0.out.b | exact HMS.out _ (below_alloc H0.out.b _) | exact HMS.out _ (below_drew1 (Below.refl _ _)) | exact HMS.out _ ((turned3 _ _ _ _ _).below H0.out.b (H0.out.x _ rfl).1) | fail)
                        clear hK K
                        (try simp only [Act.put, List.getElem_toArray, List.getElem_cons_zero, List.getElem_cons_succ, List.setIfInBounds_toArray, List.set_cons_zero, List.set_cons_succ])
                        refine wpAnyH_ready (rs := [11, 14]) (by kernel_rfl) (by simp) ?_
                        refine AllReadyH.cons rfl (fun K hK => ?_) (AllReadyH.cons rfl (fun K hK => ?_) AllReadyH.nil)
                        · rw [if_pos (by kernel_rfl)]
                          go_simp
                          (try go_simp)
                          refine hK.out _ _ ?_ (fun hHeld => ?_)
                          · (try dsimp only); (first | exact HMS.out _ H0.out.b | exact HMS.out _ (below_alloc H0.out.b _) | exact HMS.out _ (below_drew1 (Below.refl _ _)) | exact HMS.out _ ((turned3 _ _ _ _ _).below H0.out.b (H0.out.x _ rfl).1) | fail)
                          clear hK K
                          (try simp only [Act.put, List.getElem_toArray, List.getElem_cons_zero, List.getElem_cons_succ, List.setIfInBounds_toArray, List.set_cons_zero, List.set_cons_succ])
                          replace H0 := Aside0.mk H0.out.lit
                          generalize Wo9.alloc (.cells #[.int .i64 v.to_, .int .i64 a, .int .i64 (t : Int)] 140) = Wo11 at hHeld H0 ⊢
                          obtain ⟨lb, hlb⟩ : ∃ lb, lb = Wo9.heap.size := ⟨_, rfl⟩
                          rw [← hlb] at H0 ⊢
                          clear hlb
                          refine wpAnyH_ready (rs := [12, 14]) (by kernel_rfl) (by simp) ?_
                          refine AllReadyH.cons rfl (fun K hK => ?_) (AllReadyH.cons rfl (fun K hK => ?_) AllReadyH.nil)
                          · refine' Kd.R_append_rows_step kEk (w0 := W7) W7.heap.size (by rfl) _ _ 135 140 (.agg #[.int .i64 0, .int .i64 0, .int .i64 0]) 24 rfl Try.underlying135 info_ek rfl (by decide) (by decide) (.slice A9 v.over.length c9) v.over [(v.to_, a, (t : Int))] (some ⟨lb, 0, none⟩) 1 1 (fun _ => True) (fun _ => False) (by rfl) (by rfl) (H0.out.r _ _ rfl) H0.out.row (fun _ _ h => h) (fun _ h => h.elim) (fun _ _ => trivial) H0.out.b H0.out.b.size (by have := HL7.out; omega) ?_
                            intro v12 Wo12 hR12 hB12 hg12 _
                            obtain ⟨A12, c12, rfl⟩ := Kd.R_slice hR12
                            replace H0 := Aside0.mk (H0.out.push hR12 hB12 hg12)
                            clear hR12 hB12 hg12
                            (try go_simp)
                            refine hK.out _ _ ?_ (fun hHeld => ?_)
                            · (try dsimp only); (first | exact HMS.out _ H0.out.b | exact HMS.out _ (below_alloc H0.out.b _) | exact HMS.out _ (below_drew1 (Below.refl _ _)) | exact HMS.out _ ((turned3 _ _ _ _ _).below H0.out.b (H0.out.x _ rfl).1) | fail)
                            clear hK K
                            (try simp only [Act.put, List.getElem_toArray, List.getElem_cons_zero, List.getElem_cons_succ, List.setIfInBounds_toArray, List.set_cons_zero, List.set_cons_succ])
                            refine wpAnyH_take (i := 13) (v := ?_) rfl (by kernel_rfl) (by kernel_rfl) (by kernel_rfl) (fun _ _ _ h => h) (Or.inl ⟨by kernel_rfl, ?_⟩) (by assumption) ?_
                            rotate_left 1
                            · intro w hSw; (try dsimp only at hSw); go_simp; (try with_reducible rfl)
                            (try simp only [Act.put, List.getElem_toArray, List.getElem_cons_zero, List.getElem_cons_succ, List.setIfInBounds_toArray, List.set_cons_zero, List.set_cons_succ])
                            refine wpAnyH_ready (rs := [14]) (by kernel_rfl) (by simp) ?_
                            refine AllReadyH.cons rfl (fun K hK => ?_) AllReadyH.nil
                            rw [if_pos (by kernel_rfl)]
                            go_simp
                            (try go_simp)
                            refine hK.out _ _ ?_ (fun hHeld => ?_)
                            · (try dsimp only); (first | exact HMS.out _ H0.out.b | exact HMS.out _ (below_alloc H0.out.b _) | exact HMS.out _ (below_drew1 (Below.refl _ _)) | exact HMS.out _ ((turned3 _ _ _ _ _).below H0.out.b (H0.out.x _ rfl).1) | fail)
                            clear hK K
                            (try simp only [Act.put, List.getElem_toArray, List.getElem_cons_zero, List.getElem_cons_succ, List.setIfInBounds_toArray, List.set_cons_zero, List.set_cons_succ])
                            replace H0 := Aside0.mk H0.out.box
                            generalize Wo12.alloc (.cells #[.int .i64 0, .int .i64 0, .slice none 0 0] 137) = Wo14 at hHeld H0 ⊢
                            obtain ⟨bx, hbx⟩ : ∃ bx, bx = Wo12.heap.size := ⟨_, rfl⟩
                            rw [← hbx] at H0 ⊢
                            clear hbx
                            refine wpAnyH_ready (rs := [15]) (by kernel_rfl) (by simp) ?_
                            refine AllReadyH.cons rfl (fun K hK => ?_) AllReadyH.nil
                            have z0 : Wo14.cell? ⟨bx, 0, none⟩ = some (.int .i64 0) := (blk_cell (H0.out.x _ rfl).2 0).trans rfl
                            have z1 : Wo14.cell? ⟨bx, 1, none⟩ = some (.int .i64 0) := (blk_cell (H0.out.x _ rfl).2 1).trans rfl
                            have z2 : Wo14.cell? ⟨bx, 2, none⟩ = some (.slice none 0 0) := (blk_cell (H0.out.x _ rfl).2 2).trans rfl
                            have f0 := blk_frozen (H0.out.x _ rfl).2 0
                            have f1 := blk_frozen (H0.out.x _ rfl).2 1
                            have f2 := blk_frozen (H0.out.x _ rfl).2 2
                            rw [if_pos (by kernel_rfl)]
                            go_simp
                            (try go_simp)
                            refine hK.out _ _ ?_ (fun hHeld => ?_)
                            · (try dsimp only); (first | exact HMS.out _ H0.out.b | exact HMS.out _ (below_alloc H0.out.b _) | exact HMS.out _ (below_drew1 (Below.refl _ _)) | exact HMS.out _ ((turned3 _ _ _ _ _).below H0.out.b (H0.out.x _ rfl).1) | fail)
                            clear hK K
                            (try simp only [Act.put, List.getElem_toArray, List.getElem_cons_zero, List.getElem_cons_succ, List.setIfInBounds_toArray, List.set_cons_zero, List.set_cons_succ])
                            refine wpAnyH_done (by kernel_rfl) ?_ _
                            go_wp2_with fail
                            go_meet
                            exact ⟨_, _, _, rfl, ⟨P17.done (n := v.over.length + 1) (v := ⟨(t : Int), nc, v.over ++ [(v.to_, a, (t : Int))]⟩) H0.out (by simp) HL7.out.1⟩⟩
                          · rw [if_pos (by kernel_rfl)]
                            go_simp
                            (try go_simp)
                            refine hK.out _ _ ?_ (fun hHeld => ?_)
                            · (try dsimp only); (first | exact HMS.out _ H0.out.b | exact HMS.out _ (below_alloc H0.out.b _) | exact HMS.out _ (below_drew1 (Below.refl _ _)) | exact HMS.out _ ((turned3 _ _ _ _ _).below H0.out.b (H0.out.x _ rfl).1) | fail)
                            clear hK K
                            (try simp only [Act.put, List.getElem_toArray, List.getElem_cons_zero, List.getElem_cons_succ, List.setIfInBounds_toArray, List.set_cons_zero, List.set_cons_succ])
                            replace H0 := Aside0.mk H0.out.box
                            generalize Wo11.alloc (.cells #[.int .i64 0, .int .i64 0, .slice none 0 0] 137) = Wo14 at hHeld H0 ⊢
                            obtain ⟨bx, hbx⟩ : ∃ bx, bx = Wo11.heap.size := ⟨_, rfl⟩
                            rw [← hbx] at H0 ⊢
                            clear hbx
                            refine wpAnyH_ready (rs := [12]) (by kernel_rfl) (by simp) ?_
                            refine AllReadyH.cons rfl (fun K hK => ?_) AllReadyH.nil
                            refine' Kd.R_append_rows_step kEk (w0 := W7) W7.heap.size (by rfl) _ _ 135 140 (.agg #[.int .i64 0, .int .i64 0, .int .i64 0]) 24 rfl Try.underlying135 info_ek rfl (by decide) (by decide) (.slice A9 v.over.length c9) v.over [(v.to_, a, (t : Int))] (some ⟨lb, 0, none⟩) 1 1 (fun _ => True) (fun _ => False) (by rfl) (by rfl) (H0.out.r _ _ rfl) H0.out.row (fun _ _ h => h) (fun _ h => h.elim) (fun _ _ => trivial) H0.out.b H0.out.b.size (by have := HL7.out; omega) ?_
                            intro v12 Wo12 hR12 hB12 hg12 _
                            obtain ⟨A12, c12, rfl⟩ := Kd.R_slice hR12
                            replace H0 := Aside0.mk (H0.out.push hR12 hB12 hg12)
                            clear hR12 hB12 hg12
                            (try go_simp)
                            refine hK.out _ _ ?_ (fun hHeld => ?_)
                            · (try dsimp only); (first | exact HMS.out _ H0.out.b | exact HMS.out _ (below_alloc H0.out.b _) | exact HMS.out _ (below_drew1 (Below.refl _ _)) | exact HMS.out _ ((turned3 _ _ _ _ _).below H0.out.b (H0.out.x _ rfl).1) | fail)
                            clear hK K
                            (try simp only [Act.put, List.getElem_toArray, List.getElem_cons_zero, List.getElem_cons_succ, List.setIfInBounds_toArray, List.set_cons_zero, List.set_cons_succ])
                            refine wpAnyH_take (i := 13) (v := ?_) rfl (by kernel_rfl) (by kernel_rfl) (by kernel_rfl) (fun _ _ _ h => h) (Or.inl ⟨by kernel_rfl, ?_⟩) (by assumption) ?_
                            rotate_left 1
                            · intro w hSw; (try dsimp only at hSw); go_simp; (try with_reducible rfl)
                            (try simp only [Act.put, List.getElem_toArray, List.getElem_cons_zero, List.getElem_cons_succ, List.setIfInBounds_toArray, List.set_cons_zero, List.set_cons_succ])
                            refine wpAnyH_ready (rs := [15]) (by kernel_rfl) (by simp) ?_
                            refine AllReadyH.cons rfl (fun K hK => ?_) AllReadyH.nil
                            have z0 : Wo12.cell? ⟨bx, 0, none⟩ = some (.int .i64 0) := (blk_cell (H0.out.x _ rfl).2 0).trans rfl
                            have z1 : Wo12.cell? ⟨bx, 1, none⟩ = some (.int .i64 0) := (blk_cell (H0.out.x _ rfl).2 1).trans rfl
                            have z2 : Wo12.cell? ⟨bx, 2, none⟩ = some (.slice none 0 0) := (blk_cell (H0.out.x _ rfl).2 2).trans rfl
                            have f0 := blk_frozen (H0.out.x _ rfl).2 0
                            have f1 := blk_frozen (H0.out.x _ rfl).2 1
                            have f2 := blk_frozen (H0.out.x _ rfl).2 2
                            rw [if_pos (by kernel_rfl)]
                            go_simp
                            (try go_simp)
                            refine hK.out _ _ ?_ (fun hHeld => ?_)
                            · (try dsimp only); (first | exact HMS.out _ H0.out.b | exact HMS.out _ (below_alloc H0.out.b _) | exact HMS.out _ (below_drew1 (Below.refl _ _)) | exact HMS.out _ ((turned3 _ _ _ _ _).below H0.out.b (H0.out.x _ rfl).1) | fail)
                            clear hK K
                            (try simp only [Act.put, List.getElem_toArray, List.getElem_cons_zero, List.getElem_cons_succ, List.setIfInBounds_toArray, List.set_cons_zero, List.set_cons_succ])
                            refine wpAnyH_done (by kernel_rfl) ?_ _
                            go_wp2_with fail
                            go_meet
                            exact ⟨_, _, _, rfl, ⟨P17.done (n := v.over.length + 1) (v := ⟨(t : Int), nc, v.over ++ [(v.to_, a, (t : Int))]⟩) H0.out (by simp) HL7.out.1⟩⟩
                        · rw [if_pos (by kernel_rfl)]
                          go_simp
                          (try go_simp)
                          refine hK.out _ _ ?_ (fun hHeld => ?_)
                          · (try dsimp only); (first | exact HMS.out _ H0.out.b | exact HMS.out _ (below_alloc H0.out.b _) | exact HMS.out _ (below_drew1 (Below.refl _ _)) | exact HMS.out _ ((turned3 _ _ _ _ _).below H0.out.b (H0.out.x _ rfl).1) | fail)
                          clear hK K
                          (try simp only [Act.put, List.getElem_toArray, List.getElem_cons_zero, List.getElem_cons_succ, List.setIfInBounds_toArray, List.set_cons_zero, List.set_cons_succ])
                          replace H0 := Aside0.mk H0.out.box
                          generalize Wo9.alloc (.cells #[.int .i64 0, .int .i64 0, .slice none 0 0] 137) = Wo14 at hHeld H0 ⊢
                          obtain ⟨bx, hbx⟩ : ∃ bx, bx = Wo9.heap.size := ⟨_, rfl⟩
                          rw [← hbx] at H0 ⊢
                          clear hbx
                          refine wpAnyH_ready (rs := [11]) (by kernel_rfl) (by simp) ?_
                          refine AllReadyH.cons rfl (fun K hK => ?_) AllReadyH.nil
                          rw [if_pos (by kernel_rfl)]
                          go_simp
                          (try go_simp)
                          refine hK.out _ _ ?_ (fun hHeld => ?_)
                          · (try dsimp only); (first | exact HMS.out _ H0.out.b | exact HMS.out _ (below_alloc H0.out.b _) | exact HMS.out _ (below_drew1 (Below.refl _ _)) | exact HMS.out _ ((turned3 _ _ _ _ _).below H0.out.b (H0.out.x _ rfl).1) | fail)
                          clear hK K
                          (try simp only [Act.put, List.getElem_toArray, List.getElem_cons_zero, List.getElem_cons_succ, List.setIfInBounds_toArray, List.set_cons_zero, List.set_cons_succ])
                          replace H0 := Aside0.mk H0.out.lit
                          generalize Wo14.alloc (.cells #[.int .i64 v.to_, .int .i64 a, .int .i64 (t : Int)] 140) = Wo11 at hHeld H0 ⊢
                          obtain ⟨lb, hlb⟩ : ∃ lb, lb = Wo14.heap.size := ⟨_, rfl⟩
                          rw [← hlb] at H0 ⊢
                          clear hlb
                          refine wpAnyH_ready (rs := [12]) (by kernel_rfl) (by simp) ?_
                          refine AllReadyH.cons rfl (fun K hK => ?_) AllReadyH.nil
                          refine' Kd.R_append_rows_step kEk (w0 := W7) W7.heap.size (by rfl) _ _ 135 140 (.agg #[.int .i64 0, .int .i64 0, .int .i64 0]) 24 rfl Try.underlying135 info_ek rfl (by decide) (by decide) (.slice A9 v.over.length c9) v.over [(v.to_, a, (t : Int))] (some ⟨lb, 0, none⟩) 1 1 (fun _ => True) (fun _ => False) (by rfl) (by rfl) (H0.out.r _ _ rfl) H0.out.row (fun _ _ h => h) (fun _ h => h.elim) (fun _ _ => trivial) H0.out.b H0.out.b.size (by have := HL7.out; omega) ?_
                          intro v12 Wo12 hR12 hB12 hg12 _
                          obtain ⟨A12, c12, rfl⟩ := Kd.R_slice hR12
                          replace H0 := Aside0.mk (H0.out.push hR12 hB12 hg12)
                          clear hR12 hB12 hg12
                          (try go_simp)
                          refine hK.out _ _ ?_ (fun hHeld => ?_)
                          · (try dsimp only); (first | exact HMS.out _ H0.out.b | exact HMS.out _ (below_alloc H0.out.b _) | exact HMS.out _ (below_drew1 (Below.refl _ _)) | exact HMS.out _ ((turned3 _ _ _ _ _).below H0.out.b (H0.out.x _ rfl).1) | fail)
                          clear hK K
                          (try simp only [Act.put, List.getElem_toArray, List.getElem_cons_zero, List.getElem_cons_succ, List.setIfInBounds_toArray, List.set_cons_zero, List.set_cons_succ])
                          refine wpAnyH_take (i := 13) (v := ?_) rfl (by kernel_rfl) (by kernel_rfl) (by kernel_rfl) (fun _ _ _ h => h) (Or.inl ⟨by kernel_rfl, ?_⟩) (by assumption) ?_
                          rotate_left 1
                          · intro w hSw; (try dsimp only at hSw); go_simp; (try with_reducible rfl)
                          (try simp only [Act.put, List.getElem_toArray, List.getElem_cons_zero, List.getElem_cons_succ, List.setIfInBounds_toArray, List.set_cons_zero, List.set_cons_succ])
                          refine wpAnyH_ready (rs := [15]) (by kernel_rfl) (by simp) ?_
                          refine AllReadyH.cons rfl (fun K hK => ?_) AllReadyH.nil
                          have z0 : Wo12.cell? ⟨bx, 0, none⟩ = some (.int .i64 0) := (blk_cell (H0.out.x _ rfl).2 0).trans rfl
                          have z1 : Wo12.cell? ⟨bx, 1, none⟩ = some (.int .i64 0) := (blk_cell (H0.out.x _ rfl).2 1).trans rfl
                          have z2 : Wo12.cell? ⟨bx, 2, none⟩ = some (.slice none 0 0) := (blk_cell (H0.out.x _ rfl).2 2).trans rfl
                          have f0 := blk_frozen (H0.out.x _ rfl).2 0
                          have f1 := blk_frozen (H0.out.x _ rfl).2 1
                          have f2 := blk_frozen (H0.out.x _ rfl).2 2
                          rw [if_pos (by kernel_rfl)]
                          go_simp
                          (try go_simp)
                          refine hK.out _ _ ?_ (fun hHeld => ?_)
                          · (try dsimp only); (first | exact HMS.out _ H0.out.b | exact HMS.out _ (below_alloc H0.out.b _) | exact HMS.out _ (below_drew1 (Below.refl _ _)) | exact HMS.out _ ((turned3 _ _ _ _ _).below H0.out.b (H0.out.x _ rfl).1) | fail)
                          clear hK K
                          (try simp only [Act.put, List.getElem_toArray, List.getElem_cons_zero, List.getElem_cons_succ, List.setIfInBounds_toArray, List.set_cons_zero, List.set_cons_succ])
                          refine wpAnyH_done (by kernel_rfl) ?_ _
                          go_wp2_with fail
                          go_meet
                          exact ⟨_, _, _, rfl, ⟨P17.done (n := v.over.length + 1) (v := ⟨(t : Int), nc, v.over ++ [(v.to_, a, (t : Int))]⟩) H0.out (by simp) HL7.out.1⟩⟩
                      · rw [if_pos (by kernel_rfl)]
                        go_simp
                        (try go_simp)
                        refine hK.out _ _ ?_ (fun hHeld => ?_)
                        · (try dsimp only); (first | exact HMS.out _ H0.out.b | exact HMS.out _ (below_alloc H0.out.b _) | exact HMS.out _ (below_drew1 (Below.refl _ _)) | exact HMS.out _ ((turned3 _ _ _ _ _).below H0.out.b (H0.out.x _ rfl).1) | fail)
                        clear hK K
                        (try simp only [Act.put, List.getElem_toArray, List.getElem_cons_zero, List.getElem_cons_succ, List.setIfInBounds_toArray, List.set_cons_zero, List.set_cons_succ])
                        replace H0 := Aside0.mk H0.out.lit
                        generalize W8.alloc (.cells #[.int .i64 v.to_, .int .i64 a, .int .i64 (t : Int)] 140) = Wo11 at hHeld H0 ⊢
                        obtain ⟨lb, hlb⟩ : ∃ lb, lb = W8.heap.size := ⟨_, rfl⟩
                        rw [← hlb] at H0 ⊢
                        clear hlb
                        refine wpAnyH_ready (rs := [9, 14]) (by kernel_rfl) (by simp) ?_
                        refine AllReadyH.cons rfl (fun K hK => ?_) (AllReadyH.cons rfl (fun K hK => ?_) AllReadyH.nil)
                        · rw [if_pos (by kernel_rfl)]
                          go_simp
                          go_at_call 117
                          refine (HCLO.out _ H0.out.b).mono ?_
                          rintro e' Wo9 ⟨v9, rfl, hR9, hB9⟩
                          obtain ⟨A9, c9, rfl⟩ := Kd.R_slice hR9
                          replace H0 := Aside0.mk (H0.out.clone hR9 hB9)
                          clear hR9 hB9
                          (try go_simp)
                          refine hK.out _ _ ?_ (fun hHeld => ?_)
                          · (try dsimp only); (first | exact HMS.out _ H0.out.b | exact HMS.out _ (below_alloc H0.out.b _) | exact HMS.out _ (below_drew1 (Below.refl _ _)) | exact HMS.out _ ((turned3 _ _ _ _ _).below H0.out.b (H0.out.x _ rfl).1) | fail)
                          clear hK K
                          (try simp only [Act.put, List.getElem_toArray, List.getElem_cons_zero, List.getElem_cons_succ, List.setIfInBounds_toArray, List.set_cons_zero, List.set_cons_succ])
                          refine wpAnyH_ready (rs := [12, 14]) (by kernel_rfl) (by simp) ?_
                          refine AllReadyH.cons rfl (fun K hK => ?_) (AllReadyH.cons rfl (fun K hK => ?_) AllReadyH.nil)
                          · refine' Kd.R_append_rows_step kEk (w0 := W7) W7.heap.size (by rfl) _ _ 135 140 (.agg #[.int .i64 0, .int .i64 0, .int .i64 0]) 24 rfl Try.underlying135 info_ek rfl (by decide) (by decide) (.slice A9 v.over.length c9) v.over [(v.to_, a, (t : Int))] (some ⟨lb, 0, none⟩) 1 1 (fun _ => True) (fun _ => False) (by rfl) (by rfl) (H0.out.r _ _ rfl) H0.out.row (fun _ _ h => h) (fun _ h => h.elim) (fun _ _ => trivial) H0.out.b H0.out.b.size (by have := HL7.out; omega) ?_
                            intro v12 Wo12 hR12 hB12 hg12 _
                            obtain ⟨A12, c12, rfl⟩ := Kd.R_slice hR12
                            replace H0 := Aside0.mk (H0.out.push hR12 hB12 hg12)
                            clear hR12 hB12 hg12
                            (try go_simp)
                            refine hK.out _ _ ?_ (fun hHeld => ?_)
                            · (try dsimp only); (first | exact HMS.out _ H0.out.b | exact HMS.out _ (below_alloc H0.out.b _) | exact HMS.out _ (below_drew1 (Below.refl _ _)) | exact HMS.out _ ((turned3 _ _ _ _ _).below H0.out.b (H0.out.x _ rfl).1) | fail)
                            clear hK K
                            (try simp only [Act.put, List.getElem_toArray, List.getElem_cons_zero, List.getElem_cons_succ, List.setIfInBounds_toArray, List.set_cons_zero, List.set_cons_succ])
                            refine wpAnyH_take (i := 13) (v := ?_) rfl (by kernel_rfl) (by kernel_rfl) (by kernel_rfl) (fun _ _ _ h => h) (Or.inl ⟨by kernel_rfl, ?_⟩) (by assumption) ?_
                            rotate_left 1
                            · intro w hSw; (try dsimp only at hSw); go_simp; (try with_reducible rfl)
                            (try simp only [Act.put, List.getElem_toArray, List.getElem_cons_zero, List.getElem_cons_succ, List.setIfInBounds_toArray, List.set_cons_zero, List.set_cons_succ])
                            refine wpAnyH_ready (rs := [14]) (by kernel_rfl) (by simp) ?_
                            refine AllReadyH.cons rfl (fun K hK => ?_) AllReadyH.nil
                            rw [if_pos (by kernel_rfl)]
                            go_simp
                            (try go_simp)
                            refine hK.out _ _ ?_ (fun hHeld => ?_)
                            · (try dsimp only); (first | exact HMS.out _ H0.out.b | exact HMS.out _ (below_alloc H0.out.b _) | exact HMS.out _ (below_drew1 (Below.refl _ _)) | exact HMS.out _ ((turned3 _ _ _ _ _).below H0.out.b (H0.out.x _ rfl).1) | fail)
                            clear hK K
                            (try simp only [Act.put, List.getElem_toArray, List.getElem_cons_zero, List.getElem_cons_succ, List.setIfInBounds_toArray, List.set_cons_zero, List.set_cons_succ])
                            replace H0 := Aside0.mk H0.out.box
                            generalize Wo12.alloc (.cells #[.int .i64 0, .int .i64 0, .slice none 0 0] 137) = Wo14 at hHeld H0 ⊢
                            obtain ⟨bx, hbx⟩ : ∃ bx, bx = Wo12.heap.size := ⟨_, rfl⟩
                            rw [← hbx] at H0 ⊢
                            clear hbx
                            refine wpAnyH_ready (rs := [15]) (by kernel_rfl) (by simp) ?_
                            refine AllReadyH.cons rfl (fun K hK => ?_) AllReadyH.nil
                            have z0 : Wo14.cell? ⟨bx, 0, none⟩ = some (.int .i64 0) := (blk_cell (H0.out.x _ rfl).2 0).trans rfl
                            have z1 : Wo14.cell? ⟨bx, 1, none⟩ = some (.int .i64 0) := (blk_cell (H0.out.x _ rfl).2 1).trans rfl
                            have z2 : Wo14.cell? ⟨bx, 2, none⟩ = some (.slice none 0 0) := (blk_cell (H0.out.x _ rfl).2 2).trans rfl
                            have f0 := blk_frozen (H0.out.x _ rfl).2 0
                            have f1 := blk_frozen (H0.out.x _ rfl).2 1
                            have f2 := blk_frozen (H0.out.x _ rfl).2 2
                            rw [if_pos (by kernel_rfl)]
                            go_simp
                            (try go_simp)
                            refine hK.out _ _ ?_ (fun hHeld => ?_)
                            · (try dsimp only); (first | exact HMS.out _ H0.out.b | exact HMS.out _ (below_alloc H0.out.b _) | exact HMS.out _ (below_drew1 (Below.refl _ _)) | exact HMS.out _ ((turned3 _ _ _ _ _).below H0.out.b (H0.out.x _ rfl).1) | fail)
                            clear hK K
                            (try simp only [Act.put, List.getElem_toArray, List.getElem_cons_zero, List.getElem_cons_succ, List.setIfInBounds_toArray, List.set_cons_zero, List.set_cons_succ])
                            refine wpAnyH_done (by kernel_rfl) ?_ _
                            go_wp2_with fail
                            go_meet
                            exact ⟨_, _, _, rfl, ⟨P17.done (n := v.over.length + 1) (v := ⟨(t : Int), nc, v.over ++ [(v.to_, a, (t : Int))]⟩) H0.out (by simp) HL7.out.1⟩⟩
                          · rw [if_pos (by kernel_rfl)]
                            go_simp
                            (try go_simp)
                            refine hK.out _ _ ?_ (fun hHeld => ?_)
                            · (try dsimp only); (first | exact HMS.out _ H0.out.b | exact HMS.out _ (below_alloc H0.out.b _) | exact HMS.out _ (below_drew1 (Below.refl _ _)) | exact HMS.out _ ((turned3 _ _ _ _ _).below H0.out.b (H0.out.x _ rfl).1) | fail)
                            clear hK K
                            (try simp only [Act.put, List.getElem_toArray, List.getElem_cons_zero, List.getElem_cons_succ, List.setIfInBounds_toArray, List.set_cons_zero, List.set_cons_succ])
                            replace H0 := Aside0.mk H0.out.box
                            generalize Wo9.alloc (.cells #[.int .i64 0, .int .i64 0, .slice none 0 0] 137) = Wo14 at hHeld H0 ⊢
                            obtain ⟨bx, hbx⟩ : ∃ bx, bx = Wo9.heap.size := ⟨_, rfl⟩
                            rw [← hbx] at H0 ⊢
                            clear hbx
                            refine wpAnyH_ready (rs := [12]) (by kernel_rfl) (by simp) ?_
                            refine AllReadyH.cons rfl (fun K hK => ?_) AllReadyH.nil
                            refine' Kd.R_append_rows_step kEk (w0 := W7) W7.heap.size (by rfl) _ _ 135 140 (.agg #[.int .i64 0, .int .i64 0, .int .i64 0]) 24 rfl Try.underlying135 info_ek rfl (by decide) (by decide) (.slice A9 v.over.length c9) v.over [(v.to_, a, (t : Int))] (some ⟨lb, 0, none⟩) 1 1 (fun _ => True) (fun _ => False) (by rfl) (by rfl) (H0.out.r _ _ rfl) H0.out.row (fun _ _ h => h) (fun _ h => h.elim) (fun _ _ => trivial) H0.out.b H0.out.b.size (by have := HL7.out; omega) ?_
                            intro v12 Wo12 hR12 hB12 hg12 _
                            obtain ⟨A12, c12, rfl⟩ := Kd.R_slice hR12
                            replace H0 := Aside0.mk (H0.out.push hR12 hB12 hg12)
                            clear hR12 hB12 hg12
                            (try go_simp)
                            refine hK.out _ _ ?_ (fun hHeld => ?_)
                            · (try dsimp only); (first | exact HMS.out _ H0.out.b | exact HMS.out _ (below_alloc H0.out.b _) | exact HMS.out _ (below_drew1 (Below.refl _ _)) | exact HMS.out _ ((turned3 _ _ _ _ _).below H0.out.b (H0.out.x _ rfl).1) | fail)
                            clear hK K
                            (try simp only [Act.put, List.getElem_toArray, List.getElem_cons_zero, List.getElem_cons_succ, List.setIfInBounds_toArray, List.set_cons_zero, List.set_cons_succ])
                            refine wpAnyH_take (i := 13) (v := ?_) rfl (by kernel_rfl) (by kernel_rfl) (by kernel_rfl) (fun _ _ _ h => h) (Or.inl ⟨by kernel_rfl, ?_⟩) (by assumption) ?_
                            rotate_left 1
                            · intro w hSw; (try dsimp only at hSw); go_simp; (try with_reducible rfl)
                            (try simp only [Act.put, List.getElem_toArray, List.getElem_cons_zero, List.getElem_cons_succ, List.setIfInBounds_toArray, List.set_cons_zero, List.set_cons_succ])
                            refine wpAnyH_ready (rs := [15]) (by kernel_rfl) (by simp) ?_
                            refine AllReadyH.cons rfl (fun K hK => ?_) AllReadyH.nil
                            have z0 : Wo12.cell? ⟨bx, 0, none⟩ = some (.int .i64 0) := (blk_cell (H0.out.x _ rfl).2 0).trans rfl
                            have z1 : Wo12.cell? ⟨bx, 1, none⟩ = some (.int .i64 0) := (blk_cell (H0.out.x _ rfl).2 1).trans rfl
                            have z2 : Wo12.cell? ⟨bx, 2, none⟩ = some (.slice none 0 0) := (blk_cell (H0.out.x _ rfl).2 2).trans rfl
                            have f0 := blk_frozen (H0.out.x _ rfl).2 0
                            have f1 := blk_frozen (H0.out.x _ rfl).2 1
                            have f2 := blk_frozen (H0.out.x _ rfl).2 2
                            rw [if_pos (by kernel_rfl)]
                            go_simp
                            (try go_simp)
                            refine hK.out _ _ ?_ (fun hHeld => ?_)
                            · (try dsimp only); (first | exact HMS.out _ H0.out.b | exact HMS.out _ (below_alloc H0.out.b _) | exact HMS.out _ (below_drew1 (Below.refl _ _)) | exact HMS.out _ ((turned3 _ _ _ _ _).below H0.out.b (H0.out.x _ rfl).1) | fail)
                            clear hK K
                            (try simp only [Act.put, List.getElem_toArray, List.getElem_cons_zero, List.getElem_cons_succ, List.setIfInBounds_toArray, List.set_cons_zero, List.set_cons_succ])
                            refine wpAnyH_done (by kernel_rfl) ?_ _
                            go_wp2_with fail
                            go_meet
                            exact ⟨_, _, _, rfl, ⟨P17.done (n := v.over.length + 1) (v := ⟨(t : Int), nc, v.over ++ [(v.to_, a, (t : Int))]⟩) H0.out (by simp) HL7.out.1⟩⟩
                        · rw [if_pos (by kernel_rfl)]
                          go_simp
                          (try go_simp)
                          refine hK.out _ _ ?_ (fun hHeld => ?_)
                          · (try dsimp only); (first | exact HMS.out _ H0.out.b | exact HMS.out _ (below_alloc H0.out.b _) | exact HMS.out _ (below_drew1 (Below.refl _ _)) | exact HMS.out _ ((turned3 _ _ _ _ _).below H0.out.b (H0.out.x _ rfl).1) | fail)
                          clear hK K
                          (try simp only [Act.put, List.getElem_toArray, List.getElem_cons_zero, List.getElem_cons_succ, List.setIfInBounds_toArray, List.set_cons_zero, List.set_cons_succ])
                          replace H0 := Aside0.mk H0.out.box
                          generalize Wo11.alloc (.cells #[.int .i64 0, .int .i64 0, .slice none 0 0] 137) = Wo14 at hHeld H0 ⊢
                          obtain ⟨bx, hbx⟩ : ∃ bx, bx = Wo11.heap.size := ⟨_, rfl⟩
                          rw [← hbx] at H0 ⊢
                          clear hbx
                          refine wpAnyH_ready (rs := [9]) (by kernel_rfl) (by simp) ?_
                          refine AllReadyH.cons rfl (fun K hK => ?_) AllReadyH.nil
                          rw [if_pos (by kernel_rfl)]
                          go_simp
                          go_at_call 117
                          refine (HCLO.out _ H0.out.b).mono ?_
                          rintro e' Wo9 ⟨v9, rfl, hR9, hB9⟩
                          obtain ⟨A9, c9, rfl⟩ := Kd.R_slice hR9
                          replace H0 := Aside0.mk (H0.out.clone hR9 hB9)
                          clear hR9 hB9
                          (try go_simp)
                          refine hK.out _ _ ?_ (fun hHeld => ?_)
                          · (try dsimp only); (first | exact HMS.out _ H0.out.b | exact HMS.out _ (below_alloc H0.out.b _) | exact HMS.out _ (below_drew1 (Below.refl _ _)) | exact HMS.out _ ((turned3 _ _ _ _ _).below H0.out.b (H0.out.x _ rfl).1) | fail)
                          clear hK K
                          (try simp only [Act.put, List.getElem_toArray, List.getElem_cons_zero, List.getElem_cons_succ, List.setIfInBounds_toArray, List.set_cons_zero, List.set_cons_succ])
                          refine wpAnyH_ready (rs := [12]) (by kernel_rfl) (by simp) ?_
                          refine AllReadyH.cons rfl (fun K hK => ?_) AllReadyH.nil
                          refine' Kd.R_append_rows_step kEk (w0 := W7) W7.heap.size (by rfl) _ _ 135 140 (.agg #[.int .i64 0, .int .i64 0, .int .i64 0]) 24 rfl Try.underlying135 info_ek rfl (by decide) (by decide) (.slice A9 v.over.length c9) v.over [(v.to_, a, (t : Int))] (some ⟨lb, 0, none⟩) 1 1 (fun _ => True) (fun _ => False) (by rfl) (by rfl) (H0.out.r _ _ rfl) H0.out.row (fun _ _ h => h) (fun _ h => h.elim) (fun _ _ => trivial) H0.out.b H0.out.b.size (by have := HL7.out; omega) ?_
                          intro v12 Wo12 hR12 hB12 hg12 _
                          obtain ⟨A12, c12, rfl⟩ := Kd.R_slice hR12
                          replace H0 := Aside0.mk (H0.out.push hR12 hB12 hg12)
                          clear hR12 hB12 hg12
                          (try go_simp)
                          refine hK.out _ _ ?_ (fun hHeld => ?_)
                          · (try dsimp only); (first | exact HMS.out _ H0.out.b | exact HMS.out _ (below_alloc H0.out.b _) | exact HMS.out _ (below_drew1 (Below.refl _ _)) | exact HMS.out _ ((turned3 _ _ _ _ _).below H0.out.b (H0.out.x _ rfl).1) | fail)
                          clear hK K
                          (try simp only [Act.put, List.getElem_toArray, List.getElem_cons_zero, List.getElem_cons_succ, List.setIfInBounds_toArray, List.set_cons_zero, List.set_cons_succ])
                          refine wpAnyH_take (i := 13) (v := ?_) rfl (by kernel_rfl) (by kernel_rfl) (by kernel_rfl) (fun _ _ _ h => h) (Or.inl ⟨by kernel_rfl, ?_⟩) (by assumption) ?_
                          rotate_left 1
                          · intro w hSw; (try dsimp only at hSw); go_simp; (try with_reducible rfl)
                          (try simp only [Act.put, List.getElem_toArray, List.getElem_cons_zero, List.getElem_cons_succ, List.setIfInBounds_toArray, List.set_cons_zero, List.set_cons_succ])
                          refine wpAnyH_ready (rs := [15]) (by kernel_rfl) (by simp) ?_
                          refine AllReadyH.cons rfl (fun K hK => ?_) AllReadyH.nil
                          have z0 : Wo12.cell? ⟨bx, 0, none⟩ = some (.int .i64 0) := (blk_cell (H0.out.x _ rfl).2 0).trans rfl
                          have z1 : Wo12.cell? ⟨bx, 1, none⟩ = some (.int .i64 0) := (blk_cell (H0.out.x _ rfl).2 1).trans rfl
                          have z2 : Wo12.cell? ⟨bx, 2, none⟩ = some (.slice none 0 0) := (blk_cell (H0.out.x _ rfl).2 2).trans rfl
                          have f0 := blk_frozen (H0.out.x _ rfl).2 0
                          have f1 := blk_frozen (H0.out.x _ rfl).2 1
                          have f2 := blk_frozen (H0.out.x _ rfl).2 2
                          rw [if_pos (by kernel_rfl)]
                          go_simp
                          (try go_simp)
                          refine hK.out _ _ ?_ (fun hHeld => ?_)
                          · (try dsimp only); (first | exact HMS.out _ H0.out.b | exact HMS.out _ (below_alloc H0.out.b _) | exact HMS.out _ (below_drew1 (Below.refl _ _)) | exact HMS.out _ ((turned3 _ _ _ _ _).below H0.out.b (H0.out.x _ rfl).1) | fail)
                          clear hK K
                          (try simp only [Act.put, List.getElem_toArray, List.getElem_cons_zero, List.getElem_cons_succ, List.setIfInBounds_toArray, List.set_cons_zero, List.set_cons_succ])
                          refine wpAnyH_done (by kernel_rfl) ?_ _
                          go_wp2_with fail
                          go_meet
                          exact ⟨_, _, _, rfl, ⟨P17.done (n := v.over.length + 1) (v := ⟨(t : Int), nc, v.over ++ [(v.to_, a, (t : Int))]⟩) H0.out (by simp) HL7.out.1⟩⟩
                      · rw [if_pos (by kernel_rfl)]
                        go_simp
                        (try go_simp)
                        refine hK.out _ _ ?_ (fun hHeld => ?_)
                        · (try dsimp only); (first | exact HMS.out _ H0.out.b | exact HMS.out _ (below_alloc H0.out.b _) | exact HMS.out _ (below_drew1 (Below.refl _ _)) | exact HMS.out _ ((turned3 _ _ _ _ _).below H0.out.b (H0.out.x _ rfl).1) | fail)
                        clear hK K
                        (try simp only [Act.put, List.getElem_toArray, List.getElem_cons_zero, List.getElem_cons_succ, List.setIfInBounds_toArray, List.set_cons_zero, List.set_cons_succ])
                        replace H0 := Aside0.mk H0.out.box
                        generalize W8.alloc (.cells #[.int .i64 0, .int .i64 0, .slice none 0 0] 137) = Wo14 at hHeld H0 ⊢
                        obtain ⟨bx, hbx⟩ : ∃ bx, bx = W8.heap.size := ⟨_, rfl⟩
                        rw [← hbx] at H0 ⊢
                        clear hbx
                        refine wpAnyH_ready (rs := [9, 11]) (by kernel_rfl) (by simp) ?_
                        refine AllReadyH.cons rfl (fun K hK => ?_) (AllReadyH.cons rfl (fun K hK => ?_) AllReadyH.nil)
                        · rw [if_pos (by kernel_rfl)]
                          go_simp
                          go_at_call 117
                          refine (HCLO.out _ H0.out.b).mono ?_
                          rintro e' Wo9 ⟨v9, rfl, hR9, hB9⟩
                          obtain ⟨A9, c9, rfl⟩ := Kd.R_slice hR9
                          replace H0 := Aside0.mk (H0.out.clone hR9 hB9)
                          clear hR9 hB9
                          (try go_simp)
                          refine hK.out _ _ ?_ (fun hHeld => ?_)
                          · (try dsimp only); (first | exact HMS.out _ H0.out.b | exact HMS.out _ (below_alloc H0.out.b _) | exact HMS.out _ (below_drew1 (Below.refl _ _)) | exact HMS.out _ ((turned3 _ _ _ _ _).below H0.out.b (H0.out.x _ rfl).1) | fail)
                          clear hK K
                          (try simp only [Act.put, List.getElem_toArray, List.getElem_cons_zero, List.getElem_cons_succ, List.setIfInBounds_toArray, List.set_cons_zero, List.set_cons_succ])
                          refine wpAnyH_ready (rs := [11]) (by kernel_rfl) (by simp) ?_
                          refine AllReadyH.cons rfl (fun K hK => ?_) AllReadyH.nil
                          rw [if_pos (by kernel_rfl)]
                          go_simp
                          (try go_simp)
                          refine hK.out _ _ ?_ (fun hHeld => ?_)
                          · (try dsimp only); (first | exact HMS.out _ H0.out.b | exact HMS.out _ (below_alloc H0.out.b _) | exact HMS.out _ (below_drew1 (Below.refl _ _)) | exact HMS.out _ ((turned3 _ _ _ _ _).below H0.out.b (H0.out.x _ rfl).1) | fail)
                          clear hK K
                          (try simp only [Act.put, List.getElem_toArray, List.getElem_cons_zero, List.getElem_cons_succ, List.setIfInBounds_toArray, List.set_cons_zero, List.set_cons_succ])
                          replace H0 := Aside0.mk H0.out.lit
                          generalize Wo9.alloc (.cells #[.int .i64 v.to_, .int .i64 a, .int .i64 (t : Int)] 140) = Wo11 at hHeld H0 ⊢
                          obtain ⟨lb, hlb⟩ : ∃ lb, lb = Wo9.heap.size := ⟨_, rfl⟩
                          rw [← hlb] at H0 ⊢
                          clear hlb
                          refine wpAnyH_ready (rs := [12]) (by kernel_rfl) (by simp) ?_
                          refine AllReadyH.cons rfl (fun K hK => ?_) AllReadyH.nil
                          refine' Kd.R_append_rows_step kEk (w0 := W7) W7.heap.size (by rfl) _ _ 135 140 (.agg #[.int .i64 0, .int .i64 0, .int .i64 0]) 24 rfl Try.underlying135 info_ek rfl (by decide) (by decide) (.slice A9 v.over.length c9) v.over [(v.to_, a, (t : Int))] (some ⟨lb, 0, none⟩) 1 1 (fun _ => True) (fun _ => False) (by rfl) (by rfl) (H0.out.r _ _ rfl) H0.out.row (fun _ _ h => h) (fun _ h => h.elim) (fun _ _ => trivial) H0.out.b H0.out.b.size (by have := HL7.out; omega) ?_
                          intro v12 Wo12 hR12 hB12 hg12 _
                          obtain ⟨A12, c12, rfl⟩ := Kd.R_slice hR12
                          replace H0 := Aside0.mk (H0.out.push hR12 hB12 hg12)
                          clear hR12 hB12 hg12
                          (try go_simp)
                          refine hK.out _ _ ?_ (fun hHeld => ?_)
                          · (try dsimp only); (first | exact HMS.out _ H0.out.b | exact HMS.out _ (below_alloc H0.out.b _) | exact HMS.out _ (below_drew1 (Below.refl _ _)) | exact HMS.out _ ((turned3 _ _ _ _ _).below H0.out.b (H0.out.x _ rfl).1) | fail)
                          clear hK K
                          (try simp only [Act.put, List.getElem_toArray, List.getElem_cons_zero, List.getElem_cons_succ, List.setIfInBounds_toArray, List.set_cons_zero, List.set_cons_succ])
                          refine wpAnyH_take (i := 13) (v := ?_) rfl (by kernel_rfl) (by kernel_rfl) (by kernel_rfl) (fun _ _ _ h => h) (Or.inl ⟨by kernel_rfl, ?_⟩) (by assumption) ?_
                          rotate_left 1
                          · intro w hSw; (try dsimp only at hSw); go_simp; (try with_reducible rfl)
                          (try simp only [Act.put, List.getElem_toArray, List.getElem_cons_zero, List.getElem_cons_succ, List.setIfInBounds_toArray, List.set_cons_zero, List.set_cons_succ])
                          refine wpAnyH_ready (rs := [15]) (by kernel_rfl) (by simp) ?_
                          refine AllReadyH.cons rfl (fun K hK => ?_) AllReadyH.nil
                          have z0 : Wo12.cell? ⟨bx, 0, none⟩ = some (.int .i64 0) := (blk_cell (H0.out.x _ rfl).2 0).trans rfl
                          have z1 : Wo12.cell? ⟨bx, 1, none⟩ = some (.int .i64 0) := (blk_cell (H0.out.x _ rfl).2 1).trans rfl
                          have z2 : Wo12.cell? ⟨bx, 2, none⟩ = some (.slice none 0 0) := (blk_cell (H0.out.x _ rfl).2 2).trans rfl
                          have f0 := blk_frozen (H0.out.x _ rfl).2 0
                          have f1 := blk_frozen (H0.out.x _ rfl).2 1
                          have f2 := blk_frozen (H0.out.x _ rfl).2 2
                          rw [if_pos (by kernel_rfl)]
                          go_simp
                          (try go_simp)
                          refine hK.out _ _ ?_ (fun hHeld => ?_)
                          · (try dsimp only); (first | exact HMS.out _ H0.out.b | exact HMS.out _ (below_alloc H0.out.b _) | exact HMS.out _ (below_drew1 (Below.refl _ _)) | exact HMS.out _ ((turned3 _ _ _ _ _).below H0.out.b (H0.out.x _ rfl).1) | fail)
                          clear hK K
                          (try simp only [Act.put, List.getElem_toArray, List.getElem_cons_zero, List.getElem_cons_succ, List.setIfInBounds_toArray, List.set_cons_zero, List.set_cons_succ])
                          refine wpAnyH_done (by kernel_rfl) ?_ _
                          go_wp2_with fail
                          go_meet
                          exact ⟨_, _, _, rfl, ⟨P17.done (n := v.over.length + 1) (v := ⟨(t : Int), nc, v.over ++ [(v.to_, a, (t : Int))]⟩) H0.out (by simp) HL7.out.1⟩⟩
                        · rw [if_pos (by kernel_rfl)]
                          go_simp
                          (try go_simp)
                          refine hK.out _ _ ?_ (fun hHeld => ?_)
                          · (try dsimp only); (first | exact HMS.out _ H0.out.b | exact HMS.out _ (below_alloc H0.out.b _) | exact HMS.out _ (below_drew1 (Below.refl _ _)) | exact HMS.out _ ((turned3 _ _ _ _ _).below H0.out.b (H0.out.x _ rfl).1) | fail)
                          clear hK K
                          (try simp only [Act.put, List.getElem_toArray, List.getElem_cons_zero, List.getElem_cons_succ, List.setIfInBounds_toArray, List.set_cons_zero, List.set_cons_succ])
                          replace H0 := Aside0.mk H0.out.lit
                          generalize Wo14.alloc (.cells #[.int .i64 v.to_, .int .i64 a, .int .i64 (t : Int)] 140) = Wo11 at hHeld H0 ⊢
                          obtain ⟨lb, hlb⟩ : ∃ lb, lb = Wo14.heap.size := ⟨_, rfl⟩
                          rw [← hlb] at H0 ⊢
                          clear hlb
                          refine wpAnyH_ready (rs := [9]) (by kernel_rfl) (by simp) ?_
                          refine AllReadyH.cons rfl (fun K hK => ?_) AllReadyH.nil
                          rw [if_pos (by kernel_rfl)]
                          go_simp
                          go_at_call 117
                          refine (HCLO.out _ H0.out.b).mono ?_
                          rintro e' Wo9 ⟨v9, rfl, hR9, hB9⟩
                          obtain ⟨A9, c9, rfl⟩ := Kd.R_slice hR9
                          replace H0 := Aside0.mk (H0.out.clone hR9 hB9)
                          clear hR9 hB9
                          (try go_simp)
                          refine hK.out _ _ ?_ (fun hHeld => ?_)
                          · (try dsimp only); (first | exact HMS.out _ H0.out.b | exact HMS.out _ (below_alloc H0.out.b _) | exact HMS.out _ (below_drew1 (Below.refl _ _)) | exact HMS.out _ ((turned3 _ _ _ _ _).below H0.out.b (H0.out.x _ rfl).1) | fail)
                          clear hK K
                          (try simp only [Act.put, List.getElem_toArray, List.getElem_cons_zero, List.getElem_cons_succ, List.setIfInBounds_toArray, List.set_cons_zero, List.set_cons_succ])
                          refine wpAnyH_ready (rs := [12]) (by kernel_rfl) (by simp) ?_
                          refine AllReadyH.cons rfl (fun K hK => ?_) AllReadyH.nil
                          refine' Kd.R_append_rows_step kEk (w0 := W7) W7.heap.size (by rfl) _ _ 135 140 (.agg #[.int .i64 0, .int .i64 0, .int .i64 0]) 24 rfl Try.underlying135 info_ek rfl (by decide) (by decide) (.slice A9 v.over.length c9) v.over [(v.to_, a, (t : Int))] (some ⟨lb, 0, none⟩) 1 1 (fun _ => True) (fun _ => False) (by rfl) (by rfl) (H0.out.r _ _ rfl) H0.out.row (fun _ _ h => h) (fun _ h => h.elim) (fun _ _ => trivial) H0.out.b H0.out.b.size (by have := HL7.out; omega) ?_
                          intro v12 Wo12 hR12 hB12 hg12 _
                          obtain ⟨A12, c12, rfl⟩ := Kd.R_slice hR12
                          replace H0 := Aside0.mk (H0.out.push hR12 hB12 hg12)
                          clear hR12 hB12 hg12
                          (try go_simp)
                          refine hK.out _ _ ?_ (fun hHeld => ?_)
                          · (try dsimp only); (first | exact HMS.out _ H0.out.b | exact HMS.out _ (below_alloc H0.out.b _) | exact HMS.out _ (below_drew1 (Below.refl _ _)) | exact HMS.out _ ((turned3 _ _ _ _ _).below H0.out.b (H0.out.x _ rfl).1) | fail)
                          clear hK K
                          (try simp only [Act.put, List.getElem_toArray, List.getElem_cons_zero, List.getElem_cons_succ, List.setIfInBounds_toArray, List.set_cons_zero, List.set_cons_succ])
                          refine wpAnyH_take (i := 13) (v := ?_) rfl (by kernel_rfl) (by kernel_rfl) (by kernel_rfl) (fun _ _ _ h => h) (Or.inl ⟨by kernel_rfl, ?_⟩) (by assumption) ?_
                          rotate_left 1
                          · intro w hSw; (try dsimp only at hSw); go_simp; (try with_reducible rfl)
                          (try simp only [Act.put, List.getElem_toArray, List.getElem_cons_zero, List.getElem_cons_succ, List.setIfInBounds_toArray, List.set_cons_zero, List.set_cons_succ])
                          refine wpAnyH_ready (rs := [15]) (by kernel_rfl) (by simp) ?_
                          refine AllReadyH.cons rfl (fun K hK => ?_) AllReadyH.nil
                          have z0 : Wo12.cell? ⟨bx, 0, none⟩ = some (.int .i64 0) := (blk_cell (H0.out.x _ rfl).2 0).trans rfl
                          have z1 : Wo12.cell? ⟨bx, 1, none⟩ = some (.int .i64 0) := (blk_cell (H0.out.x _ rfl).2 1).trans rfl
                          have z2 : Wo12.cell? ⟨bx, 2, none⟩ = some (.slice none 0 0) := (blk_cell (H0.out.x _ rfl).2 2).trans rfl
                          have f0 := blk_frozen (H0.out.x _ rfl).2 0
                          have f1 := blk_frozen (H0.out.x _ rfl).2 1
                          have f2 := blk_frozen (H0.out.x _ rfl).2 2
                          rw [if_pos (by kernel_rfl)]
                          go_simp
                          (try go_simp)
                          refine hK.out _ _ ?_ (fun hHeld => ?_)
                          · (try dsimp only); (first | exact HMS.out _ H0.out.b | exact HMS.out _ (below_alloc H0.out.b _) | exact HMS.out _ (below_drew1 (Below.refl _ _)) | exact HMS.out _ ((turned3 _ _ _ _ _).below H0.out.b (H0.out.x _ rfl).1) | fail)
                          clear hK K
                          (try simp only [Act.put, List.getElem_toArray, List.getElem_cons_zero, List.getElem_cons_succ, List.setIfInBounds_toArray, List.set_cons_zero, List.set_cons_succ])
                          refine wpAnyH_done (by kernel_rfl) ?_ _
                          go_wp2_with fail
                          go_meet
                          exact ⟨_, _, _, rfl, ⟨P17.done (n := v.over.length + 1) (v := ⟨(t : Int), nc, v.over ++ [(v.to_, a, (t : Int))]⟩) H0.out (by simp) HL7.out.1⟩⟩
                      --> r17
                    case rest =>
                      obtain ⟨A17, c17, b17, rfl, H17⟩ := hcut
                      obtain ⟨W8, hW8⟩ : ∃ W8, W8 = wc := ⟨_, rfl⟩
                      subst hW8
                      clear p0 p1 p2 p3 p4 p5 HMS HCLO hw hmin
                      have BM8 := Aside0.mk (BM7.out.top H17.out.b)
                      have BO8 := Aside0.mk (below_step BO7.out H17.out.b)
                      have X128 := Aside0.mk (blk_below X127.out H17.out.b)
                      have X17 := Aside0.mk H17.out.x
                      have R17 := Aside0.mk H17.out.r
                      have HED := Aside0.mk (show stpS (EdE ws) S a (t : Int) from ⟨v.to_, HV.out.1, by unfold EdE; rw [HK.out]; rfl⟩)
                      generalize hnv : (⟨(t : Int), nc, v.over ++ [(v.to_, a, (t : Int))]⟩ : Wv) = nv at H17 HG X17 R17
                      have HNT := Aside0.mk (show nv.to_ = (t : Int) from by rw [← hnv])
                      clear hnv H17 BM7 BO7 X127 X15 X147 HL7 HVC HLV HKC HK
                      obtain ⟨xv, hxv⟩ : ∃ xv, xv = (lkG bs (t : Int)).getD b0V := ⟨_, rfl⟩
                      obtain ⟨ok2, hok2⟩ : ∃ ok2, ok2 = (lkG bs (t : Int)).isSome := ⟨_, rfl⟩
                      have hlk : (Instr.lookup 228 (.map (some wo.heap.size)) (.int .i64 (t : Int)) true).run Try.prog W8 = .ok (.tuple #[.agg #[.int .i64 xv.w.to_, .int .i64 xv.w.cost, .slice xv.A xv.w.over.length xv.c], .bool ok2]) W8 := by
                        rw [hxv, hok2]
                        exact best_look BM8.out (t : Int) ⟨by omega, by omega⟩
                      have HOK2 := Aside0.mk hok2
                      clear hxv hok2
                      have B9 := Aside0.mk (below_alloc (Below.refl W8.heap.size W8) (.cells #[.int .i64 xv.w.to_, .int .i64 xv.w.cost, .slice xv.A xv.w.over.length xv.c] 137))
                      have X18 := Aside0.mk (blk_new W8 (.cells #[.int .i64 xv.w.to_, .int .i64 xv.w.cost, .slice xv.A xv.w.over.length xv.c] 137 (0, 0)))
                      go_upto_region 19 with fail
                      clear hlk
                      obtain ⟨b18, hb18⟩ : ∃ b18, b18 = W8.heap.size := ⟨_, rfl⟩
                      rw [← hb18] at X18 ⊢
                      generalize W8.alloc (.cells #[.int .i64 xv.w.to_, .int .i64 xv.w.cost, .slice xv.A xv.w.over.length xv.c] 137) = W9 at B9 X18 ⊢
                      clear hb18
                      have BM9 := Aside0.mk (BM8.out.top B9.out)
                      have BO9 := Aside0.mk (below_step BO8.out B9.out)
                      have X129 := Aside0.mk (blk_below X128.out B9.out)
                      have X179 := Aside0.mk (blk_below X17.out B9.out)
                      have R179 := Aside0.mk (show Kd.R kEk 140 W9 w.heap.size (fun k => k < W9.heap.size) (.slice A17 nv.over.length c17) nv.over from Kd.R_mono (Kd.R_below R17.out B9.out) (fun k hk => Nat.lt_of_lt_of_le hk B9.out.size))
                      clear BM8 BO8 X128 X17 R17 B9
                      have q17 : W9.cell? ⟨b17, 1, none⟩ = some (.int .i64 nv.cost) := (blk_cell X179.out 1).trans rfl
                      have q18 : W9.cell? ⟨b18, 1, none⟩ = some (.int .i64 xv.w.cost) := (blk_cell X18.out 1).trans rfl
                      go_cut [110] (fun s110 wx => ∃ bl : Bool, s110 = .bool bl ∧ Aside0 (bl = false → ok2 = true) ∧ Aside0 (Below W9.heap.size W9 wx))
                      case first =>
                        --< r19
                        cases ok2 with
                        | false =>
                          go_wp2_with fail
                          go_meet
                          exact ⟨_, rfl, ⟨fun h => by cases h⟩, ⟨Below.refl _ _⟩⟩
                        | true =>
                          by_cases hlc : nv.cost < xv.w.cost
                          · go_wp2_with fail
                            go_meet
                            exact ⟨_, rfl, ⟨fun _ => by first | trivial | rfl⟩, ⟨Below.refl _ _⟩⟩
                          · go_wp2_with fail
                            go_meet
                            exact ⟨_, rfl, ⟨fun _ => by first | trivial | rfl⟩, ⟨Below.refl _ _⟩⟩
                        --> r19
                      case rest =>
                        obtain ⟨bl, rfl, HBL, B10⟩ := hcut
                        clear q17 q18 X18
                        have BM10 := Aside0.mk (BM9.out.top B10.out)
                        have BO10 := Aside0.mk (below_step BO9.out B10.out)
                        have X1210 := Aside0.mk (blk_below X129.out B10.out)
                        have X1710 := Aside0.mk (blk_below X179.out B10.out)
                        have R1710 := Aside0.mk (show Kd.R kEk 140 wc w.heap.size (fun k => k < wc.heap.size) (.slice A17 nv.over.length c17) nv.over from Kd.R_mono (Kd.R_below R179.out B10.out) (fun k hk => Nat.lt_of_lt_of_le hk B10.out.size))
                        clear BM9 BO9 X129 X179 R179 B10
                        cases bl with
                        | false =>
                          --< noput
                          have HBL2 := Aside0.mk (BL.out.skip (p := v.to_) (q := (t : Int)) (fun p' q' h => by rw [← HJ.out]; exact LookP.step hjl h) (.inr (by rw [lk_best, Option.isSome_map, ← HOK2.out]; exact HBL.out rfl)))
                          go_wp2_with fail
                          go_roundg (gl + 4 - (t + 1))
                          case measure => omega
                          case rel => exact ⟨t + 1, bs, by omega, by omega, by go_num, HBL2, BM10, BO10, X1210⟩
                          --> noput
                        | true =>
                          --< put
                          have HBL2 := Aside0.mk (show BestL ws S a i (LookP lw j (t + 1)) (bestOf (putG bs (t : Int) ⟨nv, A17, c17⟩)) from by
                            rw [← put_best]
                            exact BL.out.put (p := v.to_) (q := (t : Int)) (fun p' q' h => by rw [← HJ.out]; exact LookP.step hjl h) HED.out HNT.out HG.out)
                          obtain ⟨w4, hrun4, hM4, ht4⟩ := BM10.out.map.upd (t : Int) ⟨by omega, by omega⟩ Try.underlying228 (encB ⟨nv, A17, c17⟩)
                          replace hrun4 : (Instr.mapUpdate 228 (.map (some wo.heap.size)) (.int .i64 (t : Int)) (.agg #[.int .i64 nv.to_, .int .i64 nv.cost, .slice A17 nv.over.length c17])).run Try.prog wc = .ok () w4 := hrun4
                          have BM4 := Aside0.mk (show BmM w4 wo.heap.size w.heap.size w4.heap.size (putG bs (t : Int) ⟨nv, A17, c17⟩) from by
                            have h := BM10.out.put (v := ⟨nv, A17, c17⟩) R1710.out hM4 ht4
                            rw [← ht4.size] at h
                            exact h)
                          have BO4 := Aside0.mk (ht4.below BO10.out (Nat.le_refl _))
                          have X124 := Aside0.mk (blk_turned X1210.out ht4 (BM10.out.ne X1210.out))
                          have q0 : wc.cell? ⟨b17, 0, none⟩ = some (.int .i64 nv.to_) := (blk_cell X1710.out 0).trans rfl
                          have q1 : wc.cell? ⟨b17, 1, none⟩ = some (.int .i64 nv.cost) := (blk_cell X1710.out 1).trans rfl
                          have q2 : wc.cell? ⟨b17, 2, none⟩ = some (.slice A17 nv.over.length c17) := (blk_cell X1710.out 2).trans rfl
                          clear hM4 ht4
                          go_wp2_with fail
                          clear hrun4
                          go_roundg (gl + 4 - (t + 1))
                          case measure => omega
                          case rel => exact ⟨t + 1, _, by omega, by omega, by go_num, HBL2, BM4, BO4, X124⟩
                          --> put
                · --< l3end
                  have HBL2 := Aside0.mk (BL.out.imp (P' := LookP lw (j + 1) 0) fun p q hp he => by
                    obtain ⟨k, hk⟩ := Option.isSome_iff_exists.1 he
                    have h1 := (HO.out.key _ _ hk).2.2
                    have ht2 : t = gl + 4 := by omega
                    rw [ht2]
                    exact LookP.next hjl hp h1)
                  go_wp2_with fail
                  go_roundg (lw.length - (j + 1))
                  case measure => omega
                  case rel => exact ⟨j + 1, bs, by omega, by omega, by go_num, HBL2, BM, BO⟩
                  --> l3end
              --> l3
            · have hje : j = lw.length := by omega
              subst hje
              have HBA := Aside0.mk (fun q => BL.out.all (fun p q hp he => LookP.all (WL.out.full p hp) q) q)
              have HBG := Aside0.mk BL.out.good
              have BW1 := Aside0.mk (below_step BW.out BO.out)
              have HBB := Aside0.mk BM.out.map.lt
              obtain ⟨u1, hu1⟩ : ∃ u1, u1 = wr.heap.size := ⟨_, rfl⟩
              have HU := Aside0.mk (show w.heap.size ≤ u1 ∧ u1 ≤ wr.heap.size from ⟨by rw [hu1]; exact BW1.out.size, Nat.le_of_eq hu1⟩)
              rw [← hu1] at BM HBB
              clear hgj hu1 BL BO LR LN WL
              have HCS := Aside0.mk (sts_calls b gl gp gc G (.map (some bm)) wr (HS.out.below BW1.out).s (by have := HB.out; omega))
              go_wp2_with (go_at_call 116; refine HCS.out.mono ?_; rintro e w5 ⟨rfl, rfl⟩)
              clear HCS
              obtain ⟨bb, hbb⟩ : ∃ bb, bb = wo.heap.size := ⟨_, rfl⟩
              rw [← hbb] at BM HBB ⊢
              clear hbb BW
              go_loopg [7, 118] (gl + 4) (fun gg s7 s118 wr => ∃ (j : Nat) (Al : Option Addr) (cl : Nat) (lw : List Wv), j ≤ gl + 4 ∧ gl + 4 - j ≤ gg ∧ s7 = .slice Al lw.length cl ∧ s118 = .int .i64 (j : Int) ∧ Aside0 (lw.length ≤ 2 * j) ∧ Aside0 (CollL ws (decide (gl = 0)) gc ((gl + 3 : Nat) : Int) (stpS (EdE ws) S a) (i + 1) j lw) ∧ Aside0 (Kd.R kWy 137 wr w.heap.size (fun _ => True) (.slice Al lw.length cl) lw) ∧ Aside0 (∀ k, (Value.slice Al lw.length cl).ownBlock = some k → u1 ≤ k) ∧ Aside0 (BmM wr bb w.heap.size u1 bs) ∧ Aside0 (Below w.heap.size w wr))
              case atStart => exact ⟨0, none, 0, [], Nat.zero_le _, by omega, rfl, rfl, ⟨Nat.le_refl _⟩, ⟨CollL.start _ _ _ _ _ _⟩, ⟨Kd.R_nil _ _ _ _ _⟩, ⟨fun k h => by cases h⟩, BM, BW1⟩
              case round =>
                obtain ⟨j, Al, cl, lw, hj, hgj, rfl, rfl, LN, CL, LR, OW, BM, BW⟩ := hrel
                clear BW1
                by_cases hjn : j < gl + 4
                · have hjz : (j : Int) < ((gl + 4 : Nat) : Int) := by omega
                  have hj1000 : (j : Int) ≤ 1000 := by have := HB.out; omega
                  obtain ⟨xv, hxv⟩ : ∃ xv, xv = (lkG bs (j : Int)).getD b0V := ⟨_, rfl⟩
                  obtain ⟨ok2, hok2⟩ : ∃ ok2, ok2 = (lkG bs (j : Int)).isSome := ⟨_, rfl⟩
                  have hlk : (Instr.lookup 228 (.map (some bb)) (.int .i64 (j : Int)) true).run Try.prog wr = .ok (.tuple #[.agg #[.int .i64 xv.w.to_, .int .i64 xv.w.cost, .slice xv.A xv.w.over.length xv.c], .bool ok2]) wr := by
                    rw [hxv, hok2]
                    exact best_look BM.out (j : Int) ⟨by omega, by omega⟩
                  have HOK2 := Aside0.mk hok2
                  have HXV := Aside0.mk hxv
                  have HOB := Aside0.mk (show ok2 = (lkG (bestOf bs) (j : Int)).isSome from by rw [lk_best, Option.isSome_map]; exact hok2)
                  clear hxv hok2
                  have B10 := Aside0.mk (below_alloc (Below.refl wr.heap.size wr) (.cells #[.int .i64 xv.w.to_, .int .i64 xv.w.cost, .slice xv.A xv.w.over.length xv.c] 137))
                  have X21 := Aside0.mk (blk_new wr (.cells #[.int .i64 xv.w.to_, .int .i64 xv.w.cost, .slice xv.A xv.w.over.length xv.c] 137 (0, 0)))
                  go_upto_region 28 with fail
                  clear hlk
                  obtain ⟨b21, hb21⟩ : ∃ b21, b21 = wr.heap.size := ⟨_, rfl⟩
                  rw [← hb21] at X21 ⊢
                  generalize wr.alloc (.cells #[.int .i64 xv.w.to_, .int .i64 xv.w.cost, .slice xv.A xv.w.over.length xv.c] 137) = W10 at B10 X21 ⊢
                  have HB21 := Aside0.mk hb21
                  clear hb21
                  have BM10 := Aside0.mk (BM.out.below B10.out)
                  have BW10 := Aside0.mk (below_step BW.out B10.out)
                  have LR10 := Aside0.mk (Kd.R_below LR.out B10.out)
                  have HSZ := Aside0.mk (show u1 ≤ W10.heap.size from Nat.le_trans BM.out.hi B10.out.size)
                  have HNE := Aside0.mk (show some b21 ≠ (Value.slice Al lw.length cl).ownBlock from fun h => by have := ((Kd.R_bound LR.out).1 b21 h.symm).2.2.1; have := HB21.out; omega)
                  clear BM BW LR B10 HB21
                  cases ok2 with
                  | false =>
                    --< cskip
                    have CL2 := Aside0.mk (CL.out.skip (fun h => by have h1 := (HBA.out _).1 h; rw [← HOB.out] at h1; cases h1))
                    go_wp2_with fail
                    go_roundg (gl + 4 - (j + 1))
                    case measure => omega
                    case rel => exact ⟨j + 1, Al, cl, lw, by omega, by omega, rfl, by go_num, ⟨by have := LN.out; omega⟩, CL2, LR10, OW, BM10, BW10⟩
                    --> cskip
                  | true =>
                    obtain ⟨k0, hk0⟩ := Option.isSome_iff_exists.1 HOK2.out.symm
                    obtain rfl : xv = k0 := by have := HXV.out; rw [hk0] at this; exact this
                    have HGX := Aside0.mk (HBG.out (j : Int) xv.w (by rw [lk_best, hk0]; rfl))
                    have HOV := Aside0.mk (BM10.out.ov _ _ hk0)
                    have HOWN := Aside0.mk (show ∀ k, k < u1 → some k ≠ (Value.slice Al lw.length cl).ownBlock from fun k hk e => by have := OW.out k e.symm; omega)
                    have HTJ := Aside0.mk (show stpS (EdE ws) S a (j : Int) from (HBA.out _).2 HOB.out.symm)
                    clear hk0 HXV HOK2
                    have q0 : W10.cell? ⟨b21, 0, none⟩ = some (.int .i64 xv.w.to_) := (blk_cell X21.out 0).trans rfl
                    have q1 : W10.cell? ⟨b21, 1, none⟩ = some (.int .i64 xv.w.cost) := (blk_cell X21.out 1).trans rfl
                    have q2 : W10.cell? ⟨b21, 2, none⟩ = some (.slice xv.A xv.w.over.length xv.c) := (blk_cell X21.out 2).trans rfl
                    go_upto_region 30 with (first
                      | (at_builtin
                         refine wy_push (w0 := w) w.heap.size _ _ rfl rfl (.slice Al lw.length cl) lw xv.w xv.A xv.c _ (fun k => k < u1) rfl rfl rfl HOV.out HOWN.out LR10.out BW10.out BW10.out.size (by have := LN.out; have := HB.out; omega) ?_
                         intro A3 c3 w3 hR3 hB3 hg3 hat3
                         have R3 := Aside0.mk hR3
                         have B3 := Aside0.mk hB3
                         have G3 := Aside0.mk hg3
                         have T3 := Aside0.mk hat3
                         clear hR3 hB3 hg3 hat3 q0 q1 q2)
                      | fail)
                    have HS3 := Aside0.mk (HS.out.below B3.out)
                    have BM3 := Aside0.mk (BM10.out.grown G3.out OW.out HBB.out)
                    have X213 := Aside0.mk (blk_grown X21.out G3.out HNE.out)
                    have OW3 := Aside0.mk (show ∀ k, (Value.slice A3 (lw.length + 1) c3).ownBlock = some k → u1 ≤ k from fun k hk => by
                      rcases T3.out with h | ⟨b', h, hb'⟩
                      · rw [h] at hk; exact OW.out k hk
                      · rw [h] at hk; have := HSZ.out; injection hk with hk; omega)
                    have HOV3 := Aside0.mk (show Kd.R kEk 140 w3 w.heap.size (fun k => k < u1) (.slice xv.A xv.w.over.length xv.c) xv.w.over from Kd.R_step HOV.out (fun k hk hl => G3.out.block k hl (HOWN.out k hk)))
                    have HNE3 := Aside0.mk (show some b21 ≠ (Value.slice A3 (lw.length + 1) c3).ownBlock from fun hk => by
                      rcases T3.out with h | ⟨b', h, hb'⟩
                      · rw [h] at hk; exact HNE.out hk
                      · rw [h] at hk; have := blk_lt X21.out; injection hk with hk; omega)
                    clear BM10 BW10 LR10 X21 HOV HOWN OW HNE T3 G3
                    have q0 : w3.cell? ⟨b, 0, none⟩ = some (.int .i64 gc) := (blk_cell HS3.out.s 0).trans rfl
                    have q1 : w3.cell? ⟨b, 1, none⟩ = some (.slice G gl gp) := (blk_cell HS3.out.s 1).trans rfl
                    by_cases hjc : (j : Int) = gc
                    · have h1 : ((j : Int) == gc) = true := by simp [hjc]
                      by_cases hg0 : gl = 0
                      · --< two
                        have h2 : ((gl : Int) == 0) = true := by simp [hg0]
                        have CL2 := Aside0.mk (CL.out.two HTJ.out HGX.out.2.1 HGX.out.2.2 (decide_eq_true hg0) hjc.symm)
                        have HLST := Aside0.mk (fun (W' : World) (hb : Below w3.heap.size w3 W') => lst_calls b gl gp gc G (.map (some bm)) W' (HS3.out.below hb).s (by have := HB.out; omega))
                        have p1 : w3.cell? ⟨b21, 1, none⟩ = some (.int .i64 xv.w.cost) := (blk_cell X213.out 1).trans rfl
                        have p2 : w3.cell? ⟨b21, 2, none⟩ = some (.slice xv.A xv.w.over.length xv.c) := (blk_cell X213.out 2).trans rfl
                        have HMS := Aside0.mk (show ∀ W', Below w3.heap.size w3 W' → (fun W' => W'.cell? ⟨b21, 1, none⟩ = some (.int .i64 xv.w.cost) ∧ W'.cell? ⟨b21, 2, none⟩ = some (.slice xv.A xv.w.over.length xv.c)) W' from fun W' hb => ⟨pw_cell_below hb p1, pw_cell_below hb p2⟩)
                        have R3d := Aside0.mk (Kd.R_below R3.out (below_drew1 (Below.refl _ _)))
                        have B3d := Aside0.mk (below_drew1 B3.out)
                        have HOV3d := Aside0.mk (Kd.R_below HOV3.out (below_drew1 (Below.refl _ _)))
                        have HOWN3 := Aside0.mk (show ∀ k, k < u1 → some k ≠ (Value.slice A3 (lw.length + 1) c3).ownBlock from fun k hk e => by have := OW3.out k e.symm; omega)
                        have BM3d := Aside0.mk (BM3.out.below (below_drew1 (Below.refl _ _)))
                        have HSZ3 := Aside0.mk (show u1 ≤ w3.heap.size from BM3.out.hi)
                        clear hg0 hjc BM3 R3 HOV3
                        go_upto_region 31 with fail
                        refine wp_region_held_drew (S := (fun W' => W'.cell? ⟨b21, 1, none⟩ = some (.int .i64 xv.w.cost) ∧ W'.cell? ⟨b21, 2, none⟩ = some (.slice xv.A xv.w.over.length xv.c))) (by kernel_rfl) ?_ (fun hHeld => ?_)
                        · (try dsimp only); (first | exact HMS.out _ (below_drew1 (Below.refl _ _)) | exact HMS.out _ (below_alloc (below_drew1 (Below.refl _ _)) _) | exact HM4.out | fail)
                        refine wpAnyH_take (i := 0) (v := ?_) rfl (by kernel_rfl) (by kernel_rfl) (by kernel_rfl) (fun _ _ _ h => h) (Or.inl ⟨by kernel_rfl, ?_⟩) (by assumption) ?_
                        rotate_left 1
                        · intro w hSw; (try dsimp only at hSw); go_simp; (try with_reducible rfl)
                        (try simp only [Act.put, List.getElem_toArray, List.getElem_cons_zero, List.getElem_cons_succ, List.setIfInBounds_toArray, List.set_cons_zero, List.set_cons_succ])
                        refine wpAnyH_take (i := 1) (v := ?_) rfl (by kernel_rfl) (by kernel_rfl) (by kernel_rfl) (fun _ _ _ h => h) (Or.inl ⟨by kernel_rfl, ?_⟩) (by assumption) ?_
                        rotate_left 1
                        · intro w hSw; (try dsimp only at hSw); go_simp; (try with_reducible rfl)
                        (try simp only [Act.put, List.getElem_toArray, List.getElem_cons_zero, List.getElem_cons_succ, List.setIfInBounds_toArray, List.set_cons_zero, List.set_cons_succ])
                        refine wpAnyH_take (i := 3) (v := ?_) rfl (by kernel_rfl) (by kernel_rfl) (by kernel_rfl) (fun _ _ _ h => h) (Or.inl ⟨by kernel_rfl, ?_⟩) (by assumption) ?_
                        rotate_left 1
                        · intro w hSw; (try dsimp only at hSw); go_simp; (try with_reducible rfl)
                        (try simp only [Act.put, List.getElem_toArray, List.getElem_cons_zero, List.getElem_cons_succ, List.setIfInBounds_toArray, List.set_cons_zero, List.set_cons_succ])
                        refine wpAnyH_take (i := 4) (v := ?_) rfl (by kernel_rfl) (by kernel_rfl) (by kernel_rfl) (fun _ _ _ h => h) (Or.inl ⟨by kernel_rfl, ?_⟩) (by assumption) ?_
                        rotate_left 1
                        · intro w hSw; (try dsimp only at hSw); go_simp; (try with_reducible rfl)
                        (try simp only [Act.put, List.getElem_toArray, List.getElem_cons_zero, List.getElem_cons_succ, List.setIfInBounds_toArray, List.set_cons_zero, List.set_cons_succ])
                        refine wpAnyH_take (i := 5) (v := ?_) rfl (by kernel_rfl) (by kernel_rfl) (by kernel_rfl) (fun _ _ _ h => h) (Or.inl ⟨by kernel_rfl, ?_⟩) (by assumption) ?_
                        rotate_left 1
                        · intro w hSw; (try dsimp only at hSw); go_simp; (try with_reducible rfl)
                        (try simp only [Act.put, List.getElem_toArray, List.getElem_cons_zero, List.getElem_cons_succ, List.setIfInBounds_toArray, List.set_cons_zero, List.set_cons_succ])
                        refine wpAnyH_take (i := 6) (v := ?_) rfl (by kernel_rfl) (by kernel_rfl) (by kernel_rfl) (fun _ _ _ h => h) (Or.inl ⟨by kernel_rfl, ?_⟩) (by assumption) ?_
                        rotate_left 1
                        · intro w hSw; (try dsimp only at hSw); go_simp; (try with_reducible rfl)
                        (try simp only [Act.put, List.getElem_toArray, List.getElem_cons_zero, List.getElem_cons_succ, List.setIfInBounds_toArray, List.set_cons_zero, List.set_cons_succ])
                        refine wpAnyH_ready (rs := [2]) (by kernel_rfl) (by simp) ?_
                        refine AllReadyH.cons rfl (fun K hK => ?_) AllReadyH.nil
                        rw [if_pos (by kernel_rfl)]
                        go_simp
                        (go_at_call 50; refine (HLST.out _ (below_drew1 (Below.refl _ _))).mono ?_; rintro e w4 ⟨rfl, rfl⟩)
                        (try go_simp)
                        refine hK.out _ _ ?_ (fun hHeld => ?_)
                        · (try dsimp only); (first | exact HMS.out _ (below_drew1 (Below.refl _ _)) | exact HMS.out _ (below_alloc (below_drew1 (Below.refl _ _)) _) | exact HM4.out | fail)
                        clear hK K
                        (try simp only [Act.put, List.getElem_toArray, List.getElem_cons_zero, List.getElem_cons_succ, List.setIfInBounds_toArray, List.set_cons_zero, List.set_cons_succ])
                        refine wpAnyH_take (i := 7) (v := ?_) rfl (by kernel_rfl) (by kernel_rfl) (by kernel_rfl) (fun _ _ _ h => h) (Or.inl ⟨by kernel_rfl, ?_⟩) (by assumption) ?_
                        rotate_left 1
                        · intro w hSw; (try dsimp only at hSw); go_simp; (try with_reducible rfl)
                        (try simp only [Act.put, List.getElem_toArray, List.getElem_cons_zero, List.getElem_cons_succ, List.setIfInBounds_toArray, List.set_cons_zero, List.set_cons_succ])
                        refine wpAnyH_ready (rs := [8]) (by kernel_rfl) (by simp) ?_
                        refine AllReadyH.cons rfl (fun K hK => ?_) AllReadyH.nil
                        rw [if_pos (by kernel_rfl)]
                        go_simp
                        (try go_simp)
                        refine hK.out _ _ ?_ (fun hHeld => ?_)
                        · (try dsimp only); (first | exact HMS.out _ (below_drew1 (Below.refl _ _)) | exact HMS.out _ (below_alloc (below_drew1 (Below.refl _ _)) _) | exact HM4.out | fail)
                        clear hK K
                        (try simp only [Act.put, List.getElem_toArray, List.getElem_cons_zero, List.getElem_cons_succ, List.setIfInBounds_toArray, List.set_cons_zero, List.set_cons_succ])
                        refine wpAnyH_ready (rs := [9]) (by kernel_rfl) (by simp) ?_
                        refine AllReadyH.cons rfl (fun K hK => ?_) AllReadyH.nil
                        (refine wy_push_step (w0 := w) w.heap.size _ _ (by rfl) (by rfl) (.slice A3 (lw.length + 1) c3) (lw ++ [xv.w]) ⟨((gl + 3 : Nat) : Int), xv.w.cost, xv.w.over⟩ xv.A xv.c _ (fun k => k < u1) rfl (by rfl) (by rfl) HOV3d.out HOWN3.out R3d.out B3d.out B3d.out.size (by have := LN.out; have := HB.out; simp; omega) ?_; intro A4 c4 w4 hR4 hB4 hg4 hat4; have R4 := Aside0.mk hR4; have B4 := Aside0.mk hB4; have BM4 := Aside0.mk (BM3d.out.grown hg4 OW3.out HBB.out); have OW4 := Aside0.mk (show ∀ k, (Value.slice A4 ((lw ++ [xv.w]).length + 1) c4).ownBlock = some k → u1 ≤ k from fun k hk => hat4.elim (fun h => OW3.out k (h.symm.trans hk)) (fun ⟨b', h, hb'⟩ => Nat.le_trans HSZ3.out (by have e := h.symm.trans hk; injection e with e; exact e ▸ hb'))); have X214 := blk_grown (blk_below X213.out (below_drew1 (Below.refl _ _))) hg4 HNE3.out; have HM4 := Aside0.mk (show (fun W' => W'.cell? ⟨b21, 1, none⟩ = some (.int .i64 xv.w.cost) ∧ W'.cell? ⟨b21, 2, none⟩ = some (.slice xv.A xv.w.over.length xv.c)) w4 from ⟨(blk_cell X214 1).trans rfl, (blk_cell X214 2).trans rfl⟩); clear hR4 hB4 hg4 hat4 X214)
                        (try go_simp)
                        refine hK.out _ _ ?_ (fun hHeld => ?_)
                        · (try dsimp only); (first | exact HMS.out _ (below_drew1 (Below.refl _ _)) | exact HMS.out _ (below_alloc (below_drew1 (Below.refl _ _)) _) | exact HM4.out | fail)
                        clear hK K
                        (try simp only [Act.put, List.getElem_toArray, List.getElem_cons_zero, List.getElem_cons_succ, List.setIfInBounds_toArray, List.set_cons_zero, List.set_cons_succ])
                        refine wpAnyH_take (i := 10) (v := ?_) rfl (by kernel_rfl) (by kernel_rfl) (by kernel_rfl) (fun _ _ _ h => h) (Or.inl ⟨by kernel_rfl, ?_⟩) (by assumption) ?_
                        rotate_left 1
                        · intro w hSw; (try dsimp only at hSw); go_simp; (try with_reducible rfl)
                        (try simp only [Act.put, List.getElem_toArray, List.getElem_cons_zero, List.getElem_cons_succ, List.setIfInBounds_toArray, List.set_cons_zero, List.set_cons_succ])
                        refine wpAnyH_done (by kernel_rfl) ?_ _
                        go_wp2_with fail
                        go_roundg (gl + 4 - (j + 1))
                        case measure => omega
                        case rel => exact ⟨j + 1, A4, c4, _, by omega, by omega, by simp, by go_num, ⟨by have := LN.out; simp; omega⟩, CL2, ⟨by simpa using R4.out⟩, ⟨by simpa using OW4.out⟩, BM4, B4⟩
                        --> two
                      · --< one1
                        have h2 : ((gl : Int) == 0) = false := by simp; omega
                        have CL2 := Aside0.mk (CL.out.one HTJ.out HGX.out.2.1 HGX.out.2.2 (fun h => hg0 (by simpa using h.1)))
                        clear hg0 hjc
                        go_wp2_with fail
                        go_roundg (gl + 4 - (j + 1))
                        case measure => omega
                        case rel => exact ⟨j + 1, A3, c3, _, by omega, by omega, by simp, by go_num, ⟨by have := LN.out; simp; omega⟩, CL2, ⟨by simpa using R3.out⟩, ⟨by simpa using OW3.out⟩, BM3, B3⟩
                        --> one1
                    · --< one2
                      have h1 : ((j : Int) == gc) = false := by simp [hjc]
                      have CL2 := Aside0.mk (CL.out.one HTJ.out HGX.out.2.1 HGX.out.2.2 (fun h => hjc h.2.symm))
                      clear hjc
                      go_wp2_with fail
                      go_roundg (gl + 4 - (j + 1))
                      case measure => omega
                      case rel => exact ⟨j + 1, A3, c3, _, by omega, by omega, by simp, by go_num, ⟨by have := LN.out; simp; omega⟩, CL2, ⟨by simpa using R3.out⟩, ⟨by simpa using OW3.out⟩, BM3, B3⟩
                      --> one2
                · --< l4end
                  have hje : j = gl + 4 := by omega
                  subst hje
                  have WL2 := Aside0.mk (CollL.all HO.out CL.out)
                  go_wp2_with fail
                  go_roundg (sg.length - (i + 1))
                  case measure => omega
                  case rel => exact ⟨i + 1, Al, cl, lw, by omega, by omega, rfl, by go_num, ⟨by have := LN.out; have := HB.out; omega⟩, ⟨by rw [HSN.out]; exact WL2.out⟩, LR, BW⟩
                  --> l4end
        · --< l1end
          have hie : i = sg.length := by omega
          subst hie
          go_wp2_with fail
          go_ret
          exact ⟨Al, cl, lw, rfl, (Kd.R_reads' LR.out).2.1, (Kd.R_reads' LR.out).2.2, by have := WL.out; rw [List.take_length] at this; exact this, BW.out⟩
          --> l1end
end Go.Proofs.Ytampgoendkjkhaa.H
