/- timed.soonest, Reach. -/
import Derived.Test.YtampgoendkjkhaaTf
namespace Go.Proofs.Ytampgoendkjkhaa.H
open Go.RowKit Go.Maps Go.Shelf Go.ChangeMaps Go.Proofs.YtampgoendkjkhaaW.PrintWords Go.Proofs.YtampgoendkjkhaaW.PrintMore
set_option linter.unusedVariables false
set_option linter.unusedSimpArgs false
theorem resW {fn : Func} {p s : Tmp} (h : fn.results = #[.cell p 127, .tmp s]) (tmps : Array Value) (W : World) (b1 : Nat) (v0 v1 v2 : Value) (hp : tmps.getD p undef = .pointer (some ⟨b1, 0, none⟩))
    (h0 : W.cell? ⟨b1, 0, none⟩ = some v0) (h1 : W.cell? ⟨b1, 1, none⟩ = some v1) (h2 : W.cell? ⟨b1, 2, none⟩ = some v2) : (results fn tmps).run Try.prog W = .ok (.tuple #[.agg #[v0, v1, v2], tmps.getD s undef]) W := by
  have hu := Try.underlying127
  have hp' : tmps[p]?.getD undef = .pointer (some ⟨b1, 0, none⟩) := by simpa using hp
  simp only [results, h]
  go_simp
/-- in the midst of ranging over the spots found: the way's boxes -/
structure SnM (w W : World) (r : Nat) (es : Array MapEntry) (bm clock : Nat) (seen : Array Nat) (SA EA : Option Addr) (ns cs ne ce : Nat) (g : Int) (t : Int) (A : Option Addr) (m c : Nat) (d : Bool) : Prop where
  b : Below w.heap.size w W
  mp : W.heap[bm]? = some (.map es clock)
  box : W.heap[w.heap.size]? = some (.cells #[.slice SA ns cs, .slice EA ne ce, .int .i64 g] 25 (0, 0))
  res : W.heap[w.heap.size + 1]? = some (.cells #[.int .i64 0, .slice none 0 0, .bool false] 127 (0, 0))
  best : W.heap[w.heap.size + 1 + 1]? = some (.cells #[.int .i64 t, .slice A m c, .bool d] 127 (0, 0))
  it : W.heap[r]? = some (.mapIter (some bm) clock seen clock)
section
variable {w W W' w2 : World} {r bm clock : Nat} {es : Array MapEntry} {seen : Array Nat} {SA EA : Option Addr} {ns cs ne ce : Nat} {g t : Int} {A : Option Addr} {m c : Nat} {d : Bool}
theorem SnM.below (h : SnM w W r es bm clock seen SA EA ns cs ne ce g t A m c d) (hb : Below W.heap.size W W') : SnM w W' r es bm clock seen SA EA ns cs ne ce g t A m c d :=
  ⟨below_step h.b hb, blk_below h.mp hb, blk_below h.box hb, blk_below h.res hb, blk_below h.best hb, blk_below h.it hb⟩
theorem SnM.next (h : SnM w W r es bm clock seen SA EA ns cs ne ce g t A m c d) (h1 : w2 = W ∨ w2 = W.drew) (seen' : Array Nat) (hz : w.heap.size + 1 + 1 < r) (hz2 : bm < r) :
    SnM w (setBlock w2 r (.mapIter (some bm) clock seen' clock)) r es bm clock seen' SA EA ns cs ne ce g t A m c d := by
  have H : SnM w w2 r es bm clock seen SA EA ns cs ne ce g t A m c d := by rcases h1 with rfl | rfl; exact h; exact h.below (below_drew1 (Below.refl _ _))
  have hb : Below w.heap.size w2 (setBlock w2 r (.mapIter (some bm) clock seen' clock)) := ⟨rfl, rfl, rfl, by simp [setBlock], fun k hk => sb_other (by omega) _⟩
  exact ⟨H.b.trans hb, (sb_other (by omega) _).trans H.mp, (sb_other (by omega) _).trans H.box, (sb_other (by omega) _).trans H.res, (sb_other (by omega) _).trans H.best, sb_same (blk_lt H.it) _⟩
theorem SnM.setB (h : SnM w W r es bm clock seen SA EA ns cs ne ce g t A m c d) (hz : w.heap.size + 1 + 1 < r) (t' : Int) (A' : Option Addr) (m' c' : Nat) (d' : Bool) :
    SnM w (((W.setCell ⟨w.heap.size + 1 + 1, 0, none⟩ (.int .i64 t')).setCell ⟨w.heap.size + 1 + 1, 1, none⟩ (.slice A' m' c')).setCell ⟨w.heap.size + 1 + 1, 2, none⟩ (.bool d')) r es bm clock seen SA EA ns cs ne ce g t' A' m' c' d' := by
  have far : ∀ {k : Nat} {o : Obj}, W.heap[k]? = some o → k ≠ w.heap.size + 1 + 1 → (((W.setCell ⟨w.heap.size + 1 + 1, 0, none⟩ (.int .i64 t')).setCell ⟨w.heap.size + 1 + 1, 1, none⟩ (.slice A' m' c')).setCell ⟨w.heap.size + 1 + 1, 2, none⟩ (.bool d')).heap[k]? = some o := fun hk hne =>
    ((Below.heap_setCell _ _ _ _ (show _ ≠ w.heap.size + 1 + 1 from hne)).trans ((Below.heap_setCell _ _ _ _ (show _ ≠ w.heap.size + 1 + 1 from hne)).trans (Below.heap_setCell _ _ _ _ (show _ ≠ w.heap.size + 1 + 1 from hne)))).trans hk
  have hbm : bm ≠ w.heap.size + 1 + 1 := fun e => by
    have := h.mp
    rw [e, h.best] at this
    injection this with this
    cases this
  exact ⟨below_set (below_set (below_set h.b (by omega)) (by omega)) (by omega), far h.mp hbm, far h.box (by omega), far h.res (by omega), by simpa using blk_set (blk_set (blk_set h.best 0 (.int .i64 t')) 1 (.slice A' m' c')) 2 (.bool d'), far h.it (by omega)⟩
end
theorem map_ents {E : KeyE Try.prog 220 Spt} {W : World} {b : Nat} {ws : List (Spt × Wy)} (hM : MapK E W b (kvW ws)) (hB : MapB W b) : ∃ es clock, W.heap[b]? = some (.map es clock) ∧ (∀ x ∈ es.toList, x.born < clock) ∧ (es.toList.map (·.born)).Nodup ∧
    (∀ x ∈ es.toList, ∃ s v, lkW ws s = some v ∧ x.key = E.enc s ∧ x.val = encW v) ∧ ∀ s v, lkW ws s = some v → ∃ x ∈ es.toList, x.key = E.enc s := by
  obtain ⟨es, c, h1, h2, h3⟩ := hB
  obtain ⟨⟨es', c', g1, g2⟩, g3, g4⟩ := hM
  have e1 := h1.symm.trans g1
  injection e1 with e1
  injection e1 with e1 e2
  subst e1 e2
  have hnd : (ws.map (·.1)).Nodup := by
    have : (kvW ws).map (·.1) = ws.map (·.1) := by unfold kvW; rw [List.map_map]; rfl
    rwa [this] at g3
  refine ⟨es, c, h1, h2, h3, fun x hx => ?_, fun s v hs => ?_⟩
  · have : (x.key, x.val) ∈ es.toList.map (fun e => (e.key, e.val)) := List.mem_map.2 ⟨x, hx, rfl⟩
    rw [g2] at this
    obtain ⟨p, hp, hpe⟩ := List.mem_map.1 this
    obtain ⟨q, hq, rfl⟩ := List.mem_map.1 hp
    obtain ⟨e1, e2⟩ := Prod.mk.inj hpe
    exact ⟨q.1, q.2, lkW_eq hnd hq, e1.symm, e2.symm⟩
  · have hm := lkW_mem hs
    have : ((E.enc s, encW v) : Value × Value) ∈ (kvW ws).map (fun p => (E.enc p.1, p.2)) := List.mem_map.2 ⟨(s, encW v), List.mem_map.2 ⟨(s, v), hm, rfl⟩, rfl⟩
    rw [← g2] at this
    obtain ⟨x, hx, hxe⟩ := List.mem_map.1 this
    exact ⟨x, hx, (Prod.mk.inj hxe).1⟩
set_option maxHeartbeats 16000000 in
set_option maxRecDepth 100000 in
theorem soonest_calls (SA EA : Option Addr) (cs ce : Nat) (st : List Int) (ed : List Edg) (g : Int) (w : World) (hs : Kd.C (Kd.int .i64) w SA st.length st) (he : Kd.C kEd w EA ed.length ed) (hok : TmOk st ed) :
    Calls Try.prog 46 #[.agg #[.slice SA st.length cs, .slice EA ed.length ce, .int .i64 g]] w fun e w' => ∃ (t : Int) (A : Option Addr) (m c : Nat) (d is : Bool), e = .returned (.tuple #[.agg #[.int .i64 t, .slice A m c, .bool d], .bool is]) ∧ (is = true ↔ GoalR st ed g) ∧ Below w.heap.size w w' := by
  have B0 := Aside0.mk (below_alloc (below_alloc (below_alloc (Below.refl w.heap.size w) (.cells #[.slice SA st.length cs, .slice EA ed.length ce, .int .i64 g] 25)) (.cells #[.int .i64 0, .slice none 0 0, .bool false] 127)) (.cells #[.int .i64 0, .slice none 0 0, .bool false] 127))
  have X0 := Aside0.mk (blk_alloc (blk_alloc (blk_new w (.cells #[.slice SA st.length cs, .slice EA ed.length ce, .int .i64 g] 25 (0, 0))) (.cells #[.int .i64 0, .slice none 0 0, .bool false] 127 (0, 0))) (.cells #[.int .i64 0, .slice none 0 0, .bool false] 127 (0, 0)))
  have X1 := Aside0.mk (show (((w.alloc (.cells #[.slice SA st.length cs, .slice EA ed.length ce, .int .i64 g] 25)).alloc (.cells #[.int .i64 0, .slice none 0 0, .bool false] 127)).alloc (.cells #[.int .i64 0, .slice none 0 0, .bool false] 127)).heap[w.heap.size + 1]? = some (.cells #[.int .i64 0, .slice none 0 0, .bool false] 127 (0, 0)) from blk_alloc (blk_newn _ _ _ (by simp)) _)
  have X2 := Aside0.mk (show (((w.alloc (.cells #[.slice SA st.length cs, .slice EA ed.length ce, .int .i64 g] 25)).alloc (.cells #[.int .i64 0, .slice none 0 0, .bool false] 127)).alloc (.cells #[.int .i64 0, .slice none 0 0, .bool false] 127)).heap[w.heap.size + 1 + 1]? = some (.cells #[.int .i64 0, .slice none 0 0, .bool false] 127 (0, 0)) from blk_newn _ _ _ (by simp))
  have HF := Aside0.mk (found_calls SA EA cs ce st ed g _ (Kd.C_below hs B0.out) (Kd.C_below he B0.out) hok)
  clear hs he hok
  go_enter Try.func46, Try.ntmps46
  go_upto_region 3 with fail
  generalize ((w.alloc (.cells #[.slice SA st.length cs, .slice EA ed.length ce, .int .i64 g] 25)).alloc (.cells #[.int .i64 0, .slice none 0 0, .bool false] 127)).alloc (.cells #[.int .i64 0, .slice none 0 0, .bool false] 127) = W0 at B0 X0 X1 X2 HF ⊢
  have qt0 : W0.cell? ⟨w.heap.size, 0, none⟩ = some (.slice SA st.length cs) := (blk_cell X0.out 0).trans rfl
  have qt1 : W0.cell? ⟨w.heap.size, 1, none⟩ = some (.slice EA ed.length ce) := (blk_cell X0.out 1).trans rfl
  have qt2 : W0.cell? ⟨w.heap.size, 2, none⟩ = some (.int .i64 g) := (blk_cell X0.out 2).trans rfl
  go_wp2_with (go_at_call 115; refine HF.out.mono ?_; rintro e w1 ⟨ws, bm, E, hE, rfl, hM, hB, hR, hb1⟩; obtain ⟨es, clock, hb, hold, hnd, hin, hof⟩ := map_ents hM hB; have hrng := run_range_map (P := Try.prog) w1 217 220 127 bm es clock Try.underlying217 hb; have HE := Aside0.mk hE; have HB := Aside0.mk hb; have HHO := Aside0.mk hold; have HND := Aside0.mk hnd; have HIN := Aside0.mk hin; have HOF := Aside0.mk hof; have HR := Aside0.mk hR; have S1 := Aside0.mk (show SnM w (w1.alloc (.mapIter (some bm) clock #[] clock)) w1.heap.size es bm clock #[] SA EA st.length cs ed.length ce g 0 none 0 0 false from ⟨below_alloc (below_step B0.out hb1) _, blk_alloc hb _, blk_alloc (blk_below X0.out hb1) _, blk_alloc (blk_below X1.out hb1) _, blk_alloc (blk_below X2.out hb1) _, blk_new w1 _⟩); have ZB := Aside0.mk (blk_lt hb); have ZW := Aside0.mk (show w.heap.size + 1 + 1 < w1.heap.size from blk_lt (blk_below X2.out hb1)); clear hE hb hold hnd hin hof hM hB hR hb1)
  clear hrng qt0 qt1 qt2 HF B0 X0 X1 X2
  generalize w1.alloc (.mapIter (some bm) clock #[] clock) = W2 at S1 ⊢
  go_loopg [5] (leftOf es #[]).size (fun gg s5 wr => ∃ (seen : Array Nat) (bl : Bool) (t : Int) (A : Option Addr) (m c : Nat) (d : Bool), s5 = .bool bl ∧ (leftOf es seen).size ≤ gg ∧ Aside0 (SnM w wr w1.heap.size es bm clock seen SA EA st.length cs ed.length ce g t A m c d) ∧ Aside0 (bl = true → GoalR st ed g) ∧ Aside0 (bl = false → ∀ x ∈ es.toList, seen.contains x.born = true → ∃ s : Spt, x.key = encT s ∧ s.1 ≠ g))
  case atStart => exact ⟨#[], false, 0, none, 0, 0, false, rfl, Nat.le_refl _, S1, ⟨fun h => by cases h⟩, ⟨fun _ x _ h => by simp at h⟩⟩
  case round =>
    obtain ⟨seen, bl, t, A, m, c, d, rfl, hg2, SS, GG, NN⟩ := hrel
    clear S1
    have hbW := SS.out.mp
    rcases run_next_at (P := Try.prog) wr 0 w1.heap.size bm clock clock seen es clock SS.out.it hbW HHO.out (Nat.le_refl _) with ⟨h0, hrun⟩ | ⟨x, hx, w2, hw2, hrun⟩
    · have HSE := Aside0.mk (all_seen es seen h0)
      have HIS := Aside0.mk (show bl = true ↔ GoalR st ed g from ⟨GG.out, fun ⟨s, hs, hsg⟩ => by
        cases bl with
        | true => rfl
        | false =>
          obtain ⟨v, hv⟩ := Option.isSome_iff_exists.1 ((HR.out s).1 hs)
          obtain ⟨y, hy, hyk⟩ := HOF.out s v hv
          obtain ⟨s', hs', hne⟩ := NN.out rfl y hy (HSE.out y hy)
          rw [HE.out] at hyk
          have e := hyk.symm.trans hs'
          unfold encT at e
          injection e with e
          have e0 := congrArg (fun z => z[0]?) e
          simp at e0
          exact absurd (e0.symm.trans hsg) hne⟩)
      have q0 : wr.cell? ⟨w.heap.size + 1 + 1, 0, none⟩ = some (.int .i64 t) := (blk_cell SS.out.best 0).trans rfl
      have q1 : wr.cell? ⟨w.heap.size + 1 + 1, 1, none⟩ = some (.slice A m c) := (blk_cell SS.out.best 1).trans rfl
      have q2 : wr.cell? ⟨w.heap.size + 1 + 1, 2, none⟩ = some (.bool d) := (blk_cell SS.out.best 2).trans rfl
      have r0 : wr.cell? ⟨w.heap.size + 1, 0, none⟩ = some (.int .i64 0) := (blk_cell SS.out.res 0).trans rfl
      have r1 : wr.cell? ⟨w.heap.size + 1, 1, none⟩ = some (.slice none 0 0) := (blk_cell SS.out.res 1).trans rfl
      have r2 : wr.cell? ⟨w.heap.size + 1, 2, none⟩ = some (.bool false) := (blk_cell SS.out.res 2).trans rfl
      have f0 := blk_frozen SS.out.res 0
      have f1 := blk_frozen SS.out.res 1
      have f2 := blk_frozen SS.out.res 2
      clear h0 hbW GG NN
      go_wp2
      refine bodyPost_ret (resW rfl _ _ (w.heap.size + 1) (.int .i64 t) (.slice A m c) (.bool d) rfl (by go_simp) (by go_simp) (by go_simp)) rfl ?_
      exact ⟨t, A, m, c, d, bl, rfl, HIS.out, by repeat (first | exact SS.out.b | refine below_set ?_ (by omega))⟩
    · obtain ⟨hxe, hxs⟩ := mem_left hx
      obtain ⟨⟨s1, s2⟩, ⟨t', A', m', c', d'⟩, hsv, hxk, hxv⟩ := HIN.out x hxe
      have hshr := left_shrinks es seen x hx
      have HL := Aside0.mk (show (leftOf es (seen.push x.born)).size < gk from by omega)
      have S3 := Aside0.mk (SS.out.next hw2 (seen.push x.born) ZW.out ZB.out)
      have hb3 := S3.out.mp
      have hent := run_entry_at (P := Try.prog) _ w1.heap.size bm clock seen es clock x S3.out.it hb3 hxe HND.out
      rw [HE.out] at hxk
      have HXK := Aside0.mk hxk
      rw [hxk, hxv] at hrun hent
      replace hrun : (Instr.next (.pointer (some ⟨w1.heap.size, 0, none⟩)) false 0).run Try.prog wr = .ok (.tuple #[.bool true, .agg #[.int .i64 s1, .int .i64 s2], .agg #[.int .i64 t', .slice A' m' c', .bool d']]) _ := hrun
      generalize setBlock w2 w1.heap.size (.mapIter (some bm) clock (seen.push x.born) clock) = W3 at S3 hent hrun hb3
      replace hent : (Instr.entry (.pointer (some ⟨w1.heap.size, 0, none⟩))).run Try.prog W3 = .ok (.tuple #[.agg #[.int .i64 s1, .int .i64 s2], .agg #[.int .i64 t', .slice A' m' c', .bool d']]) W3 := hent
      have HGR := Aside0.mk (fun h : s1 = g => (show GoalR st ed g from ⟨(s1, s2), (HR.out (s1, s2)).2 (by rw [hsv]; rfl), h⟩))
      have HXS := Aside0.mk (show ∀ y ∈ es.toList, (seen.push x.born).contains y.born = true → seen.contains y.born = true ∨ y = x from fun y hy hyc => by
        rw [contains_push] at hyc
        rcases Bool.or_eq_true_iff.1 hyc with h | h
        · exact .inl h
        · exact .inr (born_inj HND.out hy hxe (by simpa using h)))
      have S5 := Aside0.mk (S3.out.below (below_alloc (below_alloc (Below.refl W3.heap.size W3) (.cells #[.int .i64 s1, .int .i64 s2] 220)) (.cells #[.int .i64 t', .slice A' m' c', .bool d'] 127)))
      have X6 := Aside0.mk (blk_alloc (blk_new W3 (.cells #[.int .i64 s1, .int .i64 s2] 220 (0, 0))) (.cells #[.int .i64 t', .slice A' m' c', .bool d'] 127 (0, 0)))
      have X7 := Aside0.mk (show ((W3.alloc (.cells #[.int .i64 s1, .int .i64 s2] 220)).alloc (.cells #[.int .i64 t', .slice A' m' c', .bool d'] 127)).heap[W3.heap.size + 1]? = some (.cells #[.int .i64 t', .slice A' m' c', .bool d'] 127 (0, 0)) from blk_newn _ _ _ (by simp))
      go_upto_region 6 with fail
      generalize (W3.alloc (.cells #[.int .i64 s1, .int .i64 s2] 220)).alloc (.cells #[.int .i64 t', .slice A' m' c', .bool d'] 127) = W5 at S5 X6 X7 ⊢
      have q60 : W5.cell? ⟨W3.heap.size, 0, none⟩ = some (.int .i64 s1) := (blk_cell X6.out 0).trans rfl
      have q70 : W5.cell? ⟨W3.heap.size + 1, 0, none⟩ = some (.int .i64 t') := (blk_cell X7.out 0).trans rfl
      have q71 : W5.cell? ⟨W3.heap.size + 1, 1, none⟩ = some (.slice A' m' c') := (blk_cell X7.out 1).trans rfl
      have q72 : W5.cell? ⟨W3.heap.size + 1, 2, none⟩ = some (.bool d') := (blk_cell X7.out 2).trans rfl
      have qg : W5.cell? ⟨w.heap.size, 2, none⟩ = some (.int .i64 g) := (blk_cell S5.out.box 2).trans rfl
      have q0 : W5.cell? ⟨w.heap.size + 1 + 1, 0, none⟩ = some (.int .i64 t) := (blk_cell S5.out.best 0).trans rfl
      have q1 : W5.cell? ⟨w.heap.size + 1 + 1, 1, none⟩ = some (.slice A m c) := (blk_cell S5.out.best 1).trans rfl
      have q2 : W5.cell? ⟨w.heap.size + 1 + 1, 2, none⟩ = some (.bool d) := (blk_cell S5.out.best 2).trans rfl
      have f0 := blk_frozen S5.out.best 0
      have f1 := blk_frozen S5.out.best 1
      have f2 := blk_frozen S5.out.best 2
      clear hrun hent
      clear hxe hxs hxk hxv hshr hb3 hbW hsv hx hw2
      cases c0 : (s1 == g) with
      | false =>
        have hne : s1 ≠ g := by simpa using c0
        have HN := Aside0.mk (show bl = false → ∀ y ∈ es.toList, (seen.push x.born).contains y.born = true → ∃ s : Spt, y.key = encT s ∧ s.1 ≠ g from fun hb y hy hyc => (HXS.out y hy hyc).elim (fun h => NN.out hb y hy h) (fun h => ⟨(s1, s2), (congrArg MapEntry.key h).trans HXK.out, hne⟩))
        clear hne
        go_wp2
        go_roundg (leftOf es (seen.push x.born)).size
        case measure => exact HL.out
        case rel => exact ⟨seen.push x.born, bl, t, A, m, c, d, rfl, Nat.le_refl _, S5, GG, HN⟩
      | true =>
        have HG := Aside0.mk (HGR.out (by simpa using c0))
        cases bl with
        | false =>
          go_wp2
          go_roundg (leftOf es (seen.push x.born)).size
          case measure => exact HL.out
          case rel => exact ⟨seen.push x.born, true, t', A', m', c', d', rfl, Nat.le_refl _, ⟨S5.out.setB ZW.out t' A' m' c' d'⟩, ⟨fun _ => HG.out⟩, ⟨fun h => by cases h⟩⟩
        | true =>
          by_cases ht : t' < t
          · have ht' : decide (t' < t) = true := decide_eq_true ht
            clear ht
            go_wp2
            go_roundg (leftOf es (seen.push x.born)).size
            case measure => exact HL.out
            case rel => exact ⟨seen.push x.born, true, t', A', m', c', d', rfl, Nat.le_refl _, ⟨S5.out.setB ZW.out t' A' m' c' d'⟩, ⟨fun _ => HG.out⟩, ⟨fun h => by cases h⟩⟩
          · have ht' : decide (t' < t) = false := decide_eq_false ht
            clear ht
            go_wp2
            go_roundg (leftOf es (seen.push x.born)).size
            case measure => exact HL.out
            case rel => exact ⟨seen.push x.born, true, t, A, m, c, d, rfl, Nat.le_refl _, S5, ⟨fun _ => HG.out⟩, ⟨fun h => by cases h⟩⟩
set_option maxHeartbeats 4000000 in
set_option maxRecDepth 100000 in
theorem reach_ok (SA EA : Option Addr) (cs ce : Nat) (st : List Int) (ed : List Edg) (g : Int) (w : World) (hs : Kd.C (Kd.int .i64) w SA st.length st) (he : Kd.C kEd w EA ed.length ed) (h : tChk st ed g = 0) :
    Calls Try.prog 15 #[.agg #[.slice SA st.length cs, .slice EA ed.length ce, .int .i64 g]] w fun e w' => ∃ (A : Option Addr) (m c : Nat) (is : Bool), e = .returned (.tuple #[.slice A m c, .bool is, .int .i64 0]) ∧ (is = true ↔ GoalR st ed g) ∧ Below w.heap.size w w' := by
  have HOK := Aside0.mk (tOk_of h)
  have B0 := Aside0.mk (below_alloc (Below.refl w.heap.size w) (.cells #[.slice SA st.length cs, .slice EA ed.length ce, .int .i64 g] 25))
  have X0 := Aside0.mk (blk_new w (.cells #[.slice SA st.length cs, .slice EA ed.length ce, .int .i64 g] 25 (0, 0)))
  have HK := Aside0.mk (tck_calls SA EA cs ce st ed g _ (Kd.C_below hs B0.out) (Kd.C_below he B0.out))
  rw [h] at HK
  have HS := Aside0.mk hs
  have HE := Aside0.mk he
  clear hs he h
  go_enter Try.func15, Try.ntmps15
  go_wp2_with (first
    | (go_at_call 45; refine HK.out.mono ?_; rintro e w1 ⟨rfl, hb1⟩; have B1 := Aside0.mk (below_step B0.out hb1); have X1 := Aside0.mk (blk_below X0.out hb1); have q0 : w1.cell? ⟨w.heap.size, 0, none⟩ = some (.slice SA st.length cs) := (blk_cell X1.out 0).trans rfl; have q1 : w1.cell? ⟨w.heap.size, 1, none⟩ = some (.slice EA ed.length ce) := (blk_cell X1.out 1).trans rfl; have q2 : w1.cell? ⟨w.heap.size, 2, none⟩ = some (.int .i64 g) := (blk_cell X1.out 2).trans rfl; clear hb1)
    | (go_at_call 46; refine (soonest_calls SA EA cs ce st ed g _ (Kd.C_below HS.out B1.out) (Kd.C_below HE.out B1.out) HOK.out).mono ?_; rintro e w2 ⟨t, A, m, c, d, is, rfl, his, hb2⟩; have HIS := Aside0.mk his; have B2 := Aside0.mk (below_step B1.out hb2); clear his hb2)
    | fail)
  go_ret3
  exact ⟨A, m, c, is, rfl, HIS.out, by repeat (first | exact B2.out | apply below_alloc)⟩
set_option maxHeartbeats 4000000 in
set_option maxRecDepth 100000 in
theorem reach_bad (SA EA : Option Addr) (cs ce : Nat) (st : List Int) (ed : List Edg) (g : Int) (w : World) (hs : Kd.C (Kd.int .i64) w SA st.length st) (he : Kd.C kEd w EA ed.length ed) (h : tChk st ed g ≠ 0) :
    Calls Try.prog 15 #[.agg #[.slice SA st.length cs, .slice EA ed.length ce, .int .i64 g]] w fun e w' => e = .returned (.tuple #[.slice none 0 0, .bool false, .int .i64 (tChk st ed g)]) ∧ Below w.heap.size w w' := by
  have B0 := Aside0.mk (below_alloc (Below.refl w.heap.size w) (.cells #[.slice SA st.length cs, .slice EA ed.length ce, .int .i64 g] 25))
  have HK := Aside0.mk (tck_calls SA EA cs ce st ed g _ (Kd.C_below hs B0.out) (Kd.C_below he B0.out))
  have g1 : (tChk st ed g != 0) = true := by simpa using h
  clear hs he h
  generalize tChk st ed g = e0 at HK g1 ⊢
  go_enter Try.func15, Try.ntmps15
  go_wp2_with (first
    | (go_at_call 45; refine HK.out.mono ?_; rintro e w1 ⟨rfl, hb1⟩; have B1 := Aside0.mk (below_step B0.out hb1); clear hb1)
    | fail)
  go_ret3
  exact ⟨rfl, B1.out⟩
end Go.Proofs.Ytampgoendkjkhaa.H
