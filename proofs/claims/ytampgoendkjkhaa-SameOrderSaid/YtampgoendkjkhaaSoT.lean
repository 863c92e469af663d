/- The walk of SameOrder. -/
import Derived.Test.YtampgoendkjkhaaSj
import Derived.Test.YtampgoendkjkhaaOpen
namespace Go.Proofs.Ytampgoendkjkhaa.H
open Go.RowKit Go.Joins Go.ChangeShapes Go.WideShapes Go.Deep Go.Proofs.YtampgoendkjkhaaW.PrintWords
set_option linter.unusedSimpArgs false
set_option linter.unusedVariables false
section
variable {H : Type} {enc : TypeId × Value → H} {w : World} {base : Nat} {spare : Nat → Bool} {held : Bool}
set_option maxRecDepth 100000 in
theorem Ki_ar {fuel : Nat} {cs : List Value} {x : DataW H × List MemPlace} (h : DataW.trod enc Try.prog w base spare held fuel 78 cs = some x) : ∃ a, kAr.K w a cs := by
  obtain ⟨xs, n, _, rfl, hl, hlen, hf⟩ := DataW.trod_struct Try.underlying78 h
  have hC : Try.prog.cellsOf 78 = 3 := by kernel_rfl
  have hI : Try.prog.cellsOf 3 = 1 := by kernel_rfl
  replace hl := hl.trans hC
  match cs, hl with
  | [c0, c1, c2], _ =>
    match xs, hlen with
    | [y0, y1, y2], _ =>
      have h0 : DataW.trod enc Try.prog w base spare held n 3 (([c0, c1, c2].drop 0).take (Try.prog.cellsOf 3)) = some y0 := by simpa using hf 0 _ rfl
      have h1 : DataW.trod enc Try.prog w base spare held n 3 (([c0, c1, c2].drop 1).take (Try.prog.cellsOf 3)) = some y1 := by simpa using hf 1 _ rfl
      have h2 : DataW.trod enc Try.prog w base spare held n 3 (([c0, c1, c2].drop 2).take (Try.prog.cellsOf 3)) = some y2 := by simpa using hf 2 _ rfl
      rw [hI] at h0 h1 h2
      obtain ⟨n0, e0, _⟩ := K_int Try.underlying3 h0
      obtain ⟨n1, e1, _⟩ := K_int Try.underlying3 h1
      obtain ⟨n2, e2, _⟩ := K_int Try.underlying3 h2
      exact ⟨(n0, n1, n2), by rw [e0, e1, e2]; rfl⟩
end
end Go.Proofs.Ytampgoendkjkhaa.H
namespace Go.Proofs.Ytampgoendkjkhaa.H
open Go.RowKit Go.Shelf Go.Proofs.YtampgoendkjkhaaW.PrintWords Go.Proofs.YtampgoendkjkhaaW.PrintMore
set_option linter.unusedVariables false
set_option linter.unusedSimpArgs false
theorem lit_ar {W : World} {b : Nat} {x y z : Int} {rest : List Value} (h : W.cell? ⟨b, 0, none⟩ = some (.int .i64 x)) (h' : W.cell? ⟨b, 1, none⟩ = some (.int .i64 y)) (h2 : W.cell? ⟨b, 2, none⟩ = some (.int .i64 z)) : Kd.C kAr W (some ⟨b, 0, none⟩) 1 [(x, y, z)] := by
  refine ⟨rfl, by decide, fun _ => ⟨_, rfl, fun j p hj => ?_⟩⟩
  match j, hj with
  | 0, hj =>
    obtain rfl : (x, y, z) = p := by simpa using hj
    refine ⟨[.int .i64 x, .int .i64 y, .int .i64 z], rfl, rfl, fun i u hu => ?_⟩
    match i, hu with
    | 0, hu =>
      obtain rfl : Value.int .i64 x = u := by simpa using hu
      simpa [Addr.add] using h
    | 1, hu =>
      obtain rfl : Value.int .i64 y = u := by simpa using hu
      simpa [Addr.add] using h'
    | 2, hu =>
      obtain rfl : Value.int .i64 z = u := by simpa using hu
      simpa [Addr.add] using h2
theorem tiny_gr : gChk 1 2 [(0, 0, 1)] = 0 := by decide
theorem tiny_cls (W : World) (b : Nat) (h : W.cell? ⟨b, 0, none⟩ = some (.int .i64 0)) (h' : W.cell? ⟨b, 1, none⟩ = some (.int .i64 0)) (h2 : W.cell? ⟨b, 2, none⟩ = some (.int .i64 1)) :
    Calls Try.prog 27 #[.agg #[.int .i64 1, .int .i64 2, .slice (some ⟨b, 0, none⟩) 1 1]] W fun e w' => ∃ ad c x y, e = .returned (.tuple #[.slice (some ad) 2 c, .int .i64 0]) ∧ Below W.heap.size W w' ∧ w'.cell? ad = some (.int .i64 x) ∧ w'.cell? ⟨ad.block, ad.off + 1, none⟩ = some (.int .i64 y) ∧ (x == y) = false := by
  refine (same_classes_calls 1 2 (some ⟨b, 0, none⟩) 1 [(0, 0, 1)] W (lit_ar h h' h2 (rest := []))).mono ?_
  rintro e w' ⟨hb, ⟨hn, _⟩ | ⟨_, m, A, c, cl, hm, he, hC, hE⟩⟩
  · exact absurd tiny_gr hn
  · obtain rfl : m = 2 := by omega
    obtain ⟨ad, rfl, h0⟩ := int_get hC hE.1.symm (i := 0) (by rw [hE.1]; omega)
    obtain ⟨_, e1, h1⟩ := int_get hC hE.1.symm (i := 1) (by rw [hE.1]; omega)
    cases e1
    refine ⟨ad, c, cl[0]'(by rw [hE.1]; omega), cl[1]'(by rw [hE.1]; omega), he, hb, h0, by rw [add_pos _ (by omega)] at h1; exact h1, ?_⟩
    rw [beq_eq_false_iff_ne]
    intro e
    refine tiny_apart hE.2 ?_
    rw [List.getD_eq_getElem?_getD, List.getD_eq_getElem?_getD, List.getElem?_eq_getElem (by rw [hE.1]; omega), List.getElem?_eq_getElem (by rw [hE.1]; omega)]
    exact e
abbrev soArgs (L n : Int) (A2 : Option Addr) (m2 c2 : Nat) : Array Value := #[.agg #[.int .i64 L, .int .i64 n, .slice A2 m2 c2]]
theorem srv_er (L n : Int) (A2 : Option Addr) (c2 : Nat) (ar : List Arw) (w : World) (hra : Kd.C kAr w A2 ar.length ar) (er : Int) (h : gChk L n ar = er) (h0 : er ≠ 0) :
    Calls Try.prog 28 #[.agg #[.int .i64 L, .int .i64 n, .slice A2 ar.length c2]] w fun e w' => e = .returned (.tuple #[.slice none 0 0, .int .i64 er]) ∧ Below w.heap.size w w' := by
  refine (serves_calls L n A2 c2 ar w hra).mono ?_
  rintro e w' ⟨hb, ⟨_, he⟩ | ⟨he, _⟩⟩
  · rw [h] at he; exact ⟨he, hb⟩
  · exact absurd (h.symm.trans he) h0
theorem cls_er (L n : Int) (A2 : Option Addr) (c2 : Nat) (ar : List Arw) (w : World) (hra : Kd.C kAr w A2 ar.length ar) (er : Int) (h : gChk L n ar = er) (h0 : er ≠ 0) :
    Calls Try.prog 27 #[.agg #[.int .i64 L, .int .i64 n, .slice A2 ar.length c2]] w fun e w' => e = .returned (.tuple #[.slice none 0 0, .int .i64 er]) ∧ Below w.heap.size w w' := by
  refine (same_classes_calls L n A2 c2 ar w hra).mono ?_
  rintro e w' ⟨hb, ⟨_, he⟩ | ⟨he, _⟩⟩
  · rw [h] at he; exact ⟨he, hb⟩
  · exact absurd (h.symm.trans he) h0
theorem srv_ok (L : Int) (m : Nat) (A2 : Option Addr) (c2 : Nat) (ar : List Arw) (w : World) (hra : Kd.C kAr w A2 ar.length ar) (h : gChk L m ar = 0) :
    Calls Try.prog 28 #[.agg #[.int .i64 L, .int .i64 (m : Int), .slice A2 ar.length c2]] w fun e w' => ∃ (bt : Nat) (bp cp : Nat → Nat) (T : Nat → Nat → Bool), e = .returned (.tuple #[.slice (some ⟨bt, 0, none⟩) m m, .int .i64 0]) ∧ Below w.heap.size w w' ∧ TabM w' bt m bp cp T ∧ Great ar m T := by
  refine (serves_calls L m A2 c2 ar w hra).mono ?_
  rintro e w' ⟨hb, ⟨he, _⟩ | ⟨_, m', bt, bp, cp, T, hm, he, hT, hG, _⟩⟩
  · exact absurd h he
  · obtain rfl : m' = m := by omega
    exact ⟨bt, bp, cp, T, he, hb, hT, hG⟩
theorem cls_ok (L : Int) (m : Nat) (A2 : Option Addr) (c2 : Nat) (ar : List Arw) (w : World) (hra : Kd.C kAr w A2 ar.length ar) (h : gChk L m ar = 0) :
    Calls Try.prog 27 #[.agg #[.int .i64 L, .int .i64 (m : Int), .slice A2 ar.length c2]] w fun e w' => ∃ (A : Option Addr) (c : Nat) (cl : List Int), e = .returned (.tuple #[.slice A m c, .int .i64 0]) ∧ Below w.heap.size w w' ∧ Kd.C (Kd.int .i64) w' A m cl ∧ RdEnd ar m cl := by
  refine (same_classes_calls L m A2 c2 ar w hra).mono ?_
  rintro e w' ⟨hb, ⟨he, _⟩ | ⟨_, m', A, c, cl, hm, he, hC, hE⟩⟩
  · exact absurd h he
  · obtain rfl : m' = m := by omega
    exact ⟨A, c, cl, he, hb, hC, hE⟩
structure SoM (W : World) (bt m : Nat) (bp cp : Nat → Nat) (T : Nat → Nat → Bool) (A : Option Addr) (cl : List Int) : Prop where
  t : TabM W bt m bp cp T
  c : Kd.C (Kd.int .i64) W A m cl
theorem SoM.below {W W' : World} {bt m : Nat} {bp cp : Nat → Nat} {T : Nat → Nat → Bool} {A : Option Addr} {cl : List Int} (h : SoM W bt m bp cp T A cl) (hb : Below W.heap.size W W') : SoM W' bt m bp cp T A cl := ⟨h.t.below hb, Kd.C_below h.c hb⟩
set_option maxHeartbeats 16000000 in
set_option maxRecDepth 100000 in
theorem so_calls (L n : Int) (A2 : Option Addr) (c2 : Nat) (ar : List Arw) (w : World) (hra : Kd.C kAr w A2 ar.length ar) :
    Calls Try.prog 8 (soArgs L n A2 ar.length c2) w fun e w' => e = .returned (.bool true) ∧ Below w.heap.size w w' := by
  have HRA := Aside0.mk hra
  clear hra
  have tok1 : True := trivial
  by_cases h : gChk L n ar = 0
  · obtain ⟨m, rfl, hm1, hm12, _, hok⟩ := grOk_of h
    have HG := Aside0.mk h
    have HOK := Aside0.mk hok
    clear h hok hm1
    go_enter Try.func8, Try.ntmps8
    go_wp2_with (first
      | (go_at_call 27; have _t := tok1; refine calls_let ?_; intro W2 hW2; have X2 : W2.heap[w.heap.size]? = some (.cells #[.int .i64 L, .int .i64 (m : Int), .slice A2 ar.length c2] 75 (0, 0)) := (by rw [hW2]; exact blk_alloc (blk_new w _) _); have B2 : Below w.heap.size w W2 := (by rw [hW2]; exact below_alloc (below_alloc (Below.refl _ _) _) _); have hcall := tiny_cls W2 (w.heap.size + 1) (by rw [hW2]; go_simp) (by rw [hW2]; go_simp) (by rw [hW2]; go_simp); clear hW2; refine hcall.mono ?_; clear hcall; rintro e w3 ⟨ad0, c0, x0, y0, rfl, hb3, hx0, hy0, hxy⟩; have X3 := Aside0.mk (blk_below X2 hb3); have B3 := Aside0.mk (below_step B2 hb3); have k30 : w3.cell? ⟨w.heap.size, 0, none⟩ = some (.int .i64 L) := (blk_cell X3.out 0).trans rfl; have k31 : w3.cell? ⟨w.heap.size, 1, none⟩ = some (.int .i64 (m : Int)) := (blk_cell X3.out 1).trans rfl; have k32 : w3.cell? ⟨w.heap.size, 2, none⟩ = some (.slice A2 ar.length c2) := (blk_cell X3.out 2).trans rfl; clear X2 B2 hb3 tok1)
      | fail)
    refine wp_region_held_drew (S := (fun W' => W'.cell? ad0 = some (.int .i64 x0) ∧ W'.cell? ⟨ad0.block, ad0.off + 1, none⟩ = some (.int .i64 y0))) (by kernel_rfl) ?_ (fun hHeld => ?_)
    · (try dsimp only); (first | exact ⟨hx0, hy0⟩ | (refine ⟨?_, ?_⟩ <;> (go_simp; done)) | fail)
    refine wpAnyH_take (i := 0) (v := ?_) rfl (by kernel_rfl) (by kernel_rfl) (by kernel_rfl) (fun _ _ _ h => h) (Or.inl ⟨by kernel_rfl, ?_⟩) (by assumption) ?_
    rotate_left 1
    · intro w hSw; (try dsimp only at hSw); go_simp; (try with_reducible rfl)
    (try simp only [Act.put, List.getElem_toArray, List.getElem_cons_zero, List.getElem_cons_succ, List.setIfInBounds_toArray, List.set_cons_zero, List.set_cons_succ])
    refine wpAnyH_take (i := 1) (v := ?_) rfl (by kernel_rfl) (by kernel_rfl) (by kernel_rfl) (fun _ _ _ h => h) (Or.inl ⟨by kernel_rfl, ?_⟩) (by assumption) ?_
    rotate_left 1
    · intro w hSw; (try dsimp only at hSw); go_simp; (try with_reducible rfl)
    (try simp only [Act.put, List.getElem_toArray, List.getElem_cons_zero, List.getElem_cons_succ, List.setIfInBounds_toArray, List.set_cons_zero, List.set_cons_succ])
    refine wpAnyH_take (i := 2) (v := ?_) rfl (by kernel_rfl) (by kernel_rfl) (by kernel_rfl) (fun _ _ _ h => h) (Or.inl ⟨by kernel_rfl, ?_⟩) (by assumption) ?_
    rotate_left 1
    · intro w hSw; (try dsimp only at hSw); go_simp; (try with_reducible rfl)
    (try simp only [Act.put, List.getElem_toArray, List.getElem_cons_zero, List.getElem_cons_succ, List.setIfInBounds_toArray, List.set_cons_zero, List.set_cons_succ])
    refine wpAnyH_take (i := 3) (v := ?_) rfl (by kernel_rfl) (by kernel_rfl) (by kernel_rfl) (fun _ _ _ h => h) (Or.inl ⟨by kernel_rfl, ?_⟩) (by assumption) ?_
    rotate_left 1
    · intro w hSw; (try dsimp only at hSw); go_simp; (try with_reducible rfl)
    (try simp only [Act.put, List.getElem_toArray, List.getElem_cons_zero, List.getElem_cons_succ, List.setIfInBounds_toArray, List.set_cons_zero, List.set_cons_succ])
    refine wpAnyH_take (i := 4) (v := ?_) rfl (by kernel_rfl) (by kernel_rfl) (by kernel_rfl) (fun _ _ _ h => h) (Or.inl ⟨by kernel_rfl, ?_⟩) (by assumption) ?_
    rotate_left 1
    · intro w hSw; (try dsimp only at hSw); go_simp; (try with_reducible rfl)
    (try simp only [Act.put, List.getElem_toArray, List.getElem_cons_zero, List.getElem_cons_succ, List.setIfInBounds_toArray, List.set_cons_zero, List.set_cons_succ])
    refine wpAnyH_take (i := 5) (v := ?_) rfl (by kernel_rfl) (by kernel_rfl) (by kernel_rfl) (fun _ _ _ h => h) (Or.inl ⟨by kernel_rfl, ?_⟩) (by assumption) ?_
    rotate_left 1
    · intro w hSw; (try dsimp only at hSw); go_simp; (try with_reducible rfl)
    (try simp only [Act.put, List.getElem_toArray, List.getElem_cons_zero, List.getElem_cons_succ, List.setIfInBounds_toArray, List.set_cons_zero, List.set_cons_succ])
    refine wpAnyH_take (i := 6) (v := ?_) rfl (by kernel_rfl) (by kernel_rfl) (by kernel_rfl) (fun _ _ _ h => h) (Or.inl ⟨by kernel_rfl, ?_⟩) (by assumption) ?_
    rotate_left 1
    · intro w hSw; (try dsimp only at hSw); go_simp; (try with_reducible rfl)
    (try simp only [Act.put, List.getElem_toArray, List.getElem_cons_zero, List.getElem_cons_succ, List.setIfInBounds_toArray, List.set_cons_zero, List.set_cons_succ])
    refine wpAnyH_take (i := 7) (v := ?_) rfl (by kernel_rfl) (by kernel_rfl) (by kernel_rfl) (fun _ _ _ h => h) (Or.inl ⟨by kernel_rfl, ?_⟩) (by assumption) ?_
    rotate_left 1
    · intro w hSw; (try dsimp only at hSw); go_simp; (try with_reducible rfl)
    (try simp only [Act.put, List.getElem_toArray, List.getElem_cons_zero, List.getElem_cons_succ, List.setIfInBounds_toArray, List.set_cons_zero, List.set_cons_succ])
    refine wpAnyH_take (i := 8) (v := ?_) rfl (by kernel_rfl) (by kernel_rfl) (by kernel_rfl) (fun _ _ _ h => h) (Or.inl ⟨by kernel_rfl, ?_⟩) (by assumption) ?_
    rotate_left 1
    · intro w hSw; (try dsimp only at hSw); go_simp; (try with_reducible rfl)
    (try simp only [Act.put, List.getElem_toArray, List.getElem_cons_zero, List.getElem_cons_succ, List.setIfInBounds_toArray, List.set_cons_zero, List.set_cons_succ])
    refine wpAnyH_take (i := 9) (v := ?_) rfl (by kernel_rfl) (by kernel_rfl) (by kernel_rfl) (fun _ _ _ h => h) (Or.inl ⟨by kernel_rfl, ?_⟩) (by assumption) ?_
    rotate_left 1
    · intro w hSw; (try dsimp only at hSw); go_simp; (try with_reducible rfl)
    (try simp only [Act.put, List.getElem_toArray, List.getElem_cons_zero, List.getElem_cons_succ, List.setIfInBounds_toArray, List.set_cons_zero, List.set_cons_succ])
    refine wpAnyH_take (i := 10) (v := ?_) rfl (by kernel_rfl) (by kernel_rfl) (by kernel_rfl) (fun _ _ _ h => h) (Or.inl ⟨by kernel_rfl, ?_⟩) (by assumption) ?_
    rotate_left 1
    · intro w hSw; (try dsimp only at hSw); go_simp; (try with_reducible rfl)
    (try simp only [Act.put, List.getElem_toArray, List.getElem_cons_zero, List.getElem_cons_succ, List.setIfInBounds_toArray, List.set_cons_zero, List.set_cons_succ])
    refine wpAnyH_take (i := 11) (v := ?_) rfl (by kernel_rfl) (by kernel_rfl) (by kernel_rfl) (fun _ _ _ h => h) (Or.inl ⟨by kernel_rfl, ?_⟩) (by assumption) ?_
    rotate_left 1
    · intro w hSw; (try dsimp only at hSw); go_simp; (try with_reducible rfl)
    (try simp only [Act.put, List.getElem_toArray, List.getElem_cons_zero, List.getElem_cons_succ, List.setIfInBounds_toArray, List.set_cons_zero, List.set_cons_succ])
    refine wpAnyH_take (i := 12) (v := ?_) rfl (by kernel_rfl) (by kernel_rfl) (by kernel_rfl) (fun _ _ _ h => h) (Or.inl ⟨by kernel_rfl, ?_⟩) (by assumption) ?_
    rotate_left 1
    · intro w hSw; (try dsimp only at hSw); go_simp; (try with_reducible rfl)
    (try simp only [Act.put, List.getElem_toArray, List.getElem_cons_zero, List.getElem_cons_succ, List.setIfInBounds_toArray, List.set_cons_zero, List.set_cons_succ])
    refine wpAnyH_take (i := 13) (v := ?_) rfl (by kernel_rfl) (by kernel_rfl) (by kernel_rfl) (fun _ _ _ h => h) (Or.inl ⟨by kernel_rfl, ?_⟩) (by assumption) ?_
    rotate_left 1
    · intro w hSw; (try dsimp only at hSw); go_simp; (try with_reducible rfl)
    (try simp only [Act.put, List.getElem_toArray, List.getElem_cons_zero, List.getElem_cons_succ, List.setIfInBounds_toArray, List.set_cons_zero, List.set_cons_succ])
    refine wpAnyH_take (i := 14) (v := ?_) rfl (by kernel_rfl) (by kernel_rfl) (by kernel_rfl) (fun _ _ _ h => h) (Or.inl ⟨by kernel_rfl, ?_⟩) (by assumption) ?_
    rotate_left 1
    · intro w hSw; (try dsimp only at hSw); go_simp; (try with_reducible rfl)
    (try simp only [Act.put, List.getElem_toArray, List.getElem_cons_zero, List.getElem_cons_succ, List.setIfInBounds_toArray, List.set_cons_zero, List.set_cons_succ])
    refine wpAnyH_take (i := 15) (v := ?_) rfl (by kernel_rfl) (by kernel_rfl) (by kernel_rfl) (fun _ _ _ h => h) (Or.inl ⟨by kernel_rfl, ?_⟩) (by assumption) ?_
    rotate_left 1
    · intro w hSw; (try dsimp only at hSw); go_simp; (try with_reducible rfl)
    (try simp only [Act.put, List.getElem_toArray, List.getElem_cons_zero, List.getElem_cons_succ, List.setIfInBounds_toArray, List.set_cons_zero, List.set_cons_succ])
    refine wpAnyH_done (by kernel_rfl) ?_ _
    go_wp2_with (first
      | (go_at_call 28
         refine (srv_ok L m A2 c2 ar _ (Kd.C_below HRA.out (below_drew1 B3.out)) HG.out).mono ?_
         rintro e w5 ⟨bt, bp, cp, T, rfl, hb5, hT, hGr⟩
         have hb35 : Below w3.heap.size w3 w5 := below_step (below_drew1 (Below.refl _ _)) hb5
         have X5 := Aside0.mk (blk_below X3.out hb35)
         have B5 := Aside0.mk (below_step B3.out hb35)
         have T5 := Aside0.mk hT
         have GR := Aside0.mk hGr
         have k50 : w5.cell? ⟨w.heap.size, 0, none⟩ = some (.int .i64 L) := (blk_cell X5.out 0).trans rfl
         have k51 : w5.cell? ⟨w.heap.size, 1, none⟩ = some (.int .i64 (m : Int)) := (blk_cell X5.out 1).trans rfl
         have k52 : w5.cell? ⟨w.heap.size, 2, none⟩ = some (.slice A2 ar.length c2) := (blk_cell X5.out 2).trans rfl
         clear hb5 hT hGr hb35 k30 k31 k32)
      | (go_at_call 27
         refine (cls_ok L m A2 c2 ar _ (Kd.C_below HRA.out B5.out) HG.out).mono ?_
         rintro e w7 ⟨AC, cc, cl, rfl, hb7, hC, hE⟩
         have M7 := Aside0.mk (show SoM w7 bt m bp cp T AC cl from ⟨T5.out.below hb7, hC⟩)
         have B7 := Aside0.mk (below_step B5.out hb7)
         have HE := Aside0.mk hE
         clear hb7 hC hE k50 k51 k52)
      | fail)
    clear X3 B3 X5 B5 T5
    go_loopg [8] m (fun gg s8 wr => ∃ p : Nat, p ≤ m ∧ m - p ≤ gg ∧ s8 = .int .i64 (p : Int) ∧ Aside0 (SoM wr bt m bp cp T AC cl) ∧ Aside0 (Below w.heap.size w wr))
    case atStart => exact ⟨0, Nat.zero_le _, by omega, rfl, M7, B7⟩
    case round =>
      clear M7 B7
      obtain ⟨p, hp, hgp, rfl, MM, BB⟩ := hrel
      by_cases hlt : p < m
      · have hltz : (p : Int) < (m : Int) := by omega
        have kT := MM.out.t.row hlt
        have kc := MM.out.t.cell hlt hlt
        rw [GR.out.refl hlt] at kc
        go_wp2
        clear kT kc
        go_loopg [9] m (fun gg s9 wr => ∃ q : Nat, q ≤ m ∧ m - q ≤ gg ∧ s9 = .int .i64 (q : Int) ∧ Aside0 (SoM wr bt m bp cp T AC cl) ∧ Aside0 (Below w.heap.size w wr))
        case atStart => exact ⟨0, Nat.zero_le _, by omega, rfl, MM, BB⟩
        case round =>
          clear MM BB
          obtain ⟨q, hq, hgq, rfl, MM, BB⟩ := hrel
          by_cases hltq : q < m
          · have hltqz : (q : Int) < (m : Int) := by omega
            have hp0 : (0 : Int) ≤ (p : Int) := by omega
            have hq0 : (0 : Int) ≤ (q : Int) := by omega
            have kT := MM.out.t.row hlt
            have kc := MM.out.t.cell hlt hltq
            obtain ⟨ad, e0, x1⟩ := int_get MM.out.c HE.out.1.symm (i := p) (by rw [HE.out.1]; exact hlt)
            cases e0
            obtain ⟨_, e0, x2⟩ := int_get MM.out.c HE.out.1.symm (i := q) (by rw [HE.out.1]; exact hltq)
            cases e0
            have HAL := Aside0.mk (fun e : cl[p]'(by rw [HE.out.1]; exact hlt) = cl[q]'(by rw [HE.out.1]; exact hltq) => GR.out.alike HE.out.2 hlt hltq (by
              rw [List.getD_eq_getElem?_getD, List.getD_eq_getElem?_getD, List.getElem?_eq_getElem (by rw [HE.out.1]; exact hlt), List.getElem?_eq_getElem (by rw [HE.out.1]; exact hltq)]; exact e))
            generalize cl[p]'(by rw [HE.out.1]; exact hlt) = x at x1 HAL
            generalize cl[q]'(by rw [HE.out.1]; exact hltq) = y at x2 HAL
            obtain ⟨v, hv⟩ : ∃ v, T p q = v := ⟨_, rfl⟩
            rw [hv] at kc HAL
            have HMS := Aside0.mk (show ∀ W', Below wr.heap.size wr W' → (fun W' => W'.cell? ⟨bt, p, none⟩ = some (.slice (some ⟨bp p, 0, none⟩) m (cp p)) ∧ W'.cell? ⟨bp p, q, none⟩ = some (.bool v) ∧ W'.cell? (ad.add p) = some (.int .i64 x) ∧ W'.cell? (ad.add q) = some (.int .i64 y)) W' from fun W' hb => ⟨pw_cell_below hb kT, pw_cell_below hb kc, pw_cell_below hb x1, pw_cell_below hb x2⟩)
            have M2 := Aside0.mk (MM.out.below (below_drew1 (Below.refl _ _)))
            have B2 := Aside0.mk (below_drew1 BB.out)
            have HV := Aside0.mk hv
            cases hxy : (x == y) with
            | false =>
              clear HAL
              go_wp2
              refine wp_region_held_drew (S := (fun W' => W'.cell? ⟨bt, p, none⟩ = some (.slice (some ⟨bp p, 0, none⟩) m (cp p)) ∧ W'.cell? ⟨bp p, q, none⟩ = some (.bool v) ∧ W'.cell? (ad.add p) = some (.int .i64 x) ∧ W'.cell? (ad.add q) = some (.int .i64 y))) (by kernel_rfl) ?_ (fun hHeld => ?_)
              · (try dsimp only); (first | exact HMS.out _ (below_drew1 (Below.refl _ _)) | fail)
              refine wpAnyH_take (i := 0) (v := ?_) rfl (by kernel_rfl) (by kernel_rfl) (by kernel_rfl) (fun _ _ _ h => h) (Or.inl ⟨by kernel_rfl, ?_⟩) (by assumption) ?_
              rotate_left 1
              · intro w hSw; (try dsimp only at hSw); go_simp; (try with_reducible rfl)
              (try simp only [Act.put, List.getElem_toArray, List.getElem_cons_zero, List.getElem_cons_succ, List.setIfInBounds_toArray, List.set_cons_zero, List.set_cons_succ])
              refine wpAnyH_take (i := 1) (v := ?_) rfl (by kernel_rfl) (by kernel_rfl) (by kernel_rfl) (fun _ _ _ h => h) (Or.inl ⟨by kernel_rfl, ?_⟩) (by assumption) ?_
              rotate_left 1
              · intro w hSw; (try dsimp only at hSw); go_simp; (try with_reducible rfl)
              (try simp only [Act.put, List.getElem_toArray, List.getElem_cons_zero, List.getElem_cons_succ, List.setIfInBounds_toArray, List.set_cons_zero, List.set_cons_succ])
              refine wpAnyH_take (i := 2) (v := ?_) rfl (by kernel_rfl) (by kernel_rfl) (by kernel_rfl) (fun _ _ _ h => h) (Or.inl ⟨by kernel_rfl, ?_⟩) (by assumption) ?_
              rotate_left 1
              · intro w hSw; (try dsimp only at hSw); go_simp; (try with_reducible rfl)
              (try simp only [Act.put, List.getElem_toArray, List.getElem_cons_zero, List.getElem_cons_succ, List.setIfInBounds_toArray, List.set_cons_zero, List.set_cons_succ])
              refine wpAnyH_take (i := 3) (v := ?_) rfl (by kernel_rfl) (by kernel_rfl) (by kernel_rfl) (fun _ _ _ h => h) (Or.inl ⟨by kernel_rfl, ?_⟩) (by assumption) ?_
              rotate_left 1
              · intro w hSw; (try dsimp only at hSw); go_simp; (try with_reducible rfl)
              (try simp only [Act.put, List.getElem_toArray, List.getElem_cons_zero, List.getElem_cons_succ, List.setIfInBounds_toArray, List.set_cons_zero, List.set_cons_succ])
              refine wpAnyH_take (i := 4) (v := ?_) rfl (by kernel_rfl) (by kernel_rfl) (by kernel_rfl) (fun _ _ _ h => h) (Or.inl ⟨by kernel_rfl, ?_⟩) (by assumption) ?_
              rotate_left 1
              · intro w hSw; (try dsimp only at hSw); go_simp; (try with_reducible rfl)
              (try simp only [Act.put, List.getElem_toArray, List.getElem_cons_zero, List.getElem_cons_succ, List.setIfInBounds_toArray, List.set_cons_zero, List.set_cons_succ])
              refine wpAnyH_take (i := 5) (v := ?_) rfl (by kernel_rfl) (by kernel_rfl) (by kernel_rfl) (fun _ _ _ h => h) (Or.inl ⟨by kernel_rfl, ?_⟩) (by assumption) ?_
              rotate_left 1
              · intro w hSw; (try dsimp only at hSw); go_simp; (try with_reducible rfl)
              (try simp only [Act.put, List.getElem_toArray, List.getElem_cons_zero, List.getElem_cons_succ, List.setIfInBounds_toArray, List.set_cons_zero, List.set_cons_succ])
              refine wpAnyH_take (i := 6) (v := ?_) rfl (by kernel_rfl) (by kernel_rfl) (by kernel_rfl) (fun _ _ _ h => h) (Or.inl ⟨by kernel_rfl, ?_⟩) (by assumption) ?_
              rotate_left 1
              · intro w hSw; (try dsimp only at hSw); go_simp; (try with_reducible rfl)
              (try simp only [Act.put, List.getElem_toArray, List.getElem_cons_zero, List.getElem_cons_succ, List.setIfInBounds_toArray, List.set_cons_zero, List.set_cons_succ])
              refine wpAnyH_take (i := 7) (v := ?_) rfl (by kernel_rfl) (by kernel_rfl) (by kernel_rfl) (fun _ _ _ h => h) (Or.inl ⟨by kernel_rfl, ?_⟩) (by assumption) ?_
              rotate_left 1
              · intro w hSw; (try dsimp only at hSw); go_simp; (try with_reducible rfl)
              (try simp only [Act.put, List.getElem_toArray, List.getElem_cons_zero, List.getElem_cons_succ, List.setIfInBounds_toArray, List.set_cons_zero, List.set_cons_succ])
              refine wpAnyH_take (i := 8) (v := ?_) rfl (by kernel_rfl) (by kernel_rfl) (by kernel_rfl) (fun _ _ _ h => h) (Or.inl ⟨by kernel_rfl, ?_⟩) (by assumption) ?_
              rotate_left 1
              · intro w hSw; (try dsimp only at hSw); go_simp; (try with_reducible rfl)
              (try simp only [Act.put, List.getElem_toArray, List.getElem_cons_zero, List.getElem_cons_succ, List.setIfInBounds_toArray, List.set_cons_zero, List.set_cons_succ])
              refine wpAnyH_take (i := 9) (v := ?_) rfl (by kernel_rfl) (by kernel_rfl) (by kernel_rfl) (fun _ _ _ h => h) (Or.inl ⟨by kernel_rfl, ?_⟩) (by assumption) ?_
              rotate_left 1
              · intro w hSw; (try dsimp only at hSw); go_simp; (try with_reducible rfl)
              (try simp only [Act.put, List.getElem_toArray, List.getElem_cons_zero, List.getElem_cons_succ, List.setIfInBounds_toArray, List.set_cons_zero, List.set_cons_succ])
              refine wpAnyH_take (i := 10) (v := undef) rfl (by kernel_rfl) (by kernel_rfl) (by kernel_rfl) (fun _ _ _ h => h) (Or.inr ⟨by kernel_rfl, rfl⟩) (by assumption) ?_
              (try simp only [Act.put, List.getElem_toArray, List.getElem_cons_zero, List.getElem_cons_succ, List.setIfInBounds_toArray, List.set_cons_zero, List.set_cons_succ])
              refine wpAnyH_take (i := 11) (v := undef) rfl (by kernel_rfl) (by kernel_rfl) (by kernel_rfl) (fun _ _ _ h => h) (Or.inr ⟨by kernel_rfl, rfl⟩) (by assumption) ?_
              (try simp only [Act.put, List.getElem_toArray, List.getElem_cons_zero, List.getElem_cons_succ, List.setIfInBounds_toArray, List.set_cons_zero, List.set_cons_succ])
              refine wpAnyH_take (i := 12) (v := undef) rfl (by kernel_rfl) (by kernel_rfl) (by kernel_rfl) (fun _ _ _ h => h) (Or.inr ⟨by kernel_rfl, rfl⟩) (by assumption) ?_
              (try simp only [Act.put, List.getElem_toArray, List.getElem_cons_zero, List.getElem_cons_succ, List.setIfInBounds_toArray, List.set_cons_zero, List.set_cons_succ])
              refine wpAnyH_take (i := 13) (v := undef) rfl (by kernel_rfl) (by kernel_rfl) (by kernel_rfl) (fun _ _ _ h => h) (Or.inr ⟨by kernel_rfl, rfl⟩) (by assumption) ?_
              (try simp only [Act.put, List.getElem_toArray, List.getElem_cons_zero, List.getElem_cons_succ, List.setIfInBounds_toArray, List.set_cons_zero, List.set_cons_succ])
              refine wpAnyH_take (i := 14) (v := undef) rfl (by kernel_rfl) (by kernel_rfl) (by kernel_rfl) (fun _ _ _ h => h) (Or.inr ⟨by kernel_rfl, rfl⟩) (by assumption) ?_
              (try simp only [Act.put, List.getElem_toArray, List.getElem_cons_zero, List.getElem_cons_succ, List.setIfInBounds_toArray, List.set_cons_zero, List.set_cons_succ])
              refine wpAnyH_take (i := 15) (v := undef) rfl (by kernel_rfl) (by kernel_rfl) (by kernel_rfl) (fun _ _ _ h => h) (Or.inr ⟨by kernel_rfl, rfl⟩) (by assumption) ?_
              (try simp only [Act.put, List.getElem_toArray, List.getElem_cons_zero, List.getElem_cons_succ, List.setIfInBounds_toArray, List.set_cons_zero, List.set_cons_succ])
              refine wpAnyH_take (i := 16) (v := undef) rfl (by kernel_rfl) (by kernel_rfl) (by kernel_rfl) (fun _ _ _ h => h) (Or.inr ⟨by kernel_rfl, rfl⟩) (by assumption) ?_
              (try simp only [Act.put, List.getElem_toArray, List.getElem_cons_zero, List.getElem_cons_succ, List.setIfInBounds_toArray, List.set_cons_zero, List.set_cons_succ])
              refine wpAnyH_take (i := 17) (v := undef) rfl (by kernel_rfl) (by kernel_rfl) (by kernel_rfl) (fun _ _ _ h => h) (Or.inr ⟨by kernel_rfl, rfl⟩) (by assumption) ?_
              (try simp only [Act.put, List.getElem_toArray, List.getElem_cons_zero, List.getElem_cons_succ, List.setIfInBounds_toArray, List.set_cons_zero, List.set_cons_succ])
              refine wpAnyH_take (i := 18) (v := ?_) rfl (by kernel_rfl) (by kernel_rfl) (by kernel_rfl) (fun _ _ _ h => h) (Or.inl ⟨by kernel_rfl, ?_⟩) (by assumption) ?_
              rotate_left 1
              · intro w hSw; (try dsimp only at hSw); go_simp; (try with_reducible rfl)
              (try simp only [Act.put, List.getElem_toArray, List.getElem_cons_zero, List.getElem_cons_succ, List.setIfInBounds_toArray, List.set_cons_zero, List.set_cons_succ])
              refine wpAnyH_done (by kernel_rfl) ?_ _
              go_wp2
              clear kT kc x1 x2 HMS MM BB
              go_loopg [10] m (fun gg s10 wr => ∃ r : Nat, r ≤ m ∧ m - r ≤ gg ∧ s10 = .int .i64 (r : Int) ∧ Aside0 (SoM wr bt m bp cp T (some ad) cl) ∧ Aside0 (Below w.heap.size w wr))
              case atStart => exact ⟨0, Nat.zero_le _, by omega, rfl, M2, B2⟩
              case round =>
                clear M2 B2
                obtain ⟨r, hr, hgr, rfl, MM, BB⟩ := hrel
                by_cases hltr : r < m
                · have hltrz : (r : Int) < (m : Int) := by omega
                  have HTR := Aside0.mk (fun (a : T p q = true) (b : T q r = true) => GR.out.trans HOK.out hlt hltq hltr a b)
                  have kp := MM.out.t.row hlt
                  have kq := MM.out.t.row hltq
                  have c1 := MM.out.t.cell hlt hltq
                  have c2_ := MM.out.t.cell hltq hltr
                  have c3 := MM.out.t.cell hlt hltr
                  cases h1 : T p q with
                  | false =>
                    rw [h1] at c1
                    clear HTR
                    go_wp2
                    go_roundg (m - (r + 1))
                    case measure => omega
                    case rel => exact ⟨r + 1, by omega, by omega, by go_num, MM, BB⟩
                  | true =>
                    rw [h1] at c1
                    cases h2 : T q r with
                    | false =>
                      rw [h2] at c2_
                      clear HTR
                      go_wp2
                      go_roundg (m - (r + 1))
                      case measure => omega
                      case rel => exact ⟨r + 1, by omega, by omega, by go_num, MM, BB⟩
                    | true =>
                      rw [h2] at c2_
                      rw [HTR.out h1 h2] at c3
                      clear HTR
                      go_wp2
                      go_roundg (m - (r + 1))
                      case measure => omega
                      case rel => exact ⟨r + 1, by omega, by omega, by go_num, MM, BB⟩
                · have hre : r = m := by omega
                  go_wp2
                  go_roundg (m - (q + 1))
                  case measure => omega
                  case rel => exact ⟨q + 1, by omega, by omega, by go_num, MM, BB⟩
            | true =>
              have hvt : v = true := HAL.out (by simpa using hxy)
              clear HAL
              go_wp2
              refine wp_region_held_drew (S := (fun W' => W'.cell? ⟨bt, p, none⟩ = some (.slice (some ⟨bp p, 0, none⟩) m (cp p)) ∧ W'.cell? ⟨bp p, q, none⟩ = some (.bool v) ∧ W'.cell? (ad.add p) = some (.int .i64 x) ∧ W'.cell? (ad.add q) = some (.int .i64 y))) (by kernel_rfl) ?_ (fun hHeld => ?_)
              · (try dsimp only); (first | exact HMS.out _ (below_drew1 (Below.refl _ _)) | fail)
              refine wpAnyH_take (i := 0) (v := ?_) rfl (by kernel_rfl) (by kernel_rfl) (by kernel_rfl) (fun _ _ _ h => h) (Or.inl ⟨by kernel_rfl, ?_⟩) (by assumption) ?_
              rotate_left 1
              · intro w hSw; (try dsimp only at hSw); go_simp; (try with_reducible rfl)
              (try simp only [Act.put, List.getElem_toArray, List.getElem_cons_zero, List.getElem_cons_succ, List.setIfInBounds_toArray, List.set_cons_zero, List.set_cons_succ])
              refine wpAnyH_take (i := 1) (v := ?_) rfl (by kernel_rfl) (by kernel_rfl) (by kernel_rfl) (fun _ _ _ h => h) (Or.inl ⟨by kernel_rfl, ?_⟩) (by assumption) ?_
              rotate_left 1
              · intro w hSw; (try dsimp only at hSw); go_simp; (try with_reducible rfl)
              (try simp only [Act.put, List.getElem_toArray, List.getElem_cons_zero, List.getElem_cons_succ, List.setIfInBounds_toArray, List.set_cons_zero, List.set_cons_succ])
              refine wpAnyH_take (i := 2) (v := ?_) rfl (by kernel_rfl) (by kernel_rfl) (by kernel_rfl) (fun _ _ _ h => h) (Or.inl ⟨by kernel_rfl, ?_⟩) (by assumption) ?_
              rotate_left 1
              · intro w hSw; (try dsimp only at hSw); go_simp; (try with_reducible rfl)
              (try simp only [Act.put, List.getElem_toArray, List.getElem_cons_zero, List.getElem_cons_succ, List.setIfInBounds_toArray, List.set_cons_zero, List.set_cons_succ])
              refine wpAnyH_take (i := 3) (v := ?_) rfl (by kernel_rfl) (by kernel_rfl) (by kernel_rfl) (fun _ _ _ h => h) (Or.inl ⟨by kernel_rfl, ?_⟩) (by assumption) ?_
              rotate_left 1
              · intro w hSw; (try dsimp only at hSw); go_simp; (try with_reducible rfl)
              (try simp only [Act.put, List.getElem_toArray, List.getElem_cons_zero, List.getElem_cons_succ, List.setIfInBounds_toArray, List.set_cons_zero, List.set_cons_succ])
              refine wpAnyH_take (i := 4) (v := ?_) rfl (by kernel_rfl) (by kernel_rfl) (by kernel_rfl) (fun _ _ _ h => h) (Or.inl ⟨by kernel_rfl, ?_⟩) (by assumption) ?_
              rotate_left 1
              · intro w hSw; (try dsimp only at hSw); go_simp; (try with_reducible rfl)
              (try simp only [Act.put, List.getElem_toArray, List.getElem_cons_zero, List.getElem_cons_succ, List.setIfInBounds_toArray, List.set_cons_zero, List.set_cons_succ])
              refine wpAnyH_take (i := 5) (v := ?_) rfl (by kernel_rfl) (by kernel_rfl) (by kernel_rfl) (fun _ _ _ h => h) (Or.inl ⟨by kernel_rfl, ?_⟩) (by assumption) ?_
              rotate_left 1
              · intro w hSw; (try dsimp only at hSw); go_simp; (try with_reducible rfl)
              (try simp only [Act.put, List.getElem_toArray, List.getElem_cons_zero, List.getElem_cons_succ, List.setIfInBounds_toArray, List.set_cons_zero, List.set_cons_succ])
              refine wpAnyH_take (i := 6) (v := ?_) rfl (by kernel_rfl) (by kernel_rfl) (by kernel_rfl) (fun _ _ _ h => h) (Or.inl ⟨by kernel_rfl, ?_⟩) (by assumption) ?_
              rotate_left 1
              · intro w hSw; (try dsimp only at hSw); go_simp; (try with_reducible rfl)
              (try simp only [Act.put, List.getElem_toArray, List.getElem_cons_zero, List.getElem_cons_succ, List.setIfInBounds_toArray, List.set_cons_zero, List.set_cons_succ])
              refine wpAnyH_take (i := 7) (v := ?_) rfl (by kernel_rfl) (by kernel_rfl) (by kernel_rfl) (fun _ _ _ h => h) (Or.inl ⟨by kernel_rfl, ?_⟩) (by assumption) ?_
              rotate_left 1
              · intro w hSw; (try dsimp only at hSw); go_simp; (try with_reducible rfl)
              (try simp only [Act.put, List.getElem_toArray, List.getElem_cons_zero, List.getElem_cons_succ, List.setIfInBounds_toArray, List.set_cons_zero, List.set_cons_succ])
              refine wpAnyH_take (i := 8) (v := ?_) rfl (by kernel_rfl) (by kernel_rfl) (by kernel_rfl) (fun _ _ _ h => h) (Or.inl ⟨by kernel_rfl, ?_⟩) (by assumption) ?_
              rotate_left 1
              · intro w hSw; (try dsimp only at hSw); go_simp; (try with_reducible rfl)
              (try simp only [Act.put, List.getElem_toArray, List.getElem_cons_zero, List.getElem_cons_succ, List.setIfInBounds_toArray, List.set_cons_zero, List.set_cons_succ])
              refine wpAnyH_take (i := 9) (v := ?_) rfl (by kernel_rfl) (by kernel_rfl) (by kernel_rfl) (fun _ _ _ h => h) (Or.inl ⟨by kernel_rfl, ?_⟩) (by assumption) ?_
              rotate_left 1
              · intro w hSw; (try dsimp only at hSw); go_simp; (try with_reducible rfl)
              (try simp only [Act.put, List.getElem_toArray, List.getElem_cons_zero, List.getElem_cons_succ, List.setIfInBounds_toArray, List.set_cons_zero, List.set_cons_succ])
              refine wpAnyH_take (i := 10) (v := ?_) rfl (by kernel_rfl) (by kernel_rfl) (by kernel_rfl) (fun _ _ _ h => h) (Or.inl ⟨by kernel_rfl, ?_⟩) (by assumption) ?_
              rotate_left 1
              · intro w hSw; (try dsimp only at hSw); go_simp; (try with_reducible rfl)
              (try simp only [Act.put, List.getElem_toArray, List.getElem_cons_zero, List.getElem_cons_succ, List.setIfInBounds_toArray, List.set_cons_zero, List.set_cons_succ])
              refine wpAnyH_take (i := 11) (v := ?_) rfl (by kernel_rfl) (by kernel_rfl) (by kernel_rfl) (fun _ _ _ h => h) (Or.inl ⟨by kernel_rfl, ?_⟩) (by assumption) ?_
              rotate_left 1
              · intro w hSw; (try dsimp only at hSw); go_simp; (try with_reducible rfl)
              (try simp only [Act.put, List.getElem_toArray, List.getElem_cons_zero, List.getElem_cons_succ, List.setIfInBounds_toArray, List.set_cons_zero, List.set_cons_succ])
              refine wpAnyH_take (i := 12) (v := ?_) rfl (by kernel_rfl) (by kernel_rfl) (by kernel_rfl) (fun _ _ _ h => h) (Or.inl ⟨by kernel_rfl, ?_⟩) (by assumption) ?_
              rotate_left 1
              · intro w hSw; (try dsimp only at hSw); go_simp; (try with_reducible rfl)
              (try simp only [Act.put, List.getElem_toArray, List.getElem_cons_zero, List.getElem_cons_succ, List.setIfInBounds_toArray, List.set_cons_zero, List.set_cons_succ])
              refine wpAnyH_take (i := 13) (v := ?_) rfl (by kernel_rfl) (by kernel_rfl) (by kernel_rfl) (fun _ _ _ h => h) (Or.inl ⟨by kernel_rfl, ?_⟩) (by assumption) ?_
              rotate_left 1
              · intro w hSw; (try dsimp only at hSw); go_simp; (try with_reducible rfl)
              (try simp only [Act.put, List.getElem_toArray, List.getElem_cons_zero, List.getElem_cons_succ, List.setIfInBounds_toArray, List.set_cons_zero, List.set_cons_succ])
              refine wpAnyH_take (i := 14) (v := ?_) rfl (by kernel_rfl) (by kernel_rfl) (by kernel_rfl) (fun _ _ _ h => h) (Or.inl ⟨by kernel_rfl, ?_⟩) (by assumption) ?_
              rotate_left 1
              · intro w hSw; (try dsimp only at hSw); go_simp; (try with_reducible rfl)
              (try simp only [Act.put, List.getElem_toArray, List.getElem_cons_zero, List.getElem_cons_succ, List.setIfInBounds_toArray, List.set_cons_zero, List.set_cons_succ])
              refine wpAnyH_take (i := 15) (v := ?_) rfl (by kernel_rfl) (by kernel_rfl) (by kernel_rfl) (fun _ _ _ h => h) (Or.inl ⟨by kernel_rfl, ?_⟩) (by assumption) ?_
              rotate_left 1
              · intro w hSw; (try dsimp only at hSw); go_simp; (try with_reducible rfl)
              (try simp only [Act.put, List.getElem_toArray, List.getElem_cons_zero, List.getElem_cons_succ, List.setIfInBounds_toArray, List.set_cons_zero, List.set_cons_succ])
              refine wpAnyH_take (i := 16) (v := ?_) rfl (by kernel_rfl) (by kernel_rfl) (by kernel_rfl) (fun _ _ _ h => h) (Or.inl ⟨by kernel_rfl, ?_⟩) (by assumption) ?_
              rotate_left 1
              · intro w hSw; (try dsimp only at hSw); go_simp; (try with_reducible rfl)
              (try simp only [Act.put, List.getElem_toArray, List.getElem_cons_zero, List.getElem_cons_succ, List.setIfInBounds_toArray, List.set_cons_zero, List.set_cons_succ])
              refine wpAnyH_take (i := 17) (v := ?_) rfl (by kernel_rfl) (by kernel_rfl) (by kernel_rfl) (fun _ _ _ h => h) (Or.inl ⟨by kernel_rfl, ?_⟩) (by assumption) ?_
              rotate_left 1
              · intro w hSw; (try dsimp only at hSw); go_simp; (try with_reducible rfl)
              (try simp only [Act.put, List.getElem_toArray, List.getElem_cons_zero, List.getElem_cons_succ, List.setIfInBounds_toArray, List.set_cons_zero, List.set_cons_succ])
              refine wpAnyH_take (i := 18) (v := ?_) rfl (by kernel_rfl) (by kernel_rfl) (by kernel_rfl) (fun _ _ _ h => h) (Or.inl ⟨by kernel_rfl, ?_⟩) (by assumption) ?_
              rotate_left 1
              · intro w hSw; (try dsimp only at hSw); go_simp; (try with_reducible rfl)
              (try simp only [Act.put, List.getElem_toArray, List.getElem_cons_zero, List.getElem_cons_succ, List.setIfInBounds_toArray, List.set_cons_zero, List.set_cons_succ])
              refine wpAnyH_done (by kernel_rfl) ?_ _
              go_wp2
              clear kT kc x1 x2 HMS MM BB
              go_loopg [10] m (fun gg s10 wr => ∃ r : Nat, r ≤ m ∧ m - r ≤ gg ∧ s10 = .int .i64 (r : Int) ∧ Aside0 (SoM wr bt m bp cp T (some ad) cl) ∧ Aside0 (Below w.heap.size w wr))
              case atStart => exact ⟨0, Nat.zero_le _, by omega, rfl, M2, B2⟩
              case round =>
                clear M2 B2
                obtain ⟨r, hr, hgr, rfl, MM, BB⟩ := hrel
                by_cases hltr : r < m
                · have hltrz : (r : Int) < (m : Int) := by omega
                  have HTR := Aside0.mk (fun (a : T p q = true) (b : T q r = true) => GR.out.trans HOK.out hlt hltq hltr a b)
                  have kp := MM.out.t.row hlt
                  have kq := MM.out.t.row hltq
                  have c1 := MM.out.t.cell hlt hltq
                  have c2_ := MM.out.t.cell hltq hltr
                  have c3 := MM.out.t.cell hlt hltr
                  cases h1 : T p q with
                  | false =>
                    rw [h1] at c1
                    clear HTR
                    go_wp2
                    go_roundg (m - (r + 1))
                    case measure => omega
                    case rel => exact ⟨r + 1, by omega, by omega, by go_num, MM, BB⟩
                  | true =>
                    rw [h1] at c1
                    cases h2 : T q r with
                    | false =>
                      rw [h2] at c2_
                      clear HTR
                      go_wp2
                      go_roundg (m - (r + 1))
                      case measure => omega
                      case rel => exact ⟨r + 1, by omega, by omega, by go_num, MM, BB⟩
                    | true =>
                      rw [h2] at c2_
                      rw [HTR.out h1 h2] at c3
                      clear HTR
                      go_wp2
                      go_roundg (m - (r + 1))
                      case measure => omega
                      case rel => exact ⟨r + 1, by omega, by omega, by go_num, MM, BB⟩
                · have hre : r = m := by omega
                  go_wp2
                  go_roundg (m - (q + 1))
                  case measure => omega
                  case rel => exact ⟨q + 1, by omega, by omega, by go_num, MM, BB⟩
          · have hqe : q = m := by omega
            go_wp2
            go_roundg (m - (p + 1))
            case measure => omega
            case rel => exact ⟨p + 1, by omega, by omega, by go_num, MM, BB⟩
      · have hpe : p = m := by omega
        go_wp2
        go_ret
        exact ⟨rfl, BB.out⟩
  · obtain ⟨er, her⟩ : ∃ er, gChk L n ar = er := ⟨_, rfl⟩
    have HG := Aside0.mk her
    rw [her] at h
    have hne : (er != 0) = true := by simpa using h
    have hee : (er != er) = false := by simp
    have HNE := Aside0.mk h
    clear h her
    go_enter Try.func8, Try.ntmps8
    go_wp2_with (first
      | (go_at_call 27; have _t := tok1; refine calls_let ?_; intro W2 hW2; have X2 : W2.heap[w.heap.size]? = some (.cells #[.int .i64 L, .int .i64 n, .slice A2 ar.length c2] 75 (0, 0)) := (by rw [hW2]; exact blk_alloc (blk_new w _) _); have B2 : Below w.heap.size w W2 := (by rw [hW2]; exact below_alloc (below_alloc (Below.refl _ _) _) _); have hcall := tiny_cls W2 (w.heap.size + 1) (by rw [hW2]; go_simp) (by rw [hW2]; go_simp) (by rw [hW2]; go_simp); clear hW2; refine hcall.mono ?_; clear hcall; rintro e w3 ⟨ad0, c0, x0, y0, rfl, hb3, hx0, hy0, hxy⟩; have X3 := Aside0.mk (blk_below X2 hb3); have B3 := Aside0.mk (below_step B2 hb3); have k30 : w3.cell? ⟨w.heap.size, 0, none⟩ = some (.int .i64 L) := (blk_cell X3.out 0).trans rfl; have k31 : w3.cell? ⟨w.heap.size, 1, none⟩ = some (.int .i64 n) := (blk_cell X3.out 1).trans rfl; have k32 : w3.cell? ⟨w.heap.size, 2, none⟩ = some (.slice A2 ar.length c2) := (blk_cell X3.out 2).trans rfl; clear X2 B2 hb3 tok1)
      | fail)
    refine wp_region_held_drew (S := (fun W' => W'.cell? ad0 = some (.int .i64 x0) ∧ W'.cell? ⟨ad0.block, ad0.off + 1, none⟩ = some (.int .i64 y0))) (by kernel_rfl) ?_ (fun hHeld => ?_)
    · (try dsimp only); (first | exact ⟨hx0, hy0⟩ | (refine ⟨?_, ?_⟩ <;> (go_simp; done)) | fail)
    refine wpAnyH_take (i := 0) (v := ?_) rfl (by kernel_rfl) (by kernel_rfl) (by kernel_rfl) (fun _ _ _ h => h) (Or.inl ⟨by kernel_rfl, ?_⟩) (by assumption) ?_
    rotate_left 1
    · intro w hSw; (try dsimp only at hSw); go_simp; (try with_reducible rfl)
    (try simp only [Act.put, List.getElem_toArray, List.getElem_cons_zero, List.getElem_cons_succ, List.setIfInBounds_toArray, List.set_cons_zero, List.set_cons_succ])
    refine wpAnyH_take (i := 1) (v := ?_) rfl (by kernel_rfl) (by kernel_rfl) (by kernel_rfl) (fun _ _ _ h => h) (Or.inl ⟨by kernel_rfl, ?_⟩) (by assumption) ?_
    rotate_left 1
    · intro w hSw; (try dsimp only at hSw); go_simp; (try with_reducible rfl)
    (try simp only [Act.put, List.getElem_toArray, List.getElem_cons_zero, List.getElem_cons_succ, List.setIfInBounds_toArray, List.set_cons_zero, List.set_cons_succ])
    refine wpAnyH_take (i := 2) (v := ?_) rfl (by kernel_rfl) (by kernel_rfl) (by kernel_rfl) (fun _ _ _ h => h) (Or.inl ⟨by kernel_rfl, ?_⟩) (by assumption) ?_
    rotate_left 1
    · intro w hSw; (try dsimp only at hSw); go_simp; (try with_reducible rfl)
    (try simp only [Act.put, List.getElem_toArray, List.getElem_cons_zero, List.getElem_cons_succ, List.setIfInBounds_toArray, List.set_cons_zero, List.set_cons_succ])
    refine wpAnyH_take (i := 3) (v := ?_) rfl (by kernel_rfl) (by kernel_rfl) (by kernel_rfl) (fun _ _ _ h => h) (Or.inl ⟨by kernel_rfl, ?_⟩) (by assumption) ?_
    rotate_left 1
    · intro w hSw; (try dsimp only at hSw); go_simp; (try with_reducible rfl)
    (try simp only [Act.put, List.getElem_toArray, List.getElem_cons_zero, List.getElem_cons_succ, List.setIfInBounds_toArray, List.set_cons_zero, List.set_cons_succ])
    refine wpAnyH_take (i := 4) (v := ?_) rfl (by kernel_rfl) (by kernel_rfl) (by kernel_rfl) (fun _ _ _ h => h) (Or.inl ⟨by kernel_rfl, ?_⟩) (by assumption) ?_
    rotate_left 1
    · intro w hSw; (try dsimp only at hSw); go_simp; (try with_reducible rfl)
    (try simp only [Act.put, List.getElem_toArray, List.getElem_cons_zero, List.getElem_cons_succ, List.setIfInBounds_toArray, List.set_cons_zero, List.set_cons_succ])
    refine wpAnyH_take (i := 5) (v := ?_) rfl (by kernel_rfl) (by kernel_rfl) (by kernel_rfl) (fun _ _ _ h => h) (Or.inl ⟨by kernel_rfl, ?_⟩) (by assumption) ?_
    rotate_left 1
    · intro w hSw; (try dsimp only at hSw); go_simp; (try with_reducible rfl)
    (try simp only [Act.put, List.getElem_toArray, List.getElem_cons_zero, List.getElem_cons_succ, List.setIfInBounds_toArray, List.set_cons_zero, List.set_cons_succ])
    refine wpAnyH_take (i := 6) (v := ?_) rfl (by kernel_rfl) (by kernel_rfl) (by kernel_rfl) (fun _ _ _ h => h) (Or.inl ⟨by kernel_rfl, ?_⟩) (by assumption) ?_
    rotate_left 1
    · intro w hSw; (try dsimp only at hSw); go_simp; (try with_reducible rfl)
    (try simp only [Act.put, List.getElem_toArray, List.getElem_cons_zero, List.getElem_cons_succ, List.setIfInBounds_toArray, List.set_cons_zero, List.set_cons_succ])
    refine wpAnyH_take (i := 7) (v := ?_) rfl (by kernel_rfl) (by kernel_rfl) (by kernel_rfl) (fun _ _ _ h => h) (Or.inl ⟨by kernel_rfl, ?_⟩) (by assumption) ?_
    rotate_left 1
    · intro w hSw; (try dsimp only at hSw); go_simp; (try with_reducible rfl)
    (try simp only [Act.put, List.getElem_toArray, List.getElem_cons_zero, List.getElem_cons_succ, List.setIfInBounds_toArray, List.set_cons_zero, List.set_cons_succ])
    refine wpAnyH_take (i := 8) (v := ?_) rfl (by kernel_rfl) (by kernel_rfl) (by kernel_rfl) (fun _ _ _ h => h) (Or.inl ⟨by kernel_rfl, ?_⟩) (by assumption) ?_
    rotate_left 1
    · intro w hSw; (try dsimp only at hSw); go_simp; (try with_reducible rfl)
    (try simp only [Act.put, List.getElem_toArray, List.getElem_cons_zero, List.getElem_cons_succ, List.setIfInBounds_toArray, List.set_cons_zero, List.set_cons_succ])
    refine wpAnyH_take (i := 9) (v := ?_) rfl (by kernel_rfl) (by kernel_rfl) (by kernel_rfl) (fun _ _ _ h => h) (Or.inl ⟨by kernel_rfl, ?_⟩) (by assumption) ?_
    rotate_left 1
    · intro w hSw; (try dsimp only at hSw); go_simp; (try with_reducible rfl)
    (try simp only [Act.put, List.getElem_toArray, List.getElem_cons_zero, List.getElem_cons_succ, List.setIfInBounds_toArray, List.set_cons_zero, List.set_cons_succ])
    refine wpAnyH_take (i := 10) (v := ?_) rfl (by kernel_rfl) (by kernel_rfl) (by kernel_rfl) (fun _ _ _ h => h) (Or.inl ⟨by kernel_rfl, ?_⟩) (by assumption) ?_
    rotate_left 1
    · intro w hSw; (try dsimp only at hSw); go_simp; (try with_reducible rfl)
    (try simp only [Act.put, List.getElem_toArray, List.getElem_cons_zero, List.getElem_cons_succ, List.setIfInBounds_toArray, List.set_cons_zero, List.set_cons_succ])
    refine wpAnyH_take (i := 11) (v := ?_) rfl (by kernel_rfl) (by kernel_rfl) (by kernel_rfl) (fun _ _ _ h => h) (Or.inl ⟨by kernel_rfl, ?_⟩) (by assumption) ?_
    rotate_left 1
    · intro w hSw; (try dsimp only at hSw); go_simp; (try with_reducible rfl)
    (try simp only [Act.put, List.getElem_toArray, List.getElem_cons_zero, List.getElem_cons_succ, List.setIfInBounds_toArray, List.set_cons_zero, List.set_cons_succ])
    refine wpAnyH_take (i := 12) (v := ?_) rfl (by kernel_rfl) (by kernel_rfl) (by kernel_rfl) (fun _ _ _ h => h) (Or.inl ⟨by kernel_rfl, ?_⟩) (by assumption) ?_
    rotate_left 1
    · intro w hSw; (try dsimp only at hSw); go_simp; (try with_reducible rfl)
    (try simp only [Act.put, List.getElem_toArray, List.getElem_cons_zero, List.getElem_cons_succ, List.setIfInBounds_toArray, List.set_cons_zero, List.set_cons_succ])
    refine wpAnyH_take (i := 13) (v := ?_) rfl (by kernel_rfl) (by kernel_rfl) (by kernel_rfl) (fun _ _ _ h => h) (Or.inl ⟨by kernel_rfl, ?_⟩) (by assumption) ?_
    rotate_left 1
    · intro w hSw; (try dsimp only at hSw); go_simp; (try with_reducible rfl)
    (try simp only [Act.put, List.getElem_toArray, List.getElem_cons_zero, List.getElem_cons_succ, List.setIfInBounds_toArray, List.set_cons_zero, List.set_cons_succ])
    refine wpAnyH_take (i := 14) (v := ?_) rfl (by kernel_rfl) (by kernel_rfl) (by kernel_rfl) (fun _ _ _ h => h) (Or.inl ⟨by kernel_rfl, ?_⟩) (by assumption) ?_
    rotate_left 1
    · intro w hSw; (try dsimp only at hSw); go_simp; (try with_reducible rfl)
    (try simp only [Act.put, List.getElem_toArray, List.getElem_cons_zero, List.getElem_cons_succ, List.setIfInBounds_toArray, List.set_cons_zero, List.set_cons_succ])
    refine wpAnyH_take (i := 15) (v := ?_) rfl (by kernel_rfl) (by kernel_rfl) (by kernel_rfl) (fun _ _ _ h => h) (Or.inl ⟨by kernel_rfl, ?_⟩) (by assumption) ?_
    rotate_left 1
    · intro w hSw; (try dsimp only at hSw); go_simp; (try with_reducible rfl)
    (try simp only [Act.put, List.getElem_toArray, List.getElem_cons_zero, List.getElem_cons_succ, List.setIfInBounds_toArray, List.set_cons_zero, List.set_cons_succ])
    refine wpAnyH_done (by kernel_rfl) ?_ _
    go_wp2_with (first
      | (go_at_call 28
         refine (srv_er L n A2 c2 ar _ (Kd.C_below HRA.out (below_drew1 B3.out)) er HG.out HNE.out).mono ?_
         rintro e w5 ⟨rfl, hb5⟩
         have hb35 : Below w3.heap.size w3 w5 := below_step (below_drew1 (Below.refl _ _)) hb5
         have X5 := Aside0.mk (blk_below X3.out hb35)
         have B5 := Aside0.mk (below_step B3.out hb35)
         have k50 : w5.cell? ⟨w.heap.size, 0, none⟩ = some (.int .i64 L) := (blk_cell X5.out 0).trans rfl
         have k51 : w5.cell? ⟨w.heap.size, 1, none⟩ = some (.int .i64 n) := (blk_cell X5.out 1).trans rfl
         have k52 : w5.cell? ⟨w.heap.size, 2, none⟩ = some (.slice A2 ar.length c2) := (blk_cell X5.out 2).trans rfl
         clear hb5 hb35 k30 k31 k32)
      | (go_at_call 27
         refine (cls_er L n A2 c2 ar _ (Kd.C_below HRA.out B5.out) er HG.out HNE.out).mono ?_
         rintro e w7 ⟨rfl, hb7⟩
         have B7 := Aside0.mk (below_step B5.out hb7)
         clear hb7 k50 k51 k52)
      | fail)
    go_ret
    exact ⟨rfl, B7.out⟩
end Go.Proofs.Ytampgoendkjkhaa.H
