/- higman.Least at a tiny automaton. -/
import Derived.Test.YtampgoendkjkhaaHtP
namespace Go.Proofs.Ytampgoendkjkhaa.H
open Go.RowKit Go.Shelf Go.Proofs.YtampgoendkjkhaaW.PrintWords Go.Proofs.YtampgoendkjkhaaW.PrintMore Go.Proofs.Ytampgoendkjkhaa.DtM
set_option linter.unusedVariables false
set_option linter.unusedSimpArgs false
theorem own_cells {W : World} {base e n : Nat} {v : Value} {xs : List Value} (h : W.ownsRow base e 1 v n xs) (hn : 0 < n) : ∃ g c, v = .slice (some ⟨g, 0, none⟩) n c ∧ base ≤ g ∧ g < W.heap.size ∧ n ≤ c ∧ ∀ i x, xs[i]? = some x → W.cell? ⟨g, i, none⟩ = some x := by
  obtain ⟨hl, ⟨_, h0⟩ | ⟨g, cap, cur, hv, hb, hg, hc, hm, hs, ht⟩⟩ := h
  · omega
  · refine ⟨g, cap, hv, hb, blk_lt hg, hc, fun i x hx => ?_⟩
    rw [blk_cell hg i, ← Array.getElem?_toList]
    rw [← ht, List.getElem?_take] at hx
    split at hx
    · exact hx
    · cases hx
theorem own_below {W W' : World} {base e n : Nat} {v : Value} {xs : List Value} (h : W.ownsRow base e 1 v n xs) (hb : Below W.heap.size W W') : W'.ownsRow base e 1 v n xs := by
  obtain ⟨hl, h0 | ⟨g, cap, cur, hv, hbg, hg, r⟩⟩ := h
  · exact ⟨hl, .inl h0⟩
  · exact ⟨hl, .inr ⟨g, cap, cur, hv, hbg, blk_below hg hb, r⟩⟩
theorem own_lit1 {W : World} {b e base : Nat} {x : Value} (h : W.heap[b]? = some (.cells #[x] e (0, 0))) (hb : base ≤ b) : W.ownsRow base e 1 (.slice (some ⟨b, 0, none⟩) 1 1) 1 [x] :=
  ⟨rfl, .inr ⟨b, 1, _, rfl, hb, h, Nat.le_refl _, by decide, rfl, rfl⟩⟩
theorem cut_rows (g c n : Nat) (hn : 0 < n) (hc : c ≠ 1) : ∀ W, (Instr.slice 43 (.slice (some ⟨g, 0, none⟩) n c) (some (.int .i64 1)) none none).run Try.prog W = .ok (.slice (some ⟨g, 1, none⟩) (n - 1) (c - 1)) W := by
  obtain ⟨i0, hi, _, hsz, _⟩ := info_parts row22
  intro W
  have := cut_from (P := Try.prog) 43 22 .i64 Try.underlying43 hi 1 hsz (some ⟨g, 0, none⟩) n c 1 (by omega) (by omega) W
  rw [this, if_neg (by show ¬ c = 1; omega)]
  rfl
theorem cut_rows' (A : Option Addr) (c : Nat) : ∃ A', ∀ W, (Instr.slice 43 (.slice A 1 c) (some (.int .i64 1)) none none).run Try.prog W = .ok (.slice A' 0 (c - 1)) W := by
  obtain ⟨i0, hi, _, hsz, _⟩ := info_parts row22
  exact ⟨_, fun W => cut_from (P := Try.prog) 43 22 .i64 Try.underlying43 hi 1 hsz A 1 c 1 (by omega) (by omega) W⟩
theorem ht_add_pos (a : Addr) {n : Nat} (h : 0 < n) : a.add n = ⟨a.block, a.off + n, none⟩ := by
  unfold Addr.add
  split
  · omega
  · rfl
theorem ht_cell {W W' : World} {g i : Nat} (e : W'.heap[g]? = W.heap[g]?) : W'.cell? ⟨g, i, none⟩ = W.cell? ⟨g, i, none⟩ := by
  unfold World.cell?
  simp only [e]
theorem own_below' {B : Nat} {W W' : World} {base e n : Nat} {v : Value} {xs : List Value} (h : W.ownsRow base e 1 v n xs) (hb : Below B W W') (hlt : ∀ k, v.ownBlock = some k → k < B) : W'.ownsRow base e 1 v n xs := by
  obtain ⟨hl, h0 | ⟨g, cap, cur, hv, hbg, hg, r⟩⟩ := h
  · exact ⟨hl, .inl h0⟩
  · exact ⟨hl, .inr ⟨g, cap, cur, hv, hbg, (hb.block _ (hlt g (by rw [hv]; rfl))).trans hg, r⟩⟩
theorem aft_at (l : List Int) (n : Nat) (r : Int) (A A3 A4 : Option Addr) (c : Nat) (W : World) (hn : l.length = n) (hN : Kd.C (Kd.slice 3 (Kd.int .i64)) W A3 2 [[1], [1]]) (hM : Kd.C (Kd.int .i64) W A4 2 [0, 1]) (hl : Kd.C (Kd.int .i64) W A n l) (hc : n ≤ c) (h : det_After.f 1 0 [[1], [1]] [0, 1] 0 l = some r) :
    Calls Try.prog 91 #[.agg #[.int .i64 1, .int .i64 0, .slice A3 2 2, .slice A4 2 2], .int .i64 0, .slice A n c] W fun e w' => e = .returned (.int .i64 r) ∧ Below W.heap.size W w' := by
  subst hn
  exact det_After.calls 1 0 A3 2 [[1], [1]] A4 2 [0, 1] 0 A c l r W hN (by decide) hM (by decide) hl hc h
theorem cfr_nil (g : Nat) (lb : Array Value) (eg : ∀ args w, (callFunc g args).run Try.prog w = .ok (.enter g args) w) (W : World) : Calls Try.prog 88 #[.slice none 0 0, .func (.func g) #[] lb] W fun e w' => e = .returned (.bool false) ∧ Below W.heap.size W w' :=
  ContainsFunc_row g lb eg (fun _ => false) none 0 [] W (lit_nil _ W none) (fun _ _ _ _ h _ _ _ => absurd h (by simp))
def LtS0 (W : World) (b : Nat) (s6 : Value) : Prop := ∃ A c, W.ownsRow b 22 1 s6 1 [.slice A 0 c]
def LtS1 (W : World) (b : Nat) (s6 : Value) : Prop := ∃ A c g1 c1, W.ownsRow b 22 1 s6 2 [.slice A 0 c, .slice (some ⟨g1, 0, none⟩) 1 c1] ∧ Kd.C (Kd.int .i64) W (some ⟨g1, 0, none⟩) 1 [0] ∧ 1 ≤ c1
def LtS2 (W : World) (s6 : Value) : Prop := ∃ g d g1 c1, s6 = .slice (some ⟨g, 1, none⟩) 1 d ∧ W.cell? ⟨g, 1, none⟩ = some (.slice (some ⟨g1, 0, none⟩) 1 c1) ∧ Kd.C (Kd.int .i64) W (some ⟨g1, 0, none⟩) 1 [0] ∧ 1 ≤ c1
def LtS3 (W : World) (s5 s6 : Value) : Prop := ∃ A d ad c A1 c1, s6 = .slice A 0 d ∧ s5 = .slice (some ad) 1 c ∧ W.cell? ad = some (.slice A1 1 c1)
theorem tiny_sm : smF 1 0 [[1], [1]] [0, 1] = 0 := by decide
set_option maxHeartbeats 16000000 in
set_option maxRecDepth 100000 in
theorem least_tiny (A3 A4 : Option Addr) (w : World) (hN : Kd.C (Kd.slice 3 (Kd.int .i64)) w A3 2 [[1], [1]]) (hM : Kd.C (Kd.int .i64) w A4 2 [0, 1]) :
    Calls Try.prog 34 #[.agg #[.int .i64 1, .int .i64 0, .slice A3 2 2, .slice A4 2 2]] w fun e w' => ∃ ad c A1 c1, e = .returned (.tuple #[.slice (some ad) 1 c, .int .i64 0]) ∧ Below w.heap.size w w' ∧ w'.cell? ad = some (.slice A1 1 c1) := by
  have e1 : ∀ args w, (callFunc 89 args).run Try.prog w = .ok (.enter 89 args) w := enters_of Try.func89 (by kernel_rfl) rfl
  obtain ⟨a4, rfl, _⟩ := int_get hM rfl (i := 0) (by decide)
  have HB0 := Aside0.mk (below_alloc (Below.refl w.heap.size w) (.cells #[.int .i64 1, .int .i64 0, .slice A3 2 2, .slice (some a4) 2 2] 101))
  have L0 := Aside0.mk (show (w.alloc (.cells #[.int .i64 1, .int .i64 0, .slice A3 2 2, .slice (some a4) 2 2] 101)).heap[w.heap.size]? = some (.cells #[.int .i64 1, .int .i64 0, .slice A3 2 2, .slice (some a4) 2 2] 101 (0, 0)) from blk_new w _)
  have HC := Aside0.mk (small_calls 1 0 A3 (some a4) 2 2 [[1], [1]] [0, 1] _ (Kd.C_below hN HB0.out) (Kd.C_below hM HB0.out))
  rw [tiny_sm] at HC
  have HN := Aside0.mk hN
  have HM := Aside0.mk hM
  have E1 := Aside0.mk e1
  clear hN hM e1
  go_enter Try.func34, Try.ntmps34
  go_wp2_with (first
    | (go_at_call 87
       refine HC.out.mono ?_
       rintro e w1 ⟨rfl, hb1⟩
       have L1 := Aside0.mk (blk_below L0.out hb1)
       have B1 := Aside0.mk (below_step HB0.out hb1)
       clear hb1)
    | fail)
  obtain ⟨W2, hW2⟩ : ∃ W2, W2 = (w1.alloc (.cells #[] 3)).alloc (.cells #[.slice (some ⟨w1.heap.size, 0, none⟩) 0 0] 22) := ⟨_, rfl⟩
  have hb2 : Below w1.heap.size w1 W2 := by rw [hW2]; exact below_alloc (below_alloc (Below.refl _ _) _) _
  have L2 := Aside0.mk (blk_below L1.out hb2)
  have B2 := Aside0.mk (below_step B1.out hb2)
  have S2 := Aside0.mk (show LtS0 W2 (w.heap.size + 1) (.slice (some ⟨w1.heap.size + 1, 0, none⟩) 1 1) from ⟨_, _, own_lit1 (by rw [hW2]; exact blk_newn _ _ _ (by simp)) (by have := B1.out.size; omega)⟩)
  rw [← hW2]
  clear hW2 hb2 HB0 L0 HC L1 B1
  go_loopg [5, 6] 2 (fun gg s5 s6 wr => Aside0 (wr.heap[w.heap.size]? = some (.cells #[.int .i64 1, .int .i64 0, .slice A3 2 2, .slice (some a4) 2 2] 101 (0, 0))) ∧ Aside0 (Below w.heap.size w wr) ∧ ((2 ≤ gg ∧ s5 = .slice none 0 0 ∧ Aside0 (LtS0 wr (w.heap.size + 1) s6)) ∨ (1 ≤ gg ∧ s5 = .slice none 0 0 ∧ Aside0 (LtS2 wr s6)) ∨ Aside0 (LtS3 wr s5 s6)))
  case atStart => exact ⟨L2, B2, .inl ⟨Nat.le_refl _, rfl, S2⟩⟩
  case round =>
    clear L2 B2 S2
    obtain ⟨LB, BB, ⟨hg, rfl, S0⟩ | ⟨hg, rfl, S1⟩ | S3⟩ := hrel
    · obtain ⟨AX, cX, hown⟩ := S0.out
      obtain ⟨gr, c, rfl, hbg, hlg, hcg, hcell⟩ := own_cells hown (by decide)
      have hx0 := hcell 0 _ rfl
      have OW := Aside0.mk hown
      have GR := Aside0.mk (And.intro hbg hlg)
      clear hcell hown S0 hbg hlg
      obtain ⟨wo, hwo⟩ : ∃ wo, wo = wr := ⟨_, rfl⟩
      subst hwo
      have kb : wo.cell? ⟨w.heap.size, 2, none⟩ = some (.slice A3 2 2) := (blk_cell LB.out 2).trans rfl
      have zx : w.heap.size < wo.heap.size := blk_lt LB.out
      go_wp2
      refine wp_region_held_drew (S := (fun W' => W'.cell? ⟨gr, 0, none⟩ = some (.slice AX 0 cX) ∧ W'.cell? ⟨w.heap.size, 2, none⟩ = some (.slice A3 2 2))) (by kernel_rfl) ?_ (fun hHeld => ?_)
      · (try dsimp only); exact ⟨hx0, kb⟩
      refine wpAnyH_take (i := 0) (v := ?_) rfl (by kernel_rfl) (by kernel_rfl) (by kernel_rfl) (fun _ _ _ h => h) (Or.inl ⟨by kernel_rfl, ?_⟩) (by assumption) ?_
      rotate_left 1
      · intro w hSw; (try dsimp only at hSw); go_simp; (try with_reducible rfl)
      (try simp only [Act.put, List.getElem_toArray, List.getElem_cons_zero, List.getElem_cons_succ, List.setIfInBounds_toArray, List.set_cons_zero, List.set_cons_succ])
      refine wpAnyH_take (i := 1) (v := ?_) rfl (by kernel_rfl) (by kernel_rfl) (by kernel_rfl) (fun _ _ _ h => h) (Or.inl ⟨by kernel_rfl, ?_⟩) (by assumption) ?_
      rotate_left 1
      · intro w hSw; (try dsimp only at hSw); go_simp; (try with_reducible rfl)
      (try simp only [Act.put, List.getElem_toArray, List.getElem_cons_zero, List.getElem_cons_succ, List.setIfInBounds_toArray, List.set_cons_zero, List.set_cons_succ])
      refine wpAnyH_take (i := 2) (v := ?_) rfl (by kernel_rfl) (by kernel_rfl) (by kernel_rfl) (fun _ _ _ h => h) (Or.inl ⟨by kernel_rfl, ?_⟩) (by assumption) ?_
      rotate_left 1
      · intro w hSw; (try dsimp only at hSw); go_simp; (try with_reducible rfl)
      (try simp only [Act.put, List.getElem_toArray, List.getElem_cons_zero, List.getElem_cons_succ, List.setIfInBounds_toArray, List.set_cons_zero, List.set_cons_succ])
      refine wpAnyH_take (i := 3) (v := ?_) rfl (by kernel_rfl) (by kernel_rfl) (by kernel_rfl) (fun _ _ _ h => h) (Or.inl ⟨by kernel_rfl, ?_⟩) (by assumption) ?_
      rotate_left 1
      · intro w hSw; (try dsimp only at hSw); go_simp; (try with_reducible rfl)
      (try simp only [Act.put, List.getElem_toArray, List.getElem_cons_zero, List.getElem_cons_succ, List.setIfInBounds_toArray, List.set_cons_zero, List.set_cons_succ])
      refine wpAnyH_take (i := 4) (v := ?_) rfl (by kernel_rfl) (by kernel_rfl) (by kernel_rfl) (fun _ _ _ h => h) (Or.inl ⟨by kernel_rfl, ?_⟩) (by assumption) ?_
      rotate_left 1
      · intro w hSw; (try dsimp only at hSw); go_simp; (try with_reducible rfl)
      (try simp only [Act.put, List.getElem_toArray, List.getElem_cons_zero, List.getElem_cons_succ, List.setIfInBounds_toArray, List.set_cons_zero, List.set_cons_succ])
      refine wpAnyH_take (i := 5) (v := ?_) rfl (by kernel_rfl) (by kernel_rfl) (by kernel_rfl) (fun _ _ _ h => h) (Or.inl ⟨by kernel_rfl, ?_⟩) (by assumption) ?_
      rotate_left 1
      · intro w hSw; (try dsimp only at hSw); go_simp; (try with_reducible rfl)
      (try simp only [Act.put, List.getElem_toArray, List.getElem_cons_zero, List.getElem_cons_succ, List.setIfInBounds_toArray, List.set_cons_zero, List.set_cons_succ])
      refine wpAnyH_take (i := 6) (v := ?_) rfl (by kernel_rfl) (by kernel_rfl) (by kernel_rfl) (fun _ _ _ h => h) (Or.inl ⟨by kernel_rfl, ?_⟩) (by assumption) ?_
      rotate_left 1
      · intro w hSw; (try dsimp only at hSw); go_simp; (try with_reducible rfl)
      (try simp only [Act.put, List.getElem_toArray, List.getElem_cons_zero, List.getElem_cons_succ, List.setIfInBounds_toArray, List.set_cons_zero, List.set_cons_succ])
      refine wpAnyH_take (i := 7) (v := ?_) rfl (by kernel_rfl) (by kernel_rfl) (by kernel_rfl) (fun _ _ _ h => h) (Or.inl ⟨by kernel_rfl, ?_⟩) (by assumption) ?_
      rotate_left 1
      · intro w hSw; (try dsimp only at hSw); go_simp; (try with_reducible rfl)
      (try simp only [Act.put, List.getElem_toArray, List.getElem_cons_zero, List.getElem_cons_succ, List.setIfInBounds_toArray, List.set_cons_zero, List.set_cons_succ])
      refine wpAnyH_take (i := 8) (v := ?_) rfl (by kernel_rfl) (by kernel_rfl) (by kernel_rfl) (fun _ _ _ h => h) (Or.inl ⟨by kernel_rfl, ?_⟩) (by assumption) ?_
      rotate_left 1
      · intro w hSw; (try dsimp only at hSw); go_simp; (try with_reducible rfl)
      (try simp only [Act.put, List.getElem_toArray, List.getElem_cons_zero, List.getElem_cons_succ, List.setIfInBounds_toArray, List.set_cons_zero, List.set_cons_succ])
      refine wpAnyH_take (i := 9) (v := ?_) rfl (by kernel_rfl) (by kernel_rfl) (by kernel_rfl) (fun _ _ _ h => h) (Or.inl ⟨by kernel_rfl, ?_⟩) (by assumption) ?_
      rotate_left 1
      · intro w hSw; (try dsimp only at hSw); go_simp; (try with_reducible rfl)
      (try simp only [Act.put, List.getElem_toArray, List.getElem_cons_zero, List.getElem_cons_succ, List.setIfInBounds_toArray, List.set_cons_zero, List.set_cons_succ])
      refine wpAnyH_take (i := 10) (v := ?_) rfl (by kernel_rfl) (by kernel_rfl) (by kernel_rfl) (fun _ _ _ h => h) (Or.inl ⟨by kernel_rfl, ?_⟩) (by assumption) ?_
      rotate_left 1
      · intro w hSw; (try dsimp only at hSw); go_simp; (try with_reducible rfl)
      (try simp only [Act.put, List.getElem_toArray, List.getElem_cons_zero, List.getElem_cons_succ, List.setIfInBounds_toArray, List.set_cons_zero, List.set_cons_succ])
      refine wpAnyH_take (i := 11) (v := ?_) rfl (by kernel_rfl) (by kernel_rfl) (by kernel_rfl) (fun _ _ _ h => h) (Or.inl ⟨by kernel_rfl, ?_⟩) (by assumption) ?_
      rotate_left 1
      · intro w hSw; (try dsimp only at hSw); go_simp; (try with_reducible rfl)
      (try simp only [Act.put, List.getElem_toArray, List.getElem_cons_zero, List.getElem_cons_succ, List.setIfInBounds_toArray, List.set_cons_zero, List.set_cons_succ])
      refine wpAnyH_take (i := 12) (v := ?_) rfl (by kernel_rfl) (by kernel_rfl) (by kernel_rfl) (fun _ _ _ h => h) (Or.inl ⟨by kernel_rfl, ?_⟩) (by assumption) ?_
      rotate_left 1
      · intro w hSw; (try dsimp only at hSw); go_simp; (try with_reducible rfl)
      (try simp only [Act.put, List.getElem_toArray, List.getElem_cons_zero, List.getElem_cons_succ, List.setIfInBounds_toArray, List.set_cons_zero, List.set_cons_succ])
      refine wpAnyH_done (by kernel_rfl) ?_ _
      go_wp2_with (first
        | (go_at_call 88
           refine calls_let ?_
           intro W4 hW4
           have hb4 : Below wo.heap.size wo W4 := by subst hW4; exact below_alloc (below_drew1 (Below.refl _ _)) _
           have X4 : W4.heap[wo.heap.size]? = some (.cells #[.slice AX 0 cX] 22 (0, 0)) := by subst hW4; exact blk_new wo.drew _
           clear hW4
           refine (cfr_nil 89 _ E1.out W4).mono ?_
           rintro e w5 ⟨rfl, hb5⟩
           have hb45 := below_step hb4 hb5
           have T5 := Aside0.mk (blk_below X4 hb5)
           have LB5 := Aside0.mk (blk_below LB.out hb45)
           have B45 := Aside0.mk hb45
           have BB5 := Aside0.mk (below_step BB.out hb45)
           clear hb4 X4 hb5 hb45 hx0 kb)
        | fail)
      have HAF := Aside0.mk (show ∀ W, Below w5.heap.size w5 W → Calls Try.prog 91 #[.agg #[.int .i64 1, .int .i64 0, .slice A3 2 2, .slice (some a4) 2 2], .int .i64 0, .slice AX 0 cX] W fun e w' => e = .returned (.int .i64 0) ∧ Below W.heap.size W w' from fun W hb => aft_at [] 0 0 _ A3 (some a4) _ W rfl (Kd.C_below HN.out (below_step BB5.out hb)) (Kd.C_below HM.out (below_step BB5.out hb)) (lit_nil _ W AX) (Nat.zero_le _) (by decide))
      obtain ⟨_, e0, y0⟩ := int_get (Kd.C_below HM.out BB5.out) rfl (i := 0) (by decide)
      cases e0
      obtain ⟨_, e0, y1⟩ := int_get (Kd.C_below HM.out BB5.out) rfl (i := 1) (by decide)
      cases e0
      rw [ht_add_pos _ (by omega)] at y1
      have HMS := Aside0.mk (show ∀ W', Below w5.heap.size w5 W' → (fun W' => W'.cell? ⟨w.heap.size, 0, none⟩ = some (.int .i64 1) ∧ W'.cell? ⟨w.heap.size, 1, none⟩ = some (.int .i64 0) ∧ W'.cell? ⟨w.heap.size, 2, none⟩ = some (.slice A3 2 2) ∧ W'.cell? ⟨w.heap.size, 3, none⟩ = some (.slice (some a4) 2 2) ∧ W'.cell? ⟨wo.heap.size, 0, none⟩ = some (.slice AX 0 cX) ∧ W'.cell? a4 = some (.int .i64 0) ∧ W'.cell? ⟨a4.block, a4.off + 1, none⟩ = some (.int .i64 1)) W' from fun W' hb => ⟨pw_cell_below hb ((blk_cell LB5.out 0).trans rfl), pw_cell_below hb ((blk_cell LB5.out 1).trans rfl), pw_cell_below hb ((blk_cell LB5.out 2).trans rfl), pw_cell_below hb ((blk_cell LB5.out 3).trans rfl), pw_cell_below hb ((blk_cell T5.out 0).trans rfl), pw_cell_below hb y0, pw_cell_below hb y1⟩)
      refine wp_region_held_drew (S := (fun W' => W'.cell? ⟨w.heap.size, 0, none⟩ = some (.int .i64 1) ∧ W'.cell? ⟨w.heap.size, 1, none⟩ = some (.int .i64 0) ∧ W'.cell? ⟨w.heap.size, 2, none⟩ = some (.slice A3 2 2) ∧ W'.cell? ⟨w.heap.size, 3, none⟩ = some (.slice (some a4) 2 2) ∧ W'.cell? ⟨wo.heap.size, 0, none⟩ = some (.slice AX 0 cX) ∧ W'.cell? a4 = some (.int .i64 0) ∧ W'.cell? ⟨a4.block, a4.off + 1, none⟩ = some (.int .i64 1))) (by kernel_rfl) ?_ (fun hHeld => ?_)
      · (try dsimp only); (first | exact HMS.out _ B6.out | exact HMS.out _ (below_drew1 (Below.refl _ _)) | fail)
      refine wpAnyH_take (i := 0) (v := ?_) rfl (by kernel_rfl) (by kernel_rfl) (by kernel_rfl) (fun _ _ _ h => h) (Or.inl ⟨by kernel_rfl, ?_⟩) (by assumption) ?_
      rotate_left 1
      · intro w hSw; (try dsimp only at hSw); go_simp; (try with_reducible rfl)
      (try simp only [Act.put, List.getElem_toArray, List.getElem_cons_zero, List.getElem_cons_succ, List.setIfInBounds_toArray, List.set_cons_zero, List.set_cons_succ])
      refine wpAnyH_take (i := 1) (v := ?_) rfl (by kernel_rfl) (by kernel_rfl) (by kernel_rfl) (fun _ _ _ h => h) (Or.inl ⟨by kernel_rfl, ?_⟩) (by assumption) ?_
      rotate_left 1
      · intro w hSw; (try dsimp only at hSw); go_simp; (try with_reducible rfl)
      (try simp only [Act.put, List.getElem_toArray, List.getElem_cons_zero, List.getElem_cons_succ, List.setIfInBounds_toArray, List.set_cons_zero, List.set_cons_succ])
      refine wpAnyH_take (i := 2) (v := ?_) rfl (by kernel_rfl) (by kernel_rfl) (by kernel_rfl) (fun _ _ _ h => h) (Or.inl ⟨by kernel_rfl, ?_⟩) (by assumption) ?_
      rotate_left 1
      · intro w hSw; (try dsimp only at hSw); go_simp; (try with_reducible rfl)
      (try simp only [Act.put, List.getElem_toArray, List.getElem_cons_zero, List.getElem_cons_succ, List.setIfInBounds_toArray, List.set_cons_zero, List.set_cons_succ])
      refine wpAnyH_take (i := 3) (v := ?_) rfl (by kernel_rfl) (by kernel_rfl) (by kernel_rfl) (fun _ _ _ h => h) (Or.inl ⟨by kernel_rfl, ?_⟩) (by assumption) ?_
      rotate_left 1
      · intro w hSw; (try dsimp only at hSw); go_simp; (try with_reducible rfl)
      (try simp only [Act.put, List.getElem_toArray, List.getElem_cons_zero, List.getElem_cons_succ, List.setIfInBounds_toArray, List.set_cons_zero, List.set_cons_succ])
      refine wpAnyH_take (i := 4) (v := ?_) rfl (by kernel_rfl) (by kernel_rfl) (by kernel_rfl) (fun _ _ _ h => h) (Or.inl ⟨by kernel_rfl, ?_⟩) (by assumption) ?_
      rotate_left 1
      · intro w hSw; (try dsimp only at hSw); go_simp; (try with_reducible rfl)
      (try simp only [Act.put, List.getElem_toArray, List.getElem_cons_zero, List.getElem_cons_succ, List.setIfInBounds_toArray, List.set_cons_zero, List.set_cons_succ])
      refine wpAnyH_take (i := 5) (v := ?_) rfl (by kernel_rfl) (by kernel_rfl) (by kernel_rfl) (fun _ _ _ h => h) (Or.inl ⟨by kernel_rfl, ?_⟩) (by assumption) ?_
      rotate_left 1
      · intro w hSw; (try dsimp only at hSw); go_simp; (try with_reducible rfl)
      (try simp only [Act.put, List.getElem_toArray, List.getElem_cons_zero, List.getElem_cons_succ, List.setIfInBounds_toArray, List.set_cons_zero, List.set_cons_succ])
      refine wpAnyH_ready (rs := [6]) (by kernel_rfl) (by simp) ?_
      refine AllReadyH.cons rfl (fun K hK => ?_) AllReadyH.nil
      rw [if_pos (by kernel_rfl)]
      go_simp
      (go_at_call 91; refine (HAF.out _ (below_drew1 (Below.refl _ _))).mono ?_; rintro e w6 ⟨rfl, hb6⟩; have B6 := Aside0.mk (below_step (below_drew1 (Below.refl w5.heap.size w5)) hb6); have LB6 := Aside0.mk (blk_below LB5.out B6.out); have T6 := Aside0.mk (blk_below T5.out B6.out); have BB6 := Aside0.mk (below_step BB5.out B6.out); have B46 := Aside0.mk (below_step B45.out B6.out); have k60 : w6.cell? ⟨w.heap.size, 0, none⟩ = some (.int .i64 1) := (blk_cell LB6.out 0).trans rfl; have k67 : w6.cell? ⟨wo.heap.size, 0, none⟩ = some (.slice AX 0 cX) := (blk_cell T6.out 0).trans rfl; clear hb6)
      (try go_simp)
      refine hK.out _ _ ?_ (fun hHeld => ?_)
      · (try dsimp only); (first | exact HMS.out _ B6.out | exact HMS.out _ (below_drew1 (Below.refl _ _)) | fail)
      clear hK K
      (try simp only [Act.put, List.getElem_toArray, List.getElem_cons_zero, List.getElem_cons_succ, List.setIfInBounds_toArray, List.set_cons_zero, List.set_cons_succ])
      refine wpAnyH_take (i := 7) (v := ?_) rfl (by kernel_rfl) (by kernel_rfl) (by kernel_rfl) (fun _ _ _ h => h) (Or.inl ⟨by kernel_rfl, ?_⟩) (by assumption) ?_
      rotate_left 1
      · intro w hSw; (try dsimp only at hSw); go_simp; (try with_reducible rfl)
      (try simp only [Act.put, List.getElem_toArray, List.getElem_cons_zero, List.getElem_cons_succ, List.setIfInBounds_toArray, List.set_cons_zero, List.set_cons_succ])
      refine wpAnyH_take (i := 8) (v := ?_) rfl (by kernel_rfl) (by kernel_rfl) (by kernel_rfl) (fun _ _ _ h => h) (Or.inl ⟨by kernel_rfl, ?_⟩) (by assumption) ?_
      rotate_left 1
      · intro w hSw; (try dsimp only at hSw); go_simp; (try with_reducible rfl)
      (try simp only [Act.put, List.getElem_toArray, List.getElem_cons_zero, List.getElem_cons_succ, List.setIfInBounds_toArray, List.set_cons_zero, List.set_cons_succ])
      refine wpAnyH_take (i := 9) (v := ?_) rfl (by kernel_rfl) (by kernel_rfl) (by kernel_rfl) (fun _ _ _ h => h) (Or.inl ⟨by kernel_rfl, ?_⟩) (by assumption) ?_
      rotate_left 1
      · intro w hSw; (try dsimp only at hSw); go_simp; (try with_reducible rfl)
      (try simp only [Act.put, List.getElem_toArray, List.getElem_cons_zero, List.getElem_cons_succ, List.setIfInBounds_toArray, List.set_cons_zero, List.set_cons_succ])
      refine wpAnyH_done (by kernel_rfl) ?_ _
      clear HMS y0 y1 HAF LB5 T5 BB5 B45 B6
      have OW6 := Aside0.mk (own_below OW.out B46.out)
      have G6 := Aside0.mk (show gr < wo.heap.size ∧ w.heap.size + 1 ≤ gr ∧ wo.heap.size < w6.heap.size from ⟨GR.out.2, GR.out.1, blk_lt T6.out⟩)
      clear OW GR LB BB
      go_wp2
      clear k60 k67
      go_loopg [6, 53] 1 (fun gg s6 s53 wr => Aside0 (wr.heap[w.heap.size]? = some (.cells #[.int .i64 1, .int .i64 0, .slice A3 2 2, .slice (some a4) 2 2] 101 (0, 0))) ∧ Aside0 (Below w.heap.size w wr) ∧ ((1 ≤ gg ∧ s53 = .int .i64 0 ∧ s6 = .slice (some ⟨gr, 0, none⟩) 1 c ∧ Aside0 (wr.ownsRow (w.heap.size + 1) 22 1 (.slice (some ⟨gr, 0, none⟩) 1 c) 1 [.slice AX 0 cX]) ∧ Aside0 (wr.heap[wo.heap.size]? = some (.cells #[.slice AX 0 cX] 22 (0, 0)))) ∨ (s53 = .int .i64 1 ∧ Aside0 (LtS1 wr (w.heap.size + 1) s6))))
      case atStart => exact ⟨LB6, BB6, .inl ⟨Nat.le_refl _, rfl, rfl, OW6, T6⟩⟩
      case round =>
        obtain ⟨LB, BB, ⟨hgg, rfl, rfl, OW, TT⟩ | ⟨rfl, S1⟩⟩ := hrel
        · clear LB6 BB6 OW6 T6
          have k7 : wr.cell? ⟨wo.heap.size, 0, none⟩ = some (.slice AX 0 cX) := (blk_cell TT.out 0).trans rfl
          have ZW := Aside0.mk (blk_lt TT.out)
          go_wp2_with (first
            | (go_at_call 53
               refine (clone_at AX 0 cX [] wr rfl (lit_nil _ wr AX) (Nat.zero_le _) (by decide)).mono ?_
               rintro e w7 ⟨v7, rfl, hr7, hb7⟩
               have O7 := Aside0.mk (Kd.own_of_R hr7)
               have LB7 := Aside0.mk (blk_below LB.out hb7)
               have OW7 := Aside0.mk (own_below OW.out hb7)
               have BB7 := Aside0.mk (below_step BB.out hb7)
               have Z7 := Aside0.mk hb7.size
               clear hr7 hb7 k7)
            | ((with_reducible refine gate_dst (N := 61) rfl ?_)
               refine print_append_cells (w0 := w7) wr.heap.size rfl _ _ 22 3 (.int .i64 0) 1 8 rfl Try.underlying22 int3 rfl (by decide) (by decide) v7 0 [] [.int .i64 0] rfl rfl rfl (fun u hu => by simp only [List.mem_singleton] at hu; subst hu; rfl) O7.out (Below.refl _ _) Z7.out (by decide) ?_
               intro v8 w8 own8 hb8 _ _
               obtain ⟨g1, c1, rfl, hg1, hl1, hc1, hcl⟩ := own_cells own8 (by decide)
               have C8 := Aside0.mk (show w8.cell? ⟨g1, 0, none⟩ = some (.int .i64 0) from hcl 0 _ rfl)
               have G8 := Aside0.mk (show wr.heap.size ≤ g1 ∧ g1 < w8.heap.size ∧ 1 ≤ c1 from ⟨hg1, hl1, hc1⟩)
               have OW8 := Aside0.mk (own_below' OW7.out hb8 (fun k hk => by simp [Value.ownBlock] at hk; have := G6.out; have := ZW.out; omega))
               have LB8 := Aside0.mk ((hb8.block _ (by have := blk_lt LB.out; omega)).trans LB7.out)
               have BB8 := Aside0.mk (below_weaken BB7.out (by have := BB.out.size; omega) hb8)
               clear own8 hb8 hcl hg1 hl1 hc1)
            | ((with_reducible refine gate_dst (N := 63) rfl ?_)
               refine print_append_cells (w0 := w8) (w.heap.size + 1) rfl _ _ 43 22 (.slice none 0 0) 1 24 rfl Try.underlying43 row22 rfl (by decide) (by decide) (.slice (some ⟨gr, 0, none⟩) 1 c) 1 [.slice AX 0 cX] [.slice (some ⟨g1, 0, none⟩) 1 c1] rfl rfl rfl (fun u hu => by simp only [List.mem_singleton] at hu; subst hu; rfl) OW8.out (Below.refl _ _) (by have := blk_lt LB8.out; omega) (by decide) ?_
               intro v9 w9 own9 hb9 hg9 _
               have C9 : w9.cell? ⟨g1, 0, none⟩ = some (.int .i64 0) := by
                 have e := hg9.block g1 G8.out.2.1 (fun e => by simp [Value.ownBlock] at e; have := G6.out; have := G8.out; have := ZW.out; omega)
                 exact (ht_cell e).trans C8.out
               have S9 := Aside0.mk (show LtS1 w9 (w.heap.size + 1) v9 from ⟨AX, cX, g1, c1, own9, lit_C C9, G8.out.2.2⟩)
               have LB9 := Aside0.mk ((hb9.block _ (Nat.lt_succ_self _)).trans LB8.out)
               have BB9 := Aside0.mk (below_weaken BB8.out (Nat.le_succ _) hb9)
               clear own9 hb9 hg9 C9)
            | fail)
          go_roundg 0
          case measure => omega
          case rel => exact ⟨LB9, BB9, .inr ⟨rfl, S9⟩⟩
        · clear LB6 BB6 OW6 T6
          obtain ⟨AX', cX', g1, c1, hown, hC, hc1⟩ := S1.out
          obtain ⟨g', c', rfl, _, _, hc2, hcell⟩ := own_cells hown (by decide)
          have hcut := cut_rows g' c' 2 (by decide) (by omega)
          have hcl := hcell 1 _ rfl
          have S2 := Aside0.mk (show LtS2 wr (.slice (some ⟨g', 1, none⟩) 1 (c' - 1)) from ⟨g', c' - 1, g1, c1, rfl, hcl, hC, hc1⟩)
          clear hcell hown hC hc1 hcl S1
          go_wp2
          go_roundg 1
          case measure => omega
          case rel => exact ⟨LB, BB, .inr (.inl ⟨Nat.le_refl _, rfl, S2⟩)⟩
    · obtain ⟨gr, d, g1, c1, rfl, hx0, hC, hc1⟩ := S1.out
      have HCW := Aside0.mk hC
      have HC1 := Aside0.mk hc1
      obtain ⟨A', hcut⟩ := cut_rows' (some ⟨gr, 1, none⟩) d
      clear S1 hC hc1
      obtain ⟨wo, hwo⟩ : ∃ wo, wo = wr := ⟨_, rfl⟩
      subst hwo
      have kb : wo.cell? ⟨w.heap.size, 2, none⟩ = some (.slice A3 2 2) := (blk_cell LB.out 2).trans rfl
      have zx : w.heap.size < wo.heap.size := blk_lt LB.out
      go_wp2
      refine wp_region_held_drew (S := (fun W' => W'.cell? ⟨gr, 1, none⟩ = some (.slice (some ⟨g1, 0, none⟩) 1 c1) ∧ W'.cell? ⟨w.heap.size, 2, none⟩ = some (.slice A3 2 2))) (by kernel_rfl) ?_ (fun hHeld => ?_)
      · (try dsimp only); exact ⟨hx0, kb⟩
      refine wpAnyH_take (i := 0) (v := ?_) rfl (by kernel_rfl) (by kernel_rfl) (by kernel_rfl) (fun _ _ _ h => h) (Or.inl ⟨by kernel_rfl, ?_⟩) (by assumption) ?_
      rotate_left 1
      · intro w hSw; (try dsimp only at hSw); go_simp; (try with_reducible rfl)
      (try simp only [Act.put, List.getElem_toArray, List.getElem_cons_zero, List.getElem_cons_succ, List.setIfInBounds_toArray, List.set_cons_zero, List.set_cons_succ])
      refine wpAnyH_take (i := 1) (v := ?_) rfl (by kernel_rfl) (by kernel_rfl) (by kernel_rfl) (fun _ _ _ h => h) (Or.inl ⟨by kernel_rfl, ?_⟩) (by assumption) ?_
      rotate_left 1
      · intro w hSw; (try dsimp only at hSw); go_simp; (try with_reducible rfl)
      (try simp only [Act.put, List.getElem_toArray, List.getElem_cons_zero, List.getElem_cons_succ, List.setIfInBounds_toArray, List.set_cons_zero, List.set_cons_succ])
      refine wpAnyH_take (i := 2) (v := ?_) rfl (by kernel_rfl) (by kernel_rfl) (by kernel_rfl) (fun _ _ _ h => h) (Or.inl ⟨by kernel_rfl, ?_⟩) (by assumption) ?_
      rotate_left 1
      · intro w hSw; (try dsimp only at hSw); go_simp; (try with_reducible rfl)
      (try simp only [Act.put, List.getElem_toArray, List.getElem_cons_zero, List.getElem_cons_succ, List.setIfInBounds_toArray, List.set_cons_zero, List.set_cons_succ])
      refine wpAnyH_take (i := 3) (v := ?_) rfl (by kernel_rfl) (by kernel_rfl) (by kernel_rfl) (fun _ _ _ h => h) (Or.inl ⟨by kernel_rfl, ?_⟩) (by assumption) ?_
      rotate_left 1
      · intro w hSw; (try dsimp only at hSw); go_simp; (try with_reducible rfl)
      (try simp only [Act.put, List.getElem_toArray, List.getElem_cons_zero, List.getElem_cons_succ, List.setIfInBounds_toArray, List.set_cons_zero, List.set_cons_succ])
      refine wpAnyH_take (i := 4) (v := ?_) rfl (by kernel_rfl) (by kernel_rfl) (by kernel_rfl) (fun _ _ _ h => h) (Or.inl ⟨by kernel_rfl, ?_⟩) (by assumption) ?_
      rotate_left 1
      · intro w hSw; (try dsimp only at hSw); go_simp; (try with_reducible rfl)
      (try simp only [Act.put, List.getElem_toArray, List.getElem_cons_zero, List.getElem_cons_succ, List.setIfInBounds_toArray, List.set_cons_zero, List.set_cons_succ])
      refine wpAnyH_take (i := 5) (v := ?_) rfl (by kernel_rfl) (by kernel_rfl) (by kernel_rfl) (fun _ _ _ h => h) (Or.inl ⟨by kernel_rfl, ?_⟩) (by assumption) ?_
      rotate_left 1
      · intro w hSw; (try dsimp only at hSw); go_simp; (try with_reducible rfl)
      (try simp only [Act.put, List.getElem_toArray, List.getElem_cons_zero, List.getElem_cons_succ, List.setIfInBounds_toArray, List.set_cons_zero, List.set_cons_succ])
      refine wpAnyH_take (i := 6) (v := ?_) rfl (by kernel_rfl) (by kernel_rfl) (by kernel_rfl) (fun _ _ _ h => h) (Or.inl ⟨by kernel_rfl, ?_⟩) (by assumption) ?_
      rotate_left 1
      · intro w hSw; (try dsimp only at hSw); go_simp; (try with_reducible rfl)
      (try simp only [Act.put, List.getElem_toArray, List.getElem_cons_zero, List.getElem_cons_succ, List.setIfInBounds_toArray, List.set_cons_zero, List.set_cons_succ])
      refine wpAnyH_take (i := 7) (v := ?_) rfl (by kernel_rfl) (by kernel_rfl) (by kernel_rfl) (fun _ _ _ h => h) (Or.inl ⟨by kernel_rfl, ?_⟩) (by assumption) ?_
      rotate_left 1
      · intro w hSw; (try dsimp only at hSw); go_simp; (try with_reducible rfl)
      (try simp only [Act.put, List.getElem_toArray, List.getElem_cons_zero, List.getElem_cons_succ, List.setIfInBounds_toArray, List.set_cons_zero, List.set_cons_succ])
      refine wpAnyH_take (i := 8) (v := ?_) rfl (by kernel_rfl) (by kernel_rfl) (by kernel_rfl) (fun _ _ _ h => h) (Or.inl ⟨by kernel_rfl, ?_⟩) (by assumption) ?_
      rotate_left 1
      · intro w hSw; (try dsimp only at hSw); go_simp; (try with_reducible rfl)
      (try simp only [Act.put, List.getElem_toArray, List.getElem_cons_zero, List.getElem_cons_succ, List.setIfInBounds_toArray, List.set_cons_zero, List.set_cons_succ])
      refine wpAnyH_take (i := 9) (v := ?_) rfl (by kernel_rfl) (by kernel_rfl) (by kernel_rfl) (fun _ _ _ h => h) (Or.inl ⟨by kernel_rfl, ?_⟩) (by assumption) ?_
      rotate_left 1
      · intro w hSw; (try dsimp only at hSw); go_simp; (try with_reducible rfl)
      (try simp only [Act.put, List.getElem_toArray, List.getElem_cons_zero, List.getElem_cons_succ, List.setIfInBounds_toArray, List.set_cons_zero, List.set_cons_succ])
      refine wpAnyH_take (i := 10) (v := ?_) rfl (by kernel_rfl) (by kernel_rfl) (by kernel_rfl) (fun _ _ _ h => h) (Or.inl ⟨by kernel_rfl, ?_⟩) (by assumption) ?_
      rotate_left 1
      · intro w hSw; (try dsimp only at hSw); go_simp; (try with_reducible rfl)
      (try simp only [Act.put, List.getElem_toArray, List.getElem_cons_zero, List.getElem_cons_succ, List.setIfInBounds_toArray, List.set_cons_zero, List.set_cons_succ])
      refine wpAnyH_take (i := 11) (v := ?_) rfl (by kernel_rfl) (by kernel_rfl) (by kernel_rfl) (fun _ _ _ h => h) (Or.inl ⟨by kernel_rfl, ?_⟩) (by assumption) ?_
      rotate_left 1
      · intro w hSw; (try dsimp only at hSw); go_simp; (try with_reducible rfl)
      (try simp only [Act.put, List.getElem_toArray, List.getElem_cons_zero, List.getElem_cons_succ, List.setIfInBounds_toArray, List.set_cons_zero, List.set_cons_succ])
      refine wpAnyH_take (i := 12) (v := ?_) rfl (by kernel_rfl) (by kernel_rfl) (by kernel_rfl) (fun _ _ _ h => h) (Or.inl ⟨by kernel_rfl, ?_⟩) (by assumption) ?_
      rotate_left 1
      · intro w hSw; (try dsimp only at hSw); go_simp; (try with_reducible rfl)
      (try simp only [Act.put, List.getElem_toArray, List.getElem_cons_zero, List.getElem_cons_succ, List.setIfInBounds_toArray, List.set_cons_zero, List.set_cons_succ])
      refine wpAnyH_done (by kernel_rfl) ?_ _
      go_wp2_with (first
        | (go_at_call 88
           refine calls_let ?_
           intro W4 hW4
           have hb4 : Below wo.heap.size wo W4 := by subst hW4; exact below_alloc (below_drew1 (Below.refl _ _)) _
           have X4 : W4.heap[wo.heap.size]? = some (.cells #[.slice (some ⟨g1, 0, none⟩) 1 c1] 22 (0, 0)) := by subst hW4; exact blk_new wo.drew _
           clear hW4
           refine (cfr_nil 89 _ E1.out W4).mono ?_
           rintro e w5 ⟨rfl, hb5⟩
           have hb45 := below_step hb4 hb5
           have T5 := Aside0.mk (blk_below X4 hb5)
           have LB5 := Aside0.mk (blk_below LB.out hb45)
           have B45 := Aside0.mk hb45
           have BB5 := Aside0.mk (below_step BB.out hb45)
           clear hb4 X4 hb5 hb45 hx0 kb)
        | fail)
      have HAF := Aside0.mk (show ∀ W, Below w5.heap.size w5 W → Calls Try.prog 91 #[.agg #[.int .i64 1, .int .i64 0, .slice A3 2 2, .slice (some a4) 2 2], .int .i64 0, .slice (some ⟨g1, 0, none⟩) 1 c1] W fun e w' => e = .returned (.int .i64 1) ∧ Below W.heap.size W w' from fun W hb => aft_at [0] 1 1 _ A3 (some a4) _ W rfl (Kd.C_below HN.out (below_step BB5.out hb)) (Kd.C_below HM.out (below_step BB5.out hb)) (Kd.C_below HCW.out (below_step B45.out hb)) HC1.out (by decide))
      obtain ⟨_, e0, y0⟩ := int_get (Kd.C_below HM.out BB5.out) rfl (i := 0) (by decide)
      cases e0
      obtain ⟨_, e0, y1⟩ := int_get (Kd.C_below HM.out BB5.out) rfl (i := 1) (by decide)
      cases e0
      rw [ht_add_pos _ (by omega)] at y1
      have HMS := Aside0.mk (show ∀ W', Below w5.heap.size w5 W' → (fun W' => W'.cell? ⟨w.heap.size, 0, none⟩ = some (.int .i64 1) ∧ W'.cell? ⟨w.heap.size, 1, none⟩ = some (.int .i64 0) ∧ W'.cell? ⟨w.heap.size, 2, none⟩ = some (.slice A3 2 2) ∧ W'.cell? ⟨w.heap.size, 3, none⟩ = some (.slice (some a4) 2 2) ∧ W'.cell? ⟨wo.heap.size, 0, none⟩ = some (.slice (some ⟨g1, 0, none⟩) 1 c1) ∧ W'.cell? a4 = some (.int .i64 0) ∧ W'.cell? ⟨a4.block, a4.off + 1, none⟩ = some (.int .i64 1)) W' from fun W' hb => ⟨pw_cell_below hb ((blk_cell LB5.out 0).trans rfl), pw_cell_below hb ((blk_cell LB5.out 1).trans rfl), pw_cell_below hb ((blk_cell LB5.out 2).trans rfl), pw_cell_below hb ((blk_cell LB5.out 3).trans rfl), pw_cell_below hb ((blk_cell T5.out 0).trans rfl), pw_cell_below hb y0, pw_cell_below hb y1⟩)
      refine wp_region_held_drew (S := (fun W' => W'.cell? ⟨w.heap.size, 0, none⟩ = some (.int .i64 1) ∧ W'.cell? ⟨w.heap.size, 1, none⟩ = some (.int .i64 0) ∧ W'.cell? ⟨w.heap.size, 2, none⟩ = some (.slice A3 2 2) ∧ W'.cell? ⟨w.heap.size, 3, none⟩ = some (.slice (some a4) 2 2) ∧ W'.cell? ⟨wo.heap.size, 0, none⟩ = some (.slice (some ⟨g1, 0, none⟩) 1 c1) ∧ W'.cell? a4 = some (.int .i64 0) ∧ W'.cell? ⟨a4.block, a4.off + 1, none⟩ = some (.int .i64 1))) (by kernel_rfl) ?_ (fun hHeld => ?_)
      · (try dsimp only); (first | exact HMS.out _ B6.out | exact HMS.out _ (below_drew1 (Below.refl _ _)) | fail)
      refine wpAnyH_take (i := 0) (v := ?_) rfl (by kernel_rfl) (by kernel_rfl) (by kernel_rfl) (fun _ _ _ h => h) (Or.inl ⟨by kernel_rfl, ?_⟩) (by assumption) ?_
      rotate_left 1
      · intro w hSw; (try dsimp only at hSw); go_simp; (try with_reducible rfl)
      (try simp only [Act.put, List.getElem_toArray, List.getElem_cons_zero, List.getElem_cons_succ, List.setIfInBounds_toArray, List.set_cons_zero, List.set_cons_succ])
      refine wpAnyH_take (i := 1) (v := ?_) rfl (by kernel_rfl) (by kernel_rfl) (by kernel_rfl) (fun _ _ _ h => h) (Or.inl ⟨by kernel_rfl, ?_⟩) (by assumption) ?_
      rotate_left 1
      · intro w hSw; (try dsimp only at hSw); go_simp; (try with_reducible rfl)
      (try simp only [Act.put, List.getElem_toArray, List.getElem_cons_zero, List.getElem_cons_succ, List.setIfInBounds_toArray, List.set_cons_zero, List.set_cons_succ])
      refine wpAnyH_take (i := 2) (v := ?_) rfl (by kernel_rfl) (by kernel_rfl) (by kernel_rfl) (fun _ _ _ h => h) (Or.inl ⟨by kernel_rfl, ?_⟩) (by assumption) ?_
      rotate_left 1
      · intro w hSw; (try dsimp only at hSw); go_simp; (try with_reducible rfl)
      (try simp only [Act.put, List.getElem_toArray, List.getElem_cons_zero, List.getElem_cons_succ, List.setIfInBounds_toArray, List.set_cons_zero, List.set_cons_succ])
      refine wpAnyH_take (i := 3) (v := ?_) rfl (by kernel_rfl) (by kernel_rfl) (by kernel_rfl) (fun _ _ _ h => h) (Or.inl ⟨by kernel_rfl, ?_⟩) (by assumption) ?_
      rotate_left 1
      · intro w hSw; (try dsimp only at hSw); go_simp; (try with_reducible rfl)
      (try simp only [Act.put, List.getElem_toArray, List.getElem_cons_zero, List.getElem_cons_succ, List.setIfInBounds_toArray, List.set_cons_zero, List.set_cons_succ])
      refine wpAnyH_take (i := 4) (v := ?_) rfl (by kernel_rfl) (by kernel_rfl) (by kernel_rfl) (fun _ _ _ h => h) (Or.inl ⟨by kernel_rfl, ?_⟩) (by assumption) ?_
      rotate_left 1
      · intro w hSw; (try dsimp only at hSw); go_simp; (try with_reducible rfl)
      (try simp only [Act.put, List.getElem_toArray, List.getElem_cons_zero, List.getElem_cons_succ, List.setIfInBounds_toArray, List.set_cons_zero, List.set_cons_succ])
      refine wpAnyH_take (i := 5) (v := ?_) rfl (by kernel_rfl) (by kernel_rfl) (by kernel_rfl) (fun _ _ _ h => h) (Or.inl ⟨by kernel_rfl, ?_⟩) (by assumption) ?_
      rotate_left 1
      · intro w hSw; (try dsimp only at hSw); go_simp; (try with_reducible rfl)
      (try simp only [Act.put, List.getElem_toArray, List.getElem_cons_zero, List.getElem_cons_succ, List.setIfInBounds_toArray, List.set_cons_zero, List.set_cons_succ])
      refine wpAnyH_ready (rs := [6]) (by kernel_rfl) (by simp) ?_
      refine AllReadyH.cons rfl (fun K hK => ?_) AllReadyH.nil
      rw [if_pos (by kernel_rfl)]
      go_simp
      (go_at_call 91; refine (HAF.out _ (below_drew1 (Below.refl _ _))).mono ?_; rintro e w6 ⟨rfl, hb6⟩; have B6 := Aside0.mk (below_step (below_drew1 (Below.refl w5.heap.size w5)) hb6); have LB6 := Aside0.mk (blk_below LB5.out B6.out); have T6 := Aside0.mk (blk_below T5.out B6.out); have BB6 := Aside0.mk (below_step BB5.out B6.out); have B46 := Aside0.mk (below_step B45.out B6.out); have k60 : w6.cell? ⟨w.heap.size, 0, none⟩ = some (.int .i64 1) := (blk_cell LB6.out 0).trans rfl; have k67 : w6.cell? ⟨wo.heap.size, 0, none⟩ = some (.slice (some ⟨g1, 0, none⟩) 1 c1) := (blk_cell T6.out 0).trans rfl; clear hb6)
      (try go_simp)
      refine hK.out _ _ ?_ (fun hHeld => ?_)
      · (try dsimp only); (first | exact HMS.out _ B6.out | exact HMS.out _ (below_drew1 (Below.refl _ _)) | fail)
      clear hK K
      (try simp only [Act.put, List.getElem_toArray, List.getElem_cons_zero, List.getElem_cons_succ, List.setIfInBounds_toArray, List.set_cons_zero, List.set_cons_succ])
      refine wpAnyH_take (i := 7) (v := ?_) rfl (by kernel_rfl) (by kernel_rfl) (by kernel_rfl) (fun _ _ _ h => h) (Or.inl ⟨by kernel_rfl, ?_⟩) (by assumption) ?_
      rotate_left 1
      · intro w hSw; (try dsimp only at hSw); go_simp; (try with_reducible rfl)
      (try simp only [Act.put, List.getElem_toArray, List.getElem_cons_zero, List.getElem_cons_succ, List.setIfInBounds_toArray, List.set_cons_zero, List.set_cons_succ])
      refine wpAnyH_take (i := 8) (v := ?_) rfl (by kernel_rfl) (by kernel_rfl) (by kernel_rfl) (fun _ _ _ h => h) (Or.inl ⟨by kernel_rfl, ?_⟩) (by assumption) ?_
      rotate_left 1
      · intro w hSw; (try dsimp only at hSw); go_simp; (try with_reducible rfl)
      (try simp only [Act.put, List.getElem_toArray, List.getElem_cons_zero, List.getElem_cons_succ, List.setIfInBounds_toArray, List.set_cons_zero, List.set_cons_succ])
      refine wpAnyH_take (i := 9) (v := ?_) rfl (by kernel_rfl) (by kernel_rfl) (by kernel_rfl) (fun _ _ _ h => h) (Or.inl ⟨by kernel_rfl, ?_⟩) (by assumption) ?_
      rotate_left 1
      · intro w hSw; (try dsimp only at hSw); go_simp; (try with_reducible rfl)
      (try simp only [Act.put, List.getElem_toArray, List.getElem_cons_zero, List.getElem_cons_succ, List.setIfInBounds_toArray, List.set_cons_zero, List.set_cons_succ])
      refine wpAnyH_done (by kernel_rfl) ?_ _
      clear HMS y0 y1 HAF LB5 T5 BB5 B45 B6
      go_wp2_with (first
        | ((with_reducible refine gate_dst (N := 50) rfl ?_)
           refine print_append_cells (w0 := w6) w6.heap.size rfl _ _ 43 22 (.slice none 0 0) 1 24 rfl Try.underlying43 row22 rfl (by decide) (by decide) (.slice none 0 0) 0 [] [.slice (some ⟨g1, 0, none⟩) 1 c1] rfl rfl rfl (fun u hu => by simp only [List.mem_singleton] at hu; subst hu; rfl) ⟨rfl, .inl ⟨rfl, rfl⟩⟩ (Below.refl _ _) (Nat.le_refl _) (by decide) ?_
           intro v7 w7 own7 hb7 _ _
           obtain ⟨gq, cq, rfl, _, _, _, hcl⟩ := own_cells own7 (by decide)
           have C7 := Aside0.mk (show w7.cell? ⟨gq, 0, none⟩ = some (.slice (some ⟨g1, 0, none⟩) 1 c1) from hcl 0 _ rfl)
           have LB7 := Aside0.mk (blk_below LB6.out hb7)
           have BB7 := Aside0.mk (below_step BB6.out hb7)
           clear own7 hb7 hcl k60 k67)
        | fail)
      go_roundg 0
      case measure => omega
      case rel => exact ⟨LB7, BB7, .inr (.inr ⟨⟨A', d - 1, ⟨gq, 0, none⟩, cq, _, c1, rfl, rfl, C7.out⟩⟩)⟩
    · obtain ⟨A, d, ad, c, A1, c1, rfl, rfl, hcell⟩ := S3.out
      have HCL := Aside0.mk hcell
      clear S3 hcell
      go_wp2
      refine wp_region_held_drew (S := (fun _ => True)) (by kernel_rfl) ?_ (fun hHeld => ?_)
      · (try dsimp only); (first | done | trivial)
      refine wpAnyH_take (i := 0) (v := ?_) rfl (by kernel_rfl) (by kernel_rfl) (by kernel_rfl) (fun _ _ _ h => h) (Or.inl ⟨by kernel_rfl, ?_⟩) (by assumption) ?_
      rotate_left 1
      · intro w hSw; (try dsimp only at hSw); go_simp; (try with_reducible rfl)
      (try simp only [Act.put, List.getElem_toArray, List.getElem_cons_zero, List.getElem_cons_succ, List.setIfInBounds_toArray, List.set_cons_zero, List.set_cons_succ])
      refine wpAnyH_take (i := 1) (v := ?_) rfl (by kernel_rfl) (by kernel_rfl) (by kernel_rfl) (fun _ _ _ h => h) (Or.inl ⟨by kernel_rfl, ?_⟩) (by assumption) ?_
      rotate_left 1
      · intro w hSw; (try dsimp only at hSw); go_simp; (try with_reducible rfl)
      (try simp only [Act.put, List.getElem_toArray, List.getElem_cons_zero, List.getElem_cons_succ, List.setIfInBounds_toArray, List.set_cons_zero, List.set_cons_succ])
      refine wpAnyH_take (i := 2) (v := ?_) rfl (by kernel_rfl) (by kernel_rfl) (by kernel_rfl) (fun _ _ _ h => h) (Or.inl ⟨by kernel_rfl, ?_⟩) (by assumption) ?_
      rotate_left 1
      · intro w hSw; (try dsimp only at hSw); go_simp; (try with_reducible rfl)
      (try simp only [Act.put, List.getElem_toArray, List.getElem_cons_zero, List.getElem_cons_succ, List.setIfInBounds_toArray, List.set_cons_zero, List.set_cons_succ])
      refine wpAnyH_take (i := 3) (v := ?_) rfl (by kernel_rfl) (by kernel_rfl) (by kernel_rfl) (fun _ _ _ h => h) (Or.inl ⟨by kernel_rfl, ?_⟩) (by assumption) ?_
      rotate_left 1
      · intro w hSw; (try dsimp only at hSw); go_simp; (try with_reducible rfl)
      (try simp only [Act.put, List.getElem_toArray, List.getElem_cons_zero, List.getElem_cons_succ, List.setIfInBounds_toArray, List.set_cons_zero, List.set_cons_succ])
      refine wpAnyH_take (i := 4) (v := undef) rfl (by kernel_rfl) (by kernel_rfl) (by kernel_rfl) (fun _ _ _ h => h) (Or.inr ⟨by kernel_rfl, rfl⟩) (by assumption) ?_
      (try simp only [Act.put, List.getElem_toArray, List.getElem_cons_zero, List.getElem_cons_succ, List.setIfInBounds_toArray, List.set_cons_zero, List.set_cons_succ])
      refine wpAnyH_take (i := 5) (v := undef) rfl (by kernel_rfl) (by kernel_rfl) (by kernel_rfl) (fun _ _ _ h => h) (Or.inr ⟨by kernel_rfl, rfl⟩) (by assumption) ?_
      (try simp only [Act.put, List.getElem_toArray, List.getElem_cons_zero, List.getElem_cons_succ, List.setIfInBounds_toArray, List.set_cons_zero, List.set_cons_succ])
      refine wpAnyH_take (i := 6) (v := undef) rfl (by kernel_rfl) (by kernel_rfl) (by kernel_rfl) (fun _ _ _ h => h) (Or.inr ⟨by kernel_rfl, rfl⟩) (by assumption) ?_
      (try simp only [Act.put, List.getElem_toArray, List.getElem_cons_zero, List.getElem_cons_succ, List.setIfInBounds_toArray, List.set_cons_zero, List.set_cons_succ])
      refine wpAnyH_take (i := 7) (v := undef) rfl (by kernel_rfl) (by kernel_rfl) (by kernel_rfl) (fun _ _ _ h => h) (Or.inr ⟨by kernel_rfl, rfl⟩) (by assumption) ?_
      (try simp only [Act.put, List.getElem_toArray, List.getElem_cons_zero, List.getElem_cons_succ, List.setIfInBounds_toArray, List.set_cons_zero, List.set_cons_succ])
      refine wpAnyH_take (i := 8) (v := undef) rfl (by kernel_rfl) (by kernel_rfl) (by kernel_rfl) (fun _ _ _ h => h) (Or.inr ⟨by kernel_rfl, rfl⟩) (by assumption) ?_
      (try simp only [Act.put, List.getElem_toArray, List.getElem_cons_zero, List.getElem_cons_succ, List.setIfInBounds_toArray, List.set_cons_zero, List.set_cons_succ])
      refine wpAnyH_take (i := 9) (v := undef) rfl (by kernel_rfl) (by kernel_rfl) (by kernel_rfl) (fun _ _ _ h => h) (Or.inr ⟨by kernel_rfl, rfl⟩) (by assumption) ?_
      (try simp only [Act.put, List.getElem_toArray, List.getElem_cons_zero, List.getElem_cons_succ, List.setIfInBounds_toArray, List.set_cons_zero, List.set_cons_succ])
      refine wpAnyH_take (i := 10) (v := undef) rfl (by kernel_rfl) (by kernel_rfl) (by kernel_rfl) (fun _ _ _ h => h) (Or.inr ⟨by kernel_rfl, rfl⟩) (by assumption) ?_
      (try simp only [Act.put, List.getElem_toArray, List.getElem_cons_zero, List.getElem_cons_succ, List.setIfInBounds_toArray, List.set_cons_zero, List.set_cons_succ])
      refine wpAnyH_take (i := 11) (v := undef) rfl (by kernel_rfl) (by kernel_rfl) (by kernel_rfl) (fun _ _ _ h => h) (Or.inr ⟨by kernel_rfl, rfl⟩) (by assumption) ?_
      (try simp only [Act.put, List.getElem_toArray, List.getElem_cons_zero, List.getElem_cons_succ, List.setIfInBounds_toArray, List.set_cons_zero, List.set_cons_succ])
      refine wpAnyH_take (i := 12) (v := ?_) rfl (by kernel_rfl) (by kernel_rfl) (by kernel_rfl) (fun _ _ _ h => h) (Or.inl ⟨by kernel_rfl, ?_⟩) (by assumption) ?_
      rotate_left 1
      · intro w hSw; (try dsimp only at hSw); go_simp; (try with_reducible rfl)
      (try simp only [Act.put, List.getElem_toArray, List.getElem_cons_zero, List.getElem_cons_succ, List.setIfInBounds_toArray, List.set_cons_zero, List.set_cons_succ])
      refine wpAnyH_done (by kernel_rfl) ?_ _
      go_wp2
      go_ret2
      exact ⟨ad, c, A1, c1, rfl, below_drew1 BB.out, HCL.out⟩
end Go.Proofs.Ytampgoendkjkhaa.H
