/- rewrite.Fork: its closure, the search. -/
import Derived.Test.YtampgoendkjkhaaRm
namespace Go.Proofs.Ytampgoendkjkhaa.H
open Go.RowKit Go.Shelf Go.Proofs.YtampgoendkjkhaaW.PrintWords Go.Proofs.YtampgoendkjkhaaW.PrintMore Go.Proofs.Ytampgoendkjkhaa.LyM
set_option linter.unusedVariables false
set_option linter.unusedSimpArgs false
def Rd (W : World) (A : Option Addr) (c : Nat) (x : List Int) : Prop := x.length ≤ c ∧ Kd.C (Kd.int .i64) W A x.length x
theorem Rd.below {W W' : World} {A : Option Addr} {c : Nat} {x : List Int} (h : Rd W A c x) (hb : Below W.heap.size W W') : Rd W' A c x := ⟨h.1, Kd.C_below h.2 hb⟩
theorem Rd.drew {W : World} {A : Option Addr} {c : Nat} {x : List Int} (h : Rd W A c x) : Rd W.drew A c x := h.below (below_drew1 (Below.refl _ _))
/-- the boxes of Fork: the rules, three words -/
structure FkM (b : Nat) (W : World) (A : Option Addr) (n c : Nat) : Prop where
  l : W.heap[b]? = some (.cells #[.slice A n c] 65 (0, 0))
  w : ∃ G m g, W.heap[b + 1]? = some (.cells #[.slice G m g] 22 (0, 0))
  u : ∃ G m g, W.heap[b + 1 + 1]? = some (.cells #[.slice G m g] 22 (0, 0))
  v : ∃ G m g, W.heap[b + 1 + 1 + 1]? = some (.cells #[.slice G m g] 22 (0, 0))
theorem FkM.below {b : Nat} {W W' : World} {A : Option Addr} {n c : Nat} (h : FkM b W A n c) (hb : Below W.heap.size W W') : FkM b W' A n c := by
  obtain ⟨h0, ⟨_, _, _, h1⟩, ⟨_, _, _, h2⟩, ⟨_, _, _, h3⟩⟩ := h
  exact ⟨blk_below h0 hb, ⟨_, _, _, blk_below h1 hb⟩, ⟨_, _, _, blk_below h2 hb⟩, ⟨_, _, _, blk_below h3 hb⟩⟩
theorem FkM.set {b : Nat} {W : World} {A : Option Addr} {n c : Nat} (h : FkM b W A n c) {g : Nat} (hg : g = b + 1 ∨ g = b + 1 + 1 ∨ g = b + 1 + 1 + 1) (G' : Option Addr) (m' g' : Nat) : FkM b (W.setCell ⟨g, 0, none⟩ (.slice G' m' g')) A n c := by
  obtain ⟨h0, h1, h2, h3⟩ := h
  have far : ∀ {k : Nat} {o : Obj}, W.heap[k]? = some o → k ≠ g → (W.setCell ⟨g, 0, none⟩ (.slice G' m' g')).heap[k]? = some o := fun h hk => (Below.heap_setCell W ⟨g, 0, none⟩ _ _ hk).trans h
  have at_ : ∀ {k : Nat}, (∃ G m g, W.heap[k]? = some (.cells #[.slice G m g] 22 (0, 0))) → ∃ G m q, (W.setCell ⟨g, 0, none⟩ (.slice G' m' g')).heap[k]? = some (.cells #[.slice G m q] 22 (0, 0)) := fun {k} ⟨_, _, _, h⟩ => by
    by_cases e : k = g
    · subst e
      exact ⟨G', m', g', by simpa using blk_set h 0 (.slice G' m' g')⟩
    · exact ⟨_, _, _, far h e⟩
  exact ⟨far h0 (by omega), at_ h1, at_ h2, at_ h3⟩
theorem str_ne {a b : ByteArray} (h : a ≠ b) : (a.toList == b.toList) = false := by
  rw [beq_eq_false_iff_ne]
  intro e
  rw [ByteArray.toList_eq, ByteArray.toList_eq] at e
  exact h (ByteArray.ext (Array.toList_inj.1 e))
theorem str_eq {a b : ByteArray} (h : a = b) : (a.toList == b.toList) = true := by rw [h]; simp
theorem key_inj {n : Nat} {l : List Rul} (H : SwOk n l) {x y x' y' : List Int} (hx : LetN n x) (hy : LetN n y) (px : Nrm l x x') (py : Nrm l y y') (e : bstr x' = bstr y') : Joins l x y := by
  have h1 := px.1.lets H hx
  have h2 := py.1.lets H hy
  have hn := H.n4
  have e' := bstr_inj (fun z hz => ⟨(h1 z hz).1, by have := (h1 z hz).2; omega⟩) (fun z hz => ⟨(h2 z hz).1, by have := (h2 z hz).2; omega⟩) e
  exact ⟨x', px.1, by rw [e']; exact py.1⟩
set_option maxHeartbeats 16000000 in
set_option maxRecDepth 100000 in
theorem try_calls (n : Nat) (l : List Rul) (H : SwOk n l) (A : Option Addr) (c b0 : Nat) (B : Option Addr) (d : Nat) (word : List Int) (a b : Rul) (A1 A2 A3 A4 : Option Addr) (c1 c2 c3 c4 i k : Nat) (w : World)
    (hr : Kd.C kSw w A l.length l) (hm : FkM b0 w A l.length c) (hw : Rd w B d word) (ha : a.2.length ≤ c2 ∧ Kd.C (Kd.int .i64) w A2 a.2.length a.2) (hb : b.2.length ≤ c4 ∧ Kd.C (Kd.int .i64) w A4 b.2.length b.2)
    (hp : i + a.1.length ≤ word.length ∧ word.length + a.2.length < 1000 ∧ k + b.1.length ≤ word.length ∧ word.length + b.2.length < 1000) (xa xb : List Int) (hxa : xa = swpd word a i) (hxb : xb = swpd word b k) (hlt : LetN n xa ∧ LetN n xb) (hln : xa.length ≤ 40 ∧ xb.length ≤ 40) :
    Calls Try.prog 69 #[.slice B word.length d, .agg #[.slice A1 a.1.length c1, .slice A2 a.2.length c2], .int .i64 (i : Int), .agg #[.slice A3 b.1.length c3, .slice A4 b.2.length c4], .int .i64 (k : Int), .pointer (some ⟨b0, 0, none⟩), .pointer (some ⟨b0 + 1, 0, none⟩), .pointer (some ⟨b0 + 1 + 1, 0, none⟩), .pointer (some ⟨b0 + 1 + 1 + 1, 0, none⟩)] w fun e w' =>
      ∃ r : Bool, e = .returned (.bool r) ∧ (r = false → Joins l xa xb ∧ Below w.heap.size w w') ∧ Below b0 w w' ∧ FkM b0 w' A l.length c ∧ (∀ g, g < w.heap.size → b0 + 1 + 1 + 1 < g → w'.heap[g]? = w.heap[g]?) := by
  have HOK := Aside0.mk H
  have HXA := Aside0.mk hxa
  have HXB := Aside0.mk hxb
  have HLT := Aside0.mk hlt
  have HLN := Aside0.mk hln
  have HP := Aside0.mk hp
  have HZ := Aside0.mk (show b0 ≤ w.heap.size from Nat.le_of_lt (blk_lt hm.l))
  have M1 := Aside0.mk (below_alloc (below_alloc (Below.refl w.heap.size w) (.cells #[.slice A1 a.1.length c1, .slice A2 a.2.length c2] 68)) (.cells #[.slice A3 b.1.length c3, .slice A4 b.2.length c4] 68))
  have X1 := Aside0.mk (blk_alloc (blk_new w (.cells #[.slice A1 a.1.length c1, .slice A2 a.2.length c2] 68 (0, 0))) (.cells #[.slice A3 b.1.length c3, .slice A4 b.2.length c4] 68 (0, 0)))
  have X2 := Aside0.mk (show ((w.alloc (.cells #[.slice A1 a.1.length c1, .slice A2 a.2.length c2] 68)).alloc (.cells #[.slice A3 b.1.length c3, .slice A4 b.2.length c4] 68)).heap[w.heap.size + 1]? = some (.cells #[.slice A3 b.1.length c3, .slice A4 b.2.length c4] 68 (0, 0)) from blk_newn _ _ _ (by simp))
  have HR := Aside0.mk (Kd.C_below hr M1.out)
  have M0 := Aside0.mk (hm.below M1.out)
  have HW := Aside0.mk (hw.below M1.out)
  have HA := Aside0.mk (And.intro ha.1 (Kd.C_below ha.2 M1.out))
  have HB := Aside0.mk (And.intro hb.1 (Kd.C_below hb.2 M1.out))
  clear H hxa hxb hlt hln hp hr hm hw ha hb
  go_enter Try.func69, Try.ntmps69
  go_wp2
  generalize (w.alloc (.cells #[.slice A1 a.1.length c1, .slice A2 a.2.length c2] 68)).alloc (.cells #[.slice A3 b.1.length c3, .slice A4 b.2.length c4] 68) = W0 at M1 X1 X2 HR M0 HW HA HB ⊢
  have k0 : W0.cell? ⟨b0, 0, none⟩ = some (.slice A l.length c) := (blk_cell M0.out.l 0).trans rfl
  have k1 : W0.cell? ⟨w.heap.size, 0, none⟩ = some (.slice A1 a.1.length c1) := (blk_cell X1.out 0).trans rfl
  have k2 : W0.cell? ⟨w.heap.size, 1, none⟩ = some (.slice A2 a.2.length c2) := (blk_cell X1.out 1).trans rfl
  have k3 : W0.cell? ⟨w.heap.size + 1, 0, none⟩ = some (.slice A3 b.1.length c3) := (blk_cell X2.out 0).trans rfl
  have k4 : W0.cell? ⟨w.heap.size + 1, 1, none⟩ = some (.slice A4 b.2.length c4) := (blk_cell X2.out 1).trans rfl
  have HMS := Aside0.mk (show ∀ W', Below W0.heap.size W0 W' → (fun W' => W'.cell? ⟨b0, 0, none⟩ = some (.slice A l.length c) ∧ W'.cell? ⟨w.heap.size, 0, none⟩ = some (.slice A1 a.1.length c1) ∧ W'.cell? ⟨w.heap.size, 1, none⟩ = some (.slice A2 a.2.length c2) ∧ W'.cell? ⟨w.heap.size + 1, 0, none⟩ = some (.slice A3 b.1.length c3) ∧ W'.cell? ⟨w.heap.size + 1, 1, none⟩ = some (.slice A4 b.2.length c4)) W' from fun W' hb => ⟨pw_cell_below hb k0, pw_cell_below hb k1, pw_cell_below hb k2, pw_cell_below hb k3, pw_cell_below hb k4⟩)
  have BB := Aside0.mk (Below.refl W0.heap.size W0)
  refine wp_region_held_drew (S := (fun W' => W'.cell? ⟨b0, 0, none⟩ = some (.slice A l.length c) ∧ W'.cell? ⟨w.heap.size, 0, none⟩ = some (.slice A1 a.1.length c1) ∧ W'.cell? ⟨w.heap.size, 1, none⟩ = some (.slice A2 a.2.length c2) ∧ W'.cell? ⟨w.heap.size + 1, 0, none⟩ = some (.slice A3 b.1.length c3) ∧ W'.cell? ⟨w.heap.size + 1, 1, none⟩ = some (.slice A4 b.2.length c4))) (by kernel_rfl) ?_ (fun hHeld => ?_)
  · (try dsimp only); (first | exact HMS.out _ BB.out | exact HMS.out _ (below_drew1 BB.out) | fail)
  refine wpAnyH_take (i := 0) (v := ?_) rfl (by kernel_rfl) (by kernel_rfl) (by kernel_rfl) (fun _ _ _ h => h) (Or.inl ⟨by kernel_rfl, ?_⟩) (by assumption) ?_
  rotate_left 1
  · intro w hSw; (try dsimp only at hSw); go_simp; (try with_reducible rfl)
  (try simp only [Act.put, List.getElem_toArray, List.getElem_cons_zero, List.getElem_cons_succ, List.setIfInBounds_toArray, List.set_cons_zero, List.set_cons_succ])
  refine wpAnyH_take (i := 1) (v := ?_) rfl (by kernel_rfl) (by kernel_rfl) (by kernel_rfl) (fun _ _ _ h => h) (Or.inl ⟨by kernel_rfl, ?_⟩) (by assumption) ?_
  rotate_left 1
  · intro w hSw; (try dsimp only at hSw); go_simp; (try with_reducible rfl)
  (try simp only [Act.put, List.getElem_toArray, List.getElem_cons_zero, List.getElem_cons_succ, List.setIfInBounds_toArray, List.set_cons_zero, List.set_cons_succ])
  refine wpAnyH_take (i := 2) (v := ?_) rfl (by kernel_rfl) (by kernel_rfl) (by kernel_rfl) (fun _ _ _ h => h) (Or.inl ⟨by kernel_rfl, ?_⟩) (by assumption) ?_
  rotate_left 1
  · intro w hSw; (try dsimp only at hSw); go_simp; (try with_reducible rfl)
  (try simp only [Act.put, List.getElem_toArray, List.getElem_cons_zero, List.getElem_cons_succ, List.setIfInBounds_toArray, List.set_cons_zero, List.set_cons_succ])
  refine wpAnyH_take (i := 3) (v := ?_) rfl (by kernel_rfl) (by kernel_rfl) (by kernel_rfl) (fun _ _ _ h => h) (Or.inl ⟨by kernel_rfl, ?_⟩) (by assumption) ?_
  rotate_left 1
  · intro w hSw; (try dsimp only at hSw); go_simp; (try with_reducible rfl)
  (try simp only [Act.put, List.getElem_toArray, List.getElem_cons_zero, List.getElem_cons_succ, List.setIfInBounds_toArray, List.set_cons_zero, List.set_cons_succ])
  refine wpAnyH_take (i := 6) (v := ?_) rfl (by kernel_rfl) (by kernel_rfl) (by kernel_rfl) (fun _ _ _ h => h) (Or.inl ⟨by kernel_rfl, ?_⟩) (by assumption) ?_
  rotate_left 1
  · intro w hSw; (try dsimp only at hSw); go_simp; (try with_reducible rfl)
  (try simp only [Act.put, List.getElem_toArray, List.getElem_cons_zero, List.getElem_cons_succ, List.setIfInBounds_toArray, List.set_cons_zero, List.set_cons_succ])
  refine wpAnyH_take (i := 7) (v := ?_) rfl (by kernel_rfl) (by kernel_rfl) (by kernel_rfl) (fun _ _ _ h => h) (Or.inl ⟨by kernel_rfl, ?_⟩) (by assumption) ?_
  rotate_left 1
  · intro w hSw; (try dsimp only at hSw); go_simp; (try with_reducible rfl)
  (try simp only [Act.put, List.getElem_toArray, List.getElem_cons_zero, List.getElem_cons_succ, List.setIfInBounds_toArray, List.set_cons_zero, List.set_cons_succ])
  refine wpAnyH_take (i := 8) (v := ?_) rfl (by kernel_rfl) (by kernel_rfl) (by kernel_rfl) (fun _ _ _ h => h) (Or.inl ⟨by kernel_rfl, ?_⟩) (by assumption) ?_
  rotate_left 1
  · intro w hSw; (try dsimp only at hSw); go_simp; (try with_reducible rfl)
  (try simp only [Act.put, List.getElem_toArray, List.getElem_cons_zero, List.getElem_cons_succ, List.setIfInBounds_toArray, List.set_cons_zero, List.set_cons_succ])
  refine wpAnyH_take (i := 9) (v := ?_) rfl (by kernel_rfl) (by kernel_rfl) (by kernel_rfl) (fun _ _ _ h => h) (Or.inl ⟨by kernel_rfl, ?_⟩) (by assumption) ?_
  rotate_left 1
  · intro w hSw; (try dsimp only at hSw); go_simp; (try with_reducible rfl)
  (try simp only [Act.put, List.getElem_toArray, List.getElem_cons_zero, List.getElem_cons_succ, List.setIfInBounds_toArray, List.set_cons_zero, List.set_cons_succ])
  refine wpAnyH_ready (rs := [4]) (by kernel_rfl) (by simp) ?_
  refine AllReadyH.cons rfl (fun K hK => ?_) AllReadyH.nil
  rw [if_pos (by kernel_rfl)]
  go_simp
  (go_at_call 70; refine calls_let ?_; intro Wc hWc; have BC := Aside0.mk (show Below W0.heap.size W0 Wc from by rw [hWc]; first | exact BB.out | exact below_drew1 BB.out | fail); (try replace SA := Aside0.mk (show Rd Wc AA cA xa from by rw [hWc]; first | exact SA.out | exact SA.out.drew)); (try replace SB := Aside0.mk (show Rd Wc AB cB xb from by rw [hWc]; first | exact SB.out | exact SB.out.drew)); (try replace NA := Aside0.mk (show Rd Wc Ba da ra from by rw [hWc]; first | exact NA.out | exact NA.out.drew)); (try replace NB := Aside0.mk (show Rd Wc Bb db rb from by rw [hWc]; first | exact NB.out | exact NB.out.drew)); clear hWc; refine (swd_calls B d word A1 A2 c1 c2 a i Wc (Kd.C_below HW.out.2 BC.out) HW.out.1 HA.out.1 (Kd.C_below HA.out.2 BC.out) HP.out.1 HP.out.2.1).mono ?_; rintro e wn ⟨vA, rfl, ho, hb⟩; rw [← HXA.out] at ho; obtain ⟨AA, cA, rfl⟩ := Kd.R_slice ho; replace BB := Aside0.mk (below_step BC.out hb); (try replace SA := Aside0.mk (SA.out.below hb)); (try replace SB := Aside0.mk (SB.out.below hb)); (try replace NA := Aside0.mk (NA.out.below hb)); (try replace NB := Aside0.mk (NB.out.below hb)); have SA := Aside0.mk (show Rd wn AA cA xa from (Kd.R_reads' ho).2); clear ho hb BC)
  (try go_simp)
  refine hK.out _ _ ?_ (fun hHeld => ?_)
  · (try dsimp only); (first | exact HMS.out _ BB.out | exact HMS.out _ (below_drew1 BB.out) | fail)
  clear hK K
  (try simp only [Act.put, List.getElem_toArray, List.getElem_cons_zero, List.getElem_cons_succ, List.setIfInBounds_toArray, List.set_cons_zero, List.set_cons_succ])
  refine wpAnyH_ready (rs := [5]) (by kernel_rfl) (by simp) ?_
  refine AllReadyH.cons rfl (fun K hK => ?_) AllReadyH.nil
  rw [if_pos (by kernel_rfl)]
  go_simp
  (go_at_call 68; refine calls_let ?_; intro Wc hWc; have BC := Aside0.mk (show Below W0.heap.size W0 Wc from by rw [hWc]; first | exact BB.out | exact below_drew1 BB.out | fail); (try replace SA := Aside0.mk (show Rd Wc AA cA xa from by rw [hWc]; first | exact SA.out | exact SA.out.drew)); (try replace SB := Aside0.mk (show Rd Wc AB cB xb from by rw [hWc]; first | exact SB.out | exact SB.out.drew)); (try replace NA := Aside0.mk (show Rd Wc Ba da ra from by rw [hWc]; first | exact NA.out | exact NA.out.drew)); (try replace NB := Aside0.mk (show Rd Wc Bb db rb from by rw [hWc]; first | exact NB.out | exact NB.out.drew)); clear hWc; refine (nrm_calls n l HOK.out A c AA cA xa Wc (Kd.C_below HR.out BC.out) SA.out.2 SA.out.1 HLN.out.1).mono ?_; rintro e wn ⟨ra, Ba, da, rfl, h1, h2, h3, hb⟩; replace BB := Aside0.mk (below_step BC.out hb); (try replace SA := Aside0.mk (SA.out.below hb)); (try replace SB := Aside0.mk (SB.out.below hb)); (try replace NA := Aside0.mk (NA.out.below hb)); (try replace NB := Aside0.mk (NB.out.below hb)); have NA := Aside0.mk (show Rd wn Ba da ra from ⟨h1, h2⟩); have PA := Aside0.mk h3; clear h1 h2 h3 hb BC)
  (try go_simp)
  refine hK.out _ _ ?_ (fun hHeld => ?_)
  · (try dsimp only); (first | exact HMS.out _ BB.out | exact HMS.out _ (below_drew1 BB.out) | fail)
  clear hK K
  (try simp only [Act.put, List.getElem_toArray, List.getElem_cons_zero, List.getElem_cons_succ, List.setIfInBounds_toArray, List.set_cons_zero, List.set_cons_succ])
  refine wpAnyH_ready (rs := [10]) (by kernel_rfl) (by simp) ?_
  refine AllReadyH.cons rfl (fun K hK => ?_) AllReadyH.nil
  rw [if_pos (by kernel_rfl)]
  go_simp
  (go_at_call 70; refine calls_let ?_; intro Wc hWc; have BC := Aside0.mk (show Below W0.heap.size W0 Wc from by rw [hWc]; first | exact BB.out | exact below_drew1 BB.out | fail); (try replace SA := Aside0.mk (show Rd Wc AA cA xa from by rw [hWc]; first | exact SA.out | exact SA.out.drew)); (try replace SB := Aside0.mk (show Rd Wc AB cB xb from by rw [hWc]; first | exact SB.out | exact SB.out.drew)); (try replace NA := Aside0.mk (show Rd Wc Ba da ra from by rw [hWc]; first | exact NA.out | exact NA.out.drew)); (try replace NB := Aside0.mk (show Rd Wc Bb db rb from by rw [hWc]; first | exact NB.out | exact NB.out.drew)); clear hWc; refine (swd_calls B d word A3 A4 c3 c4 b k Wc (Kd.C_below HW.out.2 BC.out) HW.out.1 HB.out.1 (Kd.C_below HB.out.2 BC.out) HP.out.2.2.1 HP.out.2.2.2).mono ?_; rintro e wn ⟨vB, rfl, ho, hb⟩; rw [← HXB.out] at ho; obtain ⟨AB, cB, rfl⟩ := Kd.R_slice ho; replace BB := Aside0.mk (below_step BC.out hb); (try replace SA := Aside0.mk (SA.out.below hb)); (try replace SB := Aside0.mk (SB.out.below hb)); (try replace NA := Aside0.mk (NA.out.below hb)); (try replace NB := Aside0.mk (NB.out.below hb)); have SB := Aside0.mk (show Rd wn AB cB xb from (Kd.R_reads' ho).2); clear ho hb BC)
  (try go_simp)
  refine hK.out _ _ ?_ (fun hHeld => ?_)
  · (try dsimp only); (first | exact HMS.out _ BB.out | exact HMS.out _ (below_drew1 BB.out) | fail)
  clear hK K
  (try simp only [Act.put, List.getElem_toArray, List.getElem_cons_zero, List.getElem_cons_succ, List.setIfInBounds_toArray, List.set_cons_zero, List.set_cons_succ])
  refine wpAnyH_ready (rs := [11]) (by kernel_rfl) (by simp) ?_
  refine AllReadyH.cons rfl (fun K hK => ?_) AllReadyH.nil
  rw [if_pos (by kernel_rfl)]
  go_simp
  (go_at_call 68; refine calls_let ?_; intro Wc hWc; have BC := Aside0.mk (show Below W0.heap.size W0 Wc from by rw [hWc]; first | exact BB.out | exact below_drew1 BB.out | fail); (try replace SA := Aside0.mk (show Rd Wc AA cA xa from by rw [hWc]; first | exact SA.out | exact SA.out.drew)); (try replace SB := Aside0.mk (show Rd Wc AB cB xb from by rw [hWc]; first | exact SB.out | exact SB.out.drew)); (try replace NA := Aside0.mk (show Rd Wc Ba da ra from by rw [hWc]; first | exact NA.out | exact NA.out.drew)); (try replace NB := Aside0.mk (show Rd Wc Bb db rb from by rw [hWc]; first | exact NB.out | exact NB.out.drew)); clear hWc; refine (nrm_calls n l HOK.out A c AB cB xb Wc (Kd.C_below HR.out BC.out) SB.out.2 SB.out.1 HLN.out.2).mono ?_; rintro e wn ⟨rb, Bb, db, rfl, h1, h2, h3, hb⟩; replace BB := Aside0.mk (below_step BC.out hb); (try replace SA := Aside0.mk (SA.out.below hb)); (try replace SB := Aside0.mk (SB.out.below hb)); (try replace NA := Aside0.mk (NA.out.below hb)); (try replace NB := Aside0.mk (NB.out.below hb)); have NB := Aside0.mk (show Rd wn Bb db rb from ⟨h1, h2⟩); have PB := Aside0.mk h3; clear h1 h2 h3 hb BC)
  (try go_simp)
  refine hK.out _ _ ?_ (fun hHeld => ?_)
  · (try dsimp only); (first | exact HMS.out _ BB.out | exact HMS.out _ (below_drew1 BB.out) | fail)
  clear hK K
  (try simp only [Act.put, List.getElem_toArray, List.getElem_cons_zero, List.getElem_cons_succ, List.setIfInBounds_toArray, List.set_cons_zero, List.set_cons_succ])
  refine wpAnyH_take (i := 12) (v := ?_) rfl (by kernel_rfl) (by kernel_rfl) (by kernel_rfl) (fun _ _ _ h => h) (Or.inl ⟨by kernel_rfl, ?_⟩) (by assumption) ?_
  rotate_left 1
  · intro w hSw; (try dsimp only at hSw); go_simp; (try with_reducible rfl)
  (try simp only [Act.put, List.getElem_toArray, List.getElem_cons_zero, List.getElem_cons_succ, List.setIfInBounds_toArray, List.set_cons_zero, List.set_cons_succ])
  refine wpAnyH_take (i := 13) (v := ?_) rfl (by kernel_rfl) (by kernel_rfl) (by kernel_rfl) (fun _ _ _ h => h) (Or.inl ⟨by kernel_rfl, ?_⟩) (by assumption) ?_
  rotate_left 1
  · intro w hSw; (try dsimp only at hSw); go_simp; (try with_reducible rfl)
  (try simp only [Act.put, List.getElem_toArray, List.getElem_cons_zero, List.getElem_cons_succ, List.setIfInBounds_toArray, List.set_cons_zero, List.set_cons_succ])
  refine wpAnyH_done (by kernel_rfl) ?_ _
  have HRL := Aside0.mk (And.intro (show ra.length < 1000000 from by have := PA.out.1.len HOK.out; have := HLN.out.1; omega) (show rb.length < 1000000 from by have := PB.out.1.len HOK.out; have := HLN.out.2; omega))
  have tok1 : True := trivial
  by_cases he : bstr ra = bstr rb
  · have hk := str_eq he
    have HJ := Aside0.mk (key_inj HOK.out HLT.out.1 HLT.out.2 PA.out PB.out he)
    go_wp2_with (first | (have _t := tok1; go_at_call 57; refine calls_let ?_; intro Wc hWc; have BC := Aside0.mk (show Below W0.heap.size W0 Wc from by rw [hWc]; first | exact BB.out | exact below_drew1 BB.out | fail); (try replace SA := Aside0.mk (show Rd Wc AA cA xa from by rw [hWc]; first | exact SA.out | exact SA.out.drew)); (try replace SB := Aside0.mk (show Rd Wc AB cB xb from by rw [hWc]; first | exact SB.out | exact SB.out.drew)); (try replace NA := Aside0.mk (show Rd Wc Ba da ra from by rw [hWc]; first | exact NA.out | exact NA.out.drew)); (try replace NB := Aside0.mk (show Rd Wc Bb db rb from by rw [hWc]; first | exact NB.out | exact NB.out.drew)); clear hWc; refine (key_calls Ba da ra Wc NA.out.2 NA.out.1 HRL.out.1).mono ?_; rintro e wn ⟨rfl, hb⟩; replace BB := Aside0.mk (below_step BC.out hb); (try replace SA := Aside0.mk (SA.out.below hb)); (try replace SB := Aside0.mk (SB.out.below hb)); (try replace NA := Aside0.mk (NA.out.below hb)); (try replace NB := Aside0.mk (NB.out.below hb)); clear hb BC tok1) | (go_at_call 57; refine calls_let ?_; intro Wc hWc; have BC := Aside0.mk (show Below W0.heap.size W0 Wc from by rw [hWc]; first | exact BB.out | exact below_drew1 BB.out | fail); (try replace SA := Aside0.mk (show Rd Wc AA cA xa from by rw [hWc]; first | exact SA.out | exact SA.out.drew)); (try replace SB := Aside0.mk (show Rd Wc AB cB xb from by rw [hWc]; first | exact SB.out | exact SB.out.drew)); (try replace NA := Aside0.mk (show Rd Wc Ba da ra from by rw [hWc]; first | exact NA.out | exact NA.out.drew)); (try replace NB := Aside0.mk (show Rd Wc Bb db rb from by rw [hWc]; first | exact NB.out | exact NB.out.drew)); clear hWc; refine (key_calls Bb db rb Wc NB.out.2 NB.out.1 HRL.out.2).mono ?_; rintro e wn ⟨rfl, hb⟩; replace BB := Aside0.mk (below_step BC.out hb); (try replace SA := Aside0.mk (SA.out.below hb)); (try replace SB := Aside0.mk (SB.out.below hb)); (try replace NA := Aside0.mk (NA.out.below hb)); (try replace NB := Aside0.mk (NB.out.below hb)); clear hb BC) | fail)
    go_ret
    exact ⟨false, rfl, fun _ => ⟨HJ.out, below_step M1.out BB.out⟩, (below_step M1.out BB.out).mono HZ.out, M0.out.below BB.out, fun g hg _ => (below_step M1.out BB.out).block g hg⟩
  · have hk := str_ne he
    have tok2 : True := trivial
    have tok3 : True := trivial
    have HRM := Aside0.mk (show word.length < 17592186044416 ∧ ra.length < 17592186044416 ∧ rb.length < 17592186044416 from ⟨by have := HP.out.2.1; omega, by have := HRL.out.1; omega, by have := HRL.out.2; omega⟩)
    go_wp2_with (first | (have _t := tok1; go_at_call 57; refine calls_let ?_; intro Wc hWc; have BC := Aside0.mk (show Below W0.heap.size W0 Wc from by rw [hWc]; first | exact BB.out | exact below_drew1 BB.out | fail); (try replace SA := Aside0.mk (show Rd Wc AA cA xa from by rw [hWc]; first | exact SA.out | exact SA.out.drew)); (try replace SB := Aside0.mk (show Rd Wc AB cB xb from by rw [hWc]; first | exact SB.out | exact SB.out.drew)); (try replace NA := Aside0.mk (show Rd Wc Ba da ra from by rw [hWc]; first | exact NA.out | exact NA.out.drew)); (try replace NB := Aside0.mk (show Rd Wc Bb db rb from by rw [hWc]; first | exact NB.out | exact NB.out.drew)); clear hWc; refine (key_calls Ba da ra Wc NA.out.2 NA.out.1 HRL.out.1).mono ?_; rintro e wn ⟨rfl, hb⟩; replace BB := Aside0.mk (below_step BC.out hb); (try replace SA := Aside0.mk (SA.out.below hb)); (try replace SB := Aside0.mk (SB.out.below hb)); (try replace NA := Aside0.mk (NA.out.below hb)); (try replace NB := Aside0.mk (NB.out.below hb)); clear hb BC tok1) | (go_at_call 57; refine calls_let ?_; intro Wc hWc; have BC := Aside0.mk (show Below W0.heap.size W0 Wc from by rw [hWc]; first | exact BB.out | exact below_drew1 BB.out | fail); (try replace SA := Aside0.mk (show Rd Wc AA cA xa from by rw [hWc]; first | exact SA.out | exact SA.out.drew)); (try replace SB := Aside0.mk (show Rd Wc AB cB xb from by rw [hWc]; first | exact SB.out | exact SB.out.drew)); (try replace NA := Aside0.mk (show Rd Wc Ba da ra from by rw [hWc]; first | exact NA.out | exact NA.out.drew)); (try replace NB := Aside0.mk (show Rd Wc Bb db rb from by rw [hWc]; first | exact NB.out | exact NB.out.drew)); clear hWc; refine (key_calls Bb db rb Wc NB.out.2 NB.out.1 HRL.out.2).mono ?_; rintro e wn ⟨rfl, hb⟩; replace BB := Aside0.mk (below_step BC.out hb); (try replace SA := Aside0.mk (SA.out.below hb)); (try replace SB := Aside0.mk (SB.out.below hb)); (try replace NA := Aside0.mk (NA.out.below hb)); (try replace NB := Aside0.mk (NB.out.below hb)); clear hb BC) | (have _t := tok2; go_at_call 53; refine calls_let ?_; intro Wc hWc; have BC := Aside0.mk (show Below W0.heap.size W0 Wc from by rw [hWc]; first | exact BB.out | exact below_drew1 BB.out | fail); (try replace SA := Aside0.mk (show Rd Wc AA cA xa from by rw [hWc]; first | exact SA.out | exact SA.out.drew)); (try replace SB := Aside0.mk (show Rd Wc AB cB xb from by rw [hWc]; first | exact SB.out | exact SB.out.drew)); (try replace NA := Aside0.mk (show Rd Wc Ba da ra from by rw [hWc]; first | exact NA.out | exact NA.out.drew)); (try replace NB := Aside0.mk (show Rd Wc Bb db rb from by rw [hWc]; first | exact NB.out | exact NB.out.drew)); clear hWc; refine (clone_at B word.length d word Wc rfl (Kd.C_below HW.out.2 BC.out) HW.out.1 HRM.out.1).mono ?_; rintro e wn ⟨v1, rfl, ho, hb⟩; obtain ⟨G1, g1, rfl⟩ := Kd.R_slice ho; replace BB := Aside0.mk (below_step BC.out hb); (try replace SA := Aside0.mk (SA.out.below hb)); (try replace SB := Aside0.mk (SB.out.below hb)); (try replace NA := Aside0.mk (NA.out.below hb)); (try replace NB := Aside0.mk (NB.out.below hb)); clear ho hb BC tok2) | (have _t := tok3; go_at_call 53; refine calls_let ?_; intro Wc hWc; have BC := Aside0.mk (show Below W0.heap.size W0 Wc from by rw [hWc]; first | exact BB.out | exact below_drew1 BB.out | fail); (try replace SA := Aside0.mk (show Rd Wc AA cA xa from by rw [hWc]; first | exact SA.out | exact SA.out.drew)); (try replace SB := Aside0.mk (show Rd Wc AB cB xb from by rw [hWc]; first | exact SB.out | exact SB.out.drew)); (try replace NA := Aside0.mk (show Rd Wc Ba da ra from by rw [hWc]; first | exact NA.out | exact NA.out.drew)); (try replace NB := Aside0.mk (show Rd Wc Bb db rb from by rw [hWc]; first | exact NB.out | exact NB.out.drew)); clear hWc; refine (clone_at Ba ra.length da ra Wc rfl NA.out.2 NA.out.1 HRM.out.2.1).mono ?_; rintro e wn ⟨v1, rfl, ho, hb⟩; obtain ⟨G2, g2, rfl⟩ := Kd.R_slice ho; replace BB := Aside0.mk (below_step BC.out hb); (try replace SA := Aside0.mk (SA.out.below hb)); (try replace SB := Aside0.mk (SB.out.below hb)); (try replace NA := Aside0.mk (NA.out.below hb)); (try replace NB := Aside0.mk (NB.out.below hb)); clear ho hb BC tok3) | (go_at_call 53; refine calls_let ?_; intro Wc hWc; have BC := Aside0.mk (show Below W0.heap.size W0 Wc from by rw [hWc]; first | exact BB.out | exact below_drew1 BB.out | fail); (try replace SA := Aside0.mk (show Rd Wc AA cA xa from by rw [hWc]; first | exact SA.out | exact SA.out.drew)); (try replace SB := Aside0.mk (show Rd Wc AB cB xb from by rw [hWc]; first | exact SB.out | exact SB.out.drew)); (try replace NA := Aside0.mk (show Rd Wc Ba da ra from by rw [hWc]; first | exact NA.out | exact NA.out.drew)); (try replace NB := Aside0.mk (show Rd Wc Bb db rb from by rw [hWc]; first | exact NB.out | exact NB.out.drew)); clear hWc; refine (clone_at Bb rb.length db rb Wc rfl NB.out.2 NB.out.1 HRM.out.2.2).mono ?_; rintro e wn ⟨v1, rfl, ho, hb⟩; obtain ⟨G3, g3, rfl⟩ := Kd.R_slice ho; replace BB := Aside0.mk (below_step BC.out hb); (try replace SA := Aside0.mk (SA.out.below hb)); (try replace SB := Aside0.mk (SB.out.below hb)); (try replace NA := Aside0.mk (NA.out.below hb)); (try replace NB := Aside0.mk (NB.out.below hb)); have MM := Aside0.mk (M0.out.below BB.out); obtain ⟨K1, l1, j1, n1⟩ := MM.out.w; obtain ⟨K2, l2, j2, n2⟩ := MM.out.u; obtain ⟨K3, l3, j3, n3⟩ := MM.out.v; have q1 : wn.cell? ⟨b0 + 1, 0, none⟩ = some (.slice K1 l1 j1) := (blk_cell n1 0).trans rfl; have q2 : wn.cell? ⟨b0 + 1 + 1, 0, none⟩ = some (.slice K2 l2 j2) := (blk_cell n2 0).trans rfl; have q3 : wn.cell? ⟨b0 + 1 + 1 + 1, 0, none⟩ = some (.slice K3 l3 j3) := (blk_cell n3 0).trans rfl; have f1 := blk_frozen n1 0; have f2 := blk_frozen n2 0; have f3 := blk_frozen n3 0; clear ho hb BC n1 n2 n3) | fail)
    go_ret
    exact ⟨true, rfl, fun h => (by cases h), Below.setCell (Below.setCell (Below.setCell ((below_step M1.out BB.out).mono HZ.out) (show b0 ≤ b0 + 1 from by omega) _) (show b0 ≤ b0 + 1 + 1 from by omega) _) (show b0 ≤ b0 + 1 + 1 + 1 from by omega) _, ((MM.out.set (.inl rfl) _ _ _).set (.inr (.inl rfl)) _ _ _).set (.inr (.inr rfl)) _ _ _, fun g hg h3 => ((Below.heap_setCell _ _ _ g (show g ≠ b0 + 1 + 1 + 1 from by omega)).trans ((Below.heap_setCell _ _ _ g (show g ≠ b0 + 1 + 1 from by omega)).trans (Below.heap_setCell _ _ _ g (show g ≠ b0 + 1 from by omega)))).trans ((below_step M1.out BB.out).block g hg)⟩
end Go.Proofs.Ytampgoendkjkhaa.H

namespace Go.Proofs.Ytampgoendkjkhaa.H
open Go.RowKit Go.Shelf Go.Proofs.YtampgoendkjkhaaW.PrintWords Go.Proofs.YtampgoendkjkhaaW.PrintMore Go.Proofs.Ytampgoendkjkhaa.LyM
set_option linter.unusedVariables false
set_option linter.unusedSimpArgs false
theorem res5 {fn : Func} {p q r s t : Tmp} (h : fn.results = #[.cell p 22, .cell q 22, .cell r 22, .tmp s, .tmp t]) (tmps : Array Value) (W : World) (b1 b2 b3 : Nat) (v1 v2 v3 : Value) (hp : tmps.getD p undef = .pointer (some ⟨b1, 0, none⟩)) (hq : tmps.getD q undef = .pointer (some ⟨b2, 0, none⟩)) (hr : tmps.getD r undef = .pointer (some ⟨b3, 0, none⟩))
    (h1 : W.cell? ⟨b1, 0, none⟩ = some v1) (h2 : W.cell? ⟨b2, 0, none⟩ = some v2) (h3 : W.cell? ⟨b3, 0, none⟩ = some v3) : (results fn tmps).run Try.prog W = .ok (.tuple #[v1, v2, v3, tmps.getD s undef, tmps.getD t undef]) W := by
  have hu := Try.underlying22
  have hp' : tmps[p]?.getD undef = .pointer (some ⟨b1, 0, none⟩) := by simpa using hp
  have hq' : tmps[q]?.getD undef = .pointer (some ⟨b2, 0, none⟩) := by simpa using hq
  have hr' : tmps[r]?.getD undef = .pointer (some ⟨b3, 0, none⟩) := by simpa using hr
  simp only [results, h]
  go_simp
theorem swpd_lets {n : Nat} {x : List Int} {s : Rul} {i : Nat} (h : LetN n x) (t : LetN n s.2) : LetN n (swpd x s i) := by
  intro d hd
  unfold swpd at hd
  simp only [List.mem_append] at hd
  rcases hd with (hd | hd) | hd
  · exact h d (List.mem_of_mem_take hd)
  · exact t d hd
  · exact h d (List.mem_of_mem_drop hd)
theorem swpd_len (x : List Int) (s : Rul) (i : Nat) : (swpd x s i).length ≤ x.length + s.2.length := by
  unfold swpd
  simp only [List.length_append, List.length_take, List.length_drop]
  by_cases h : i ≤ x.length <;> omega
theorem lit_rows2 {W : World} {b : Nat} {B0 B1 : Option Addr} {d0 d1 : Nat} {r0 r1 : List Int} {n0 n1 : Nat} (h : W.heap[b]? = some (.cells #[.slice B0 n0 d0, .slice B1 n1 d1] 22 (0, 0))) (e0 : n0 = r0.length) (e1 : n1 = r1.length) (g0 : n0 ≤ d0) (g1 : n1 ≤ d1) (h0 : Kd.C (Kd.int .i64) W B0 n0 r0) (h1 : Kd.C (Kd.int .i64) W B1 n1 r1) : Kd.C (Kd.slice 3 (Kd.int .i64)) W (some ⟨b, 0, none⟩) 2 [r0, r1] := by
  subst e0 e1
  refine ⟨rfl, by decide, fun _ => ⟨_, rfl, fun j p hj => ?_⟩⟩
  match j, hj with
  | 0, hj =>
    obtain rfl : r0 = p := by simpa using hj
    refine ⟨[.slice B0 r0.length d0], rfl, ⟨B0, d0, rfl, g0, h0⟩, fun i u hu => ?_⟩
    match i, hu with
    | 0, hu =>
      obtain rfl : Value.slice B0 r0.length d0 = u := by simpa using hu
      simpa [Addr.add, Kd.slice] using blk_cell h 0
  | 1, hj =>
    obtain rfl : r1 = p := by simpa using hj
    refine ⟨[.slice B1 r1.length d1], rfl, ⟨B1, d1, rfl, g1, h1⟩, fun i u hu => ?_⟩
    match i, hu with
    | 0, hu =>
      obtain rfl : Value.slice B1 r1.length d1 = u := by simpa using hu
      simpa [Addr.add, Kd.slice] using blk_cell h 1
/-- what one round of the inner loop shows: an overlap's place, its word -/
structure OvOk (a b : Rul) (k m n kn : Nat) : Prop where
  hk : k < a.1.length
  hm : m = a.1.length - k
  hn : n = min b.1.length m
  hkn : kn = k + n
theorem OvOk.crit {l : List Rul} {a b : Rul} {k m n kn : Nat} (h : OvOk a b k m n kn) (hj : (a.1.drop k).take (kn - k) = b.1.take n → Joins l (swpd (a.1 ++ b.1.drop n) a 0) (swpd (a.1 ++ b.1.drop n) b k)) : CritAt l a b k := by
  obtain ⟨h1, rfl, rfl, rfl⟩ := h
  intro he
  exact hj (by rw [Nat.add_sub_cancel_left]; exact he)
theorem OvOk.le {a b : Rul} {k m n kn : Nat} (h : OvOk a b k m n kn) : kn ≤ a.1.length ∧ k ≤ kn ∧ n ≤ b.1.length ∧ k + b.1.length ≤ (a.1 ++ b.1.drop n).length ∧ (a.1 ++ b.1.drop n).length ≤ a.1.length + b.1.length := by
  obtain ⟨h1, rfl, rfl, rfl⟩ := h
  simp only [List.length_append, List.length_drop]
  omega
structure FkW (w W : World) (A : Option Addr) (n c : Nat) : Prop where
  b : Below w.heap.size w W
  m : FkM w.heap.size W A n c
theorem FkW.below {w W W' : World} {A : Option Addr} {n c : Nat} (h : FkW w W A n c) (hb : Below W.heap.size W W') : FkW w W' A n c := ⟨below_step h.b hb, h.m.below hb⟩
set_option maxHeartbeats 16000000 in
set_option maxRecDepth 100000 in
theorem fork_calls (L : Int) (A : Option Addr) (c : Nat) (l : List Rul) (w : World) (hr : Kd.C kSw w A l.length l) (h : swChk L l = 0) :
    Calls Try.prog 26 #[.int .i64 L, .slice A l.length c] w fun e w' => ∃ (v1 v2 v3 : Value) (r : Bool), e = .returned (.tuple #[v1, v2, v3, .bool r, .int .i64 0]) ∧ (r = false → Crits l) ∧ Below w.heap.size w w' := by
  obtain ⟨n, hLn, hok⟩ := swOk_of h
  clear hLn
  have etry : ∀ args w, (callFunc 69 args).run Try.prog w = .ok (.enter 69 args) w := enters_of Try.func69 (by kernel_rfl) rfl
  have HOK := Aside0.mk hok
  have HR := Aside0.mk hr
  have hl8 := hok.len
  have M0 := Aside0.mk (show FkW w ((((w.alloc (.cells #[.slice A l.length c] 65)).alloc (.cells #[.slice none 0 0] 22)).alloc (.cells #[.slice none 0 0] 22)).alloc (.cells #[.slice none 0 0] 22)) A l.length c from
    ⟨below_alloc (below_alloc (below_alloc (below_alloc (Below.refl _ _) _) _) _) _, blk_alloc (blk_alloc (blk_alloc (blk_new w _) _) _) _, ⟨_, _, _, blk_alloc (blk_alloc (blk_newn _ _ _ (by simp)) _) _⟩, ⟨_, _, _, blk_alloc (blk_newn _ _ _ (by simp)) _⟩, ⟨_, _, _, blk_newn _ _ _ (by simp)⟩⟩)
  have HK := Aside0.mk (rck_calls L A c l _ (Kd.C_below hr M0.out.b))
  rw [h] at HK
  clear hr h hok
  go_enter Try.func26, Try.ntmps26
  go_wp2_with (go_at_call 65; refine HK.out.mono ?_; rintro e w1 ⟨rfl, hb1⟩; have M1 := Aside0.mk (M0.out.below hb1); have k1 : w1.cell? ⟨w.heap.size, 0, none⟩ = some (.slice A l.length c) := (blk_cell M1.out.m.l 0).trans rfl; clear hb1)
  clear HK M0
  go_loopg [26] l.length (fun gg s26 wr => ∃ i : Nat, i ≤ l.length ∧ l.length - i ≤ gg ∧ s26 = .int .i64 (i : Int) ∧ Aside0 (FkW w wr A l.length c) ∧ Aside0 (∀ i', ∀ hi : i' < l.length, i' < i → ∀ b ∈ l, ∀ k, k < l[i'].1.length → CritAt l l[i'] b k))
  case atStart => exact ⟨0, Nat.zero_le _, by omega, rfl, M1, ⟨fun j _ hj => absurd hj (Nat.not_lt_zero _)⟩⟩
  case round =>
    obtain ⟨i, hi, hgg, rfl, MM, AA⟩ := hrel
    clear M1 k1
    by_cases hlt : i < l.length
    · have hltz : (i : Int) < (l.length : Int) := by omega
      obtain ⟨wo, hwo⟩ : ∃ wo, wo = wr := ⟨_, rfl⟩
      subst hwo
      obtain ⟨go, hgo⟩ : ∃ go, go = gk := ⟨_, rfl⟩
      subst hgo
      obtain ⟨ad, A1, c1, A2, c2, e0, h1, h2, hC1, hC2, k1, k2⟩ := sw_get HR.out rfl hlt
      cases e0
      have HNX := Aside0.mk (fun (h : ∀ b ∈ l, ∀ k, k < l[i].1.length → CritAt l l[i] b k) (j : Nat) (hj : j < l.length) (hji : j < i + 1) => by
        by_cases e : j = i
        · subst e; exact h
        · exact AA.out j hj (by omega) : (∀ b ∈ l, ∀ k, k < l[i].1.length → CritAt l l[i] b k) → ∀ i', ∀ hi : i' < l.length, i' < i + 1 → ∀ b ∈ l, ∀ k, k < l[i'].1.length → CritAt l l[i'] b k)
      have HMA := Aside0.mk (List.getElem_mem hlt)
      generalize l[i] = a at HNX HMA h1 h2 hC1 hC2 k1 k2
      have CA := Aside0.mk (show (a.1.length ≤ c1 ∧ Kd.C (Kd.int .i64) w A1 a.1.length a.1) ∧ a.2.length ≤ c2 ∧ Kd.C (Kd.int .i64) w A2 a.2.length a.2 from ⟨⟨h1, hC1⟩, h2, hC2⟩)
      replace k1 := pw_cell_below MM.out.b k1
      replace k2 := pw_cell_below MM.out.b k2
      have kL : wo.cell? ⟨w.heap.size, 0, none⟩ = some (.slice (some ad) l.length c) := (blk_cell MM.out.m.l 0).trans rfl
      have M2 := Aside0.mk (MM.out.below (below_alloc (Below.refl _ _) (.cells #[.slice A1 a.1.length c1, .slice A2 a.2.length c2] 68)))
      have X2 := Aside0.mk (blk_new wo (.cells #[.slice A1 a.1.length c1, .slice A2 a.2.length c2] 68 (0, 0)))
      have zL : w.heap.size < wo.heap.size := blk_lt MM.out.m.l
      clear h1 h2 hC1 hC2 AA
      go_wp2
      obtain ⟨ba, hba⟩ : ∃ ba, ba = wo.heap.size := ⟨_, rfl⟩
      generalize wo.alloc (.cells #[.slice A1 a.1.length c1, .slice A2 a.2.length c2] 68) = W2 at M2 X2 ⊢
      rw [← hba] at X2 ⊢
      have ZA := Aside0.mk (show w.heap.size + 1 + 1 + 1 < ba from by rw [hba]; obtain ⟨_, _, _, z⟩ := MM.out.m.v; exact blk_lt z)
      clear MM k1 k2 kL zL hba
      go_loopg [32] l.length (fun gg s32 wr => ∃ j : Nat, j ≤ l.length ∧ l.length - j ≤ gg ∧ s32 = .int .i64 (j : Int) ∧ Aside0 (FkW w wr (some ad) l.length c) ∧ Aside0 (wr.heap[ba]? = some (.cells #[.slice A1 a.1.length c1, .slice A2 a.2.length c2] 68 (0, 0))) ∧ Aside0 (∀ j', ∀ hj : j' < l.length, j' < j → ∀ k, k < a.1.length → CritAt l a l[j'] k))
      case atStart => exact ⟨0, Nat.zero_le _, by omega, rfl, M2, X2, ⟨fun j _ hj => absurd hj (Nat.not_lt_zero _)⟩⟩
      case round =>
        obtain ⟨j, hj, hgg2, rfl, MM, XA, AA⟩ := hrel
        clear M2 X2
        by_cases hlj : j < l.length
        · have hljz : (j : Int) < (l.length : Int) := by omega
          obtain ⟨wp, hwp⟩ : ∃ wp, wp = wr := ⟨_, rfl⟩
          subst hwp
          obtain ⟨gp, hgp⟩ : ∃ gp, gp = gk := ⟨_, rfl⟩
          subst hgp
          obtain ⟨ad', A3, c3, A4, c4, e0, h1, h2, hC1, hC2, k3, k4⟩ := sw_get HR.out rfl hlj
          cases e0
          have HNY := Aside0.mk (fun (h : ∀ k, k < a.1.length → CritAt l a l[j] k) (j' : Nat) (hj' : j' < l.length) (hji : j' < j + 1) => by
            by_cases e : j' = j
            · subst e; exact h
            · exact AA.out j' hj' (by omega) : (∀ k, k < a.1.length → CritAt l a l[j] k) → ∀ j', ∀ hj : j' < l.length, j' < j + 1 → ∀ k, k < a.1.length → CritAt l a l[j'] k)
          have HMB := Aside0.mk (List.getElem_mem hlj)
          generalize l[j] = b at HNY HMB h1 h2 hC1 hC2 k3 k4
          have CB := Aside0.mk (show (b.1.length ≤ c3 ∧ Kd.C (Kd.int .i64) w A3 b.1.length b.1) ∧ b.2.length ≤ c4 ∧ Kd.C (Kd.int .i64) w A4 b.2.length b.2 from ⟨⟨h1, hC1⟩, h2, hC2⟩)
          replace k3 := pw_cell_below MM.out.b k3
          replace k4 := pw_cell_below MM.out.b k4
          have k0 : wp.cell? ⟨ba, 0, none⟩ = some (.slice A1 a.1.length c1) := (blk_cell XA.out 0).trans rfl
          have M3 := Aside0.mk (MM.out.below (below_alloc (Below.refl _ _) (.cells #[.slice A3 b.1.length c3, .slice A4 b.2.length c4] 68)))
          have X3 := Aside0.mk (blk_alloc XA.out (.cells #[.slice A3 b.1.length c3, .slice A4 b.2.length c4] 68 (0, 0)))
          have Y3 := Aside0.mk (blk_new wp (.cells #[.slice A3 b.1.length c3, .slice A4 b.2.length c4] 68 (0, 0)))
          have zA : ba < wp.heap.size := blk_lt XA.out
          clear h1 h2 hC1 hC2 AA
          go_wp2
          obtain ⟨bb, hbb⟩ : ∃ bb, bb = wp.heap.size := ⟨_, rfl⟩
          generalize wp.alloc (.cells #[.slice A3 b.1.length c3, .slice A4 b.2.length c4] 68) = W3 at M3 X3 Y3 ⊢
          rw [← hbb] at Y3 ⊢
          have ZB := Aside0.mk (show w.heap.size + 1 + 1 + 1 < bb from by rw [hbb]; obtain ⟨_, _, _, z⟩ := MM.out.m.v; exact blk_lt z)
          clear MM k0 k3 k4 zA hbb XA
          go_loopg [39] a.1.length (fun gg s39 wr => ∃ k : Nat, k ≤ a.1.length ∧ a.1.length - k ≤ gg ∧ s39 = .int .i64 (k : Int) ∧ Aside0 (FkW w wr (some ad) l.length c) ∧ Aside0 (wr.heap[ba]? = some (.cells #[.slice A1 a.1.length c1, .slice A2 a.2.length c2] 68 (0, 0))) ∧ Aside0 (wr.heap[bb]? = some (.cells #[.slice A3 b.1.length c3, .slice A4 b.2.length c4] 68 (0, 0))) ∧ Aside0 (∀ k', k' < k → CritAt l a b k'))
          case atStart => exact ⟨0, Nat.zero_le _, by omega, rfl, M3, X3, Y3, ⟨fun j hj => absurd hj (Nat.not_lt_zero _)⟩⟩
          case round =>
            obtain ⟨k, hk, hgg3, rfl, MM, XA, XB, AA⟩ := hrel
            clear M3 X3 Y3
            by_cases hlk : k < a.1.length
            · have hlkz : (k : Int) < (a.1.length : Int) := by omega
              obtain ⟨m, hm⟩ : ∃ m, m = a.1.length - k := ⟨_, rfl⟩
              obtain ⟨nn, hn⟩ : ∃ nn, nn = min b.1.length m := ⟨_, rfl⟩
              obtain ⟨kn, hkn⟩ : ∃ kn, kn = k + nn := ⟨_, rfl⟩
              have OV := Aside0.mk (show OvOk a b k m nn kn from ⟨hlk, hm, hn, hkn⟩)
              have ha5 := HOK.out.f5 a HMA.out
              have hb5 := HOK.out.f5 b HMB.out
              have hw1 : IntKind.i64.wrap ((a.1.length : Int) - (k : Int)) = (m : Int) := (IntWalk.i64_in _ (by omega)).trans (by omega)
              have hmin : min (b.1.length : Int) (m : Int) = (nn : Int) := by omega
              have hw2 : IntKind.i64.wrap ((k : Int) + (nn : Int)) = (kn : Int) := (IntWalk.i64_in _ (by omega)).trans (by omega)
              obtain ⟨hl1, hl2, hl3, hl4, hl5⟩ := OV.out.le
              obtain ⟨A5, m5, c5, hm5, hmc5, hcut5, hC5⟩ := cutM A1 c1 a.1.length k kn hl2 hl1 CA.out.1.1
              obtain ⟨hcutB, hCB⟩ := cutB A3 c3 b.1.length nn hl3 CB.out.1.1
              obtain ⟨A6, m6, c6, hm6, hmc6, hcut6, hC6⟩ := cutA A3 c3 b.1.length nn hl3 CB.out.1.1
              have HE := Aside0.mk (fun (W : World) (hb : Below w.heap.size w W) => equal_at A5 c5 ((a.1.drop k).take (kn - k)) A3 c3 (b.1.take nn) m5 nn W (by rw [List.length_take, List.length_drop]; omega) (by rw [List.length_take]; omega) (hC5 W _ (Kd.C_below CA.out.1.2 hb)) hmc5 (hCB W _ (Kd.C_below CB.out.1.2 hb)) (by have := CB.out.1.1; omega) _ rfl (by omega))
              have H6 := Aside0.mk (And.intro (show m6 = (b.1.drop nn).length from by rw [List.length_drop]; omega) (And.intro hmc6 hC6))
              have HL := Aside0.mk (show ([a.1, b.1.drop nn] : List (List Int)).flatten.length < 17592186044416 ∧ (a.1 ++ b.1.drop nn).length ≤ 10 ∧ a.1.length ≤ (a.1 ++ b.1.drop nn).length ∧ k + b.1.length ≤ (a.1 ++ b.1.drop nn).length from ⟨by simp; omega, by omega, by simp, hl4⟩)
              have p0 : wr.cell? ⟨ba, 0, none⟩ = some (.slice A1 a.1.length c1) := (blk_cell XA.out 0).trans rfl
              have p1 : wr.cell? ⟨ba, 1, none⟩ = some (.slice A2 a.2.length c2) := (blk_cell XA.out 1).trans rfl
              have p2 : wr.cell? ⟨bb, 0, none⟩ = some (.slice A3 b.1.length c3) := (blk_cell XB.out 0).trans rfl
              have p3 : wr.cell? ⟨bb, 1, none⟩ = some (.slice A4 b.2.length c4) := (blk_cell XB.out 1).trans rfl
              have HMS := Aside0.mk (show ∀ W', Below wr.heap.size wr W' → (fun W' => W'.cell? ⟨ba, 0, none⟩ = some (.slice A1 a.1.length c1) ∧ W'.cell? ⟨ba, 1, none⟩ = some (.slice A2 a.2.length c2) ∧ W'.cell? ⟨bb, 0, none⟩ = some (.slice A3 b.1.length c3) ∧ W'.cell? ⟨bb, 1, none⟩ = some (.slice A4 b.2.length c4)) W' from fun W' hb => ⟨pw_cell_below hb p0, pw_cell_below hb p1, pw_cell_below hb p2, pw_cell_below hb p3⟩)
              have HNZ := Aside0.mk (fun (h : CritAt l a b k) (j' : Nat) (hji : j' < k + 1) => by
                by_cases e : j' = k
                · subst e; exact h
                · exact AA.out j' (by omega) : CritAt l a b k → ∀ k', k' < k + 1 → CritAt l a b k')
              clear hm hn hkn hm5 hmc5 hC5 hCB hm6 hmc6 hC6 hl1 hl2 hl3 hl4 hl5 AA
              cases hq : decide ((a.1.drop k).take (kn - k) = b.1.take nn) with
              | false =>
                rw [hq] at HE
                have HN := Aside0.mk (HNZ.out (OV.out.crit (fun e => absurd e (of_decide_eq_false hq))))
                clear hq HNZ
                go_wp2
                refine wp_region_held_drew (S := (fun W' => W'.cell? ⟨ba, 0, none⟩ = some (.slice A1 a.1.length c1) ∧ W'.cell? ⟨ba, 1, none⟩ = some (.slice A2 a.2.length c2) ∧ W'.cell? ⟨bb, 0, none⟩ = some (.slice A3 b.1.length c3) ∧ W'.cell? ⟨bb, 1, none⟩ = some (.slice A4 b.2.length c4))) (by kernel_rfl) ?_ (fun hHeld => ?_)
                · (try dsimp only); (first | exact HMS.out _ B3.out | exact HMS.out _ (below_drew1 (Below.refl _ _)) | fail)
                refine wpAnyH_take (i := 0) (v := ?_) rfl (by kernel_rfl) (by kernel_rfl) (by kernel_rfl) (fun _ _ _ h => h) (Or.inl ⟨by kernel_rfl, ?_⟩) (by assumption) ?_
                rotate_left 1
                · intro w hSw; (try dsimp only at hSw); go_simp; (try with_reducible rfl)
                (try simp only [Act.put, List.getElem_toArray, List.getElem_cons_zero, List.getElem_cons_succ, List.setIfInBounds_toArray, List.set_cons_zero, List.set_cons_succ])
                refine wpAnyH_take (i := 1) (v := ?_) rfl (by kernel_rfl) (by kernel_rfl) (by kernel_rfl) (fun _ _ _ h => h) (Or.inl ⟨by kernel_rfl, ?_⟩) (by assumption) ?_
                rotate_left 1
                · intro w hSw; (try dsimp only at hSw); go_simp; (try with_reducible rfl)
                (try simp only [Act.put, List.getElem_toArray, List.getElem_cons_zero, List.getElem_cons_succ, List.setIfInBounds_toArray, List.set_cons_zero, List.set_cons_succ])
                refine wpAnyH_take (i := 2) (v := ?_) rfl (by kernel_rfl) (by kernel_rfl) (by kernel_rfl) (fun _ _ _ h => h) (Or.inl ⟨by kernel_rfl, ?_⟩) (by assumption) ?_
                rotate_left 1
                · intro w hSw; (try dsimp only at hSw); go_simp; (try with_reducible rfl)
                (try simp only [Act.put, List.getElem_toArray, List.getElem_cons_zero, List.getElem_cons_succ, List.setIfInBounds_toArray, List.set_cons_zero, List.set_cons_succ])
                refine wpAnyH_take (i := 3) (v := ?_) rfl (by kernel_rfl) (by kernel_rfl) (by kernel_rfl) (fun _ _ _ h => h) (Or.inl ⟨by kernel_rfl, ?_⟩) (by assumption) ?_
                rotate_left 1
                · intro w hSw; (try dsimp only at hSw); go_simp; (try with_reducible rfl)
                (try simp only [Act.put, List.getElem_toArray, List.getElem_cons_zero, List.getElem_cons_succ, List.setIfInBounds_toArray, List.set_cons_zero, List.set_cons_succ])
                refine wpAnyH_take (i := 4) (v := ?_) rfl (by kernel_rfl) (by kernel_rfl) (by kernel_rfl) (fun _ _ _ h => h) (Or.inl ⟨by kernel_rfl, ?_⟩) (by assumption) ?_
                rotate_left 1
                · intro w hSw; (try dsimp only at hSw); go_simp; (try with_reducible rfl)
                (try simp only [Act.put, List.getElem_toArray, List.getElem_cons_zero, List.getElem_cons_succ, List.setIfInBounds_toArray, List.set_cons_zero, List.set_cons_succ])
                refine wpAnyH_take (i := 5) (v := ?_) rfl (by kernel_rfl) (by kernel_rfl) (by kernel_rfl) (fun _ _ _ h => h) (Or.inl ⟨by kernel_rfl, ?_⟩) (by assumption) ?_
                rotate_left 1
                · intro w hSw; (try dsimp only at hSw); go_simp; (try with_reducible rfl)
                (try simp only [Act.put, List.getElem_toArray, List.getElem_cons_zero, List.getElem_cons_succ, List.setIfInBounds_toArray, List.set_cons_zero, List.set_cons_succ])
                refine wpAnyH_take (i := 6) (v := ?_) rfl (by kernel_rfl) (by kernel_rfl) (by kernel_rfl) (fun _ _ _ h => h) (Or.inl ⟨by kernel_rfl, ?_⟩) (by assumption) ?_
                rotate_left 1
                · intro w hSw; (try dsimp only at hSw); go_simp; (try with_reducible rfl)
                (try simp only [Act.put, List.getElem_toArray, List.getElem_cons_zero, List.getElem_cons_succ, List.setIfInBounds_toArray, List.set_cons_zero, List.set_cons_succ])
                refine wpAnyH_take (i := 7) (v := ?_) rfl (by kernel_rfl) (by kernel_rfl) (by kernel_rfl) (fun _ _ _ h => h) (Or.inl ⟨by kernel_rfl, ?_⟩) (by assumption) ?_
                rotate_left 1
                · intro w hSw; (try dsimp only at hSw); go_simp; (try with_reducible rfl)
                (try simp only [Act.put, List.getElem_toArray, List.getElem_cons_zero, List.getElem_cons_succ, List.setIfInBounds_toArray, List.set_cons_zero, List.set_cons_succ])
                refine wpAnyH_take (i := 8) (v := ?_) rfl (by kernel_rfl) (by kernel_rfl) (by kernel_rfl) (fun _ _ _ h => h) (Or.inl ⟨by kernel_rfl, ?_⟩) (by assumption) ?_
                rotate_left 1
                · intro w hSw; (try dsimp only at hSw); go_simp; (try with_reducible rfl)
                (try simp only [Act.put, List.getElem_toArray, List.getElem_cons_zero, List.getElem_cons_succ, List.setIfInBounds_toArray, List.set_cons_zero, List.set_cons_succ])
                refine wpAnyH_take (i := 9) (v := ?_) rfl (by kernel_rfl) (by kernel_rfl) (by kernel_rfl) (fun _ _ _ h => h) (Or.inl ⟨by kernel_rfl, ?_⟩) (by assumption) ?_
                rotate_left 1
                · intro w hSw; (try dsimp only at hSw); go_simp; (try with_reducible rfl)
                (try simp only [Act.put, List.getElem_toArray, List.getElem_cons_zero, List.getElem_cons_succ, List.setIfInBounds_toArray, List.set_cons_zero, List.set_cons_succ])
                refine wpAnyH_take (i := 10) (v := ?_) rfl (by kernel_rfl) (by kernel_rfl) (by kernel_rfl) (fun _ _ _ h => h) (Or.inl ⟨by kernel_rfl, ?_⟩) (by assumption) ?_
                rotate_left 1
                · intro w hSw; (try dsimp only at hSw); go_simp; (try with_reducible rfl)
                (try simp only [Act.put, List.getElem_toArray, List.getElem_cons_zero, List.getElem_cons_succ, List.setIfInBounds_toArray, List.set_cons_zero, List.set_cons_succ])
                refine wpAnyH_ready (rs := [11]) (by kernel_rfl) (by simp) ?_
                refine AllReadyH.cons rfl (fun K hK => ?_) AllReadyH.nil
                rw [if_pos (by kernel_rfl)]
                go_simp
                (go_at_call 71; refine (HE.out _ (below_drew1 MM.out.b)).mono ?_; rintro e w3 ⟨rfl, ⟨n3, hw3⟩⟩; have B3 := Aside0.mk (show Below wr.heap.size wr w3 from by rw [hw3]; exact pw_below_drewN (below_drew1 (Below.refl _ _)) n3); clear hw3)
                (try go_simp)
                refine hK.out _ _ ?_ (fun hHeld => ?_)
                · (try dsimp only); (first | exact HMS.out _ B3.out | exact HMS.out _ (below_drew1 (Below.refl _ _)) | fail)
                clear hK K
                (try simp only [Act.put, List.getElem_toArray, List.getElem_cons_zero, List.getElem_cons_succ, List.setIfInBounds_toArray, List.set_cons_zero, List.set_cons_succ])
                refine wpAnyH_take (i := 12) (v := ?_) rfl (by kernel_rfl) (by kernel_rfl) (by kernel_rfl) (fun _ _ _ h => h) (Or.inl ⟨by kernel_rfl, ?_⟩) (by assumption) ?_
                rotate_left 1
                · intro w hSw; (try dsimp only at hSw); go_simp; (try with_reducible rfl)
                (try simp only [Act.put, List.getElem_toArray, List.getElem_cons_zero, List.getElem_cons_succ, List.setIfInBounds_toArray, List.set_cons_zero, List.set_cons_succ])
                refine wpAnyH_take (i := 13) (v := ?_) rfl (by kernel_rfl) (by kernel_rfl) (by kernel_rfl) (fun _ _ _ h => h) (Or.inl ⟨by kernel_rfl, ?_⟩) (by assumption) ?_
                rotate_left 1
                · intro w hSw; (try dsimp only at hSw); go_simp; (try with_reducible rfl)
                (try simp only [Act.put, List.getElem_toArray, List.getElem_cons_zero, List.getElem_cons_succ, List.setIfInBounds_toArray, List.set_cons_zero, List.set_cons_succ])
                refine wpAnyH_done (by kernel_rfl) ?_ _
                go_wp2
                go_roundg (a.1.length - (k + 1))
                case measure => omega
                case rel => exact ⟨k + 1, by omega, by omega, by go_num, ⟨MM.out.below B3.out⟩, ⟨blk_below XA.out B3.out⟩, ⟨blk_below XB.out B3.out⟩, HN⟩
              | true =>
                rw [hq] at HE
                clear hq
                go_wp2
                refine wp_region_held_drew (S := (fun W' => W'.cell? ⟨ba, 0, none⟩ = some (.slice A1 a.1.length c1) ∧ W'.cell? ⟨ba, 1, none⟩ = some (.slice A2 a.2.length c2) ∧ W'.cell? ⟨bb, 0, none⟩ = some (.slice A3 b.1.length c3) ∧ W'.cell? ⟨bb, 1, none⟩ = some (.slice A4 b.2.length c4))) (by kernel_rfl) ?_ (fun hHeld => ?_)
                · (try dsimp only); (first | exact HMS.out _ B3.out | exact HMS.out _ (below_drew1 (Below.refl _ _)) | fail)
                refine wpAnyH_take (i := 0) (v := ?_) rfl (by kernel_rfl) (by kernel_rfl) (by kernel_rfl) (fun _ _ _ h => h) (Or.inl ⟨by kernel_rfl, ?_⟩) (by assumption) ?_
                rotate_left 1
                · intro w hSw; (try dsimp only at hSw); go_simp; (try with_reducible rfl)
                (try simp only [Act.put, List.getElem_toArray, List.getElem_cons_zero, List.getElem_cons_succ, List.setIfInBounds_toArray, List.set_cons_zero, List.set_cons_succ])
                refine wpAnyH_take (i := 1) (v := ?_) rfl (by kernel_rfl) (by kernel_rfl) (by kernel_rfl) (fun _ _ _ h => h) (Or.inl ⟨by kernel_rfl, ?_⟩) (by assumption) ?_
                rotate_left 1
                · intro w hSw; (try dsimp only at hSw); go_simp; (try with_reducible rfl)
                (try simp only [Act.put, List.getElem_toArray, List.getElem_cons_zero, List.getElem_cons_succ, List.setIfInBounds_toArray, List.set_cons_zero, List.set_cons_succ])
                refine wpAnyH_take (i := 2) (v := ?_) rfl (by kernel_rfl) (by kernel_rfl) (by kernel_rfl) (fun _ _ _ h => h) (Or.inl ⟨by kernel_rfl, ?_⟩) (by assumption) ?_
                rotate_left 1
                · intro w hSw; (try dsimp only at hSw); go_simp; (try with_reducible rfl)
                (try simp only [Act.put, List.getElem_toArray, List.getElem_cons_zero, List.getElem_cons_succ, List.setIfInBounds_toArray, List.set_cons_zero, List.set_cons_succ])
                refine wpAnyH_take (i := 3) (v := ?_) rfl (by kernel_rfl) (by kernel_rfl) (by kernel_rfl) (fun _ _ _ h => h) (Or.inl ⟨by kernel_rfl, ?_⟩) (by assumption) ?_
                rotate_left 1
                · intro w hSw; (try dsimp only at hSw); go_simp; (try with_reducible rfl)
                (try simp only [Act.put, List.getElem_toArray, List.getElem_cons_zero, List.getElem_cons_succ, List.setIfInBounds_toArray, List.set_cons_zero, List.set_cons_succ])
                refine wpAnyH_take (i := 4) (v := ?_) rfl (by kernel_rfl) (by kernel_rfl) (by kernel_rfl) (fun _ _ _ h => h) (Or.inl ⟨by kernel_rfl, ?_⟩) (by assumption) ?_
                rotate_left 1
                · intro w hSw; (try dsimp only at hSw); go_simp; (try with_reducible rfl)
                (try simp only [Act.put, List.getElem_toArray, List.getElem_cons_zero, List.getElem_cons_succ, List.setIfInBounds_toArray, List.set_cons_zero, List.set_cons_succ])
                refine wpAnyH_take (i := 5) (v := ?_) rfl (by kernel_rfl) (by kernel_rfl) (by kernel_rfl) (fun _ _ _ h => h) (Or.inl ⟨by kernel_rfl, ?_⟩) (by assumption) ?_
                rotate_left 1
                · intro w hSw; (try dsimp only at hSw); go_simp; (try with_reducible rfl)
                (try simp only [Act.put, List.getElem_toArray, List.getElem_cons_zero, List.getElem_cons_succ, List.setIfInBounds_toArray, List.set_cons_zero, List.set_cons_succ])
                refine wpAnyH_take (i := 6) (v := ?_) rfl (by kernel_rfl) (by kernel_rfl) (by kernel_rfl) (fun _ _ _ h => h) (Or.inl ⟨by kernel_rfl, ?_⟩) (by assumption) ?_
                rotate_left 1
                · intro w hSw; (try dsimp only at hSw); go_simp; (try with_reducible rfl)
                (try simp only [Act.put, List.getElem_toArray, List.getElem_cons_zero, List.getElem_cons_succ, List.setIfInBounds_toArray, List.set_cons_zero, List.set_cons_succ])
                refine wpAnyH_take (i := 7) (v := ?_) rfl (by kernel_rfl) (by kernel_rfl) (by kernel_rfl) (fun _ _ _ h => h) (Or.inl ⟨by kernel_rfl, ?_⟩) (by assumption) ?_
                rotate_left 1
                · intro w hSw; (try dsimp only at hSw); go_simp; (try with_reducible rfl)
                (try simp only [Act.put, List.getElem_toArray, List.getElem_cons_zero, List.getElem_cons_succ, List.setIfInBounds_toArray, List.set_cons_zero, List.set_cons_succ])
                refine wpAnyH_take (i := 8) (v := ?_) rfl (by kernel_rfl) (by kernel_rfl) (by kernel_rfl) (fun _ _ _ h => h) (Or.inl ⟨by kernel_rfl, ?_⟩) (by assumption) ?_
                rotate_left 1
                · intro w hSw; (try dsimp only at hSw); go_simp; (try with_reducible rfl)
                (try simp only [Act.put, List.getElem_toArray, List.getElem_cons_zero, List.getElem_cons_succ, List.setIfInBounds_toArray, List.set_cons_zero, List.set_cons_succ])
                refine wpAnyH_take (i := 9) (v := ?_) rfl (by kernel_rfl) (by kernel_rfl) (by kernel_rfl) (fun _ _ _ h => h) (Or.inl ⟨by kernel_rfl, ?_⟩) (by assumption) ?_
                rotate_left 1
                · intro w hSw; (try dsimp only at hSw); go_simp; (try with_reducible rfl)
                (try simp only [Act.put, List.getElem_toArray, List.getElem_cons_zero, List.getElem_cons_succ, List.setIfInBounds_toArray, List.set_cons_zero, List.set_cons_succ])
                refine wpAnyH_take (i := 10) (v := ?_) rfl (by kernel_rfl) (by kernel_rfl) (by kernel_rfl) (fun _ _ _ h => h) (Or.inl ⟨by kernel_rfl, ?_⟩) (by assumption) ?_
                rotate_left 1
                · intro w hSw; (try dsimp only at hSw); go_simp; (try with_reducible rfl)
                (try simp only [Act.put, List.getElem_toArray, List.getElem_cons_zero, List.getElem_cons_succ, List.setIfInBounds_toArray, List.set_cons_zero, List.set_cons_succ])
                refine wpAnyH_ready (rs := [11]) (by kernel_rfl) (by simp) ?_
                refine AllReadyH.cons rfl (fun K hK => ?_) AllReadyH.nil
                rw [if_pos (by kernel_rfl)]
                go_simp
                (go_at_call 71; refine (HE.out _ (below_drew1 MM.out.b)).mono ?_; rintro e w3 ⟨rfl, ⟨n3, hw3⟩⟩; have B3 := Aside0.mk (show Below wr.heap.size wr w3 from by rw [hw3]; exact pw_below_drewN (below_drew1 (Below.refl _ _)) n3); clear hw3)
                (try go_simp)
                refine hK.out _ _ ?_ (fun hHeld => ?_)
                · (try dsimp only); (first | exact HMS.out _ B3.out | exact HMS.out _ (below_drew1 (Below.refl _ _)) | fail)
                clear hK K
                (try simp only [Act.put, List.getElem_toArray, List.getElem_cons_zero, List.getElem_cons_succ, List.setIfInBounds_toArray, List.set_cons_zero, List.set_cons_succ])
                refine wpAnyH_take (i := 12) (v := ?_) rfl (by kernel_rfl) (by kernel_rfl) (by kernel_rfl) (fun _ _ _ h => h) (Or.inl ⟨by kernel_rfl, ?_⟩) (by assumption) ?_
                rotate_left 1
                · intro w hSw; (try dsimp only at hSw); go_simp; (try with_reducible rfl)
                (try simp only [Act.put, List.getElem_toArray, List.getElem_cons_zero, List.getElem_cons_succ, List.setIfInBounds_toArray, List.set_cons_zero, List.set_cons_succ])
                refine wpAnyH_take (i := 13) (v := ?_) rfl (by kernel_rfl) (by kernel_rfl) (by kernel_rfl) (fun _ _ _ h => h) (Or.inl ⟨by kernel_rfl, ?_⟩) (by assumption) ?_
                rotate_left 1
                · intro w hSw; (try dsimp only at hSw); go_simp; (try with_reducible rfl)
                (try simp only [Act.put, List.getElem_toArray, List.getElem_cons_zero, List.getElem_cons_succ, List.setIfInBounds_toArray, List.set_cons_zero, List.set_cons_succ])
                refine wpAnyH_done (by kernel_rfl) ?_ _
                go_wp2
                obtain ⟨word, hwd⟩ : ∃ word, word = a.1 ++ b.1.drop nn := ⟨_, rfl⟩
                have HFL := Aside0.mk (show ([a.1, b.1.drop nn] : List (List Int)).flatten = word from by rw [hwd]; simp)
                have HLW := Aside0.mk (show (word.length ≤ 10 ∧ a.1.length ≤ word.length ∧ k + b.1.length ≤ word.length) ∧ LetN n word from by
                  rw [hwd]
                  refine ⟨HL.out.2, LetN.app (HOK.out.fl a HMA.out) (fun d hd => HOK.out.fl b HMB.out d (List.mem_of_mem_drop hd))⟩)
                have HCR := Aside0.mk (fun h : Joins l (swpd word a 0) (swpd word b k) => HNZ.out (OV.out.crit (fun _ => by rw [← hwd]; exact h)))
                clear hwd HNZ
                refine wp_region_held_drew (S := (fun W' => W'.cell? ⟨ba, 0, none⟩ = some (.slice A1 a.1.length c1) ∧ W'.cell? ⟨ba, 1, none⟩ = some (.slice A2 a.2.length c2) ∧ W'.cell? ⟨bb, 0, none⟩ = some (.slice A3 b.1.length c3) ∧ W'.cell? ⟨bb, 1, none⟩ = some (.slice A4 b.2.length c4))) (by kernel_rfl) ?_ (fun hHeld => ?_)
                · (try dsimp only); (first | exact HM9.out | exact HMS.out _ (below_step B3.out B6.out) | exact HMS.out _ (below_drew1 B3.out) | exact HMS.out _ (below_alloc (below_drew1 B3.out) _) | fail)
                refine wpAnyH_take (i := 0) (v := ?_) rfl (by kernel_rfl) (by kernel_rfl) (by kernel_rfl) (fun _ _ _ h => h) (Or.inl ⟨by kernel_rfl, ?_⟩) (by assumption) ?_
                rotate_left 1
                · intro w hSw; (try dsimp only at hSw); go_simp; (try with_reducible rfl)
                (try simp only [Act.put, List.getElem_toArray, List.getElem_cons_zero, List.getElem_cons_succ, List.setIfInBounds_toArray, List.set_cons_zero, List.set_cons_succ])
                refine wpAnyH_take (i := 1) (v := ?_) rfl (by kernel_rfl) (by kernel_rfl) (by kernel_rfl) (fun _ _ _ h => h) (Or.inl ⟨by kernel_rfl, ?_⟩) (by assumption) ?_
                rotate_left 1
                · intro w hSw; (try dsimp only at hSw); go_simp; (try with_reducible rfl)
                (try simp only [Act.put, List.getElem_toArray, List.getElem_cons_zero, List.getElem_cons_succ, List.setIfInBounds_toArray, List.set_cons_zero, List.set_cons_succ])
                refine wpAnyH_take (i := 2) (v := ?_) rfl (by kernel_rfl) (by kernel_rfl) (by kernel_rfl) (fun _ _ _ h => h) (Or.inl ⟨by kernel_rfl, ?_⟩) (by assumption) ?_
                rotate_left 1
                · intro w hSw; (try dsimp only at hSw); go_simp; (try with_reducible rfl)
                (try simp only [Act.put, List.getElem_toArray, List.getElem_cons_zero, List.getElem_cons_succ, List.setIfInBounds_toArray, List.set_cons_zero, List.set_cons_succ])
                refine wpAnyH_take (i := 3) (v := ?_) rfl (by kernel_rfl) (by kernel_rfl) (by kernel_rfl) (fun _ _ _ h => h) (Or.inl ⟨by kernel_rfl, ?_⟩) (by assumption) ?_
                rotate_left 1
                · intro w hSw; (try dsimp only at hSw); go_simp; (try with_reducible rfl)
                (try simp only [Act.put, List.getElem_toArray, List.getElem_cons_zero, List.getElem_cons_succ, List.setIfInBounds_toArray, List.set_cons_zero, List.set_cons_succ])
                refine wpAnyH_take (i := 4) (v := ?_) rfl (by kernel_rfl) (by kernel_rfl) (by kernel_rfl) (fun _ _ _ h => h) (Or.inl ⟨by kernel_rfl, ?_⟩) (by assumption) ?_
                rotate_left 1
                · intro w hSw; (try dsimp only at hSw); go_simp; (try with_reducible rfl)
                (try simp only [Act.put, List.getElem_toArray, List.getElem_cons_zero, List.getElem_cons_succ, List.setIfInBounds_toArray, List.set_cons_zero, List.set_cons_succ])
                refine wpAnyH_take (i := 5) (v := ?_) rfl (by kernel_rfl) (by kernel_rfl) (by kernel_rfl) (fun _ _ _ h => h) (Or.inl ⟨by kernel_rfl, ?_⟩) (by assumption) ?_
                rotate_left 1
                · intro w hSw; (try dsimp only at hSw); go_simp; (try with_reducible rfl)
                (try simp only [Act.put, List.getElem_toArray, List.getElem_cons_zero, List.getElem_cons_succ, List.setIfInBounds_toArray, List.set_cons_zero, List.set_cons_succ])
                refine wpAnyH_take (i := 6) (v := ?_) rfl (by kernel_rfl) (by kernel_rfl) (by kernel_rfl) (fun _ _ _ h => h) (Or.inl ⟨by kernel_rfl, ?_⟩) (by assumption) ?_
                rotate_left 1
                · intro w hSw; (try dsimp only at hSw); go_simp; (try with_reducible rfl)
                (try simp only [Act.put, List.getElem_toArray, List.getElem_cons_zero, List.getElem_cons_succ, List.setIfInBounds_toArray, List.set_cons_zero, List.set_cons_succ])
                refine wpAnyH_take (i := 9) (v := ?_) rfl (by kernel_rfl) (by kernel_rfl) (by kernel_rfl) (fun _ _ _ h => h) (Or.inl ⟨by kernel_rfl, ?_⟩) (by assumption) ?_
                rotate_left 1
                · intro w hSw; (try dsimp only at hSw); go_simp; (try with_reducible rfl)
                (try simp only [Act.put, List.getElem_toArray, List.getElem_cons_zero, List.getElem_cons_succ, List.setIfInBounds_toArray, List.set_cons_zero, List.set_cons_succ])
                refine wpAnyH_take (i := 10) (v := ?_) rfl (by kernel_rfl) (by kernel_rfl) (by kernel_rfl) (fun _ _ _ h => h) (Or.inl ⟨by kernel_rfl, ?_⟩) (by assumption) ?_
                rotate_left 1
                · intro w hSw; (try dsimp only at hSw); go_simp; (try with_reducible rfl)
                (try simp only [Act.put, List.getElem_toArray, List.getElem_cons_zero, List.getElem_cons_succ, List.setIfInBounds_toArray, List.set_cons_zero, List.set_cons_succ])
                refine wpAnyH_take (i := 11) (v := ?_) rfl (by kernel_rfl) (by kernel_rfl) (by kernel_rfl) (fun _ _ _ h => h) (Or.inl ⟨by kernel_rfl, ?_⟩) (by assumption) ?_
                rotate_left 1
                · intro w hSw; (try dsimp only at hSw); go_simp; (try with_reducible rfl)
                (try simp only [Act.put, List.getElem_toArray, List.getElem_cons_zero, List.getElem_cons_succ, List.setIfInBounds_toArray, List.set_cons_zero, List.set_cons_succ])
                refine wpAnyH_ready (rs := [7]) (by kernel_rfl) (by simp) ?_
                refine AllReadyH.cons rfl (fun K hK => ?_) AllReadyH.nil
                rw [if_pos (by kernel_rfl)]
                go_simp
                (try go_simp)
                refine hK.out _ _ ?_ (fun hHeld => ?_)
                · (try dsimp only); (first | exact HM9.out | exact HMS.out _ (below_step B3.out B6.out) | exact HMS.out _ (below_drew1 B3.out) | exact HMS.out _ (below_alloc (below_drew1 B3.out) _) | fail)
                clear hK K
                (try simp only [Act.put, List.getElem_toArray, List.getElem_cons_zero, List.getElem_cons_succ, List.setIfInBounds_toArray, List.set_cons_zero, List.set_cons_succ])
                refine wpAnyH_ready (rs := [8]) (by kernel_rfl) (by simp) ?_
                refine AllReadyH.cons rfl (fun K hK => ?_) AllReadyH.nil
                rw [if_pos (by kernel_rfl)]
                go_simp
                (go_at_call 72; refine calls_let ?_; intro W5 hW5; have B5 := Aside0.mk (show Below w3.heap.size w3 W5 from by rw [hW5]; exact below_alloc (below_drew1 (Below.refl _ _)) _); have BW := Aside0.mk (below_step (below_step MM.out.b B3.out) B5.out); have R5 := Aside0.mk (show Kd.C (Kd.slice 3 (Kd.int .i64)) W5 (some ⟨w3.heap.size, 0, none⟩) 2 [a.1, b.1.drop nn] from lit_rows2 (by rw [hW5]; exact blk_new w3.drew _) rfl H6.out.1 CA.out.1.1 H6.out.2.1 (Kd.C_below CA.out.1.2 BW.out) (H6.out.2.2 _ _ (Kd.C_below CB.out.1.2 BW.out))); clear hW5; refine (slices_Concat.calls (some ⟨w3.heap.size, 0, none⟩) 2 [a.1, b.1.drop nn] _ W5 R5.out (Nat.le_refl _) (if_pos HL.out.1)).mono ?_; rintro e w6 ⟨v6, rfl, ho6, hb6⟩; rw [HFL.out] at ho6; obtain ⟨A7, c7, rfl⟩ := Kd.R_slice ho6; have O6 := Aside0.mk (show Rd w6 A7 c7 word from (Kd.R_reads' ho6).2); have B6 := Aside0.mk (below_step B5.out hb6); clear ho6 hb6 R5 BW B5)
                (try go_simp)
                refine hK.out _ _ ?_ (fun hHeld => ?_)
                · (try dsimp only); (first | exact HM9.out | exact HMS.out _ (below_step B3.out B6.out) | exact HMS.out _ (below_drew1 B3.out) | exact HMS.out _ (below_alloc (below_drew1 B3.out) _) | fail)
                clear hK K
                (try simp only [Act.put, List.getElem_toArray, List.getElem_cons_zero, List.getElem_cons_succ, List.setIfInBounds_toArray, List.set_cons_zero, List.set_cons_succ])
                refine wpAnyH_ready (rs := [12]) (by kernel_rfl) (by simp) ?_
                refine AllReadyH.cons rfl (fun K hK => ?_) AllReadyH.nil
                rw [if_pos (by kernel_rfl)]
                go_simp
                (go_at_call 69; refine calls_let ?_; intro W8 hW8; have B8 := Aside0.mk (show Below w6.heap.size w6 W8 from by rw [hW8]; first | exact Below.refl _ _ | exact below_drew1 (Below.refl _ _)); have M8 := Aside0.mk (((MM.out.below B3.out).below B6.out).below B8.out); have XA8 := Aside0.mk (blk_below (blk_below (blk_below XA.out B3.out) B6.out) B8.out); have XB8 := Aside0.mk (blk_below (blk_below (blk_below XB.out B3.out) B6.out) B8.out); clear hW8; refine (try_calls n l HOK.out (some ad) c w.heap.size A7 c7 word a b A1 A2 A3 A4 c1 c2 c3 c4 0 k W8 (Kd.C_below HR.out M8.out.b) M8.out.m (O6.out.below B8.out) ⟨CA.out.2.1, Kd.C_below CA.out.2.2 M8.out.b⟩ ⟨CB.out.2.1, Kd.C_below CB.out.2.2 M8.out.b⟩ ⟨by have := HLW.out.1; omega, by have := HLW.out.1; have := HOK.out.t5 a HMA.out; omega, HLW.out.1.2.2, by have := HLW.out.1; have := HOK.out.t5 b HMB.out; omega⟩ _ _ rfl rfl ⟨swpd_lets HLW.out.2 (HOK.out.tl a HMA.out), swpd_lets HLW.out.2 (HOK.out.tl b HMB.out)⟩ ⟨by have := HLW.out.1; have := HOK.out.t5 a HMA.out; have := swpd_len word a 0; omega, by have := HLW.out.1; have := HOK.out.t5 b HMB.out; have := swpd_len word b k; omega⟩).mono ?_; rintro e w9 ⟨r, rfl, hj9, hb9, hm9, hk9⟩; have XA9 := Aside0.mk ((hk9 ba (blk_lt XA8.out) ZA.out).trans XA8.out); have XB9 := Aside0.mk ((hk9 bb (blk_lt XB8.out) ZB.out).trans XB8.out); have HM9 := Aside0.mk (show (fun W' => W'.cell? ⟨ba, 0, none⟩ = some (.slice A1 a.1.length c1) ∧ W'.cell? ⟨ba, 1, none⟩ = some (.slice A2 a.2.length c2) ∧ W'.cell? ⟨bb, 0, none⟩ = some (.slice A3 b.1.length c3) ∧ W'.cell? ⟨bb, 1, none⟩ = some (.slice A4 b.2.length c4)) w9 from ⟨(blk_cell XA9.out 0).trans rfl, (blk_cell XA9.out 1).trans rfl, (blk_cell XB9.out 0).trans rfl, (blk_cell XB9.out 1).trans rfl⟩); have J9 := Aside0.mk hj9; have M9 := Aside0.mk (show FkW w w9 (some ad) l.length c from ⟨M8.out.b.trans hb9, hm9⟩); clear hj9 hb9 hm9 hk9)
                (try go_simp)
                refine hK.out _ _ ?_ (fun hHeld => ?_)
                · (try dsimp only); (first | exact HM9.out | exact HMS.out _ (below_step B3.out B6.out) | exact HMS.out _ (below_drew1 B3.out) | exact HMS.out _ (below_alloc (below_drew1 B3.out) _) | fail)
                clear hK K
                (try simp only [Act.put, List.getElem_toArray, List.getElem_cons_zero, List.getElem_cons_succ, List.setIfInBounds_toArray, List.set_cons_zero, List.set_cons_succ])
                refine wpAnyH_take (i := 13) (v := ?_) rfl (by kernel_rfl) (by kernel_rfl) (by kernel_rfl) (fun _ _ _ h => h) (Or.inl ⟨by kernel_rfl, ?_⟩) (by assumption) ?_
                rotate_left 1
                · intro w hSw; (try dsimp only at hSw); go_simp; (try with_reducible rfl)
                (try simp only [Act.put, List.getElem_toArray, List.getElem_cons_zero, List.getElem_cons_succ, List.setIfInBounds_toArray, List.set_cons_zero, List.set_cons_succ])
                refine wpAnyH_done (by kernel_rfl) ?_ _
                cases r with
                | false =>
                  have HN := Aside0.mk (HCR.out (J9.out rfl).1)
                  clear J9
                  go_wp2
                  go_roundg (a.1.length - (k + 1))
                  case measure => omega
                  case rel => exact ⟨k + 1, by omega, by omega, by go_num, M9, XA9, XB9, HN⟩
                | true =>
                  clear J9
                  obtain ⟨K1, l1, j1, n1⟩ := M9.out.m.w
                  obtain ⟨K2, l2, j2, n2⟩ := M9.out.m.u
                  obtain ⟨K3, l3, j3, n3⟩ := M9.out.m.v
                  have q1 : w9.cell? ⟨w.heap.size + 1, 0, none⟩ = some (.slice K1 l1 j1) := (blk_cell n1 0).trans rfl
                  have q2 : w9.cell? ⟨w.heap.size + 1 + 1, 0, none⟩ = some (.slice K2 l2 j2) := (blk_cell n2 0).trans rfl
                  have q3 : w9.cell? ⟨w.heap.size + 1 + 1 + 1, 0, none⟩ = some (.slice K3 l3 j3) := (blk_cell n3 0).trans rfl
                  have f1 := blk_frozen n1 0
                  have f2 := blk_frozen n2 0
                  have f3 := blk_frozen n3 0
                  clear n1 n2 n3
                  go_wp2
                  refine wp_region_held_drew (S := (fun W' => W'.cell? ⟨w.heap.size + 1, 0, none⟩ = some (.slice K1 l1 j1) ∧ W'.cell? ⟨w.heap.size + 1 + 1, 0, none⟩ = some (.slice K2 l2 j2) ∧ W'.cell? ⟨w.heap.size + 1 + 1 + 1, 0, none⟩ = some (.slice K3 l3 j3))) (by kernel_rfl) ?_ (fun hHeld => ?_)
                  · (try dsimp only); (exact ⟨by go_simp, by go_simp, by go_simp⟩)
                  refine wpAnyH_take (i := 0) (v := ?_) rfl (by kernel_rfl) (by kernel_rfl) (by kernel_rfl) (fun _ _ _ h => h) (Or.inl ⟨by kernel_rfl, ?_⟩) (by assumption) ?_
                  rotate_left 1
                  · intro w hSw; (try dsimp only at hSw); go_simp; (try with_reducible rfl)
                  (try simp only [Act.put, List.getElem_toArray, List.getElem_cons_zero, List.getElem_cons_succ, List.setIfInBounds_toArray, List.set_cons_zero, List.set_cons_succ])
                  refine wpAnyH_take (i := 1) (v := ?_) rfl (by kernel_rfl) (by kernel_rfl) (by kernel_rfl) (fun _ _ _ h => h) (Or.inl ⟨by kernel_rfl, ?_⟩) (by assumption) ?_
                  rotate_left 1
                  · intro w hSw; (try dsimp only at hSw); go_simp; (try with_reducible rfl)
                  (try simp only [Act.put, List.getElem_toArray, List.getElem_cons_zero, List.getElem_cons_succ, List.setIfInBounds_toArray, List.set_cons_zero, List.set_cons_succ])
                  refine wpAnyH_take (i := 2) (v := ?_) rfl (by kernel_rfl) (by kernel_rfl) (by kernel_rfl) (fun _ _ _ h => h) (Or.inl ⟨by kernel_rfl, ?_⟩) (by assumption) ?_
                  rotate_left 1
                  · intro w hSw; (try dsimp only at hSw); go_simp; (try with_reducible rfl)
                  (try simp only [Act.put, List.getElem_toArray, List.getElem_cons_zero, List.getElem_cons_succ, List.setIfInBounds_toArray, List.set_cons_zero, List.set_cons_succ])
                  refine wpAnyH_ready (rs := [3]) (by kernel_rfl) (by simp) ?_
                  refine AllReadyH.cons rfl (fun K hK => ?_) AllReadyH.nil
                  rw [if_pos (by kernel_rfl)]
                  go_simp
                  (try go_simp)
                  refine hK.out _ _ ?_ (fun hHeld => ?_)
                  · (try dsimp only); (exact ⟨by go_simp, by go_simp, by go_simp⟩)
                  clear hK K
                  (try simp only [Act.put, List.getElem_toArray, List.getElem_cons_zero, List.getElem_cons_succ, List.setIfInBounds_toArray, List.set_cons_zero, List.set_cons_succ])
                  refine wpAnyH_ready (rs := [4]) (by kernel_rfl) (by simp) ?_
                  refine AllReadyH.cons rfl (fun K hK => ?_) AllReadyH.nil
                  rw [if_pos (by kernel_rfl)]
                  go_simp
                  (try go_simp)
                  refine hK.out _ _ ?_ (fun hHeld => ?_)
                  · (try dsimp only); (exact ⟨by go_simp, by go_simp, by go_simp⟩)
                  clear hK K
                  (try simp only [Act.put, List.getElem_toArray, List.getElem_cons_zero, List.getElem_cons_succ, List.setIfInBounds_toArray, List.set_cons_zero, List.set_cons_succ])
                  refine wpAnyH_ready (rs := [5]) (by kernel_rfl) (by simp) ?_
                  refine AllReadyH.cons rfl (fun K hK => ?_) AllReadyH.nil
                  rw [if_pos (by kernel_rfl)]
                  go_simp
                  (try go_simp)
                  refine hK.out _ _ ?_ (fun hHeld => ?_)
                  · (try dsimp only); (exact ⟨by go_simp, by go_simp, by go_simp⟩)
                  clear hK K
                  (try simp only [Act.put, List.getElem_toArray, List.getElem_cons_zero, List.getElem_cons_succ, List.setIfInBounds_toArray, List.set_cons_zero, List.set_cons_succ])
                  refine wpAnyH_take (i := 6) (v := ?_) rfl (by kernel_rfl) (by kernel_rfl) (by kernel_rfl) (fun _ _ _ h => h) (Or.inl ⟨by kernel_rfl, ?_⟩) (by assumption) ?_
                  rotate_left 1
                  · intro w hSw; (try dsimp only at hSw); go_simp; (try with_reducible rfl)
                  (try simp only [Act.put, List.getElem_toArray, List.getElem_cons_zero, List.getElem_cons_succ, List.setIfInBounds_toArray, List.set_cons_zero, List.set_cons_succ])
                  refine wpAnyH_take (i := 7) (v := ?_) rfl (by kernel_rfl) (by kernel_rfl) (by kernel_rfl) (fun _ _ _ h => h) (Or.inl ⟨by kernel_rfl, ?_⟩) (by assumption) ?_
                  rotate_left 1
                  · intro w hSw; (try dsimp only at hSw); go_simp; (try with_reducible rfl)
                  (try simp only [Act.put, List.getElem_toArray, List.getElem_cons_zero, List.getElem_cons_succ, List.setIfInBounds_toArray, List.set_cons_zero, List.set_cons_succ])
                  refine wpAnyH_done (by kernel_rfl) ?_ _
                  go_wp2
                  refine bodyPost_ret (res5 rfl _ _ (w.heap.size + 1) (w.heap.size + 1 + 1) (w.heap.size + 1 + 1 + 1) (.slice K1 l1 j1) (.slice K2 l2 j2) (.slice K3 l3 j3) rfl rfl rfl (by go_simp) (by go_simp) (by go_simp)) rfl ?_
                  exact ⟨_, _, _, true, rfl, fun h => (by cases h), by repeat (first | exact M9.out.b | refine below_drew1 ?_ | refine below_set ?_ (by omega))⟩
            · have hke : k = a.1.length := by omega
              have HN := Aside0.mk (HNY.out (fun k' hk' => AA.out k' (by omega)))
              clear AA
              go_wp2
              go_roundg (l.length - (j + 1))
              case measure => omega
              case rel => exact ⟨j + 1, by omega, by omega, by go_num, MM, XA, HN⟩
        · have hje : j = l.length := by omega
          have HN := Aside0.mk (HNX.out (fun b hb k hk => by obtain ⟨j', hj', rfl⟩ := List.getElem_of_mem hb; exact AA.out j' hj' (by omega) k hk))
          clear AA
          go_wp2
          go_roundg (l.length - (i + 1))
          case measure => omega
          case rel => exact ⟨i + 1, by omega, by omega, by go_num, MM, HN⟩
    · have hie : i = l.length := by omega
      have HC := Aside0.mk (show Crits l from fun a ha b hb k hk => by obtain ⟨i', hi', rfl⟩ := List.getElem_of_mem ha; exact AA.out i' hi' (by omega) b hb k hk)
      obtain ⟨K1, l1, j1, n1⟩ := MM.out.m.w
      obtain ⟨K2, l2, j2, n2⟩ := MM.out.m.u
      obtain ⟨K3, l3, j3, n3⟩ := MM.out.m.v
      have q1 : wr.cell? ⟨w.heap.size + 1, 0, none⟩ = some (.slice K1 l1 j1) := (blk_cell n1 0).trans rfl
      have q2 : wr.cell? ⟨w.heap.size + 1 + 1, 0, none⟩ = some (.slice K2 l2 j2) := (blk_cell n2 0).trans rfl
      have q3 : wr.cell? ⟨w.heap.size + 1 + 1 + 1, 0, none⟩ = some (.slice K3 l3 j3) := (blk_cell n3 0).trans rfl
      have f1 := blk_frozen n1 0
      have f2 := blk_frozen n2 0
      have f3 := blk_frozen n3 0
      clear AA n1 n2 n3
      go_wp2
      refine bodyPost_ret (res5 rfl _ _ (w.heap.size + 1) (w.heap.size + 1 + 1) (w.heap.size + 1 + 1 + 1) (.slice none 0 0) (.slice none 0 0) (.slice none 0 0) rfl rfl rfl (by go_simp) (by go_simp) (by go_simp)) rfl ?_
      exact ⟨_, _, _, false, rfl, fun _ => HC.out, below_set (below_set (below_set MM.out.b (Nat.le_add_right _ _)) (by omega)) (by omega)⟩
end Go.Proofs.Ytampgoendkjkhaa.H
