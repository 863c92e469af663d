/- The walk of WordRest. -/
import Derived.Test.YtjabncedfjjbjaaNo
import Derived.Test.YtjabncedfjjbjaaPWordRestx
namespace Go.Proofs.Ytjabncedfjjbjaa.H
open Go.RowKit Go.Shelf Go.Proofs.YtjabncedfjjbjaaW.PrintWords Go.Proofs.Ytjabncedfjjbjaa.WrM
set_option linter.unusedVariables false
set_option linter.unusedSimpArgs false
theorem calls_let {P : Program} {f : Nat} {args : Array Value} {W : World} {K : Ending → World → Prop} (h : ∀ W', W' = W → Calls P f args W' K) : Calls P f args W K := h W rfl
/-- what is known of a slice of ints -/
structure Gd (W : World) (A : Option Addr) (n c : Nat) (l : List Int) : Prop where
  len : l.length = n
  le : n ≤ c
  C : Kd.C (Kd.int .i64) W A n l
theorem Gd.below {W W' : World} {A : Option Addr} {n c : Nat} {l : List Int} (h : Gd W A n c l) (hb : Below W.heap.size W W') : Gd W' A n c l := ⟨h.len, h.le, Kd.C_below h.C hb⟩
theorem gd_of_R {W : World} {base : Nat} {ok : Nat → Prop} {v : Value} {l : List Int} (h : Kd.R (Kd.int .i64) 3 W base ok v l) : ∃ A n c, v = .slice A n c ∧ Gd W A n c l := by
  obtain ⟨A, c, rfl⟩ := Kd.R_slice h
  have := Kd.R_reads' h
  exact ⟨A, l.length, c, rfl, rfl, this.2.1, this.2.2⟩
/-- two cells of a block -/
structure Gs (W : World) (b : Nat) (v0 v1 : Value) : Prop where
  c0 : W.cell? ⟨b, 0, none⟩ = some v0
  c1 : W.cell? ⟨b, 1, none⟩ = some v1
  lt : b < W.heap.size
theorem Gs.below {W W' : World} {b : Nat} {v0 v1 : Value} (h : Gs W b v0 v1) (hb : Below W.heap.size W W') : Gs W' b v0 v1 := ⟨pw_cell_below hb h.c0, pw_cell_below hb h.c1, Nat.lt_of_lt_of_le h.lt hb.size⟩

/-! ### Rest, Normal, At in plain words -/
def restF (h l : List Int) (n : Int) : List Int × List Int × Int := if lassoF 4 h l = 0 then (if n < 0 then ([], [], 2) else ((restZ h l n.toNat).1, (restZ h l n.toNat).2, 0)) else ([], [], lassoF 4 h l)
theorem lasso_ok {h l : List Int} (e : lassoF 4 h l = 0) : mayF 4 h = 0 ∧ mayF 4 l = 0 ∧ 0 < l.length := by
  unfold lassoF at e
  split at e
  · rename_i h0
    split at e
    · rename_i h1
      split at e
      · cases e
      · exact ⟨h0, h1, by omega⟩
    · rename_i h1; exact absurd e h1
  · rename_i h0; exact absurd e h0
theorem may_60 {l : List Int} (h : mayF 4 l = 0) : l.length ≤ 60 := by
  unfold mayF at h
  split at h
  · cases h
  · split at h
    · cases h
    · omega
theorem may_mk {l : List Int} (h : l.length ≤ 60) (hx : ∀ x ∈ l, 0 ≤ x ∧ x < 4) : mayF 4 l = 0 := by
  unfold mayF
  rw [if_neg (by omega), if_neg (by omega), if_neg]
  intro ha
  rw [List.any_eq_true] at ha
  obtain ⟨x, hm, hp⟩ := ha
  have := hx x hm
  simp at hp
  omega
theorem may_all {l : List Int} (h : mayF 4 l = 0) : ∀ x ∈ l, 0 ≤ x ∧ x < 4 := by
  intro x hx
  unfold mayF at h
  split at h
  · cases h
  · split at h
    · cases h
    · split at h
      · cases h
      · rename_i hn
        refine Classical.byContradiction fun hc => hn ?_
        rw [List.any_eq_true]
        exact ⟨x, hx, by simp; omega⟩
theorem lasso_mk {h l : List Int} (a : mayF 4 h = 0) (b : mayF 4 l = 0) (c : 0 < l.length) : lassoF 4 h l = 0 := by
  unfold lassoF
  rw [if_pos a, if_pos b, if_neg (by omega)]
theorem lasso_rest {h l : List Int} (e : lassoF 4 h l = 0) (n : Nat) : lassoF 4 (restZ h l n).1 (restZ h l n).2 = 0 := by
  obtain ⟨a, b, c⟩ := lasso_ok e
  obtain ⟨nf, _, l1, l2, f⟩ := rest_spec (h := h) n c
  obtain ⟨g1, g2⟩ := f (fun x => 0 ≤ x ∧ x < 4) (may_all a) (may_all b)
  exact lasso_mk (may_mk (by have := may_60 a; omega) g1) (may_mk (by have := may_60 b; omega) g2) nf.pos
theorem rest_ev (h l : List Int) (n : Int) (hn : n ≤ 9000000000000000000) : PWordRest.word_Rest.f h l n = some (restF h l n) := by
  unfold PWordRest.word_Rest.f restF word_Lasso.f
  simp only [Option.bind_some]
  by_cases e : lassoF 4 h l = 0
  · rw [if_pos e, if_pos e]
    obtain ⟨a, b, c⟩ := lasso_ok e
    have ha := may_60 a
    have hb := may_60 b
    by_cases h0 : n < 0
    · rw [if_pos h0, if_pos h0]
    · rw [if_neg h0, if_neg h0]
      obtain ⟨k, rfl⟩ : ∃ k : Nat, n = k := ⟨n.toNat, by omega⟩
      rw [Int.toNat_natCast]
      unfold restZ
      by_cases h1 : k < h.length
      · rw [if_pos (by omega), if_pos (by omega), if_pos (by omega), if_pos h1]
        unfold word_normal.f
        rw [if_pos ⟨c, by rw [List.length_drop]; omega, by omega⟩]
        rfl
      · have e1 : wrap64 ((k : Int) - (h.length : Int)) = ((k - h.length : Nat) : Int) := by rw [w64 (by omega) (by omega)]; omega
        have e2 : Int.tmod (((k - h.length : Nat) : Int)) (l.length : Int) = (((k - h.length) % l.length : Nat) : Int) := rfl
        have hm := Nat.mod_lt (k - h.length) c
        rw [e1, e2]
        clear e1 e2
        rw [if_neg (by omega), if_neg (by omega), if_pos (by omega), if_pos (by omega), if_neg h1, Int.toNat_natCast]
        unfold slices_Clone_int_int.f word_normal.f
        rw [if_pos (by rw [List.length_drop]; omega)]
        simp only [Option.bind_some]
        rw [if_pos (by rw [List.length_drop, List.length_take]; omega), if_pos ⟨by rw [List.length_append, List.length_drop, List.length_take]; omega, by simp, by rw [List.length_append, List.length_drop, List.length_take]; omega⟩]
        rfl
  · rw [if_neg e, if_neg e]
theorem rest_at (A0 A1 : Option Addr) (n0 n1 c0 c1 : Nat) (h l : List Int) (n : Int) (w : World) (g0 : Gd w A0 n0 c0 h) (g1 : Gd w A1 n1 c1 l) (hn : n ≤ 9000000000000000000) (r0 r1 : List Int) (r2 : Int) (hr : restF h l n = (r0, r1, r2)) :
    Calls Try.prog 16 #[.agg #[.slice A0 n0 c0, .slice A1 n1 c1], .int .i64 n] w fun e w' => ∃ B0 m0 d0 B1 m1 d1, e = .returned (.tuple #[.agg #[.slice B0 m0 d0, .slice B1 m1 d1], .int .i64 r2]) ∧ Gd w' B0 m0 d0 r0 ∧ Gd w' B1 m1 d1 r1 ∧ Below w.heap.size w w' := by
  obtain ⟨rfl, h1, h2⟩ := g0
  obtain ⟨rfl, h3, h4⟩ := g1
  refine (PWordRest.word_Rest.calls A0 c0 h A1 c1 l n r0 r1 r2 w h2 h1 h4 h3 ((rest_ev h l n hn).trans (by rw [hr]))).mono ?_
  rintro e w' ⟨v0, v1, rfl, R0, R1, hb⟩
  obtain ⟨B0, m0, d0, rfl, G0⟩ := gd_of_R R0
  obtain ⟨B1, m1, d1, rfl, G1⟩ := gd_of_R R1
  exact ⟨B0, m0, d0, B1, m1, d1, rfl, G0, G1, hb⟩
theorem normal_at (A0 A1 : Option Addr) (n0 n1 c0 c1 : Nat) (h l : List Int) (w : World) (g0 : Gd w A0 n0 c0 h) (g1 : Gd w A1 n1 c1 l) (e0 : lassoF 4 h l = 0) (r0 r1 : List Int) (hr : normZ h l = (r0, r1)) :
    Calls Try.prog 17 #[.agg #[.slice A0 n0 c0, .slice A1 n1 c1]] w fun e w' => ∃ B0 m0 d0 B1 m1 d1, e = .returned (.tuple #[.agg #[.slice B0 m0 d0, .slice B1 m1 d1], .int .i64 0]) ∧ Gd w' B0 m0 d0 r0 ∧ Gd w' B1 m1 d1 r1 ∧ Below w.heap.size w w' := by
  obtain ⟨rfl, h1, h2⟩ := g0
  obtain ⟨rfl, h3, h4⟩ := g1
  obtain ⟨a, b, c⟩ := lasso_ok e0
  refine (PWordRest.word_Normal.calls A0 c0 h A1 c1 l r0 r1 0 w h2 h1 h4 h3 ?_).mono ?_
  · unfold PWordRest.word_Normal.f word_Lasso.f word_normal.f
    have := may_60 a
    have := may_60 b
    simp only [Option.bind_some]
    rw [if_pos e0, if_pos ⟨c, by omega, by omega⟩, hr]
    rfl
  rintro e w' ⟨v0, v1, rfl, R0, R1, hb⟩
  obtain ⟨B0, m0, d0, rfl, G0⟩ := gd_of_R R0
  obtain ⟨B1, m1, d1, rfl, G1⟩ := gd_of_R R1
  exact ⟨B0, m0, d0, B1, m1, d1, rfl, G0, G1, hb⟩
theorem at_at (A0 A1 : Option Addr) (n0 n1 c0 c1 : Nat) (h l : List Int) (n : Int) (w : World) (g0 : Gd w A0 n0 c0 h) (g1 : Gd w A1 n1 c1 l) (e0 : lassoF 4 h l = 0) (hn : 0 ≤ n) (hn2 : n ≤ 9000000000000000000) (r : Int) (hr : om h l n.toNat = r) :
    Calls Try.prog 18 #[.agg #[.slice A0 n0 c0, .slice A1 n1 c1], .int .i64 n] w fun e w' => e = .returned (.tuple #[.int .i64 r, .int .i64 0]) ∧ Below w.heap.size w w' := by
  obtain ⟨rfl, h1, h2⟩ := g0
  obtain ⟨rfl, h3, h4⟩ := g1
  obtain ⟨a, b, c⟩ := lasso_ok e0
  refine PWordRest.word_At.calls A0 c0 h A1 c1 l n r 0 w h2 h1 h4 h3 ?_
  have ha := may_60 a
  have hb := may_60 b
  obtain ⟨k, rfl⟩ : ∃ k : Nat, n = k := ⟨n.toNat, by omega⟩
  rw [Int.toNat_natCast] at hr
  unfold PWordRest.word_At.f word_Lasso.f PWordRest.word_at.f
  simp only [Option.bind_some]
  rw [if_pos e0, if_neg (by omega)]
  unfold om at hr
  by_cases h1 : k < h.length
  · rw [if_pos h1] at hr
    rw [if_pos (by omega), if_pos (by omega), rd, Int.toNat_natCast, hr]
    rfl
  · rw [if_neg h1] at hr
    have e1 : wrap64 ((k : Int) - (h.length : Int)) = ((k - h.length : Nat) : Int) := by rw [w64 (by omega) (by omega)]; omega
    have e2 : Int.tmod (((k - h.length : Nat) : Int)) (l.length : Int) = (((k - h.length) % l.length : Nat) : Int) := rfl
    have hm := Nat.mod_lt (k - h.length) c
    rw [e1, e2]
    clear e1 e2
    rw [if_neg (by omega), if_neg (by omega), if_pos (by omega), if_pos (by omega), rd, Int.toNat_natCast, hr]
    rfl
theorem same_at (A0 A1 : Option Addr) (n0 n1 c0 c1 : Nat) (x y : List Int) (w : World) (g0 : Gd w A0 n0 c0 x) (g1 : Gd w A1 n1 c1 y) (hl : x.length ≤ 4000) (e : x = y) :
    Calls Try.prog 19 #[.slice A0 n0 c0, .slice A1 n1 c1] w fun e w' => e = .returned (.bool true) ∧ Drawn0 w w' := by
  obtain ⟨rfl, h1, h2⟩ := g0
  obtain ⟨rfl, h3, h4⟩ := g1
  refine evermorekeep_sameWords.calls A0 c0 x A1 c1 y true w h2 h1 h4 h3 ?_
  unfold evermorekeep_sameWords.f wordsEq
  rw [if_pos (by omega)]
  simp [e]
theorem closed_rest : restF [0, 1] [0, 1, 0, 1] 5 = ([], [1, 0], 0) := by decide
theorem gd_lit {W : World} {b n : Nat} {l : List Int} (hn : l.length = n) (hm : n ≤ 100) (h : W.heap[b]? = some (.cells (nums .i64 l).toArray 3 (0, 0))) : Gd W (some ⟨b, 0, none⟩) n n l := by
  subst hn
  have r : Row W b l l.length := ⟨[], by simpa using h, by simp [nums], by unfold maxLen; omega⟩
  exact ⟨rfl, Nat.le_refl _, r.C⟩
theorem gd_nil {W : World} {A : Option Addr} {n c : Nat} (h : Gd W A n c []) : n = 0 := h.len.symm
theorem closed_call (A0 A1 : Option Addr) (c0 c1 : Nat) (h l : List Int) (w : World) :
    Calls Try.prog 16 #[.agg #[.slice (some ⟨w.heap.size + 1, 0, none⟩) 2 2, .slice (some ⟨w.heap.size + 1 + 1, 0, none⟩) 4 4], .int .i64 5] (((w.alloc (.cells #[.slice A0 h.length c0, .slice A1 l.length c1] 34)).alloc (.cells #[.int .i64 0, .int .i64 1] 3)).alloc (.cells #[.int .i64 0, .int .i64 1, .int .i64 0, .int .i64 1] 3)) fun e w1 => ∃ B0 d0 ad d1, e = .returned (.tuple #[.agg #[.slice B0 0 d0, .slice (some ad) 2 d1], .int .i64 0]) ∧ Below w.heap.size w w1 ∧ Gs w1 w.heap.size (.slice A0 h.length c0) (.slice A1 l.length c1) ∧ w1.cell? ad = some (.int .i64 1) ∧ ad.block < w1.heap.size := by
  have s1 : (w.alloc (.cells #[.slice A0 h.length c0, .slice A1 l.length c1] 34)).heap.size = w.heap.size + 1 := by simp
  have s2 : ((w.alloc (.cells #[.slice A0 h.length c0, .slice A1 l.length c1] 34)).alloc (.cells #[.int .i64 0, .int .i64 1] 3)).heap.size = w.heap.size + 1 + 1 := by simp
  have k1 := blk_alloc (blk_new (w.alloc (.cells #[.slice A0 h.length c0, .slice A1 l.length c1] 34)) (.cells #[.int .i64 0, .int .i64 1] 3)) (.cells #[.int .i64 0, .int .i64 1, .int .i64 0, .int .i64 1] 3)
  have k2 := blk_new ((w.alloc (.cells #[.slice A0 h.length c0, .slice A1 l.length c1] 34)).alloc (.cells #[.int .i64 0, .int .i64 1] 3)) (.cells #[.int .i64 0, .int .i64 1, .int .i64 0, .int .i64 1] 3)
  rw [s1] at k1
  rw [s2] at k2
  have gs : Gs (((w.alloc (.cells #[.slice A0 h.length c0, .slice A1 l.length c1] 34)).alloc (.cells #[.int .i64 0, .int .i64 1] 3)).alloc (.cells #[.int .i64 0, .int .i64 1, .int .i64 0, .int .i64 1] 3)) w.heap.size (.slice A0 h.length c0) (.slice A1 l.length c1) := ⟨by go_simp, by go_simp, by simp; try omega⟩
  have g1 : Gd (((w.alloc (.cells #[.slice A0 h.length c0, .slice A1 l.length c1] 34)).alloc (.cells #[.int .i64 0, .int .i64 1] 3)).alloc (.cells #[.int .i64 0, .int .i64 1, .int .i64 0, .int .i64 1] 3)) (some ⟨w.heap.size + 1, 0, none⟩) 2 2 [0, 1] := gd_lit rfl (by omega) k1
  have g2 : Gd (((w.alloc (.cells #[.slice A0 h.length c0, .slice A1 l.length c1] 34)).alloc (.cells #[.int .i64 0, .int .i64 1] 3)).alloc (.cells #[.int .i64 0, .int .i64 1, .int .i64 0, .int .i64 1] 3)) (some ⟨w.heap.size + 1 + 1, 0, none⟩) 4 4 [0, 1, 0, 1] := gd_lit rfl (by omega) k2
  refine (rest_at _ _ 2 4 2 4 [0, 1] [0, 1, 0, 1] 5 _ g1 g2 (by omega) [] [1, 0] 0 closed_rest).mono ?_
  rintro e w1 ⟨B0, m0, d0, B1, m1, d1, rfl, R0, R1, hb1⟩
  obtain rfl : m0 = 0 := R0.len.symm
  obtain rfl : m1 = 2 := R1.len.symm
  obtain ⟨ad, rfl, hone⟩ := Kd.at_int R1.C 0 (by decide) (by decide)
  have hone : w1.cell? ad = some (.int .i64 1) := by simpa [Addr.add, rd] using hone
  exact ⟨_, _, ad, _, rfl, below_step (below_alloc (below_alloc (below_alloc (Below.refl _ _) _) _) _) hb1, gs.below hb1, hone, World.block_lt_of_cell? w1 _ (by rw [hone])⟩
set_option maxHeartbeats 8000000 in
set_option maxRecDepth 100000 in
theorem wr_out (A0 A1 : Option Addr) (c0 c1 : Nat) (h l : List Int) (n m : Int) (w : World) (hout : n < 0 ∨ m < 0 ∨ 1099511627776 < n ∨ 1099511627776 < m) :
    Calls Try.prog 4 #[.agg #[.slice A0 h.length c0, .slice A1 l.length c1], .int .i64 n, .int .i64 m] w fun e w' => e = .returned (.bool true) ∧ Below w.heap.size w w' := by
  have tok1 : True := trivial
  by_cases hn : n < 0
  · have dn : decide (n < 0) = true := decide_eq_true hn
    clear hout hn
    go_enter Try.func4, Try.ntmps4
    go_wp2_with (first | (go_at_call 16; have _t := tok1; (with_reducible refine (closed_call A0 A1 c0 c1 h l w).mono ?_); rintro e w1 ⟨B0, d0, ad, d1, rfl, hb1, ⟨z0, z1, zlt⟩, hone, hlt⟩; have HB1 := Aside0.mk hb1; clear hb1 tok1) | fail)
    repeat (go_quiet (fail); try go_wp2)
    go_ret
    exact ⟨rfl, (by repeat (first | exact HB1.out | exact Below.refl _ _ | apply below_alloc | apply pw_below_drewN | apply below_drew1 | refine below_set ?_ (by first | (simp; done) | (simp; omega))))⟩
  · have dn : decide (n < 0) = false := decide_eq_false hn
    by_cases hm : m < 0
    · have dm : decide (m < 0) = true := decide_eq_true hm
      clear hout hn hm
      go_enter Try.func4, Try.ntmps4
      go_wp2_with (first | (go_at_call 16; have _t := tok1; (with_reducible refine (closed_call A0 A1 c0 c1 h l w).mono ?_); rintro e w1 ⟨B0, d0, ad, d1, rfl, hb1, ⟨z0, z1, zlt⟩, hone, hlt⟩; have HB1 := Aside0.mk hb1; clear hb1 tok1) | fail)
      repeat (go_quiet (fail); try go_wp2)
      go_ret
      exact ⟨rfl, (by repeat (first | exact HB1.out | exact Below.refl _ _ | apply below_alloc | apply pw_below_drewN | apply below_drew1 | refine below_set ?_ (by first | (simp; done) | (simp; omega))))⟩
    · have dm : decide (m < 0) = false := decide_eq_false hm
      by_cases hn2 : 1099511627776 < n
      · have dn2 : decide (1099511627776 < n) = true := decide_eq_true hn2
        clear hout hn hm hn2
        go_enter Try.func4, Try.ntmps4
        go_wp2_with (first | (go_at_call 16; have _t := tok1; (with_reducible refine (closed_call A0 A1 c0 c1 h l w).mono ?_); rintro e w1 ⟨B0, d0, ad, d1, rfl, hb1, ⟨z0, z1, zlt⟩, hone, hlt⟩; have HB1 := Aside0.mk hb1; clear hb1 tok1) | fail)
        repeat (go_quiet (fail); try go_wp2)
        go_ret
        exact ⟨rfl, (by repeat (first | exact HB1.out | exact Below.refl _ _ | apply below_alloc | apply pw_below_drewN | apply below_drew1 | refine below_set ?_ (by first | (simp; done) | (simp; omega))))⟩
      · have dn2 : decide (1099511627776 < n) = false := decide_eq_false hn2
        have dm2 : decide (1099511627776 < m) = true := decide_eq_true (by omega)
        clear hout hn hm hn2
        go_enter Try.func4, Try.ntmps4
        go_wp2_with (first | (go_at_call 16; have _t := tok1; (with_reducible refine (closed_call A0 A1 c0 c1 h l w).mono ?_); rintro e w1 ⟨B0, d0, ad, d1, rfl, hb1, ⟨z0, z1, zlt⟩, hone, hlt⟩; have HB1 := Aside0.mk hb1; clear hb1 tok1) | fail)
        repeat (go_quiet (fail); try go_wp2)
        go_ret
        exact ⟨rfl, (by repeat (first | exact HB1.out | exact Below.refl _ _ | apply below_alloc | apply pw_below_drewN | apply below_drew1 | refine below_set ?_ (by first | (simp; done) | (simp; omega))))⟩
set_option maxHeartbeats 8000000 in
set_option maxRecDepth 100000 in
theorem wr_bad (A0 A1 : Option Addr) (c0 c1 : Nat) (h l : List Int) (n m : Int) (w : World) (G0 : Gd w A0 h.length c0 h) (G1 : Gd w A1 l.length c1 l) (hn0 : 0 ≤ n) (hm0 : 0 ≤ m) (hn1 : n ≤ 1099511627776) (hm1 : m ≤ 1099511627776) (he : lassoF 4 h l ≠ 0) :
    Calls Try.prog 4 #[.agg #[.slice A0 h.length c0, .slice A1 l.length c1], .int .i64 n, .int .i64 m] w fun e w' => e = .returned (.bool true) ∧ Below w.heap.size w w' := by
  have tok1 : True := trivial
  have tok2 : True := trivial
  have dn : decide (n < 0) = false := decide_eq_false (by omega)
  have dm : decide (m < 0) = false := decide_eq_false (by omega)
  have dn2 : decide (1099511627776 < n) = false := decide_eq_false (by omega)
  have dm2 : decide (1099511627776 < m) = false := decide_eq_false (by omega)
  have HRA := Aside0.mk (show restF h l n = ([], [], lassoF 4 h l) by unfold restF; rw [if_neg he])
  generalize lassoF 4 h l = e0 at he HRA
  have de : (e0 != 0) = true := bne_iff_ne.mpr he
  have hn9 := Aside0.mk (show n ≤ 9000000000000000000 by omega)
  have GG := Aside0.mk (And.intro G0 G1)
  clear he G0 G1 hn0 hm0 hn1 hm1
  go_enter Try.func4, Try.ntmps4
  go_wp2_with (first
    | (go_at_call 16; have _t := tok1; (with_reducible refine (closed_call A0 A1 c0 c1 h l w).mono ?_); rintro e w1 ⟨B0, d0, ad, d1, rfl, hb1, ⟨z0, z1, zlt⟩, hone, hlt⟩; have HB1 := Aside0.mk hb1; clear hb1 tok1)
    | (go_at_call 16
       have _t := tok2
       refine calls_let ?_
       intro W2 hW2
       have q2 : Below w.heap.size w W2 := by subst hW2; exact (by repeat (first | exact HB1.out | exact Below.refl _ _ | apply below_alloc | apply pw_below_drewN | apply below_drew1 | refine below_set ?_ (by first | (simp; done) | (simp; omega))))
       clear hW2
       (with_reducible refine (rest_at A0 A1 h.length l.length c0 c1 h l n W2 (GG.out.1.below q2) (GG.out.2.below q2) hn9.out [] [] e0 HRA.out).mono ?_)
       rintro e w2 ⟨Ba0, ma0, da0, Ba1, ma1, da1, rfl, R0, R1, hb2⟩
       have HB2 := Aside0.mk (below_step q2 hb2)
       clear HB1
       have HB1 := HB2
       clear HB2 q2 hb2 R0 R1 tok2)
    | fail)
  repeat (go_quiet (fail); try go_wp2_with (first
    | (go_at_call 16
       have _t := tok2
       refine calls_let ?_
       intro W2 hW2
       have q2 : Below w.heap.size w W2 := by subst hW2; exact (by repeat (first | exact HB1.out | exact Below.refl _ _ | apply below_alloc | apply pw_below_drewN | apply below_drew1 | refine below_set ?_ (by first | (simp; done) | (simp; omega))))
       clear hW2
       (with_reducible refine (rest_at A0 A1 h.length l.length c0 c1 h l n W2 (GG.out.1.below q2) (GG.out.2.below q2) hn9.out [] [] e0 HRA.out).mono ?_)
       rintro e w2 ⟨Ba0, ma0, da0, Ba1, ma1, da1, rfl, R0, R1, hb2⟩
       have HB2 := Aside0.mk (below_step q2 hb2)
       clear HB1
       have HB1 := HB2
       clear HB2 q2 hb2 R0 R1 tok2)
    | fail))
  go_ret
  exact ⟨rfl, (by repeat (first | exact HB1.out | exact Below.refl _ _ | apply below_alloc | apply pw_below_drewN | apply below_drew1 | refine below_set ?_ (by first | (simp; done) | (simp; omega))))⟩
set_option maxHeartbeats 16000000 in
set_option maxRecDepth 100000 in
theorem wr_main (A0 A1 : Option Addr) (c0 c1 : Nat) (h l : List Int) (n m : Int) (w : World) (G0 : Gd w A0 h.length c0 h) (G1 : Gd w A1 l.length c1 l) (hn0 : 0 ≤ n) (hm0 : 0 ≤ m) (hn1 : n ≤ 1099511627776) (hm1 : m ≤ 1099511627776) (he : lassoF 4 h l = 0) :
    Calls Try.prog 4 #[.agg #[.slice A0 h.length c0, .slice A1 l.length c1], .int .i64 n, .int .i64 m] w fun e w' => e = .returned (.bool true) ∧ Below w.heap.size w w' := by
  have tok1 : True := trivial
  have tok2 : True := trivial
  have tok3 : True := trivial
  have tok4 : True := trivial
  have tok5 : True := trivial
  have tok6 : True := trivial
  have tok7 : True := trivial
  have dn : decide (n < 0) = false := decide_eq_false (by omega)
  have dm : decide (m < 0) = false := decide_eq_false (by omega)
  have dn2 : decide (1099511627776 < n) = false := decide_eq_false (by omega)
  have dm2 : decide (1099511627776 < m) = false := decide_eq_false (by omega)
  obtain ⟨s, hs⟩ : ∃ s : Int, n + m = s := ⟨_, rfl⟩
  have hsw : IntKind.i64.wrap (n + m) = s := by rw [IntKind.wrap_i64]; omega
  have hn9 := Aside0.mk (show n ≤ 9000000000000000000 ∧ m ≤ 9000000000000000000 ∧ 0 ≤ s ∧ s ≤ 9000000000000000000 from ⟨by omega, by omega, by omega, by omega⟩)
  obtain ⟨_, _, hlp⟩ := lasso_ok he
  obtain ⟨a0, a1, ha⟩ : ∃ a0 a1, restZ h l n.toNat = (a0, a1) := ⟨_, _, rfl⟩
  obtain ⟨t0, t1, hz⟩ : ∃ t0 t1, restZ h l s.toNat = (t0, t1) := ⟨_, _, rfl⟩
  have hta : restZ a0 a1 m.toNat = (t0, t1) := by
    have := rest_rest (h := h) n.toNat m.toNat hlp
    rw [ha] at this
    rw [← hz, ← hs, this]
    congr 1; omega
  have htn : normZ t0 t1 = (t0, t1) := by
    have := norm_rest (h := h) s.toNat hlp
    rwa [hz] at this
  have hea : lassoF 4 a0 a1 = 0 := by have := lasso_rest he n.toNat; rwa [ha] at this
  have hez : lassoF 4 t0 t1 = 0 := by have := lasso_rest he s.toNat; rwa [hz] at this
  obtain ⟨v, hv⟩ : ∃ v, om h l s.toNat = v := ⟨_, rfl⟩
  have hvz : om t0 t1 (0 : Int).toNat = v := by
    have := (rest_spec (h := h) s.toNat hlp).2.1 0
    rw [hz] at this
    rw [← hv]
    exact this
  have HRA := Aside0.mk (show restF h l n = (a0, a1, 0) by unfold restF; rw [if_pos he, if_neg (by omega), ha])
  have HRB := Aside0.mk (show restF a0 a1 m = (t0, t1, 0) by unfold restF; rw [if_pos hea, if_neg (by omega), hta])
  have HRC := Aside0.mk (show restF h l s = (t0, t1, 0) by unfold restF; rw [if_pos he, if_neg (by omega), hz])
  have HEZ := Aside0.mk hez
  have HE := Aside0.mk he
  have HZN := Aside0.mk htn
  have HV := Aside0.mk (And.intro hv hvz)
  have HL0 := Aside0.mk (show t0.length ≤ 4000 ∧ t1.length ≤ 4000 from ⟨by have := may_60 (lasso_ok hez).1; omega, by have := may_60 (lasso_ok hez).2.1; omega⟩)
  have GG := Aside0.mk (And.intro G0 G1)
  clear he G0 G1 hn0 hm0 hn1 hm1 hs hz hta htn hea hez hv hvz hlp ha
  go_enter Try.func4, Try.ntmps4
  go_wp2_with (first
    | (go_at_call 16; have _t := tok1; (with_reducible refine (closed_call A0 A1 c0 c1 h l w).mono ?_); rintro e w1 ⟨B0, d0, ad, d1, rfl, hb1, ⟨z0, z1, zlt⟩, hone, hlt⟩; have HB1 := Aside0.mk hb1; clear hb1 tok1)
    | (go_at_call 16
       have _t := tok2
       refine calls_let ?_
       intro W2 hW2
       have q2 : Below w.heap.size w W2 ∧ Gs W2 w.heap.size (.slice A0 h.length c0) (.slice A1 l.length c1) := by subst hW2; exact ⟨(by repeat (first | exact HB1.out | exact Below.refl _ _ | apply below_alloc | apply pw_below_drewN | apply below_drew1 | refine below_set ?_ (by first | (simp; done) | (simp; omega)))), ⟨by go_simp, by go_simp, by simp; try omega⟩⟩
       clear hW2
       (with_reducible refine (rest_at A0 A1 h.length l.length c0 c1 h l n W2 (GG.out.1.below q2.1) (GG.out.2.below q2.1) hn9.out.1 a0 a1 0 HRA.out).mono ?_)
       rintro e w2 ⟨Ba0, ma0, da0, Ba1, ma1, da1, rfl, R0, R1, hb2⟩
       have GA := Aside0.mk (And.intro R0 R1)
       clear HB1
       have HB1 := Aside0.mk (below_step q2.1 hb2)
       clear z0 z1 zlt hone hlt
       obtain ⟨z0, z1, zlt⟩ := q2.2.below hb2
       clear q2 hb2 R0 R1 tok2)
    | (go_at_call 16
       have _t := tok3
       refine calls_let ?_
       intro W3 hW3
       have q3 : Below w.heap.size w W3 ∧ Below w2.heap.size w2 W3 ∧ Gs W3 w.heap.size (.slice A0 h.length c0) (.slice A1 l.length c1) := by subst hW3; exact ⟨(by repeat (first | exact HB1.out | exact Below.refl _ _ | apply below_alloc | apply pw_below_drewN | apply below_drew1 | refine below_set ?_ (by first | (simp; done) | (simp; omega)))), (by repeat (first | exact Below.refl _ _ | apply below_alloc | apply pw_below_drewN | apply below_drew1 | refine below_set ?_ (by first | (simp; done) | (simp; omega)))), ⟨by go_simp, by go_simp, by simp; try omega⟩⟩
       clear hW3
       (with_reducible refine (rest_at Ba0 Ba1 ma0 ma1 da0 da1 a0 a1 m W3 (GA.out.1.below q3.2.1) (GA.out.2.below q3.2.1) hn9.out.2.1 t0 t1 0 HRB.out).mono ?_)
       rintro e w3 ⟨Bb0, mb0, db0, Bb1, mb1, db1, rfl, R0, R1, hb3⟩
       have GB := Aside0.mk (And.intro R0 R1)
       clear HB1
       have HB1 := Aside0.mk (below_step q3.1 hb3)
       clear z0 z1 zlt
       obtain ⟨z0, z1, zlt⟩ := q3.2.2.below hb3
       clear q3 hb3 R0 R1 tok3 GA)
    | (go_at_call 16
       have _t := tok4
       refine calls_let ?_
       intro W4 hW4
       have q4 : Below w.heap.size w W4 ∧ Below w3.heap.size w3 W4 ∧ Gs W4 w.heap.size (.slice A0 h.length c0) (.slice A1 l.length c1) ∧ Gs W4 w3.heap.size (.slice Bb0 mb0 db0) (.slice Bb1 mb1 db1) := by subst hW4; exact ⟨(by repeat (first | exact HB1.out | exact Below.refl _ _ | apply below_alloc | apply pw_below_drewN | apply below_drew1 | refine below_set ?_ (by first | (simp; done) | (simp; omega)))), (by repeat (first | exact Below.refl _ _ | apply below_alloc | apply pw_below_drewN | apply below_drew1 | refine below_set ?_ (by first | (simp; done) | (simp; omega)))), ⟨by go_simp, by go_simp, by simp; try omega⟩, ⟨by go_simp, by go_simp, by simp; try omega⟩⟩
       clear hW4
       (with_reducible refine (rest_at A0 A1 h.length l.length c0 c1 h l s W4 (GG.out.1.below q4.1) (GG.out.2.below q4.1) hn9.out.2.2.2 t0 t1 0 HRC.out).mono ?_)
       rintro e w4 ⟨Bc0, mc0, dc0, Bc1, mc1, dc1, rfl, R0, R1, hb4⟩
       have GC := Aside0.mk (And.intro R0 R1)
       clear HB1
       have HB1 := Aside0.mk (below_step q4.1 hb4)
       clear z0 z1 zlt
       obtain ⟨z0, z1, zlt⟩ := q4.2.2.1.below hb4
       obtain ⟨y0, y1, ylt⟩ := q4.2.2.2.below hb4
       have GB2 := Aside0.mk (And.intro (GB.out.1.below (below_step q4.2.1 hb4)) (GB.out.2.below (below_step q4.2.1 hb4)))
       clear q4 hb4 R0 R1 tok4 GB)
    | (go_at_call 17
       refine calls_let ?_
       intro W5 hW5
       have q5 : Below w.heap.size w W5 ∧ Below w4.heap.size w4 W5 ∧ Gs W5 w.heap.size (.slice A0 h.length c0) (.slice A1 l.length c1) ∧ Gs W5 w3.heap.size (.slice Bb0 mb0 db0) (.slice Bb1 mb1 db1) ∧ Gs W5 w4.heap.size (.slice Bc0 mc0 dc0) (.slice Bc1 mc1 dc1) := by subst hW5; exact ⟨(by repeat (first | exact HB1.out | exact Below.refl _ _ | apply below_alloc | apply pw_below_drewN | apply below_drew1 | refine below_set ?_ (by first | (simp; done) | (simp; omega)))), (by repeat (first | exact Below.refl _ _ | apply below_alloc | apply pw_below_drewN | apply below_drew1 | refine below_set ?_ (by first | (simp; done) | (simp; omega)))), ⟨by go_simp, by go_simp, by simp; try omega⟩, ⟨by go_simp, by go_simp, by simp; try omega⟩, ⟨by go_simp, by go_simp, by simp; try omega⟩⟩
       clear hW5
       (with_reducible refine (normal_at Bc0 Bc1 mc0 mc1 dc0 dc1 t0 t1 W5 (GC.out.1.below q5.2.1) (GC.out.2.below q5.2.1) HEZ.out t0 t1 HZN.out).mono ?_)
       rintro e w5 ⟨Bd0, md0, dd0, Bd1, md1, dd1, rfl, R0, R1, hb5⟩
       have GD := Aside0.mk (And.intro R0 R1)
       clear HB1
       have HB1 := Aside0.mk (below_step q5.1 hb5)
       clear z0 z1 zlt y0 y1 ylt
       obtain ⟨z0, z1, zlt⟩ := q5.2.2.1.below hb5
       obtain ⟨y0, y1, ylt⟩ := q5.2.2.2.1.below hb5
       obtain ⟨x0, x1, xlt⟩ := q5.2.2.2.2.below hb5
       have GB3 := Aside0.mk (And.intro (GB2.out.1.below (below_step q5.2.1 hb5)) (GB2.out.2.below (below_step q5.2.1 hb5)))
       have GC3 := Aside0.mk (And.intro (GC.out.1.below (below_step q5.2.1 hb5)) (GC.out.2.below (below_step q5.2.1 hb5)))
       clear q5 hb5 R0 R1 GB2 GC)
    | (go_at_call 18
       have _t := tok6
       refine calls_let ?_
       intro W6 hW6
       have q6 : Below w.heap.size w W6 ∧ Below w5.heap.size w5 W6 ∧ Gs W6 w.heap.size (.slice A0 h.length c0) (.slice A1 l.length c1) ∧ Gs W6 w3.heap.size (.slice Bb0 mb0 db0) (.slice Bb1 mb1 db1) ∧ Gs W6 w4.heap.size (.slice Bc0 mc0 dc0) (.slice Bc1 mc1 dc1) ∧ Gs W6 w5.heap.size (.slice Bd0 md0 dd0) (.slice Bd1 md1 dd1) := by subst hW6; exact ⟨(by repeat (first | exact HB1.out | exact Below.refl _ _ | apply below_alloc | apply pw_below_drewN | apply below_drew1 | refine below_set ?_ (by first | (simp; done) | (simp; omega)))), (by repeat (first | exact Below.refl _ _ | apply below_alloc | apply pw_below_drewN | apply below_drew1 | refine below_set ?_ (by first | (simp; done) | (simp; omega)))), ⟨by go_simp, by go_simp, by simp; try omega⟩, ⟨by go_simp, by go_simp, by simp; try omega⟩, ⟨by go_simp, by go_simp, by simp; try omega⟩, ⟨by go_simp, by go_simp, by simp; try omega⟩⟩
       clear hW6
       (with_reducible refine (at_at A0 A1 h.length l.length c0 c1 h l s W6 (GG.out.1.below q6.1) (GG.out.2.below q6.1) HE.out hn9.out.2.2.1 hn9.out.2.2.2 v HV.out.1).mono ?_)
       rintro e w6 ⟨rfl, hb6⟩
       clear HB1
       have HB1 := Aside0.mk (below_step q6.1 hb6)
       clear z0 z1 zlt y0 y1 ylt x0 x1 xlt
       obtain ⟨y0, y1, ylt⟩ := q6.2.2.2.1.below hb6
       obtain ⟨x0, x1, xlt⟩ := q6.2.2.2.2.1.below hb6
       obtain ⟨v0, v1, vlt⟩ := q6.2.2.2.2.2.below hb6
       have GB4 := Aside0.mk (And.intro (GB3.out.1.below (below_step q6.2.1 hb6)) (GB3.out.2.below (below_step q6.2.1 hb6)))
       have GC4 := Aside0.mk (And.intro (GC3.out.1.below (below_step q6.2.1 hb6)) (GC3.out.2.below (below_step q6.2.1 hb6)))
       have GD4 := Aside0.mk (And.intro (GD.out.1.below (below_step q6.2.1 hb6)) (GD.out.2.below (below_step q6.2.1 hb6)))
       clear q6 hb6 GB3 GC3 GD tok6)
    | (go_at_call 18
       have _t := tok7
       (with_reducible refine (at_at Bb0 Bb1 mb0 mb1 db0 db1 t0 t1 0 w6 GB4.out.1 GB4.out.2 HEZ.out (by omega) (by omega) v HV.out.2).mono ?_)
       rintro e w7 ⟨rfl, hb7⟩
       have q7 : Gs w7 w3.heap.size (.slice Bb0 mb0 db0) (.slice Bb1 mb1 db1) ∧ Gs w7 w4.heap.size (.slice Bc0 mc0 dc0) (.slice Bc1 mc1 dc1) ∧ Gs w7 w5.heap.size (.slice Bd0 md0 dd0) (.slice Bd1 md1 dd1) := ⟨Gs.below ⟨y0, y1, ylt⟩ hb7, Gs.below ⟨x0, x1, xlt⟩ hb7, Gs.below ⟨v0, v1, vlt⟩ hb7⟩
       have HB2 := Aside0.mk (below_step HB1.out hb7)
       clear HB1
       have HB1 := HB2
       clear HB2 y0 y1 ylt x0 x1 xlt v0 v1 vlt
       obtain ⟨y0, y1, ylt⟩ := q7.1
       obtain ⟨x0, x1, xlt⟩ := q7.2.1
       obtain ⟨v0, v1, vlt⟩ := q7.2.2
       have GB5 := Aside0.mk (And.intro (GB4.out.1.below hb7) (GB4.out.2.below hb7))
       have GC5 := Aside0.mk (And.intro (GC4.out.1.below hb7) (GC4.out.2.below hb7))
       have GD5 := Aside0.mk (And.intro (GD4.out.1.below hb7) (GD4.out.2.below hb7))
       clear q7 hb7 GB4 GC4 GD4 tok7)
    | (go_at_call 19
       (with_reducible refine (same_at Bb0 Bc0 mb0 mc0 db0 dc0 t0 t0 _ ?sa ?sb HL0.out.1 rfl).mono ?_)
       (case sa => exact Gd.below GB5.out.1 (by repeat (first | exact Below.refl _ _ | apply pw_below_drewN)))
       (case sb => exact Gd.below GC5.out.1 (by repeat (first | exact Below.refl _ _ | apply pw_below_drewN)))
       rintro e w9 ⟨rfl, ⟨nd, rfl⟩⟩)
    | (go_at_call 19
       (with_reducible refine (same_at Bb1 Bc1 mb1 mc1 db1 dc1 t1 t1 _ ?sa ?sb HL0.out.2 rfl).mono ?_)
       (case sa => exact Gd.below GB5.out.2 (by repeat (first | exact Below.refl _ _ | apply pw_below_drewN)))
       (case sb => exact Gd.below GC5.out.2 (by repeat (first | exact Below.refl _ _ | apply pw_below_drewN)))
       rintro e w9 ⟨rfl, ⟨nd, rfl⟩⟩)
    | (go_at_call 19
       (with_reducible refine (same_at Bd0 Bc0 md0 mc0 dd0 dc0 t0 t0 _ ?sa ?sb HL0.out.1 rfl).mono ?_)
       (case sa => exact Gd.below GD5.out.1 (by repeat (first | exact Below.refl _ _ | apply pw_below_drewN)))
       (case sb => exact Gd.below GC5.out.1 (by repeat (first | exact Below.refl _ _ | apply pw_below_drewN)))
       rintro e w9 ⟨rfl, ⟨nd, rfl⟩⟩)
    | (go_at_call 19
       (with_reducible refine (same_at Bd1 Bc1 md1 mc1 dd1 dc1 t1 t1 _ ?sa ?sb HL0.out.2 rfl).mono ?_)
       (case sa => exact Gd.below GD5.out.2 (by repeat (first | exact Below.refl _ _ | apply pw_below_drewN)))
       (case sb => exact Gd.below GC5.out.2 (by repeat (first | exact Below.refl _ _ | apply pw_below_drewN)))
       rintro e w9 ⟨rfl, ⟨nd, rfl⟩⟩)
    | fail)
  repeat (go_quiet (fail); try go_wp2)
  go_ret
  exact ⟨rfl, (by repeat (first | exact HB1.out | exact Below.refl _ _ | apply below_alloc | apply pw_below_drewN | apply below_drew1 | refine below_set ?_ (by first | (simp; done) | (simp; omega))))⟩
/-- the walk, whatever the arguments -/
theorem wr_calls (A0 A1 : Option Addr) (c0 c1 : Nat) (h l : List Int) (n m : Int) (w : World) (G0 : Gd w A0 h.length c0 h) (G1 : Gd w A1 l.length c1 l) :
    Calls Try.prog 4 #[.agg #[.slice A0 h.length c0, .slice A1 l.length c1], .int .i64 n, .int .i64 m] w fun e w' => e = .returned (.bool true) ∧ Below w.heap.size w w' := by
  by_cases hout : n < 0 ∨ m < 0 ∨ 1099511627776 < n ∨ 1099511627776 < m
  · exact wr_out A0 A1 c0 c1 h l n m w hout
  · by_cases he : lassoF 4 h l = 0
    · exact wr_main A0 A1 c0 c1 h l n m w G0 G1 (by omega) (by omega) (by omega) (by omega) he
    · exact wr_bad A0 A1 c0 c1 h l n m w G0 G1 (by omega) (by omega) (by omega) (by omega) he
end Go.Proofs.Ytjabncedfjjbjaa.H
