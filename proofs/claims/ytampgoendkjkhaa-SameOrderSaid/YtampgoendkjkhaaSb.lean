/- same.order, same.Check. -/
import Derived.Test.YtampgoendkjkhaaSa
import Derived.Deep.RegionLaw
import Derived.Deep.RegionHeld3
import Derived.BigQuiet
namespace Go.Proofs.Ytampgoendkjkhaa.H
open Go.RowKit Go.Shelf Go.Proofs.YtampgoendkjkhaaW.PrintWords Go.Proofs.YtampgoendkjkhaaW.PrintMore
set_option linter.unusedVariables false
set_option linter.unusedSimpArgs false
def cI (x y : Int) : Int := if x < y then -1 else if y < x then 1 else 0
theorem nan_calls (x : Int) (w : World) : Calls Try.prog 172 #[.int .i64 x] w fun e w' => e = .returned (.bool false) ∧ w = w' := by
  have hx : (x != x) = false := by simp
  go_enter Try.func172, Try.ntmps172
  go_wp2
  go_ret
  exact ⟨rfl, rfl⟩
set_option maxRecDepth 100000 in
theorem cmp_calls (x y : Int) (w : World) : Calls Try.prog 110 #[.int .i64 x, .int .i64 y] w fun e w' => e = .returned (.int .i64 (cI x y)) ∧ w = w' := by
  by_cases h1 : x < y
  · have HC := Aside0.mk (show cI x y = -1 from by unfold cI; rw [if_pos h1])
    go_enter Try.func110, Try.ntmps110
    go_wp2_with (first | (go_at_call 172; refine (nan_calls _ _).mono ?_; rintro e w' ⟨rfl, rfl⟩) | fail)
    go_ret
    exact ⟨by rw [HC.out]; rfl, rfl⟩
  · by_cases h2 : y < x
    · have HC := Aside0.mk (show cI x y = 1 from by unfold cI; rw [if_neg h1, if_pos h2])
      go_enter Try.func110, Try.ntmps110
      go_wp2_with (first | (go_at_call 172; refine (nan_calls _ _).mono ?_; rintro e w' ⟨rfl, rfl⟩) | fail)
      go_ret
      exact ⟨by rw [HC.out]; rfl, rfl⟩
    · have HC := Aside0.mk (show cI x y = 0 from by unfold cI; rw [if_neg h1, if_neg h2])
      go_enter Try.func110, Try.ntmps110
      go_wp2_with (first | (go_at_call 172; refine (nan_calls _ _).mono ?_; rintro e w' ⟨rfl, rfl⟩) | fail)
      go_ret
      exact ⟨by rw [HC.out]; rfl, rfl⟩
def orF : List Int → Int
  | [] => 0
  | x :: l => if x ≠ 0 then x else orF l
theorem or_calls (l : List Int) (A : Option Addr) (c : Nat) (w : World) (hr : Kd.C (Kd.int .i64) w A l.length l) : Calls Try.prog 187 #[.slice A l.length c] w fun e w' => e = .returned (.int .i64 (orF l)) ∧ w = w' := by
  have HR := Aside0.mk hr
  have hbig := hr.2.1
  clear hr
  go_enter Try.func187, Try.ntmps187
  go_wp2
  go_loopg [8] l.length (fun gg s8 wr => ∃ i : Nat, i ≤ l.length ∧ l.length - i ≤ gg ∧ s8 = .int .i64 (i : Int) ∧ w = wr ∧ Aside0 (orF (l.drop i) = orF l))
  case atStart => exact ⟨0, Nat.zero_le _, by omega, rfl, rfl, ⟨rfl⟩⟩
  case round =>
    obtain ⟨i, hi, hgg, rfl, rfl, HF⟩ := hrel
    by_cases hlt : i < l.length
    · have hltz : (i : Int) < (l.length : Int) := by omega
      obtain ⟨ad, rfl, hc⟩ := int_get HR.out rfl hlt
      have HD := Aside0.mk (show orF (l.drop i) = if l[i] ≠ 0 then l[i] else orF (l.drop (i + 1)) from by rw [List.drop_eq_getElem_cons hlt]; rfl)
      generalize l[i] = x at hc HD
      cases h0 : (x != 0) with
      | true =>
        have HZ := Aside0.mk (show x = orF l from by rw [← HF.out, HD.out, if_pos (by simpa using h0)])
        go_wp2
        go_ret
        exact ⟨by rw [← HZ.out]; rfl, rfl⟩
      | false =>
        have HZ := Aside0.mk (show orF (l.drop (i + 1)) = orF l from by rw [← HF.out, HD.out, if_neg (by simpa using h0)])
        go_wp2
        go_roundg (l.length - (i + 1))
        case measure => omega
        case rel => exact ⟨i + 1, by omega, by omega, by go_num, rfl, HZ⟩
    · have hie : i = l.length := by omega
      subst hie
      have HZ := Aside0.mk (show orF l = 0 from by rw [← HF.out, List.drop_length]; rfl)
      go_wp2
      go_ret
      exact ⟨by rw [HZ.out]; rfl, rfl⟩
def ordI (x y : Arw) : Int := orF [cI x.1 y.1, cI x.2.1 y.2.1, cI x.2.2 y.2.2]
theorem lit_C3 {W : World} {b : Nat} {x y z : Int} (h : W.cell? ⟨b, 0, none⟩ = some (.int .i64 x)) (h' : W.cell? ⟨b, 1, none⟩ = some (.int .i64 y)) (h2 : W.cell? ⟨b, 2, none⟩ = some (.int .i64 z)) : Kd.C (Kd.int .i64) W (some ⟨b, 0, none⟩) 3 [x, y, z] := by
  refine ⟨rfl, by decide, fun _ => ⟨_, rfl, fun j p hj => ?_⟩⟩
  match j, hj with
  | 0, hj =>
    obtain rfl : x = p := by simpa using hj
    refine ⟨[.int .i64 x], rfl, rfl, fun i u hu => ?_⟩
    match i, hu with
    | 0, hu =>
      obtain rfl : Value.int .i64 x = u := by simpa using hu
      simpa [Addr.add] using h
  | 1, hj =>
    obtain rfl : y = p := by simpa using hj
    refine ⟨[.int .i64 y], rfl, rfl, fun i u hu => ?_⟩
    match i, hu with
    | 0, hu =>
      obtain rfl : Value.int .i64 y = u := by simpa using hu
      simpa [Addr.add, show (Kd.int .i64).sz = 1 from rfl] using h'
  | 2, hj =>
    obtain rfl : z = p := by simpa using hj
    refine ⟨[.int .i64 z], rfl, rfl, fun i u hu => ?_⟩
    match i, hu with
    | 0, hu =>
      obtain rfl : Value.int .i64 z = u := by simpa using hu
      simpa [Addr.add, show (Kd.int .i64).sz = 1 from rfl] using h2
set_option maxHeartbeats 8000000 in
set_option maxRecDepth 100000 in
theorem order_calls (x0 x1 x2 y0 y1 y2 : Int) (w : World) : Calls Try.prog 135 #[.agg #[.int .i64 x0, .int .i64 x1, .int .i64 x2], .agg #[.int .i64 y0, .int .i64 y1, .int .i64 y2]] w fun e w' => e = .returned (.int .i64 (ordI (x0, x1, x2) (y0, y1, y2))) ∧ Below w.heap.size w w' := by
  have HB := Aside0.mk (below_alloc (below_alloc (Below.refl w.heap.size w) (.cells #[.int .i64 x0, .int .i64 x1, .int .i64 x2] 78)) (.cells #[.int .i64 y0, .int .i64 y1, .int .i64 y2] 78))
  have X := Aside0.mk (show ((w.alloc (.cells #[.int .i64 x0, .int .i64 x1, .int .i64 x2] 78)).alloc (.cells #[.int .i64 y0, .int .i64 y1, .int .i64 y2] 78)).heap[w.heap.size]? = some (.cells #[.int .i64 x0, .int .i64 x1, .int .i64 x2] 78 (0, 0)) from blk_alloc (blk_new w _) _)
  have Y := Aside0.mk (show ((w.alloc (.cells #[.int .i64 x0, .int .i64 x1, .int .i64 x2] 78)).alloc (.cells #[.int .i64 y0, .int .i64 y1, .int .i64 y2] 78)).heap[w.heap.size + 1]? = some (.cells #[.int .i64 y0, .int .i64 y1, .int .i64 y2] 78 (0, 0)) from blk_newn _ _ _ (by simp))
  go_enter Try.func135, Try.ntmps135
  go_wp2
  generalize (w.alloc (.cells #[.int .i64 x0, .int .i64 x1, .int .i64 x2] 78)).alloc (.cells #[.int .i64 y0, .int .i64 y1, .int .i64 y2] 78) = W at HB X Y ⊢
  have p0 : W.cell? ⟨w.heap.size, 0, none⟩ = some (.int .i64 x0) := (blk_cell X.out 0).trans rfl
  have p1 : W.cell? ⟨w.heap.size, 1, none⟩ = some (.int .i64 x1) := (blk_cell X.out 1).trans rfl
  have p2 : W.cell? ⟨w.heap.size, 2, none⟩ = some (.int .i64 x2) := (blk_cell X.out 2).trans rfl
  have q0 : W.cell? ⟨w.heap.size + 1, 0, none⟩ = some (.int .i64 y0) := (blk_cell Y.out 0).trans rfl
  have q1 : W.cell? ⟨w.heap.size + 1, 1, none⟩ = some (.int .i64 y1) := (blk_cell Y.out 1).trans rfl
  have q2 : W.cell? ⟨w.heap.size + 1, 2, none⟩ = some (.int .i64 y2) := (blk_cell Y.out 2).trans rfl
  have HMS := Aside0.mk (show ∀ W', Below W.heap.size W W' → (Below W.heap.size W W' ∧ W'.cell? ⟨w.heap.size, 0, none⟩ = some (.int .i64 x0) ∧ W'.cell? ⟨w.heap.size, 1, none⟩ = some (.int .i64 x1) ∧ W'.cell? ⟨w.heap.size, 2, none⟩ = some (.int .i64 x2) ∧ W'.cell? ⟨w.heap.size + 1, 0, none⟩ = some (.int .i64 y0) ∧ W'.cell? ⟨w.heap.size + 1, 1, none⟩ = some (.int .i64 y1) ∧ W'.cell? ⟨w.heap.size + 1, 2, none⟩ = some (.int .i64 y2)) from fun W' hb => ⟨hb, pw_cell_below hb p0, pw_cell_below hb p1, pw_cell_below hb p2, pw_cell_below hb q0, pw_cell_below hb q1, pw_cell_below hb q2⟩)
  go_region_held3 (fun W' => Below W.heap.size W W' ∧ W'.cell? ⟨w.heap.size, 0, none⟩ = some (.int .i64 x0) ∧ W'.cell? ⟨w.heap.size, 1, none⟩ = some (.int .i64 x1) ∧ W'.cell? ⟨w.heap.size, 2, none⟩ = some (.int .i64 x2) ∧ W'.cell? ⟨w.heap.size + 1, 0, none⟩ = some (.int .i64 y0) ∧ W'.cell? ⟨w.heap.size + 1, 1, none⟩ = some (.int .i64 y1) ∧ W'.cell? ⟨w.heap.size + 1, 2, none⟩ = some (.int .i64 y2))
    (first
      | exact HMS.out _ (by repeat (first | exact Below.refl _ _ | (go_split_ands; assumption) | apply below_drew1 | apply below_alloc))
      | fail)
    (first
      | (go_at_call 110
         refine (cmp_calls _ _ _).mono ?_
         rintro e w' ⟨rfl, rfl⟩)
      | (go_at_call 187
         refine (or_calls [cI x0 y0, cI x1 y1, cI x2 y2] (some ⟨_, 0, none⟩) 3 _ (lit_C3 (by go_simp) (by go_simp) (by go_simp))).mono ?_
         rintro e w' ⟨rfl, rfl⟩)
      | fail)
  all_goals go_wp2
  all_goals
    go_ret
    exact ⟨rfl, by repeat (first | exact HB.out | (refine below_step HB.out ?_; go_split_ands; assumption) | apply below_drew1 | apply pw_below_drewN | apply below_alloc)⟩
end Go.Proofs.Ytampgoendkjkhaa.H
