/- A row of ints of the call's own, as a block that is known. -/
import Derived.Test.YtampgoendkjkhaaCut
import Derived.Laws.CopyOwn
namespace Go.Proofs.Ytampgoendkjkhaa.H
open Go.RowKit Go.Shelf Go.Proofs.YtampgoendkjkhaaW.PrintWords
set_option linter.unusedVariables false
def Row (W : World) (g : Nat) (r : List Int) (c : Nat) : Prop := ∃ rest : List Value, W.heap[g]? = some (.cells (nums .i64 r ++ rest).toArray 3 (0, 0)) ∧ (nums .i64 r ++ rest).length = c ∧ c ≤ maxLen
theorem Row.keep {W W' : World} {g c : Nat} {r : List Int} (h : Row W g r c) (e : W'.heap[g]? = W.heap[g]?) : Row W' g r c := by
  obtain ⟨rest, a, b⟩ := h
  exact ⟨rest, e.trans a, b⟩
theorem Row.below {W W' : World} {g c : Nat} {r : List Int} (h : Row W g r c) (hb : Below W.heap.size W W') : Row W' g r c := by
  obtain ⟨rest, a, b⟩ := h
  exact ⟨rest, blk_below a hb, b⟩
theorem Row.lt {W : World} {g c : Nat} {r : List Int} (h : Row W g r c) : g < W.heap.size := by
  obtain ⟨rest, a, b⟩ := h
  exact blk_lt a
theorem Row.le {W : World} {g c : Nat} {r : List Int} (h : Row W g r c) : r.length ≤ c := by
  obtain ⟨rest, a, b, _⟩ := h
  rw [List.length_append, nums_length] at b
  omega
theorem row_of_R {W : World} {base : Nat} {ok : Nat → Prop} {ad : Addr} {n c : Nat} {r : List Int} (h : Kd.R (Kd.int .i64) 3 W base ok (.slice (some ad) n c) r) : ∃ g, ad = ⟨g, 0, none⟩ ∧ n = r.length ∧ Row W g r c ∧ base ≤ g ∧ ok g := by
  have hok := h.1
  have ho := Kd.own_of_R h
  obtain ⟨hl, ⟨hv, _⟩ | ⟨g, cap, cur, hv, hb, hg, hn, hm, hs, ht⟩⟩ := ho
  · cases hv
  · injection hv with h1 h2 h3
    injection h1 with h1
    subst h1 h3
    refine ⟨g, rfl, h2, ⟨cur.toList.drop r.length, ?_, ?_, hm⟩, hb, hok g rfl⟩
    · rw [hg]
      congr 2
      rw [← Array.toList_inj]
      have : nums .i64 r = cur.toList.take r.length := by rw [show r.length = r.length * 1 from by omega, ht]; rfl
      rw [this, List.take_append_drop]
    · have : nums .i64 r = cur.toList.take r.length := by rw [show r.length = r.length * 1 from by omega, ht]; rfl
      rw [this, List.take_append_drop, Array.length_toList]
      omega
theorem Row.R {W : World} {base g c : Nat} {ok : Nat → Prop} {r : List Int} (h : Row W g r c) (hb : base ≤ g) (hok : ok g) : Kd.R (Kd.int .i64) 3 W base ok (.slice (some ⟨g, 0, none⟩) r.length c) r := by
  have hle := h.le
  obtain ⟨rest, a, b, m⟩ := h
  refine Kd.R_of_own (enc := Value.int .i64) ⟨by simp [encs], .inr ⟨g, c, _, rfl, hb, a, hle, m, by simpa using b, ?_⟩⟩ (fun k hk => by simp [Value.ownBlock] at hk; subst hk; exact hok)
  have : (nums .i64 r ++ rest).take (r.length * 1) = nums .i64 r := by rw [List.take_append_of_le_length (by rw [nums_length]; omega), List.take_of_length_le (by rw [nums_length]; omega)]
  exact this
theorem Row.C {W : World} {g c : Nat} {r : List Int} (h : Row W g r c) : Kd.C (Kd.int .i64) W (some ⟨g, 0, none⟩) r.length r := (Kd.R_reads' (h.R (base := 0) (ok := fun _ => True) (Nat.zero_le _) trivial)).2.2
theorem Row.cell {W : World} {g c : Nat} {r : List Int} (h : Row W g r c) {i : Nat} (hi : i < r.length) : W.cell? ⟨g, i, none⟩ = some (.int .i64 (r.getD i 0)) := by
  obtain ⟨rest, a, b⟩ := h
  rw [blk_cell a i]
  rw [List.getElem?_toArray, List.getElem?_append_left (by rw [nums_length]; exact hi)]
  simp [nums, List.getD_eq_getElem?_getD, hi]
theorem Row.set {W : World} {g c : Nat} {r : List Int} (h : Row W g r c) {i : Nat} (hi : i < r.length) (a : Int) : Row (W.setCell ⟨g, i, none⟩ (.int .i64 a)) g (r.set i a) c := by
  obtain ⟨rest, e, b, m⟩ := h
  refine ⟨rest, ?_, ?_, m⟩
  · rw [blk_set e i (.int .i64 a)]
    congr 2
    rw [← Array.toList_inj, Array.toList_setIfInBounds]
    simp only [nums, List.map_set]
    rw [List.set_append_left _ _ (by simpa using hi)]
  · simpa [nums] using b
/-- behind copy(loop[1:], clone(loop)) -/
theorem Row.copied {W' : World} {g c : Nat} {r : List Int} {rest : List Value} (hr : 0 < r.length) (b : (nums .i64 r ++ rest).length = c) (m : c ≤ maxLen) (e : W'.heap[g]? = some (.cells (splice (nums .i64 r ++ rest) 1 (nums .i64 (r.take (r.length - 1)))).toArray 3 (0, 0))) : Row W' g (r.getD 0 0 :: r.take (r.length - 1)) c := by
  obtain ⟨x, xs, rfl⟩ : ∃ x xs, r = x :: xs := by cases r with
    | nil => simp at hr
    | cons x xs => exact ⟨x, xs, rfl⟩
  have es : splice (nums .i64 (x :: xs) ++ rest) 1 (nums .i64 ((x :: xs).take xs.length)) = nums .i64 (x :: (x :: xs).take xs.length) ++ rest := by
    unfold splice
    have l : (nums .i64 ((x :: xs).take xs.length)).length = xs.length := by rw [nums_length, List.length_take]; simp
    have l2 : (nums .i64 xs).length = xs.length := nums_length _ _
    rw [l]
    simp only [nums, List.map_cons, List.cons_append, List.take_succ_cons, List.take_zero, List.nil_append]
    rw [show 1 + xs.length = xs.length + 1 from by omega, List.drop_succ_cons]
    rw [List.drop_append_of_le_length (by simp), List.drop_of_length_le (by simp), List.nil_append]
  refine ⟨rest, ?_, ?_, m⟩
  · rw [e]
    congr 2
    rw [show (x :: xs).length - 1 = xs.length from rfl, es]
    rfl
  · rw [← b]
    simp [nums]
/-- loop[1:] -/
theorem cut1 (g c n : Nat) (hn : 0 < n) (hc : n ≤ c) : ∃ (A' : Option Addr) (m c' : Nat), m = n - 1 ∧ m ≤ c' ∧ (∀ W, (Instr.slice 22 (.slice (some ⟨g, 0, none⟩) n c) (some (.int .i64 1)) none none).run Try.prog W = .ok (.slice A' m c') W) ∧ (0 < m → A' = some ⟨g, 1, none⟩) := by
  obtain ⟨i0, hi, _, hsz, _⟩ := info_parts (show (Try.prog.info? 3).map (fun i => (i.zero, i.size, i.bytes)) = some (some (.int .i64 0), 1, 8) by kernel_rfl)
  refine ⟨_, n - 1, c - 1, rfl, by omega, fun W => by simpa using cut_from (P := Try.prog) 22 3 .i64 Try.underlying22 hi 1 hsz (some ⟨g, 0, none⟩) n c 1 (by omega) (by omega) W, fun hm => ?_⟩
  rw [if_neg (by omega)]
  simp [Addr.add]
theorem Row.C' {W : World} {g c n : Nat} {r : List Int} (h : Row W g r c) (hn : r.length = n) : Kd.C (Kd.int .i64) W (some ⟨g, 0, none⟩) n r := by subst hn; exact h.C
theorem Row.frozen {W : World} {g c : Nat} {r : List Int} (h : Row W g r c) (i : Nat) : W.frozen? ⟨g, i, none⟩ = false := by
  obtain ⟨rest, a, b⟩ := h
  exact blk_frozen a i
theorem Row.set0 {W : World} {g c : Nat} {x : Int} {r : List Int} (h : Row W g (x :: r) c) (a : Int) : Row (W.setCell ⟨g, 0, none⟩ (.int .i64 a)) g (a :: r) c := h.set (i := 0) (by simp) a
/-- what copy asks of its source -/
theorem C_cells {W : World} {A : Option Addr} {n : Nat} {r : List Int} (h : Kd.C (Kd.int .i64) W A n r) (m : Nat) (hm : m ≤ r.length) (h0 : 0 < m) : ∃ ad, A = some ad ∧ ∀ j v, (nums .i64 (r.take m))[j]? = some v → W.cell? (ad.add j) = some v := by
  obtain rfl : n = r.length := h.1.symm
  obtain ⟨ad, rfl, _⟩ := Kd.at_int h 0 (by decide) (by omega)
  refine ⟨ad, rfl, fun j v hv => ?_⟩
  have hj : j < m := by
    have := (List.getElem?_eq_some_iff.1 hv).1
    rw [nums_length, List.length_take] at this
    omega
  obtain ⟨ad', e, hc⟩ := Kd.at_int h (j : Int) (by omega) (by omega)
  injection e with e
  subst e
  rw [Int.toNat_natCast] at hc
  rw [hc]
  simp only [nums, List.getElem?_map, List.getElem?_take_of_lt hj] at hv
  rw [List.getElem?_eq_getElem (show j < r.length by omega)] at hv
  simp only [Option.map_some, Option.some.injEq] at hv
  rw [← hv, rd_at (show j < r.length by omega)]
/-- a struct of two slices, handed back through its cell -/
theorem res2 {fn : Func} {p : Tmp} (h : fn.results = #[.cell p 85]) (tmps : Array Value) (W : World) (g : Nat) (x0 x1 : Value) (hp : tmps.getD p undef = .pointer (some ⟨g, 0, none⟩))
    (h0 : W.cell? ⟨g, 0, none⟩ = some x0) (h1 : W.cell? ⟨g, 1, none⟩ = some x1) : (results fn tmps).run Try.prog W = .ok (.agg #[x0, x1]) W := by
  have hu := Try.underlying85
  have hp' : tmps[p]?.getD undef = .pointer (some ⟨g, 0, none⟩) := by simpa using hp
  simp only [results, h]
  go_simp
theorem R_fin2 {W : World} {B b nq : Nat} {ok : Nat → Prop} {v : Value} {l : List Int} (h : Kd.R (Kd.int .i64) 3 W B ok v l) (hb : b < B) (x y : Value) : Kd.R (Kd.int .i64) 3 (((W.drewN nq).setCell ⟨b, 0, none⟩ x).setCell ⟨b, 1, none⟩ y) B ok v l :=
  Kd.R_mono (Kd.R_far (Kd.R_far (Kd.R_drewN (Kd.R_bound h) nq) (p := ⟨b, 0, none⟩) (fun k hk => by have := hk.2.1; simp; omega) x) (p := ⟨b, 1, none⟩) (fun k hk => by have := hk.2.1; simp; omega) y) (fun _ hk => hk.1)
theorem Row.fin2 {W : World} {g c b nq : Nat} {r : List Int} (h : Row W g r c) (hb : g ≠ b) (x y : Value) : Row (((W.drewN nq).setCell ⟨b, 0, none⟩ x).setCell ⟨b, 1, none⟩ y) g r c :=
  h.keep ((Below.heap_setCell _ ⟨b, 1, none⟩ y g hb).trans (Below.heap_setCell _ ⟨b, 0, none⟩ x g hb))
end Go.Proofs.Ytampgoendkjkhaa.H
