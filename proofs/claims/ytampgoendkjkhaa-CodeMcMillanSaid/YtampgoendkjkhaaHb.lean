/- Hand-proved: word.Lasso, slices.Clone at ints. -/
import Derived.Test.YtampgoendkjkhaaNat
import Derived.Test.YtampgoendkjkhaaSl
import Derived.Laws.EntriesVeiled
import Derived.WideLaws
import Derived.Lib.SliceRun
namespace Go.Proofs.Ytampgoendkjkhaa.H
open Go.RowKit Go.Shelf Go.Proofs.YtampgoendkjkhaaW.PrintWords
set_option linter.unusedVariables false
set_option linter.unusedSimpArgs false

def lassoF (L : Int) (hd lp : List Int) : Int := if mayF L hd = 0 then (if mayF L lp = 0 then (if lp.length = 0 then 1 else 0) else mayF L lp) else mayF L hd
theorem may_calls (a0 : Int) (A1 : Option Addr) (c1 : Nat) (l1 : List Int) (w : World) (hr1 : Kd.C (Kd.int .i64) w A1 l1.length l1) (hc1 : l1.length ≤ c1) (e0 : Int) (h : mayF a0 l1 = e0) :
    Calls Try.prog 104 #[.int .i64 a0, .slice A1 l1.length c1] w fun e w' => e = .returned (.int .i64 e0) ∧ Drawn0 w w' := by
  rw [← h]; exact word_May.calls a0 A1 c1 l1 _ w hr1 hc1 rfl

section
variable (L : Int) (A0 A1 : Option Addr) (c0 c1 : Nat) (hd lp : List Int) (w : World)
theorem lasso_calls (hr0 : Kd.C (Kd.int .i64) w A0 hd.length hd) (hc0 : hd.length ≤ c0) (hr1 : Kd.C (Kd.int .i64) w A1 lp.length lp) (hc1 : lp.length ≤ c1) :
    Calls Try.prog 79 #[.int .i64 L, .agg #[.slice A0 hd.length c0, .slice A1 lp.length c1]] w fun e w' => e = .returned (.int .i64 (lassoF L hd lp)) ∧ Below w.heap.size w w' := by
  have HR0 := Aside0.mk hr0
  have HR1 := Aside0.mk hr1
  have HC0 := Aside0.mk hc0
  have HC1 := Aside0.mk hc1
  clear hr0 hr1 hc0 hc1
  have i0 : ∀ w, (Instr.index 254 (.agg #[.slice A0 hd.length c0, .slice A1 lp.length c1]) (.int .i64 0)).run Try.prog w = .ok (.slice A0 hd.length c0) w := fun _ => by kernel_rfl
  have i1 : ∀ w, (Instr.index 254 (.agg #[.slice A0 hd.length c0, .slice A1 lp.length c1]) (.int .i64 1)).run Try.prog w = .ok (.slice A1 lp.length c1) w := fun _ => by kernel_rfl
  have hL := Aside0.mk (show lassoF L hd lp = _ from rfl)
  unfold lassoF
  generalize hm0 : mayF L hd = m0
  generalize hm1 : mayF L lp = m1
  have HM0 := Aside0.mk hm0
  have HM1 := Aside0.mk hm1
  clear hm0 hm1 hL
  have hA : Below w.heap.size w (w.alloc (.cells #[.slice A0 hd.length c0, .slice A1 lp.length c1] 85)) := (Below.refl _ _).alloc (Nat.le_refl _) _
  have HA := Aside0.mk hA
  clear hA
  by_cases e0 : m0 = 0
  · subst e0
    rw [if_pos rfl]
    by_cases e1 : m1 = 0
    · subst e1
      rw [if_pos rfl]
      have h2 : ∃ b : Bool, ((lp.length : Int) == 0) = b ∧ (if lp.length = 0 then (1 : Int) else 0) = if b = true then 1 else 0 := ⟨_, rfl, by by_cases e : lp.length = 0 <;> simp [e]⟩
      obtain ⟨b, hb2, hr⟩ := h2
      rw [hr]
      clear hr
      cases b with
      | true =>
        rw [if_pos rfl]
        go_enter Try.func79, Try.ntmps79
        go_wp2
        refine wp_loop_rounds 3 ?_
        rw [rounds_succ]
        go_wp2_with (go_at_call 104; refine (may_calls L A0 c0 hd _ (Kd.C_below HR0.out HA.out) HC0.out 0 HM0.out).mono ?_; rintro e w1 ⟨rfl, ⟨n1, rfl⟩⟩)
        rw [rounds_succ]
        go_wp2_with (go_at_call 104; refine (may_calls L A1 c1 lp _ (Kd.C_below HR1.out (pw_below_drewN HA.out _)) HC1.out 0 HM1.out).mono ?_; rintro e w1 ⟨rfl, ⟨n2, rfl⟩⟩)
        rw [rounds_succ]
        go_wp2
        go_ret
        exact ⟨rfl, by repeat (first | exact HA.out | apply pw_below_drewN)⟩
      | false =>
        rw [if_neg (by simp)]
        go_enter Try.func79, Try.ntmps79
        go_wp2
        refine wp_loop_rounds 3 ?_
        rw [rounds_succ]
        go_wp2_with (go_at_call 104; refine (may_calls L A0 c0 hd _ (Kd.C_below HR0.out HA.out) HC0.out 0 HM0.out).mono ?_; rintro e w1 ⟨rfl, ⟨n1, rfl⟩⟩)
        rw [rounds_succ]
        go_wp2_with (go_at_call 104; refine (may_calls L A1 c1 lp _ (Kd.C_below HR1.out (pw_below_drewN HA.out _)) HC1.out 0 HM1.out).mono ?_; rintro e w1 ⟨rfl, ⟨n2, rfl⟩⟩)
        rw [rounds_succ]
        go_wp2
        go_ret
        exact ⟨rfl, by repeat (first | exact HA.out | apply pw_below_drewN)⟩
    · rw [if_neg e1]
      have hb : (m1 != 0) = true := by simpa using e1
      go_enter Try.func79, Try.ntmps79
      go_wp2
      refine wp_loop_rounds 2 ?_
      rw [rounds_succ]
      go_wp2_with (go_at_call 104; refine (may_calls L A0 c0 hd _ (Kd.C_below HR0.out HA.out) HC0.out 0 HM0.out).mono ?_; rintro e w1 ⟨rfl, ⟨n1, rfl⟩⟩)
      rw [rounds_succ]
      go_wp2_with (go_at_call 104; refine (may_calls L A1 c1 lp _ (Kd.C_below HR1.out (pw_below_drewN HA.out _)) HC1.out m1 HM1.out).mono ?_; rintro e w1 ⟨rfl, ⟨n2, rfl⟩⟩)
      go_ret
      exact ⟨rfl, by repeat (first | exact HA.out | apply pw_below_drewN)⟩
  · rw [if_neg e0]
    have hb : (m0 != 0) = true := by simpa using e0
    go_enter Try.func79, Try.ntmps79
    go_wp2
    refine wp_loop_rounds 1 ?_
    rw [rounds_succ]
    go_wp2_with (go_at_call 104; refine (may_calls L A0 c0 hd _ (Kd.C_below HR0.out HA.out) HC0.out m0 HM0.out).mono ?_; rintro e w1 ⟨rfl, ⟨n1, rfl⟩⟩)
    go_ret
    exact ⟨rfl, by repeat (first | exact HA.out | apply pw_below_drewN)⟩
end
def word_Lasso.f (a0 : Int) (l1_0 l1_1 : List Int) : Option Int := some (lassoF a0 l1_0 l1_1)
theorem word_Lasso.calls (a0 : Int) (A1_0 : Option Addr) (c1_0 : Nat) (l1_0 : List Int) (A1_1 : Option Addr) (c1_1 : Nat) (l1_1 : List Int) (r : Int) (w : World) (hr1_0 : Kd.C (Kd.int .i64) w A1_0 l1_0.length l1_0) (hc1_0 : l1_0.length ≤ c1_0) (hr1_1 : Kd.C (Kd.int .i64) w A1_1 l1_1.length l1_1) (hc1_1 : l1_1.length ≤ c1_1) (h : word_Lasso.f a0 l1_0 l1_1 = some r) :
    Calls Try.prog 79 #[.int .i64 a0, .agg #[.slice A1_0 l1_0.length c1_0, .slice A1_1 l1_1.length c1_1]] w fun e w' => e = .returned (.int .i64 r) ∧ Below w.heap.size w w' := by
  obtain rfl := Option.some.inj h
  exact lasso_calls a0 A1_0 A1_1 c1_0 c1_1 l1_0 l1_1 w hr1_0 hc1_0 hr1_1 hc1_1

/-! ### slices.Clone at ints -/
def slices_Clone_int_int.f (l0 : List Int) : Option (List Int) := if l0.length < 17592186044416 then some l0 else none
theorem slices_Clone_int_int.calls (A0 : Option Addr) (c0 : Nat) (l0 : List Int) (r : List Int) (w : World) (hr0 : Kd.C (Kd.int .i64) w A0 l0.length l0) (hc0 : l0.length ≤ c0) (h : slices_Clone_int_int.f l0 = some r) :
    Calls Try.prog 53 #[.slice A0 l0.length c0] w fun e w' => ∃ v0_ : Value, e = .returned (v0_) ∧ Kd.R (Kd.int .i64) 3 w' w.heap.size (fun _ => True) v0_ r ∧ Below w.heap.size w w' := by
  unfold slices_Clone_int_int.f at h
  by_cases hl : l0.length < 17592186044416
  · rw [if_pos hl] at h
    obtain rfl := Option.some.inj h
    have HR := Aside0.mk hr0
    clear hr0 h
    have qT : ∀ (w : World) (a : Option Addr) (n c n' c' : Nat), (binOp .eql 22 (.slice a n c) (.slice none n' c')).run Try.prog w = .ok (.bool a.isNone) w := fun w a n c n' c' => Lib.run_eql_slice_nil w _ _ a n c n' c' Try.underlying22
    have hinfo : (Try.prog.info? 3).map (fun i => (i.zero, i.size, i.bytes)) = some (some (.int .i64 0), 1, 8) := by kernel_rfl
    have HI := Aside0.mk hinfo
    clear hinfo
    cases A0 with
    | none =>
      have h0 : l0 = [] := by
        cases l0 with
        | nil => rfl
        | cons x xs => obtain ⟨ad, e, _⟩ := HR.out.2.2 (by simp); cases e
      subst h0
      go_enter Try.func53, Try.ntmps53
      go_wp2
      go_ret
      exact ⟨_, rfl, Kd.R_nil _ _ _ _ _, Below.refl _ _⟩
    | some ad =>
      have HO : (Kd.int .i64).R 3 (w.alloc (.cells #[] 3)) w.heap.size (fun _ => True) (.slice (some ⟨w.heap.size, 0, none⟩) 0 0) [] :=
        Kd.R_of_own (by simpa [encs] using own_lit_of (enc := Value.int .i64) w w.heap.size 3 [] (Nat.le_refl _) (by simp)) (fun _ _ => trivial)
      have HO' := Aside0.mk HO
      have HB' := Aside0.mk ((Below.refl w.heap.size w).alloc (Nat.le_refl _) (.cells #[] 3))
      clear HO
      go_enter Try.func53, Try.ntmps53
      go_wp2_with (
        at_builtin
        refine Kd.R_append_row (w0 := w) (Value.int .i64) 0 w.heap.size rfl _ _ 22 3 (.int .i64 0) 8 rfl Try.underlying22 HI.out rfl (by decide) _ [] l0 (some ad) l0.length c0 (fun _ => True) rfl rfl (fun _ _ => trivial) HO'.out (Kd.C_below HR.out HB'.out) HB'.out (by simp) (by simp; omega) ?_
        intro v1 w1 hown hb1 hg hat
        have HO1 := Aside0.mk hown
        have HB1 := Aside0.mk hb1
        clear hown hb1 hg hat)
      go_ret
      exact ⟨v1, rfl, HO1.out, HB1.out⟩
  · rw [if_neg hl] at h; cases h
end Go.Proofs.Ytampgoendkjkhaa.H
