/- The statement WordRest of the given program, without conditions: for every lasso and all two numbers the law returns true, without a panic, and leaves its arguments as they were. -/
import Derived.Test.YtjabncedfjjbjaaRows
import Derived.Test.YtjabncedfjjbjaaWr
import Derived.Test.YtjabncedfjjbjaaOpen
import Derived.WalkKit
import Derived.ProofKit
import Derived.OpenShut
import Derived.ShutString
import Derived.ChangeOld
import Derived.Below
import Derived.SizedLaws
namespace Go.Proofs.Ytjabncedfjjbjaa.wordRest
open Go.Joins Go.ChangeShapes Go.WideShapes Go.ChangeAt Go.RowKit Go.Proofs.YtjabncedfjjbjaaW.PrintWords Go.Proofs.Ytjabncedfjjbjaa.H
open Go.ChangeMaps (open_string shut_string)
set_option linter.unusedVariables false
theorem own : ownKnob Try.prog.godebug = none := by kernel_rfl
theorem laidOut : laidOutB Try.prog = true := by kernel_rfl
set_option maxRecDepth 100000 in
theorem lifted (os : Os) (started : os.Started) (H : Type) (enc : TypeId × Value → H) :
    ReturnsInHanded {} Try.checked os 4 .any (Rows.wordRestSpec.pre6 enc Try.prog Try.f4 Rows.wordRestRow.domain false) (Rows.wordRestSpec.post enc Try.prog Try.f4 false true false false) := by
  refine returnsInHanded_of_change_sized (C := Try.checked) own started (by kernel_rfl) Try.func4
    (ChangeSpec.witness6 (enc := enc) (C := Try.checked) false ⟨#[], #[.agg #[.slice none 0 0, .slice none 0 0], .int .i64 0, .int .i64 0], []⟩ 8 (by kernel_rfl) (by kernel_rfl) (by kernel_rfl) (by kernel_rfl)) ?_
  intro W base args ds gs before hval0 hW hcnd hsz0 _
  have hsz : (DataW.weightsEach Try.prog (Try.f4.params.toList ++ Rows.wordRestSpec.plain.varTypes Try.prog) (ds ++ gs)).all (· ≤ reachBytes) = true := hsz0
  have hval : ∀ (j : Nat) t v, Try.f4.params[j]? = some t → args[j]? = some v → Value.okWide Try.prog W .any base t v := hval0
  have hW' := hW
  obtain ⟨p, q, hA0, hV, rfl, hfz, hnd⟩ := hW
  have hA : DataW.TrodAll enc Try.prog W 0 (fun _ => true) true Try.f4.params.toList args.toList ds p := hA0
  rw [Try.params4] at hA hval hsz
  obtain ⟨v0, vs0, d0, ds0, p0, q0, hargs, rfl, rfl, h0, r0⟩ := trodAll_cons hA
  obtain ⟨v1, vs1, d1, ds1, p1, q1, rfl, rfl, rfl, h1, r1⟩ := trodAll_cons r0
  obtain ⟨v2, vs2, d2, ds2, p2, q2, rfl, rfl, rfl, h2, r2⟩ := trodAll_cons r1
  obtain ⟨rfl, rfl, rfl⟩ := trodAll_nil r2
  obtain rfl : args = #[v0, v1, v2] := by cases args; simp_all
  obtain ⟨rfl, rfl⟩ := trodVars_none hV
  have lt0 : ∀ x ∈ p0, x.block < W.heap.size := by obtain ⟨m, hm⟩ := h0; exact DataW.trod_lt m _ _ _ hm
  have k0 := h0
  have ok0 := hval 0 34 v0 rfl rfl
  obtain ⟨c0_0, c0_1, y0_0, y0_1, m0, rfl, dd0, pp0, g0_0, g0_1⟩ := open_agg2 Try.underlying34 (by kernel_rfl) (by kernel_rfl) ok0 h0
  obtain ⟨l0_0, A0_0, c0_0, rfl, hc0_0, hr0_0⟩ := K_slice Try.underlying22 (d := (Kd.int .i64)) (by kernel_rfl) (fun _ _ _ h => Ki_int Try.underlying3 h) g0_0
  obtain ⟨l0_1, A0_1, c0_1, rfl, hc0_1, hr0_1⟩ := K_slice Try.underlying22 (d := (Kd.int .i64)) (by kernel_rfl) (fun _ _ _ h => Ki_int Try.underlying3 h) g0_1
  obtain ⟨a1, rfl, rfl, rfl, w1⟩ := open_int Try.underlying3 (hval 1 3 v1 rfl rfl) h1
  obtain ⟨a2, rfl, rfl, rfl, w2⟩ := open_int Try.underlying3 (hval 2 3 v2 rfl rfl) h2
  clear hA0 hval0 hsz0 hsz
  refine (wr_calls A0_0 A0_1 c0_0 c0_1 l0_0 l0_1 a1 a2 W ⟨rfl, hc0_0, hr0_0⟩ ⟨rfl, hc0_1, hr0_1⟩).mono fun e W' ⟨he, bel0⟩ => ?_
  have bel : Below W.heap.size W W' := by first | exact bel0 | exact bel0.below
  subst he
  exact ⟨_, rfl, _, _, _, [], _, [], hW', trodAll_mk1 (shut_bool Try.underlying4 _), (trodAll_cons_mk (Below.trod laidOut (by kernel_rfl) (of_decide_eq_true (by kernel_rfl)) k0 bel lt0) (trodAll_cons_mk (shut_int Try.underlying3 w1) (trodAll_cons_mk (shut_int Try.underlying3 w2) trodAll_mk0))), rfl, bel.frame _, fun h => by cases h⟩
theorem over : Rows.wordRestRow.holds Try.pinned (OpenSpec.ofChange Rows.wordRestSpec) :=
  OpenClaim.holds_of_wide 4 Try.f4 rfl rfl rfl rfl rfl rfl rfl ⟨rfl, rfl, rfl, rfl, rfl⟩ rfl rfl rfl rfl rfl (by kernel_rfl) Try.func4 (by kernel_rfl)
    (of_decide_eq_true (by kernel_rfl)) (by unfold Func.isWrapper; first | (rw [if_pos (by decide +kernel)]; kernel_rfl) | (rw [if_neg (by decide +kernel)]; exact ⟨rfl, rfl⟩))
    (fun os started H enc _ => lifted os started H enc)
theorem proved : Rows.WordRestSaid := over
end Go.Proofs.Ytjabncedfjjbjaa.wordRest
namespace Go.Proofs.Ytjabncedfjjbjaa
/-- The row, under a short name, for the claim. -/
theorem wordRest_holds : Rows.WordRestSaid := wordRest.proved
#print axioms wordRest_holds
end Go.Proofs.Ytjabncedfjjbjaa
