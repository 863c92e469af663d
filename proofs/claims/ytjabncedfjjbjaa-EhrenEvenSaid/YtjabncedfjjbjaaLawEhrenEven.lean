/- EhrenEven: being alike for k rounds goes both ways, goes on from word to word, and is so for fewer rounds. -/
import Derived.Test.YtjabncedfjjbjaaRows
import Derived.Test.YtjabncedfjjbjaaPureEhrenEven
import Derived.Test.YtjabncedfjjbjaaOpen
import Derived.WalkKit
import Derived.ProofKit
import Derived.OpenShut
import Derived.ShutString
import Derived.ChangeOld
import Derived.Below
import Derived.SizedLaws
namespace Go.Proofs.Ytjabncedfjjbjaa.ehrenEven
open Go.Joins Go.ChangeShapes Go.WideShapes Go.ChangeAt Go.RowKit Go.Proofs.YtjabncedfjjbjaaW.PrintWords Go.Proofs.Ytjabncedfjjbjaa.H
open Go.ChangeMaps (open_string shut_string)
set_option linter.unusedVariables false
theorem own : ownKnob Try.prog.godebug = none := by kernel_rfl
theorem laidOut : laidOutB Try.prog = true := by kernel_rfl
set_option maxRecDepth 100000 in
theorem lifted (os : Os) (started : os.Started) (H : Type) (enc : TypeId × Value → H) :
    ReturnsInHanded {} Try.checked os 6 .any (Rows.ehrenEvenSpec.pre6 enc Try.prog Try.f6 Rows.ehrenEvenRow.domain false) (Rows.ehrenEvenSpec.post enc Try.prog Try.f6 false true false false) := by
  refine returnsInHanded_of_change_sized (C := Try.checked) own started (by kernel_rfl) Try.func6
    (ChangeSpec.witness6 (enc := enc) (C := Try.checked) false ⟨#[], #[.slice none 0 0, .slice none 0 0, .slice none 0 0, .int .i64 0], []⟩ 8 (by kernel_rfl) (by kernel_rfl) (by kernel_rfl) (by kernel_rfl)) ?_
  intro W base args ds gs before hval0 hW hcnd hsz0 _
  have hsz : (DataW.weightsEach Try.prog (Try.f6.params.toList ++ Rows.ehrenEvenSpec.plain.varTypes Try.prog) (ds ++ gs)).all (· ≤ reachBytes) = true := hsz0
  have hval : ∀ (j : Nat) t v, Try.f6.params[j]? = some t → args[j]? = some v → Value.okWide Try.prog W .any base t v := hval0
  have hW' := hW
  obtain ⟨p, q, hA0, hV, rfl, hfz, hnd⟩ := hW
  have hA : DataW.TrodAll enc Try.prog W 0 (fun _ => true) true Try.f6.params.toList args.toList ds p := hA0
  rw [Try.params6] at hA hval hsz
  obtain ⟨v0, vs0, d0, ds0, p0, q0, hargs, rfl, rfl, h0, r0⟩ := trodAll_cons hA
  obtain ⟨v1, vs1, d1, ds1, p1, q1, rfl, rfl, rfl, h1, r1⟩ := trodAll_cons r0
  obtain ⟨v2, vs2, d2, ds2, p2, q2, rfl, rfl, rfl, h2, r2⟩ := trodAll_cons r1
  obtain ⟨v3, vs3, d3, ds3, p3, q3, rfl, rfl, rfl, h3, r3⟩ := trodAll_cons r2
  obtain ⟨rfl, rfl, rfl⟩ := trodAll_nil r3
  obtain rfl : args = #[v0, v1, v2, v3] := by cases args; simp_all
  obtain ⟨rfl, rfl⟩ := trodVars_none hV
  have lt0 : ∀ x ∈ p0, x.block < W.heap.size := by obtain ⟨m, hm⟩ := h0; exact DataW.trod_lt m _ _ _ hm
  have k0 := h0
  obtain ⟨b0, len0, cap0, rfl⟩ := okWide_slice Try.underlying22 (hval 0 22 v0 rfl rfl)
  obtain ⟨fuel0, g0⟩ := h0
  simp only [Value.cells] at g0
  obtain ⟨l0, A0, c0, e0, hc0, hr0⟩ := K_slice Try.underlying22 (d := (Kd.int .i64)) (by kernel_rfl) (fun _ _ _ h => Ki_int Try.underlying3 h) g0
  obtain ⟨qa, qb, qc⟩ : b0 = A0 ∧ len0 = l0.length ∧ cap0 = c0 := by simpa using e0
  obtain rfl := qa.symm
  obtain rfl := qb.symm
  obtain rfl := qc.symm
  have lt1 : ∀ x ∈ p1, x.block < W.heap.size := by obtain ⟨m, hm⟩ := h1; exact DataW.trod_lt m _ _ _ hm
  have k1 := h1
  obtain ⟨b1, len1, cap1, rfl⟩ := okWide_slice Try.underlying22 (hval 1 22 v1 rfl rfl)
  obtain ⟨fuel1, g1⟩ := h1
  simp only [Value.cells] at g1
  obtain ⟨l1, A1, c1, e1, hc1, hr1⟩ := K_slice Try.underlying22 (d := (Kd.int .i64)) (by kernel_rfl) (fun _ _ _ h => Ki_int Try.underlying3 h) g1
  obtain ⟨qa, qb, qc⟩ : b1 = A1 ∧ len1 = l1.length ∧ cap1 = c1 := by simpa using e1
  obtain rfl := qa.symm
  obtain rfl := qb.symm
  obtain rfl := qc.symm
  have lt2 : ∀ x ∈ p2, x.block < W.heap.size := by obtain ⟨m, hm⟩ := h2; exact DataW.trod_lt m _ _ _ hm
  have k2 := h2
  obtain ⟨b2, len2, cap2, rfl⟩ := okWide_slice Try.underlying22 (hval 2 22 v2 rfl rfl)
  obtain ⟨fuel2, g2⟩ := h2
  simp only [Value.cells] at g2
  obtain ⟨l2, A2, c2, e2, hc2, hr2⟩ := K_slice Try.underlying22 (d := (Kd.int .i64)) (by kernel_rfl) (fun _ _ _ h => Ki_int Try.underlying3 h) g2
  obtain ⟨qa, qb, qc⟩ : b2 = A2 ∧ len2 = l2.length ∧ cap2 = c2 := by simpa using e2
  obtain rfl := qa.symm
  obtain rfl := qb.symm
  obtain rfl := qc.symm
  obtain ⟨a3, rfl, rfl, rfl, w3⟩ := open_int Try.underlying3 (hval 3 3 v3 rfl rfl) h3
  clear hA0 hval0 hsz0 hsz
  obtain ⟨k, hk⟩ : ∃ k, PEhrenEven.evermorekeep_EhrenEven.f k l0 l1 l2 a3 = some true := EhrenEvenPure.law l0 l1 l2 a3
  refine (PEhrenEven.evermorekeep_EhrenEven.calls k A0 c0 l0 A1 c1 l1 A2 c2 l2 a3 true W hr0 hc0 hr1 hc1 hr2 hc2 hk).mono fun e W' ⟨he, bel0⟩ => ?_
  have bel : Below W.heap.size W W' := by first | exact bel0 | exact bel0.below
  subst he
  exact ⟨_, rfl, _, _, _, [], _, [], hW', trodAll_mk1 (shut_bool Try.underlying4 _), (trodAll_cons_mk (Below.trod laidOut (by kernel_rfl) (of_decide_eq_true (by kernel_rfl)) k0 bel lt0) (trodAll_cons_mk (Below.trod laidOut (by kernel_rfl) (of_decide_eq_true (by kernel_rfl)) k1 bel lt1) (trodAll_cons_mk (Below.trod laidOut (by kernel_rfl) (of_decide_eq_true (by kernel_rfl)) k2 bel lt2) (trodAll_cons_mk (shut_int Try.underlying3 w3) trodAll_mk0)))), rfl, bel.frame _, fun h => by cases h⟩
theorem over : Rows.ehrenEvenRow.holds Try.pinned (OpenSpec.ofChange Rows.ehrenEvenSpec) :=
  OpenClaim.holds_of_wide 6 Try.f6 rfl rfl rfl rfl rfl rfl rfl ⟨rfl, rfl, rfl, rfl, rfl⟩ rfl rfl rfl rfl rfl (by kernel_rfl) Try.func6 (by kernel_rfl)
    (of_decide_eq_true (by kernel_rfl)) (by unfold Func.isWrapper; first | (rw [if_pos (by decide +kernel)]; kernel_rfl) | (rw [if_neg (by decide +kernel)]; exact ⟨rfl, rfl⟩))
    (fun os started H enc _ => lifted os started H enc)
theorem proved : Rows.EhrenEvenSaid := over
end Go.Proofs.Ytjabncedfjjbjaa.ehrenEven
namespace Go.Proofs.Ytjabncedfjjbjaa
/-- The row, under a short name, for the claim. -/
theorem ehrenEven_holds : Rows.EhrenEvenSaid := ehrenEven.proved
#print axioms ehrenEven_holds
end Go.Proofs.Ytjabncedfjjbjaa
