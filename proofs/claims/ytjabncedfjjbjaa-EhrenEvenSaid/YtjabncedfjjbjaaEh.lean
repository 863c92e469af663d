/- Hand-proved: package ehren. -/
import Derived.Test.YtjabncedfjjbjaaHb
import Derived.Deep.RegionHeld3
import Derived.Deep.AppendLies
namespace Go.Proofs.Ytjabncedfjjbjaa.H
open Go.RowKit Go.Shelf Go.Proofs.YtjabncedfjjbjaaW.PrintWords
set_option linter.unusedVariables false
set_option linter.unusedSimpArgs false

theorem eh_info3 : (Try.prog.info? 3).map (fun i => (i.zero, i.size, i.bytes)) = some (some (.int .i64 0), 1, 8) := by kernel_rfl
abbrev EhS (w : World) (v0 v1 v2 v3 : Value) (w' : World) : Prop := Below w.heap.size w w' ∧ w'.cell? ⟨w.heap.size, 0, none⟩ = some v0 ∧ w'.cell? ⟨w.heap.size, 1, none⟩ = some v1 ∧ w'.cell? ⟨w.heap.size, 2, none⟩ = some v2 ∧ w'.cell? ⟨w.heap.size, 3, none⟩ = some v3 ∧ ∃ u0 u1 u2 u3 : Value, w'.cell? ⟨w.heap.size + 1, 0, none⟩ = some u0 ∧ w'.cell? ⟨w.heap.size + 1, 1, none⟩ = some u1 ∧ w'.cell? ⟨w.heap.size + 1, 2, none⟩ = some u2 ∧ w'.cell? ⟨w.heap.size + 1, 3, none⟩ = some u3 ∧ w'.frozen? ⟨w.heap.size + 1, 0, none⟩ = false ∧ w'.frozen? ⟨w.heap.size + 1, 1, none⟩ = false ∧ w'.frozen? ⟨w.heap.size + 1, 2, none⟩ = false ∧ w'.frozen? ⟨w.heap.size + 1, 3, none⟩ = false
theorem keepS {w W w1 : World} {v0 v1 v2 v3 : Value} (h : EhS w v0 v1 v2 v3 W) (hb : Below W.heap.size W w1) : EhS w v0 v1 v2 v3 w1 := by
  obtain ⟨hB, h0, h1, h2, h3, u0, u1, u2, u3, g0, g1, g2, g3, f0, f1, f2, f3⟩ := h
  have lt := World.block_lt_of_cell? W _ h0
  have lt1 := World.block_lt_of_cell? W _ g0
  exact ⟨below_step hB hb, (hb.cell (p := ⟨w.heap.size, 0, none⟩) lt).trans h0, (hb.cell (p := ⟨w.heap.size, 1, none⟩) lt).trans h1, (hb.cell (p := ⟨w.heap.size, 2, none⟩) lt).trans h2, (hb.cell (p := ⟨w.heap.size, 3, none⟩) lt).trans h3, u0, u1, u2, u3, (hb.cell (p := ⟨w.heap.size + 1, 0, none⟩) lt1).trans g0, (hb.cell (p := ⟨w.heap.size + 1, 1, none⟩) lt1).trans g1, (hb.cell (p := ⟨w.heap.size + 1, 2, none⟩) lt1).trans g2, (hb.cell (p := ⟨w.heap.size + 1, 3, none⟩) lt1).trans g3, (hb.frozen (p := ⟨w.heap.size + 1, 0, none⟩) lt1).trans f0, (hb.frozen (p := ⟨w.heap.size + 1, 1, none⟩) lt1).trans f1, (hb.frozen (p := ⟨w.heap.size + 1, 2, none⟩) lt1).trans f2, (hb.frozen (p := ⟨w.heap.size + 1, 3, none⟩) lt1).trans f3⟩
theorem keepAl {w W : World} {v0 v1 v2 v3 : Value} (h : EhS w v0 v1 v2 v3 W) (o : Obj) : EhS w v0 v1 v2 v3 (W.alloc o) := keepS h (below_alloc (Below.refl _ _) o)
theorem eh_lt {w W : World} {v0 v1 v2 v3 : Value} (h : EhS w v0 v1 v2 v3 W) : w.heap.size + 1 < W.heap.size := by
  obtain ⟨_, _, _, _, _, _, _, _, _, g0, _⟩ := h
  exact World.block_lt_of_cell? W _ g0
theorem keepSet {w W : World} {v0 v1 v2 v3 : Value} (h : EhS w v0 v1 v2 v3 W) (a b c d : Value) : EhS w v0 v1 v2 v3 ((((W.setCell ⟨w.heap.size + 1, 0, none⟩ a).setCell ⟨w.heap.size + 1, 1, none⟩ b).setCell ⟨w.heap.size + 1, 2, none⟩ c).setCell ⟨w.heap.size + 1, 3, none⟩ d) := by
  obtain ⟨hB, h0, h1, h2, h3, u0, u1, u2, u3, g0, g1, g2, g3, f0, f1, f2, f3⟩ := h
  exact ⟨below_set (below_set (below_set (below_set hB (Nat.le_succ _)) (Nat.le_succ _)) (Nat.le_succ _)) (Nat.le_succ _), by go_simp, by go_simp, by go_simp, by go_simp, _, _, _, _, by go_simp; rfl, by go_simp; rfl, by go_simp; rfl, by go_simp; rfl, by go_simp, by go_simp, by go_simp, by go_simp⟩
theorem eh_fin {w W : World} {v : Value} {l : List Int} (h : Kd.R (Kd.int .i64) 3 W w.heap.size (fun k => w.heap.size + 1 < k) v l) (a b c d : Value) : Kd.R (Kd.int .i64) 3 ((((W.setCell ⟨w.heap.size + 1, 0, none⟩ a).setCell ⟨w.heap.size + 1, 1, none⟩ b).setCell ⟨w.heap.size + 1, 2, none⟩ c).setCell ⟨w.heap.size + 1, 3, none⟩ d) w.heap.size (fun _ => True) v l := by
  have hn : ∀ k, w.heap.size + 1 < k → k ≠ w.heap.size + 1 := fun k hk => by omega
  exact Kd.R_mono (Kd.R_far (p := ⟨w.heap.size + 1, 3, none⟩) (Kd.R_far (p := ⟨w.heap.size + 1, 2, none⟩) (Kd.R_far (p := ⟨w.heap.size + 1, 1, none⟩) (Kd.R_far (p := ⟨w.heap.size + 1, 0, none⟩) h hn a) hn b) hn c) hn d) (fun _ _ => trivial)
theorem eh_up {w W w2 : World} {B : Nat} {v0 v1 v2 v3 v : Value} {l : List Int} (hS : EhS w v0 v1 v2 v3 W) (hB : W.heap.size ≤ B) (h : Kd.R (Kd.int .i64) 3 w2 B (fun _ => True) v l) : Kd.R (Kd.int .i64) 3 w2 w.heap.size (fun k => w.heap.size + 1 < k) v l := by
  have := eh_lt hS
  exact Kd.R_lower (Kd.R_mono (Kd.R_bound h) (fun k hk => by have := hk.2.1; omega)) (by omega)
theorem res4 {fn : Func} {p : Tmp} (h : fn.results = #[.cell p 132]) (tmps : Array Value) (W : World) (g : Nat) (x0 x1 x2 x3 : Value) (hp : tmps.getD p undef = .pointer (some ⟨g, 0, none⟩))
    (h0 : W.cell? ⟨g, 0, none⟩ = some x0) (h1 : W.cell? ⟨g, 1, none⟩ = some x1) (h2 : W.cell? ⟨g, 2, none⟩ = some x2) (h3 : W.cell? ⟨g, 3, none⟩ = some x3) : (results fn tmps).run Try.prog W = .ok (.agg #[x0, x1, x2, x3]) W := by
  have hu := Try.underlying132
  have hp' : tmps[p]?.getD undef = .pointer (some ⟨g, 0, none⟩) := by simpa using hp
  simp only [results, h]
  go_simp
/-- one cell's fact over a call -/
def Tr (W w' : World) (v : Value) : Prop := ∀ b x, W.cell? ⟨b, 0, none⟩ = some x → (∀ k, v.ownBlock = some k → k ≠ b) → w'.cell? ⟨b, 0, none⟩ = some x
theorem Tr_below {W w' : World} (h : Below W.heap.size W w') : Tr W w' (.slice none 0 0) := fun b x hx _ => (h.cell (p := ⟨b, 0, none⟩) (World.block_lt_of_cell? W _ hx)).trans hx
theorem Tr_grown {W w' : World} {v : Value} (h : W.grownBy w' v.ownBlock) : Tr W w' v := fun b x hx hn => (h.cell_far ⟨b, 0, none⟩ (World.block_lt_of_cell? W _ hx) (fun e => hn b e.symm rfl)).trans hx
theorem reads_lit1 {W : World} {b : Nat} {x : Int} (h : W.cell? ⟨b, 0, none⟩ = some (.int .i64 x)) : Kd.C (Kd.int .i64) W (some ⟨b, 0, none⟩) 1 [x] := by
  refine ⟨rfl, by decide, fun _ => ⟨_, rfl, fun j p hj => ?_⟩⟩
  match j, hj with
  | 0, hj =>
    obtain rfl : x = p := by simpa using hj
    refine ⟨[.int .i64 x], rfl, rfl, fun i u hu => ?_⟩
    match i, hu with
    | 0, hu =>
      obtain rfl : Value.int .i64 x = u := by simpa using hu
      simpa [Addr.add] using h

theorem cell_al {W : World} {a : Addr} {v : Value} (h : W.cell? a = some v) (o : Obj) : (W.alloc o).cell? a = some v := (World.cell?_alloc_some W a o (by rw [h]; rfl)).trans h
section
variable {P : Program} {ops : Array Oper} {o : Oper} {a : Act} {Q : Exit → Act → World → Prop}
theorem append_lit_step {E : Prop} {B : Nat} {Wb W : World} {p : Int} {b : Nat} (v : Value) (l : List Int) (s x : Operand) (t : TypeId) (hw : Region.wanted o (yielded ops a.tmps) = true)
    (ho : o.op = .call { callee := .builtin .append, args := #[s, x], argTypes := #[t, t] }) (ht : P.underlying t = some (.slice 3)) (hi : (P.info? 3).map (fun i => (i.zero, i.size, i.bytes)) = some (some (.int .i64 0), 1, 8))
    (hs : a.eval s = v) (hx : a.eval x = .slice (some ⟨b, 0, none⟩) 1 1) (HO : Kd.R (Kd.int .i64) 3 W B (fun _ => True) v l) (HB : Below B Wb W) (hc : W.cell? ⟨b, 0, none⟩ = some (.int .i64 p)) (hS : B ≤ W.heap.size) (hl : l.length < 100) {Kc : Act → World → Prop}
    (h : ∀ v1 w1, Kd.R (Kd.int .i64) 3 w1 B (fun _ => True) v1 (l ++ [p]) → Below B Wb w1 → W.grownBy w1 v.ownBlock → Kc (a.put o.dst v1) w1) :
    if Region.wanted o (yielded ops a.tmps) = true then Oper.wp P o a W Kc Q else E := by
  have H := Kd.R_append_rows_step (Kd.int .i64) (w0 := Wb) B hw s x t 3 (.int .i64 0) 8 ho ht hi rfl (by decide) (by omega) v l [p] _ _ _ (fun _ => True) (fun _ => False) hs hx HO (reads_lit1 hc) (fun _ _ h => h) (fun _ h => h.elim) (fun _ _ => trivial) HB hS (by omega) (Q := Q) (Kc := Kc) (fun v1 w1 h1 h2 h3 _ => h v1 w1 h1 h2 h3)
  rw [if_pos hw] at H ⊢
  exact H
end

set_option maxHeartbeats 8000000 in
set_option maxRecDepth 100000 in
theorem with_calls (A0 A1 A2 A3 : Option Addr) (n0 n1 c0 c1 c2 c3 : Nat) (l2 l3 : List Int) (p q : Int) (w : World)
    (hr2 : Kd.C (Kd.int .i64) w A2 l2.length l2) (hc2 : l2.length ≤ c2) (hr3 : Kd.C (Kd.int .i64) w A3 l3.length l3) (hc3 : l3.length ≤ c3) (h2 : l2.length < 100) (h3 : l3.length < 100) :
    Calls Try.prog 171 #[.agg #[.slice A0 n0 c0, .slice A1 n1 c1, .slice A2 l2.length c2, .slice A3 l3.length c3], .int .i64 p, .int .i64 q] w fun e w' =>
      ∃ v2 v3 : Value, e = .returned (.agg #[.slice A0 n0 c0, .slice A1 n1 c1, v2, v3]) ∧ Kd.R (Kd.int .i64) 3 w' w.heap.size (fun _ => True) v2 (l2 ++ [p]) ∧ Kd.R (Kd.int .i64) 3 w' w.heap.size (fun _ => True) v3 (l3 ++ [q]) ∧ Below w.heap.size w w' := by
  have HR2 := Aside0.mk hr2
  have HR3 := Aside0.mk hr3
  have HC2 := Aside0.mk hc2
  have HC3 := Aside0.mk hc3
  have H2 := Aside0.mk h2
  have H3 := Aside0.mk h3
  clear hr2 hr3 hc2 hc3 h2 h3
  have hu132 := Try.underlying132
  go_enter Try.func171, Try.ntmps171
  go_wp2_with fail
  go_region_held3 (fun w' => Below w.heap.size w w' ∧ w'.cell? ⟨w.heap.size, 0, none⟩ = some (.slice A0 n0 c0) ∧ w'.cell? ⟨w.heap.size, 1, none⟩ = some (.slice A1 n1 c1) ∧ w'.cell? ⟨w.heap.size, 2, none⟩ = some (.slice A2 l2.length c2) ∧ w'.cell? ⟨w.heap.size, 3, none⟩ = some (.slice A3 l3.length c3) ∧ ∃ u0 u1 u2 u3 : Value, w'.cell? ⟨w.heap.size + 1, 0, none⟩ = some u0 ∧ w'.cell? ⟨w.heap.size + 1, 1, none⟩ = some u1 ∧ w'.cell? ⟨w.heap.size + 1, 2, none⟩ = some u2 ∧ w'.cell? ⟨w.heap.size + 1, 3, none⟩ = some u3 ∧ w'.frozen? ⟨w.heap.size + 1, 0, none⟩ = false ∧ w'.frozen? ⟨w.heap.size + 1, 1, none⟩ = false ∧ w'.frozen? ⟨w.heap.size + 1, 2, none⟩ = false ∧ w'.frozen? ⟨w.heap.size + 1, 3, none⟩ = false)
    (first
      | exact keepAl (by assumption) _
      | exact keepS HSa.out HBa.out
      | exact keepS HSa.out HBA.out
      | exact keepS HSb.out HBb.out
      | exact HS4.out
      | exact keepSet HS4.out _ _ _ _
      | exact ⟨by repeat (first | exact Below.refl _ _ | apply below_drew1 | apply below_alloc), by go_simp, by go_simp, by go_simp, by go_simp, _, _, _, _, by go_simp; rfl, by go_simp; rfl, by go_simp; rfl, by go_simp; rfl, by go_simp, by go_simp, by go_simp, by go_simp⟩)
    (first
      | (go_at_call 49
         refine (slices_Clone_int_int.calls A2 c2 l2 l2 _ (Kd.C_below HR2.out (by go_split_ands; assumption)) HC2.out (by have := H2.out; simp [slices_Clone_int_int.f]; omega)).mono ?_
         rintro e w1 ⟨va, rfl, hoa, hba⟩
         have HSa := Aside0.mk (show EhS w (.slice A0 n0 c0) (.slice A1 n1 c1) (.slice A2 l2.length c2) (.slice A3 l3.length c3) _ from by assumption)
         have HOa := Aside0.mk hoa
         have HBa := Aside0.mk hba
         have hza : _ ≤ w1.heap.size := hba.size
         have T1 := Aside0.mk (Tr_below hba)
         have HVa := Aside0.mk (show ∀ k, va.ownBlock = some k → _ ≤ k ∧ k < w1.heap.size from fun k hk => ⟨Kd.R_base hoa k hk, Kd.R_lt hoa k hk⟩)
         clear hoa hba)
      | (go_at_call 49
         refine (slices_Clone_int_int.calls A3 c3 l3 l3 _ (Kd.C_below HR3.out (by go_split_ands; assumption)) HC3.out (by have := H3.out; simp [slices_Clone_int_int.f]; omega)).mono ?_
         rintro e w3 ⟨vb, rfl, hob, hbb⟩
         have HSb := Aside0.mk (show EhS w (.slice A0 n0 c0) (.slice A1 n1 c1) (.slice A2 l2.length c2) (.slice A3 l3.length c3) _ from by assumption)
         have HOb := Aside0.mk hob
         have HBb := Aside0.mk hbb
         have hzb : _ ≤ w3.heap.size := hbb.size
         have T3 := Aside0.mk (Tr_below hbb)
         have HOC := Aside0.mk (Kd.R_below (by (with_reducible repeat (first | apply Kd.R_alloc)); exact HOA.out) hbb)
         clear hob hbb)
      | (refine' append_lit_step (p := q) vb l3 (.tmp 19) (.tmp 21) 22 (by rfl) (by rfl) Try.underlying22 eh_info3 (by rfl) (by rfl) ?aO ?aB ?aR ?aS H3.out ?_
         case aB => first | exact HBb.out | exact below_alloc HBb.out _ | exact below_alloc (below_alloc HBb.out _) _
         case aO => first | exact HOb.out | exact Kd.R_alloc HOb.out _ | exact Kd.R_alloc (Kd.R_alloc HOb.out _) _
         case aR => first
            | (go_simp; done)
            | (refine T3.out _ _ ?_ (by simp [Value.ownBlock]); go_simp; done)
            | (refine T3.out _ _ (T2.out _ _ ?_ (fun k hk => by have := HVa.out k hk; simp at this ⊢; omega)) (by simp [Value.ownBlock]); go_simp; done)
            | (refine T3.out _ _ (T2.out _ _ (T1.out _ _ ?_ (by simp [Value.ownBlock])) (fun k hk => by have := HVa.out k hk; simp at this ⊢; omega)) (by simp [Value.ownBlock]); go_simp; done)
            | (refine T3.out _ _ (T2.out _ _ (cell_al (T1.out _ _ ?_ (by simp [Value.ownBlock])) _) (fun k hk => by have := HVa.out k hk; simp at this ⊢; omega)) (by simp [Value.ownBlock]); go_simp; done)
         case aS => have := hzb; simp at this ⊢; omega
         intro v2 w4 ho hb hg
         obtain ⟨Ao2, co2, rfl⟩ := Kd.R_slice ho
         have HOB := Aside0.mk (eh_up HSb.out (Nat.le_refl _) ho)
         have HBB := Aside0.mk hb
         have HOD := Aside0.mk (show Kd.R (Kd.int .i64) 3 w4 w.heap.size (fun k => w.heap.size + 1 < k) (.slice Ao1 (l2 ++ [p]).length co1) (l2 ++ [p]) from by first | exact Kd.R_below HOA.out HBB.out | exact Kd.R_below (Kd.R_alloc HOA.out _) HBB.out)
         have HS4 := Aside0.mk (keepS HSb.out HBB.out)
         obtain ⟨_, _, _, _, _, u0, u1, u2, u3, e0, e1, e2, e3, f0, f1, f2, f3⟩ := keepS HSb.out HBB.out
         clear HR2 HR3 HC2 HC3 H2 H3 T1 T2 T3 HVa HSa HSb HBa HBb HBA HOa HOb HOA HOC hza hzb hzA HBB
         clear ho hb hg)
      | (refine' append_lit_step (p := p) va l2 (.tmp 13) (.tmp 15) 22 (by rfl) (by rfl) Try.underlying22 eh_info3 (by rfl) (by rfl) ?aO ?aB ?aR ?aS H2.out ?_
         case aB => first | exact HBa.out | exact below_alloc HBa.out _ | exact below_alloc (below_alloc HBa.out _) _
         case aO => first | exact HOa.out | exact Kd.R_alloc HOa.out _ | exact Kd.R_alloc (Kd.R_alloc HOa.out _) _
         case aR => first | (go_simp; done) | (refine T1.out _ _ ?_ (by simp [Value.ownBlock]); go_simp; done) | (refine cell_al (T1.out _ _ ?_ (by simp [Value.ownBlock])) _; go_simp; done)
         case aS => have := hza; simp at this ⊢; omega
         intro v1 w2 ho hb hg
         obtain ⟨Ao1, co1, rfl⟩ := Kd.R_slice ho
         have HOA := Aside0.mk (eh_up HSa.out (Nat.le_refl _) ho)
         have HBA := Aside0.mk hb
         have hzA : _ ≤ w2.heap.size := hg.size
         have T2 := Aside0.mk (Tr_grown hg)
         clear ho hb hg))
  all_goals
    go_wp2
    (try simp only [Exit.inBlock, Exit.then])
    refine bodyPost_ret (res4 rfl _ _ (w.heap.size + 1) (.slice A0 n0 c0) (.slice A1 n1 c1) (.slice Ao1 (l2.length + 1) co1) (.slice Ao2 (l3.length + 1) co2) rfl (by go_simp) (by go_simp) (by go_simp) (by go_simp)) rfl ?_
    exact ⟨.slice Ao1 (l2.length + 1) co1, .slice Ao2 (l3.length + 1) co2, rfl, by simpa using eh_fin HOD.out _ _ _ _, by simpa using eh_fin HOB.out _ _ _ _, (keepSet HS4.out _ _ _ _).1⟩
end Go.Proofs.Ytjabncedfjjbjaa.H
