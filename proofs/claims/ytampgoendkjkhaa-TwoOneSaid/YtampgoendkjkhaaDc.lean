/- det.Check, det.Least. -/
import Derived.Test.YtampgoendkjkhaaDv
import Derived.Test.YtampgoendkjkhaaNoB
namespace Go.Proofs.Ytampgoendkjkhaa.H
open Go.RowKit Go.Shelf Go.Proofs.YtampgoendkjkhaaW.PrintWords Go.Proofs.Ytampgoendkjkhaa.DtM
set_option linter.unusedVariables false
set_option linter.unusedSimpArgs false
def dbit (q : Int) : Bool := (q != 0) && (q != 1)
theorem dc1_calls (A : Option Addr) (c n : Nat) (L : Int) (B : Nat) (w : World) (hc : w.cell? ⟨B, 0, none⟩ = some (.int .i64 L)) :
    Calls Try.prog 156 #[.slice A n c, .pointer (some ⟨B, 0, none⟩)] w fun e w' => e = .returned (.bool ((n : Int) != L)) ∧ w = w' := by
  go_enter Try.func156, Try.ntmps156
  go_wp2
  go_ret
  exact ⟨rfl, rfl⟩
theorem dc2_calls (n q : Int) (B : Nat) (w : World) (hc : w.cell? ⟨B, 0, none⟩ = some (.int .i64 n)) :
    Calls Try.prog 157 #[.int .i64 q, .pointer (some ⟨B, 0, none⟩)] w fun e w' => e = .returned (.bool (noB n q)) ∧ w = w' := by
  by_cases h : q < 0
  · have h' : decide (q < 0) = true := decide_eq_true h
    go_enter Try.func157, Try.ntmps157
    go_wp2
    go_ret
    exact ⟨by simp [noB, h']; try rfl, rfl⟩
  · have h' : decide (q < 0) = false := decide_eq_false h
    go_enter Try.func157, Try.ntmps157
    go_wp2
    go_ret
    exact ⟨by simp [noB, h']; try rfl, rfl⟩
theorem dc3_calls (A : Option Addr) (c : Nat) (xs : List Int) (n : Int) (B B2 : Nat) (w : World) (hr : Kd.C (Kd.int .i64) w A xs.length xs) (hc : w.cell? ⟨B, 0, none⟩ = some (.int .i64 n)) (hB : B < w.heap.size)
    (hc2 : w.cell? ⟨B2, 0, none⟩ = some (.func (.func 157) #[] #[.pointer (some ⟨B, 0, none⟩)])) :
    Calls Try.prog 158 #[.slice A xs.length c, .pointer (some ⟨B2, 0, none⟩)] w fun e w' => e = .returned (.bool (xs.any (noB n))) ∧ Below w.heap.size w w' := by
  have H := ContainsFunc_int 157 #[.pointer (some ⟨B, 0, none⟩)] (enters_of Try.func157 (by kernel_rfl) rfl) (noB n) A c xs w hr
    (fun W x _ hb => (dc2_calls n x B W ((hb.cell (p := ⟨B, 0, none⟩) hB).trans hc)).mono fun e w' ⟨he, hw⟩ => ⟨he, hw ▸ hb⟩)
  clear hr
  go_enter Try.func158, Try.ntmps158
  go_wp2_with (go_at_call 66; refine H.mono ?_; rintro e w' ⟨rfl, hb'⟩)
  go_ret
  exact ⟨rfl, hb'⟩
theorem dc4_calls (q : Int) (w : World) : Calls Try.prog 159 #[.int .i64 q] w fun e w' => e = .returned (.bool (dbit q)) ∧ w = w' := by
  cases h : (q != 0) with
  | true =>
    go_enter Try.func159, Try.ntmps159
    go_wp2
    go_ret
    exact ⟨by simp [dbit, h]; try rfl, rfl⟩
  | false =>
    go_enter Try.func159, Try.ntmps159
    go_wp2
    go_ret
    exact ⟨by simp [dbit, h]; try rfl, rfl⟩
def dShape (L : Int) (nx : List (List Int)) : Bool := nx.any fun r => (r.length : Int) != L
def dOut (nx : List (List Int)) : Bool := nx.any fun r => r.any (noB nx.length)
def dCheck (L st : Int) (nx : List (List Int)) (ms : List Int) : Int :=
  if L < 1 ∨ 4 < L then 2 else if (nx.length : Int) < 1 ∨ 3000 < (nx.length : Int) then 1
  else if ms.length ≠ nx.length ∨ dShape L nx = true then 3
  else if (noB nx.length st || dOut nx) = true then 2
  else if ms.any dbit = true then 2 else 0
theorem dc_rowp (L : Int) (nx : List (List Int)) (W0 : World) (B : Nat) (hB : B < W0.heap.size) (hc : W0.cell? ⟨B, 0, none⟩ = some (.int .i64 L)) : Pred_row 156 #[.pointer (some ⟨B, 0, none⟩)] (fun r => (r.length : Int) != L) nx W0 :=
  fun W x A c _ _ _ hb => (dc1_calls A c x.length L B W ((hb.cell (p := ⟨B, 0, none⟩) hB).trans hc)).mono fun e w' ⟨he, hw⟩ => ⟨he, hw ▸ hb⟩
theorem dc_outp (nx : List (List Int)) (W0 : World) (B B2 : Nat) (n : Int) (hB : B < W0.heap.size) (hB2 : B2 < W0.heap.size) (hc : W0.cell? ⟨B, 0, none⟩ = some (.int .i64 n)) (hc2 : W0.cell? ⟨B2, 0, none⟩ = some (.func (.func 157) #[] #[.pointer (some ⟨B, 0, none⟩)])) :
    Pred_row 158 #[.pointer (some ⟨B2, 0, none⟩)] (fun r => r.any (noB n)) nx W0 :=
  fun W x A c _ _ hr hb => (dc3_calls A c x n B B2 W hr ((hb.cell (p := ⟨B, 0, none⟩) hB).trans hc) (Nat.lt_of_lt_of_le hB hb.size) ((hb.cell (p := ⟨B2, 0, none⟩) hB2).trans hc2)).mono fun e w' ⟨he, hw⟩ => ⟨he, hb.trans (hw.mono hb.size)⟩
theorem dc_bitp (xs : List Int) (W0 : World) : Pred_int 159 #[] dbit xs W0 :=
  fun W x _ hb => (dc4_calls x W).mono fun e w' ⟨he, hw⟩ => ⟨he, hw ▸ hb⟩
section
variable (L st : Int) (A2 A3 : Option Addr) (c2 c3 : Nat) (nx : List (List Int)) (ms : List Int) (w : World)
abbrev dArgs : Array Value := #[.agg #[.int .i64 L, .int .i64 st, .slice A2 nx.length c2, .slice A3 ms.length c3]]
theorem dc_L (h : L < 1 ∨ 4 < L) : Calls Try.prog 97 (dArgs L st A2 A3 c2 c3 nx ms) w fun e w' => e = .returned (.int .i64 2) ∧ Below w.heap.size w w' := by
  by_cases h1 : L < 1
  · have h1' : decide (L < 1) = true := decide_eq_true h1
    go_enter Try.func97, Try.ntmps97
    go_wp2
    go_ret
    exact ⟨rfl, (Below.refl _ _).alloc (Nat.le_refl _) _⟩
  · have h1' : decide (L < 1) = false := decide_eq_false h1
    have h2' : decide (4 < L) = true := decide_eq_true (by omega)
    go_enter Try.func97, Try.ntmps97
    go_wp2
    go_ret
    exact ⟨rfl, (Below.refl _ _).alloc (Nat.le_refl _) _⟩
theorem dc_n (h : ¬ (L < 1 ∨ 4 < L)) (hn : (nx.length : Int) < 1 ∨ 3000 < (nx.length : Int)) : Calls Try.prog 97 (dArgs L st A2 A3 c2 c3 nx ms) w fun e w' => e = .returned (.int .i64 1) ∧ Below w.heap.size w w' := by
  have h1' : decide (L < 1) = false := decide_eq_false (by omega)
  have h2' : decide (4 < L) = false := decide_eq_false (by omega)
  by_cases h1 : (nx.length : Int) < 1
  · have h3' : decide ((nx.length : Int) < 1) = true := decide_eq_true h1
    go_enter Try.func97, Try.ntmps97
    go_wp2
    go_ret
    exact ⟨rfl, ((Below.refl _ _).alloc (Nat.le_refl _) _).alloc (by simp) _⟩
  · have h3' : decide ((nx.length : Int) < 1) = false := decide_eq_false h1
    have h4' : decide (3000 < (nx.length : Int)) = true := decide_eq_true (by omega)
    go_enter Try.func97, Try.ntmps97
    go_wp2
    go_ret
    exact ⟨rfl, ((Below.refl _ _).alloc (Nat.le_refl _) _).alloc (by simp) _⟩
theorem dc_shape (h : ¬ (L < 1 ∨ 4 < L)) (hn : ¬ ((nx.length : Int) < 1 ∨ 3000 < (nx.length : Int))) (hs : ms.length ≠ nx.length ∨ dShape L nx = true)
    (hr2 : Kd.C (Kd.slice 3 (Kd.int .i64)) w A2 nx.length nx) :
    Calls Try.prog 97 (dArgs L st A2 A3 c2 c3 nx ms) w fun e w' => e = .returned (.int .i64 3) ∧ Below w.heap.size w w' := by
  have h1' : decide (L < 1) = false := decide_eq_false (by omega)
  have h2' : decide (4 < L) = false := decide_eq_false (by omega)
  have h3' : decide ((nx.length : Int) < 1) = false := decide_eq_false (by omega)
  have h4' : decide (3000 < (nx.length : Int)) = false := decide_eq_false (by omega)
  have HR := Aside0.mk hr2
  clear hr2
  by_cases hm : ms.length = nx.length
  · have hlen : ((ms.length : Int) != (nx.length : Int)) = false := by simp; omega
    have hs1 : nx.any (fun r => (r.length : Int) != L) = true := hs.resolve_left (fun h => h hm)
    have HS := Aside0.mk hs1
    clear hs hs1 hm
    go_enter Try.func97, Try.ntmps97
    go_wp2_with (go_at_call 88; refine (ContainsFunc_row 156 _ (enters_of Try.func156 (by kernel_rfl) rfl) _ A2 c2 nx _ (Kd.C_below HR.out (((Below.refl _ _).alloc (Nat.le_refl _) _).alloc (by simp) _)) (dc_rowp L nx _ w.heap.size (by simp; omega) (by simp [go_sem]))).mono ?_; rintro e w1 ⟨rfl, hb1⟩; rw [HS.out])
    go_ret
    exact ⟨rfl, (((Below.refl _ _).alloc (Nat.le_refl _) _).alloc (by simp) _).trans (hb1.mono (by simp; omega))⟩
  · have hlen : ((ms.length : Int) != (nx.length : Int)) = true := by simp; omega
    clear hs hm
    go_enter Try.func97, Try.ntmps97
    go_wp2
    go_ret
    exact ⟨rfl, ((Below.refl _ _).alloc (Nat.le_refl _) _).alloc (by simp) _⟩
end
structure DcM (w W : World) (b5 : Nat) (L st : Int) (A2 A3 : Option Addr) (n c2 m c3 : Nat) : Prop where
  b : Below w.heap.size w W
  x : W.heap[w.heap.size]? = some (.cells #[.int .i64 L, .int .i64 st, .slice A2 n c2, .slice A3 m c3] 101 (0, 0))
  n : W.heap[w.heap.size + 1]? = some (.cells #[.int .i64 (n : Int)] 3 (0, 0))
  f : W.heap[b5]? = some (.cells #[.func (.func 157) #[] #[.pointer (some ⟨w.heap.size + 1, 0, none⟩)]] 166 (0, 0))
theorem DcM.below {w W W' : World} {b5 : Nat} {L st : Int} {A2 A3 : Option Addr} {n c2 m c3 : Nat} (h : DcM w W b5 L st A2 A3 n c2 m c3) (hb : Below W.heap.size W W') : DcM w W' b5 L st A2 A3 n c2 m c3 :=
  ⟨below_step h.b hb, blk_below h.x hb, blk_below h.n hb, blk_below h.f hb⟩
section
variable (L st : Int) (A2 A3 : Option Addr) (c2 c3 : Nat) (nx : List (List Int)) (ms : List Int) (w : World)
set_option maxHeartbeats 4000000 in
set_option maxRecDepth 100000 in
theorem dc_rest (h : ¬ (L < 1 ∨ 4 < L)) (hn : ¬ ((nx.length : Int) < 1 ∨ 3000 < (nx.length : Int))) (hm : ms.length = nx.length) (hs : dShape L nx = false)
    (hr2 : Kd.C (Kd.slice 3 (Kd.int .i64)) w A2 nx.length nx) (hr3 : Kd.C (Kd.int .i64) w A3 ms.length ms) (R : Int) (hR : R = if (noB nx.length st || dOut nx) = true then 2 else if ms.any dbit = true then 2 else 0) :
    Calls Try.prog 97 (dArgs L st A2 A3 c2 c3 nx ms) w fun e w' => e = .returned (.int .i64 R) ∧ Below w.heap.size w w' := by
  have HR1 := Aside0.mk hR
  have h1' : decide (L < 1) = false := decide_eq_false (by omega)
  have h2' : decide (4 < L) = false := decide_eq_false (by omega)
  have h3' : decide ((nx.length : Int) < 1) = false := decide_eq_false (by omega)
  have h4' : decide (3000 < (nx.length : Int)) = false := decide_eq_false (by omega)
  have HR := Aside0.mk hr2
  have HR3 := Aside0.mk hr3
  have hlen : ((ms.length : Int) != (nx.length : Int)) = false := by simp; omega
  have hs1 : nx.any (fun r => (r.length : Int) != L) = false := hs
  have HS := Aside0.mk hs1
  obtain ⟨s, hs'⟩ : ∃ s, noB nx.length st = s := ⟨_, rfl⟩
  obtain ⟨o, ho⟩ : ∃ o, nx.any (fun r => r.any (noB nx.length)) = o := ⟨_, rfl⟩
  obtain ⟨m, hm'⟩ : ∃ m, ms.any dbit = m := ⟨_, rfl⟩
  have HSs := Aside0.mk hs'
  have HOo := Aside0.mk ho
  have HMm := Aside0.mk hm'
  have HRq := Aside0.mk (show R = if (s || o) = true then 2 else if m = true then 2 else 0 from by rw [HR1.out, hs', ← ho, hm']; rfl)
  have e2 : ∀ args w, (callFunc 157 args).run Try.prog w = .ok (.enter 157 args) w := enters_of Try.func157 (by kernel_rfl) rfl
  have tok1 : True := trivial
  clear hs hs1 hm hr2 hr3 hR HR1 hs' ho hm'
  cases s
  all_goals cases o
  all_goals cases m
  all_goals
    go_enter Try.func97, Try.ntmps97
    go_wp2_with (first
      | (go_at_call 88
         have _t := tok1
         refine (ContainsFunc_row 156 _ (enters_of Try.func156 (by kernel_rfl) rfl) _ A2 c2 nx _ (Kd.C_below HR.out (((Below.refl _ _).alloc (Nat.le_refl _) _).alloc (by simp) _)) (dc_rowp L nx _ w.heap.size (by simp; omega) (by simp [go_sem]))).mono ?_
         rintro e w1 ⟨rfl, hb1⟩
         rw [HS.out]
         have hB1 := Aside0.mk ((((Below.refl _ _).alloc (Nat.le_refl _) _).alloc (by simp) _).trans (hb1.mono (by simp; omega)) : Below w.heap.size w w1)
         have BX := Aside0.mk (show w1.heap[w.heap.size]? = some (.cells #[.int .i64 L, .int .i64 st, .slice A2 nx.length c2, .slice A3 ms.length c3] 101 (0, 0)) from blk_below (blk_alloc (blk_new w _) _) hb1)
         have BN := Aside0.mk (show w1.heap[w.heap.size + 1]? = some (.cells #[.int .i64 (nx.length : Int)] 3 (0, 0)) from blk_below (blk_newn _ _ _ (by simp)) hb1)
         have MM := Aside0.mk (show DcM w (w1.alloc (.cells #[.func (.func 157) #[] #[.pointer (some ⟨w.heap.size + 1, 0, none⟩)]] 166)) w1.heap.size L st A2 A3 nx.length c2 ms.length c3 from
           ⟨below_alloc hB1.out _, blk_alloc BX.out _, blk_alloc BN.out _, blk_new w1 _⟩)
         have k1 : w1.cell? ⟨w.heap.size, 1, none⟩ = some (.int .i64 st) := (blk_cell BX.out 1).trans rfl
         have k2 : w1.cell? ⟨w.heap.size, 2, none⟩ = some (.slice A2 nx.length c2) := (blk_cell BX.out 2).trans rfl
         have k3 : w1.cell? ⟨w.heap.size, 3, none⟩ = some (.slice A3 ms.length c3) := (blk_cell BX.out 3).trans rfl
         have kn : w1.cell? ⟨w.heap.size + 1, 0, none⟩ = some (.int .i64 (nx.length : Int)) := (blk_cell BN.out 0).trans rfl
         have hz : w.heap.size + 1 < w1.heap.size := blk_lt BN.out
         have hz0 : w.heap.size < w1.heap.size := by omega
         clear hb1 BX BN tok1)
      | (go_at_call 157
         refine (dc2_calls nx.length st (w.heap.size + 1) _ (by go_simp)).mono ?_
         rintro e w2 ⟨rfl, rfl⟩
         rw [HSs.out])
      | (go_at_call 88
         refine (ContainsFunc_row 158 _ (enters_of Try.func158 (by kernel_rfl) rfl) _ A2 c2 nx _ (Kd.C_below HR.out MM.out.b) (dc_outp nx _ (w.heap.size + 1) w1.heap.size nx.length (blk_lt MM.out.n) (blk_lt MM.out.f) ((blk_cell MM.out.n 0).trans rfl) ((blk_cell MM.out.f 0).trans rfl))).mono ?_
         rintro e w4 ⟨rfl, hb4⟩
         rw [HOo.out]
         have M4 := Aside0.mk (MM.out.below hb4)
         have B4 := Aside0.mk (below_step (below_alloc hB1.out _) hb4)
         have q3 : w4.cell? ⟨w.heap.size, 3, none⟩ = some (.slice A3 ms.length c3) := (blk_cell M4.out.x 3).trans rfl
         have qz : w.heap.size < w4.heap.size := blk_lt M4.out.x
         clear hb4)
      | (go_at_call 66
         refine (ContainsFunc_int 159 _ (enters_of Try.func159 (by kernel_rfl) rfl) dbit A3 c3 ms _ (Kd.C_below HR3.out B4.out) (dc_bitp ms _)).mono ?_
         rintro e w5 ⟨rfl, hb5⟩
         rw [HMm.out]
         have B5 := Aside0.mk (below_step B4.out hb5)
         clear hb5)
      | fail)
    go_ret
    exact ⟨by rw [HRq.out]; rfl, by first | exact B5.out | exact B4.out | exact below_alloc hB1.out _⟩
theorem det_Check_at (hr2 : Kd.C (Kd.slice 3 (Kd.int .i64)) w A2 nx.length nx) (hr3 : Kd.C (Kd.int .i64) w A3 ms.length ms) :
    Calls Try.prog 97 (dArgs L st A2 A3 c2 c3 nx ms) w fun e w' => e = .returned (.int .i64 (dCheck L st nx ms)) ∧ Below w.heap.size w w' := by
  unfold dCheck
  by_cases h : L < 1 ∨ 4 < L
  · rw [if_pos h]; exact dc_L L st A2 A3 c2 c3 nx ms w h
  · rw [if_neg h]
    by_cases hn : (nx.length : Int) < 1 ∨ 3000 < (nx.length : Int)
    · rw [if_pos hn]; exact dc_n L st A2 A3 c2 c3 nx ms w h hn
    · rw [if_neg hn]
      by_cases hs : ms.length ≠ nx.length ∨ dShape L nx = true
      · rw [if_pos hs]; exact dc_shape L st A2 A3 c2 c3 nx ms w h hn hs hr2
      · rw [if_neg hs]
        refine dc_rest L st A2 A3 c2 c3 nx ms w h hn ?_ ?_ hr2 hr3 _ rfl
        · exact Classical.byContradiction fun q => hs (.inl q)
        · exact Bool.not_eq_true _ ▸ fun q => hs (.inr q)
end
end Go.Proofs.Ytampgoendkjkhaa.H
