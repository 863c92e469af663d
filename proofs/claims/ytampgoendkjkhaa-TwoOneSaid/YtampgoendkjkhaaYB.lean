/- Who goes to and fro, and who goes one way: the walk of the given package, with its plain law. -/
import Derived.Test.YtampgoendkjkhaaDc
import Derived.Test.YtampgoendkjkhaaYA
import Derived.Test.YtampgoendkjkhaaDv
namespace Go.Proofs.Ytampgoendkjkhaa.H
open Go.RowKit Go.Shelf Go.Proofs.YtampgoendkjkhaaW.PrintWords Go.Proofs.Ytampgoendkjkhaa.DtM
set_option linter.unusedVariables false
set_option linter.unusedSimpArgs false
theorem tc1_calls (A : Option Addr) (c n : Nat) (L : Int) (B : Nat) (w : World) (hL : 1 ≤ L ∧ L ≤ 4) (hc : w.cell? ⟨B, 0, none⟩ = some (.int .i64 L)) :
    Calls Try.prog 164 #[.slice A n c, .pointer (some ⟨B, 0, none⟩)] w fun e w' => e = .returned (.bool ((n : Int) != L + 2)) ∧ w = w' := by
  obtain ⟨z, hz⟩ : ∃ z : Int, z = L + 2 := ⟨_, rfl⟩
  have hw : IntKind.i64.wrap (L + 2) = z := (IntWalk.i64_in _ (by omega)).trans hz.symm
  rw [← hz]
  clear hz hL
  go_enter Try.func164, Try.ntmps164
  go_wp2
  go_ret
  exact ⟨rfl, rfl⟩
theorem tc2_calls (n q : Int) (B : Nat) (w : World) (hc : w.cell? ⟨B, 0, none⟩ = some (.int .i64 n)) :
    Calls Try.prog 165 #[.int .i64 q, .pointer (some ⟨B, 0, none⟩)] w fun e w' => e = .returned (.bool (noB n q)) ∧ w = w' := by
  by_cases h : q < 0
  · have h' : decide (q < 0) = true := decide_eq_true h
    go_enter Try.func165, Try.ntmps165
    go_wp2
    go_ret
    exact ⟨by simp [noB, h']; try rfl, rfl⟩
  · have h' : decide (q < 0) = false := decide_eq_false h
    go_enter Try.func165, Try.ntmps165
    go_wp2
    go_ret
    exact ⟨by simp [noB, h']; try rfl, rfl⟩
def eBad (n : Int) (x : Int × Int) : Bool := noB n x.1 || ((x.2 != 1) && (x.2 != -1))
theorem tc31_calls (n x0 x1 : Int) (B B2 : Nat) (w : World) (hc : w.cell? ⟨B, 0, none⟩ = some (.int .i64 n)) (hB : B < w.heap.size) (hB2 : B2 < w.heap.size)
    (hc2 : w.cell? ⟨B2, 0, none⟩ = some (.func (.func 165) #[] #[.pointer (some ⟨B, 0, none⟩)])) :
    Calls Try.prog 168 #[.agg #[.int .i64 x0, .int .i64 x1], .pointer (some ⟨B2, 0, none⟩)] w fun e w' => e = .returned (.bool (eBad n (x0, x1))) ∧ Below w.heap.size w w' := by
  have HB := Aside0.mk (below_alloc (Below.refl w.heap.size w) (.cells #[.int .i64 x0, .int .i64 x1] 111))
  have HE := Aside0.mk (show eBad n (x0, x1) = (noB n x0 || ((x1 != 1) && (x1 != -1))) from rfl)
  have HC := Aside0.mk (pw_cell_below HB.out hc)
  have e2 : ∀ args w, (callFunc 165 args).run Try.prog w = .ok (.enter 165 args) w := enters_of Try.func165 (by kernel_rfl) rfl
  cases h0 : noB n x0 with
  | true =>
    rw [h0] at HE
    go_enter Try.func168, Try.ntmps168
    go_wp2_with (go_at_call 165; refine (tc2_calls n x0 B _ HC.out).mono ?_; rintro e w2 ⟨rfl, rfl⟩; rw [h0])
    go_ret
    exact ⟨by rw [HE.out]; rfl, HB.out⟩
  | false =>
    rw [h0] at HE
    cases h1 : (x1 != 1) with
    | false =>
      rw [h1] at HE
      go_enter Try.func168, Try.ntmps168
      go_wp2_with (go_at_call 165; refine (tc2_calls n x0 B _ HC.out).mono ?_; rintro e w2 ⟨rfl, rfl⟩; rw [h0])
      go_ret
      exact ⟨by rw [HE.out]; rfl, HB.out⟩
    | true =>
      rw [h1] at HE
      go_enter Try.func168, Try.ntmps168
      go_wp2_with (go_at_call 165; refine (tc2_calls n x0 B _ HC.out).mono ?_; rintro e w2 ⟨rfl, rfl⟩; rw [h0])
      go_ret
      exact ⟨by rw [HE.out]; simp, HB.out⟩
theorem tc3_calls (A : Option Addr) (c : Nat) (xs : List (Int × Int)) (n : Int) (B B2 : Nat) (w : World) (hr : Kd.C kD2 w A xs.length xs) (hc : w.cell? ⟨B, 0, none⟩ = some (.int .i64 n)) (hB : B < w.heap.size) (hB2 : B2 < w.heap.size)
    (hc2 : w.cell? ⟨B2, 0, none⟩ = some (.func (.func 165) #[] #[.pointer (some ⟨B, 0, none⟩)])) :
    Calls Try.prog 166 #[.slice A xs.length c, .pointer (some ⟨B2, 0, none⟩)] w fun e w' => e = .returned (.bool (xs.any (eBad n))) ∧ Below w.heap.size w w' := by
  have H := ContainsFunc_p2 168 #[.pointer (some ⟨B2, 0, none⟩)] (enters_of Try.func168 (by kernel_rfl) rfl) (eBad n) A c xs w hr
    (fun W x0 x1 _ hb => (tc31_calls n x0 x1 B B2 W ((hb.cell (p := ⟨B, 0, none⟩) hB).trans hc) (Nat.lt_of_lt_of_le hB hb.size) (Nat.lt_of_lt_of_le hB2 hb.size) ((hb.cell (p := ⟨B2, 0, none⟩) hB2).trans hc2)).mono fun e w' ⟨he, hw⟩ => ⟨he, below_step hb hw⟩)
  clear hr
  go_enter Try.func166, Try.ntmps166
  go_wp2_with (go_at_call 167; refine H.mono ?_; rintro e w' ⟨rfl, hb'⟩)
  go_ret
  exact ⟨rfl, hb'⟩
theorem tc4_calls (q : Int) (w : World) : Calls Try.prog 169 #[.int .i64 q] w fun e w' => e = .returned (.bool (dbit q)) ∧ w = w' := by
  cases h : (q != 0) with
  | true =>
    go_enter Try.func169, Try.ntmps169
    go_wp2
    go_ret
    exact ⟨by simp [dbit, h]; try rfl, rfl⟩
  | false =>
    go_enter Try.func169, Try.ntmps169
    go_wp2
    go_ret
    exact ⟨by simp [dbit, h]; try rfl, rfl⟩
def tShape (L : Int) (nx : List (List (Int × Int))) : Bool := nx.any fun r => (r.length : Int) != L + 2
def tOut (nx : List (List (Int × Int))) : Bool := nx.any fun r => r.any (eBad nx.length)
def ckT (L st : Int) (nx : List (List (Int × Int))) (ms : List Int) : Int :=
  if L < 1 ∨ 4 < L then 2 else if (nx.length : Int) < 1 ∨ 4 < (nx.length : Int) then 1
  else if ms.length ≠ nx.length ∨ tShape L nx = true then 3
  else if ((noB nx.length st || tOut nx) || ms.any dbit) = true then 2 else 0
theorem tc_rowp (L : Int) (hL : 1 ≤ L ∧ L ≤ 4) (nx : List (List (Int × Int))) (W0 : World) (B : Nat) (hB : B < W0.heap.size) (hc : W0.cell? ⟨B, 0, none⟩ = some (.int .i64 L)) : Pred_rp2 164 #[.pointer (some ⟨B, 0, none⟩)] (fun r => (r.length : Int) != L + 2) nx W0 :=
  fun W x A c _ _ _ hb => (tc1_calls A c x.length L B W hL ((hb.cell (p := ⟨B, 0, none⟩) hB).trans hc)).mono fun e w' ⟨he, hw⟩ => ⟨he, hw ▸ hb⟩
theorem tc_outp (nx : List (List (Int × Int))) (W0 : World) (B B2 : Nat) (n : Int) (hB : B < W0.heap.size) (hB2 : B2 < W0.heap.size) (hc : W0.cell? ⟨B, 0, none⟩ = some (.int .i64 n)) (hc2 : W0.cell? ⟨B2, 0, none⟩ = some (.func (.func 165) #[] #[.pointer (some ⟨B, 0, none⟩)])) :
    Pred_rp2 166 #[.pointer (some ⟨B2, 0, none⟩)] (fun r => r.any (eBad n)) nx W0 :=
  fun W x A c _ _ hr hb => (tc3_calls A c x n B B2 W hr ((hb.cell (p := ⟨B, 0, none⟩) hB).trans hc) (Nat.lt_of_lt_of_le hB hb.size) (Nat.lt_of_lt_of_le hB2 hb.size) ((hb.cell (p := ⟨B2, 0, none⟩) hB2).trans hc2)).mono fun e w' ⟨he, hw⟩ => ⟨he, hb.trans (hw.mono hb.size)⟩
theorem tc_bitp (xs : List Int) (W0 : World) : Pred_int 169 #[] dbit xs W0 :=
  fun W x _ hb => (tc4_calls x W).mono fun e w' ⟨he, hw⟩ => ⟨he, hw ▸ hb⟩
section
variable (L st : Int) (A2 A3 : Option Addr) (c2 c3 : Nat) (nx : List (List (Int × Int))) (ms : List Int) (w : World)
abbrev tArgs : Array Value := #[.agg #[.int .i64 L, .int .i64 st, .slice A2 nx.length c2, .slice A3 ms.length c3]]
theorem tc_L (h : L < 1 ∨ 4 < L) : Calls Try.prog 99 (tArgs L st A2 A3 c2 c3 nx ms) w fun e w' => e = .returned (.int .i64 2) ∧ Below w.heap.size w w' := by
  by_cases h1 : L < 1
  · have h1' : decide (L < 1) = true := decide_eq_true h1
    go_enter Try.func99, Try.ntmps99
    go_wp2
    go_ret
    exact ⟨rfl, (Below.refl _ _).alloc (Nat.le_refl _) _⟩
  · have h1' : decide (L < 1) = false := decide_eq_false h1
    have h2' : decide (4 < L) = true := decide_eq_true (by omega)
    go_enter Try.func99, Try.ntmps99
    go_wp2
    go_ret
    exact ⟨rfl, (Below.refl _ _).alloc (Nat.le_refl _) _⟩
theorem tc_n (h : ¬ (L < 1 ∨ 4 < L)) (hn : (nx.length : Int) < 1 ∨ 4 < (nx.length : Int)) : Calls Try.prog 99 (tArgs L st A2 A3 c2 c3 nx ms) w fun e w' => e = .returned (.int .i64 1) ∧ Below w.heap.size w w' := by
  have h1' : decide (L < 1) = false := decide_eq_false (by omega)
  have h2' : decide (4 < L) = false := decide_eq_false (by omega)
  by_cases h1 : (nx.length : Int) < 1
  · have h3' : decide ((nx.length : Int) < 1) = true := decide_eq_true h1
    go_enter Try.func99, Try.ntmps99
    go_wp2
    go_ret
    exact ⟨rfl, ((Below.refl _ _).alloc (Nat.le_refl _) _).alloc (by simp) _⟩
  · have h3' : decide ((nx.length : Int) < 1) = false := decide_eq_false h1
    have h4' : decide (4 < (nx.length : Int)) = true := decide_eq_true (by omega)
    go_enter Try.func99, Try.ntmps99
    go_wp2
    go_ret
    exact ⟨rfl, ((Below.refl _ _).alloc (Nat.le_refl _) _).alloc (by simp) _⟩
theorem tc_shape (h : ¬ (L < 1 ∨ 4 < L)) (hn : ¬ ((nx.length : Int) < 1 ∨ 4 < (nx.length : Int))) (hs : ms.length ≠ nx.length ∨ tShape L nx = true)
    (hr2 : Kd.C (Kd.slice 111 kD2) w A2 nx.length nx) :
    Calls Try.prog 99 (tArgs L st A2 A3 c2 c3 nx ms) w fun e w' => e = .returned (.int .i64 3) ∧ Below w.heap.size w w' := by
  have h1' : decide (L < 1) = false := decide_eq_false (by omega)
  have h2' : decide (4 < L) = false := decide_eq_false (by omega)
  have h3' : decide ((nx.length : Int) < 1) = false := decide_eq_false (by omega)
  have h4' : decide (4 < (nx.length : Int)) = false := decide_eq_false (by omega)
  have HR := Aside0.mk hr2
  clear hr2
  by_cases hm : ms.length = nx.length
  · have hlen : ((ms.length : Int) != (nx.length : Int)) = false := by simp; omega
    have hs1 : nx.any (fun r => (r.length : Int) != L + 2) = true := hs.resolve_left (fun h => h hm)
    have HS := Aside0.mk hs1
    clear hs hs1 hm
    go_enter Try.func99, Try.ntmps99
    go_wp2_with (go_at_call 163; refine (ContainsFunc_rp2 164 _ (enters_of Try.func164 (by kernel_rfl) rfl) _ A2 c2 nx _ (Kd.C_below HR.out (((Below.refl _ _).alloc (Nat.le_refl _) _).alloc (by simp) _)) (tc_rowp L (by omega) nx _ w.heap.size (by simp; omega) (by simp [go_sem]))).mono ?_; rintro e w1 ⟨rfl, hb1⟩; rw [HS.out])
    go_ret
    exact ⟨rfl, (((Below.refl _ _).alloc (Nat.le_refl _) _).alloc (by simp) _).trans (hb1.mono (by simp; omega))⟩
  · have hlen : ((ms.length : Int) != (nx.length : Int)) = true := by simp; omega
    clear hs hm
    go_enter Try.func99, Try.ntmps99
    go_wp2
    go_ret
    exact ⟨rfl, ((Below.refl _ _).alloc (Nat.le_refl _) _).alloc (by simp) _⟩
end
structure TcM (w W : World) (b5 : Nat) (L st : Int) (A2 A3 : Option Addr) (n c2 m c3 : Nat) : Prop where
  b : Below w.heap.size w W
  x : W.heap[w.heap.size]? = some (.cells #[.int .i64 L, .int .i64 st, .slice A2 n c2, .slice A3 m c3] 110 (0, 0))
  n : W.heap[w.heap.size + 1]? = some (.cells #[.int .i64 (n : Int)] 3 (0, 0))
  f : W.heap[b5]? = some (.cells #[.func (.func 165) #[] #[.pointer (some ⟨w.heap.size + 1, 0, none⟩)]] 166 (0, 0))
theorem TcM.below {w W W' : World} {b5 : Nat} {L st : Int} {A2 A3 : Option Addr} {n c2 m c3 : Nat} (h : TcM w W b5 L st A2 A3 n c2 m c3) (hb : Below W.heap.size W W') : TcM w W' b5 L st A2 A3 n c2 m c3 :=
  ⟨below_step h.b hb, blk_below h.x hb, blk_below h.n hb, blk_below h.f hb⟩
section
variable (L st : Int) (A2 A3 : Option Addr) (c2 c3 : Nat) (nx : List (List (Int × Int))) (ms : List Int) (w : World)
set_option maxHeartbeats 4000000 in
set_option maxRecDepth 100000 in
theorem tc_rest (h : ¬ (L < 1 ∨ 4 < L)) (hn : ¬ ((nx.length : Int) < 1 ∨ 4 < (nx.length : Int))) (hm : ms.length = nx.length) (hs : tShape L nx = false)
    (hr2 : Kd.C (Kd.slice 111 kD2) w A2 nx.length nx) (hr3 : Kd.C (Kd.int .i64) w A3 ms.length ms) (R : Int) (hR : R = if ((noB nx.length st || tOut nx) || ms.any dbit) = true then 2 else 0) :
    Calls Try.prog 99 (tArgs L st A2 A3 c2 c3 nx ms) w fun e w' => e = .returned (.int .i64 R) ∧ Below w.heap.size w w' := by
  have HR1 := Aside0.mk hR
  have h1' : decide (L < 1) = false := decide_eq_false (by omega)
  have h2' : decide (4 < L) = false := decide_eq_false (by omega)
  have h3' : decide ((nx.length : Int) < 1) = false := decide_eq_false (by omega)
  have h4' : decide (4 < (nx.length : Int)) = false := decide_eq_false (by omega)
  have HR := Aside0.mk hr2
  have HR3 := Aside0.mk hr3
  have hlen : ((ms.length : Int) != (nx.length : Int)) = false := by simp; omega
  have hs1 : nx.any (fun r => (r.length : Int) != L + 2) = false := hs
  have HS := Aside0.mk hs1
  obtain ⟨s, hs'⟩ : ∃ s, noB nx.length st = s := ⟨_, rfl⟩
  obtain ⟨o, ho⟩ : ∃ o, nx.any (fun r => r.any (eBad nx.length)) = o := ⟨_, rfl⟩
  obtain ⟨m, hm'⟩ : ∃ m, ms.any dbit = m := ⟨_, rfl⟩
  have HSs := Aside0.mk hs'
  have HOo := Aside0.mk ho
  have HMm := Aside0.mk hm'
  have HRq := Aside0.mk (show R = if ((s || o) || m) = true then 2 else 0 from by rw [HR1.out, hs', ← ho, hm']; rfl)
  have e2 : ∀ args w, (callFunc 165 args).run Try.prog w = .ok (.enter 165 args) w := enters_of Try.func165 (by kernel_rfl) rfl
  have tok1 : True := trivial
  clear hs hs1 hm hr2 hr3 hR HR1 hs' ho hm'
  cases s
  all_goals cases o
  all_goals cases m
  all_goals
    go_enter Try.func99, Try.ntmps99
    go_wp2_with (first
      | (go_at_call 163
         have _t := tok1
         refine (ContainsFunc_rp2 164 _ (enters_of Try.func164 (by kernel_rfl) rfl) _ A2 c2 nx _ (Kd.C_below HR.out (((Below.refl _ _).alloc (Nat.le_refl _) _).alloc (by simp) _)) (tc_rowp L (by omega) nx _ w.heap.size (by simp; omega) (by simp [go_sem]))).mono ?_
         rintro e w1 ⟨rfl, hb1⟩
         rw [HS.out]
         have hB1 := Aside0.mk ((((Below.refl _ _).alloc (Nat.le_refl _) _).alloc (by simp) _).trans (hb1.mono (by simp; omega)) : Below w.heap.size w w1)
         have BX := Aside0.mk (show w1.heap[w.heap.size]? = some (.cells #[.int .i64 L, .int .i64 st, .slice A2 nx.length c2, .slice A3 ms.length c3] 110 (0, 0)) from blk_below (blk_alloc (blk_new w _) _) hb1)
         have BN := Aside0.mk (show w1.heap[w.heap.size + 1]? = some (.cells #[.int .i64 (nx.length : Int)] 3 (0, 0)) from blk_below (blk_newn _ _ _ (by simp)) hb1)
         have MM := Aside0.mk (show TcM w (w1.alloc (.cells #[.func (.func 165) #[] #[.pointer (some ⟨w.heap.size + 1, 0, none⟩)]] 166)) w1.heap.size L st A2 A3 nx.length c2 ms.length c3 from
           ⟨below_alloc hB1.out _, blk_alloc BX.out _, blk_alloc BN.out _, blk_new w1 _⟩)
         have k1 : w1.cell? ⟨w.heap.size, 1, none⟩ = some (.int .i64 st) := (blk_cell BX.out 1).trans rfl
         have k2 : w1.cell? ⟨w.heap.size, 2, none⟩ = some (.slice A2 nx.length c2) := (blk_cell BX.out 2).trans rfl
         have k3 : w1.cell? ⟨w.heap.size, 3, none⟩ = some (.slice A3 ms.length c3) := (blk_cell BX.out 3).trans rfl
         have kn : w1.cell? ⟨w.heap.size + 1, 0, none⟩ = some (.int .i64 (nx.length : Int)) := (blk_cell BN.out 0).trans rfl
         have hz : w.heap.size + 1 < w1.heap.size := blk_lt BN.out
         have hz0 : w.heap.size < w1.heap.size := by omega
         clear hb1 BX BN tok1)
      | (go_at_call 165
         refine (tc2_calls nx.length st (w.heap.size + 1) _ (by go_simp)).mono ?_
         rintro e w2 ⟨rfl, rfl⟩
         rw [HSs.out])
      | (go_at_call 163
         refine (ContainsFunc_rp2 166 _ (enters_of Try.func166 (by kernel_rfl) rfl) _ A2 c2 nx _ (Kd.C_below HR.out MM.out.b) (tc_outp nx _ (w.heap.size + 1) w1.heap.size nx.length (blk_lt MM.out.n) (blk_lt MM.out.f) ((blk_cell MM.out.n 0).trans rfl) ((blk_cell MM.out.f 0).trans rfl))).mono ?_
         rintro e w4 ⟨rfl, hb4⟩
         rw [HOo.out]
         have M4 := Aside0.mk (MM.out.below hb4)
         have B4 := Aside0.mk (below_step (below_alloc hB1.out _) hb4)
         have q3 : w4.cell? ⟨w.heap.size, 3, none⟩ = some (.slice A3 ms.length c3) := (blk_cell M4.out.x 3).trans rfl
         have qz : w.heap.size < w4.heap.size := blk_lt M4.out.x
         clear hb4)
      | (go_at_call 66
         refine (ContainsFunc_int 169 _ (enters_of Try.func169 (by kernel_rfl) rfl) dbit A3 c3 ms _ (Kd.C_below HR3.out B4.out) (tc_bitp ms _)).mono ?_
         rintro e w5 ⟨rfl, hb5⟩
         rw [HMm.out]
         have B5 := Aside0.mk (below_step B4.out hb5)
         clear hb5)
      | fail)
    go_ret
    exact ⟨by rw [HRq.out]; rfl, by first | exact B5.out | exact B4.out | exact below_alloc hB1.out _⟩
theorem two_Check_at (hr2 : Kd.C (Kd.slice 111 kD2) w A2 nx.length nx) (hr3 : Kd.C (Kd.int .i64) w A3 ms.length ms) :
    Calls Try.prog 99 (tArgs L st A2 A3 c2 c3 nx ms) w fun e w' => e = .returned (.int .i64 (ckT L st nx ms)) ∧ Below w.heap.size w w' := by
  unfold ckT
  by_cases h : L < 1 ∨ 4 < L
  · rw [if_pos h]; exact tc_L L st A2 A3 c2 c3 nx ms w h
  · rw [if_neg h]
    by_cases hn : (nx.length : Int) < 1 ∨ 4 < (nx.length : Int)
    · rw [if_pos hn]; exact tc_n L st A2 A3 c2 c3 nx ms w h hn
    · rw [if_neg hn]
      by_cases hs : ms.length ≠ nx.length ∨ tShape L nx = true
      · rw [if_pos hs]; exact tc_shape L st A2 A3 c2 c3 nx ms w h hn hs hr2
      · rw [if_neg hs]
        refine tc_rest L st A2 A3 c2 c3 nx ms w h hn ?_ ?_ hr2 hr3 _ rfl
        · exact Classical.byContradiction fun q => hs (.inl q)
        · exact Bool.not_eq_true _ ▸ fun q => hs (.inr q)
end
end Go.Proofs.Ytampgoendkjkhaa.H

namespace Go.Proofs.Ytampgoendkjkhaa.H
open Go.RowKit Go.Shelf Go.Proofs.YtampgoendkjkhaaW.PrintWords Go.Proofs.Ytampgoendkjkhaa.DtM
set_option linter.unusedVariables false
set_option linter.unusedSimpArgs false
theorem d_get {W : World} {A : Option Addr} {nx : List (List (Int × Int))} (h : Kd.C (Kd.slice 111 kD2) W A nx.length nx) {q a : Nat} (hq : q < nx.length) (ha : a < nx[q].length) :
    ∃ ad c4 ad2, A = some ad ∧ W.cell? (ad.add q) = some (.slice (some ad2) nx[q].length c4) ∧ W.cell? (ad2.add (a * 2)) = some (.int .i64 nx[q][a].1) ∧ W.cell? ⟨(ad2.add (a * 2)).block, (ad2.add (a * 2)).off + 1, none⟩ = some (.int .i64 nx[q][a].2) := by
  obtain ⟨ad, ec, e0, _, ⟨A4, c4, rfl, hle, hro⟩, hc0⟩ := Kd.C_get h [] (q : Int) (by omega) (by omega)
  have hx : nx.getD ((q : Int).toNat) [] = nx[q] := by simp [List.getD_eq_getElem?_getD, hq]
  rw [hx] at hle hro hc0
  have h0 : W.cell? (ad.add q) = some (.slice A4 nx[q].length c4) := by simpa [Kd.slice] using hc0 0 _ rfl
  obtain ⟨ad2, e2, hc⟩ := arr_get hro rfl ha
  subst e2
  have h1 := hc 0 nx[q][a].1 rfl
  have h2 := hc 1 nx[q][a].2 rfl
  rw [show ad2.add (a * 2 + 0) = ad2.add (a * 2) from rfl] at h1
  rw [show ad2.add (a * 2 + 1) = ⟨(ad2.add (a * 2)).block, (ad2.add (a * 2)).off + 1, none⟩ from by rw [← Addr.add_add, add_pos _ (by omega)]] at h2
  exact ⟨ad, c4, ad2, e0, h0, h1, h2⟩
abbrev tabV (s : K5) : Value := .agg #[.int .i64 s.1, .int .i64 s.2.1, .int .i64 s.2.2.1, .int .i64 s.2.2.2.1, .int .i64 s.2.2.2.2]
abbrev tabC (s : K5) : Array Value := #[.int .i64 s.1, .int .i64 s.2.1, .int .i64 s.2.2.1, .int .i64 s.2.2.2.1, .int .i64 s.2.2.2.2]
theorem tab_cell {W : World} {b : Nat} {s : K5} (h : W.heap[b]? = some (.cells (tabC s) 201 (0, 0))) {p : Nat} (hp : p < 5) : W.cell? ⟨b, p, none⟩ = some (.int .i64 (tabAt s (p : Int))) := by
  refine (blk_cell h p).trans ?_
  match p, hp with
  | 0, _ => rfl
  | 1, _ => rfl
  | 2, _ => rfl
  | 3, _ => rfl
  | 4, _ => rfl
/-- what Det's closures read: the machine's box, the number of states -/
structure TwB (W : World) (bt bn : Nat) (L : Nat) (start : Int) (A2 A3 : Option Addr) (c2 c3 : Nat) (nx : List (List (Int × Int))) (mk : List Int) : Prop where
  t : W.heap[bt]? = some (.cells #[.int .i64 (L : Int), .int .i64 start, .slice A2 nx.length c2, .slice A3 mk.length c3] 110 (0, 0))
  n : W.heap[bn]? = some (.cells #[.int .i64 (nx.length : Int)] 3 (0, 0))
  rows : Kd.C (Kd.slice 111 kD2) W A2 nx.length nx
  mks : Kd.C (Kd.int .i64) W A3 mk.length mk
theorem TwB.below {W W' : World} {bt bn L : Nat} {start : Int} {A2 A3 : Option Addr} {c2 c3 : Nat} {nx : List (List (Int × Int))} {mk : List Int} (h : TwB W bt bn L start A2 A3 c2 c3 nx mk) (hb : Below W.heap.size W W') : TwB W' bt bn L start A2 A3 c2 c3 nx mk :=
  ⟨blk_below h.t hb, blk_below h.n hb, Kd.C_below h.rows hb, Kd.C_below h.mks hb⟩
set_option maxHeartbeats 4000000 in
set_option maxRecDepth 100000 in
theorem lv_calls {L : Nat} {start : Int} {nx : List (List (Int × Int))} {mk : List Int} (hM : TwM L start nx mk) (w : World) (bt bn : Nat) (A2 A3 : Option Addr) (c2 c3 : Nat) (hB : TwB w bt bn L start A2 A3 c2 c3 nx mk) (s : K5) (hs : InT nx.length s) (q a : Int) (h1 : 0 ≤ q) (h2 : q < (nx.length : Int)) (ha : LaT L a) :
    Calls Try.prog 100 #[tabV s, .bool false, .int .i64 q, .int .i64 a, .pointer (some ⟨bn, 0, none⟩), .pointer (some ⟨bt, 0, none⟩)] w fun e w' => e = .returned (.int .i64 (lvT nx s a q)) ∧ Below w.heap.size w w' := by
  have HM := Aside0.mk hM
  have HB := Aside0.mk hB
  have HS := Aside0.mk hs
  have HA := Aside0.mk ha
  have HQ := Aside0.mk (And.intro h1 h2)
  obtain ⟨r, hr⟩ : ∃ r, r = lvT nx s a q := ⟨_, rfl⟩
  rw [← hr]
  have HR0 := Aside0.mk (show lvF (dT nx) (tabAt s) a (nx.length + 1 - 0) q = r from hr.symm)
  obtain ⟨a', rfl⟩ : ∃ a' : Nat, a = (a' : Int) := ⟨a.toNat, by have := ha.1; omega⟩
  have hw1 : IntKind.i64.wrap ((nx.length : Int) + 1) = ((nx.length + 1 : Nat) : Int) := (IntWalk.i64_in _ (by have := hM.n4; omega)).trans (by omega)
  have X6 := Aside0.mk (blk_new w (.cells (tabC s) 201 (0, 0)))
  have B6 := Aside0.mk (below_alloc (Below.refl w.heap.size w) (.cells (tabC s) 201))
  clear hM hB hs ha h1 h2 hr
  go_enter Try.func100, Try.ntmps100
  go_upto_region 1 with fail
  obtain ⟨b6, hb6⟩ : ∃ b6, b6 = w.heap.size := ⟨_, rfl⟩
  rw [← hb6] at X6 ⊢
  clear hb6
  generalize w.alloc (.cells #[.int .i64 s.1, .int .i64 s.2.1, .int .i64 s.2.2.1, .int .i64 s.2.2.2.1, .int .i64 s.2.2.2.2] 201) = W1 at X6 B6 ⊢
  have HB1 := Aside0.mk (HB.out.below B6.out)
  clear HB
  have qn : W1.cell? ⟨bn, 0, none⟩ = some (.int .i64 (nx.length : Int)) := (blk_cell HB1.out.n 0).trans rfl
  go_wp2_with fail
  go_loopg [2, 14] (nx.length + 1) (fun gg s2 s14 wr => ∃ (i : Nat) (q : Int), i ≤ nx.length + 1 ∧ nx.length + 1 - i ≤ gg ∧ s2 = .int .i64 q ∧ s14 = .int .i64 (i : Int) ∧ Aside0 (0 ≤ q ∧ q < (nx.length : Int)) ∧ Aside0 (lvF (dT nx) (tabAt s) (a' : Int) (nx.length + 1 - i) q = r) ∧ Aside0 (Below W1.heap.size W1 wr))
  case atStart => exact ⟨0, q, Nat.zero_le _, by omega, rfl, rfl, HQ, HR0, ⟨Below.refl _ _⟩⟩
  case round =>
    obtain ⟨i, q, hi, hgg, rfl, rfl, HQI, HRI, BR⟩ := hrel
    clear HQ HR0 qn
    by_cases hlt : i < nx.length + 1
    · have hltz : (i : Int) < ((nx.length + 1 : Nat) : Int) := by omega
      have hi5 : (i : Int) ≤ 5 := by have := HM.out.n4; omega
      have HBR := Aside0.mk (HB1.out.below BR.out)
      obtain ⟨q', a2, hq, ha2, e1, e2, e3⟩ := HM.out.at HQI.out.1 HQI.out.2 HA.out
      obtain rfl : a' = a2 := by omega
      subst e1
      obtain ⟨ad, c4, ad2, eA, z0, z1, z2⟩ := d_get HBR.out.rows hq ha2
      cases eA
      have HD := Aside0.mk e3
      have HX := Aside0.mk (HM.out.ent _ (List.getElem_mem hq) _ (List.getElem_mem ha2))
      have HRI2 := Aside0.mk (show (if (dT nx (q' : Int) (a' : Int)).2 = 1 then (dT nx (q' : Int) (a' : Int)).1 else if tabAt s (dT nx (q' : Int) (a' : Int)).1 < 0 then -1 else lvF (dT nx) (tabAt s) (a' : Int) (nx.length + 1 - (i + 1)) (tabAt s (dT nx (q' : Int) (a' : Int)).1)) = r from by
        have h := HRI.out
        rw [show nx.length + 1 - i = (nx.length + 1 - (i + 1)) + 1 from by omega] at h
        exact h)
      rw [e3] at HRI2
      have za : (a' : Int) < ((nx[q'].length : Nat) : Int) := by omega
      have zq : (q' : Int) < ((nx.length : Nat) : Int) := by omega
      generalize nx[q'].length = rl at z0 za
      obtain ⟨x0, hx0⟩ : ∃ x0, x0 = nx[q'][a'].1 := ⟨_, rfl⟩
      obtain ⟨x1, hx1⟩ : ∃ x1, x1 = nx[q'][a'].2 := ⟨_, rfl⟩
      rw [← hx0] at z1 HRI2 HX
      rw [← hx1] at z2 HRI2 HX
      clear hx0 hx1 HD e3 e2 HRI
      have t2 : wr.cell? ⟨bt, 2, none⟩ = some (.slice (some ad) nx.length c2) := (blk_cell HBR.out.t 2).trans rfl
      have B11 := Aside0.mk (below_alloc (Below.refl wr.heap.size wr) (.cells #[.int .i64 x0, .int .i64 x1] 111))
      have X11 := Aside0.mk (blk_new wr (.cells #[.int .i64 x0, .int .i64 x1] 111 (0, 0)))
      go_upto_region 4 with fail
      clear z0 z1 z2 t2
      obtain ⟨b11, hb11⟩ : ∃ b11, b11 = wr.heap.size := ⟨_, rfl⟩
      rw [← hb11] at X11 ⊢
      generalize wr.alloc (.cells #[.int .i64 x0, .int .i64 x1] 111) = W11 at B11 X11 ⊢
      clear hb11
      have BR11 := Aside0.mk (below_step BR.out B11.out)
      have X611 := Aside0.mk (blk_below X6.out BR11.out)
      clear BR B11
      have k0 : W11.cell? ⟨b11, 0, none⟩ = some (.int .i64 x0) := (blk_cell X11.out 0).trans rfl
      have k1 : W11.cell? ⟨b11, 1, none⟩ = some (.int .i64 x1) := (blk_cell X11.out 1).trans rfl
      by_cases e1 : x1 = 1
      · have h1 : (x1 == 1) = true := by simp [e1]
        have HRQ := Aside0.mk (show x0 = r from by have h := HRI2.out; rw [if_pos e1] at h; exact h)
        clear HRI2
        go_wp2_with fail
        go_ret
        exact ⟨by rw [HRQ.out]; rfl, below_step B6.out BR11.out⟩
      · have h1 : (x1 == 1) = false := by simp [e1]
        have HRQ := Aside0.mk (show (if tabAt s x0 < 0 then -1 else lvF (dT nx) (tabAt s) (a' : Int) (nx.length + 1 - (i + 1)) (tabAt s x0)) = r from by have h := HRI2.out; rw [if_neg e1] at h; exact h)
        clear HRI2
        obtain ⟨p, rfl⟩ : ∃ p : Nat, x0 = (p : Int) := ⟨x0.toNat, by have := HX.out.1.1; omega⟩
        have hp5 : (p : Int) < 5 := by have := HX.out.1.2; have := HM.out.n4; omega
        have kt : W11.cell? ⟨b6, p, none⟩ = some (.int .i64 (tabAt s (p : Int))) := tab_cell X611.out (by omega)
        have HTI := Aside0.mk (tab_in HS.out (p : Int))
        generalize tabAt s (p : Int) = y at kt HRQ HTI
        by_cases e2 : y < 0
        · have HRQ2 := Aside0.mk (show (-1 : Int) = r from by have h := HRQ.out; rw [if_pos e2] at h; exact h)
          clear HRQ
          go_wp2_with fail
          go_ret
          exact ⟨by rw [HRQ2.out]; rfl, below_step B6.out BR11.out⟩
        · have HRQ2 := Aside0.mk (show lvF (dT nx) (tabAt s) (a' : Int) (nx.length + 1 - (i + 1)) y = r from by have h := HRQ.out; rw [if_neg e2] at h; exact h)
          have HY := Aside0.mk (show 0 ≤ y ∧ y < (nx.length : Int) from ⟨by omega, HTI.out.2⟩)
          clear HRQ
          go_wp2_with fail
          go_roundg (nx.length + 1 - (i + 1))
          case measure => omega
          case rel => exact ⟨i + 1, y, by omega, by omega, rfl, by go_num, HY, HRQ2, BR11⟩
    · have hie : i = nx.length + 1 := by omega
      subst hie
      have HRI2 := Aside0.mk (show (-1 : Int) = r from by have h := HRI.out; rw [Nat.sub_self] at h; exact h)
      clear HRI
      go_wp2_with fail
      go_ret
      exact ⟨by rw [HRI2.out]; rfl, below_step B6.out BR.out⟩
end Go.Proofs.Ytampgoendkjkhaa.H

namespace Go.Proofs.Ytampgoendkjkhaa.H
open Go.RowKit Go.Shelf Go.Proofs.YtampgoendkjkhaaW.PrintWords Go.Proofs.Ytampgoendkjkhaa.DtM
set_option linter.unusedVariables false
set_option linter.unusedSimpArgs false
set_option maxHeartbeats 4000000 in
set_option maxRecDepth 100000 in
theorem bg_calls {L : Nat} {start : Int} {nx : List (List (Int × Int))} {mk : List Int} (hM : TwM L start nx mk) (w : World) (bt bn : Nat) (A2 A3 : Option Addr) (c2 c3 : Nat) (hB : TwB w bt bn L start A2 A3 c2 c3 nx mk) (v0 v1 v2 v3 v4 : Int) (q a : Int) (h1 : 0 ≤ q) (h2 : q < (nx.length : Int)) (ha : LaT L a) :
    Calls Try.prog 100 #[.agg #[.int .i64 v0, .int .i64 v1, .int .i64 v2, .int .i64 v3, .int .i64 v4], .bool true, .int .i64 q, .int .i64 a, .pointer (some ⟨bn, 0, none⟩), .pointer (some ⟨bt, 0, none⟩)] w fun e w' => e = .returned (.int .i64 (bgF (dT nx) a q)) ∧ Below w.heap.size w w' := by
  have HM := Aside0.mk hM
  have HB := Aside0.mk hB
  obtain ⟨r, hr⟩ : ∃ r, r = bgF (dT nx) a q := ⟨_, rfl⟩
  rw [← hr]
  have HR0 := Aside0.mk hr
  have hw1 : IntKind.i64.wrap ((nx.length : Int) + 1) = ((nx.length + 1 : Nat) : Int) := (IntWalk.i64_in _ (by have := hM.n4; omega)).trans (by omega)
  have B6 := Aside0.mk (below_alloc (Below.refl w.heap.size w) (.cells #[.int .i64 v0, .int .i64 v1, .int .i64 v2, .int .i64 v3, .int .i64 v4] 201))
  obtain ⟨q', a', hq, ha2, e1, e2, e3⟩ := hM.at h1 h2 ha
  subst e1 e2
  clear hM hB hr h1 h2 ha
  go_enter Try.func100, Try.ntmps100
  go_upto_region 1 with fail
  generalize w.alloc (.cells #[.int .i64 v0, .int .i64 v1, .int .i64 v2, .int .i64 v3, .int .i64 v4] 201) = W1 at B6 ⊢
  have HB1 := Aside0.mk (HB.out.below B6.out)
  clear HB
  have qn : W1.cell? ⟨bn, 0, none⟩ = some (.int .i64 (nx.length : Int)) := (blk_cell HB1.out.n 0).trans rfl
  go_wp2_with fail
  go_loopg [2, 14] 1 (fun gg s2 s14 wr => s2 = .int .i64 (q' : Int) ∧ s14 = .int .i64 0 ∧ Aside0 (Below W1.heap.size W1 wr))
  case atStart => exact ⟨rfl, rfl, ⟨Below.refl _ _⟩⟩
  case round =>
    obtain ⟨rfl, rfl, BR⟩ := hrel
    have hltz : (0 : Int) < ((nx.length + 1 : Nat) : Int) := by omega
    have HBR := Aside0.mk (HB1.out.below BR.out)
    obtain ⟨ad, c4, ad2, eA, z0, z1, z2⟩ := d_get HBR.out.rows hq ha2
    cases eA
    have HX := Aside0.mk (HM.out.ent _ (List.getElem_mem hq) _ (List.getElem_mem ha2))
    have HRI2 := Aside0.mk (show (if (dT nx (q' : Int) (a' : Int)).2 = 1 then (dT nx (q' : Int) (a' : Int)).1 else -1) = r from HR0.out.symm)
    rw [e3] at HRI2
    have za : (a' : Int) < ((nx[q'].length : Nat) : Int) := by omega
    have zq : (q' : Int) < ((nx.length : Nat) : Int) := by omega
    generalize nx[q'].length = rl at z0 za
    obtain ⟨x0, hx0⟩ : ∃ x0, x0 = nx[q'][a'].1 := ⟨_, rfl⟩
    obtain ⟨x1, hx1⟩ : ∃ x1, x1 = nx[q'][a'].2 := ⟨_, rfl⟩
    rw [← hx0] at z1 HRI2 HX
    rw [← hx1] at z2 HRI2 HX
    clear hx0 hx1 e3 HR0 qn
    have t2 : wr.cell? ⟨bt, 2, none⟩ = some (.slice (some ad) nx.length c2) := (blk_cell HBR.out.t 2).trans rfl
    have B11 := Aside0.mk (below_alloc (Below.refl wr.heap.size wr) (.cells #[.int .i64 x0, .int .i64 x1] 111))
    have X11 := Aside0.mk (blk_new wr (.cells #[.int .i64 x0, .int .i64 x1] 111 (0, 0)))
    go_upto_region 4 with fail
    clear z0 z1 z2 t2
    obtain ⟨b11, hb11⟩ : ∃ b11, b11 = wr.heap.size := ⟨_, rfl⟩
    rw [← hb11] at X11 ⊢
    generalize wr.alloc (.cells #[.int .i64 x0, .int .i64 x1] 111) = W11 at B11 X11 ⊢
    clear hb11
    have BR11 := Aside0.mk (below_step BR.out B11.out)
    have k0 : W11.cell? ⟨b11, 0, none⟩ = some (.int .i64 x0) := (blk_cell X11.out 0).trans rfl
    have k1 : W11.cell? ⟨b11, 1, none⟩ = some (.int .i64 x1) := (blk_cell X11.out 1).trans rfl
    by_cases e1 : x1 = 1
    · have h1 : (x1 == 1) = true := by simp [e1]
      have HRQ := Aside0.mk (show x0 = r from by have h := HRI2.out; rw [if_pos e1] at h; exact h)
      clear HRI2
      go_wp2_with fail
      go_ret
      exact ⟨by rw [HRQ.out]; rfl, below_step B6.out BR11.out⟩
    · have h1 : (x1 == 1) = false := by simp [e1]
      have HRQ := Aside0.mk (show (-1 : Int) = r from by have h := HRI2.out; rw [if_neg e1] at h; exact h)
      clear HRI2
      go_wp2_with fail
      go_ret
      exact ⟨by rw [HRQ.out]; rfl, below_step B6.out BR11.out⟩
theorem resT {fn : Func} {p : Tmp} (h : fn.results = #[.cell p 201]) (tmps : Array Value) (W : World) (g : Nat) (x0 x1 x2 x3 x4 : Value) (hp : tmps.getD p undef = .pointer (some ⟨g, 0, none⟩))
    (h0 : W.cell? ⟨g, 0, none⟩ = some x0) (h1 : W.cell? ⟨g, 1, none⟩ = some x1) (h2 : W.cell? ⟨g, 2, none⟩ = some x2) (h3 : W.cell? ⟨g, 3, none⟩ = some x3) (h4 : W.cell? ⟨g, 4, none⟩ = some x4) : (results fn tmps).run Try.prog W = .ok (.agg #[x0, x1, x2, x3, x4]) W := by
  have hu := Try.underlying201
  have hp' : tmps[p]?.getD undef = .pointer (some ⟨g, 0, none⟩) := by simpa using hp
  simp only [results, h]
  go_simp
/-- a table filled up to i -/
def vT (g : Int → Int) (i : Nat) (q : Nat) : Value := .int .i64 (if q < i then g q else -1)
def pC (g : Int → Int) (i : Nat) (z : Int) : Array Value := #[vT g i 0, vT g i 1, vT g i 2, vT g i 3, .int .i64 z]
theorem pC_set (g : Int → Int) (i : Nat) (z : Int) (hi : i < 4) {W : World} {b : Nat} (h : W.heap[b]? = some (.cells (pC g i z) 201 (0, 0))) : (W.setCell ⟨b, i, none⟩ (.int .i64 (g i))).heap[b]? = some (.cells (pC g (i + 1) z) 201 (0, 0)) := by
  have := blk_set h i (.int .i64 (g i))
  match i, hi with
  | 0, _ => exact this
  | 1, _ => exact this
  | 2, _ => exact this
  | 3, _ => exact this
theorem pC_cell (g : Int → Int) (i : Nat) (z : Int) (hi : i < 4) {W : World} {b : Nat} (h : W.heap[b]? = some (.cells (pC g i z) 201 (0, 0))) : W.cell? ⟨b, i, none⟩ = some (.int .i64 (-1)) := by
  refine (blk_cell h i).trans ?_
  match i, hi with
  | 0, _ => rfl
  | 1, _ => rfl
  | 2, _ => rfl
  | 3, _ => rfl
theorem pC_set4 (g : Int → Int) (i : Nat) (z y : Int) {W : World} {b : Nat} (h : W.heap[b]? = some (.cells (pC g i z) 201 (0, 0))) : (W.setCell ⟨b, 4, none⟩ (.int .i64 y)).heap[b]? = some (.cells (pC g i y) 201 (0, 0)) := blk_set h 4 (.int .i64 y)
theorem vT_done (nx : List (List (Int × Int))) (s : K5) (a : Int) (q : Nat) : vT (gT nx s a) nx.length q = .int .i64 (gT nx s a q) := by
  unfold vT
  by_cases h : q < nx.length
  · rw [if_pos h]
  · rw [if_neg h]
    unfold gT
    rw [if_neg (by omega)]
theorem g_at {nx : List (List (Int × Int))} {s : K5} {a : Int} {i : Nat} (h : i < nx.length) : lvT nx s a (i : Int) = gT nx s a (i : Int) := by
  unfold gT
  rw [if_pos (by omega)]
/-- what the closures read: the machine's box, the number of states, the closure 'leaves' in its box -/
structure TwC (W : World) (bl bt bn : Nat) (L : Nat) (start : Int) (A2 A3 : Option Addr) (c2 c3 : Nat) (nx : List (List (Int × Int))) (mk : List Int) : Prop where
  tw : TwB W bt bn L start A2 A3 c2 c3 nx mk
  l : W.heap[bl]? = some (.cells #[.func (.func 100) #[] #[.pointer (some ⟨bn, 0, none⟩), .pointer (some ⟨bt, 0, none⟩)]] 202 (0, 0))
theorem TwC.below {W W' : World} {bl bt bn L : Nat} {start : Int} {A2 A3 : Option Addr} {c2 c3 : Nat} {nx : List (List (Int × Int))} {mk : List Int} (h : TwC W bl bt bn L start A2 A3 c2 c3 nx mk) (hb : Below W.heap.size W W') : TwC W' bl bt bn L start A2 A3 c2 c3 nx mk := ⟨h.tw.below hb, blk_below h.l hb⟩
set_option maxHeartbeats 8000000 in
set_option maxRecDepth 100000 in
theorem nxt_calls {L : Nat} {start : Int} {nx : List (List (Int × Int))} {mk : List Int} (hM : TwM L start nx mk) (w : World) (bl bt bn : Nat) (A2 A3 : Option Addr) (c2 c3 : Nat) (hB : TwC w bl bt bn L start A2 A3 c2 c3 nx mk) (s : K5) (hs : InT nx.length s) (a : Nat) (ha : a < L) :
    Calls Try.prog 102 #[tabV s, .int .i64 (a : Int), .pointer (some ⟨bn, 0, none⟩), .pointer (some ⟨bl, 0, none⟩)] w fun e w' => e = .returned (tabV (fT nx s a)) ∧ Below w.heap.size w w' := by
  have HM := Aside0.mk hM
  have HB := Aside0.mk hB
  have HS := Aside0.mk hs
  have HA := Aside0.mk (show LaT L (a : Int) from ⟨by omega, by omega⟩)
  have HF := Aside0.mk (show fT nx s a = (gT nx s a 0, gT nx s a 1, gT nx s a 2, gT nx s a 3, if s.2.2.2.2 < 0 then -1 else lvT nx s a s.2.2.2.2) from rfl)
  have e1 : ∀ args w, (callFunc 100 args).run Try.prog w = .ok (.enter 100 args) w := enters_of Try.func100 (by kernel_rfl) rfl
  clear hM hB hs ha
  go_enter Try.func102, Try.ntmps102
  go_upto_region 2 with fail
  obtain ⟨W1, hW1⟩ : ∃ W1, W1 = (((w.alloc (.cells (tabC s) 201)).alloc (.cells #[.int .i64 0, .int .i64 0, .int .i64 0, .int .i64 0, .int .i64 0] 201)).alloc (.cells #[.int .i64 (-1), .int .i64 (-1), .int .i64 (-1), .int .i64 (-1), .int .i64 (-1)] 201)) := ⟨_, rfl⟩
  have B1 := Aside0.mk (show Below w.heap.size w W1 from by rw [hW1]; exact below_alloc (below_alloc (below_alloc (Below.refl _ _) _) _) _)
  have X4 := Aside0.mk (show W1.heap[w.heap.size]? = some (.cells (tabC s) 201 (0, 0)) from by rw [hW1]; exact blk_alloc (blk_alloc (blk_new w _) _) _)
  have X6 := Aside0.mk (show W1.heap[w.heap.size + 1]? = some (.cells #[.int .i64 0, .int .i64 0, .int .i64 0, .int .i64 0, .int .i64 0] 201 (0, 0)) from by rw [hW1]; exact blk_alloc (blk_newn _ _ _ (by simp)) _)
  have X7 := Aside0.mk (show W1.heap[w.heap.size + 1 + 1]? = some (.cells (pC (gT nx s (a : Int)) 0 (-1)) 201 (0, 0)) from by rw [hW1]; exact blk_newn _ _ _ (by simp))
  rw [← hW1]
  clear hW1
  obtain ⟨b7, hb7⟩ : ∃ b7, b7 = w.heap.size + 1 + 1 := ⟨_, rfl⟩
  obtain ⟨b6, hb6⟩ : ∃ b6, b6 = w.heap.size + 1 := ⟨_, rfl⟩
  obtain ⟨b4, hb4⟩ : ∃ b4, b4 = w.heap.size := ⟨_, rfl⟩
  have HZ := Aside0.mk (show w.heap.size = b4 ∧ b6 = b4 + 1 ∧ b7 = b4 + 2 from ⟨hb4.symm, by omega, by omega⟩)
  rw [← hb7] at X7 ⊢
  rw [← hb6] at X6 ⊢
  replace X4 : Aside0 (W1.heap[b4]? = some (.cells (tabC s) 201 (0, 0))) := ⟨by rw [hb4]; exact X4.out⟩
  rw [← hb4]
  clear hb4 hb6 hb7
  have HB1 := Aside0.mk (HB.out.below B1.out)
  have qn : W1.cell? ⟨bn, 0, none⟩ = some (.int .i64 (nx.length : Int)) := (blk_cell HB1.out.tw.n 0).trans rfl
  go_wp2_with fail
  go_loopg [11] nx.length (fun gg s11 wr => ∃ i : Nat, i ≤ nx.length ∧ nx.length - i ≤ gg ∧ s11 = .int .i64 (i : Int) ∧ Aside0 (wr.heap[b4]? = some (.cells (tabC s) 201 (0, 0))) ∧ Aside0 (wr.heap[b6]? = some (.cells #[.int .i64 0, .int .i64 0, .int .i64 0, .int .i64 0, .int .i64 0] 201 (0, 0))) ∧ Aside0 (wr.heap[b7]? = some (.cells (pC (gT nx s (a : Int)) i (-1)) 201 (0, 0))) ∧ Aside0 (Below w.heap.size w wr))
  case atStart => exact ⟨0, Nat.zero_le _, by omega, rfl, X4, X6, X7, B1⟩
  case round =>
    obtain ⟨i, hi, hgg, rfl, X4, X6, X7, BR⟩ := hrel
    clear B1 HB1 qn
    have HBR := Aside0.mk (HB.out.below BR.out)
    have p0 : wr.cell? ⟨b4, 0, none⟩ = some (.int .i64 s.1) := (blk_cell X4.out 0).trans rfl
    have p1 : wr.cell? ⟨b4, 1, none⟩ = some (.int .i64 s.2.1) := (blk_cell X4.out 1).trans rfl
    have p2 : wr.cell? ⟨b4, 2, none⟩ = some (.int .i64 s.2.2.1) := (blk_cell X4.out 2).trans rfl
    have p3 : wr.cell? ⟨b4, 3, none⟩ = some (.int .i64 s.2.2.2.1) := (blk_cell X4.out 3).trans rfl
    have p4 : wr.cell? ⟨b4, 4, none⟩ = some (.int .i64 s.2.2.2.2) := (blk_cell X4.out 4).trans rfl
    have pl : wr.cell? ⟨bl, 0, none⟩ = some (.func (.func 100) #[] #[.pointer (some ⟨bn, 0, none⟩), .pointer (some ⟨bt, 0, none⟩)]) := (blk_cell HBR.out.l 0).trans rfl
    by_cases hlt : i < nx.length
    · have hltz : (i : Int) < (nx.length : Int) := by omega
      have hi4 : (i : Int) < 5 := by have := HM.out.n4; omega
      have HG := Aside0.mk (g_at (s := s) (a := (a : Int)) hlt)
      have HCL := Aside0.mk (lv_calls HM.out wr bt bn A2 A3 c2 c3 HBR.out.tw s HS.out (i : Int) (a : Int) (by omega) hltz HA.out)
      go_wp2_with (first
        | (go_at_call 100
           refine HCL.out.mono ?_
           rintro e w5 ⟨rfl, hb5⟩
           have B5 := Aside0.mk hb5
           have X75 := Aside0.mk (blk_below X7.out hb5)
           have k7 : w5.cell? ⟨b7, i, none⟩ = some (.int .i64 (-1)) := pC_cell _ i (-1) (by have := HM.out.n4; omega) X75.out
           have f7 := blk_frozen X75.out i
           rw [HG.out]
           clear hb5 p0 p1 p2 p3 p4 pl)
        | fail)
      have X7s := Aside0.mk (pC_set (gT nx s (a : Int)) i (-1) (by have := HM.out.n4; omega) X75.out)
      have X4s := Aside0.mk (blk_turned (blk_below X4.out B5.out) (turned_set w5 ⟨b7, i, none⟩ (.int .i64 (gT nx s (a : Int) (i : Int)))) (by have := HZ.out; show b4 ≠ b7; omega))
      have X6s := Aside0.mk (blk_turned (blk_below X6.out B5.out) (turned_set w5 ⟨b7, i, none⟩ (.int .i64 (gT nx s (a : Int) (i : Int)))) (by have := HZ.out; show b6 ≠ b7; omega))
      have BRs := Aside0.mk (show Below w.heap.size w (w5.setCell ⟨b7, i, none⟩ (.int .i64 (gT nx s (a : Int) (i : Int)))) from (turned_set w5 ⟨b7, i, none⟩ _).below (below_step BR.out B5.out) (by have := HZ.out; show w.heap.size ≤ b7; omega))
      go_roundg (nx.length - (i + 1))
      case measure => omega
      case rel => exact ⟨i + 1, by omega, by omega, by go_num, X4s, X6s, X7s, BRs⟩
    · have hie : i = nx.length := by omega
      subst hie
      clear hgg
      by_cases h5 : s.2.2.2.2 < 0
      · have HF := Aside0.mk (show fT nx s a = (gT nx s (a : Int) (0 : Nat), gT nx s (a : Int) (1 : Nat), gT nx s (a : Int) (2 : Nat), gT nx s (a : Int) (3 : Nat), -1) from by unfold fT; rw [if_pos h5]; rfl)
        go_upto_region 9 with fail
        have m0 : wr.cell? ⟨b7, 0, none⟩ = some (.int .i64 (gT nx s (a : Int) (0 : Nat))) := ((blk_cell X7.out 0).trans rfl : wr.cell? ⟨b7, 0, none⟩ = some (vT (gT nx s (a : Int)) nx.length 0)).trans (by rw [vT_done])
        have m1 : wr.cell? ⟨b7, 1, none⟩ = some (.int .i64 (gT nx s (a : Int) (1 : Nat))) := ((blk_cell X7.out 1).trans rfl : wr.cell? ⟨b7, 1, none⟩ = some (vT (gT nx s (a : Int)) nx.length 1)).trans (by rw [vT_done])
        have m2 : wr.cell? ⟨b7, 2, none⟩ = some (.int .i64 (gT nx s (a : Int) (2 : Nat))) := ((blk_cell X7.out 2).trans rfl : wr.cell? ⟨b7, 2, none⟩ = some (vT (gT nx s (a : Int)) nx.length 2)).trans (by rw [vT_done])
        have m3 : wr.cell? ⟨b7, 3, none⟩ = some (.int .i64 (gT nx s (a : Int) (3 : Nat))) := ((blk_cell X7.out 3).trans rfl : wr.cell? ⟨b7, 3, none⟩ = some (vT (gT nx s (a : Int)) nx.length 3)).trans (by rw [vT_done])
        have m4 : wr.cell? ⟨b7, 4, none⟩ = some (.int .i64 (-1)) := (blk_cell X7.out 4).trans rfl
        have n0 : wr.cell? ⟨b6, 0, none⟩ = some (.int .i64 0) := (blk_cell X6.out 0).trans rfl
        have n1 : wr.cell? ⟨b6, 1, none⟩ = some (.int .i64 0) := (blk_cell X6.out 1).trans rfl
        have n2 : wr.cell? ⟨b6, 2, none⟩ = some (.int .i64 0) := (blk_cell X6.out 2).trans rfl
        have n3 : wr.cell? ⟨b6, 3, none⟩ = some (.int .i64 0) := (blk_cell X6.out 3).trans rfl
        have n4 : wr.cell? ⟨b6, 4, none⟩ = some (.int .i64 0) := (blk_cell X6.out 4).trans rfl
        have f0 := blk_frozen X6.out 0
        have f1 := blk_frozen X6.out 1
        have f2 := blk_frozen X6.out 2
        have f3 := blk_frozen X6.out 3
        have f4 := blk_frozen X6.out 4
        generalize gT nx s (a : Int) (0 : Nat) = y0 at m0 HF
        generalize gT nx s (a : Int) (1 : Nat) = y1 at m1 HF
        generalize gT nx s (a : Int) (2 : Nat) = y2 at m2 HF
        generalize gT nx s (a : Int) (3 : Nat) = y3 at m3 HF
        go_wp2_with fail
        refine bodyPost_ret (resT rfl _ _ b6 (.int .i64 y0) (.int .i64 y1) (.int .i64 y2) (.int .i64 y3) (.int .i64 (-1)) rfl (by go_simp) (by go_simp) (by go_simp) (by go_simp) (by go_simp)) rfl ?_
        exact ⟨by rw [HF.out], by repeat (first | exact BR.out | refine below_set ?_ (by have := HZ.out; show w.heap.size ≤ b6; omega))⟩
      · have HF := Aside0.mk (show fT nx s a = (gT nx s (a : Int) (0 : Nat), gT nx s (a : Int) (1 : Nat), gT nx s (a : Int) (2 : Nat), gT nx s (a : Int) (3 : Nat), lvT nx s (a : Int) s.2.2.2.2) from by unfold fT; rw [if_neg h5]; rfl)
        have HCL := Aside0.mk (lv_calls HM.out wr bt bn A2 A3 c2 c3 HBR.out.tw s HS.out s.2.2.2.2 (a : Int) (by omega) HS.out.2.2.2.2.2 HA.out)
        go_upto_region 9 with (first
          | (go_at_call 100
             refine HCL.out.mono ?_
             rintro e w5 ⟨rfl, hb5⟩
             have B5 := Aside0.mk hb5
             have X75 := Aside0.mk (blk_below X7.out hb5)
             have X65 := Aside0.mk (blk_below X6.out hb5)
             have k7 : w5.cell? ⟨b7, 4, none⟩ = some (.int .i64 (-1)) := (blk_cell X75.out 4).trans rfl
             have f7 := blk_frozen X75.out 4
             clear hb5 p0 p1 p2 p3 p4 pl)
          | fail)
        have X7s := Aside0.mk (pC_set4 (gT nx s (a : Int)) nx.length (-1) (lvT nx s (a : Int) s.2.2.2.2) X75.out)
        have X6s := Aside0.mk (blk_turned X65.out (turned_set w5 ⟨b7, 4, none⟩ (.int .i64 (lvT nx s (a : Int) s.2.2.2.2))) (by have := HZ.out; show b6 ≠ b7; omega))
        have BRs := Aside0.mk (show Below w.heap.size w (w5.setCell ⟨b7, 4, none⟩ (.int .i64 (lvT nx s (a : Int) s.2.2.2.2))) from (turned_set w5 ⟨b7, 4, none⟩ _).below (below_step BR.out B5.out) (by have := HZ.out; show w.heap.size ≤ b7; omega))
        generalize w5.setCell ⟨b7, 4, none⟩ (.int .i64 (lvT nx s (a : Int) s.2.2.2.2)) = wr at X7s X6s BRs ⊢
        clear X7 X6 BR B5 X75 X65 k7 f7 HCL
        have X7 := X7s
        have X6 := X6s
        have BR := BRs
        clear X7s X6s BRs
        have m0 : wr.cell? ⟨b7, 0, none⟩ = some (.int .i64 (gT nx s (a : Int) (0 : Nat))) := ((blk_cell X7.out 0).trans rfl : wr.cell? ⟨b7, 0, none⟩ = some (vT (gT nx s (a : Int)) nx.length 0)).trans (by rw [vT_done])
        have m1 : wr.cell? ⟨b7, 1, none⟩ = some (.int .i64 (gT nx s (a : Int) (1 : Nat))) := ((blk_cell X7.out 1).trans rfl : wr.cell? ⟨b7, 1, none⟩ = some (vT (gT nx s (a : Int)) nx.length 1)).trans (by rw [vT_done])
        have m2 : wr.cell? ⟨b7, 2, none⟩ = some (.int .i64 (gT nx s (a : Int) (2 : Nat))) := ((blk_cell X7.out 2).trans rfl : wr.cell? ⟨b7, 2, none⟩ = some (vT (gT nx s (a : Int)) nx.length 2)).trans (by rw [vT_done])
        have m3 : wr.cell? ⟨b7, 3, none⟩ = some (.int .i64 (gT nx s (a : Int) (3 : Nat))) := ((blk_cell X7.out 3).trans rfl : wr.cell? ⟨b7, 3, none⟩ = some (vT (gT nx s (a : Int)) nx.length 3)).trans (by rw [vT_done])
        have m4 : wr.cell? ⟨b7, 4, none⟩ = some (.int .i64 (lvT nx s (a : Int) s.2.2.2.2)) := (blk_cell X7.out 4).trans rfl
        have n0 : wr.cell? ⟨b6, 0, none⟩ = some (.int .i64 0) := (blk_cell X6.out 0).trans rfl
        have n1 : wr.cell? ⟨b6, 1, none⟩ = some (.int .i64 0) := (blk_cell X6.out 1).trans rfl
        have n2 : wr.cell? ⟨b6, 2, none⟩ = some (.int .i64 0) := (blk_cell X6.out 2).trans rfl
        have n3 : wr.cell? ⟨b6, 3, none⟩ = some (.int .i64 0) := (blk_cell X6.out 3).trans rfl
        have n4 : wr.cell? ⟨b6, 4, none⟩ = some (.int .i64 0) := (blk_cell X6.out 4).trans rfl
        have f0 := blk_frozen X6.out 0
        have f1 := blk_frozen X6.out 1
        have f2 := blk_frozen X6.out 2
        have f3 := blk_frozen X6.out 3
        have f4 := blk_frozen X6.out 4
        generalize gT nx s (a : Int) (0 : Nat) = y0 at m0 HF
        generalize gT nx s (a : Int) (1 : Nat) = y1 at m1 HF
        generalize gT nx s (a : Int) (2 : Nat) = y2 at m2 HF
        generalize gT nx s (a : Int) (3 : Nat) = y3 at m3 HF
        go_wp2_with fail
        refine bodyPost_ret (resT rfl _ _ b6 (.int .i64 y0) (.int .i64 y1) (.int .i64 y2) (.int .i64 y3) (.int .i64 (lvT nx s (a : Int) s.2.2.2.2)) rfl (by go_simp) (by go_simp) (by go_simp) (by go_simp) (by go_simp)) rfl ?_
        exact ⟨by rw [HF.out], by repeat (first | exact BR.out | refine below_set ?_ (by have := HZ.out; show w.heap.size ≤ b6; omega))⟩
end Go.Proofs.Ytampgoendkjkhaa.H

namespace Go.Proofs.Ytampgoendkjkhaa.H
open Go.RowKit Go.Shelf Go.Proofs.YtampgoendkjkhaaW.PrintWords Go.Proofs.Ytampgoendkjkhaa.DtM
set_option linter.unusedVariables false
set_option linter.unusedSimpArgs false
set_option maxHeartbeats 8000000 in
set_option maxRecDepth 100000 in
theorem mrk_calls {L : Nat} {start : Int} {nx : List (List (Int × Int))} {mk : List Int} (hM : TwM L start nx mk) (w : World) (bl bt bn : Nat) (A2 A3 : Option Addr) (c2 c3 : Nat) (hB : TwC w bl bt bn L start A2 A3 c2 c3 nx mk) (s : K5) (hs : InT nx.length s) :
    Calls Try.prog 103 #[tabV s, .pointer (some ⟨bl, 0, none⟩), .pointer (some ⟨bt, 0, none⟩)] w fun e w' => e = .returned (.int .i64 (mkT nx mk (L : Int) s)) ∧ Below w.heap.size w w' := by
  have HM := Aside0.mk hM
  have HB := Aside0.mk hB
  have HS := Aside0.mk hs
  obtain ⟨L1, hL1⟩ : ∃ L1 : Int, L1 = (L : Int) + 1 := ⟨_, rfl⟩
  have hw : IntKind.i64.wrap ((L : Int) + 1) = L1 := (IntWalk.i64_in _ (by have := hM.L4; omega)).trans hL1.symm
  have HA := Aside0.mk (show LaT L L1 from ⟨by omega, by omega⟩)
  have HL1 := Aside0.mk hL1
  have e1 : ∀ args w, (callFunc 100 args).run Try.prog w = .ok (.enter 100 args) w := enters_of Try.func100 (by kernel_rfl) rfl
  clear hM hB hs hL1
  have B1 := Aside0.mk (below_alloc (Below.refl w.heap.size w) (.cells (tabC s) 201))
  have X3 := Aside0.mk (blk_new w (.cells (tabC s) 201 (0, 0)))
  go_enter Try.func103, Try.ntmps103
  go_upto_region 1 with fail
  obtain ⟨b3, hb3⟩ : ∃ b3, b3 = w.heap.size := ⟨_, rfl⟩
  rw [← hb3] at X3 ⊢
  clear hb3
  generalize w.alloc (.cells #[.int .i64 s.1, .int .i64 s.2.1, .int .i64 s.2.2.1, .int .i64 s.2.2.2.1, .int .i64 s.2.2.2.2] 201) = W1 at X3 B1 ⊢
  have HB1 := Aside0.mk (HB.out.below B1.out)
  have p0 : W1.cell? ⟨b3, 0, none⟩ = some (.int .i64 s.1) := (blk_cell X3.out 0).trans rfl
  have p1 : W1.cell? ⟨b3, 1, none⟩ = some (.int .i64 s.2.1) := (blk_cell X3.out 1).trans rfl
  have p2 : W1.cell? ⟨b3, 2, none⟩ = some (.int .i64 s.2.2.1) := (blk_cell X3.out 2).trans rfl
  have p3 : W1.cell? ⟨b3, 3, none⟩ = some (.int .i64 s.2.2.2.1) := (blk_cell X3.out 3).trans rfl
  have p4 : W1.cell? ⟨b3, 4, none⟩ = some (.int .i64 s.2.2.2.2) := (blk_cell X3.out 4).trans rfl
  have pl : W1.cell? ⟨bl, 0, none⟩ = some (.func (.func 100) #[] #[.pointer (some ⟨bn, 0, none⟩), .pointer (some ⟨bt, 0, none⟩)]) := (blk_cell HB1.out.l 0).trans rfl
  have pt : W1.cell? ⟨bt, 0, none⟩ = some (.int .i64 (L : Int)) := (blk_cell HB1.out.tw.t 0).trans rfl
  by_cases h5 : s.2.2.2.2 < 0
  · have HF := Aside0.mk (show mkT nx mk (L : Int) s = 0 from by unfold mkT; rw [if_pos h5])
    go_wp2_with fail
    go_ret
    exact ⟨by rw [HF.out]; rfl, B1.out⟩
  · have HCL := Aside0.mk (lv_calls HM.out W1 bt bn A2 A3 c2 c3 HB1.out.tw s HS.out s.2.2.2.2 L1 (by omega) HS.out.2.2.2.2.2 HA.out)
    have HI := Aside0.mk (lvT_in HM.out HS.out HA.out (by omega : (0 : Int) ≤ s.2.2.2.2) HS.out.2.2.2.2.2)
    have HF := Aside0.mk (show mkT nx mk (L : Int) s = if 0 ≤ lvT nx s L1 s.2.2.2.2 then mk.getD (lvT nx s L1 s.2.2.2.2).toNat 0 else 0 from by unfold mkT; rw [if_neg h5, HL1.out])
    generalize lvT nx s L1 s.2.2.2.2 = r at HCL HI HF
    by_cases hr : 0 ≤ r
    · obtain ⟨k, rfl⟩ : ∃ k : Nat, r = (k : Int) := ⟨r.toNat, by omega⟩
      have hk : k < mk.length := by have := HM.out.ml; have := HI.out.2; omega
      have HF2 := Aside0.mk (show mkT nx mk (L : Int) s = mk[k] from by rw [HF.out, if_pos hr, Int.toNat_natCast, List.getD_eq_getElem?_getD, List.getElem?_eq_getElem hk]; rfl)
      obtain ⟨ads, es, cs0⟩ := int_get HB1.out.tw.mks rfl hk
      generalize mk[k] = y at cs0 HF2
      subst es
      have hkz : (k : Int) < (mk.length : Int) := by omega
      go_wp2_with (first
        | (go_at_call 100
           refine HCL.out.mono ?_
           rintro e w5 ⟨rfl, hb5⟩
           have B5 := Aside0.mk hb5
           have pm : w5.cell? ⟨bt, 3, none⟩ = some (.slice (some ads) mk.length c3) := (blk_cell (HB1.out.below hb5).tw.t 3).trans rfl
           have pk := pw_cell_below hb5 cs0
           clear hb5 p0 p1 p2 p3 p4 pl pt cs0)
        | fail)
      go_ret
      exact ⟨by rw [HF2.out]; rfl, below_step B1.out B5.out⟩
    · have HF2 := Aside0.mk (show mkT nx mk (L : Int) s = 0 from by rw [HF.out, if_neg hr])
      go_wp2_with (first
        | (go_at_call 100
           refine HCL.out.mono ?_
           rintro e w5 ⟨rfl, hb5⟩
           have B5 := Aside0.mk hb5
           clear hb5 p0 p1 p2 p3 p4 pl pt)
        | fail)
      go_ret
      exact ⟨by rw [HF2.out]; rfl, below_step B1.out B5.out⟩
end Go.Proofs.Ytampgoendkjkhaa.H
