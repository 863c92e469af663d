/- muller.Check and its closures: what they answer. -/
import Derived.Test.YtjabncedfjjbjaaSl
import Derived.Laws.EntriesVeiled
namespace Go.Proofs.Ytjabncedfjjbjaa.H
open Go.RowKit Go.Shelf Go.Proofs.YtjabncedfjjbjaaW.PrintWords
set_option linter.unusedVariables false
set_option linter.unusedSimpArgs false

theorem bcell {W w1 : World} (hb : Below W.heap.size W w1) : (∀ b o, b < W.heap.size → w1.cell? ⟨b, o, none⟩ = W.cell? ⟨b, o, none⟩) ∧ (∀ b o, b < W.heap.size → w1.frozen? ⟨b, o, none⟩ = W.frozen? ⟨b, o, none⟩) :=
  ⟨fun b o h => hb.cell (p := ⟨b, o, none⟩) h, fun b o h => hb.frozen (p := ⟨b, o, none⟩) h⟩

def noB (n q : Int) : Bool := decide (q < 0) || decide (n ≤ q)
def badB (n s : Int) : Bool := decide (s < 1) || decide (wrap64 (2 ^ n.toNat) ≤ s)

theorem mu2_calls (n q : Int) (B : Nat) (w : World) (hc : w.cell? ⟨B, 0, none⟩ = some (.int .i64 n)) :
    Calls Try.prog 118 #[.int .i64 q, .pointer (some ⟨B, 0, none⟩)] w fun e w' => e = .returned (.bool (noB n q)) ∧ w = w' := by
  by_cases h : q < 0
  · have h' : decide (q < 0) = true := decide_eq_true h
    go_enter Try.func118, Try.ntmps118
    go_wp2
    go_ret
    exact ⟨by simp [noB, h']; try rfl, rfl⟩
  · have h' : decide (q < 0) = false := decide_eq_false h
    go_enter Try.func118, Try.ntmps118
    go_wp2
    go_ret
    exact ⟨by simp [noB, h']; try rfl, rfl⟩
theorem mu1_calls (A : Option Addr) (c : Nat) (xs : List Int) (L : Int) (B : Nat) (w : World) (hc : w.cell? ⟨B, 0, none⟩ = some (.int .i64 L)) :
    Calls Try.prog 117 #[.slice A xs.length c, .pointer (some ⟨B, 0, none⟩)] w fun e w' => e = .returned (.bool ((xs.length : Int) != L)) ∧ w = w' := by
  go_enter Try.func117, Try.ntmps117
  go_wp2
  go_ret
  exact ⟨rfl, rfl⟩
theorem mu4_calls (n s : Int) (B : Nat) (w : World) (hc : w.cell? ⟨B, 0, none⟩ = some (.int .i64 n)) (h0 : 0 ≤ n) (h1 : n ≤ 4) :
    Calls Try.prog 120 #[.int .i64 s, .pointer (some ⟨B, 0, none⟩)] w fun e w' => e = .returned (.bool (badB n s)) ∧ w = w' := by
  by_cases h : s < 1
  · have h' : decide (s < 1) = true := decide_eq_true h
    go_enter Try.func120, Try.ntmps120
    go_wp2
    go_ret
    exact ⟨by simp [badB, h']; try rfl, rfl⟩
  · have h' : decide (s < 1) = false := decide_eq_false h
    go_enter Try.func120, Try.ntmps120
    go_wp2
    go_ret
    exact ⟨by simp [badB, h']; try rfl, rfl⟩
theorem mu3_calls (A : Option Addr) (c : Nat) (xs : List Int) (n : Int) (B B2 : Nat) (w : World) (hr : Kd.C (Kd.int .i64) w A xs.length xs) (hc : w.cell? ⟨B, 0, none⟩ = some (.int .i64 n)) (hB : B < w.heap.size)
    (hc2 : w.cell? ⟨B2, 0, none⟩ = some (.func (.func 118) #[] #[.pointer (some ⟨B, 0, none⟩)])) :
    Calls Try.prog 119 #[.slice A xs.length c, .pointer (some ⟨B2, 0, none⟩)] w fun e w' => e = .returned (.bool (xs.any (noB n))) ∧ Below w.heap.size w w' := by
  have H := ContainsFunc_int 118 #[.pointer (some ⟨B, 0, none⟩)] (enters_of Try.func118 (by kernel_rfl) rfl) (noB n) A c xs w hr
    (fun W x _ hb => (mu2_calls n x B W ((hb.cell (p := ⟨B, 0, none⟩) hB).trans hc)).mono fun e w' ⟨he, hw⟩ => ⟨he, hw ▸ hb⟩)
  clear hr
  go_enter Try.func119, Try.ntmps119
  go_wp2_with (go_at_call 81; refine H.mono ?_; rintro e w' ⟨rfl, hb'⟩)
  go_ret
  exact ⟨rfl, hb'⟩

def shapeB (L : Int) (nx : List (List Int)) : Bool := nx.any fun r => (r.length : Int) != L
def edgeB (nx : List (List Int)) : Bool := nx.any fun r => r.any (noB nx.length)
def goodB (n : Int) (gd : List Int) : Bool := gd.any (badB n)
/-- do the numbers rise? -/
def risesB (gd : List Int) : Bool := (List.range gd.length).all fun i => i == 0 || decide (gd.getD (i - 1) 0 < gd.getD i 0)
def riseCode (gd : List Int) : Int := if risesB gd then 0 else 3
def mCheck (L S : Int) (nx : List (List Int)) (gd : List Int) : Int :=
  if L < 1 ∨ 4 < L then 2 else if (nx.length : Int) < 1 ∨ 4 < (nx.length : Int) then 1 else if shapeB L nx then 3
  else if noB nx.length S || edgeB nx || goodB nx.length gd then 2 else riseCode gd

theorem rises_false (gd : List Int) (k : Nat) (h0 : 0 < k) (hk : k < gd.length) (h : gd.getD k 0 ≤ gd.getD (k - 1) 0) : riseCode gd = 3 := by
  unfold riseCode
  rw [if_neg]
  rw [Bool.not_eq_true]
  unfold risesB
  rw [List.all_eq_false]
  exact ⟨k, List.mem_range.2 hk, by simp only [List.getD_eq_getElem?_getD] at h; simp; omega⟩
theorem rises_true (gd : List Int) (h : ∀ k, 0 < k → k < gd.length → gd.getD (k - 1) 0 < gd.getD k 0) : riseCode gd = 0 := by
  unfold riseCode
  rw [if_pos]
  unfold risesB
  rw [List.all_eq_true]
  intro k hk
  by_cases e : k = 0
  · simp [e]
  · simp only [Bool.or_eq_true, decide_eq_true_eq]
    exact .inr (h k (by omega) (List.mem_range.1 hk))
section
variable (L S : Int) (A2 A3 : Option Addr) (c2 c3 : Nat) (nx : List (List Int)) (gd : List Int) (w : World)
abbrev mArgs : Array Value := #[.agg #[.int .i64 L, .int .i64 S, .slice A2 nx.length c2, .slice A3 gd.length c3]]
theorem mu_Check_L (h : L < 1 ∨ 4 < L) : Calls Try.prog 51 (mArgs L S A2 A3 c2 c3 nx gd) w fun e w' => e = .returned (.int .i64 2) ∧ Below w.heap.size w w' := by
  by_cases h1 : L < 1
  · have h1' : decide (L < 1) = true := decide_eq_true h1
    go_enter Try.func51, Try.ntmps51
    go_wp2
    go_ret
    exact ⟨rfl, (Below.refl _ _).alloc (Nat.le_refl _) _⟩
  · have h1' : decide (L < 1) = false := decide_eq_false h1
    have h2' : decide (4 < L) = true := decide_eq_true (by omega)
    go_enter Try.func51, Try.ntmps51
    go_wp2
    go_ret
    exact ⟨rfl, (Below.refl _ _).alloc (Nat.le_refl _) _⟩
theorem mu_Check_n (h : ¬ (L < 1 ∨ 4 < L)) (hn : (nx.length : Int) < 1 ∨ 4 < (nx.length : Int)) : Calls Try.prog 51 (mArgs L S A2 A3 c2 c3 nx gd) w fun e w' => e = .returned (.int .i64 1) ∧ Below w.heap.size w w' := by
  have h1' : decide (L < 1) = false := decide_eq_false (by omega)
  have h2' : decide (4 < L) = false := decide_eq_false (by omega)
  by_cases h1 : (nx.length : Int) < 1
  · have h3' : decide ((nx.length : Int) < 1) = true := decide_eq_true h1
    go_enter Try.func51, Try.ntmps51
    go_wp2
    go_ret
    exact ⟨rfl, ((Below.refl _ _).alloc (Nat.le_refl _) _).alloc (by simp) _⟩
  · have h3' : decide ((nx.length : Int) < 1) = false := decide_eq_false h1
    have h4' : decide (4 < (nx.length : Int)) = true := decide_eq_true (by omega)
    go_enter Try.func51, Try.ntmps51
    go_wp2
    go_ret
    exact ⟨rfl, ((Below.refl _ _).alloc (Nat.le_refl _) _).alloc (by simp) _⟩

theorem shape_pred (W0 : World) (B : Nat) (hB : B < W0.heap.size) (hc : W0.cell? ⟨B, 0, none⟩ = some (.int .i64 L)) : Pred_row 117 #[.pointer (some ⟨B, 0, none⟩)] (fun r => (r.length : Int) != L) nx W0 :=
  fun W x A c _ _ _ hb => (mu1_calls A c x L B W ((hb.cell (p := ⟨B, 0, none⟩) hB).trans hc)).mono fun e w' ⟨he, hw⟩ => ⟨he, hw ▸ hb⟩
theorem mu_Check_shape (h : ¬ (L < 1 ∨ 4 < L)) (hn : ¬ ((nx.length : Int) < 1 ∨ 4 < (nx.length : Int))) (hs : shapeB L nx = true) (hr2 : Kd.C (Kd.slice 3 (Kd.int .i64)) w A2 nx.length nx) :
    Calls Try.prog 51 (mArgs L S A2 A3 c2 c3 nx gd) w fun e w' => e = .returned (.int .i64 3) ∧ Below w.heap.size w w' := by
  have h1' : decide (L < 1) = false := decide_eq_false (by omega)
  have h2' : decide (4 < L) = false := decide_eq_false (by omega)
  have h3' : decide ((nx.length : Int) < 1) = false := decide_eq_false (by omega)
  have h4' : decide (4 < (nx.length : Int)) = false := decide_eq_false (by omega)
  have HR := Aside0.mk hr2
  clear hr2
  unfold shapeB at hs
  go_enter Try.func51, Try.ntmps51
  go_wp2_with (go_at_call 79; refine (ContainsFunc_row 117 _ (enters_of Try.func117 (by kernel_rfl) rfl) _ A2 c2 nx _ (Kd.C_below HR.out (((Below.refl _ _).alloc (Nat.le_refl _) _).alloc (by simp) _)) (shape_pred L nx _ w.heap.size (by simp; omega) (by simp [go_sem]))).mono ?_; rintro e w1 ⟨rfl, hb1⟩)
  go_ret
  exact ⟨rfl, (((Below.refl _ _).alloc (Nat.le_refl _) _).alloc (by simp) _).trans (hb1.mono (by simp; omega))⟩

theorem mu_Check_start (h : ¬ (L < 1 ∨ 4 < L)) (hn : ¬ ((nx.length : Int) < 1 ∨ 4 < (nx.length : Int))) (hs : shapeB L nx = false) (hr2 : Kd.C (Kd.slice 3 (Kd.int .i64)) w A2 nx.length nx) (hr3 : Kd.C (Kd.int .i64) w A3 gd.length gd)
    (hS : noB nx.length S = true) :
    Calls Try.prog 51 (mArgs L S A2 A3 c2 c3 nx gd) w fun e w' => e = .returned (.int .i64 2) ∧ Below w.heap.size w w' := by
  have h1' : decide (L < 1) = false := decide_eq_false (by omega)
  have h2' : decide (4 < L) = false := decide_eq_false (by omega)
  have h3' : decide ((nx.length : Int) < 1) = false := decide_eq_false (by omega)
  have h4' : decide (4 < (nx.length : Int)) = false := decide_eq_false (by omega)
  have HR := Aside0.mk hr2
  have HR3 := Aside0.mk hr3
  clear hr2 hr3
  unfold shapeB at hs
  have e2 : ∀ args w, (callFunc 118 args).run Try.prog w = .ok (.enter 118 args) w := enters_of Try.func118 (by kernel_rfl) rfl
  go_enter Try.func51, Try.ntmps51
  go_wp2_with (
    go_at_call 79
    refine (ContainsFunc_row 117 _ (enters_of Try.func117 (by kernel_rfl) rfl) _ A2 c2 nx _ (Kd.C_below HR.out (((Below.refl _ _).alloc (Nat.le_refl _) _).alloc (by simp) _)) (shape_pred L nx _ w.heap.size (by simp; omega) (by simp [go_sem]))).mono ?_
    rintro e w1 ⟨rfl, hb1⟩
    have hB1 := Aside0.mk ((((Below.refl _ _).alloc (Nat.le_refl _) _).alloc (by simp) _).trans (hb1.mono (by simp; omega)) : Below w.heap.size w w1)
    have hz1 : w.heap.size + 1 < w1.heap.size := by have := hb1.size; simp at this; omega
    have hz0 : w.heap.size < w1.heap.size := by omega
    have k0 : w1.cell? ⟨w.heap.size + 1, 0, none⟩ = some (.int .i64 nx.length) := (hb1.cell (p := ⟨w.heap.size + 1, 0, none⟩) (by first | (simp; done) | (simp; omega) | omega)).trans (by go_simp)
    have k1 : w1.cell? ⟨w.heap.size, 0, none⟩ = some (.int .i64 L) := (hb1.cell (p := ⟨w.heap.size, 0, none⟩) (by first | (simp; done) | (simp; omega) | omega)).trans (by go_simp)
    have k2 : w1.cell? ⟨w.heap.size, 1, none⟩ = some (.int .i64 S) := (hb1.cell (p := ⟨w.heap.size, 1, none⟩) (by first | (simp; done) | (simp; omega) | omega)).trans (by go_simp)
    have k3 : w1.cell? ⟨w.heap.size, 2, none⟩ = some (.slice A2 nx.length c2) := (hb1.cell (p := ⟨w.heap.size, 2, none⟩) (by first | (simp; done) | (simp; omega) | omega)).trans (by go_simp)
    have k4 : w1.cell? ⟨w.heap.size, 3, none⟩ = some (.slice A3 gd.length c3) := (hb1.cell (p := ⟨w.heap.size, 3, none⟩) (by first | (simp; done) | (simp; omega) | omega)).trans (by go_simp)
    clear hb1)
  go_wp2_with (go_at_call 118; refine (mu2_calls nx.length S (w.heap.size + 1) _ (by go_simp)).mono ?_; rintro e w2 ⟨rfl, rfl⟩; rw [hS])
  go_ret
  exact ⟨rfl, hB1.out.alloc (by omega) _⟩
theorem edge_pred (W0 : World) (B B2 : Nat) (n : Int) (hB : B < W0.heap.size) (hB2 : B2 < W0.heap.size) (hc : W0.cell? ⟨B, 0, none⟩ = some (.int .i64 n)) (hc2 : W0.cell? ⟨B2, 0, none⟩ = some (.func (.func 118) #[] #[.pointer (some ⟨B, 0, none⟩)])) :
    Pred_row 119 #[.pointer (some ⟨B2, 0, none⟩)] (fun r => r.any (noB n)) nx W0 :=
  fun W x A c _ _ hr hb => (mu3_calls A c x n B B2 W hr ((hb.cell (p := ⟨B, 0, none⟩) hB).trans hc) (Nat.lt_of_lt_of_le hB hb.size) ((hb.cell (p := ⟨B2, 0, none⟩) hB2).trans hc2)).mono fun e w' ⟨he, hw⟩ => ⟨he, hb.trans (hw.mono hb.size)⟩
theorem good_pred (W0 : World) (B : Nat) (n : Int) (h0 : 0 ≤ n) (h1 : n ≤ 4) (hB : B < W0.heap.size) (hc : W0.cell? ⟨B, 0, none⟩ = some (.int .i64 n)) :
    Pred_int 120 #[.pointer (some ⟨B, 0, none⟩)] (badB n) gd W0 :=
  fun W x _ hb => (mu4_calls n x B W ((hb.cell (p := ⟨B, 0, none⟩) hB).trans hc) h0 h1).mono fun e w' ⟨he, hw⟩ => ⟨he, hw ▸ hb⟩
theorem mu_Check_edge (h : ¬ (L < 1 ∨ 4 < L)) (hn : ¬ ((nx.length : Int) < 1 ∨ 4 < (nx.length : Int))) (hs : shapeB L nx = false) (hr2 : Kd.C (Kd.slice 3 (Kd.int .i64)) w A2 nx.length nx) (hr3 : Kd.C (Kd.int .i64) w A3 gd.length gd)
    (hS : noB nx.length S = false) (hE : edgeB nx = true) :
    Calls Try.prog 51 (mArgs L S A2 A3 c2 c3 nx gd) w fun e w' => e = .returned (.int .i64 2) ∧ Below w.heap.size w w' := by
  unfold edgeB at hE
  have h1' : decide (L < 1) = false := decide_eq_false (by omega)
  have h2' : decide (4 < L) = false := decide_eq_false (by omega)
  have h3' : decide ((nx.length : Int) < 1) = false := decide_eq_false (by omega)
  have h4' : decide (4 < (nx.length : Int)) = false := decide_eq_false (by omega)
  have HR := Aside0.mk hr2
  have HR3 := Aside0.mk hr3
  clear hr2 hr3
  unfold shapeB at hs
  have e2 : ∀ args w, (callFunc 118 args).run Try.prog w = .ok (.enter 118 args) w := enters_of Try.func118 (by kernel_rfl) rfl
  go_enter Try.func51, Try.ntmps51
  go_wp2_with (
    go_at_call 79
    refine (ContainsFunc_row 117 _ (enters_of Try.func117 (by kernel_rfl) rfl) _ A2 c2 nx _ (Kd.C_below HR.out (((Below.refl _ _).alloc (Nat.le_refl _) _).alloc (by simp) _)) (shape_pred L nx _ w.heap.size (by simp; omega) (by simp [go_sem]))).mono ?_
    rintro e w1 ⟨rfl, hb1⟩
    have hB1 := Aside0.mk ((((Below.refl _ _).alloc (Nat.le_refl _) _).alloc (by simp) _).trans (hb1.mono (by simp; omega)) : Below w.heap.size w w1)
    have hz1 : w.heap.size + 1 < w1.heap.size := by have := hb1.size; simp at this; omega
    have hz0 : w.heap.size < w1.heap.size := by omega
    have k0 : w1.cell? ⟨w.heap.size + 1, 0, none⟩ = some (.int .i64 nx.length) := (hb1.cell (p := ⟨w.heap.size + 1, 0, none⟩) (by first | (simp; done) | (simp; omega) | omega)).trans (by go_simp)
    have k1 : w1.cell? ⟨w.heap.size, 0, none⟩ = some (.int .i64 L) := (hb1.cell (p := ⟨w.heap.size, 0, none⟩) (by first | (simp; done) | (simp; omega) | omega)).trans (by go_simp)
    have k2 : w1.cell? ⟨w.heap.size, 1, none⟩ = some (.int .i64 S) := (hb1.cell (p := ⟨w.heap.size, 1, none⟩) (by first | (simp; done) | (simp; omega) | omega)).trans (by go_simp)
    have k3 : w1.cell? ⟨w.heap.size, 2, none⟩ = some (.slice A2 nx.length c2) := (hb1.cell (p := ⟨w.heap.size, 2, none⟩) (by first | (simp; done) | (simp; omega) | omega)).trans (by go_simp)
    have k4 : w1.cell? ⟨w.heap.size, 3, none⟩ = some (.slice A3 gd.length c3) := (hb1.cell (p := ⟨w.heap.size, 3, none⟩) (by first | (simp; done) | (simp; omega) | omega)).trans (by go_simp)
    clear hb1)
  go_wp2_with (go_at_call 118; refine (mu2_calls nx.length S (w.heap.size + 1) _ (by go_simp)).mono ?_; rintro e w2 ⟨rfl, rfl⟩; rw [hS])
  go_wp2_with (
    go_at_call 79
    refine (ContainsFunc_row 119 _ (enters_of Try.func119 (by kernel_rfl) rfl) _ A2 c2 nx _ (Kd.C_below HR.out (hB1.out.alloc (by omega) _)) (edge_pred nx _ (w.heap.size + 1) w1.heap.size nx.length (by simp; omega) (by simp) (by go_simp) (by go_simp))).mono ?_
    rintro e w2 ⟨rfl, hb2⟩
    rw [hE]
    have hB2 := Aside0.mk ((hB1.out.alloc (by omega) _).trans (hb2.mono (by simp; omega)) : Below w.heap.size w w2)
    have hz2 : w.heap.size + 1 < w2.heap.size := by have := hb2.size; simp at this; omega
    have hz3 : w.heap.size < w2.heap.size := by omega
    have m0 : w2.cell? ⟨w.heap.size + 1, 0, none⟩ = some (.int .i64 nx.length) := (hb2.cell (p := ⟨w.heap.size + 1, 0, none⟩) (by first | (simp; done) | (simp; omega) | omega)).trans (by go_simp)
    have m4 : w2.cell? ⟨w.heap.size, 3, none⟩ = some (.slice A3 gd.length c3) := (hb2.cell (p := ⟨w.heap.size, 3, none⟩) (by first | (simp; done) | (simp; omega) | omega)).trans (by go_simp)
    clear hb2 hB1 k0 k1 k2 k3 k4)
  go_ret
  exact ⟨rfl, hB2.out⟩
theorem mu_Check_good (h : ¬ (L < 1 ∨ 4 < L)) (hn : ¬ ((nx.length : Int) < 1 ∨ 4 < (nx.length : Int))) (hs : shapeB L nx = false) (hr2 : Kd.C (Kd.slice 3 (Kd.int .i64)) w A2 nx.length nx) (hr3 : Kd.C (Kd.int .i64) w A3 gd.length gd)
    (hS : noB nx.length S = false) (hE : edgeB nx = false) (hG : goodB nx.length gd = true) :
    Calls Try.prog 51 (mArgs L S A2 A3 c2 c3 nx gd) w fun e w' => e = .returned (.int .i64 2) ∧ Below w.heap.size w w' := by
  unfold edgeB at hE
  unfold goodB at hG
  have h1' : decide (L < 1) = false := decide_eq_false (by omega)
  have h2' : decide (4 < L) = false := decide_eq_false (by omega)
  have h3' : decide ((nx.length : Int) < 1) = false := decide_eq_false (by omega)
  have h4' : decide (4 < (nx.length : Int)) = false := decide_eq_false (by omega)
  have HR := Aside0.mk hr2
  have HR3 := Aside0.mk hr3
  clear hr2 hr3
  unfold shapeB at hs
  have e2 : ∀ args w, (callFunc 118 args).run Try.prog w = .ok (.enter 118 args) w := enters_of Try.func118 (by kernel_rfl) rfl
  go_enter Try.func51, Try.ntmps51
  go_wp2_with (
    go_at_call 79
    refine (ContainsFunc_row 117 _ (enters_of Try.func117 (by kernel_rfl) rfl) _ A2 c2 nx _ (Kd.C_below HR.out (((Below.refl _ _).alloc (Nat.le_refl _) _).alloc (by simp) _)) (shape_pred L nx _ w.heap.size (by simp; omega) (by simp [go_sem]))).mono ?_
    rintro e w1 ⟨rfl, hb1⟩
    have hB1 := Aside0.mk ((((Below.refl _ _).alloc (Nat.le_refl _) _).alloc (by simp) _).trans (hb1.mono (by simp; omega)) : Below w.heap.size w w1)
    have hz1 : w.heap.size + 1 < w1.heap.size := by have := hb1.size; simp at this; omega
    have hz0 : w.heap.size < w1.heap.size := by omega
    have k0 : w1.cell? ⟨w.heap.size + 1, 0, none⟩ = some (.int .i64 nx.length) := (hb1.cell (p := ⟨w.heap.size + 1, 0, none⟩) (by first | (simp; done) | (simp; omega) | omega)).trans (by go_simp)
    have k1 : w1.cell? ⟨w.heap.size, 0, none⟩ = some (.int .i64 L) := (hb1.cell (p := ⟨w.heap.size, 0, none⟩) (by first | (simp; done) | (simp; omega) | omega)).trans (by go_simp)
    have k2 : w1.cell? ⟨w.heap.size, 1, none⟩ = some (.int .i64 S) := (hb1.cell (p := ⟨w.heap.size, 1, none⟩) (by first | (simp; done) | (simp; omega) | omega)).trans (by go_simp)
    have k3 : w1.cell? ⟨w.heap.size, 2, none⟩ = some (.slice A2 nx.length c2) := (hb1.cell (p := ⟨w.heap.size, 2, none⟩) (by first | (simp; done) | (simp; omega) | omega)).trans (by go_simp)
    have k4 : w1.cell? ⟨w.heap.size, 3, none⟩ = some (.slice A3 gd.length c3) := (hb1.cell (p := ⟨w.heap.size, 3, none⟩) (by first | (simp; done) | (simp; omega) | omega)).trans (by go_simp)
    clear hb1)
  go_wp2_with (go_at_call 118; refine (mu2_calls nx.length S (w.heap.size + 1) _ (by go_simp)).mono ?_; rintro e w2 ⟨rfl, rfl⟩; rw [hS])
  go_wp2_with (
    go_at_call 79
    refine (ContainsFunc_row 119 _ (enters_of Try.func119 (by kernel_rfl) rfl) _ A2 c2 nx _ (Kd.C_below HR.out (hB1.out.alloc (by omega) _)) (edge_pred nx _ (w.heap.size + 1) w1.heap.size nx.length (by simp; omega) (by simp) (by go_simp) (by go_simp))).mono ?_
    rintro e w2 ⟨rfl, hb2⟩
    rw [hE]
    have hB2 := Aside0.mk ((hB1.out.alloc (by omega) _).trans (hb2.mono (by simp; omega)) : Below w.heap.size w w2)
    have hz2 : w.heap.size + 1 < w2.heap.size := by have := hb2.size; simp at this; omega
    have hz3 : w.heap.size < w2.heap.size := by omega
    have m0 : w2.cell? ⟨w.heap.size + 1, 0, none⟩ = some (.int .i64 nx.length) := (hb2.cell (p := ⟨w.heap.size + 1, 0, none⟩) (by first | (simp; done) | (simp; omega) | omega)).trans (by go_simp)
    have m4 : w2.cell? ⟨w.heap.size, 3, none⟩ = some (.slice A3 gd.length c3) := (hb2.cell (p := ⟨w.heap.size, 3, none⟩) (by first | (simp; done) | (simp; omega) | omega)).trans (by go_simp)
    clear hb2 hB1 k0 k1 k2 k3 k4)
  go_wp2_with (
    go_at_call 81
    refine (ContainsFunc_int 120 _ (enters_of Try.func120 (by kernel_rfl) rfl) _ A3 c3 gd _ (Kd.C_below HR3.out hB2.out) (good_pred gd _ (w.heap.size + 1) nx.length (by omega) (by omega) (by omega) (by go_simp))).mono ?_
    rintro e w3 ⟨rfl, hb3⟩
    rw [hG]
    have hB3 := Aside0.mk (hB2.out.trans (hb3.mono (by omega)) : Below w.heap.size w w3)
    have hz4 : w.heap.size < w3.heap.size := by have := hb3.size; omega
    have m5 : w3.cell? ⟨w.heap.size, 3, none⟩ = some (.slice A3 gd.length c3) := (hb3.cell (p := ⟨w.heap.size, 3, none⟩) (by first | (simp; done) | (simp; omega) | omega)).trans (by go_simp)
    clear hb3 hB2 m0 m4)
  go_ret
  exact ⟨rfl, hB3.out⟩
theorem mu_Check_rise (h : ¬ (L < 1 ∨ 4 < L)) (hn : ¬ ((nx.length : Int) < 1 ∨ 4 < (nx.length : Int))) (hs : shapeB L nx = false) (hr2 : Kd.C (Kd.slice 3 (Kd.int .i64)) w A2 nx.length nx) (hr3 : Kd.C (Kd.int .i64) w A3 gd.length gd)
    (hS : noB nx.length S = false) (hE : edgeB nx = false) (hG : goodB nx.length gd = false) :
    Calls Try.prog 51 (mArgs L S A2 A3 c2 c3 nx gd) w fun e w' => e = .returned (.int .i64 (riseCode gd)) ∧ Below w.heap.size w w' := by
  unfold edgeB at hE
  unfold goodB at hG
  have h1' : decide (L < 1) = false := decide_eq_false (by omega)
  have h2' : decide (4 < L) = false := decide_eq_false (by omega)
  have h3' : decide ((nx.length : Int) < 1) = false := decide_eq_false (by omega)
  have h4' : decide (4 < (nx.length : Int)) = false := decide_eq_false (by omega)
  have HR := Aside0.mk hr2
  have HR3 := Aside0.mk hr3
  clear hr2 hr3
  unfold shapeB at hs
  have e2 : ∀ args w, (callFunc 118 args).run Try.prog w = .ok (.enter 118 args) w := enters_of Try.func118 (by kernel_rfl) rfl
  go_enter Try.func51, Try.ntmps51
  go_wp2_with (
    go_at_call 79
    refine (ContainsFunc_row 117 _ (enters_of Try.func117 (by kernel_rfl) rfl) _ A2 c2 nx _ (Kd.C_below HR.out (((Below.refl _ _).alloc (Nat.le_refl _) _).alloc (by simp) _)) (shape_pred L nx _ w.heap.size (by simp; omega) (by simp [go_sem]))).mono ?_
    rintro e w1 ⟨rfl, hb1⟩
    have hB1 := Aside0.mk ((((Below.refl _ _).alloc (Nat.le_refl _) _).alloc (by simp) _).trans (hb1.mono (by simp; omega)) : Below w.heap.size w w1)
    have hz1 : w.heap.size + 1 < w1.heap.size := by have := hb1.size; simp at this; omega
    have hz0 : w.heap.size < w1.heap.size := by omega
    have k0 : w1.cell? ⟨w.heap.size + 1, 0, none⟩ = some (.int .i64 nx.length) := (hb1.cell (p := ⟨w.heap.size + 1, 0, none⟩) (by first | (simp; done) | (simp; omega) | omega)).trans (by go_simp)
    have k1 : w1.cell? ⟨w.heap.size, 0, none⟩ = some (.int .i64 L) := (hb1.cell (p := ⟨w.heap.size, 0, none⟩) (by first | (simp; done) | (simp; omega) | omega)).trans (by go_simp)
    have k2 : w1.cell? ⟨w.heap.size, 1, none⟩ = some (.int .i64 S) := (hb1.cell (p := ⟨w.heap.size, 1, none⟩) (by first | (simp; done) | (simp; omega) | omega)).trans (by go_simp)
    have k3 : w1.cell? ⟨w.heap.size, 2, none⟩ = some (.slice A2 nx.length c2) := (hb1.cell (p := ⟨w.heap.size, 2, none⟩) (by first | (simp; done) | (simp; omega) | omega)).trans (by go_simp)
    have k4 : w1.cell? ⟨w.heap.size, 3, none⟩ = some (.slice A3 gd.length c3) := (hb1.cell (p := ⟨w.heap.size, 3, none⟩) (by first | (simp; done) | (simp; omega) | omega)).trans (by go_simp)
    clear hb1)
  go_wp2_with (go_at_call 118; refine (mu2_calls nx.length S (w.heap.size + 1) _ (by go_simp)).mono ?_; rintro e w2 ⟨rfl, rfl⟩; rw [hS])
  go_wp2_with (
    go_at_call 79
    refine (ContainsFunc_row 119 _ (enters_of Try.func119 (by kernel_rfl) rfl) _ A2 c2 nx _ (Kd.C_below HR.out (hB1.out.alloc (by omega) _)) (edge_pred nx _ (w.heap.size + 1) w1.heap.size nx.length (by simp; omega) (by simp) (by go_simp) (by go_simp))).mono ?_
    rintro e w2 ⟨rfl, hb2⟩
    rw [hE]
    have hB2 := Aside0.mk ((hB1.out.alloc (by omega) _).trans (hb2.mono (by simp; omega)) : Below w.heap.size w w2)
    have hz2 : w.heap.size + 1 < w2.heap.size := by have := hb2.size; simp at this; omega
    have hz3 : w.heap.size < w2.heap.size := by omega
    have m0 : w2.cell? ⟨w.heap.size + 1, 0, none⟩ = some (.int .i64 nx.length) := (hb2.cell (p := ⟨w.heap.size + 1, 0, none⟩) (by first | (simp; done) | (simp; omega) | omega)).trans (by go_simp)
    have m4 : w2.cell? ⟨w.heap.size, 3, none⟩ = some (.slice A3 gd.length c3) := (hb2.cell (p := ⟨w.heap.size, 3, none⟩) (by first | (simp; done) | (simp; omega) | omega)).trans (by go_simp)
    clear hb2 hB1 k0 k1 k2 k3 k4)
  go_wp2_with (
    go_at_call 81
    refine (ContainsFunc_int 120 _ (enters_of Try.func120 (by kernel_rfl) rfl) _ A3 c3 gd _ (Kd.C_below HR3.out hB2.out) (good_pred gd _ (w.heap.size + 1) nx.length (by omega) (by omega) (by omega) (by go_simp))).mono ?_
    rintro e w3 ⟨rfl, hb3⟩
    rw [hG]
    have hB3 := Aside0.mk (hB2.out.trans (hb3.mono (by omega)) : Below w.heap.size w w3)
    have hz4 : w.heap.size < w3.heap.size := by have := hb3.size; omega
    have m5 : w3.cell? ⟨w.heap.size, 3, none⟩ = some (.slice A3 gd.length c3) := (hb3.cell (p := ⟨w.heap.size, 3, none⟩) (by first | (simp; done) | (simp; omega) | omega)).trans (by go_simp)
    clear hb3 hB2 m0 m4)
  have hbig : gd.length ≤ 9223372036854775807 := HR3.out.2.1
  go_loopg [47] gd.length (fun gg v wr => ∃ k : Nat, k ≤ gd.length ∧ gd.length - k ≤ gg ∧ v = .int .i64 k ∧ Aside0 (∀ j, 0 < j → j < k → gd.getD (j - 1) 0 < gd.getD j 0) ∧ ∃ m, wr = w3.drewN m)
  case atStart => exact ⟨0, Nat.zero_le _, by omega, rfl, ⟨fun j h1 h2 => absurd h2 (by omega)⟩, 0, rfl⟩
  case round =>
    obtain ⟨k, hk, hg, rfl, AA, m, rfl⟩ := hrel
    by_cases hlt : k < gd.length
    · have hltz : (k : Int) < (gd.length : Int) := by omega
      by_cases hk0 : 0 < k
      · have hk0' : decide ((0 : Int) < (k : Int)) = true := decide_eq_true (by omega)
        obtain ⟨ad, e0, hc0⟩ := Kd.at_int (Kd.C_below HR3.out hB3.out) k (by omega) hltz
        obtain ⟨ad1, e1, hc1⟩ := Kd.at_int (Kd.C_below HR3.out hB3.out) ((k : Int) - 1) (by omega) (by omega)
        rw [e0] at e1
        cases e1
        cases e0
        rw [Int.toNat_natCast] at hc0
        have hq1 : (0 : Int) ≤ (k : Int) - 1 := by omega
        have hq2 : (k : Int) - 1 < (gd.length : Int) := by omega
        have ew : IntKind.i64.wrap ((k : Int) - 1) = (k : Int) - 1 := IntWalk.i64_in _ (by omega)
        have ex0 : rd gd k = gd.getD k 0 := by simp [rd]
        have ex1 : rd gd ((k : Int) - 1) = gd.getD (k - 1) 0 := by unfold rd; rw [show ((k : Int) - 1).toNat = k - 1 from by omega]
        have hno := Aside0.mk (rises_false gd k hk0 hlt)
        have hyes := Aside0.mk (fun (h : gd.getD (k - 1) 0 < gd.getD k 0) (j : Nat) (h0 : 0 < j) (h1 : j < k + 1) => by
          by_cases e : j = k
          · subst e; exact h
          · exact AA.out j h0 (by omega) : gd.getD (k - 1) 0 < gd.getD k 0 → ∀ j, 0 < j → j < k + 1 → gd.getD (j - 1) 0 < gd.getD j 0)
        rw [ex0] at hc0
        rw [ex1] at hc1
        have hc2 := hc1
        rw [show ((k : Int) - 1).toNat = k - 1 from by omega] at hc2
        generalize gd.getD k 0 = y at hc0 hno hyes
        generalize gd.getD (k - 1) 0 = x at hc1 hc2 hno hyes
        clear ex0 ex1
        by_cases hyx : y ≤ x
        · have hyx' : decide (y ≤ x) = true := decide_eq_true hyx
          have hf := Aside0.mk (hno.out hyx)
          go_wp2
          go_quiet (fail)
          go_wp2
          go_ret
          exact ⟨by rw [hf.out]; rfl, pw_below_drewN (pw_below_drewN hB3.out _) _⟩
        · have hyx' : decide (y ≤ x) = false := decide_eq_false hyx
          have hf := Aside0.mk (hyes.out (by omega))
          go_wp2
          go_quiet (fail)
          go_wp2
          go_roundg (gd.length - (k + 1))
          case measure => omega
          case rel => exact ⟨k + 1, by omega, by omega, by go_num, hf, _, rfl⟩
      · obtain rfl : k = 0 := by omega
        go_wp2
        go_quiet (fail)
        go_wp2
        go_roundg (gd.length - (0 + 1))
        case measure => omega
        case rel => exact ⟨0 + 1, by omega, by omega, by go_num, ⟨fun j h1 h2 => by omega⟩, _, rfl⟩
    · have hltz : ¬ (k : Int) < (gd.length : Int) := by omega
      have hf := Aside0.mk (rises_true gd (fun j h1 h2 => AA.out j h1 (by omega)))
      go_wp2
      go_ret
      exact ⟨by rw [hf.out]; rfl, pw_below_drewN hB3.out _⟩
theorem mu_Check (hr2 : Kd.C (Kd.slice 3 (Kd.int .i64)) w A2 nx.length nx) (hr3 : Kd.C (Kd.int .i64) w A3 gd.length gd) :
    Calls Try.prog 51 (mArgs L S A2 A3 c2 c3 nx gd) w fun e w' => e = .returned (.int .i64 (mCheck L S nx gd)) ∧ Below w.heap.size w w' := by
  unfold mCheck
  by_cases h : L < 1 ∨ 4 < L
  · rw [if_pos h]; exact mu_Check_L L S A2 A3 c2 c3 nx gd w h
  · rw [if_neg h]
    by_cases hn : (nx.length : Int) < 1 ∨ 4 < (nx.length : Int)
    · rw [if_pos hn]; exact mu_Check_n L S A2 A3 c2 c3 nx gd w h hn
    · rw [if_neg hn]
      cases hs : shapeB L nx with
      | true => rw [if_pos rfl]; exact mu_Check_shape L S A2 A3 c2 c3 nx gd w h hn hs hr2
      | false =>
        rw [if_neg (by simp)]
        cases hS : noB nx.length S with
        | true => simpa using mu_Check_start L S A2 A3 c2 c3 nx gd w h hn hs hr2 hr3 hS
        | false =>
          cases hE : edgeB nx with
          | true => simpa using mu_Check_edge L S A2 A3 c2 c3 nx gd w h hn hs hr2 hr3 hS hE
          | false =>
            cases hG : goodB nx.length gd with
            | true => simpa using mu_Check_good L S A2 A3 c2 c3 nx gd w h hn hs hr2 hr3 hS hE hG
            | false => simpa using mu_Check_rise L S A2 A3 c2 c3 nx gd w h hn hs hr2 hr3 hS hE hG
end

def muller_Check.f (a0_0 a0_1 : Int) (l0_2 : List (List Int)) (l0_3 : List Int) : Option Int := some (mCheck a0_0 a0_1 l0_2 l0_3)
theorem muller_Check.calls (a0_0 : Int) (a0_1 : Int) (A0_2 : Option Addr) (c0_2 : Nat) (l0_2 : List (List Int)) (A0_3 : Option Addr) (c0_3 : Nat) (l0_3 : List Int) (r : Int) (w : World) (hr0_2 : Kd.C (Kd.slice 3 (Kd.int .i64)) w A0_2 l0_2.length l0_2) (hc0_2 : l0_2.length ≤ c0_2) (hr0_3 : Kd.C (Kd.int .i64) w A0_3 l0_3.length l0_3) (hc0_3 : l0_3.length ≤ c0_3) (h : muller_Check.f a0_0 a0_1 l0_2 l0_3 = some r) :
    Calls Try.prog 51 #[.agg #[.int .i64 a0_0, .int .i64 a0_1, .slice A0_2 l0_2.length c0_2, .slice A0_3 l0_3.length c0_3]] w fun e w' => e = .returned (.int .i64 r) ∧ Below w.heap.size w w' := by
  obtain rfl := Option.some.inj h
  exact mu_Check a0_0 a0_1 A0_2 A0_3 c0_2 c0_3 l0_2 l0_3 w hr0_2 hr0_3
end Go.Proofs.Ytjabncedfjjbjaa.H
