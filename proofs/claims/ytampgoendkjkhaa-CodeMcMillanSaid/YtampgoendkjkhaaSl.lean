/- Contracts of the library's slices functions over ints: IndexFunc, ContainsFunc, at whatever closure. -/
import Derived.Test.YtampgoendkjkhaaProg
import Derived.WalkKit
import Derived.KernelRfl
import Derived.Deep.LoopGhost
import Derived.Deep.QuietTactic
import Derived.BigQuiet
import Derived.Shelf.GgClosure.Gives
import Derived.Test.YtampgoendkjkhaaWWords
namespace Go.Proofs.Ytampgoendkjkhaa.H
open Go.RowKit Go.Proofs.YtampgoendkjkhaaW.PrintWords
set_option linter.unusedVariables false
set_option linter.unusedSimpArgs false

/-- Where the first element stands of which p holds; -1: nowhere. -/
def ixOf {α : Type} (p : α → Bool) (xs : List α) : Int := if xs.any p then ((xs.findIdx p : Nat) : Int) else -1

theorem ixOf_hit {α : Type} (p : α → Bool) (xs : List α) (k : Nat) (h : k < xs.length) (hp : p xs[k] = true) (hn : ∀ j, ∀ hj : j < xs.length, j < k → p xs[j] = false) : ixOf p xs = (k : Int) := by
  have h1 : xs.any p = true := List.any_eq_true.2 ⟨xs[k], List.getElem_mem h, hp⟩
  have h2 : xs.findIdx p = k := by
    have := List.findIdx_eq (p := p) h
    rw [this]
    exact ⟨hp, fun j hj => by simpa using hn j (by omega) hj⟩
  simp [ixOf, h1, h2]
theorem ixOf_miss {α : Type} (p : α → Bool) (xs : List α) (hn : ∀ j, ∀ hj : j < xs.length, p xs[j] = false) : ixOf p xs = -1 := by
  have h1 : xs.any p = false := by
    rw [List.any_eq_false]
    intro x hx
    obtain ⟨i, hi, rfl⟩ := List.getElem_of_mem hx
    simp [hn i hi]
  simp [ixOf, h1]
theorem ixOf_any {α : Type} (p : α → Bool) (xs : List α) : decide (0 ≤ ixOf p xs) = xs.any p := by
  unfold ixOf
  cases h : xs.any p <;> simp


/-- What is asked of a closure: at each element, in each world in which all that lay lies. -/
def Pred_int (g : Nat) (lb : Array Value) (p : Int → Bool) (xs : List (Int)) (w : World) : Prop :=
  ∀ (W : World) (x : Int), x ∈ xs → Below w.heap.size w W → Calls Try.prog g (#[.int .i64 x] ++ lb) W fun e w' => e = .returned (.bool (p x)) ∧ Below w.heap.size w w'
set_option maxHeartbeats 1000000 in
theorem IndexFunc_int (g : Nat) (lb : Array Value) (eg : ∀ args w, (callFunc g args).run Try.prog w = .ok (.enter g args) w) (p : Int → Bool) (A : Option Addr) (c : Nat) (xs : List (Int)) (w : World)
    (hr : Kd.C (Kd.int .i64) w A xs.length xs) (hp : Pred_int g lb p xs w) :
    Calls Try.prog 129 #[.slice A xs.length c, .func (.func g) #[] lb] w fun e w' => e = .returned (.int .i64 (ixOf p xs)) ∧ Below w.heap.size w w' := by
  have hbig : xs.length ≤ 9223372036854775807 := hr.2.1
  have HR := Aside0.mk hr
  have HP := Aside0.mk hp
  clear hr hp
  go_enter Try.func129, Try.ntmps129
  go_wp2
  go_loopg [5, 8] xs.length (fun gg _ s8 wr => ∃ kk : Nat, kk ≤ xs.length ∧ xs.length - kk ≤ gg ∧ s8 = .int .i64 kk ∧ Aside0 (Below w.heap.size w wr) ∧ Aside0 (∀ j, ∀ hj : j < xs.length, j < kk → p xs[j] = false))
  case atStart => exact ⟨0, Nat.zero_le _, by omega, rfl, ⟨Below.refl _ w⟩, ⟨fun j _ hj => absurd hj (Nat.not_lt_zero _)⟩⟩
  case round =>
    obtain ⟨kk, hkk, hg, rfl, BW, AA⟩ := hrel
    by_cases hlt : kk < xs.length
    · have hltz : (kk : Int) < (xs.length : Int) := by omega
      obtain ⟨ad, e0, hc0⟩ := Kd.at_int HR.out kk (by omega) hltz
      cases e0
      have hc1 := pw_cell_below (BW.out) hc0
      clear hc0
      have hx : rd xs kk = xs[kk] := by simp [rd, List.getD_eq_getElem?_getD, hlt]
      rw [hx, Int.toNat_natCast] at hc1
      clear hx
      have hcall := HP.out wr xs[kk] (List.getElem_mem hlt) BW.out
      have hat := Aside0.mk (fun (h : p xs[kk] = true) => ixOf_hit p xs kk hlt h AA.out)
      have hne := Aside0.mk (fun (h : p xs[kk] = false) (j : Nat) (hj : j < xs.length) (hjk : j < kk + 1) => by
        by_cases e : j = kk
        · subst e; exact h
        · exact AA.out j hj (by omega) : p xs[kk] = false → ∀ j, ∀ hj : j < xs.length, j < kk + 1 → p xs[j] = false)
      generalize xs[kk] = y at hc1 hcall hat hne
      cases hq : p y with
      | true =>
        rw [hq] at hcall
        have hq' := Aside0.mk hq
        clear hq
        go_wp2_with (go_at_fn g; refine hcall.mono ?_; rintro e w' ⟨rfl, hb'⟩)
        go_ret
        exact ⟨by rw [hat.out hq'.out]; rfl, hb'⟩
      | false =>
        rw [hq] at hcall
        have hq' := Aside0.mk hq
        clear hq
        go_wp2_with (go_at_fn g; refine hcall.mono ?_; rintro e w' ⟨rfl, hb'⟩)
        go_roundg (xs.length - (kk + 1))
        case measure => omega
        case rel => exact ⟨kk + 1, by omega, by omega, by go_num, ⟨hb'⟩, ⟨hne.out hq'.out⟩⟩
    · have hltz : ¬ (kk : Int) < (xs.length : Int) := by omega
      have hfin := Aside0.mk (ixOf_miss p xs (fun j hj => AA.out j hj (by omega)))
      go_wp2
      go_ret
      exact ⟨by rw [hfin.out]; rfl, BW.out⟩

set_option maxHeartbeats 1000000 in
theorem ContainsFunc_int (g : Nat) (lb : Array Value) (eg : ∀ args w, (callFunc g args).run Try.prog w = .ok (.enter g args) w) (p : Int → Bool) (A : Option Addr) (c : Nat) (xs : List (Int)) (w : World)
    (hr : Kd.C (Kd.int .i64) w A xs.length xs) (hp : Pred_int g lb p xs w) :
    Calls Try.prog 66 #[.slice A xs.length c, .func (.func g) #[] lb] w fun e w' => e = .returned (.bool (xs.any p)) ∧ Below w.heap.size w w' := by
  rw [← ixOf_any]
  have H := IndexFunc_int g lb eg p A c xs w hr hp
  clear hr hp
  go_enter Try.func66, Try.ntmps66
  go_wp2_with (go_at_call 129; refine H.mono ?_; rintro e w' ⟨rfl, hb'⟩)
  go_ret
  exact ⟨rfl, hb'⟩

/-- What is asked of a closure: at each element, in each world in which all that lay lies. -/
def Pred_row (g : Nat) (lb : Array Value) (p : List Int → Bool) (xs : List (List Int)) (w : World) : Prop :=
  ∀ (W : World) (x : List Int) (A : Option Addr) (c : Nat), x ∈ xs → x.length ≤ c → Kd.C (Kd.int .i64) W A x.length x → Below w.heap.size w W → Calls Try.prog g (#[.slice A x.length c] ++ lb) W fun e w' => e = .returned (.bool (p x)) ∧ Below w.heap.size w w'
set_option maxHeartbeats 1000000 in
theorem IndexFunc_row (g : Nat) (lb : Array Value) (eg : ∀ args w, (callFunc g args).run Try.prog w = .ok (.enter g args) w) (p : List Int → Bool) (A : Option Addr) (c : Nat) (xs : List (List Int)) (w : World)
    (hr : Kd.C (Kd.slice 3 (Kd.int .i64)) w A xs.length xs) (hp : Pred_row g lb p xs w) :
    Calls Try.prog 151 #[.slice A xs.length c, .func (.func g) #[] lb] w fun e w' => e = .returned (.int .i64 (ixOf p xs)) ∧ Below w.heap.size w w' := by
  have hbig : xs.length ≤ 9223372036854775807 := hr.2.1
  have HR := Aside0.mk hr
  have HP := Aside0.mk hp
  clear hr hp
  go_enter Try.func151, Try.ntmps151
  go_wp2
  go_loopg [5, 8] xs.length (fun gg _ s8 wr => ∃ kk : Nat, kk ≤ xs.length ∧ xs.length - kk ≤ gg ∧ s8 = .int .i64 kk ∧ Aside0 (Below w.heap.size w wr) ∧ Aside0 (∀ j, ∀ hj : j < xs.length, j < kk → p xs[j] = false))
  case atStart => exact ⟨0, Nat.zero_le _, by omega, rfl, ⟨Below.refl _ w⟩, ⟨fun j _ hj => absurd hj (Nat.not_lt_zero _)⟩⟩
  case round =>
    obtain ⟨kk, hkk, hg, rfl, BW, AA⟩ := hrel
    by_cases hlt : kk < xs.length
    · have hltz : (kk : Int) < (xs.length : Int) := by omega
      obtain ⟨ad, ec, e0, _, ⟨A1, c1, rfl, hle, hrow⟩, hc0⟩ := Kd.C_get HR.out [] kk (by omega) hltz
      cases e0
      have hx : xs.getD ((kk : Int).toNat) [] = xs[kk] := by simp [List.getD_eq_getElem?_getD, hlt]
      rw [hx] at hle hrow hc0
      clear hx
      have hc1 := pw_cell_below (BW.out) (hc0 0 _ rfl)
      clear hc0
      replace hc1 : wr.cell? (ad.add kk) = some (.slice A1 xs[kk].length c1) := by simpa [Kd.slice] using hc1
      have hcall := HP.out wr xs[kk] A1 c1 (List.getElem_mem hlt) hle (Kd.C_below hrow BW.out) BW.out
      clear hle hrow
      have hat := Aside0.mk (fun (h : p xs[kk] = true) => ixOf_hit p xs kk hlt h AA.out)
      have hne := Aside0.mk (fun (h : p xs[kk] = false) (j : Nat) (hj : j < xs.length) (hjk : j < kk + 1) => by
        by_cases e : j = kk
        · subst e; exact h
        · exact AA.out j hj (by omega) : p xs[kk] = false → ∀ j, ∀ hj : j < xs.length, j < kk + 1 → p xs[j] = false)
      generalize xs[kk] = y at hc1 hcall hat hne
      cases hq : p y with
      | true =>
        rw [hq] at hcall
        have hq' := Aside0.mk hq
        clear hq
        go_wp2_with (go_at_fn g; refine hcall.mono ?_; rintro e w' ⟨rfl, hb'⟩)
        go_ret
        exact ⟨by rw [hat.out hq'.out]; rfl, hb'⟩
      | false =>
        rw [hq] at hcall
        have hq' := Aside0.mk hq
        clear hq
        go_wp2_with (go_at_fn g; refine hcall.mono ?_; rintro e w' ⟨rfl, hb'⟩)
        go_roundg (xs.length - (kk + 1))
        case measure => omega
        case rel => exact ⟨kk + 1, by omega, by omega, by go_num, ⟨hb'⟩, ⟨hne.out hq'.out⟩⟩
    · have hltz : ¬ (kk : Int) < (xs.length : Int) := by omega
      have hfin := Aside0.mk (ixOf_miss p xs (fun j hj => AA.out j hj (by omega)))
      go_wp2
      go_ret
      exact ⟨by rw [hfin.out]; rfl, BW.out⟩

set_option maxHeartbeats 1000000 in
theorem ContainsFunc_row (g : Nat) (lb : Array Value) (eg : ∀ args w, (callFunc g args).run Try.prog w = .ok (.enter g args) w) (p : List Int → Bool) (A : Option Addr) (c : Nat) (xs : List (List Int)) (w : World)
    (hr : Kd.C (Kd.slice 3 (Kd.int .i64)) w A xs.length xs) (hp : Pred_row g lb p xs w) :
    Calls Try.prog 88 #[.slice A xs.length c, .func (.func g) #[] lb] w fun e w' => e = .returned (.bool (xs.any p)) ∧ Below w.heap.size w w' := by
  rw [← ixOf_any]
  have H := IndexFunc_row g lb eg p A c xs w hr hp
  clear hr hp
  go_enter Try.func88, Try.ntmps88
  go_wp2_with (go_at_call 151; refine H.mono ?_; rintro e w' ⟨rfl, hb'⟩)
  go_ret
  exact ⟨rfl, hb'⟩

end Go.Proofs.Ytampgoendkjkhaa.H
