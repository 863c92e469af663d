/- timed: edges by their cells; slices.IndexFunc, ContainsFunc at them. -/
import Derived.Test.YtampgoendkjkhaaSl
import Derived.Test.YtampgoendkjkhaaTk
namespace Go.Proofs.Ytampgoendkjkhaa.H
open Go.RowKit Go.Proofs.YtampgoendkjkhaaW.PrintWords
set_option linter.unusedVariables false
set_option linter.unusedSimpArgs false
def csEd (x : Edg) : List Int := [x.fr, x.tw, x.lo, x.hi, x.op, x.re]
def kEd : Kd Edg := kArr 6 csEd (fun _ => rfl)

/-- What is asked of a closure: at each element, in each world in which all that lay lies. -/
def Pred_ed (g : Nat) (lb : Array Value) (p : Edg → Bool) (xs : List Edg) (w : World) : Prop :=
  ∀ (W : World) (x : Edg), x ∈ xs → Below w.heap.size w W → Calls Try.prog g (#[.agg #[.int .i64 x.fr, .int .i64 x.tw, .int .i64 x.lo, .int .i64 x.hi, .int .i64 x.op, .int .i64 x.re]] ++ lb) W fun e w' => e = .returned (.bool (p x)) ∧ Below w.heap.size w w'
set_option maxHeartbeats 1000000 in
theorem IndexFunc_ed (g : Nat) (lb : Array Value) (eg : ∀ args w, (callFunc g args).run Try.prog w = .ok (.enter g args) w) (p : Edg → Bool) (A : Option Addr) (c : Nat) (xs : List (Edg)) (w : World)
    (hr : Kd.C kEd w A xs.length xs) (hp : Pred_ed g lb p xs w) :
    Calls Try.prog 173 #[.slice A xs.length c, .func (.func g) #[] lb] w fun e w' => e = .returned (.int .i64 (ixOf p xs)) ∧ Below w.heap.size w w' := by
  have hbig : xs.length ≤ 9223372036854775807 := hr.2.1
  have HR := Aside0.mk hr
  have HP := Aside0.mk hp
  clear hr hp
  go_enter Try.func173, Try.ntmps173
  go_wp2
  go_loopg [5, 8] xs.length (fun gg _ s8 wr => ∃ kk : Nat, kk ≤ xs.length ∧ xs.length - kk ≤ gg ∧ s8 = .int .i64 kk ∧ Aside0 (Below w.heap.size w wr) ∧ Aside0 (∀ j, ∀ hj : j < xs.length, j < kk → p xs[j] = false))
  case atStart => exact ⟨0, Nat.zero_le _, by omega, rfl, ⟨Below.refl _ w⟩, ⟨fun j _ hj => absurd hj (Nat.not_lt_zero _)⟩⟩
  case round =>
    obtain ⟨kk, hkk, hg, rfl, BW, AA⟩ := hrel
    by_cases hlt : kk < xs.length
    · have hltz : (kk : Int) < (xs.length : Int) := by omega
      obtain ⟨ad, e0, hc0⟩ := arr_get HR.out rfl hlt
      cases e0
      have hc1 := pw_cell_below (BW.out) (hc0 0 xs[kk].fr rfl)
      have hc2 := pw_cell_below (BW.out) (hc0 1 xs[kk].tw rfl)
      have hc3 := pw_cell_below (BW.out) (hc0 2 xs[kk].lo rfl)
      have hc4 := pw_cell_below (BW.out) (hc0 3 xs[kk].hi rfl)
      have hc5 := pw_cell_below (BW.out) (hc0 4 xs[kk].op rfl)
      have hc6 := pw_cell_below (BW.out) (hc0 5 xs[kk].re rfl)
      clear hc0
      rw [show ad.add (kk * 6 + 0) = ad.add (kk * 6) from rfl] at hc1
      rw [show ad.add (kk * 6 + 1) = ⟨(ad.add (kk * 6)).block, (ad.add (kk * 6)).off + 1, none⟩ from by rw [← Addr.add_add, add_pos _ (by omega)]] at hc2
      rw [show ad.add (kk * 6 + 2) = ⟨(ad.add (kk * 6)).block, (ad.add (kk * 6)).off + 2, none⟩ from by rw [← Addr.add_add, add_pos _ (by omega)]] at hc3
      rw [show ad.add (kk * 6 + 3) = ⟨(ad.add (kk * 6)).block, (ad.add (kk * 6)).off + 3, none⟩ from by rw [← Addr.add_add, add_pos _ (by omega)]] at hc4
      rw [show ad.add (kk * 6 + 4) = ⟨(ad.add (kk * 6)).block, (ad.add (kk * 6)).off + 4, none⟩ from by rw [← Addr.add_add, add_pos _ (by omega)]] at hc5
      rw [show ad.add (kk * 6 + 5) = ⟨(ad.add (kk * 6)).block, (ad.add (kk * 6)).off + 5, none⟩ from by rw [← Addr.add_add, add_pos _ (by omega)]] at hc6
      have hcall := HP.out wr xs[kk] (List.getElem_mem hlt) BW.out
      have hat := Aside0.mk (fun (h : p xs[kk] = true) => ixOf_hit p xs kk hlt h AA.out)
      have hne := Aside0.mk (fun (h : p xs[kk] = false) (j : Nat) (hj : j < xs.length) (hjk : j < kk + 1) => by
        by_cases e : j = kk
        · subst e; exact h
        · exact AA.out j hj (by omega) : p xs[kk] = false → ∀ j, ∀ hj : j < xs.length, j < kk + 1 → p xs[j] = false)
      generalize xs[kk] = y at hc1 hc2 hc3 hc4 hc5 hc6 hcall hat hne
      cases hq : p y with
      | true =>
        rw [hq] at hcall
        have hq' := Aside0.mk hq
        clear hq
        go_wp2_with (go_at_fn g; refine hcall.mono ?_; rintro e w' ⟨rfl, hb'⟩)
        go_ret
        exact ⟨by rw [hat.out hq'.out]; rfl, hb'⟩
      | false =>
        rw [hq] at hcall
        have hq' := Aside0.mk hq
        clear hq
        go_wp2_with (go_at_fn g; refine hcall.mono ?_; rintro e w' ⟨rfl, hb'⟩)
        go_roundg (xs.length - (kk + 1))
        case measure => omega
        case rel => exact ⟨kk + 1, by omega, by omega, by go_num, ⟨hb'⟩, ⟨hne.out hq'.out⟩⟩
    · have hltz : ¬ (kk : Int) < (xs.length : Int) := by omega
      have hfin := Aside0.mk (ixOf_miss p xs (fun j hj => AA.out j hj (by omega)))
      go_wp2
      go_ret
      exact ⟨by rw [hfin.out]; rfl, BW.out⟩

set_option maxHeartbeats 1000000 in
theorem ContainsFunc_ed (g : Nat) (lb : Array Value) (eg : ∀ args w, (callFunc g args).run Try.prog w = .ok (.enter g args) w) (p : Edg → Bool) (A : Option Addr) (c : Nat) (xs : List (Edg)) (w : World)
    (hr : Kd.C kEd w A xs.length xs) (hp : Pred_ed g lb p xs w) :
    Calls Try.prog 113 #[.slice A xs.length c, .func (.func g) #[] lb] w fun e w' => e = .returned (.bool (xs.any p)) ∧ Below w.heap.size w w' := by
  rw [← ixOf_any]
  have H := IndexFunc_ed g lb eg p A c xs w hr hp
  clear hr hp
  go_enter Try.func113, Try.ntmps113
  go_wp2_with (go_at_call 173; refine H.mono ?_; rintro e w' ⟨rfl, hb'⟩)
  go_ret
  exact ⟨rfl, hb'⟩

end Go.Proofs.Ytampgoendkjkhaa.H
