/- Contracts of slices.IndexFunc, ContainsFunc at structs of three ints. -/
import Derived.Test.YtampgoendkjkhaaSl
import Derived.Test.YtampgoendkjkhaaArr
namespace Go.Proofs.Ytampgoendkjkhaa.H
open Go.RowKit Go.Proofs.YtampgoendkjkhaaW.PrintWords
set_option linter.unusedVariables false
set_option linter.unusedSimpArgs false
def csAr (x : Int × Int × Int) : List Int := [x.1, x.2.1, x.2.2]
theorem add_pos (a : Addr) {n : Nat} (h : 0 < n) : a.add n = ⟨a.block, a.off + n, none⟩ := by
  unfold Addr.add
  split
  · omega
  · rfl
def kAr : Kd (Int × Int × Int) := kArr 3 csAr (fun _ => rfl)

/-- What is asked of a closure: at each element, in each world in which all that lay lies. -/
def Pred_ar (g : Nat) (lb : Array Value) (p : (Int × Int × Int) → Bool) (xs : List (Int × Int × Int)) (w : World) : Prop :=
  ∀ (W : World) (x0 x1 x2 : Int), (x0, x1, x2) ∈ xs → Below w.heap.size w W → Calls Try.prog g (#[.agg #[.int .i64 x0, .int .i64 x1, .int .i64 x2]] ++ lb) W fun e w' => e = .returned (.bool (p (x0, x1, x2))) ∧ Below w.heap.size w w'
set_option maxHeartbeats 1000000 in
theorem IndexFunc_ar (g : Nat) (lb : Array Value) (eg : ∀ args w, (callFunc g args).run Try.prog w = .ok (.enter g args) w) (p : Int × Int × Int → Bool) (A : Option Addr) (c : Nat) (xs : List (Int × Int × Int)) (w : World)
    (hr : Kd.C kAr w A xs.length xs) (hp : Pred_ar g lb p xs w) :
    Calls Try.prog 186 #[.slice A xs.length c, .func (.func g) #[] lb] w fun e w' => e = .returned (.int .i64 (ixOf p xs)) ∧ Below w.heap.size w w' := by
  have hbig : xs.length ≤ 9223372036854775807 := hr.2.1
  have HR := Aside0.mk hr
  have HP := Aside0.mk hp
  clear hr hp
  go_enter Try.func186, Try.ntmps186
  go_wp2
  go_loopg [5, 8] xs.length (fun gg _ s8 wr => ∃ kk : Nat, kk ≤ xs.length ∧ xs.length - kk ≤ gg ∧ s8 = .int .i64 kk ∧ Aside0 (Below w.heap.size w wr) ∧ Aside0 (∀ j, ∀ hj : j < xs.length, j < kk → p xs[j] = false))
  case atStart => exact ⟨0, Nat.zero_le _, by omega, rfl, ⟨Below.refl _ w⟩, ⟨fun j _ hj => absurd hj (Nat.not_lt_zero _)⟩⟩
  case round =>
    obtain ⟨kk, hkk, hg, rfl, BW, AA⟩ := hrel
    by_cases hlt : kk < xs.length
    · have hltz : (kk : Int) < (xs.length : Int) := by omega
      obtain ⟨ad, e0, hc0⟩ := arr_get HR.out rfl hlt
      cases e0
      obtain ⟨x0, x1, x2, hx⟩ : ∃ x0 x1 x2, xs[kk] = (x0, x1, x2) := ⟨_, _, _, rfl⟩
      have hc1 := pw_cell_below (BW.out) (hc0 0 x0 (by rw [hx]; rfl))
      have hc2 := pw_cell_below (BW.out) (hc0 1 x1 (by rw [hx]; rfl))
      have hc3 := pw_cell_below (BW.out) (hc0 2 x2 (by rw [hx]; rfl))
      clear hc0
      rw [show ad.add (kk * 3 + 0) = ad.add (kk * 3) from rfl] at hc1
      rw [show ad.add (kk * 3 + 1) = ⟨(ad.add (kk * 3)).block, (ad.add (kk * 3)).off + 1, none⟩ from by rw [← Addr.add_add, add_pos _ (by omega)]] at hc2
      rw [show ad.add (kk * 3 + 2) = ⟨(ad.add (kk * 3)).block, (ad.add (kk * 3)).off + 2, none⟩ from by rw [← Addr.add_add, add_pos _ (by omega)]] at hc3
      have hcall := HP.out wr x0 x1 x2 (hx ▸ List.getElem_mem hlt) BW.out
      have hat := Aside0.mk (fun (h : p xs[kk] = true) => ixOf_hit p xs kk hlt h AA.out)
      have hne := Aside0.mk (fun (h : p xs[kk] = false) (j : Nat) (hj : j < xs.length) (hjk : j < kk + 1) => by
        by_cases e : j = kk
        · subst e; exact h
        · exact AA.out j hj (by omega) : p xs[kk] = false → ∀ j, ∀ hj : j < xs.length, j < kk + 1 → p xs[j] = false)
      rw [hx] at hat hne
      clear hx
      cases hq : p (x0, x1, x2) with
      | true =>
        rw [hq] at hcall
        have hq' := Aside0.mk hq
        clear hq
        go_wp2_with (go_at_fn g; refine hcall.mono ?_; rintro e w' ⟨rfl, hb'⟩)
        go_ret
        exact ⟨by rw [hat.out hq'.out]; rfl, hb'⟩
      | false =>
        rw [hq] at hcall
        have hq' := Aside0.mk hq
        clear hq
        go_wp2_with (go_at_fn g; refine hcall.mono ?_; rintro e w' ⟨rfl, hb'⟩)
        go_roundg (xs.length - (kk + 1))
        case measure => omega
        case rel => exact ⟨kk + 1, by omega, by omega, by go_num, ⟨hb'⟩, ⟨hne.out hq'.out⟩⟩
    · have hltz : ¬ (kk : Int) < (xs.length : Int) := by omega
      have hfin := Aside0.mk (ixOf_miss p xs (fun j hj => AA.out j hj (by omega)))
      go_wp2
      go_ret
      exact ⟨by rw [hfin.out]; rfl, BW.out⟩

set_option maxHeartbeats 1000000 in
theorem ContainsFunc_ar (g : Nat) (lb : Array Value) (eg : ∀ args w, (callFunc g args).run Try.prog w = .ok (.enter g args) w) (p : Int × Int × Int → Bool) (A : Option Addr) (c : Nat) (xs : List (Int × Int × Int)) (w : World)
    (hr : Kd.C kAr w A xs.length xs) (hp : Pred_ar g lb p xs w) :
    Calls Try.prog 133 #[.slice A xs.length c, .func (.func g) #[] lb] w fun e w' => e = .returned (.bool (xs.any p)) ∧ Below w.heap.size w w' := by
  rw [← ixOf_any]
  have H := IndexFunc_ar g lb eg p A c xs w hr hp
  clear hr hp
  go_enter Try.func133, Try.ntmps133
  go_wp2_with (go_at_call 186; refine H.mono ?_; rintro e w' ⟨rfl, hb'⟩)
  go_ret
  exact ⟨rfl, hb'⟩

end Go.Proofs.Ytampgoendkjkhaa.H
