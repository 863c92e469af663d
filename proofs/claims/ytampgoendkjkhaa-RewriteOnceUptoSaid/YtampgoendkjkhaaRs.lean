/- rules: a kind for pairs of words; before, cut in the middle. -/
import Derived.Test.YtampgoendkjkhaaRk
import Derived.Test.YtampgoendkjkhaaGet
import Derived.Test.YtampgoendkjkhaaNoB
import Derived.Test.YtampgoendkjkhaaSlA
import Derived.Test.YtampgoendkjkhaaDv
namespace Go.Proofs.Ytampgoendkjkhaa.H
open Go.RowKit Go.Shelf Go.Proofs.YtampgoendkjkhaaW.PrintWords Go.Proofs.YtampgoendkjkhaaW.PrintMore Go.Proofs.Ytampgoendkjkhaa.LyM
set_option linter.unusedVariables false
set_option linter.unusedSimpArgs false
def kSw : Kd Rul where
  sz := 2
  E := []
  K := fun w x cs => ∃ A1 c1 A2 c2, cs = [.slice A1 x.1.length c1, .slice A2 x.2.length c2] ∧ x.1.length ≤ c1 ∧ x.2.length ≤ c2 ∧ Kd.C (Kd.int .i64) w A1 x.1.length x.1 ∧ Kd.C (Kd.int .i64) w A2 x.2.length x.2
  M := fun _ _ _ _ _ => False
  K_len := by rintro w x cs ⟨A1, c1, A2, c2, rfl, _⟩; rfl
  K_one := by
    rintro w x cs ⟨A1, c1, A2, c2, rfl, _⟩ u hu
    simp only [List.mem_cons, List.not_mem_nil, or_false] at hu
    rcases hu with rfl | rfl <;> rfl
  K_below := by
    rintro w w1 x cs hb ⟨A1, c1, A2, c2, rfl, h1, h2, h3, h4⟩
    exact ⟨A1, c1, A2, c2, rfl, h1, h2, Kd.C_below h3 hb, Kd.C_below h4 hb⟩
  K_of_M := fun h => h.elim
  M_mono := fun _ h => h
  M_bound := fun h => h
  M_move := fun _ h => h
  M_lower := fun _ h => h
theorem sw_get {W : World} {A : Option Addr} {n : Nat} {xs : List Rul} (h : Kd.C kSw W A n xs) (hn : n = xs.length) {i : Nat} (hi : i < xs.length) :
    ∃ ad A1 c1 A2 c2, A = some ad ∧ xs[i].1.length ≤ c1 ∧ xs[i].2.length ≤ c2 ∧ Kd.C (Kd.int .i64) W A1 xs[i].1.length xs[i].1 ∧ Kd.C (Kd.int .i64) W A2 xs[i].2.length xs[i].2 ∧ W.cell? (ad.add (i * 2)) = some (.slice A1 xs[i].1.length c1) ∧ W.cell? ⟨(ad.add (i * 2)).block, (ad.add (i * 2)).off + 1, none⟩ = some (.slice A2 xs[i].2.length c2) := by
  subst hn
  obtain ⟨ad, c, e0, _, hK, hc0⟩ := Kd.C_get h xs[i] (i : Int) (by omega) (by omega)
  have hx : xs.getD ((i : Int).toNat) xs[i] = xs[i] := by simp [List.getD_eq_getElem?_getD, hi]
  rw [hx] at hK
  obtain ⟨A1, c1, A2, c2, rfl, h1, h2, h3, h4⟩ := hK
  have z0 := hc0 0 _ rfl
  have z1 := hc0 1 _ rfl
  rw [Int.toNat_natCast] at z0 z1
  refine ⟨ad, A1, c1, A2, c2, e0, h1, h2, h3, h4, z0, ?_⟩
  rw [show kSw.sz = 2 from rfl, ← Addr.add_add, add_pos _ (by omega)] at z1
  exact z1
theorem cutM (A : Option Addr) (c n i j : Nat) (hi : i ≤ j) (hj : j ≤ n) (hc : n ≤ c) : ∃ (A' : Option Addr) (m c' : Nat), m = j - i ∧ m ≤ c' ∧ (∀ W, (Instr.slice 22 (.slice A n c) (some (.int .i64 (i : Int))) (some (.int .i64 (j : Int))) none).run Try.prog W = .ok (.slice A' m c') W) ∧ ∀ W (l : List Int), Kd.C (Kd.int .i64) W A n l → Kd.C (Kd.int .i64) W A' m ((l.drop i).take (j - i)) := by
  obtain ⟨i0, hi0, _, hsz, _⟩ := info_parts (show (Try.prog.info? 3).map (fun i => (i.zero, i.size, i.bytes)) = some (some (.int .i64 0), 1, 8) by kernel_rfl)
  refine ⟨_, j - i, c - i, rfl, by omega, fun W => by simpa using cut_mid (P := Try.prog) 22 3 .i64 .i64 Try.underlying22 hi0 1 hsz A n c (i : Int) (j : Int) (by omega) (by omega) (by omega) hc W, fun W l h => ?_⟩
  obtain rfl : l.length = n := h.1
  have h1 := Kd.C_drop (m := i) h (by omega) hc
  have h2 := Kd.C_take (m := j - i) h1 (by simp; omega)
  rw [List.length_take, List.length_drop, Nat.min_eq_left (by omega)] at h2
  simpa [show (Kd.int .i64).sz = 1 from rfl] using h2
theorem bef_calls (A0 : Option Addr) (c0 : Nat) (l0 : List Int) (A1 : Option Addr) (c1 : Nat) (l1 : List Int) (w : World) (hr0 : Kd.C (Kd.int .i64) w A0 l0.length l0) (hc0 : l0.length ≤ c0) (hr1 : Kd.C (Kd.int .i64) w A1 l1.length l1) (hc1 : l1.length ≤ c1) :
    Calls Try.prog 128 #[.slice A0 l0.length c0, .slice A1 l1.length c1] w fun e w' => e = .returned (.bool (befB l0 l1)) ∧ Drawn0 w w' := by
  have hb0 := hr0.2.1
  have hb1 := hr1.2.1
  by_cases hl : l0.length = l1.length
  · have HE := Aside0.mk (show befB l0 l1 = decide (cmpL l0 l1 < 0) from by unfold befB; rw [if_pos hl])
    have gl : ((l0.length : Int) != (l1.length : Int)) = false := by rw [hl]; simp
    have HC := Aside0.mk (cmpB_calls A0 c0 l0 A1 c1 l1 w hr0 hc0 hr1 hc1 _ rfl)
    clear hl hr0 hr1
    go_enter Try.func128, Try.ntmps128
    go_wp2_with (go_at_call 185; refine HC.out.mono ?_; rintro e w1 ⟨rfl, hw1⟩)
    go_ret
    exact ⟨by rw [HE.out]; rfl, hw1⟩
  · have HE := Aside0.mk (show befB l0 l1 = decide (l0.length < l1.length) from by unfold befB; rw [if_neg hl])
    have gl : ((l0.length : Int) != (l1.length : Int)) = true := by simp; omega
    clear hl hr0 hr1
    go_enter Try.func128, Try.ntmps128
    go_wp2
    go_ret
    exact ⟨by rw [HE.out]; rfl, ⟨0, rfl⟩⟩
end Go.Proofs.Ytampgoendkjkhaa.H
