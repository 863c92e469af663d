/- alter.Check's closures, ahead's closures. -/
import Derived.Test.YtjabncedfjjbjaaSl3
import Derived.Test.YtjabncedfjjbjaaMu
import Derived.Test.YtjabncedfjjbjaaBit
import Derived.BigQuiet
namespace Go.Proofs.Ytjabncedfjjbjaa.H
open Go.RowKit Go.Shelf Go.Proofs.YtjabncedfjjbjaaW.PrintWords
set_option linter.unusedVariables false
set_option linter.unusedSimpArgs false
def bitB (q : Int) : Bool := (q != 0) && (q != 1)
theorem al1_calls (A : Option Addr) (c n : Nat) (L : Int) (B : Nat) (w : World) (hc : w.cell? ⟨B, 0, none⟩ = some (.int .i64 L)) :
    Calls Try.prog 133 #[.slice A n c, .pointer (some ⟨B, 0, none⟩)] w fun e w' => e = .returned (.bool ((n : Int) != L)) ∧ w = w' := by
  go_enter Try.func133, Try.ntmps133
  go_wp2
  go_ret
  exact ⟨rfl, rfl⟩
theorem al2_calls (n q : Int) (B : Nat) (w : World) (hc : w.cell? ⟨B, 0, none⟩ = some (.int .i64 n)) :
    Calls Try.prog 134 #[.int .i64 q, .pointer (some ⟨B, 0, none⟩)] w fun e w' => e = .returned (.bool (noB n q)) ∧ w = w' := by
  by_cases h : q < 0
  · have h' : decide (q < 0) = true := decide_eq_true h
    go_enter Try.func134, Try.ntmps134
    go_wp2
    go_ret
    exact ⟨by simp [noB, h']; try rfl, rfl⟩
  · have h' : decide (q < 0) = false := decide_eq_false h
    go_enter Try.func134, Try.ntmps134
    go_wp2
    go_ret
    exact ⟨by simp [noB, h']; try rfl, rfl⟩
theorem al4_calls (A : Option Addr) (c : Nat) (xs : List Int) (n : Int) (B B2 : Nat) (w : World) (hr : Kd.C (Kd.int .i64) w A xs.length xs) (hc : w.cell? ⟨B, 0, none⟩ = some (.int .i64 n)) (hB : B < w.heap.size)
    (hc2 : w.cell? ⟨B2, 0, none⟩ = some (.func (.func 134) #[] #[.pointer (some ⟨B, 0, none⟩)])) :
    Calls Try.prog 136 #[.slice A xs.length c, .pointer (some ⟨B2, 0, none⟩)] w fun e w' => e = .returned (.bool (xs.any (noB n))) ∧ Below w.heap.size w w' := by
  have H := ContainsFunc_int 134 #[.pointer (some ⟨B, 0, none⟩)] (enters_of Try.func134 (by kernel_rfl) rfl) (noB n) A c xs w hr
    (fun W x _ hb => (al2_calls n x B W ((hb.cell (p := ⟨B, 0, none⟩) hB).trans hc)).mono fun e w' ⟨he, hw⟩ => ⟨he, hw ▸ hb⟩)
  clear hr
  go_enter Try.func136, Try.ntmps136
  go_wp2_with (go_at_call 81; refine H.mono ?_; rintro e w' ⟨rfl, hb'⟩)
  go_ret
  exact ⟨rfl, hb'⟩
theorem al5_calls (q : Int) (w : World) : Calls Try.prog 137 #[.int .i64 q] w fun e w' => e = .returned (.bool (bitB q)) ∧ w = w' := by
  cases h : (q != 0) with
  | true =>
    go_enter Try.func137, Try.ntmps137
    go_wp2
    go_ret
    exact ⟨by simp [bitB, h]; try rfl, rfl⟩
  | false =>
    go_enter Try.func137, Try.ntmps137
    go_wp2
    go_ret
    exact ⟨by simp [bitB, h]; try rfl, rfl⟩
theorem al3_calls (A : Option Addr) (c n : Nat) (w : World) : Calls Try.prog 135 #[.slice A n c] w fun e w' => e = .returned (.bool (decide (4 < (n : Int)))) ∧ w = w' := by
  go_enter Try.func135, Try.ntmps135
  go_wp2
  go_ret
  exact ⟨rfl, rfl⟩
end Go.Proofs.Ytjabncedfjjbjaa.H
