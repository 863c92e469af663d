/- slices.Compare and det.Key at ints: what they answer. -/
import Derived.Test.YtampgoendkjkhaaRp
import Derived.Test.YtampgoendkjkhaaLyM
import Derived.Test.YtampgoendkjkhaaSk
import Derived.Test.YtampgoendkjkhaaCut
import Derived.Test.YtampgoendkjkhaaPBasex
namespace Go.Proofs.Ytampgoendkjkhaa.H
open Go.RowKit Go.Shelf Go.Proofs.YtampgoendkjkhaaW.PrintWords Go.Proofs.Ytampgoendkjkhaa.LyM
set_option linter.unusedVariables false
set_option linter.unusedSimpArgs false
theorem rw_cmp (x y : Int) : PBase.cmp_Compare_int.f x y = some (if x < y then -1 else if x > y then 1 else 0) := by
  unfold PBase.cmp_Compare_int.f PBase.cmp_isNaN_int.f
  by_cases h1 : x < y
  · simp [h1]
  · by_cases h2 : x > y <;> simp [h1, h2]
theorem cmpB_l0 (x y : List Int) (hn : x.length ≤ 9223372036854775807) : ∀ d i k, x.length - i = d → i ≤ x.length → i ≤ y.length → d < k → PBase.slices_Compare_int_int.l0 k x y x (x.length : Int) (i : Int) = some (cmpL (x.drop i) (y.drop i)) := by
  intro d
  induction d with
  | zero =>
    intro i k hd hi hj hk
    obtain ⟨k, rfl⟩ : ∃ m, k = m + 1 := ⟨k - 1, by omega⟩
    rw [List.drop_of_length_le (show x.length ≤ i by omega)]
    simp only [PBase.slices_Compare_int_int.l0]
    rw [if_neg (by omega)]
    by_cases h : i = y.length
    · rw [List.drop_of_length_le (show y.length ≤ i by omega), if_neg (by omega)]; rfl
    · have : i < y.length := by omega
      rw [List.drop_eq_getElem_cons this, if_pos (by omega)]; rfl
  | succ d ih =>
    intro i k hd hi hj hk
    obtain ⟨k, rfl⟩ : ∃ m, k = m + 1 := ⟨k - 1, by omega⟩
    have hlt : i < x.length := by omega
    simp only [PBase.slices_Compare_int_int.l0]
    rw [List.drop_eq_getElem_cons hlt, if_pos (by omega), if_pos (by omega), if_pos (by omega)]
    by_cases h : i = y.length
    · rw [if_pos (by omega), List.drop_of_length_le (show y.length ≤ i by omega)]; rfl
    · have hly : i < y.length := by omega
      rw [if_neg (by omega), if_pos (by omega), rd_at hlt, rd_at hly, rw_cmp, List.drop_eq_getElem_cons hly]
      simp only [Option.bind_some, cmpL]
      by_cases h1 : x[i] < y[i]
      · simp [h1]
      · by_cases h2 : x[i] > y[i]
        · simp [h1, h2]
        · simp only [h1, h2, if_false, if_true]
          rw [w64 (by omega) (by omega), show ((i : Int) + 1) = ((i + 1 : Nat) : Int) from by omega, ih (i + 1) k (by omega) (by omega) (by omega) (by omega)]
theorem cmpB_calls (A0 : Option Addr) (c0 : Nat) (l0 : List Int) (A1 : Option Addr) (c1 : Nat) (l1 : List Int) (w : World) (hr0 : Kd.C (Kd.int .i64) w A0 l0.length l0) (hc0 : l0.length ≤ c0) (hr1 : Kd.C (Kd.int .i64) w A1 l1.length l1) (hc1 : l1.length ≤ c1) (r : Int) (h : cmpL l0 l1 = r) :
    Calls Try.prog 185 #[.slice A0 l0.length c0, .slice A1 l1.length c1] w fun e w' => e = .returned (.int .i64 r) ∧ Drawn0 w w' := by
  refine PBase.slices_Compare_int_int.calls (l0.length + 1) A0 c0 l0 A1 c1 l1 r w hr0 hc0 hr1 hc1 ?_
  unfold PBase.slices_Compare_int_int.f
  have := cmpB_l0 l0 l1 hr0.2.1 l0.length 0 (l0.length + 1) (by omega) (by omega) (by omega) (by omega)
  rw [← h]
  exact this
theorem lex_of_cmp : ∀ {x y : List Int}, x.length = y.length → cmpL x y < 0 → LexL x y
  | [], [], _, h => by simp [cmpL] at h
  | [], _ :: _, h, _ => by simp at h
  | _ :: _, [], h, _ => by simp at h
  | a :: x, b :: y, hl, h => by
    unfold cmpL at h
    by_cases h1 : a < b
    · exact .head h1
    · by_cases h2 : a > b
      · simp [h1, h2] at h
      · obtain rfl : a = b := by omega
        simp only [h1, if_false] at h
        exact .tail (lex_of_cmp (by simpa using hl) (by simpa using h))
/-- does a word stand ahead of another one? -/
def befB (a b : List Int) : Bool := if a.length = b.length then decide (cmpL a b < 0) else decide (a.length < b.length)
theorem bef_ord {a b : List Int} (h : befB a b = true) : a.length < b.length ∨ a.length = b.length ∧ LexL a b := by
  unfold befB at h
  split at h
  · rename_i e
    exact .inr ⟨e, lex_of_cmp e (of_decide_eq_true h)⟩
  · exact .inl (of_decide_eq_true h)
theorem key_l0 (x : List Int) (hn : x.length < 1000000) : ∀ d i k acc, x.length - i = d → i ≤ x.length → d < k → acc.length ≤ 2 * i → PBase.det_Key.l0 k acc x (x.length : Int) (i : Int) = some (strOfNums (acc ++ bytesB (x.drop i))) := by
  intro d
  induction d with
  | zero =>
    intro i k acc hd hi hk ha
    obtain ⟨k, rfl⟩ : ∃ m, k = m + 1 := ⟨k - 1, by omega⟩
    rw [List.drop_of_length_le (show x.length ≤ i by omega)]
    simp only [PBase.det_Key.l0]
    rw [if_neg (by omega)]
    simp [bytesB]
  | succ d ih =>
    intro i k acc hd hi hk ha
    obtain ⟨k, rfl⟩ : ∃ m, k = m + 1 := ⟨k - 1, by omega⟩
    have hlt : i < x.length := by omega
    simp only [PBase.det_Key.l0]
    rw [List.drop_eq_getElem_cons hlt, if_pos (by omega), if_pos (by omega), if_pos (by omega), rd_at hlt]
    simp only [Option.bind_some]
    rw [if_pos (by simp; omega), w64 (by omega) (by omega), show ((i : Int) + 1) = ((i + 1 : Nat) : Int) from by omega, ih (i + 1) k _ (by omega) (by omega) (by omega) (by simp; omega), bytesB_cons]
    simp
theorem key_calls (A : Option Addr) (c : Nat) (x : List Int) (w : World) (hr : Kd.C (Kd.int .i64) w A x.length x) (hc : x.length ≤ c) (hx : x.length < 1000000) :
    Calls Try.prog 57 #[.slice A x.length c] w fun e w' => e = .returned (.string (bstr x)) ∧ Below w.heap.size w w' := by
  refine PBase.det_Key.calls (x.length + 1) A c x (bstr x) w hr hc ?_
  unfold PBase.det_Key.f
  exact key_l0 x hx x.length 0 (x.length + 1) [] (by omega) (by omega) (by omega) (by simp)
end Go.Proofs.Ytampgoendkjkhaa.H
