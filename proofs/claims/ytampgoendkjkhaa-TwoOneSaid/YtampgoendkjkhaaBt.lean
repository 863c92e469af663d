/- Sets as bits. -/
import Derived.Test.YtampgoendkjkhaaBit
namespace Go.Proofs.Ytampgoendkjkhaa.H
open Go.RowKit Go.Proofs.YtampgoendkjkhaaW.PrintWords Go.Proofs.YtampgoendkjkhaaW.PrintMore
set_option linter.unusedVariables false
theorem bits_test (s p : Nat) (hs : s < 2 ^ 62) : bits .and .i64 ((s : Int) / 2 ^ p) 1 = if s.testBit p then 1 else 0 := by
  have e : ((s : Int) / 2 ^ p) = ((s / 2 ^ p : Nat) : Int) := by simp
  rw [e, show (1 : Int) = ((1 : Nat) : Int) from rfl, bits_and _ _ (Nat.lt_of_le_of_lt (Nat.div_le_self _ _) (by omega)) (by decide), Nat.and_one_is_mod, Nat.testBit_eq_decide_div_mod_eq]
  have := Nat.mod_two_eq_zero_or_one (s / 2 ^ p)
  rcases this with h | h <;> simp [h]
theorem bits_test1 (s p : Nat) (hs : s < 2 ^ 62) : (bits .and .i64 ((s : Int) / 2 ^ p) 1 == 1) = s.testBit p := by
  rw [bits_test s p hs]; cases s.testBit p <;> rfl
theorem bits_test0 (s p : Nat) (hs : s < 2 ^ 62) : (bits .and .i64 ((s : Int) / 2 ^ p) 1 == 0) = !s.testBit p := by
  rw [bits_test s p hs]; cases s.testBit p <;> rfl
/-- the numbers below n of which p holds, as bits -/
def bN (p : Nat → Bool) : Nat → Nat
  | 0 => 0
  | n + 1 => bN p n ||| (if p n then 2 ^ n else 0)
theorem bN_lt (p : Nat → Bool) : ∀ n, bN p n < 2 ^ n
  | 0 => by simp [bN]
  | n + 1 => by
    unfold bN
    have h := bN_lt p n
    have h2 : 2 ^ n < 2 ^ (n + 1) := Nat.pow_lt_pow_right (by omega) (by omega)
    refine Nat.or_lt_two_pow (by omega) ?_
    split <;> omega
theorem bN_test (p : Nat → Bool) : ∀ n q, (bN p n).testBit q = (decide (q < n) && p q)
  | 0, q => by simp [bN]
  | n + 1, q => by
    unfold bN
    rw [Nat.testBit_or, bN_test p n q]
    have h0 : (if p n = true then 2 ^ n else 0).testBit q = (p n && decide (n = q)) := by
      cases p n <;> simp [Nat.testBit_two_pow]
    rw [h0]
    by_cases e : q = n
    · subst e; simp
    · rcases Nat.lt_or_ge q n with h | h
      · have : ¬ n = q := fun h => e h.symm
        simp [h, this]; omega
      · have : ¬ q < n := by omega
        have h2 : ¬ q < n + 1 := by omega
        have h3 : ¬ n = q := fun h => e h.symm
        simp [this, h2, h3]
theorem bN_ext {p p' : Nat → Bool} {n : Nat} (h : ∀ q, q < n → p q = p' q) : bN p n = bN p' n := by
  apply Nat.eq_of_testBit_eq
  intro q
  rw [bN_test, bN_test]
  by_cases e : q < n
  · rw [h q e]
  · simp [e]
theorem bN_small (p : Nat → Bool) {n m : Nat} (h : n ≤ m) : bN p n < 2 ^ m := Nat.lt_of_lt_of_le (bN_lt p n) (Nat.pow_le_pow_right (by omega) h)
/-- one more, as the program reckons it -/
theorem bN_or (p : Nat → Bool) (n : Nat) (hn : n < 62) (h : p n = true) : bits .or .i64 ((bN p n : Nat) : Int) ((2 ^ n : Nat) : Int) = ((bN p (n + 1) : Nat) : Int) := by
  have h1 := bN_small p (show n ≤ 62 by omega)
  have h2 := pow_lt62 n hn
  rw [bits_or _ _ (by omega) (by omega), bN, if_pos h]
theorem bN_or' (p : Nat → Bool) (n : Nat) (hn : n < 62) (h : p n = true) : bits .or .i64 ((bN p n : Nat) : Int) (wrap64 (2 ^ n)) = ((bN p (n + 1) : Nat) : Int) := by
  have h2 := pow_lt62 n hn
  have e : wrap64 (2 ^ n) = ((2 ^ n : Nat) : Int) := by
    have h3 : ((2 : Int) ^ n) = ((2 ^ n : Nat) : Int) := by simp
    rw [h3]
    generalize 2 ^ n = z at h2
    unfold wrap64; omega
  rw [e, bN_or p n hn h]
theorem bN_or0 (p : Nat → Bool) (n : Nat) (hn : n < 62) (h : p n = false) : bits .or .i64 ((bN p n : Nat) : Int) 0 = ((bN p (n + 1) : Nat) : Int) := by
  have h1 := bN_small p (show n ≤ 62 by omega)
  rw [show (0 : Int) = ((0 : Nat) : Int) from rfl, bits_or _ _ (by omega) (by omega), bN, if_neg (by simp [h])]
theorem bN_not (p : Nat → Bool) (n : Nat) (h : p n = false) : bN p (n + 1) = bN p n := by
  rw [bN, if_neg (by simp [h]), Nat.or_zero]
def mkB (ms : List Int) (q : Nat) : Bool := ms.getD q 0 == 1
theorem mk_get {ms : List Int} (h : ∀ m ∈ ms, m = 0 ∨ m = 1) {q : Nat} (hq : q < ms.length) : ms[q] = if mkB ms q then 1 else 0 := by
  unfold mkB
  rw [List.getD_eq_getElem?_getD, List.getElem?_eq_getElem hq, Option.getD_some]
  rcases h _ (List.getElem_mem hq) with e | e <;> rw [e] <;> rfl
end Go.Proofs.Ytampgoendkjkhaa.H
