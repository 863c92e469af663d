/- Exploring at any keys (plain). -/
import Derived.Test.YtjabncedfjjbjaaArr
namespace Go.Proofs.Ytjabncedfjjbjaa.H
open Go.RowKit Go.Shelf Go.Proofs.YtjabncedfjjbjaaW.PrintWords Go.Proofs.Ytjabncedfjjbjaa.DtM
set_option linter.unusedVariables false
section
variable {κ : Type} [DecidableEq κ]
def rowAtG (f : κ → Nat → κ) (l : List κ) (k : κ) (a : Nat) : List Int := (List.range a).map fun b => (ixd l (f k b) : Int)
def rowsAtG (f : κ → Nat → κ) (L : Nat) (l : List κ) (i : Nat) : List (List Int) := (l.take i).map fun k => rowAtG f l k L
structure ExpPG (L : Nat) (f : κ → Nat → κ) (mk : κ → Int) (U lF : List κ) (i : Nat) (l : List κ) (ms : List Int) (rows : List (List Int)) : Prop where
  il : i ≤ l.length
  iU : i ≤ U.length
  nd : l.Nodup
  sub : ∀ x ∈ l, x ∈ U
  fin : expL f L (U.length + 1 - i) l i = lF
  rows : rows = rowsAtG f L l i
  ms : ms = (l.take i).map mk
  has : ∀ j (hj : j < l.length), j < i → ∀ a, a < L → f l[j] a ∈ l
structure InPG (L : Nat) (f : κ → Nat → κ) (U : List κ) (k : κ) (l lE : List κ) (a : Nat) (l' : List κ) : Prop where
  nd : l'.Nodup
  sub : ∀ x ∈ l', x ∈ U
  fin : stepL f k (L - a) a l' = lE
  has : ∀ b, b < a → f k b ∈ l'
  pre : ∃ m, l' = l ++ m
theorem rowAtG_app {f : κ → Nat → κ} {l : List κ} {k : κ} {a : Nat} (h : ∀ b, b < a → f k b ∈ l) (m : List κ) : rowAtG f (l ++ m) k a = rowAtG f l k a := by
  unfold rowAtG
  apply List.map_congr_left
  intro b hb
  rw [ixd_app (h b (List.mem_range.1 hb))]
theorem rowAtG_succ (f : κ → Nat → κ) (l : List κ) (k : κ) (a : Nat) : rowAtG f l k (a + 1) = rowAtG f l k a ++ [(ixd l (f k a) : Int)] := by
  unfold rowAtG
  rw [List.range_succ, List.map_append]
  rfl
theorem rowAtG_len (f : κ → Nat → κ) (l : List κ) (k : κ) (a : Nat) : (rowAtG f l k a).length = a := by simp [rowAtG]
theorem rowG_next {f : κ → Nat → κ} {l : List κ} {k : κ} {L a : Nat} (ha : a < L) : (rowAtG f l k a ++ List.replicate (L - a) 0).set a (ixd l (f k a) : Int) = rowAtG f l k (a + 1) ++ List.replicate (L - (a + 1)) 0 := by
  obtain ⟨d, hd⟩ : ∃ d, L - a = d + 1 := ⟨L - a - 1, by omega⟩
  rw [rowAtG_succ, hd, show L - (a + 1) = d from by omega, List.replicate_succ, List.set_append_right _ _ (by rw [rowAtG_len]; exact Nat.le_refl _), rowAtG_len, Nat.sub_self, List.set_cons_zero, List.append_assoc]
  rfl
theorem InPG.old {L : Nat} {f : κ → Nat → κ} {U : List κ} {k : κ} {l lE : List κ} {a : Nat} {l' : List κ} (h : InPG L f U k l lE a l') (ha : a < L) (hm : f k a ∈ l') : InPG L f U k l lE (a + 1) l' := by
  refine ⟨h.nd, h.sub, ?_, fun b hb => ?_, h.pre⟩
  · rw [← h.fin, show L - a = (L - (a + 1)) + 1 from by omega, stepL, if_pos hm]
  · by_cases e : b = a
    · subst e; exact hm
    · exact h.has b (by omega)
theorem InPG.new {L : Nat} {f : κ → Nat → κ} {U : List κ} {k : κ} {l lE : List κ} {a : Nat} {l' : List κ} (h : InPG L f U k l lE a l') (ha : a < L) (hm : f k a ∉ l') (hU : f k a ∈ U) : InPG L f U k l lE (a + 1) (l' ++ [f k a]) := by
  refine ⟨?_, fun x hx => ?_, ?_, fun b hb => ?_, ?_⟩
  · rw [List.nodup_append]
    refine ⟨h.nd, by simp, fun x hx y hy e => ?_⟩
    simp only [List.mem_singleton] at hy
    exact hm (by rw [← hy, ← e]; exact hx)
  · rcases List.mem_append.1 hx with hx | hx
    · exact h.sub x hx
    · simp only [List.mem_singleton] at hx; rw [hx]; exact hU
  · rw [← h.fin, show L - a = (L - (a + 1)) + 1 from by omega, stepL, if_neg hm]
  · by_cases e : b = a
    · subst e; simp
    · exact List.mem_append_left _ (h.has b (by omega))
  · obtain ⟨m, hm⟩ := h.pre
    exact ⟨m ++ [f k a], by rw [hm, List.append_assoc]⟩
theorem ExpPG.next {L : Nat} {f : κ → Nat → κ} {mk : κ → Int} {U lF : List κ} {i : Nat} {l : List κ} {ms : List Int} {rows : List (List Int)} (h : ExpPG L f mk U lF i l ms rows) {k : κ} {lE l' : List κ} (hk : ∃ h : i < l.length, l[i] = k) (hE : stepL f k L 0 l = lE) (g : InPG L f U k l lE L l') {mv : Int} (hm : mk k = mv) :
    ExpPG L f mk U lF (i + 1) l' (ms ++ [mv]) (rows ++ [rowAtG f l' k L]) := by
  obtain ⟨hi, hik⟩ := hk
  obtain ⟨m, hl'⟩ := g.pre
  have hlE : l' = lE := by have := g.fin; rw [Nat.sub_self] at this; exact this
  have tk : l'.take (i + 1) = l.take i ++ [k] := by
    rw [hl', List.take_append_of_le_length (by omega), List.take_succ_eq_append_getElem hi, hik]
  refine ⟨by rw [hl', List.length_append]; omega, ?_, g.nd, g.sub, ?_, ?_, ?_, ?_⟩
  · have := nodup_len g.nd g.sub
    rw [hl', List.length_append] at this
    omega
  · have := h.fin
    have hU := nodup_len h.nd h.sub
    rw [show U.length + 1 - i = (U.length + 1 - (i + 1)) + 1 from by omega, expL, dif_pos hi, hik, hE, ← hlE] at this
    exact this
  · unfold rowsAtG
    rw [tk, List.map_append, h.rows]
    unfold rowsAtG
    congr 1
    apply List.map_congr_left
    intro x hx
    obtain ⟨j, hj, rfl⟩ := List.getElem_of_mem hx
    rw [List.length_take] at hj
    rw [List.getElem_take, hl', rowAtG_app (fun b hb => h.has j (by omega) (by omega) b hb)]
  · rw [tk, List.map_append, h.ms, ← hm]
    rfl
  · intro j hj hji b hb
    by_cases e : j = i
    · subst e
      have : l'[j] = k := by
        have e2 : l'[j]? = some k := by rw [hl', List.getElem?_append_left hi, List.getElem?_eq_getElem hi, hik]
        rw [List.getElem?_eq_getElem hj] at e2
        exact Option.some.inj e2
      rw [this]
      exact g.has b hb
    · have hjl : j < l.length := by omega
      have : l'[j] = l[j] := by
        have e2 : l'[j]? = some l[j] := by rw [hl', List.getElem?_append_left hjl, List.getElem?_eq_getElem hjl]
        rw [List.getElem?_eq_getElem hj] at e2
        exact Option.some.inj e2
      rw [this, hl']
      exact List.mem_append_left _ (h.has j hjl (by omega) b hb)
end
end Go.Proofs.Ytjabncedfjjbjaa.H
