/- What exploring and the least automaton tell (plain). -/
import Derived.Test.YtampgoendkjkhaaSma
namespace Go.Proofs.Ytampgoendkjkhaa.H
open Go.Proofs.Ytampgoendkjkhaa.DtM
set_option linter.unusedVariables false
section
variable {κ : Type} [DecidableEq κ]
theorem expL_head (f : κ → Nat → κ) (L g : Nat) (k : κ) : k ∈ expL f L g [k] 0 ∧ ixd (expL f L g [k] 0) k = 0 := by
  obtain ⟨m, hm⟩ := expL_pre f L g [k] 0
  rw [hm]
  refine ⟨by simp, ?_⟩
  rw [ixd_app (by simp)]
  simp [ixd]
theorem rows_len (f : κ → Nat → κ) (L : Nat) (l : List κ) : (rowsL f L l).length = l.length := by simp [rowsL]
theorem nx_rows {f : κ → Nat → κ} {L : Nat} {l : List κ} {k : κ} (hk : k ∈ l) {a : Nat} (ha : a < L) : nxF (rowsL f L l) (ixd l k) a = ixd l (f k a) := by
  have hi := ixd_lt hk
  unfold nxF rowsL
  have e : (l.map fun k => (List.range L).map fun a => (ixd l (f k a) : Int)).getD (ixd l k) [] = (List.range L).map fun a => (ixd l (f k a) : Int) := by
    rw [List.getD_eq_getElem?_getD, List.getElem?_map, List.getElem?_eq_getElem hi, Option.map_some, Option.getD_some, ixd_get hk]
  rw [e, List.getD_eq_getElem?_getD, List.getElem?_map, List.getElem?_range ha, Option.map_some, Option.getD_some, Int.toNat_natCast]
theorem mk_map {l : List κ} (mk : κ → Int) {k : κ} (hk : k ∈ l) : mkF (l.map mk) (ixd l k) = mk k := by
  have hi := ixd_lt hk
  unfold mkF
  rw [List.getD_eq_getElem?_getD, List.getElem?_map, List.getElem?_eq_getElem hi, Option.map_some, Option.getD_some, ixd_get hk]
theorem exp_run {f : κ → Nat → κ} {L : Nat} {l : List κ} (hc : ∀ x ∈ l, ∀ a, a < L → f x a ∈ l) : ∀ (w : List Nat) (k : κ), k ∈ l → (∀ a ∈ w, a < L) → w.foldl f k ∈ l ∧ runS (nxF (rowsL f L l)) (ixd l k) w = ixd l (w.foldl f k)
  | [], k, hk, _ => ⟨hk, rfl⟩
  | a :: w, k, hk, hw => by
    have ha := hw a (by simp)
    have := exp_run hc w (f k a) (hc k hk a ha) (fun b hb => hw b (by simp [hb]))
    refine ⟨this.1, ?_⟩
    rw [List.foldl_cons, ← this.2]
    show runS _ (nxF _ _ a) w = _
    rw [nx_rows hk ha]
/-- an explored automaton's list of keys -/
structure Expl (f : κ → Nat → κ) (L : Nat) (U : List κ) (k0 : κ) (l : List κ) : Prop where
  eq : l = expL f L (U.length + 1) [k0] 0
  nd : l.Nodup
  sub : ∀ x ∈ l, x ∈ U
  clo : ∀ x ∈ l, ∀ a, a < L → f x a ∈ l
  mem : k0 ∈ l
  ix : ixd l k0 = 0
  len : l.length ≤ U.length
theorem expl_of {f : κ → Nat → κ} {L : Nat} {U : List κ} {k0 : κ} (h0 : k0 ∈ U) (hU : ∀ k a, k ∈ U → a < L → f k a ∈ U) : Expl f L U k0 (expL f L (U.length + 1) [k0] 0) := by
  have hs : ∀ x ∈ [k0], x ∈ U := fun x hx => by simp only [List.mem_singleton] at hx; rw [hx]; exact h0
  have nd := expL_nodup f L (U.length + 1) [k0] 0 (by simp)
  have sub := expL_sub f L (fun x => x ∈ U) (fun k a hk ha => hU k a hk ha) (U.length + 1) [k0] 0 hs
  refine ⟨rfl, nd, sub, ?_, (expL_head f L _ k0).1, (expL_head f L _ k0).2, nodup_len nd sub⟩
  exact expL_closed f L U hU (U.length + 1) [k0] 0 (by simp) hs (by omega) (by simp) (fun j _ hj => by omega)
theorem Expl.det {f : κ → Nat → κ} {L : Nat} {U : List κ} {k0 : κ} {l : List κ} (h : Expl f L U k0 l) (hU : U.length ≤ 65536) (hL : 1 ≤ L) (hL4 : L ≤ 4) (mk : κ → Int) (hm : ∀ x ∈ l, 0 ≤ mk x ∧ mk x < 65536) : DetOk L (rowsL f L l) (l.map mk) where
  pos := by rw [rows_len]; exact List.length_pos_of_mem h.mem
  big := by rw [rows_len]; exact Nat.le_trans h.len hU
  L1 := hL
  L4 := hL4
  row r hr := by
    obtain ⟨k, _, rfl⟩ := List.mem_map.1 hr
    simp
  tos r hr x hx := by
    obtain ⟨k, hk, rfl⟩ := List.mem_map.1 hr
    obtain ⟨a, ha, rfl⟩ := List.mem_map.1 hx
    have := ixd_lt (h.clo k hk a (List.mem_range.1 ha))
    rw [rows_len]
    omega
  len := by rw [rows_len]; simp
  mks x hx := by
    obtain ⟨k, hk, rfl⟩ := List.mem_map.1 hx
    exact hm k hk
theorem Expl.mark {f : κ → Nat → κ} {L : Nat} {U : List κ} {k0 : κ} {l : List κ} (h : Expl f L U k0 l) (mk : κ → Int) (w : List Nat) (hw : ∀ a ∈ w, a < L) : mkF (l.map mk) (runS (nxF (rowsL f L l)) 0 w) = mk (w.foldl f k0) := by
  have := exp_run h.clo w k0 h.mem hw
  rw [h.ix] at this
  rw [this.2, mk_map mk this.1]
end
/-! ### the least one -/
/-- the least automaton's rows and marks, as the program makes them -/
def lstL (L : Nat) (nx : List (List Int)) (ms : List Int) (st : Nat) : List Int := listS L (nxF nx) (clF L nx ms) (ofF nx.length (clF L nx ms)) (nx.length + 1) st
def lstR (L : Nat) (nx : List (List Int)) (ms : List Int) (st : Nat) : List (List Int) := rowsL (fS (nxF nx) (clF L nx ms) (ofF nx.length (clF L nx ms))) L (lstL L nx ms st)
def lstM (L : Nat) (nx : List (List Int)) (ms : List Int) (st : Nat) : List Int := (lstL L nx ms st).map fun c => mkF ms (ofF nx.length (clF L nx ms) c)
theorem lst_least {L : Nat} {nx : List (List Int)} {ms : List Int} (h : DetOk L nx ms) : Least nx.length L (nxF nx) (mkF ms) (clF L nx ms) (ofF nx.length (clF L nx ms)) := by
  have hc := cls_all (n := nx.length) (L := L) (nx := nxF nx) (mk := mkF ms) (fun q a hq ha => nx_lt h hq ha) h.pos (nx.length + 1) (by omega)
  exact ⟨fun q a hq ha => nx_lt h hq ha, hc.1, fun q hq => ofF_lt h.pos _, fun q hq => ofF_cl hc.2 hq⟩
theorem least_flip {n L : Nat} {nx : Nat → Nat → Nat} {mk : Nat → Int} {cl : Nat → Int} {of : Int → Nat} (h : Least n L nx mk cl of) : Least n L nx (fun q => 1 - mk q) cl of where
  clo := h.clo
  iff p q hp hq := by
    rw [h.iff p q hp hq]
    unfold Cross
    exact ⟨fun g w hw => by have := g w hw; simp only; omega, fun g w hw => by have := g w hw; simp only at this; omega⟩
  of_lt := h.of_lt
  of_cl := h.of_cl
theorem least_expl {n L : Nat} {nx : Nat → Nat → Nat} {mk : Nat → Int} {cl : Nat → Int} {of : Int → Nat} (h : Least n L nx mk cl of) {st : Nat} (hs : st < n) :
    Expl (fS nx cl of) L ((List.range n).map cl) (cl st) (expL (fS nx cl of) L (((List.range n).map cl).length + 1) [cl st] 0) :=
  expl_of (List.mem_map.2 ⟨st, List.mem_range.2 hs, rfl⟩) (fun k a hk ha => by
    obtain ⟨q, hq, rfl⟩ := List.mem_map.1 hk
    exact List.mem_map.2 ⟨_, List.mem_range.2 (h.clo _ a (h.of_lt q (List.mem_range.1 hq)) ha), rfl⟩)
theorem lst_fuel {n L : Nat} {nx : Nat → Nat → Nat} {mk : Nat → Int} {cl : Nat → Int} {of : Int → Nat} (h : Least n L nx mk cl of) {st : Nat} (hs : st < n) : ∀ d, listS L nx cl of (n + 1 + d) st = listS L nx cl of (n + 1) st
  | 0 => rfl
  | d + 1 => by
    have e := lst_fuel h hs d
    rw [← e]
    unfold listS
    exact expL_end (fS nx cl of) L ((List.range n).map cl) (fun k a hk ha => by
      obtain ⟨q, hq, rfl⟩ := List.mem_map.1 hk
      exact List.mem_map.2 ⟨_, List.mem_range.2 (h.clo _ a (h.of_lt q (List.mem_range.1 hq)) ha), rfl⟩) (n + 1 + d) [cl st] 0 (by simp) (fun x hx => by
        simp only [List.mem_singleton] at hx
        rw [hx]; exact List.mem_map.2 ⟨st, List.mem_range.2 hs, rfl⟩) (by simp; omega) (by simp)
theorem lst_fuel' {n L : Nat} {nx : Nat → Nat → Nat} {mk : Nat → Int} {cl : Nat → Int} {of : Int → Nat} (h : Least n L nx mk cl of) {st : Nat} (hs : st < n) {g : Nat} (hg : n < g) : listS L nx cl of g st = listS L nx cl of (n + 1) st := by
  obtain ⟨d, rfl⟩ : ∃ d, g = n + 1 + d := ⟨g - (n + 1), by omega⟩
  exact lst_fuel h hs d
/-- two that tell the same have the same least automaton -/
theorem lst_same {L : Nat} {nx nx' : List (List Int)} {ms ms' : List Int} (h : DetOk L nx ms) (h' : DetOk L nx' ms') {st st' : Nat} (hs : st < nx.length) (hs' : st' < nx'.length) (hc : Cross L (nxF nx) (nxF nx') (mkF ms) (mkF ms') st st') :
    lstR L nx ms st = lstR L nx' ms' st' ∧ lstM L nx ms st = lstM L nx' ms' st' := by
  have l1 := lst_least h
  have l2 := lst_least h'
  have := least_same l1 l2 hs hs' hc (nx.length + nx'.length + 1) (by omega)
  rw [lst_fuel' l1 hs (by omega), lst_fuel' l2 hs' (by omega)] at this
  exact ⟨this.1, this.2.1⟩
/-- two that tell opposite things have least automata that are so -/
theorem lst_flip {L : Nat} {nx nx' : List (List Int)} {ms ms' : List Int} (h : DetOk L nx ms) (h' : DetOk L nx' ms') {st st' : Nat} (hs : st < nx.length) (hs' : st' < nx'.length) (hc : ∀ w : List Nat, (∀ a ∈ w, a < L) → mkF ms (runS (nxF nx) st w) = 1 - mkF ms' (runS (nxF nx') st' w)) :
    lstR L nx ms st = lstR L nx' ms' st' ∧ lstM L nx ms st = (lstM L nx' ms' st').map (fun m => 1 - m) := by
  have l1 := lst_least h
  have l2 := lst_least h'
  have := least_same l1 (least_flip l2) hs hs' hc (nx.length + nx'.length + 1) (by omega)
  rw [lst_fuel' l1 hs (by omega), lst_fuel' l2 hs' (by omega)] at this
  refine ⟨this.1, ?_⟩
  unfold lstM
  rw [List.map_map]
  exact this.2.1
theorem lst_len (L : Nat) (nx : List (List Int)) (ms : List Int) (st : Nat) : (lstM L nx ms st).length = (lstR L nx ms st).length := by
  unfold lstM lstR; rw [rows_len, List.length_map]
theorem mk_lt {L : Nat} {nx : List (List Int)} {ms : List Int} (h : DetOk L nx ms) (q : Nat) : 0 ≤ mkF ms q ∧ mkF ms q < 65536 := by
  unfold mkF
  rw [List.getD_eq_getElem?_getD]
  rcases Nat.lt_or_ge q ms.length with g | g
  · rw [List.getElem?_eq_getElem g]; exact h.mks _ (List.getElem_mem g)
  · rw [List.getElem?_eq_none g]; exact ⟨by decide, by decide⟩
theorem lst_expl {L : Nat} {nx : List (List Int)} {ms : List Int} (h : DetOk L nx ms) {st : Nat} (hs : st < nx.length) : Expl (fS (nxF nx) (clF L nx ms) (ofF nx.length (clF L nx ms))) L ((List.range nx.length).map (clF L nx ms)) (clF L nx ms st) (lstL L nx ms st) := by
  have := least_expl (lst_least h) hs
  rwa [List.length_map, List.length_range] at this
/-- the least automaton is one that may be -/
theorem lst_ok {L : Nat} {nx : List (List Int)} {ms : List Int} (h : DetOk L nx ms) {st : Nat} (hs : st < nx.length) : DetOk L (lstR L nx ms st) (lstM L nx ms st) :=
  (lst_expl h hs).det (by rw [List.length_map, List.length_range]; exact h.big) h.L1 h.L4 _ (fun x _ => mk_lt h _)
theorem lst_le {L : Nat} {nx : List (List Int)} {ms : List Int} (h : DetOk L nx ms) {st : Nat} (hs : st < nx.length) : (lstR L nx ms st).length ≤ nx.length := by
  unfold lstR; rw [rows_len]
  have := (lst_expl h hs).len
  rwa [List.length_map, List.length_range] at this
/-- it tells what the automaton tells -/
theorem lst_cross {L : Nat} {nx : List (List Int)} {ms : List Int} (h : DetOk L nx ms) {st : Nat} (hs : st < nx.length) : Cross L (nxF (lstR L nx ms st)) (nxF nx) (mkF (lstM L nx ms st)) (mkF ms) 0 st := by
  intro w hw
  have l1 := lst_least h
  unfold lstR lstM
  rw [(lst_expl h hs).mark _ w hw]
  -- a class's state tells what the state tells
  have key : ∀ (w : List Nat) (q : Nat), q < nx.length → (∀ a ∈ w, a < L) → w.foldl (fS (nxF nx) (clF L nx ms) (ofF nx.length (clF L nx ms))) (clF L nx ms q) = clF L nx ms (runS (nxF nx) q w) := by
    intro w
    induction w with
    | nil => intro q _ _; rfl
    | cons a w ih =>
      intro q hq hw
      have ha := hw a (by simp)
      rw [List.foldl_cons]
      have e : fS (nxF nx) (clF L nx ms) (ofF nx.length (clF L nx ms)) (clF L nx ms q) a = clF L nx ms (nxF nx q a) := by
        unfold fS
        have ho := l1.of_lt q hq
        have hx := (l1.iff _ _ ho hq).1 (l1.of_cl q hq)
        exact (l1.iff _ _ (l1.clo _ a ho ha) (l1.clo q a hq ha)).2 (hx.step ha)
      rw [e]
      exact ih _ (l1.clo q a hq ha) (fun b hb => hw b (by simp [hb]))
  rw [key w st hs hw]
  have hr := run_lt (n := nx.length) (L := L) (nx := nxF nx) (fun q a hq ha => nx_lt h hq ha) w st hs hw
  exact ((l1.iff _ _ (l1.of_lt _ hr) hr).1 (l1.of_cl _ hr)).mark
end Go.Proofs.Ytampgoendkjkhaa.H
