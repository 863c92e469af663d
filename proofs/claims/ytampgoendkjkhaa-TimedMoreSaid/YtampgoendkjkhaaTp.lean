/- timed: places and clocks, what can be come to; the search's measure (plain). -/
import Derived.Test.YtampgoendkjkhaaWWords
namespace Go.Proofs.Ytampgoendkjkhaa.H
set_option linter.unusedVariables false
set_option linter.unusedSimpArgs false
structure Edg where
  fr : Int
  tw : Int
  lo : Int
  hi : Int
  op : Int
  re : Int
structure TmOk (st : List Int) (ed : List Edg) : Prop where
  n1 : 1 ≤ st.length
  n8 : st.length ≤ 8
  e16 : ed.length ≤ 16
  sv : ∀ x ∈ st, -1 ≤ x ∧ x ≤ 6
  ev : ∀ e ∈ ed, (0 ≤ e.fr ∧ e.fr < (st.length : Int)) ∧ (0 ≤ e.tw ∧ e.tw < (st.length : Int)) ∧ (0 ≤ e.lo ∧ e.lo ≤ 6) ∧ (0 ≤ e.hi ∧ e.hi ≤ 6) ∧ (0 ≤ e.op ∧ e.op ≤ 1) ∧ (0 ≤ e.re ∧ e.re ≤ 1)
abbrev Spt : Type := Int × Int
def mayS (st : List Int) (s : Spt) : Bool := decide (st.getD s.1.toNat 0 < 0) || decide (s.2 ≤ 2 * st.getD s.1.toNat 0)
def nowS (s : Spt) (d : Nat) : Spt := (s.1, min 13 (s.2 + (d : Int)))
def skipB (e : Edg) (p c : Int) : Bool := (e.fr != p) || decide (c < 2 * e.lo + e.op) || decide (2 * e.hi - e.op < c)
def nextS (e : Edg) (s : Spt) : Spt := (e.tw, if e.re = 1 then 0 else s.2)
def TStep (st : List Int) (ed : List Edg) (s s' : Spt) : Prop := ∃ (d : Nat) (e : Edg), d < 14 ∧ (∀ k, 0 < k → k ≤ d → mayS st (nowS s k) = true) ∧ e ∈ ed ∧ skipB e s.1 (nowS s d).2 = false ∧ s' = nextS e (nowS s d) ∧ mayS st s' = true
inductive TReach (st : List Int) (ed : List Edg) : Spt → Prop
  | start : TReach st ed (0, 0)
  | step {s s' : Spt} (h : TReach st ed s) (t : TStep st ed s s') : TReach st ed s'
theorem TReach.more {st : List Int} {ed ed' : List Edg} (hs : ∀ e ∈ ed, e ∈ ed') {s : Spt} (h : TReach st ed s) : TReach st ed' s := by
  induction h with
  | start => exact .start
  | step _ t ih =>
    obtain ⟨d, e, h1, h2, h3, h4⟩ := t
    exact .step ih ⟨d, e, h1, h2, hs e h3, h4⟩
def InS (n : Nat) (s : Spt) : Prop := 0 ≤ s.1 ∧ s.1 < (n : Int) ∧ 0 ≤ s.2 ∧ s.2 ≤ 13
theorem nowS_in {n : Nat} {s : Spt} (h : InS n s) (d : Nat) : InS n (nowS s d) := by
  obtain ⟨h1, h2, h3, h4⟩ := h
  exact ⟨h1, h2, by unfold nowS; simp only []; omega, by unfold nowS; simp only []; omega⟩
theorem nextS_in {st : List Int} {ed : List Edg} (H : TmOk st ed) {e : Edg} (he : e ∈ ed) {s : Spt} (h : InS st.length s) : InS st.length (nextS e s) := by
  have := H.ev e he
  have h3 := h.2.2
  refine ⟨this.2.1.1, this.2.1.2, ?_, ?_⟩
  · show 0 ≤ (if e.re = 1 then 0 else s.2)
    split <;> omega
  · show (if e.re = 1 then 0 else s.2) ≤ 13
    split <;> omega
/-- how a spot was come to -/
structure Wy where
  t : Int
  A : Option Addr
  m : Nat
  c : Nat
  d : Bool
def lkW (ws : List (Spt × Wy)) (k : Spt) : Option Wy := (ws.find? (fun p => decide (p.1 = k))).map (·.2)
def putW (ws : List (Spt × Wy)) (k : Spt) (v : Wy) : List (Spt × Wy) := if (lkW ws k).isSome then ws.map (fun p => if p.1 = k then (k, v) else p) else ws ++ [(k, v)]
theorem find_map_put (ws : List (Spt × Wy)) (k j : Spt) (v : Wy) : ((ws.map (fun p => if p.1 = k then (k, v) else p)).find? (fun p => decide (p.1 = j))).map (·.2) = if j = k then (if (lkW ws k).isSome then some v else none) else lkW ws j := by
  induction ws with
  | nil => simp [lkW]
  | cons p ws ih =>
    unfold lkW at ih ⊢
    rw [List.map_cons, List.find?_cons, List.find?_cons, List.find?_cons]
    by_cases hp : p.1 = k
    · rw [if_pos hp, decide_eq_true hp]
      by_cases hj : j = k
      · subst hj; simp
      · rw [if_neg hj] at ih ⊢
        have h1 : decide (k = j) = false := decide_eq_false (fun e => hj e.symm)
        have h2 : decide (p.1 = j) = false := decide_eq_false (fun e => hj (e.symm.trans hp))
        simp only [h1, h2]
        exact ih
    · rw [if_neg hp, decide_eq_false hp]
      by_cases hpj : p.1 = j
      · have hj : j ≠ k := fun e => hp (hpj.trans e)
        rw [if_neg hj, decide_eq_true hpj]
      · simp only [decide_eq_false hpj]
        exact ih
theorem lkW_put (ws : List (Spt × Wy)) (k j : Spt) (v : Wy) : lkW (putW ws k v) j = if j = k then some v else lkW ws j := by
  unfold putW
  by_cases h : (lkW ws k).isSome = true
  · rw [if_pos h]
    have := find_map_put ws k j v
    rw [if_pos h] at this
    exact this
  · rw [if_neg h]
    have hn : ws.find? (fun p => decide (p.1 = k)) = none := by
      unfold lkW at h
      cases hf : ws.find? (fun p => decide (p.1 = k)) with
      | none => rfl
      | some q => rw [hf] at h; exact absurd rfl h
    unfold lkW
    rw [List.find?_append]
    by_cases hj : j = k
    · subst hj
      rw [if_pos rfl, hn]
      simp
    · rw [if_neg hj]
      have h1 : decide (k = j) = false := decide_eq_false (fun e => hj e.symm)
      simp only [List.find?_cons, h1, List.find?_nil, Option.or_none]
theorem lkW_mem {ws : List (Spt × Wy)} {k : Spt} {v : Wy} (h : lkW ws k = some v) : (k, v) ∈ ws := by
  unfold lkW at h
  obtain ⟨p, hp, rfl⟩ := Option.map_eq_some_iff.1 h
  have h1 := List.find?_some hp
  have h2 := List.mem_of_find?_eq_some hp
  rw [← of_decide_eq_true h1]
  exact h2
theorem lkW_is {ws : List (Spt × Wy)} {p : Spt × Wy} (h : p ∈ ws) : (lkW ws p.1).isSome = true := by
  unfold lkW
  cases hf : ws.find? (fun q => decide (q.1 = p.1)) with
  | none => exact absurd (List.find?_eq_none.1 hf p h) (by simp)
  | some q => rfl
theorem sum_one {L : List Spt} (hn : L.Nodup) {k : Spt} (hk : k ∈ L) {g g' : Spt → Nat} (h : ∀ s, s ≠ k → g' s = g s) : (L.map g').sum + g k = (L.map g).sum + g' k := by
  induction L with
  | nil => cases hk
  | cons s L ih =>
    rw [List.nodup_cons] at hn
    rw [List.map_cons, List.map_cons, List.sum_cons, List.sum_cons]
    rcases List.mem_cons.1 hk with rfl | hk
    · have : L.map g' = L.map g := List.map_congr_left (fun s hs => h s (fun e => hn.1 (e ▸ hs)))
      rw [this]; omega
    · have hs : s ≠ k := fun e => hn.1 (e ▸ hk)
      have := ih hn.2 hk
      rw [h s hs]; omega
def allS : List Spt := (List.range 8).flatMap fun (p : Nat) => (List.range 14).map fun (c : Nat) => ((p : Int), (c : Int))
theorem allS_nodup : allS.Nodup := by decide +kernel
theorem allS_mem {n : Nat} (hn : n ≤ 8) {s : Spt} (h : InS n s) : s ∈ allS := by
  obtain ⟨h1, h2, h3, h4⟩ := h
  unfold allS
  refine List.mem_flatMap.2 ⟨s.1.toNat, List.mem_range.2 (by omega), List.mem_map.2 ⟨s.2.toNat, List.mem_range.2 (by omega), ?_⟩⟩
  exact Prod.ext (Int.toNat_of_nonneg h1) (Int.toNat_of_nonneg h3)
def valW : Option Wy → Nat
  | none => 4000
  | some w => 2 * w.t.toNat + if w.d then 0 else 1
def absW : Option Wy → Nat
  | none => 1
  | some _ => 0
def muW (ws : List (Spt × Wy)) : Nat := (allS.map fun s => valW (lkW ws s)).sum
def cntW (ws : List (Spt × Wy)) : Nat := (allS.map fun s => absW (lkW ws s)).sum
theorem mu_put {ws : List (Spt × Wy)} {k : Spt} (hk : k ∈ allS) (v : Wy) : muW (putW ws k v) + valW (lkW ws k) = muW ws + valW (some v) := by
  have := sum_one allS_nodup hk (g := fun s => valW (lkW ws s)) (g' := fun s => valW (lkW (putW ws k v) s)) (fun s hs => by rw [lkW_put, if_neg hs])
  simp only [lkW_put, if_true] at this
  unfold muW
  simp only [lkW_put]
  exact this
theorem cnt_put {ws : List (Spt × Wy)} {k : Spt} (hk : k ∈ allS) (v : Wy) : cntW (putW ws k v) + absW (lkW ws k) = cntW ws := by
  have := sum_one allS_nodup hk (g := fun s => absW (lkW ws s)) (g' := fun s => absW (lkW (putW ws k v) s)) (fun s hs => by rw [lkW_put, if_neg hs])
  simp only [lkW_put, if_true] at this
  unfold cntW
  simp only [lkW_put]
  simpa [absW] using this
structure WsOk (st : List Int) (ed : List Edg) (ws : List (Spt × Wy)) : Prop where
  key : ∀ s w, lkW ws s = some w → InS st.length s
  time : ∀ s w, lkW ws s = some w → 0 ≤ w.t ∧ w.t + 13 * (cntW ws : Int) ≤ 1456
  len : ∀ s w, lkW ws s = some w → w.m + muW ws ≤ 1000000
  rch : ∀ s w, lkW ws s = some w → TReach st ed s
  st0 : (lkW ws (0, 0)).isSome = true
def ws0 : List (Spt × Wy) := [((0, 0), ⟨0, none, 0, 0, false⟩)]
theorem ws0_ok {st : List Int} {ed : List Edg} (h : 1 ≤ st.length) : WsOk st ed ws0 := by
  have hl : ∀ s w, lkW ws0 s = some w → s = (0, 0) ∧ w = ⟨0, none, 0, 0, false⟩ := fun s w h => by
    have := lkW_mem h
    simpa [ws0] using this
  have hc : cntW ws0 = 111 := by decide +kernel
  have hm : muW ws0 = 444001 := by decide +kernel
  refine ⟨fun s w h => ?_, fun s w h => ?_, fun s w h => ?_, fun s w h => ?_, rfl⟩
  all_goals obtain ⟨rfl, rfl⟩ := hl s w h
  · exact ⟨Int.le_refl _, by omega, Int.le_refl _, by decide⟩
  · rw [hc]; exact ⟨Int.le_refl _, by decide⟩
  · rw [hm]; decide
  · exact .start
section
variable {st : List Int} {ed : List Edg} (H : TmOk st ed) {ws : List (Spt × Wy)} (h : WsOk st ed ws)
include H h
theorem WsOk.mark {s : Spt} {w : Wy} (hs : lkW ws s = some w) (hd : w.d = false) : WsOk st ed (putW ws s { w with d := true }) ∧ muW (putW ws s { w with d := true }) < muW ws ∧ cntW (putW ws s { w with d := true }) = cntW ws := by
  have hin := allS_mem H.n8 (h.key s w hs)
  have h1 := mu_put (ws := ws) hin { w with d := true }
  have h2 := cnt_put (ws := ws) hin { w with d := true }
  rw [hs] at h1 h2
  simp only [valW, hd, absW, Bool.false_eq_true, if_false, if_true] at h1 h2
  have e : ∀ j v, lkW (putW ws s { w with d := true }) j = some v → ∃ v', lkW ws j = some v' ∧ v'.t = v.t ∧ v'.m = v.m := fun j v hj => by
    rw [lkW_put] at hj
    split at hj
    · rename_i e; subst e
      obtain rfl := Option.some.inj hj
      exact ⟨w, hs, rfl, rfl⟩
    · exact ⟨v, hj, rfl, rfl⟩
  refine ⟨⟨fun j v hj => ?_, fun j v hj => ?_, fun j v hj => ?_, fun j v hj => ?_, ?_⟩, by omega, by omega⟩
  · obtain ⟨v', hv, _⟩ := e j v hj; exact h.key j v' hv
  · obtain ⟨v', hv, e1, _⟩ := e j v hj; have := h.time j v' hv; rw [← e1]; omega
  · obtain ⟨v', hv, _, e1⟩ := e j v hj; have := h.len j v' hv; rw [← e1]; omega
  · obtain ⟨v', hv, _⟩ := e j v hj; exact h.rch j v' hv
  · rw [lkW_put]
    split
    · rfl
    · exact h.st0
theorem WsOk.add {s : Spt} (hin : InS st.length s) (hr : TReach st ed s) {w0 : Wy} (h0 : 0 ≤ w0.t ∧ w0.t + 13 * (cntW ws : Int) ≤ 1456) (h1 : w0.m + muW ws ≤ 1000000) {d : Nat} (hd : d < 14) (A : Option Addr) (c : Nat)
    (hl : lkW ws s = none ∨ ∃ v, lkW ws s = some v ∧ w0.t + (d : Int) < v.t) :
    WsOk st ed (putW ws s ⟨w0.t + d, A, w0.m + 1, c, false⟩) ∧ muW (putW ws s ⟨w0.t + d, A, w0.m + 1, c, false⟩) < muW ws ∧ cntW (putW ws s ⟨w0.t + d, A, w0.m + 1, c, false⟩) ≤ cntW ws := by
  have hm := allS_mem H.n8 hin
  have g1 := mu_put (ws := ws) hm ⟨w0.t + d, A, w0.m + 1, c, false⟩
  have g2 := cnt_put (ws := ws) hm ⟨w0.t + d, A, w0.m + 1, c, false⟩
  have key : muW (putW ws s ⟨w0.t + d, A, w0.m + 1, c, false⟩) < muW ws ∧ cntW (putW ws s ⟨w0.t + d, A, w0.m + 1, c, false⟩) ≤ cntW ws ∧ w0.t + (d : Int) + 13 * (cntW (putW ws s ⟨w0.t + d, A, w0.m + 1, c, false⟩) : Int) ≤ 1456 := by
    rcases hl with hl | ⟨v, hl, hv⟩
    · rw [hl] at g1 g2
      simp only [valW, absW, Bool.false_eq_true, if_false] at g1 g2
      omega
    · rw [hl] at g1 g2
      have hv2 := h.time s v hl
      simp only [valW, absW, Bool.false_eq_true, if_false] at g1 g2
      split at g1 <;> omega
  refine ⟨⟨fun j v hj => ?_, fun j v hj => ?_, fun j v hj => ?_, fun j v hj => ?_, ?_⟩, key.1, key.2.1⟩
  all_goals rw [lkW_put] at *
  · split at hj
    · rename_i e; subst e; exact hin
    · exact h.key j v hj
  · split at hj
    · obtain rfl := Option.some.inj hj
      exact ⟨by simp only []; omega, key.2.2⟩
    · have := h.time j v hj; omega
  · split at hj
    · obtain rfl := Option.some.inj hj
      simp only []; omega
    · have := h.len j v hj; omega
  · split at hj
    · rename_i e; subst e; exact hr
    · exact h.rch j v hj
  · split
    · rfl
    · exact h.st0
end
def ClosedS (st : List Int) (ed : List Edg) (ws : List (Spt × Wy)) (s : Spt) : Prop := ∀ s', TStep st ed s s' → (lkW ws s').isSome = true
/-- no key is lost -/
def MoreW (ws ws' : List (Spt × Wy)) : Prop := ∀ s, (lkW ws s).isSome = true → (lkW ws' s).isSome = true
theorem MoreW.put (ws : List (Spt × Wy)) (k : Spt) (v : Wy) : MoreW ws (putW ws k v) := fun s hs => by
  rw [lkW_put]
  split
  · rfl
  · exact hs
theorem ClosedS.more {st : List Int} {ed : List Edg} {ws ws' : List (Spt × Wy)} {s : Spt} (h : ClosedS st ed ws s) (m : MoreW ws ws') : ClosedS st ed ws' s := fun s' hs => m s' (h s' hs)
/-- of all that are done all steps were taken, 'x' perhaps not -/
def DoneCl (st : List Int) (ed : List Edg) (ws : List (Spt × Wy)) (x : Option Spt) : Prop := ∀ s w, lkW ws s = some w → w.d = true → some s = x ∨ ClosedS st ed ws s
theorem DoneCl.add {st : List Int} {ed : List Edg} {ws : List (Spt × Wy)} {x : Option Spt} (h : DoneCl st ed ws x) {k : Spt} {v : Wy} (hv : v.d = false) : DoneCl st ed (putW ws k v) x := fun s w hs hd => by
  rw [lkW_put] at hs
  split at hs
  · obtain rfl := Option.some.inj hs
    rw [hv] at hd; cases hd
  · rcases h s w hs hd with e | e
    · exact .inl e
    · exact .inr (e.more (MoreW.put _ _ _))
theorem DoneCl.mark {st : List Int} {ed : List Edg} {ws : List (Spt × Wy)} (h : DoneCl st ed ws none) (k : Spt) (v : Wy) : DoneCl st ed (putW ws k v) (some k) := fun s w hs hd => by
  rw [lkW_put] at hs
  split at hs
  · rename_i e; exact .inl (by rw [e])
  · rcases h s w hs hd with e | e
    · cases e
    · exact .inr (e.more (MoreW.put _ _ _))
theorem DoneCl.shut {st : List Int} {ed : List Edg} {ws : List (Spt × Wy)} {k : Spt} (h : DoneCl st ed ws (some k)) (hk : ClosedS st ed ws k) : DoneCl st ed ws none := fun s w hs hd => by
  rcases h s w hs hd with e | e
  · obtain rfl := Option.some.inj e
    exact .inr hk
  · exact .inr e
theorem reach_all {st : List Int} {ed : List Edg} {ws : List (Spt × Wy)} (h : WsOk st ed ws) (hc : DoneCl st ed ws none) (hd : ∀ s w, lkW ws s = some w → w.d = true) {s : Spt} (hs : TReach st ed s) : (lkW ws s).isSome = true := by
  induction hs with
  | start => exact h.st0
  | step _ t ih =>
    obtain ⟨w, hw⟩ := Option.isSome_iff_exists.1 ih
    rcases hc _ w hw (hd _ w hw) with e | e
    · cases e
    · exact e _ t
/-- the goal can be come to -/
def GoalR (st : List Int) (ed : List Edg) (g : Int) : Prop := ∃ s, TReach st ed s ∧ s.1 = g
/-- what one wait has taken -/
def TookW (st : List Int) (ed : List Edg) (ws : List (Spt × Wy)) (a : Spt) (d k : Nat) : Prop := ∀ i, ∀ hi : i < ed.length, i < k → skipB ed[i] a.1 (nowS a d).2 = false → mayS st (nextS ed[i] (nowS a d)) = true → (lkW ws (nextS ed[i] (nowS a d))).isSome = true
theorem TookW.more {st : List Int} {ed : List Edg} {ws ws' : List (Spt × Wy)} {a : Spt} {d k : Nat} (h : TookW st ed ws a d k) (m : MoreW ws ws') : TookW st ed ws' a d k := fun i hi hk h1 h2 => m _ (h i hi hk h1 h2)
theorem TookW.snoc {st : List Int} {ed : List Edg} {ws : List (Spt × Wy)} {a : Spt} {d k : Nat} (h : TookW st ed ws a d k) (hk : k < ed.length) (hx : skipB ed[k] a.1 (nowS a d).2 = false → mayS st (nextS ed[k] (nowS a d)) = true → (lkW ws (nextS ed[k] (nowS a d))).isSome = true) : TookW st ed ws a d (k + 1) := fun i hi hik h1 h2 => by
  by_cases e : i = k
  · subst e; exact hx h1 h2
  · exact h i hi (by omega) h1 h2
theorem closed_of {st : List Int} {ed : List Edg} {ws : List (Spt × Wy)} {a : Spt} {n : Nat} (h : ∀ d, d < n → TookW st ed ws a d ed.length) (hn : 14 ≤ n ∨ 0 < n ∧ mayS st (nowS a n) = false) : ClosedS st ed ws a := by
  rintro s' ⟨d, e, hd, hm, he, hs, rfl, hmy⟩
  obtain ⟨i, hi, rfl⟩ := List.getElem_of_mem he
  have hdn : d < n := by
    rcases hn with hn | ⟨h0, hn⟩
    · omega
    · refine Nat.lt_of_not_le fun hle => ?_
      have := hm n h0 hle
      rw [hn] at this
      cases this
  exact h d hdn i hi hi hs hmy
end Go.Proofs.Ytampgoendkjkhaa.H
