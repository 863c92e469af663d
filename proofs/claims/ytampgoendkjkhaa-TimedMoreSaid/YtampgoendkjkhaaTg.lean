/- timed.found: what holds of memory. -/
import Derived.Test.YtampgoendkjkhaaTm
namespace Go.Proofs.Ytampgoendkjkhaa.H
open Go.RowKit Go.Maps Go.Shelf Go.ChangeMaps Go.Proofs.YtampgoendkjkhaaW.PrintWords Go.Proofs.YtampgoendkjkhaaW.PrintMore
set_option linter.unusedVariables false
set_option linter.unusedSimpArgs false
theorem lkW_eq {ws : List (Spt × Wy)} (hn : (ws.map (·.1)).Nodup) {k : Spt} {v : Wy} (h : (k, v) ∈ ws) : lkW ws k = some v := by
  unfold lkW
  induction ws with
  | nil => simp at h
  | cons p kvs ih =>
    rw [List.map_cons, List.nodup_cons] at hn
    rw [List.find?_cons]
    by_cases e : p.1 = k
    · rw [decide_eq_true e]
      rcases List.mem_cons.1 h with rfl | h
      · rfl
      · exact absurd (List.mem_map.2 ⟨(k, v), h, e.symm⟩) hn.1
    · rw [decide_eq_false e]
      rcases List.mem_cons.1 h with rfl | h
      · exact absurd rfl e
      · exact ih hn.2 h
/-- legs of the call's own, their block from lo on, below u -/
def LgO (lo u : Nat) (W : World) (v : Value) (xs : List (Int × Int)) : Prop := Kd.R kLg 274 W lo (fun k => k < u) v xs ∧ u ≤ W.heap.size
theorem LgO.below {lo u : Nat} {W W' : World} {v : Value} {xs : List (Int × Int)} (h : LgO lo u W v xs) (hb : Below u W W') : LgO lo u W' v xs := ⟨Kd.R_step h.1 (fun k hk _ => hb.block k hk), Nat.le_trans h.2 hb.size⟩
theorem LgO.turned {lo u b : Nat} {W W' : World} {v : Value} {xs : List (Int × Int)} (h : LgO lo u W v xs) (ht : Turned b W W') (hb : b < lo) : LgO lo u W' v xs :=
  ⟨Kd.R_mono (Kd.R_step (Kd.R_bound h.1) (fun k hk _ => ht.block k (by have := hk.2.1; omega))) (fun _ hk => hk.1), by rw [ht.size]; exact h.2⟩
theorem LgO.up {lo u u' : Nat} {W : World} {v : Value} {xs : List (Int × Int)} (h : LgO lo u W v xs) (h1 : u ≤ u') (h2 : u' ≤ W.heap.size) : LgO lo u' W v xs := ⟨Kd.R_mono h.1 (fun k hk => Nat.lt_of_lt_of_le hk h1), h2⟩
theorem LgO.reads {lo u : Nat} {W : World} {A : Option Addr} {n c : Nat} {xs : List (Int × Int)} (h : LgO lo u W (.slice A n c) xs) : n = xs.length ∧ n ≤ c ∧ Kd.C kLg W A xs.length xs := Kd.R_reads' h.1
def WyO (lo u : Nat) (W : World) (v : Wy) : Prop := ∃ xs, v.m = xs.length ∧ LgO lo u W (.slice v.A v.m v.c) xs
structure FdM (E : KeyE Try.prog 220 Spt) (w W : World) (u : Nat) (SA EA : Option Addr) (ns cs ne ce : Nat) (g : Int) (ws : List (Spt × Wy)) : Prop where
  bel : Below w.heap.size w W
  map : MapK E W (w.heap.size + 1) (kvW ws)
  brn : MapB W (w.heap.size + 1)
  box : W.heap[w.heap.size]? = some (.cells #[.slice SA ns cs, .slice EA ne ce, .int .i64 g] 25 (0, 0))
  legs : ∀ s v, lkW ws s = some v → WyO (w.heap.size + 1 + 1) u W v
  lo : w.heap.size + 1 + 1 ≤ u
  hi : u ≤ W.heap.size
section
variable {E : KeyE Try.prog 220 Spt} {w W W' : World} {u u' : Nat} {SA EA : Option Addr} {ns cs ne ce : Nat} {g : Int} {ws : List (Spt × Wy)}
theorem WyO.below {lo : Nat} {v : Wy} (h : WyO lo u W v) (hb : Below u W W') : WyO lo u W' v := by
  obtain ⟨xs, h1, h2⟩ := h
  exact ⟨xs, h1, h2.below hb⟩
theorem WyO.up {lo : Nat} {v : Wy} (h : WyO lo u W v) (h1 : u ≤ u') (h2 : u' ≤ W.heap.size) : WyO lo u' W v := by
  obtain ⟨xs, g1, g2⟩ := h
  exact ⟨xs, g1, g2.up h1 h2⟩
theorem WyO.turned {lo b : Nat} {v : Wy} (h : WyO lo u W v) (ht : Turned b W W') (hb : b < lo) : WyO lo u W' v := by
  obtain ⟨xs, h1, h2⟩ := h
  exact ⟨xs, h1, h2.turned ht hb⟩
theorem FdM.move (h : FdM E w W u SA EA ns cs ne ce g ws) (hb : Below u W W') : FdM E w W' u SA EA ns cs ne ce g ws where
  bel := h.bel.trans (hb.mono (by have := h.lo; omega))
  map := h.map.keep (hb.block _ (by have := h.lo; omega))
  brn := h.brn.keep (hb.block _ (by have := h.lo; omega))
  box := (hb.block _ (by have := h.lo; omega)).trans h.box
  legs := fun s v hs => (h.legs s v hs).below hb
  lo := h.lo
  hi := Nat.le_trans h.hi hb.size
theorem FdM.below (h : FdM E w W u SA EA ns cs ne ce g ws) (hb : Below W.heap.size W W') : FdM E w W' u SA EA ns cs ne ce g ws := h.move (hb.mono h.hi)
theorem FdM.up (h : FdM E w W u SA EA ns cs ne ce g ws) (h1 : u ≤ u') (h2 : u' ≤ W.heap.size) : FdM E w W u' SA EA ns cs ne ce g ws :=
  ⟨h.bel, h.map, h.brn, h.box, fun s v hs => (h.legs s v hs).up h1 h2, Nat.le_trans h.lo h1, h2⟩
theorem FdM.put (h : FdM E w W u SA EA ns cs ne ce g ws) {k : Spt} {v : Wy} (hv : WyO (w.heap.size + 1 + 1) u W v) (hM : MapK E W' (w.heap.size + 1) (put (kvW ws) k (encW v))) (hB : MapB W' (w.heap.size + 1)) (ht : Turned (w.heap.size + 1) W W') : FdM E w W' u SA EA ns cs ne ce g (putW ws k v) where
  bel := ht.below h.bel (by omega)
  map := by rw [← put_kvW]; exact hM
  brn := hB
  box := blk_turned h.box ht (by omega)
  legs := fun s v' hs => by
    rw [lkW_put] at hs
    split at hs
    · obtain rfl := Option.some.inj hs
      exact hv.turned ht (by omega)
    · exact (h.legs s v' hs).turned ht (by omega)
  lo := h.lo
  hi := by rw [ht.size]; exact h.hi
/-- the map's entries, as the model keeps them -/
theorem FdM.ents (h : FdM E w W u SA EA ns cs ne ce g ws) : ∃ es clock, W.heap[w.heap.size + 1]? = some (.map es clock) ∧ (∀ x ∈ es.toList, x.born < clock) ∧ (es.toList.map (·.born)).Nodup ∧
    (∀ x ∈ es.toList, ∃ s v, lkW ws s = some v ∧ x.key = E.enc s ∧ x.val = encW v) ∧ ∀ s v, lkW ws s = some v → ∃ x ∈ es.toList, x.val = encW v := by
  obtain ⟨es, c, h1, h2, h3⟩ := h.brn
  obtain ⟨⟨es', c', g1, g2⟩, g3, g4⟩ := h.map
  have e1 := h1.symm.trans g1
  injection e1 with e1
  injection e1 with e1 e2
  subst e1 e2
  have hnd : (ws.map (·.1)).Nodup := by
    have : (kvW ws).map (·.1) = ws.map (·.1) := by unfold kvW; rw [List.map_map]; rfl
    rwa [this] at g3
  refine ⟨es, c, h1, h2, h3, fun x hx => ?_, fun s v hs => ?_⟩
  · have : (x.key, x.val) ∈ es.toList.map (fun e => (e.key, e.val)) := List.mem_map.2 ⟨x, hx, rfl⟩
    rw [g2] at this
    obtain ⟨p, hp, hpe⟩ := List.mem_map.1 this
    obtain ⟨q, hq, rfl⟩ := List.mem_map.1 hp
    obtain ⟨e1, e2⟩ := Prod.mk.inj hpe
    exact ⟨q.1, q.2, lkW_eq hnd hq, e1.symm, e2.symm⟩
  · have hm := lkW_mem hs
    have : ((E.enc s, encW v) : Value × Value) ∈ (kvW ws).map (fun p => (E.enc p.1, p.2)) := List.mem_map.2 ⟨(s, encW v), List.mem_map.2 ⟨(s, v), hm, rfl⟩, rfl⟩
    rw [← g2] at this
    obtain ⟨x, hx, hxe⟩ := List.mem_map.1 this
    exact ⟨x, hx, (Prod.mk.inj hxe).2⟩
end
/-- in the midst of waiting at a spot: its box, its way's box -/
structure WtM (E : KeyE Try.prog 220 Spt) (w W : World) (u : Nat) (SA EA : Option Addr) (ns cs ne ce : Nat) (g : Int) (st : List Int) (ed : List Edg) (ws : List (Spt × Wy)) (b4 b8 : Nat) (p c : Int) (v : Wy) (mu1 : Nat) : Prop where
  fd : FdM E w W u SA EA ns cs ne ce g ws
  ok : WsOk st ed ws
  dc : DoneCl st ed ws (some (p, c))
  mu : muW ws ≤ mu1
  x4 : W.heap[b4]? = some (.cells #[.int .i64 p, .int .i64 c] 220 (0, 0))
  x8 : W.heap[b8]? = some (.cells #[.int .i64 v.t, .slice v.A v.m v.c, .bool true] 127 (0, 0))
  lg : WyO (w.heap.size + 1 + 1) u W v
  tm : 0 ≤ v.t ∧ v.t + 13 * (cntW ws : Int) ≤ 1456
  ln : v.m + muW ws ≤ 1000000
theorem WtM.below {E : KeyE Try.prog 220 Spt} {w W W' : World} {u : Nat} {SA EA : Option Addr} {ns cs ne ce : Nat} {g : Int} {st : List Int} {ed : List Edg} {ws : List (Spt × Wy)} {b4 b8 : Nat} {p c : Int} {v : Wy} {mu1 : Nat}
    (h : WtM E w W u SA EA ns cs ne ce g st ed ws b4 b8 p c v mu1) (hb : Below W.heap.size W W') : WtM E w W' u SA EA ns cs ne ce g st ed ws b4 b8 p c v mu1 :=
  ⟨h.fd.below hb, h.ok, h.dc, h.mu, blk_below h.x4 hb, blk_below h.x8 hb, h.lg.below (hb.mono h.fd.hi), h.tm, h.ln⟩
theorem zeroW (W : World) : (zeroValue 127).run Try.prog W = .ok (encW ⟨0, none, 0, 0, false⟩) W := by kernel_rfl
theorem okT_in {n : Nat} (hn : n ≤ 8) {s : Spt} (h : InS n s) : okT s := by
  obtain ⟨h1, h2, h3, h4⟩ := h
  exact ⟨⟨by omega, by omega⟩, ⟨by omega, by omega⟩⟩
theorem map_look {E : KeyE Try.prog 220 Spt} {W : World} {b : Nat} {ws : List (Spt × Wy)} (h : MapK E W b (kvW ws)) (e1 : E.enc = encT) (e2 : E.ok = okT) {s : Spt} {v : Wy} (hs : lkW ws s = some v) (hok : okT s) :
    (Instr.lookup 217 (.map (some b)) (.agg #[.int .i64 s.1, .int .i64 s.2]) false).run Try.prog W = .ok (.agg #[.int .i64 v.t, .slice v.A v.m v.c, .bool v.d]) W := by
  have q := h.look s (by rw [e2]; exact hok) Try.underlying217 (zeroW W) false
  rw [lk_kvW, hs, e1] at q
  exact q
theorem map_look2 {E : KeyE Try.prog 220 Spt} {W : World} {b : Nat} {ws : List (Spt × Wy)} (h : MapK E W b (kvW ws)) (e1 : E.enc = encT) (e2 : E.ok = okT) (s : Spt) (hok : okT s) :
    (Instr.lookup 217 (.map (some b)) (.agg #[.int .i64 s.1, .int .i64 s.2]) true).run Try.prog W = .ok (.tuple #[.agg #[.int .i64 ((lkW ws s).getD ⟨0, none, 0, 0, false⟩).t, .slice ((lkW ws s).getD ⟨0, none, 0, 0, false⟩).A ((lkW ws s).getD ⟨0, none, 0, 0, false⟩).m ((lkW ws s).getD ⟨0, none, 0, 0, false⟩).c, .bool ((lkW ws s).getD ⟨0, none, 0, 0, false⟩).d], .bool (lkW ws s).isSome]) W := by
  have q := h.look s (by rw [e2]; exact hok) Try.underlying217 (zeroW W) true
  rw [lk_kvW, e1] at q
  cases hl : lkW ws s with
  | none => rw [hl] at q; exact q
  | some v => rw [hl] at q; exact q
theorem sb_same {w : World} {g : Nat} (h : g < w.heap.size) (o : Obj) : (setBlock w g o).heap[g]? = some o := by
  unfold setBlock
  simp [h]
theorem sb_other {w : World} {g i : Nat} (h : i ≠ g) (o : Obj) : (setBlock w g o).heap[i]? = w.heap[i]? := by
  unfold setBlock
  simp only [Array.getElem?_setIfInBounds]
  rw [if_neg (fun e => h e.symm)]
/-- in the midst of ranging over the map: its iterator, what was found so far -/
structure RgM (wo W : World) (bm clock : Nat) (seen : Array Nat) (p c : Int) : Prop where
  b : Below wo.heap.size wo W
  it : W.heap[wo.heap.size + 1]? = some (.mapIter (some bm) clock seen clock)
  at4 : W.heap[wo.heap.size]? = some (.cells #[.int .i64 p, .int .i64 c] 220 (0, 0))
theorem RgM.below {wo W W' : World} {bm clock : Nat} {seen : Array Nat} {p c : Int} (h : RgM wo W bm clock seen p c) (hb : Below W.heap.size W W') : RgM wo W' bm clock seen p c := ⟨below_step h.b hb, blk_below h.it hb, blk_below h.at4 hb⟩
theorem RgM.next {wo W w1 : World} {bm clock : Nat} {seen : Array Nat} {p c : Int} (h : RgM wo W bm clock seen p c) (h1 : w1 = W ∨ w1 = W.drew) (seen' : Array Nat) :
    RgM wo (setBlock w1 (wo.heap.size + 1) (.mapIter (some bm) clock seen' clock)) bm clock seen' p c := by
  have hB : Below wo.heap.size wo w1 := by rcases h1 with rfl | rfl; exact h.b; exact below_drew1 h.b
  have hI : wo.heap.size + 1 < w1.heap.size := by rcases h1 with rfl | rfl <;> exact blk_lt h.it
  have h4 : w1.heap[wo.heap.size]? = some (.cells #[.int .i64 p, .int .i64 c] 220 (0, 0)) := by rcases h1 with rfl | rfl <;> exact h.at4
  exact ⟨⟨hB.os, hB.tape, hB.output, by simpa [setBlock] using hB.size, fun k hk => (sb_other (by omega) _).trans (hB.block k hk)⟩, sb_same hI _, (sb_other (by omega) _).trans h4⟩
theorem RgM.set {wo W : World} {bm clock : Nat} {seen : Array Nat} {p c : Int} (h : RgM wo W bm clock seen p c) (p' c' : Int) : RgM wo ((W.setCell ⟨wo.heap.size, 0, none⟩ (.int .i64 p')).setCell ⟨wo.heap.size, 1, none⟩ (.int .i64 c')) bm clock seen p' c' :=
  ⟨below_set (below_set h.b (Nat.le_refl _)) (Nat.le_refl _), (Below.heap_setCell _ _ _ _ (show wo.heap.size + 1 ≠ wo.heap.size from by omega)).trans ((Below.heap_setCell _ _ _ _ (show wo.heap.size + 1 ≠ wo.heap.size from by omega)).trans h.it), by simpa using blk_set (blk_set h.at4 0 (.int .i64 p')) 1 (.int .i64 c')⟩
theorem lit_lg {W : World} {b : Nat} {x y : Int} (h0 : W.cell? ⟨b, 0, none⟩ = some (.int .i64 x)) (h1 : W.cell? ⟨b, 1, none⟩ = some (.int .i64 y)) : Kd.C kLg W (some ⟨b, 0, none⟩) 1 [(x, y)] := by
  refine ⟨rfl, by decide, fun _ => ⟨_, rfl, fun j p hj => ?_⟩⟩
  match j, hj with
  | 0, hj =>
    obtain rfl : (x, y) = p := by simpa using hj
    refine ⟨[.int .i64 x, .int .i64 y], rfl, rfl, fun i u hu => ?_⟩
    match i, hu with
    | 0, hu =>
      obtain rfl : Value.int .i64 x = u := by simpa using hu
      simpa [Addr.add] using h0
    | 1, hu =>
      obtain rfl : Value.int .i64 y = u := by simpa using hu
      simpa [Addr.add, kLg, kArr] using h1
theorem clone_lg' (A : Option Addr) (n c : Nat) (l : List (Int × Int)) (w : World) (hn : n = l.length) (hr : Kd.C kLg w A l.length l) (hl : n < 1099511627776) :
    Calls Try.prog 175 #[.slice A n c] w fun e w' => ∃ (A' : Option Addr) (c' : Nat), e = .returned (.slice A' n c') ∧ Kd.R kLg 274 w' w.heap.size (fun _ => True) (.slice A' n c') l ∧ Below w.heap.size w w' := by
  subst hn
  refine (clone_lg A c l w hr hl).mono ?_
  rintro e w' ⟨v, rfl, ho, hb⟩
  obtain ⟨A', c', rfl⟩ := Kd.R_slice ho
  exact ⟨A', c', rfl, ho, hb⟩
/-- a new way comes into the map -/
theorem WtM.put {E : KeyE Try.prog 220 Spt} {w W W' : World} {u : Nat} {SA EA : Option Addr} {ns cs ne ce : Nat} {g : Int} {st : List Int} {ed : List Edg} {ws : List (Spt × Wy)} {b4 b8 : Nat} {p c : Int} {v : Wy} {mu1 : Nat}
    (h : WtM E w W u SA EA ns cs ne ce g st ed ws b4 b8 p c v mu1) (H : TmOk st ed) {k : Spt} (hin : InS st.length k) (hr : TReach st ed k) {d : Nat} (hd : d < 14) (hl : lkW ws k = none ∨ ∃ v', lkW ws k = some v' ∧ v.t + (d : Int) < v'.t) {A' : Option Addr} {c' : Nat} {xs : List (Int × Int)} {B : Nat}
    (hB : w.heap.size + 1 + 1 ≤ B) (hx : v.m + 1 = xs.length) (ho : Kd.R kLg 274 W B (fun _ => True) (.slice A' (v.m + 1) c') xs) (z4 : b4 ≠ w.heap.size + 1) (z8 : b8 ≠ w.heap.size + 1)
    (hM : MapK E W' (w.heap.size + 1) (put (kvW ws) k (encW ⟨v.t + d, A', v.m + 1, c', false⟩))) (hBo : MapB W' (w.heap.size + 1)) (ht : Turned (w.heap.size + 1) W W') :
    WtM E w W' W.heap.size SA EA ns cs ne ce g st ed (putW ws k ⟨v.t + d, A', v.m + 1, c', false⟩) b4 b8 p c v mu1 := by
  have a := h.ok.add H hin hr h.tm h.ln hd A' c' hl
  have hv : WyO (w.heap.size + 1 + 1) W.heap.size W ⟨v.t + d, A', v.m + 1, c', false⟩ := ⟨xs, hx, Kd.R_mono (Kd.R_lower (Kd.R_bound ho) hB) (fun k hk => hk.2.2.1), Nat.le_refl _⟩
  have hfu := h.fd.up h.fd.hi (Nat.le_refl _)
  refine ⟨hfu.put hv hM hBo ht, a.1, h.dc.add rfl, Nat.le_trans (Nat.le_of_lt a.2.1) h.mu, blk_turned h.x4 ht z4, blk_turned h.x8 ht z8, (h.lg.up h.fd.hi (Nat.le_refl _)).turned ht (by omega), ?_, ?_⟩
  · have := h.tm
    have := a.2.2
    omega
  · have := h.ln
    have := a.2.1
    omega
end Go.Proofs.Ytampgoendkjkhaa.H
