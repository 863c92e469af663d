/- same.Serves, its walk. -/
import Derived.Test.YtampgoendkjkhaaSh
import Derived.Test.YtampgoendkjkhaaSg
import Derived.Deep.OwnRows
namespace Go.Proofs.Ytampgoendkjkhaa.H
open Go.RowKit Go.Shelf Go.Proofs.YtampgoendkjkhaaW.PrintWords Go.Proofs.YtampgoendkjkhaaW.PrintMore
set_option linter.unusedVariables false
set_option linter.unusedSimpArgs false
def rowT (n : Nat) (T : Nat → Nat → Bool) (i : Nat) : List Bool := (List.range n).map (T i)
theorem rowT_len (n : Nat) (T : Nat → Nat → Bool) (i : Nat) : (rowT n T i).length = n := by simp [rowT]
theorem rowT_at {n : Nat} (T : Nat → Nat → Bool) (i : Nat) {j : Nat} (hj : j < n) : (rowT n T i).getD j false = T i j := by
  unfold rowT
  rw [List.getD_eq_getElem?_getD, List.getElem?_map, List.getElem?_range hj]
  rfl
theorem rowT_off {n : Nat} (T : Nat → Nat → Bool) (p q : Nat) : (rowT n T p).set q false = rowT n (offT T p q) p := by
  apply List.ext_getElem?
  intro j
  rw [List.getElem?_set]
  unfold rowT
  rw [List.getElem?_map, List.getElem?_map, List.length_map, List.length_range]
  by_cases h : j < n
  · rw [List.getElem?_range h]
    by_cases e : q = j
    · subst e
      rw [if_pos rfl, if_pos h]
      simp [offT]
    · rw [if_neg e]
      have e' : ¬ j = q := fun h => e h.symm
      simp [offT, e']
  · rw [List.getElem?_eq_none (by simpa using h)]
    split
    · rw [if_neg (by omega)]; rfl
    · rfl
theorem rowT_other {n : Nat} (T : Nat → Nat → Bool) {p q i : Nat} (h : i ≠ p) : rowT n (offT T p q) i = rowT n T i := by
  unfold rowT offT
  congr 1
  funext j
  rw [if_neg (fun e => h e.1)]
structure TabM (W : World) (bt n : Nat) (bp cp : Nat → Nat) (T : Nat → Nat → Bool) : Prop where
  t : W.rowIs bt 82 n (fun i => .slice (some ⟨bp i, 0, none⟩) n (cp i))
  r : ∀ i, i < n → BRow W (bp i) (rowT n T i) (cp i) ∧ bt + 1 < bp i
  inj : ∀ i j, i < j → j < n → bp i < bp j
section
variable {W W' : World} {bt n : Nat} {bp cp : Nat → Nat} {T : Nat → Nat → Bool}
theorem TabM.below (h : TabM W bt n bp cp T) (hb : Below W.heap.size W W') : TabM W' bt n bp cp T :=
  ⟨h.t.of_block (hb.block _ h.t.lt), fun i hi => ⟨(h.r i hi).1.below hb, (h.r i hi).2⟩, h.inj⟩
theorem TabM.row (h : TabM W bt n bp cp T) {i : Nat} (hi : i < n) : W.cell? ⟨bt, i, none⟩ = some (.slice (some ⟨bp i, 0, none⟩) n (cp i)) := h.t.cell hi
theorem TabM.cell (h : TabM W bt n bp cp T) {i j : Nat} (hi : i < n) (hj : j < n) : W.cell? ⟨bp i, j, none⟩ = some (.bool (T i j)) := by
  have := (h.r i hi).1.cell (i := j) (by rw [rowT_len]; exact hj)
  rwa [rowT_at T i hj] at this
theorem TabM.frozen (h : TabM W bt n bp cp T) {i : Nat} (hi : i < n) (j : Nat) : W.frozen? ⟨bp i, j, none⟩ = false := (h.r i hi).1.frozen j
theorem TabM.off (h : TabM W bt n bp cp T) {p q : Nat} (hp : p < n) (hq : q < n) : TabM (W.setCell ⟨bp p, q, none⟩ (.bool false)) bt n bp cp (offT T p q) where
  t := h.t.setOther (by have := (h.r p hp).2; show bt ≠ bp p; omega) _
  r i hi := by
    refine ⟨?_, (h.r i hi).2⟩
    by_cases e : i = p
    · subst e
      rw [← rowT_off]
      exact (h.r i hi).1.set (by rw [rowT_len]; exact hq) false
    · rw [rowT_other T e]
      refine (h.r i hi).1.keep (Below.heap_setCell _ _ _ _ ?_)
      show bp i ≠ bp p
      rcases Nat.lt_or_ge i p with g | g
      · have := h.inj i p g hp; omega
      · have := h.inj p i (by omega) hi; omega
  inj := h.inj
end
set_option maxHeartbeats 1000000 in
theorem sv1_at (bx bt n : Nat) (bp cp : Nat → Nat) (T : Nat → Nat → Bool) (w : World) (hx : w.cell? ⟨bx, 0, none⟩ = some (.slice (some ⟨bt, 0, none⟩) n n)) (hb : bx < w.heap.size) (h : TabM w bt n bp cp T) : OkAt 77 #[.pointer (some ⟨bx, 0, none⟩)] (okT T) n w := by
  intro W a b hB a0 a1 b0 b1
  obtain ⟨i, rfl⟩ : ∃ i : Nat, a = i := ⟨a.toNat, by omega⟩
  obtain ⟨j, rfl⟩ : ∃ j : Nat, b = j := ⟨b.toNat, by omega⟩
  have hi : i < n := by omega
  have hj : j < n := by omega
  have hC := (hB.cell (p := ⟨bx, 0, none⟩) hb).trans hx
  have hT := h.below hB
  have h1 := hT.row hi
  have h2 := hT.cell hi hj
  have HE := Aside0.mk (show okT T (i : Int) (j : Int) = T i j from by unfold okT; rw [Int.toNat_natCast, Int.toNat_natCast])
  rw [HE.out]
  generalize T i j = v at h2 ⊢
  clear hx hB hb h hT HE
  go_enter Try.func77, Try.ntmps77
  go_wp2
  go_ret
  exact ⟨rfl, Below.refl _ _⟩
/-! ### a pass -/
structure PassR (ar : List Arw) (n : Nat) (T0 T : Nat → Nat → Bool) (ag : Bool) (p q : Nat) : Prop where
  holds : Holds ar n T
  le : cntT n T ≤ cntT n T0
  lt : ag = true → cntT n T < cntT n T0
  eq : ag = false → T = T0 ∧ ∀ a b, b < n → (a < p ∨ (a = p ∧ b < q)) → T0 a b = true → ansB ar (okT T0) a b = true
section
variable {ar : List Arw} {n : Nat} {T0 T : Nat → Nat → Bool} {ag : Bool} {p q : Nat}
theorem pass_start (h : Holds ar n T) : PassR ar n T T false 0 0 := ⟨h, Nat.le_refl _, fun e => (by cases e), fun _ => ⟨rfl, fun a b _ h => by omega⟩⟩
theorem PassR.skip (h : PassR ar n T0 T ag p q) (hs : T p q = true → ansB ar (okT T) p q = true) : PassR ar n T0 T ag p (q + 1) :=
  ⟨h.holds, h.le, h.lt, fun e => ⟨(h.eq e).1, fun a b hb hab ht => by
    by_cases c : a = p ∧ b = q
    · obtain ⟨rfl, rfl⟩ := c
      rw [← (h.eq e).1] at ht ⊢
      exact hs ht
    · exact (h.eq e).2 a b hb (by omega) ht⟩⟩
theorem PassR.off (h : PassR ar n T0 T ag p q) (har : ArOk n ar) (hp : p < n) (hq : q < n) (ht : T p q = true) (hs : ansB ar (okT T) p q = false) : PassR ar n T0 (offT T p q) true p (q + 1) :=
  have hc := cnt_off hp hq ht
  ⟨holds_off har h.holds hp hq hs, (by have := h.le; omega), fun _ => (by have := h.le; omega), fun e => (by cases e)⟩
theorem PassR.next (h : PassR ar n T0 T ag p n) : PassR ar n T0 T ag (p + 1) 0 :=
  ⟨h.holds, h.le, h.lt, fun e => ⟨(h.eq e).1, fun a b hb hab ht => (h.eq e).2 a b hb (by omega) ht⟩⟩
theorem PassR.end_ (h : PassR ar n T0 T ag n 0) (e : ag = false) : Sim ar n T := by
  intro p q hp hq ht
  obtain ⟨rfl, h2⟩ := h.eq e
  exact h2 p q hq (.inl hp) ht
end
structure FillM (W : World) (bt n p : Nat) (bp cp : Nat → Nat) : Prop where
  t : W.rowIs bt 82 n (fun i => if i < p then .slice (some ⟨bp i, 0, none⟩) n (cp i) else .slice none 0 0)
  r : ∀ i, i < p → BRow W (bp i) (List.replicate n true) (cp i) ∧ bt + 1 < bp i
  inj : ∀ i j, i < j → j < p → bp i < bp j
theorem FillM.below {W W' : World} {bt n p : Nat} {bp cp : Nat → Nat} (h : FillM W bt n p bp cp) (hb : Below W.heap.size W W') : FillM W' bt n p bp cp :=
  ⟨h.t.of_block (hb.block _ h.t.lt), fun i hi => ⟨(h.r i hi).1.below hb, (h.r i hi).2⟩, h.inj⟩
theorem FillM.tab {W : World} {bt n : Nat} {bp cp : Nat → Nat} (h : FillM W bt n n bp cp) : TabM W bt n bp cp (fun _ _ => true) :=
  ⟨h.t.congr (fun i hi => by simp only [if_pos hi]), fun i hi => ⟨by have := (h.r i hi).1; unfold rowT; rwa [List.map_const', List.length_range], (h.r i hi).2⟩, h.inj⟩
theorem FillM.push {W : World} {bt n p g c : Nat} {bp cp : Nat → Nat} (h : FillM W bt n p bp cp) (hp : p < n) (hr : BRow W g (List.replicate n true) c) (hg : bt + 1 < g) (hlt : ∀ i, i < p → bp i < g) : FillM (W.setCell ⟨bt, p, none⟩ (.slice (some ⟨g, 0, none⟩) n c)) bt n (p + 1) (fun i => if i = p then g else bp i) (fun i => if i = p then c else cp i) where
  t := (h.t.set p _).congr (fun i hi => by
    by_cases e : i = p
    · subst e; simp
    · by_cases l : i < p
      · simp [e, l, show i < p + 1 from by omega]
      · simp [e, l, show ¬ i < p + 1 from by omega])
  r i hi := by
    by_cases e : i = p
    · subst e
      simp only [if_pos rfl]
      exact ⟨hr.keep (Below.heap_setCell _ _ _ _ (by show g ≠ bt; omega)), hg⟩
    · simp only [if_neg e]
      have := h.r i (by omega)
      exact ⟨this.1.keep (Below.heap_setCell _ _ _ _ (by show bp i ≠ bt; have := this.2; omega)), this.2⟩
  inj i j hij hj := by
    have e : i ≠ p := by omega
    simp only [if_neg e]
    split
    · exact hlt i (by omega)
    · exact h.inj i j hij (by omega)
theorem rowB : (Try.prog.info? 82).map (fun i => (i.zero, i.size, i.bytes)) = some (some (.slice none 0 0), 1, 24) := by kernel_rfl
def SrvPost (L n : Int) (ar : List Arw) (w w' : World) (e : Ending) : Prop :=
  Below w.heap.size w w' ∧ ((gChk L n ar ≠ 0 ∧ e = .returned (.tuple #[.slice none 0 0, .int .i64 (gChk L n ar)])) ∨
    (gChk L n ar = 0 ∧ ∃ (m bt : Nat) (bp cp : Nat → Nat) (T : Nat → Nat → Bool), n = (m : Int) ∧ e = .returned (.tuple #[.slice (some ⟨bt, 0, none⟩) m m, .int .i64 0]) ∧ TabM w' bt m bp cp T ∧ Great ar m T ∧ ArOk m ar))
end Go.Proofs.Ytampgoendkjkhaa.H
namespace Go.Proofs.Ytampgoendkjkhaa.H
open Go.RowKit Go.Shelf Go.Proofs.YtampgoendkjkhaaW.PrintWords Go.Proofs.YtampgoendkjkhaaW.PrintMore
set_option linter.unusedVariables false
set_option linter.unusedSimpArgs false
structure SvB (W : World) (b0 bt : Nat) (L : Int) (n : Nat) (A2 : Option Addr) (m2 c2 : Nat) : Prop where
  x : W.heap[b0]? = some (.cells #[.int .i64 L, .int .i64 (n : Int), .slice A2 m2 c2] 75 (0, 0))
  k : W.heap[bt + 1]? = some (.cells #[.slice (some ⟨bt, 0, none⟩) n n] 79 (0, 0))
theorem SvB.below {W W' : World} {b0 bt : Nat} {L : Int} {n : Nat} {A2 : Option Addr} {m2 c2 : Nat} (h : SvB W b0 bt L n A2 m2 c2) (hb : Below W.heap.size W W') : SvB W' b0 bt L n A2 m2 c2 := ⟨blk_below h.x hb, blk_below h.k hb⟩
theorem SvB.set {W : World} {b0 bt : Nat} {L : Int} {n : Nat} {A2 : Option Addr} {m2 c2 : Nat} (h : SvB W b0 bt L n A2 m2 c2) {a : Addr} (h1 : a.block ≠ b0) (h2 : a.block ≠ bt + 1) (v : Value) : SvB (W.setCell a v) b0 bt L n A2 m2 c2 :=
  ⟨(Below.heap_setCell _ _ _ _ (fun e => h1 e.symm)).trans h.x, (Below.heap_setCell _ _ _ _ (fun e => h2 e.symm)).trans h.k⟩
set_option maxHeartbeats 16000000 in
set_option maxRecDepth 100000 in
theorem serves_calls (L n : Int) (A2 : Option Addr) (c2 : Nat) (ar : List Arw) (w : World) (hra : Kd.C kAr w A2 ar.length ar) :
    Calls Try.prog 28 #[.agg #[.int .i64 L, .int .i64 n, .slice A2 ar.length c2]] w fun e w' => SrvPost L n ar w w' e := by
  have HB0 := Aside0.mk (below_alloc (Below.refl w.heap.size w) (.cells #[.int .i64 L, .int .i64 n, .slice A2 ar.length c2] 75))
  have HC := Aside0.mk (check_calls L n A2 c2 ar _ (Kd.C_below hra HB0.out))
  have X0 := Aside0.mk (blk_new w (.cells #[.int .i64 L, .int .i64 n, .slice A2 ar.length c2] 75 (0, 0)))
  have HRA := Aside0.mk hra
  clear hra
  by_cases h : gChk L n ar = 0
  · obtain ⟨m, rfl, hm1, hm12, _, hok⟩ := grOk_of h
    have HG := Aside0.mk h
    have HOK := Aside0.mk hok
    have HM := Aside0.mk (And.intro hm1 hm12)
    have hmk := run_make_row' (P := Try.prog) 79 82 (.slice none 0 0) 24 Try.underlying79 rowB rfl .i64 .i64 m (by omega) (by omega)
    rw [h] at HC
    clear h hok hm1
    go_enter Try.func28, Try.ntmps28
    go_wp2_with (first
      | (go_at_call 73
         refine HC.out.mono ?_
         rintro e w1 ⟨rfl, hb1⟩
         have X1 := Aside0.mk (blk_below X0.out hb1)
         have B1 := Aside0.mk (below_step HB0.out hb1)
         have k1 : w1.cell? ⟨w.heap.size, 1, none⟩ = some (.int .i64 (m : Int)) := (blk_cell X1.out 1).trans rfl
         clear hb1)
      | fail)
    clear hmk k1
    obtain ⟨W2, hW2⟩ : ∃ W2, W2 = (w1.alloc (.cells (madeCells #[.slice none 0 0] m) 82)).alloc (.cells #[.slice (some ⟨w1.heap.size, 0, none⟩) m m] 79) := ⟨_, rfl⟩
    have hb2 : Below w1.heap.size w1 W2 := by rw [hW2]; exact below_alloc (below_alloc (Below.refl _ _) _) _
    have B2 := Aside0.mk (below_step B1.out hb2)
    have D2 := Aside0.mk (show SvB W2 w.heap.size w1.heap.size L m A2 ar.length c2 from ⟨blk_below X1.out hb2, by rw [hW2]; exact blk_newn _ _ _ (by simp)⟩)
    have F2 := Aside0.mk (show FillM W2 w1.heap.size m 0 (fun _ => 0) (fun _ => 0) from ⟨by rw [hW2]; exact ((World.rowIs_made w1 (.slice none 0 0) m 82).alloc _).congr (fun i _ => by simp), fun i hi => absurd hi (Nat.not_lt_zero _), fun i j _ hj => absurd hj (Nat.not_lt_zero _)⟩)
    have ZB := Aside0.mk (show w.heap.size < w1.heap.size from blk_lt X1.out)
    have ZB1 := Aside0.mk B1.out.size
    rw [← hW2]
    clear hW2 hb2
    generalize w1.heap.size = bt at D2 F2 ZB ⊢
    clear B1 X1 ZB1
    go_loopg [20] m (fun gg s20 wr => ∃ (p : Nat) (bp cp : Nat → Nat), p ≤ m ∧ m - p ≤ gg ∧ s20 = .int .i64 (p : Int) ∧ Aside0 (FillM wr bt m p bp cp) ∧ Aside0 (SvB wr w.heap.size bt L m A2 ar.length c2) ∧ Aside0 (Below w.heap.size w wr))
    case atStart => exact ⟨0, _, _, Nat.zero_le _, by omega, rfl, F2, D2, B2⟩
    case round =>
      obtain ⟨p, bp, cp, hp, hgg, rfl, FF, DD, BB⟩ := hrel
      clear F2 D2 B2
      by_cases hlt : p < m
      · have hltz : (p : Int) < (m : Int) := by omega
        have hm1 := HM.out
        have kt : wr.cell? ⟨bt + 1, 0, none⟩ = some (.slice (some ⟨bt, 0, none⟩) m m) := (blk_cell DD.out.k 0).trans rfl
        have kn : wr.cell? ⟨w.heap.size, 1, none⟩ = some (.int .i64 (m : Int)) := (blk_cell DD.out.x 1).trans rfl
        have HMS := Aside0.mk (show ∀ W', Below wr.heap.size wr W' → (fun W' => W'.cell? ⟨bt + 1, 0, none⟩ = some (.slice (some ⟨bt, 0, none⟩) m m) ∧ W'.cell? ⟨w.heap.size, 1, none⟩ = some (.int .i64 (m : Int))) W' from fun W' hb => ⟨pw_cell_below hb kt, pw_cell_below hb kn⟩)
        go_wp2
        refine wp_region_held_drew (S := (fun W' => W'.cell? ⟨bt + 1, 0, none⟩ = some (.slice (some ⟨bt, 0, none⟩) m m) ∧ W'.cell? ⟨w.heap.size, 1, none⟩ = some (.int .i64 (m : Int)))) (by kernel_rfl) ?_ (fun hHeld => ?_)
        · (try dsimp only); (first | exact S6 | exact S5.out | exact HMS.out _ (by repeat (first | exact Below.refl _ _ | assumption | apply below_drew1 | apply below_alloc)) | fail)
        refine wpAnyH_take (i := 0) (v := ?_) rfl (by kernel_rfl) (by kernel_rfl) (by kernel_rfl) (fun _ _ _ h => h) (Or.inl ⟨by kernel_rfl, ?_⟩) (by assumption) ?_
        rotate_left 1
        · intro w hSw; (try dsimp only at hSw); go_simp; (try with_reducible rfl)
        (try simp only [Act.put, List.getElem_toArray, List.getElem_cons_zero, List.getElem_cons_succ, List.setIfInBounds_toArray, List.set_cons_zero, List.set_cons_succ])
        refine wpAnyH_take (i := 1) (v := ?_) rfl (by kernel_rfl) (by kernel_rfl) (by kernel_rfl) (fun _ _ _ h => h) (Or.inl ⟨by kernel_rfl, ?_⟩) (by assumption) ?_
        rotate_left 1
        · intro w hSw; (try dsimp only at hSw); go_simp; (try with_reducible rfl)
        (try simp only [Act.put, List.getElem_toArray, List.getElem_cons_zero, List.getElem_cons_succ, List.setIfInBounds_toArray, List.set_cons_zero, List.set_cons_succ])
        refine wpAnyH_take (i := 3) (v := ?_) rfl (by kernel_rfl) (by kernel_rfl) (by kernel_rfl) (fun _ _ _ h => h) (Or.inl ⟨by kernel_rfl, ?_⟩) (by assumption) ?_
        rotate_left 1
        · intro w hSw; (try dsimp only at hSw); go_simp; (try with_reducible rfl)
        (try simp only [Act.put, List.getElem_toArray, List.getElem_cons_zero, List.getElem_cons_succ, List.setIfInBounds_toArray, List.set_cons_zero, List.set_cons_succ])
        refine wpAnyH_take (i := 4) (v := ?_) rfl (by kernel_rfl) (by kernel_rfl) (by kernel_rfl) (fun _ _ _ h => h) (Or.inl ⟨by kernel_rfl, ?_⟩) (by assumption) ?_
        rotate_left 1
        · intro w hSw; (try dsimp only at hSw); go_simp; (try with_reducible rfl)
        (try simp only [Act.put, List.getElem_toArray, List.getElem_cons_zero, List.getElem_cons_succ, List.setIfInBounds_toArray, List.set_cons_zero, List.set_cons_succ])
        refine wpAnyH_ready (rs := [2]) (by kernel_rfl) (by simp) ?_
        refine AllReadyH.cons rfl (fun K hK => ?_) AllReadyH.nil
        rw [if_pos (by kernel_rfl)]
        go_simp
        (try go_simp)
        refine hK.out _ _ ?_ (fun hHeld => ?_)
        · (try dsimp only); (first | exact S6 | exact S5.out | exact HMS.out _ (by repeat (first | exact Below.refl _ _ | assumption | apply below_drew1 | apply below_alloc)) | fail)
        clear hK K
        (try simp only [Act.put, List.getElem_toArray, List.getElem_cons_zero, List.getElem_cons_succ, List.setIfInBounds_toArray, List.set_cons_zero, List.set_cons_succ])
        refine wpAnyH_ready (rs := [5]) (by kernel_rfl) (by simp) ?_
        refine AllReadyH.cons rfl (fun K hK => ?_) AllReadyH.nil
        rw [if_pos (by kernel_rfl)]
        go_simp
        (go_at_call 75; refine calls_let ?_; intro W4 hW4; have hb4 : Below wr.heap.size wr W4 := (by subst hW4; exact below_alloc (below_drew1 (Below.refl _ _)) _); have hx4 : W4.cell? ⟨wr.heap.size, 0, none⟩ = some (.bool true) := (by subst hW4; go_simp); have hs4 : W4.heap.size = wr.heap.size + 1 := (by subst hW4; simp); clear hW4; refine (repeat_calls m hm1.1 hm1.2 wr.heap.size W4 hx4 (by omega)).mono ?_; rintro e w5 ⟨g, c, rfl, hr5, hg5, hb5⟩; have hb45 := below_step hb4 hb5; have F5 := Aside0.mk (FF.out.below hb45); have D5 := Aside0.mk (DD.out.below hb45); have B5 := Aside0.mk (below_step BB.out hb45); have R5 := Aside0.mk (show BRow w5 g (List.replicate m true) c ∧ bt + 1 < g ∧ ∀ i, i < p → bp i < g from ⟨hr5, (by have := blk_lt DD.out.k; omega), fun i hi => (by have := (FF.out.r i hi).1.lt; omega)⟩); have S5 := Aside0.mk (HMS.out w5 hb45); have c5 := F5.out.t.cell hlt; simp only [Nat.lt_irrefl, if_false] at c5; have f5 := F5.out.t.frozen p; have S6 := (show (fun W' => W'.cell? ⟨bt + 1, 0, none⟩ = some (.slice (some ⟨bt, 0, none⟩) m m) ∧ W'.cell? ⟨w.heap.size, 1, none⟩ = some (.int .i64 (m : Int))) (w5.setCell ⟨bt, p, none⟩ (.slice (some ⟨g, 0, none⟩) m c)) from ⟨(blk_cell (D5.out.set (a := ⟨bt, p, none⟩) (by have := ZB.out; show bt ≠ w.heap.size; omega) (by show bt ≠ bt + 1; omega) (.slice (some ⟨g, 0, none⟩) m c)).k 0).trans rfl, (blk_cell (D5.out.set (a := ⟨bt, p, none⟩) (by have := ZB.out; show bt ≠ w.heap.size; omega) (by show bt ≠ bt + 1; omega) (.slice (some ⟨g, 0, none⟩) m c)).x 1).trans rfl⟩); clear hb4 hx4 hs4 hr5 hg5 hb5 hb45)
        (try go_simp)
        refine hK.out _ _ ?_ (fun hHeld => ?_)
        · (try dsimp only); (first | exact S6 | exact S5.out | exact HMS.out _ (by repeat (first | exact Below.refl _ _ | assumption | apply below_drew1 | apply below_alloc)) | fail)
        clear hK K
        (try simp only [Act.put, List.getElem_toArray, List.getElem_cons_zero, List.getElem_cons_succ, List.setIfInBounds_toArray, List.set_cons_zero, List.set_cons_succ])
        refine wpAnyH_take (i := 6) (v := ?_) rfl (by kernel_rfl) (by kernel_rfl) (by kernel_rfl) (fun _ _ _ h => h) (Or.inl ⟨by kernel_rfl, ?_⟩) (by assumption) ?_
        rotate_left 1
        · intro w hSw; (try dsimp only at hSw); go_simp; (try with_reducible rfl)
        (try simp only [Act.put, List.getElem_toArray, List.getElem_cons_zero, List.getElem_cons_succ, List.setIfInBounds_toArray, List.set_cons_zero, List.set_cons_succ])
        refine wpAnyH_ready (rs := [7]) (by kernel_rfl) (by simp) ?_
        refine AllReadyH.cons rfl (fun K hK => ?_) AllReadyH.nil
        rw [if_pos (by kernel_rfl)]
        go_simp
        (try go_simp)
        refine hK.out _ _ ?_ (fun hHeld => ?_)
        · (try dsimp only); (first | exact S6 | exact S5.out | exact HMS.out _ (by repeat (first | exact Below.refl _ _ | assumption | apply below_drew1 | apply below_alloc)) | fail)
        clear hK K
        (try simp only [Act.put, List.getElem_toArray, List.getElem_cons_zero, List.getElem_cons_succ, List.setIfInBounds_toArray, List.set_cons_zero, List.set_cons_succ])
        refine wpAnyH_done (by kernel_rfl) ?_ _
        go_wp2
        go_roundg (m - (p + 1))
        case measure => omega
        case rel => exact ⟨p + 1, _, _, by omega, by omega, by go_num, ⟨F5.out.push hlt R5.out.1 R5.out.2.1 R5.out.2.2⟩, ⟨D5.out.set (by have := ZB.out; show bt ≠ w.heap.size; omega) (by show bt ≠ bt + 1; omega) _⟩, ⟨below_set B5.out (by have := ZB.out; show w.heap.size ≤ bt; omega)⟩⟩
      · have hpe : m = p := by omega
        subst hpe
        have T0 := Aside0.mk FF.out.tab
        have H0 := Aside0.mk (holds_all ar m)
        clear FF
        generalize (fun _ _ => true : Nat → Nat → Bool) = Tz at T0 H0
        go_wp2
        go_loopg [7] (2 * cntT m Tz + 1) (fun gg s7 wr => ∃ (T : Nat → Nat → Bool) (ag : Bool), 2 * cntT m T + (if ag then 1 else 0) ≤ gg ∧ s7 = .bool ag ∧ Aside0 (TabM wr bt m bp cp T) ∧ Aside0 (Holds ar m T) ∧ Aside0 (ag = false → Sim ar m T) ∧ Aside0 (SvB wr w.heap.size bt L m A2 ar.length c2) ∧ Aside0 (Below w.heap.size w wr))
        case atStart => exact ⟨Tz, true, by simp, rfl, T0, H0, ⟨fun e => by cases e⟩, DD, BB⟩
        case round =>
          clear T0 H0 DD BB
          obtain ⟨T, ag, hgg, rfl, TT, HH, SS, DD, BB⟩ := hrel
          have kt : wr.cell? ⟨bt + 1, 0, none⟩ = some (.slice (some ⟨bt, 0, none⟩) m m) := (blk_cell DD.out.k 0).trans rfl
          cases ag with
          | false =>
            go_wp2
            go_ret2
            exact ⟨BB.out, .inr ⟨HG.out, m, bt, bp, cp, T, rfl, rfl, TT.out, ⟨HH.out, SS.out (by first | rfl | trivial)⟩, HOK.out⟩⟩
          | true =>
            have P0 := Aside0.mk (pass_start HH.out)
            obtain ⟨cT, hcT⟩ : ∃ cT, cntT m T = cT := ⟨_, rfl⟩
            rw [hcT] at hgg
            simp only [if_true] at hgg
            have HCT := Aside0.mk hcT
            clear hcT SS HH
            go_wp2
            clear kt
            go_loopg [7, 34] m (fun gg s7 s34 wr => ∃ (T' : Nat → Nat → Bool) (ag : Bool) (p : Nat), p ≤ m ∧ m - p ≤ gg ∧ s34 = .int .i64 (p : Int) ∧ s7 = .bool ag ∧ Aside0 (PassR ar m T T' ag p 0) ∧ Aside0 (TabM wr bt m bp cp T') ∧ Aside0 (SvB wr w.heap.size bt L m A2 ar.length c2) ∧ Aside0 (Below w.heap.size w wr))
            case atStart => exact ⟨T, false, 0, Nat.zero_le _, by omega, rfl, rfl, P0, TT, DD, BB⟩
            case round =>
              clear P0 TT DD BB
              obtain ⟨T1, ag, p, hp, hgp, rfl, rfl, PP, TT, DD, BB⟩ := hrel
              by_cases hlt : p < m
              · have hltz : (p : Int) < (m : Int) := by omega
                have kt : wr.cell? ⟨bt + 1, 0, none⟩ = some (.slice (some ⟨bt, 0, none⟩) m m) := (blk_cell DD.out.k 0).trans rfl
                go_wp2
                clear kt
                go_loopg [7, 39] m (fun gg s7 s39 wr => ∃ (T' : Nat → Nat → Bool) (ag : Bool) (q : Nat), q ≤ m ∧ m - q ≤ gg ∧ s39 = .int .i64 (q : Int) ∧ s7 = .bool ag ∧ Aside0 (PassR ar m T T' ag p q) ∧ Aside0 (TabM wr bt m bp cp T') ∧ Aside0 (SvB wr w.heap.size bt L m A2 ar.length c2) ∧ Aside0 (Below w.heap.size w wr))
                case atStart => exact ⟨T1, ag, 0, Nat.zero_le _, by omega, rfl, rfl, PP, TT, DD, BB⟩
                case round =>
                  clear PP TT DD BB
                  obtain ⟨T2, ag, q, hq, hgq, rfl, rfl, PP, TT, DD, BB⟩ := hrel
                  by_cases hltq : q < m
                  · have hltqz : (q : Int) < (m : Int) := by omega
                    have kt : wr.cell? ⟨bt + 1, 0, none⟩ = some (.slice (some ⟨bt, 0, none⟩) m m) := (blk_cell DD.out.k 0).trans rfl
                    have kT := TT.out.row hlt
                    have kc := TT.out.cell hlt hltq
                    have k0 : wr.cell? ⟨w.heap.size, 0, none⟩ = some (.int .i64 L) := (blk_cell DD.out.x 0).trans rfl
                    have k1 : wr.cell? ⟨w.heap.size, 1, none⟩ = some (.int .i64 (m : Int)) := (blk_cell DD.out.x 1).trans rfl
                    have k2 : wr.cell? ⟨w.heap.size, 2, none⟩ = some (.slice A2 ar.length c2) := (blk_cell DD.out.x 2).trans rfl
                    cases hv : T2 p q with
                    | false =>
                      rw [hv] at kc
                      have PN := Aside0.mk (PP.out.skip (fun e => by rw [hv] at e; cases e))
                      clear hv
                      go_wp2
                      go_roundg (m - (q + 1))
                      case measure => omega
                      case rel => exact ⟨T2, ag, q + 1, by omega, by omega, by go_num, rfl, PN, TT, DD, BB⟩
                    | true =>
                      rw [hv] at kc
                      have HV := Aside0.mk hv
                      have HA := Aside0.mk (answered_calls 77 #[.pointer (some ⟨bt + 1, 0, none⟩)] (enters_of Try.func77 (by kernel_rfl) rfl) (okT T2) L m (p : Int) (q : Int) A2 c2 ar wr (Kd.C_below HRA.out BB.out) (sv1_at (bt + 1) bt m bp cp T2 wr kt (blk_lt DD.out.k) TT.out) HOK.out)
                      clear hv
                      cases ha : ansB ar (okT T2) (p : Int) (q : Int) with
                      | true =>
                        rw [ha] at HA
                        have PN := Aside0.mk (PP.out.skip (fun _ => ha))
                        clear ha
                        go_wp2_with (go_at_call 76; refine HA.out.mono ?_; rintro e w6 ⟨rfl, hb6⟩; have TT6 := Aside0.mk (TT.out.below hb6); have DD6 := Aside0.mk (DD.out.below hb6); have BB6 := Aside0.mk (below_step BB.out hb6); clear hb6)
                        go_roundg (m - (q + 1))
                        case measure => omega
                        case rel => exact ⟨T2, ag, q + 1, by omega, by omega, by go_num, rfl, PN, TT6, DD6, BB6⟩
                      | false =>
                        rw [ha] at HA
                        have PN := Aside0.mk (PP.out.off HOK.out hlt hltq HV.out ha)
                        clear ha
                        go_wp2_with (go_at_call 76; refine HA.out.mono ?_; rintro e w6 ⟨rfl, hb6⟩; have TT6 := Aside0.mk (TT.out.below hb6); have DD6 := Aside0.mk (DD.out.below hb6); have BB6 := Aside0.mk (below_step BB.out hb6); clear hb6 kt kT kc k0 k1 k2; have kt : w6.cell? ⟨bt + 1, 0, none⟩ = some (.slice (some ⟨bt, 0, none⟩) m m) := (blk_cell DD6.out.k 0).trans rfl; have kT := TT6.out.row hlt; have kc := TT6.out.cell hlt hltq; have kf := TT6.out.frozen hlt q)
                        go_roundg (m - (q + 1))
                        case measure => omega
                        case rel => exact ⟨_, true, q + 1, by omega, by omega, by go_num, rfl, PN, ⟨TT6.out.off hlt hltq⟩, ⟨DD6.out.set (by have := (TT6.out.r p hlt).2; have := ZB.out; show bp p ≠ w.heap.size; omega) (by have := (TT6.out.r p hlt).2; show bp p ≠ bt + 1; omega) _⟩, ⟨below_set BB6.out (by have := (TT6.out.r p hlt).2; have := ZB.out; show w.heap.size ≤ bp p; omega)⟩⟩
                  · have hqe : q = m := by omega
                    have PN := Aside0.mk (show PassR ar m T T2 ag (p + 1) 0 from (by have := PP.out; rw [hqe] at this; exact this.next))
                    go_wp2
                    go_roundg (m - (p + 1))
                    case measure => omega
                    case rel => exact ⟨T2, ag, p + 1, by omega, by omega, by go_num, rfl, PN, TT, DD, BB⟩
              · have hpe : p = m := by omega
                have PN := Aside0.mk (show PassR ar m T T1 ag m 0 from (by have := PP.out; rwa [hpe] at this))
                go_wp2
                go_roundg (2 * cntT m T1 + (if ag then 1 else 0))
                case measure =>
                  have h1 := PN.out.le
                  have h2 := PN.out.lt
                  have h3 := HCT.out
                  cases ag with
                  | true => have := h2 rfl; simp only [if_true]; omega
                  | false => simp only [Bool.false_eq_true, if_false]; omega
                case rel => exact ⟨T1, ag, Nat.le_refl _, rfl, TT, ⟨PN.out.holds⟩, ⟨PN.out.end_⟩, DD, BB⟩
  · obtain ⟨er, her⟩ : ∃ er, gChk L n ar = er := ⟨_, rfl⟩
    have HG := Aside0.mk her
    rw [her] at h HC
    have hne : (er != 0) = true := by simpa using h
    have HNE := Aside0.mk h
    clear h her
    go_enter Try.func28, Try.ntmps28
    go_wp2_with (first
      | (go_at_call 73
         refine HC.out.mono ?_
         rintro e w1 ⟨rfl, hb1⟩
         have B1 := Aside0.mk (below_step HB0.out hb1)
         clear hb1)
      | fail)
    go_ret2
    exact ⟨B1.out, .inl ⟨by rw [HG.out]; exact HNE.out, by rw [HG.out]; rfl⟩⟩
end Go.Proofs.Ytampgoendkjkhaa.H
