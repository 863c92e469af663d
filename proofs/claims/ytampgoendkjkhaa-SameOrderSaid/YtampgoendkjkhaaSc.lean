/- same.Check. -/
import Derived.Test.YtampgoendkjkhaaSb
namespace Go.Proofs.Ytampgoendkjkhaa.H
open Go.RowKit Go.Shelf Go.Proofs.YtampgoendkjkhaaW.PrintWords Go.Proofs.YtampgoendkjkhaaW.PrintMore
set_option linter.unusedVariables false
set_option linter.unusedSimpArgs false
def noP (n q : Int) : Bool := decide (q < 0) || decide (n ≤ q)
theorem ck1_calls (n q : Int) (B : Nat) (w : World) (hc : w.cell? ⟨B, 1, none⟩ = some (.int .i64 n)) :
    Calls Try.prog 132 #[.int .i64 q, .pointer (some ⟨B, 0, none⟩)] w fun e w' => e = .returned (.bool (noP n q)) ∧ w = w' := by
  by_cases h : q < 0
  · have h' : decide (q < 0) = true := decide_eq_true h
    go_enter Try.func132, Try.ntmps132
    go_wp2
    go_ret
    exact ⟨by simp [noP, h']; try rfl, rfl⟩
  · have h' : decide (q < 0) = false := decide_eq_false h
    go_enter Try.func132, Try.ntmps132
    go_wp2
    go_ret
    exact ⟨by simp [noP, h']; try rfl, rfl⟩
def badA (L n : Int) (x : Arw) : Bool := noP n x.1 || (noP n x.2.2 || (decide (x.2.1 < 0) || decide (L ≤ x.2.1)))
set_option maxHeartbeats 2000000 in
set_option maxRecDepth 100000 in
theorem ck2_calls (L n x0 x1 x2 : Int) (bn bg : Nat) (w : World) (hn : w.cell? ⟨bn, 0, none⟩ = some (.func (.func 132) #[] #[.pointer (some ⟨bg, 0, none⟩)])) (hL : w.cell? ⟨bg, 0, none⟩ = some (.int .i64 L)) (hN : w.cell? ⟨bg, 1, none⟩ = some (.int .i64 n)) (zn : bn < w.heap.size) (zg : bg < w.heap.size) :
    Calls Try.prog 134 #[.agg #[.int .i64 x0, .int .i64 x1, .int .i64 x2], .pointer (some ⟨bn, 0, none⟩), .pointer (some ⟨bg, 0, none⟩)] w fun e w' => e = .returned (.bool (badA L n (x0, x1, x2))) ∧ Below w.heap.size w w' := by
  have e1 : ∀ args w, (callFunc 132 args).run Try.prog w = .ok (.enter 132 args) w := enters_of Try.func132 (by kernel_rfl) rfl
  have HB := Aside0.mk (below_alloc (Below.refl w.heap.size w) (.cells #[.int .i64 x0, .int .i64 x1, .int .i64 x2] 78))
  have hg := pw_cell_below HB.out hN
  have H0 := Aside0.mk (ck1_calls n x0 bg _ hg)
  have H1 := Aside0.mk (ck1_calls n x2 bg _ hg)
  clear hg
  have HA := Aside0.mk (show badA L n (x0, x1, x2) = (noP n x0 || (noP n x2 || (decide (x1 < 0) || decide (L ≤ x1)))) from rfl)
  cases c0 : noP n x0 with
  | true =>
    rw [c0] at HA
    go_enter Try.func134, Try.ntmps134
    go_wp2_with (go_at_fn 132; refine H0.out.mono ?_; rw [c0]; rintro e w' ⟨rfl, rfl⟩)
    go_ret
    exact ⟨by rw [HA.out]; rfl, HB.out⟩
  | false =>
    cases c1 : noP n x2 with
    | true =>
      rw [c0, c1] at HA
      go_enter Try.func134, Try.ntmps134
      have tok1 : True := trivial
      go_wp2_with (first | (go_at_fn 132; have _t := tok1; refine H0.out.mono ?_; rw [c0]; rintro e w' ⟨rfl, rfl⟩; clear tok1 _t) | (go_at_fn 132; refine H1.out.mono ?_; rw [c1]; rintro e w' ⟨rfl, rfl⟩) | fail)
      go_ret
      exact ⟨by rw [HA.out]; rfl, HB.out⟩
    | false =>
      rw [c0, c1] at HA
      by_cases h : x1 < 0
      · have h' : decide (x1 < 0) = true := decide_eq_true h
        rw [h'] at HA
        go_enter Try.func134, Try.ntmps134
        have tok1 : True := trivial
        go_wp2_with (first | (go_at_fn 132; have _t := tok1; refine H0.out.mono ?_; rw [c0]; rintro e w' ⟨rfl, rfl⟩; clear tok1 _t) | (go_at_fn 132; refine H1.out.mono ?_; rw [c1]; rintro e w' ⟨rfl, rfl⟩) | fail)
        go_ret
        exact ⟨by rw [HA.out]; rfl, HB.out⟩
      · have h' : decide (x1 < 0) = false := decide_eq_false h
        rw [h'] at HA
        go_enter Try.func134, Try.ntmps134
        have tok1 : True := trivial
        go_wp2_with (first | (go_at_fn 132; have _t := tok1; refine H0.out.mono ?_; rw [c0]; rintro e w' ⟨rfl, rfl⟩; clear tok1 _t) | (go_at_fn 132; refine H1.out.mono ?_; rw [c1]; rintro e w' ⟨rfl, rfl⟩) | fail)
        go_ret
        exact ⟨by rw [HA.out]; simp, HB.out⟩
def unrAt (ar : List Arw) (i : Nat) : Bool := decide (0 < i) && decide (0 ≤ ordI (ar.getD (i - 1) (0, 0, 0)) (ar.getD i (0, 0, 0)))
def unr (ar : List Arw) : Bool := (List.range ar.length).any (unrAt ar)
def gRest (L n : Int) (ar : List Arw) : Int := if ar.any (badA L n) = true then 2 else if unr ar = true then 3 else 0
def gChk (L n : Int) (ar : List Arw) : Int :=
  if L < 1 ∨ 4 < L then 2 else if n < 1 ∨ 12 < n ∨ 60 < (ar.length : Int) then 1 else gRest L n ar
structure CkM (w W : World) (L n : Int) (A : Option Addr) (m c : Nat) : Prop where
  b : Below w.heap.size w W
  x : W.heap[w.heap.size]? = some (.cells #[.int .i64 L, .int .i64 n, .slice A m c] 75 (0, 0))
theorem CkM.below {w W W' : World} {L n : Int} {A : Option Addr} {m c : Nat} (h : CkM w W L n A m c) (hb : Below W.heap.size W W') : CkM w W' L n A m c := ⟨below_step h.b hb, blk_below h.x hb⟩
section
variable (L n : Int) (A : Option Addr) (c : Nat) (ar : List Arw) (w : World) (hr : Kd.C kAr w A ar.length ar)
theorem chk_L (h : L < 1 ∨ 4 < L) : Calls Try.prog 73 #[.agg #[.int .i64 L, .int .i64 n, .slice A ar.length c]] w fun e w' => e = .returned (.int .i64 2) ∧ Below w.heap.size w w' := by
  have HB := Aside0.mk (below_alloc (Below.refl w.heap.size w) (.cells #[.int .i64 L, .int .i64 n, .slice A ar.length c] 75))
  rcases h with h | h
  · have h' : decide (L < 1) = true := decide_eq_true h
    go_enter Try.func73, Try.ntmps73
    go_wp2
    go_ret
    exact ⟨rfl, HB.out⟩
  · have h1 : decide (L < 1) = false := decide_eq_false (by omega)
    have h' : decide (4 < L) = true := decide_eq_true h
    go_enter Try.func73, Try.ntmps73
    go_wp2
    go_ret
    exact ⟨rfl, HB.out⟩
theorem chk_n (h0 : ¬ (L < 1 ∨ 4 < L)) (h : n < 1 ∨ 12 < n ∨ 60 < (ar.length : Int)) : Calls Try.prog 73 #[.agg #[.int .i64 L, .int .i64 n, .slice A ar.length c]] w fun e w' => e = .returned (.int .i64 1) ∧ Below w.heap.size w w' := by
  have HB := Aside0.mk (below_alloc (Below.refl w.heap.size w) (.cells #[.int .i64 L, .int .i64 n, .slice A ar.length c] 75))
  have g1 : decide (L < 1) = false := decide_eq_false (by omega)
  have g2 : decide (4 < L) = false := decide_eq_false (by omega)
  clear h0
  by_cases k1 : n < 1
  · have h' : decide (n < 1) = true := decide_eq_true k1
    go_enter Try.func73, Try.ntmps73
    go_wp2
    go_ret
    exact ⟨rfl, HB.out⟩
  · have h1 : decide (n < 1) = false := decide_eq_false k1
    by_cases k2 : 12 < n
    · have h' : decide (12 < n) = true := decide_eq_true k2
      go_enter Try.func73, Try.ntmps73
      go_wp2
      go_ret
      exact ⟨rfl, HB.out⟩
    · have h2 : decide (12 < n) = false := decide_eq_false k2
      have h' : decide (60 < (ar.length : Int)) = true := decide_eq_true (by omega)
      go_enter Try.func73, Try.ntmps73
      go_wp2
      go_ret
      exact ⟨rfl, HB.out⟩
theorem chk_cells {W : World} {ad : Addr} {x0 x1 x2 : Int} {i : Nat} {ar : List Arw} (h : ∀ j v, (csAr (x0, x1, x2))[j]? = some v → W.cell? (ad.add (i * 3 + j)) = some (.int .i64 v)) :
    W.cell? (ad.add (i * 3)) = some (.int .i64 x0) ∧ W.cell? ⟨(ad.add (i * 3)).block, (ad.add (i * 3)).off + 1, none⟩ = some (.int .i64 x1) ∧ W.cell? ⟨(ad.add (i * 3)).block, (ad.add (i * 3)).off + 2, none⟩ = some (.int .i64 x2) := by
  have h0 := h 0 x0 rfl
  have h1 := h 1 x1 rfl
  have h2 := h 2 x2 rfl
  rw [show ad.add (i * 3 + 0) = ad.add (i * 3) from rfl] at h0
  rw [show ad.add (i * 3 + 1) = ⟨(ad.add (i * 3)).block, (ad.add (i * 3)).off + 1, none⟩ from by rw [← Addr.add_add, add_pos _ (by omega)]] at h1
  rw [show ad.add (i * 3 + 2) = ⟨(ad.add (i * 3)).block, (ad.add (i * 3)).off + 2, none⟩ from by rw [← Addr.add_add, add_pos _ (by omega)]] at h2
  exact ⟨h0, h1, h2⟩
theorem unr_hit {ar : List Arw} {i : Nat} (hi : i < ar.length) (h : unrAt ar i = true) : unr ar = true := List.any_eq_true.2 ⟨i, List.mem_range.2 hi, h⟩
theorem unr_miss {ar : List Arw} (h : ∀ i, i < ar.length → unrAt ar i = false) : unr ar = false := by
  unfold unr
  rw [List.any_eq_false]
  intro i hi
  rw [h i (List.mem_range.1 hi)]
  simp
set_option maxHeartbeats 8000000 in
set_option maxRecDepth 100000 in
theorem chk_rest (hr : Kd.C kAr w A ar.length ar) (h0 : ¬ (L < 1 ∨ 4 < L)) (h : ¬ (n < 1 ∨ 12 < n ∨ 60 < (ar.length : Int))) : Calls Try.prog 73 #[.agg #[.int .i64 L, .int .i64 n, .slice A ar.length c]] w fun e w' => e = .returned (.int .i64 (gRest L n ar)) ∧ Below w.heap.size w w' := by
  have e1 : ∀ args w, (callFunc 134 args).run Try.prog w = .ok (.enter 134 args) w := enters_of Try.func134 (by kernel_rfl) rfl
  have HR := Aside0.mk hr
  clear hr
  have M0 := Aside0.mk (show CkM w ((w.alloc (.cells #[.int .i64 L, .int .i64 n, .slice A ar.length c] 75)).alloc (.cells #[.func (.func 132) #[] #[.pointer (some ⟨w.heap.size, 0, none⟩)]] 166)) L n A ar.length c from ⟨below_alloc (below_alloc (Below.refl _ _) _) _, blk_alloc (blk_new w _) _⟩)
  have F0 := Aside0.mk (show ((w.alloc (.cells #[.int .i64 L, .int .i64 n, .slice A ar.length c] 75)).alloc (.cells #[.func (.func 132) #[] #[.pointer (some ⟨w.heap.size, 0, none⟩)]] 166)).heap[w.heap.size + 1]? = some (.cells #[.func (.func 132) #[] #[.pointer (some ⟨w.heap.size, 0, none⟩)]] 166 (0, 0)) from blk_newn _ _ _ (by simp))
  have HCF := Aside0.mk (ContainsFunc_ar 134 #[.pointer (some ⟨w.heap.size + 1, 0, none⟩), .pointer (some ⟨w.heap.size, 0, none⟩)] e1 (badA L n) A c ar _ (Kd.C_below HR.out M0.out.b) (fun W y0 y1 y2 hy hb => by
    have M3 := M0.out.below hb
    have F3 := blk_below F0.out hb
    refine (ck2_calls L n y0 y1 y2 (w.heap.size + 1) w.heap.size W ((blk_cell F3 0).trans rfl) ((blk_cell M3.x 0).trans rfl) ((blk_cell M3.x 1).trans rfl) (blk_lt F3) (blk_lt M3.x)).mono ?_
    rintro e w' ⟨he, hb'⟩
    exact ⟨he, below_step hb hb'⟩))
  have g1 : decide (L < 1) = false := decide_eq_false (by omega)
  have g2 : decide (4 < L) = false := decide_eq_false (by omega)
  have g3 : decide (n < 1) = false := decide_eq_false (by omega)
  have g4 : decide (12 < n) = false := decide_eq_false (by omega)
  have g5 : decide (60 < (ar.length : Int)) = false := decide_eq_false (by omega)
  have h60 : (ar.length : Int) ≤ 60 := by omega
  clear h0 h F0
  cases hb : ar.any (badA L n) with
  | true =>
    rw [hb] at HCF
    have HG := Aside0.mk (show gRest L n ar = 2 from by unfold gRest; rw [if_pos hb])
    clear hb
    go_enter Try.func73, Try.ntmps73
    go_wp2_with (go_at_call 133; refine HCF.out.mono ?_; rintro e w1 ⟨rfl, hb1⟩; have M1 := Aside0.mk (M0.out.below hb1); clear hb1)
    go_ret
    exact ⟨by rw [HG.out]; rfl, M1.out.b⟩
  | false =>
    rw [hb] at HCF
    have HG := Aside0.mk (show gRest L n ar = if unr ar = true then 3 else 0 from by unfold gRest; rw [if_neg (by rw [hb]; simp)])
    clear hb
    go_enter Try.func73, Try.ntmps73
    go_wp2_with (go_at_call 133; refine HCF.out.mono ?_; rintro e w1 ⟨rfl, hb1⟩; have M1 := Aside0.mk (M0.out.below hb1); have k2 : w1.cell? ⟨w.heap.size, 2, none⟩ = some (.slice A ar.length c) := (blk_cell M1.out.x 2).trans rfl; clear hb1)
    clear HCF M0 k2
    go_loopg [35] ar.length (fun gg s35 wr => ∃ i : Nat, i ≤ ar.length ∧ ar.length - i ≤ gg ∧ s35 = .int .i64 (i : Int) ∧ Aside0 (CkM w wr L n A ar.length c) ∧ Aside0 (∀ j, j < i → unrAt ar j = false))
    case atStart => exact ⟨0, Nat.zero_le _, by omega, rfl, M1, ⟨fun j hj => absurd hj (Nat.not_lt_zero _)⟩⟩
    case round =>
      obtain ⟨i, hi, hgg, rfl, MM, AA⟩ := hrel
      clear M1
      have k2 : wr.cell? ⟨w.heap.size, 2, none⟩ = some (.slice A ar.length c) := (blk_cell MM.out.x 2).trans rfl
      by_cases hlt : i < ar.length
      · have hltz : (i : Int) < (ar.length : Int) := by omega
        by_cases hi0 : i = 0
        · subst hi0
          have HN := Aside0.mk (show ∀ j, j < 0 + 1 → unrAt ar j = false from fun j hj => by rw [show j = 0 from by omega]; rfl)
          go_wp2
          go_quiet (fail)
          go_wp2
          go_roundg (ar.length - (0 + 1))
          case measure => omega
          case rel => exact ⟨0 + 1, by omega, by omega, by go_num, ⟨by repeat (first | exact MM.out | exact MM.out.below (by repeat (first | exact Below.refl _ _ | apply below_drew1 | apply pw_below_drewN)))⟩, HN⟩
        · obtain ⟨j, hj⟩ : ∃ j, i - 1 = j := ⟨_, rfl⟩
          have hkl : j < ar.length := by omega
          obtain ⟨ad, e0, hc0⟩ := arr_get HR.out rfl hlt
          cases e0
          obtain ⟨_, e0, hd0⟩ := arr_get HR.out rfl hkl
          cases e0
          have HE := Aside0.mk (show unrAt ar i = decide (0 ≤ ordI ar[j] ar[i]) from by
            unfold unrAt
            rw [hj]
            rw [show decide (0 < i) = true from decide_eq_true (by omega), Bool.true_and, List.getD_eq_getElem?_getD, List.getD_eq_getElem?_getD, List.getElem?_eq_getElem hkl, List.getElem?_eq_getElem hlt]
            rfl)
          obtain ⟨x0, x1, x2, hx⟩ : ∃ x0 x1 x2, ar[i] = (x0, x1, x2) := ⟨_, _, _, rfl⟩
          obtain ⟨y0, y1, y2, hy⟩ : ∃ y0 y1 y2, ar[j] = (y0, y1, y2) := ⟨_, _, _, rfl⟩
          rw [hx] at hc0
          rw [hy] at hd0
          rw [hx, hy] at HE
          obtain ⟨a0, a1, a2⟩ := chk_cells (ar := ar) hc0
          obtain ⟨b0, b1, b2⟩ := chk_cells (ar := ar) hd0
          replace a0 := pw_cell_below MM.out.b a0
          replace a1 := pw_cell_below MM.out.b a1
          replace a2 := pw_cell_below MM.out.b a2
          replace b0 := pw_cell_below MM.out.b b0
          replace b1 := pw_cell_below MM.out.b b1
          replace b2 := pw_cell_below MM.out.b b2
          clear hc0 hd0 hx hy
          have hw1 : IntKind.i64.wrap ((i : Int) - 1) = (j : Int) := (IntWalk.i64_in _ (by omega)).trans (by omega)
          have hkz : (j : Int) < (ar.length : Int) := by omega
          have hgz : 0 < i := by omega
          clear hj
          have hgz' : (0 : Int) < (i : Int) := by omega
          obtain ⟨o, ho⟩ : ∃ o, ordI (y0, y1, y2) (x0, x1, x2) = o := ⟨_, rfl⟩
          rw [ho] at HE
          have HO := Aside0.mk (show ∀ W, Calls Try.prog 135 #[.agg #[.int .i64 y0, .int .i64 y1, .int .i64 y2], .agg #[.int .i64 x0, .int .i64 x1, .int .i64 x2]] W fun e w' => e = .returned (.int .i64 o) ∧ Below W.heap.size W w' from fun W => by rw [← ho]; exact order_calls y0 y1 y2 x0 x1 x2 W)
          clear ho
          have HMS := Aside0.mk (show ∀ W', Below wr.heap.size wr W' → (Below wr.heap.size wr W' ∧ W'.cell? ⟨w.heap.size, 2, none⟩ = some (.slice (some ad) ar.length c) ∧ W'.cell? (ad.add (i * 3)) = some (.int .i64 x0) ∧ W'.cell? ⟨(ad.add (i * 3)).block, (ad.add (i * 3)).off + 1, none⟩ = some (.int .i64 x1) ∧ W'.cell? ⟨(ad.add (i * 3)).block, (ad.add (i * 3)).off + 2, none⟩ = some (.int .i64 x2) ∧ W'.cell? (ad.add (j * 3)) = some (.int .i64 y0) ∧ W'.cell? ⟨(ad.add (j * 3)).block, (ad.add (j * 3)).off + 1, none⟩ = some (.int .i64 y1) ∧ W'.cell? ⟨(ad.add (j * 3)).block, (ad.add (j * 3)).off + 2, none⟩ = some (.int .i64 y2)) from fun W' hb => ⟨hb, pw_cell_below hb k2, pw_cell_below hb a0, pw_cell_below hb a1, pw_cell_below hb a2, pw_cell_below hb b0, pw_cell_below hb b1, pw_cell_below hb b2⟩)
          cases hq : decide (0 ≤ o) with
          | true =>
            have HU := Aside0.mk (unr_hit hlt (HE.out.trans hq))
            go_wp2
            go_region_held3 (fun W' => Below wr.heap.size wr W' ∧ W'.cell? ⟨w.heap.size, 2, none⟩ = some (.slice (some ad) ar.length c) ∧ W'.cell? (ad.add (i * 3)) = some (.int .i64 x0) ∧ W'.cell? ⟨(ad.add (i * 3)).block, (ad.add (i * 3)).off + 1, none⟩ = some (.int .i64 x1) ∧ W'.cell? ⟨(ad.add (i * 3)).block, (ad.add (i * 3)).off + 2, none⟩ = some (.int .i64 x2) ∧ W'.cell? (ad.add (j * 3)) = some (.int .i64 y0) ∧ W'.cell? ⟨(ad.add (j * 3)).block, (ad.add (j * 3)).off + 1, none⟩ = some (.int .i64 y1) ∧ W'.cell? ⟨(ad.add (j * 3)).block, (ad.add (j * 3)).off + 2, none⟩ = some (.int .i64 y2))
              (first
                | exact HMS.out _ (by repeat (first | exact Below.refl _ _ | assumption | (go_split_ands; assumption) | apply below_drew1 | apply below_alloc))
                | fail)
              (first
                | (go_at_call 135
                   refine (HO.out _).mono ?_
                   rintro e w3 ⟨rfl, hb3⟩
                   have B3 := below_step (show Below wr.heap.size wr _ from by (go_split_ands; assumption)) hb3)
                | fail)
            all_goals go_wp2
            all_goals
              go_ret
              exact ⟨by rw [HG.out, if_pos HU.out]; rfl, below_step MM.out.b (by go_split_ands; assumption)⟩
          | false =>
            have HU := Aside0.mk (show ∀ j, j < i + 1 → unrAt ar j = false from fun j hj => by
              by_cases e : j = i
              · subst e; exact HE.out.trans hq
              · exact AA.out j (by omega))
            go_wp2
            go_region_held3 (fun W' => Below wr.heap.size wr W' ∧ W'.cell? ⟨w.heap.size, 2, none⟩ = some (.slice (some ad) ar.length c) ∧ W'.cell? (ad.add (i * 3)) = some (.int .i64 x0) ∧ W'.cell? ⟨(ad.add (i * 3)).block, (ad.add (i * 3)).off + 1, none⟩ = some (.int .i64 x1) ∧ W'.cell? ⟨(ad.add (i * 3)).block, (ad.add (i * 3)).off + 2, none⟩ = some (.int .i64 x2) ∧ W'.cell? (ad.add (j * 3)) = some (.int .i64 y0) ∧ W'.cell? ⟨(ad.add (j * 3)).block, (ad.add (j * 3)).off + 1, none⟩ = some (.int .i64 y1) ∧ W'.cell? ⟨(ad.add (j * 3)).block, (ad.add (j * 3)).off + 2, none⟩ = some (.int .i64 y2))
              (first
                | exact HMS.out _ (by repeat (first | exact Below.refl _ _ | assumption | (go_split_ands; assumption) | apply below_drew1 | apply below_alloc))
                | fail)
              (first
                | (go_at_call 135
                   refine (HO.out _).mono ?_
                   rintro e w3 ⟨rfl, hb3⟩
                   have B3 := below_step (show Below wr.heap.size wr _ from by (go_split_ands; assumption)) hb3)
                | fail)
            all_goals go_wp2
            all_goals
              go_roundg (ar.length - (i + 1))
              case measure => omega
              case rel => exact ⟨i + 1, by omega, by omega, by go_num, ⟨MM.out.below (by go_split_ands; assumption)⟩, HU⟩
      · have hie : i = ar.length := by omega
        subst hie
        have HU := Aside0.mk (unr_miss AA.out)
        go_wp2
        go_ret
        exact ⟨by rw [HG.out, if_neg (by rw [HU.out]; simp)]; rfl, MM.out.b⟩
theorem check_calls (hr : Kd.C kAr w A ar.length ar) : Calls Try.prog 73 #[.agg #[.int .i64 L, .int .i64 n, .slice A ar.length c]] w fun e w' => e = .returned (.int .i64 (gChk L n ar)) ∧ Below w.heap.size w w' := by
  unfold gChk
  by_cases h0 : L < 1 ∨ 4 < L
  · rw [if_pos h0]; exact chk_L L n A c ar w h0
  · rw [if_neg h0]
    by_cases h1 : n < 1 ∨ 12 < n ∨ 60 < (ar.length : Int)
    · rw [if_pos h1]; exact chk_n L n A c ar w h0 h1
    · rw [if_neg h1]; exact chk_rest L n A c ar w hr h0 h1
theorem grOk_of {L n : Int} {ar : List Arw} (h : gChk L n ar = 0) : ∃ m : Nat, n = (m : Int) ∧ 1 ≤ m ∧ m ≤ 12 ∧ ar.length ≤ 60 ∧ ArOk n ar := by
  unfold gChk at h
  split at h
  · cases h
  split at h
  · cases h
  rename_i h1 h2
  have hb : ¬ ar.any (badA L n) = true := fun hb => by unfold gRest at h; rw [if_pos hb] at h; cases h
  refine ⟨n.toNat, by omega, by omega, by omega, by omega, fun x hx => ?_⟩
  have := List.any_eq_false.1 (Bool.not_eq_true _ ▸ hb) x hx
  rw [Bool.not_eq_true] at this
  unfold badA noP at this
  simp only [Bool.or_eq_false_iff, decide_eq_false_iff_not] at this
  omega
end
end Go.Proofs.Ytampgoendkjkhaa.H
