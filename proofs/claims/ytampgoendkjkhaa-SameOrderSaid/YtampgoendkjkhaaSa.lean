/- same.answered. -/
import Derived.Test.YtampgoendkjkhaaSlA
import Derived.Test.YtampgoendkjkhaaDv
namespace Go.Proofs.Ytampgoendkjkhaa.H
open Go.RowKit Go.Shelf Go.Proofs.YtampgoendkjkhaaW.PrintWords Go.Proofs.YtampgoendkjkhaaW.PrintMore
set_option linter.unusedVariables false
set_option linter.unusedSimpArgs false
abbrev Arw : Type := Int × Int × Int
/-- does y answer x? -/
def anY (ok : Int → Int → Bool) (q : Int) (x y : Arw) : Bool := y.1 == q && y.2.1 == x.2.1 && ok x.2.2 y.2.2
def anX (ar : List Arw) (ok : Int → Int → Bool) (p q : Int) (x : Arw) : Bool := !(x.1 == p) || ar.any (anY ok q x)
def ansB (ar : List Arw) (ok : Int → Int → Bool) (p q : Int) : Bool := ar.all (anX ar ok p q)
/-- what is asked of 'ok', at places -/
def OkAt (g : Nat) (lb : Array Value) (ok : Int → Int → Bool) (n : Int) (w : World) : Prop :=
  ∀ (W : World) (a b : Int), Below w.heap.size w W → 0 ≤ a → a < n → 0 ≤ b → b < n → Calls Try.prog g (#[.int .i64 a, .int .i64 b] ++ lb) W fun e W' => e = .returned (.bool (ok a b)) ∧ Below W.heap.size W W'
theorem OkAt.below {g : Nat} {lb : Array Value} {ok : Int → Int → Bool} {n : Int} {w W : World} (h : OkAt g lb ok n w) (hb : Below w.heap.size w W) : OkAt g lb ok n W :=
  fun W2 a b h2 => h W2 a b (below_step hb h2)
def ArOk (n : Int) (ar : List Arw) : Prop := ∀ x ∈ ar, 0 ≤ x.1 ∧ x.1 < n ∧ 0 ≤ x.2.2 ∧ x.2.2 < n
set_option maxHeartbeats 2000000 in
theorem an1_calls (g : Nat) (lb : Array Value) (eg : ∀ args w, (callFunc g args).run Try.prog w = .ok (.enter g args) w) (ok : Int → Int → Bool) (n q x0 x1 x2 y0 y1 y2 : Int) (bq bx bk : Nat) (w : World) (hq : w.cell? ⟨bq, 0, none⟩ = some (.int .i64 q)) (hx1 : w.cell? ⟨bx, 1, none⟩ = some (.int .i64 x1)) (hx2 : w.cell? ⟨bx, 2, none⟩ = some (.int .i64 x2)) (hk : w.cell? ⟨bk, 0, none⟩ = some (.func (.func g) #[] lb))
    (zq : bq < w.heap.size) (zx : bx < w.heap.size) (zk : bk < w.heap.size) (hO : OkAt g lb ok n w) (h0 : 0 ≤ x2) (h1 : x2 < n) (h2 : 0 ≤ y2) (h3 : y2 < n) :
    Calls Try.prog 140 #[.agg #[.int .i64 y0, .int .i64 y1, .int .i64 y2], .pointer (some ⟨bq, 0, none⟩), .pointer (some ⟨bx, 0, none⟩), .pointer (some ⟨bk, 0, none⟩)] w fun e w' => e = .returned (.bool (anY ok q (x0, x1, x2) (y0, y1, y2))) ∧ Below w.heap.size w w' := by
  have HO := Aside0.mk (hO (w.alloc (.cells #[.int .i64 y0, .int .i64 y1, .int .i64 y2] 78)) x2 y2 (below_alloc (Below.refl _ _) _) h0 h1 h2 h3)
  clear hO h0 h1 h2 h3
  have HB := Aside0.mk (below_alloc (Below.refl w.heap.size w) (.cells #[.int .i64 y0, .int .i64 y1, .int .i64 y2] 78))
  have HA := Aside0.mk (show anY ok q (x0, x1, x2) (y0, y1, y2) = ((y0 == q) && (y1 == x1) && ok x2 y2) from rfl)
  cases c0 : (y0 == q) with
  | false =>
    rw [c0] at HA
    go_enter Try.func140, Try.ntmps140
    go_wp2
    go_ret
    exact ⟨by rw [HA.out]; rfl, HB.out⟩
  | true =>
    cases c1 : (y1 == x1) with
    | false =>
      rw [c0, c1] at HA
      go_enter Try.func140, Try.ntmps140
      go_wp2
      go_ret
      exact ⟨by rw [HA.out]; rfl, HB.out⟩
    | true =>
      rw [c0, c1] at HA
      go_enter Try.func140, Try.ntmps140
      go_wp2_with (go_at_fn g; refine HO.out.mono ?_; rintro e w' ⟨rfl, hb'⟩; have B' := Aside0.mk (below_step HB.out hb'); clear hb')
      go_ret
      exact ⟨by rw [HA.out]; simp, B'.out⟩
theorem anX_false {ar : List Arw} {ok : Int → Int → Bool} {p q : Int} {i : Nat} (hi : i < ar.length) (h : anX ar ok p q ar[i] = false) : ansB ar ok p q = false := by
  unfold ansB
  rw [List.all_eq_false]
  exact ⟨_, List.getElem_mem hi, by rw [h]; simp⟩
theorem anX_all {ar : List Arw} {ok : Int → Int → Bool} {p q : Int} (h : ∀ j, ∀ hj : j < ar.length, anX ar ok p q ar[j] = true) : ansB ar ok p q = true := by
  unfold ansB
  rw [List.all_eq_true]
  intro x hx
  obtain ⟨i, hi, rfl⟩ := List.getElem_of_mem hx
  exact h i hi
structure AnM (w W : World) (L n : Int) (A : Option Addr) (m c : Nat) (q : Int) (g : Nat) (lb : Array Value) : Prop where
  b : Below w.heap.size w W
  x : W.heap[w.heap.size]? = some (.cells #[.int .i64 L, .int .i64 n, .slice A m c] 75 (0, 0))
  q : W.heap[w.heap.size + 1]? = some (.cells #[.int .i64 q] 3 (0, 0))
  k : W.heap[w.heap.size + 2]? = some (.cells #[.func (.func g) #[] lb] 175 (0, 0))
theorem AnM.below {w W W' : World} {L n : Int} {A : Option Addr} {m c : Nat} {q : Int} {g : Nat} {lb : Array Value} (h : AnM w W L n A m c q g lb) (hb : Below W.heap.size W W') : AnM w W' L n A m c q g lb :=
  ⟨below_step h.b hb, blk_below h.x hb, blk_below h.q hb, blk_below h.k hb⟩
set_option maxHeartbeats 4000000 in
theorem answered_calls (g : Nat) (lb : Array Value) (eg : ∀ args w, (callFunc g args).run Try.prog w = .ok (.enter g args) w) (ok : Int → Int → Bool) (L n p q : Int) (A : Option Addr) (c : Nat) (ar : List Arw) (w : World) (hr : Kd.C kAr w A ar.length ar) (hO : OkAt g lb ok n w) (har : ArOk n ar) :
    Calls Try.prog 76 #[.agg #[.int .i64 L, .int .i64 n, .slice A ar.length c], .int .i64 p, .int .i64 q, .func (.func g) #[] lb] w fun e w' => e = .returned (.bool (ansB ar ok p q)) ∧ Below w.heap.size w w' := by
  have hbig : ar.length ≤ 9223372036854775807 := hr.2.1
  have HR := Aside0.mk hr
  have HO := Aside0.mk hO
  have HAR := Aside0.mk har
  have EG := Aside0.mk eg
  clear hr hO har eg
  have M0 := Aside0.mk (show AnM w (((w.alloc (.cells #[.int .i64 L, .int .i64 n, .slice A ar.length c] 75)).alloc (.cells #[.int .i64 q] 3)).alloc (.cells #[.func (.func g) #[] lb] 175)) L n A ar.length c q g lb from
    ⟨below_alloc (below_alloc (below_alloc (Below.refl _ _) _) _) _, blk_alloc (blk_alloc (blk_new w _) _) _, blk_alloc (blk_newn _ _ _ (by simp)) _, blk_newn _ _ _ (by simp)⟩)
  go_enter Try.func76, Try.ntmps76
  go_wp2
  generalize ((w.alloc (.cells #[.int .i64 L, .int .i64 n, .slice A ar.length c] 75)).alloc (.cells #[.int .i64 q] 3)).alloc (.cells #[.func (.func g) #[] lb] 175) = W1 at M0 ⊢
  go_loopg [14] ar.length (fun gg s14 wr => ∃ i : Nat, i ≤ ar.length ∧ ar.length - i ≤ gg ∧ s14 = .int .i64 (i : Int) ∧ Aside0 (AnM w wr L n A ar.length c q g lb) ∧ Aside0 (∀ j, ∀ hj : j < ar.length, j < i → anX ar ok p q ar[j] = true))
  case atStart => exact ⟨0, Nat.zero_le _, by omega, rfl, M0, ⟨fun j _ hj => absurd hj (Nat.not_lt_zero _)⟩⟩
  case round =>
    obtain ⟨i, hi, hgg, rfl, MM, AA⟩ := hrel
    clear M0
    by_cases hlt : i < ar.length
    · have hltz : (i : Int) < (ar.length : Int) := by omega
      obtain ⟨ad, e0, hc0⟩ := arr_get HR.out rfl hlt
      cases e0
      obtain ⟨x0, x1, x2, hx⟩ : ∃ x0 x1 x2, ar[i] = (x0, x1, x2) := ⟨_, _, _, rfl⟩
      have hc1 := pw_cell_below MM.out.b (hc0 0 x0 (by rw [hx]; rfl))
      have hc2 := pw_cell_below MM.out.b (hc0 1 x1 (by rw [hx]; rfl))
      have hc3 := pw_cell_below MM.out.b (hc0 2 x2 (by rw [hx]; rfl))
      clear hc0
      rw [show ad.add (i * 3 + 0) = ad.add (i * 3) from rfl] at hc1
      rw [show ad.add (i * 3 + 1) = ⟨(ad.add (i * 3)).block, (ad.add (i * 3)).off + 1, none⟩ from by rw [← Addr.add_add, add_pos _ (by omega)]] at hc2
      rw [show ad.add (i * 3 + 2) = ⟨(ad.add (i * 3)).block, (ad.add (i * 3)).off + 2, none⟩ from by rw [← Addr.add_add, add_pos _ (by omega)]] at hc3
      have HXB := Aside0.mk (HAR.out _ (List.getElem_mem hlt))
      rw [hx] at HXB
      have HX := Aside0.mk hx
      have hm2 : wr.cell? ⟨w.heap.size, 2, none⟩ = some (.slice (some ad) ar.length c) := (blk_cell MM.out.x 2).trans rfl
      have zx : w.heap.size + 1 + 1 < wr.heap.size := blk_lt MM.out.k
      have z0 : w.heap.size < wr.heap.size := blk_lt MM.out.x
      have HNXT := Aside0.mk (fun (h : anX ar ok p q ar[i] = true) (j : Nat) (hj : j < ar.length) (hji : j < i + 1) => by
        by_cases e : j = i
        · subst e; exact h
        · exact AA.out j hj (by omega) : anX ar ok p q ar[i] = true → ∀ j, ∀ hj : j < ar.length, j < i + 1 → anX ar ok p q ar[j] = true)
      have HFAL := Aside0.mk (fun h : anX ar ok p q ar[i] = false => anX_false hlt h)
      rw [hx] at HNXT HFAL
      clear hx
      have M2 := Aside0.mk (MM.out.below (below_alloc (Below.refl _ _) (.cells #[.int .i64 x0, .int .i64 x1, .int .i64 x2] 78)))
      have X2 := Aside0.mk (blk_new wr (.cells #[.int .i64 x0, .int .i64 x1, .int .i64 x2] 78 (0, 0)))
      cases c0 : (x0 == p) with
      | false =>
        have HN := Aside0.mk (HNXT.out (by unfold anX; simp only [c0]; rfl))
        go_wp2
        go_roundg (ar.length - (i + 1))
        case measure => omega
        case rel => exact ⟨i + 1, by omega, by omega, by go_num, M2, HN⟩
      | true =>
        have hE : anX ar ok p q (x0, x1, x2) = ar.any (anY ok q (x0, x1, x2)) := by unfold anX; simp only [c0]; rfl
        rw [hE] at HNXT HFAL
        clear hE
        have HCF := Aside0.mk (ContainsFunc_ar 140 #[.pointer (some ⟨w.heap.size + 1, 0, none⟩), .pointer (some ⟨wr.heap.size, 0, none⟩), .pointer (some ⟨w.heap.size + 1 + 1, 0, none⟩)] (enters_of Try.func140 (by kernel_rfl) rfl) (anY ok q (x0, x1, x2)) (some ad) c ar _ (Kd.C_below HR.out M2.out.b) (fun W y0 y1 y2 hy hb => by
          have hyb := HAR.out _ hy
          have M3 := M2.out.below hb
          have X3 := blk_below X2.out hb
          refine (an1_calls g lb EG.out ok n q x0 x1 x2 y0 y1 y2 (w.heap.size + 1) wr.heap.size (w.heap.size + 1 + 1) W ((blk_cell M3.q 0).trans rfl) ((blk_cell X3 1).trans rfl) ((blk_cell X3 2).trans rfl) ((blk_cell M3.k 0).trans rfl) (blk_lt M3.q) (blk_lt X3) (blk_lt M3.k) (HO.out.below M3.b) HXB.out.2.2.1 HXB.out.2.2.2 hyb.2.2.1 hyb.2.2.2).mono ?_
          rintro e w' ⟨he, hb'⟩
          exact ⟨he, below_step hb hb'⟩))
        cases hq : ar.any (anY ok q (x0, x1, x2)) with
        | true =>
          rw [hq] at HCF HNXT
          have HN := Aside0.mk (HNXT.out rfl)
          clear hq HNXT HFAL
          go_wp2_with (go_at_call 133; refine HCF.out.mono ?_; rintro e w3 ⟨rfl, hb3⟩; have M3 := Aside0.mk (M2.out.below hb3); clear hb3)
          go_roundg (ar.length - (i + 1))
          case measure => omega
          case rel => exact ⟨i + 1, by omega, by omega, by go_num, M3, HN⟩
        | false =>
          rw [hq] at HCF HFAL
          have HN := Aside0.mk (HFAL.out rfl)
          clear hq HNXT HFAL
          go_wp2_with (go_at_call 133; refine HCF.out.mono ?_; rintro e w3 ⟨rfl, hb3⟩; have M3 := Aside0.mk (M2.out.below hb3); clear hb3)
          go_ret
          exact ⟨by rw [HN.out]; rfl, M3.out.b⟩
    · have hie : i = ar.length := by omega
      subst hie
      have HN := Aside0.mk (anX_all (fun j hj => AA.out j hj hj))
      go_wp2
      go_ret
      exact ⟨by rw [HN.out]; rfl, MM.out.b⟩
end Go.Proofs.Ytampgoendkjkhaa.H
