/- alter.Check. -/
import Derived.Test.YtjabncedfjjbjaaAlC
import Derived.Test.YtjabncedfjjbjaaGet
namespace Go.Proofs.Ytjabncedfjjbjaa.H
open Go.RowKit Go.Shelf Go.Proofs.YtjabncedfjjbjaaW.PrintWords
set_option linter.unusedVariables false
set_option linter.unusedSimpArgs false
def sizeB (l : List (List Int)) : Bool := decide (16 < (l.length : Int)) || l.any (fun c => decide (4 < (c.length : Int)))
def outB (n : Int) (l : List (List Int)) : Bool := l.any fun c => c.any (noB n)
def alShape (L : Int) (nx : List (List (List (List Int)))) : Bool := nx.any (fun r => (r.length : Int) != L)
def alSize (nx : List (List (List (List Int)))) : Bool := nx.any fun r => r.any sizeB
def alOut (n : Int) (nx : List (List (List (List Int)))) : Bool := nx.any fun r => r.any (outB n)
def aCheck (L st : Int) (nx : List (List (List (List Int)))) (ms : List Int) : Int :=
  if L < 1 ∨ 4 < L then 2 else if (nx.length : Int) < 1 ∨ 4 < (nx.length : Int) then 1
  else if ms.length ≠ nx.length ∨ alShape L nx = true then 3
  else if alSize nx = true then 1
  else if (alOut nx.length nx || noB nx.length st || ms.any bitB) = true then 2 else 0
section
variable (L st : Int) (A2 A3 : Option Addr) (c2 c3 : Nat) (nx : List (List (List (List Int)))) (ms : List Int) (w : World)
abbrev alArgs : Array Value := #[.agg #[.int .i64 L, .int .i64 st, .slice A2 nx.length c2, .slice A3 ms.length c3]]
theorem al_L (h : L < 1 ∨ 4 < L) : Calls Try.prog 72 (alArgs L st A2 A3 c2 c3 nx ms) w fun e w' => e = .returned (.int .i64 2) ∧ Below w.heap.size w w' := by
  by_cases h1 : L < 1
  · have h1' : decide (L < 1) = true := decide_eq_true h1
    go_enter Try.func72, Try.ntmps72
    go_wp2
    go_ret
    exact ⟨rfl, (Below.refl _ _).alloc (Nat.le_refl _) _⟩
  · have h1' : decide (L < 1) = false := decide_eq_false h1
    have h2' : decide (4 < L) = true := decide_eq_true (by omega)
    go_enter Try.func72, Try.ntmps72
    go_wp2
    go_ret
    exact ⟨rfl, (Below.refl _ _).alloc (Nat.le_refl _) _⟩
theorem al_n (h : ¬ (L < 1 ∨ 4 < L)) (hn : (nx.length : Int) < 1 ∨ 4 < (nx.length : Int)) : Calls Try.prog 72 (alArgs L st A2 A3 c2 c3 nx ms) w fun e w' => e = .returned (.int .i64 1) ∧ Below w.heap.size w w' := by
  have h1' : decide (L < 1) = false := decide_eq_false (by omega)
  have h2' : decide (4 < L) = false := decide_eq_false (by omega)
  by_cases h1 : (nx.length : Int) < 1
  · have h3' : decide ((nx.length : Int) < 1) = true := decide_eq_true h1
    go_enter Try.func72, Try.ntmps72
    go_wp2
    go_ret
    exact ⟨rfl, ((Below.refl _ _).alloc (Nat.le_refl _) _).alloc (by simp) _⟩
  · have h3' : decide ((nx.length : Int) < 1) = false := decide_eq_false h1
    have h4' : decide (4 < (nx.length : Int)) = true := decide_eq_true (by omega)
    go_enter Try.func72, Try.ntmps72
    go_wp2
    go_ret
    exact ⟨rfl, ((Below.refl _ _).alloc (Nat.le_refl _) _).alloc (by simp) _⟩
theorem alshape_pred (W0 : World) (B : Nat) (hB : B < W0.heap.size) (hc : W0.cell? ⟨B, 0, none⟩ = some (.int .i64 L)) : Pred_row3 133 #[.pointer (some ⟨B, 0, none⟩)] (fun r => (r.length : Int) != L) nx W0 :=
  fun W x A c _ _ _ hb => (al1_calls A c x.length L B W ((hb.cell (p := ⟨B, 0, none⟩) hB).trans hc)).mono fun e w' ⟨he, hw⟩ => ⟨he, hw ▸ hb⟩
theorem al_shape (h : ¬ (L < 1 ∨ 4 < L)) (hn : ¬ ((nx.length : Int) < 1 ∨ 4 < (nx.length : Int))) (hs : ms.length ≠ nx.length ∨ alShape L nx = true)
    (hr2 : Kd.C (Kd.slice 42 (Kd.slice 22 (Kd.slice 3 (Kd.int .i64)))) w A2 nx.length nx) (hr3 : Kd.C (Kd.int .i64) w A3 ms.length ms) :
    Calls Try.prog 72 (alArgs L st A2 A3 c2 c3 nx ms) w fun e w' => e = .returned (.int .i64 3) ∧ Below w.heap.size w w' := by
  have h1' : decide (L < 1) = false := decide_eq_false (by omega)
  have h2' : decide (4 < L) = false := decide_eq_false (by omega)
  have h3' : decide ((nx.length : Int) < 1) = false := decide_eq_false (by omega)
  have h4' : decide (4 < (nx.length : Int)) = false := decide_eq_false (by omega)
  have HR := Aside0.mk hr2
  have HR3 := Aside0.mk hr3
  clear hr2 hr3
  by_cases hm : ms.length = nx.length
  · have hlen : ((ms.length : Int) != (nx.length : Int)) = false := by simp; omega
    have hs1 : nx.any (fun r => (r.length : Int) != L) = true := hs.resolve_left (fun h => h hm)
    have HS := Aside0.mk hs1
    clear hs hs1 hm
    go_enter Try.func72, Try.ntmps72
    go_wp2_with (go_at_call 132; refine (ContainsFunc_row3 133 _ (enters_of Try.func133 (by kernel_rfl) rfl) _ A2 c2 nx _ (Kd.C_below HR.out (((Below.refl _ _).alloc (Nat.le_refl _) _).alloc (by simp) _)) (alshape_pred L nx _ w.heap.size (by simp; omega) (by simp [go_sem]))).mono ?_; rintro e w1 ⟨rfl, hb1⟩; rw [HS.out])
    go_ret
    exact ⟨rfl, (((Below.refl _ _).alloc (Nat.le_refl _) _).alloc (by simp) _).trans (hb1.mono (by simp; omega))⟩
  · have hlen : ((ms.length : Int) != (nx.length : Int)) = true := by simp; omega
    clear hs hm
    go_enter Try.func72, Try.ntmps72
    go_wp2
    go_ret
    exact ⟨rfl, ((Below.refl _ _).alloc (Nat.le_refl _) _).alloc (by simp) _⟩
end
structure AlM (w W : World) (b5 : Nat) (L st : Int) (A2 A3 : Option Addr) (n c2 m c3 : Nat) : Prop where
  b : Below w.heap.size w W
  x : W.heap[w.heap.size]? = some (.cells #[.int .i64 L, .int .i64 st, .slice A2 n c2, .slice A3 m c3] 77 (0, 0))
  n : W.heap[w.heap.size + 1]? = some (.cells #[.int .i64 (n : Int)] 3 (0, 0))
  f : W.heap[b5]? = some (.cells #[.func (.func 134) #[] #[.pointer (some ⟨w.heap.size + 1, 0, none⟩)]] 133 (0, 0))
theorem AlM.below {w W W' : World} {b5 : Nat} {L st : Int} {A2 A3 : Option Addr} {n c2 m c3 : Nat} (h : AlM w W b5 L st A2 A3 n c2 m c3) (hb : Below W.heap.size W W') : AlM w W' b5 L st A2 A3 n c2 m c3 :=
  ⟨below_step h.b hb, blk_below h.x hb, blk_below h.n hb, blk_below h.f hb⟩
theorem any_take_snoc {α : Type} (p : α → Bool) (xs : List α) {i : Nat} (h : i < xs.length) : (xs.take (i + 1)).any p = ((xs.take i).any p || p xs[i]) := by
  rw [take_snoc' xs h, List.any_append]; simp
theorem any_of_get {α : Type} {p : α → Bool} {xs : List α} {i : Nat} (h : i < xs.length) (hp : p xs[i] = true) : xs.any p = true := List.any_eq_true.2 ⟨_, List.getElem_mem h, hp⟩
theorem mark_pred (xs : List Int) (W0 : World) : Pred_int 137 #[] bitB xs W0 :=
  fun W x _ hb => (al5_calls x W).mono fun e w' ⟨he, hw⟩ => ⟨he, hw ▸ hb⟩
theorem size_pred (xs : List (List Int)) (W0 : World) : Pred_row 135 #[] (fun c => decide (4 < (c.length : Int))) xs W0 :=
  fun W x A c _ _ _ hb => (al3_calls A c x.length W).mono fun e w' ⟨he, hw⟩ => ⟨he, hw ▸ hb⟩
theorem out_pred (xs : List (List Int)) (W0 : World) (B B2 : Nat) (n : Int) (hB : B < W0.heap.size) (hB2 : B2 < W0.heap.size) (hc : W0.cell? ⟨B, 0, none⟩ = some (.int .i64 n)) (hc2 : W0.cell? ⟨B2, 0, none⟩ = some (.func (.func 134) #[] #[.pointer (some ⟨B, 0, none⟩)])) :
    Pred_row 136 #[.pointer (some ⟨B2, 0, none⟩)] (fun r => r.any (noB n)) xs W0 :=
  fun W x A c _ _ hr hb => (al4_calls A c x n B B2 W hr ((hb.cell (p := ⟨B, 0, none⟩) hB).trans hc) (Nat.lt_of_lt_of_le hB hb.size) ((hb.cell (p := ⟨B2, 0, none⟩) hB2).trans hc2)).mono fun e w' ⟨he, hw⟩ => ⟨he, hb.trans (hw.mono hb.size)⟩
section
variable (L st : Int) (A2 A3 : Option Addr) (c2 c3 : Nat) (nx : List (List (List (List Int)))) (ms : List Int) (w : World)
set_option maxHeartbeats 8000000 in
set_option maxRecDepth 100000 in
theorem al_rest (h : ¬ (L < 1 ∨ 4 < L)) (hn : ¬ ((nx.length : Int) < 1 ∨ 4 < (nx.length : Int))) (hm : ms.length = nx.length) (hs : alShape L nx = false)
    (hr2 : Kd.C (Kd.slice 42 (Kd.slice 22 (Kd.slice 3 (Kd.int .i64)))) w A2 nx.length nx) (hr3 : Kd.C (Kd.int .i64) w A3 ms.length ms) (R : Int) (hR1 : alSize nx = true → R = 1) (hR2 : alSize nx = false → R = if (alOut nx.length nx || noB nx.length st || ms.any bitB) = true then 2 else 0) :
    Calls Try.prog 72 (alArgs L st A2 A3 c2 c3 nx ms) w fun e w' => e = .returned (.int .i64 R) ∧ Below w.heap.size w w' := by
  have HR1 := Aside0.mk hR1
  have HR2 := Aside0.mk hR2
  clear hR1 hR2
  have h1' : decide (L < 1) = false := decide_eq_false (by omega)
  have h2' : decide (4 < L) = false := decide_eq_false (by omega)
  have h3' : decide ((nx.length : Int) < 1) = false := decide_eq_false (by omega)
  have h4' : decide (4 < (nx.length : Int)) = false := decide_eq_false (by omega)
  have HR := Aside0.mk hr2
  have HR3 := Aside0.mk hr3
  clear hr2 hr3
  have hlen : ((ms.length : Int) != (nx.length : Int)) = false := by simp; omega
  have hs1 : nx.any (fun r => (r.length : Int) != L) = false := hs
  have HS := Aside0.mk hs1
  clear hs hs1 hm
  go_enter Try.func72, Try.ntmps72
  go_wp2_with (
    go_at_call 132
    refine (ContainsFunc_row3 133 _ (enters_of Try.func133 (by kernel_rfl) rfl) _ A2 c2 nx _ (Kd.C_below HR.out (((Below.refl _ _).alloc (Nat.le_refl _) _).alloc (by simp) _)) (alshape_pred L nx _ w.heap.size (by simp; omega) (by simp [go_sem]))).mono ?_
    rintro e w1 ⟨rfl, hb1⟩
    rw [HS.out]
    have hB1 := Aside0.mk ((((Below.refl _ _).alloc (Nat.le_refl _) _).alloc (by simp) _).trans (hb1.mono (by simp; omega)) : Below w.heap.size w w1)
    have BX := Aside0.mk (show w1.heap[w.heap.size]? = some (.cells #[.int .i64 L, .int .i64 st, .slice A2 nx.length c2, .slice A3 ms.length c3] 77 (0, 0)) from blk_below (blk_alloc (blk_new w _) _) hb1)
    have BN := Aside0.mk (show w1.heap[w.heap.size + 1]? = some (.cells #[.int .i64 (nx.length : Int)] 3 (0, 0)) from blk_below (blk_newn _ _ _ (by simp)) hb1)
    have k2 : w1.cell? ⟨w.heap.size, 2, none⟩ = some (.slice A2 nx.length c2) := (blk_cell BX.out 2).trans rfl
    have hz : w.heap.size + 1 < w1.heap.size := blk_lt BN.out
    have hz0 : w.heap.size < w1.heap.size := by omega
    clear hb1)
  obtain ⟨b5, hb5⟩ : ∃ b5, w1.heap.size = b5 := ⟨_, rfl⟩
  have S0 := Aside0.mk (show AlM w (w1.alloc (.cells #[.func (.func 134) #[] #[.pointer (some ⟨w.heap.size + 1, 0, none⟩)]] 133)) b5 L st A2 A3 nx.length c2 ms.length c3 from
    ⟨below_alloc hB1.out _, blk_alloc BX.out _, blk_alloc BN.out _, by rw [← hb5]; exact blk_new w1 _⟩)
  rw [hb5]
  generalize w1.alloc (.cells #[.func (.func 134) #[] #[.pointer (some ⟨w.heap.size + 1, 0, none⟩)]] 133) = W1 at S0 ⊢
  clear hb5 k2 hz hz0 hB1 BX BN hlen
  have hSH := Aside0.mk (show ∀ r ∈ nx, (r.length : Int) = L from fun r hr => by have := List.any_eq_false.1 HS.out r hr; simpa using this)
  go_loopg [4, 42] nx.length (fun gg s4 s42 wr => ∃ (i : Nat) (b : Bool), i ≤ nx.length ∧ nx.length - i ≤ gg ∧ s42 = .int .i64 (i : Int) ∧ s4 = .bool b ∧ Aside0 (b = alOut nx.length (nx.take i)) ∧ Aside0 (alSize (nx.take i) = false) ∧ Aside0 (AlM w wr b5 L st A2 A3 nx.length c2 ms.length c3))
  case atStart => exact ⟨0, false, Nat.zero_le _, by omega, rfl, rfl, ⟨rfl⟩, ⟨rfl⟩, S0⟩
  case round =>
    obtain ⟨i, b, hi, hg, rfl, rfl, HB, HZ, MM⟩ := hrel
    clear S0
    by_cases hlt : i < nx.length
    · have hltz : (i : Int) < (nx.length : Int) := by omega
      obtain ⟨ad, A4, c4, rfl, hle, hrow, hc⟩ := row_get HR.out rfl hlt
      have hcw := pw_cell_below MM.out.b hc
      obtain ⟨r, hr⟩ : ∃ r, nx[i] = r := ⟨_, rfl⟩
      have hrL := hSH.out nx[i] (List.getElem_mem hlt)
      rw [hr] at hle hrow hc hcw hrL
      have HRR := Aside0.mk hr
      have HRW := Aside0.mk (Kd.C_below hrow MM.out.b)
      have hrl : r.length ≤ 9223372036854775807 := (C_len hrow).2
      clear hr hrow hc
      go_wp2
      obtain ⟨wo, hwo⟩ : ∃ wo, wo = wr := ⟨_, rfl⟩
      rw [← hwo] at MM HRW ⊢
      clear hcw hwo
      obtain ⟨b0, hb0⟩ : ∃ b0, b0 = b := ⟨_, rfl⟩
      rw [← hb0] at HB
      go_loopg [4, 48] r.length (fun gg s4 s48 wr => ∃ (j : Nat) (b : Bool), j ≤ r.length ∧ r.length - j ≤ gg ∧ s48 = .int .i64 (j : Int) ∧ s4 = .bool b ∧ Aside0 (b = (b0 || (r.take j).any (outB nx.length))) ∧ Aside0 ((r.take j).any sizeB = false) ∧ Aside0 (AlM w wr b5 L st (some ad) A3 nx.length c2 ms.length c3) ∧ Aside0 (Below wo.heap.size wo wr))
      case atStart => exact ⟨0, b, Nat.zero_le _, by omega, rfl, rfl, ⟨by rw [← hb0]; simp⟩, ⟨by simp⟩, MM, ⟨Below.refl _ _⟩⟩
      case round =>
        clear hb0
        obtain ⟨j, b', hj, hgj, rfl, rfl, HBj, HZj, MJ, BJ⟩ := hrel
        by_cases hjl : j < r.length
        · have hjz : (j : Int) < (r.length : Int) := by omega
          obtain ⟨ad4, A5, c5, rfl, hle5, hrow5, hc5⟩ := row_get HRW.out rfl hjl
          have hcw := pw_cell_below BJ.out hc5
          obtain ⟨l, hl⟩ : ∃ l, r[j] = l := ⟨_, rfl⟩
          have hyes := Aside0.mk (show sizeB r[j] = true → R = 1 from fun h => HR1.out (by unfold alSize; exact any_of_get hlt (by rw [HRR.out]; exact any_of_get hjl h)))
          have hnb := Aside0.mk (any_take_snoc (outB nx.length) r hjl)
          have hnz := Aside0.mk (any_take_snoc sizeB r hjl)
          rw [hl] at hle5 hrow5 hc5 hcw hyes hnb hnz
          have HR5 := Aside0.mk (Kd.C_below hrow5 BJ.out)
          clear hl hrow5 hc5
          have z1 : w.heap.size + 1 < wr.heap.size := blk_lt MJ.out.n
          by_cases h16 : (16 : Int) < (l.length : Int)
          · have h16' : decide ((16 : Int) < (l.length : Int)) = true := decide_eq_true h16
            have hR : R = 1 := hyes.out (by unfold sizeB; rw [h16']; rfl)
            have HRe := Aside0.mk hR
            clear hR
            go_wp2
            go_ret
            exact ⟨by rw [HRe.out]; rfl, MJ.out.b⟩
          · have h16' : decide ((16 : Int) < (l.length : Int)) = false := decide_eq_false h16
            cases h4 : l.any (fun c => decide (4 < (c.length : Int))) with
            | true =>
              have HRe := Aside0.mk (show R = 1 from hyes.out (by unfold sizeB; rw [h4]; simp))
              have H4 := Aside0.mk h4
              clear h4
              go_wp2_with (go_at_call 79; refine (ContainsFunc_row 135 _ (enters_of Try.func135 (by kernel_rfl) rfl) _ A5 c5 l _ HR5.out (size_pred l _)).mono ?_; rintro e w6 ⟨rfl, hb6⟩; rw [H4.out])
              go_ret
              exact ⟨by rw [HRe.out]; rfl, below_step MJ.out.b hb6⟩
            | false =>
              have H4 := Aside0.mk h4
              have hsz := Aside0.mk (show sizeB l = false from by unfold sizeB; rw [h16', h4]; rfl)
              clear h4
              cases b' with
              | true =>
                go_wp2_with (go_at_call 79; refine (ContainsFunc_row 135 _ (enters_of Try.func135 (by kernel_rfl) rfl) _ A5 c5 l _ HR5.out (size_pred l _)).mono ?_; rintro e w6 ⟨rfl, hb6⟩; rw [H4.out]; have B6 := Aside0.mk hb6; clear hb6)
                go_roundg (r.length - (j + 1))
                case measure => omega
                case rel => exact ⟨j + 1, true, by omega, by omega, by go_num, rfl, ⟨by rw [hnb.out, ← Bool.or_assoc, ← HBj.out]; rfl⟩, ⟨by rw [hnz.out, HZj.out, hsz.out]; rfl⟩, ⟨MJ.out.below B6.out⟩, ⟨below_step BJ.out B6.out⟩⟩
              | false =>
                obtain ⟨o, ho⟩ : ∃ o, outB nx.length l = o := ⟨_, rfl⟩
                have HO := Aside0.mk (show l.any (fun r => r.any (noB nx.length)) = o from ho)
                have HO' := Aside0.mk ho
                clear ho
                go_wp2_with (first
                  | (go_at_call 79
                     refine (ContainsFunc_row 135 _ (enters_of Try.func135 (by kernel_rfl) rfl) _ A5 c5 l _ HR5.out (size_pred l _)).mono ?_
                     rintro e w6 ⟨rfl, hb6⟩
                     rw [H4.out]
                     have HR6 := Aside0.mk (Kd.C_below HR5.out hb6)
                     have M6 := Aside0.mk (MJ.out.below hb6)
                     have B6 := Aside0.mk (below_step BJ.out hb6)
                     clear hb6 HR5)
                  | (go_at_call 79
                     refine (ContainsFunc_row 136 _ (enters_of Try.func136 (by kernel_rfl) rfl) _ A5 c5 l _ HR6.out (out_pred l _ (w.heap.size + 1) b5 nx.length (blk_lt M6.out.n) (blk_lt M6.out.f) ((blk_cell M6.out.n 0).trans rfl) ((blk_cell M6.out.f 0).trans rfl))).mono ?_
                     rintro e w7 ⟨rfl, hb7⟩
                     rw [HO.out]
                     have M7 := Aside0.mk (M6.out.below hb7)
                     have B7 := Aside0.mk (below_step B6.out hb7)
                     clear hb7)
                  | fail)
                go_roundg (r.length - (j + 1))
                case measure => omega
                case rel => exact ⟨j + 1, o, by omega, by omega, by go_num, rfl, ⟨by rw [hnb.out, ← Bool.or_assoc, ← HBj.out, HO'.out]; simp⟩, ⟨by rw [hnz.out, HZj.out, hsz.out]; rfl⟩, M7, B7⟩
        · have hje : j = r.length := by omega
          subst hje
          have HN := Aside0.mk (any_take_snoc (fun r => r.any (outB nx.length)) nx hlt)
          have HN2 := Aside0.mk (any_take_snoc (fun r => r.any sizeB) nx hlt)
          rw [HRR.out] at HN HN2
          go_wp2
          go_roundg (nx.length - (i + 1))
          case measure => omega
          case rel => exact ⟨i + 1, b', by omega, by omega, by go_num, rfl, ⟨by unfold alOut; rw [HN.out, HBj.out, HB.out, List.take_length]; rfl⟩, ⟨by unfold alSize; rw [HN2.out, show (r.any sizeB) = false from by have := HZj.out; rwa [List.take_length] at this, Bool.or_false]; exact HZ.out⟩, MJ⟩
    · have hie : i = nx.length := by omega
      subst hie
      rw [List.take_length] at HB HZ
      have hR := HR2.out HZ.out
      rw [← HB.out] at hR
      have HRe := Aside0.mk hR
      have z1 : w.heap.size + 1 < wr.heap.size := blk_lt MM.out.n
      have x5 : wr.cell? ⟨b5, 0, none⟩ = some (.func (.func 134) #[] #[.pointer (some ⟨w.heap.size + 1, 0, none⟩)]) := (blk_cell MM.out.f 0).trans rfl
      have x1 : wr.cell? ⟨w.heap.size, 1, none⟩ = some (.int .i64 st) := (blk_cell MM.out.x 1).trans rfl
      have x3 : wr.cell? ⟨w.heap.size, 3, none⟩ = some (.slice A3 ms.length c3) := (blk_cell MM.out.x 3).trans rfl
      have xn : wr.cell? ⟨w.heap.size + 1, 0, none⟩ = some (.int .i64 (nx.length : Int)) := (blk_cell MM.out.n 0).trans rfl
      have e2 : ∀ args w, (callFunc 134 args).run Try.prog w = .ok (.enter 134 args) w := enters_of Try.func134 (by kernel_rfl) rfl
      clear hR HB HZ
      cases b with
      | true =>
        go_wp2
        go_ret
        exact ⟨by rw [HRe.out]; rfl, MM.out.b⟩
      | false =>
        obtain ⟨s, hs⟩ : ∃ s, noB nx.length st = s := ⟨_, rfl⟩
        obtain ⟨o, ho⟩ : ∃ o, ms.any bitB = o := ⟨_, rfl⟩
        have HSs := Aside0.mk hs
        have HOo := Aside0.mk ho
        have hR := HRe.out
        rw [hs, ho] at hR
        have HRq := Aside0.mk hR
        clear hs ho hR HRe
        cases s with
        | true =>
          go_wp2_with (go_at_call 134; refine (al2_calls nx.length st (w.heap.size + 1) _ xn).mono ?_; rintro e w2 ⟨rfl, rfl⟩; rw [HSs.out])
          go_ret
          exact ⟨by rw [HRq.out]; rfl, MM.out.b⟩
        | false =>
          cases o with
          | true =>
            go_wp2_with (first
              | (go_at_call 134; refine (al2_calls nx.length st (w.heap.size + 1) _ xn).mono ?_; rintro e w2 ⟨rfl, rfl⟩; rw [HSs.out])
              | (go_at_call 81; refine (ContainsFunc_int 137 _ (enters_of Try.func137 (by kernel_rfl) rfl) bitB A3 c3 ms _ (Kd.C_below HR3.out MM.out.b) (mark_pred ms _)).mono ?_; rintro e w3 ⟨rfl, hb3⟩; rw [HOo.out])
              | fail)
            go_ret
            exact ⟨by rw [HRq.out]; rfl, below_step MM.out.b hb3⟩
          | false =>
            go_wp2_with (first
              | (go_at_call 134; refine (al2_calls nx.length st (w.heap.size + 1) _ xn).mono ?_; rintro e w2 ⟨rfl, rfl⟩; rw [HSs.out])
              | (go_at_call 81; refine (ContainsFunc_int 137 _ (enters_of Try.func137 (by kernel_rfl) rfl) bitB A3 c3 ms _ (Kd.C_below HR3.out MM.out.b) (mark_pred ms _)).mono ?_; rintro e w3 ⟨rfl, hb3⟩; rw [HOo.out])
              | fail)
            go_ret
            exact ⟨by rw [HRq.out]; rfl, below_step MM.out.b hb3⟩
theorem al_Check (hr2 : Kd.C (Kd.slice 42 (Kd.slice 22 (Kd.slice 3 (Kd.int .i64)))) w A2 nx.length nx) (hr3 : Kd.C (Kd.int .i64) w A3 ms.length ms) :
    Calls Try.prog 72 (alArgs L st A2 A3 c2 c3 nx ms) w fun e w' => e = .returned (.int .i64 (aCheck L st nx ms)) ∧ Below w.heap.size w w' := by
  unfold aCheck
  by_cases h : L < 1 ∨ 4 < L
  · rw [if_pos h]; exact al_L L st A2 A3 c2 c3 nx ms w h
  · rw [if_neg h]
    by_cases hn : (nx.length : Int) < 1 ∨ 4 < (nx.length : Int)
    · rw [if_pos hn]; exact al_n L st A2 A3 c2 c3 nx ms w h hn
    · rw [if_neg hn]
      by_cases hs : ms.length ≠ nx.length ∨ alShape L nx = true
      · rw [if_pos hs]; exact al_shape L st A2 A3 c2 c3 nx ms w h hn hs hr2 hr3
      · rw [if_neg hs]
        refine al_rest L st A2 A3 c2 c3 nx ms w h hn ?_ ?_ hr2 hr3 _ (fun h => if_pos h) (fun h => if_neg (by simp [h]))
        · exact Classical.byContradiction fun q => hs (.inl q)
        · exact Bool.not_eq_true _ ▸ fun q => hs (.inr q)
end
end Go.Proofs.Ytjabncedfjjbjaa.H
