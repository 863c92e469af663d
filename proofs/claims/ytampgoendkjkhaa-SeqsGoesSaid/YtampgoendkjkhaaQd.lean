/- seqs.Differ of a row with itself. -/
import Derived.Test.YtampgoendkjkhaaQk
import Derived.WalkKit
import Derived.OwnWalk
namespace Go.Proofs.Ytampgoendkjkhaa.H
open Go.RowKit Go.Maps Go.Shelf Go.Proofs.YtampgoendkjkhaaW.PrintWords Go.Proofs.Ytampgoendkjkhaa.DtM
set_option linter.unusedVariables false
set_option linter.unusedSimpArgs false
def dg (x : Nat) : Int × Int := ((x : Int), (x : Int))
theorem dg_inj {x y : Nat} (h : dg x = dg y) : x = y := by
  have : (x : Int) = (y : Int) := congrArg Prod.fst h
  omega
theorem dg_nodup {l : List Nat} (h : l.Nodup) : (l.map dg).Nodup := List.Pairwise.map _ (fun a b hne e => hne (dg_inj e)) h
theorem cut_pl (A : Option Addr) (c n : Nat) (hn : 0 < n) (hc : n ≤ c) : ∃ A', (∀ W, (Instr.slice 153 (.slice A n c) (some (.int .i64 1)) none none).run Try.prog W = .ok (.slice A' (n - 1) (c - 1)) W) ∧ ∀ W b ok (x : Int × Int × Int) (xs : List (Int × Int × Int)), Kd.Q kAr 152 W b ok (.slice A n c) (x :: xs) → Kd.Q kAr 152 W b ok (.slice A' (n - 1) (c - 1)) xs := by
  obtain ⟨i0, hi, _, hsz, _⟩ := info_parts info_pl
  refine ⟨_, fun W => cut_from (P := Try.prog) 153 152 .i64 Try.underlying153 hi 3 hsz A n c 1 (by omega) (by omega) W, fun W b ok x xs h => ?_⟩
  exact Kd.Q_drop (k := 1) h (by simp)
theorem reps_single {α : Type} {R : α → List Value → Prop} {size : Nat} {p : α} {cs : List Value} (hl : cs.length = size) (h : R p cs) : Reps R size [p] cs := by
  refine ⟨by simp [hl], fun j q hj => ?_⟩
  match j, hj with
  | 0, hj =>
    obtain rfl : p = q := by simpa using hj
    simpa [List.take_of_length_le (Nat.le_of_eq hl)] using h
structure DfB (W : World) (b0 : Nat) (b : Nat) (A1 : Option Addr) (n1 c1 : Nat) (A2 : Option Addr) (n2 c2 : Nat) : Prop where
  x : W.heap[b0]? = some (.cells #[.int .i64 (b : Int), .slice A1 n1 c1, .slice A2 n2 c2] 45 (0, 0))
  y : W.heap[b0 + 1]? = some (.cells #[.int .i64 (b : Int), .slice A1 n1 c1, .slice A2 n2 c2] 45 (0, 0))
theorem DfB.keep {W W' : World} {b0 b : Nat} {A1 A2 : Option Addr} {n1 c1 n2 c2 : Nat} (h : DfB W b0 b A1 n1 c1 A2 n2 c2) (h0 : W'.heap[b0]? = W.heap[b0]?) (h1 : W'.heap[b0 + 1]? = W.heap[b0 + 1]?) : DfB W' b0 b A1 n1 c1 A2 n2 c2 := ⟨h0.trans h.x, h1.trans h.y⟩
theorem DfB.below' {B : Nat} {W W' : World} {b0 b : Nat} {A1 A2 : Option Addr} {n1 c1 n2 c2 : Nat} (h : DfB W b0 b A1 n1 c1 A2 n2 c2) (hb : Below B W W') (hB : b0 + 1 < B) : DfB W' b0 b A1 n1 c1 A2 n2 c2 := h.keep (hb.block _ (by omega)) (hb.block _ hB)
set_option maxHeartbeats 16000000 in
set_option maxRecDepth 100000 in
theorem df_calls (b : Nat) (im : List (List Int)) (cd : List Int) (A1 A2 : Option Addr) (c1 c2 : Nat) (w : World) (hr1 : Kd.C (Kd.slice 3 (Kd.int .i64)) w A1 im.length im) (hr2 : Kd.C (Kd.int .i64) w A2 cd.length cd) (h : qChk b im cd = 0) (hok : MorOk b im cd) :
    Calls Try.prog 21 #[.agg #[.int .i64 (b : Int), .slice A1 im.length c1, .slice A2 cd.length c2], .agg #[.int .i64 (b : Int), .slice A1 im.length c1, .slice A2 cd.length c2]] w fun e w' => e = .returned (.tuple #[.int .i64 0, .bool false, .int .i64 0]) ∧ Below w.heap.size w w' := by
  have HR1 := Aside0.mk hr1
  have HR2 := Aside0.mk hr2
  have HOK := Aside0.mk hok
  have HCK := Aside0.mk (show ∀ W, Below w.heap.size w W → Calls Try.prog 54 #[.agg #[.int .i64 (b : Int), .slice A1 im.length c1, .slice A2 cd.length c2]] W fun e w' => e = .returned (.int .i64 0) ∧ Below W.heap.size W w' from fun W hb => by
    have := qc_calls b A1 A2 c1 c2 im cd W (Kd.C_below hr1 hb) (Kd.C_below hr2 hb)
    rw [h] at this
    exact this)
  have hbb : ((b : Int) != (b : Int)) = false := by simp
  have hb2 := hok.b2
  have hb4 := hok.b4
  have hn1 := hok.n1
  have hn4 := hok.n4
  clear hr1 hr2 h hok
  go_enter Try.func21, Try.ntmps21
  go_wp2_with (fail)
  obtain ⟨W0, hW0⟩ : ∃ W0, W0 = ((w.alloc (.cells #[.int .i64 (b : Int), .slice A1 im.length c1, .slice A2 cd.length c2] 45)).alloc (.cells #[.int .i64 (b : Int), .slice A1 im.length c1, .slice A2 cd.length c2] 45)).alloc (.cells #[.int .i64 (b : Int), .slice A1 im.length c1, .slice A2 cd.length c2, .int .i64 (b : Int), .slice A1 im.length c1, .slice A2 cd.length c2] 45) := ⟨_, rfl⟩
  have D0 := Aside0.mk (show DfB W0 w.heap.size b A1 im.length c1 A2 cd.length c2 from ⟨by rw [hW0]; exact blk_alloc (blk_alloc (blk_new w _) _) _, by rw [hW0]; exact blk_alloc (blk_newn _ _ _ (by simp)) _⟩)
  have Z0 := Aside0.mk (show W0.heap[w.heap.size + 1 + 1]? = some (.cells #[.int .i64 (b : Int), .slice A1 im.length c1, .slice A2 cd.length c2, .int .i64 (b : Int), .slice A1 im.length c1, .slice A2 cd.length c2] 45 (0, 0)) from by rw [hW0]; exact blk_newn _ _ _ (by simp))
  have B0 := Aside0.mk (show Below w.heap.size w W0 from by rw [hW0]; exact below_alloc (below_alloc (below_alloc (Below.refl _ _) _) _) _)
  rw [← hW0]
  clear hW0
  go_loopg [20] 2 (fun gg s20 wr => Aside0 (DfB wr w.heap.size b A1 im.length c1 A2 cd.length c2) ∧ Aside0 (wr.heap[w.heap.size + 1 + 1]? = some (.cells #[.int .i64 (b : Int), .slice A1 im.length c1, .slice A2 cd.length c2, .int .i64 (b : Int), .slice A1 im.length c1, .slice A2 cd.length c2] 45 (0, 0))) ∧ Aside0 (Below w.heap.size w wr) ∧ ((2 ≤ gg ∧ s20 = .int .i64 0) ∨ (1 ≤ gg ∧ s20 = .int .i64 1) ∨ s20 = .int .i64 2))
  case atStart => exact ⟨D0, Z0, B0, .inl ⟨Nat.le_refl _, rfl⟩⟩
  case round =>
    clear D0 Z0 B0
    obtain ⟨DD, ZZ, BB, ⟨hg, rfl⟩ | ⟨hg, rfl⟩ | rfl⟩ := hrel
    · have k0 : wr.cell? ⟨w.heap.size + 1 + 1, 0, none⟩ = some (.int .i64 (b : Int)) := (blk_cell ZZ.out 0).trans rfl
      have k1 : wr.cell? ⟨w.heap.size + 1 + 1, 1, none⟩ = some (.slice A1 im.length c1) := (blk_cell ZZ.out 1).trans rfl
      have k2 : wr.cell? ⟨w.heap.size + 1 + 1, 2, none⟩ = some (.slice A2 cd.length c2) := (blk_cell ZZ.out 2).trans rfl
      go_wp2_with (go_at_call 54; refine calls_let ?_; intro W4 hW4; have hb4 : Below wr.heap.size wr W4 := (by rw [hW4]; exact below_alloc (Below.refl _ _) _); clear hW4; refine (HCK.out W4 (below_step BB.out hb4)).mono ?_; rintro e w5 ⟨rfl, hb5⟩; have hb45 := below_step hb4 hb5; have D5 := Aside0.mk (DD.out.below' hb45 (blk_lt DD.out.y)); have Z5 := Aside0.mk (blk_below ZZ.out hb45); have B5 := Aside0.mk (below_step BB.out hb45); clear hb4 hb5 hb45)
      go_roundg 1
      case measure => omega
      case rel => exact ⟨D5, Z5, B5, .inr (.inl ⟨Nat.le_refl _, rfl⟩)⟩
    · have k0 : wr.cell? ⟨w.heap.size + 1 + 1, 3, none⟩ = some (.int .i64 (b : Int)) := (blk_cell ZZ.out 3).trans rfl
      have k1 : wr.cell? ⟨w.heap.size + 1 + 1, 4, none⟩ = some (.slice A1 im.length c1) := (blk_cell ZZ.out 4).trans rfl
      have k2 : wr.cell? ⟨w.heap.size + 1 + 1, 5, none⟩ = some (.slice A2 cd.length c2) := (blk_cell ZZ.out 5).trans rfl
      go_wp2_with (go_at_call 54; refine calls_let ?_; intro W4 hW4; have hb4 : Below wr.heap.size wr W4 := (by rw [hW4]; exact below_alloc (Below.refl _ _) _); clear hW4; refine (HCK.out W4 (below_step BB.out hb4)).mono ?_; rintro e w5 ⟨rfl, hb5⟩; have hb45 := below_step hb4 hb5; have D5 := Aside0.mk (DD.out.below' hb45 (blk_lt DD.out.y)); have Z5 := Aside0.mk (blk_below ZZ.out hb45); have B5 := Aside0.mk (below_step BB.out hb45); clear hb4 hb5 hb45)
      go_roundg 0
      case measure => omega
      case rel => exact ⟨D5, Z5, B5, .inr (.inr rfl)⟩
    · have kb0 : wr.cell? ⟨w.heap.size, 0, none⟩ = some (.int .i64 (b : Int)) := (blk_cell DD.out.x 0).trans rfl
      have kb1 : wr.cell? ⟨w.heap.size + 1, 0, none⟩ = some (.int .i64 (b : Int)) := (blk_cell DD.out.y 0).trans rfl
      have zx : w.heap.size + 1 < wr.heap.size := blk_lt DD.out.y
      have hmm := @run_makeMap Try.prog
      obtain ⟨E, hE1, hE2⟩ := keyP
      have E1 := Aside0.mk hE1
      have E2 := Aside0.mk hE2
      clear hE1 hE2
      go_wp2_with (first
        | (refine wpList_ins E _ rfl _ _ _ 150 rfl Try.underlying150 wr.heap.size [] (dg 0) (.int .i64 1) (by rfl) (by rw [E1.out]; rfl) rfl (mapK_made' _ _ _ rfl) (by rw [E2.out]; exact ⟨by decide, by decide⟩) ?_
           intro w5 hM5 hT5
           have M5 := Aside0.mk (show MapK E w5 wr.heap.size (ones ([0].map dg)) from hM5)
           have hb5 : Below wr.heap.size wr w5 := hT5.below (below_alloc (Below.refl _ _) _) (Nat.le_refl _)
           have D5 := Aside0.mk (DD.out.below' hb5 zx)
           have B5 := Aside0.mk (below_step BB.out hb5)
           clear hM5 hT5 hb5)
        | ((with_reducible refine gate_dst (N := 39) rfl ?_)
           refine Kd.R_lit kAr (w0 := w5) (wr.heap.size + 1) 152 ?hg (N := 39) ?hd (xs := [((0 : Int), (0 : Int), (0 : Int))]) (inner := [.int .i64 0, .int .i64 0, .int .i64 0]) (ok := fun _ => True) (okp := fun _ => True) ?hr ?hp (fun _ hk => hk) trivial (Below.refl _ _) M5.out.lt (by simp) ?_
           (case hd => rfl)
           (case hg => rfl)
           (case hr => first | (go_simp; done) | (go_simp; rfl))
           (case hp => exact reps_single rfl rfl)
           intro v1 w6 hr6 hb6 _ _
           have Q6 := Aside0.mk (Kd.Q_of_R hr6)
           have M6 := Aside0.mk (M5.out.keep (hb6.block _ (Nat.lt_succ_self _)))
           have D6 := Aside0.mk (D5.out.below' hb6 (by omega))
           have B6 := Aside0.mk (below_weaken B5.out (by omega) hb6)
           clear hr6 hb6)
        | fail)
      have ZBM := Aside0.mk zx
      clear kb0 kb1 M5 D5 B5 DD ZZ BB zx hmm
      generalize wr.heap.size = bm at Q6 M6 ZBM ⊢
      go_loopg [11] 10 (fun gg s11 wr => ∃ (l : List (Int × Int × Int)) (sx : List Nat), 2 * (im.length - sx.length) + l.length ≤ gg ∧ l.length ≤ sx.length ∧ Aside0 (Kd.Q kAr 152 wr (bm + 1) (fun _ => True) s11 l) ∧ Aside0 (MapK E wr bm (ones (sx.map dg))) ∧ Aside0 (sx.Nodup ∧ ∀ x ∈ sx, x < im.length) ∧ Aside0 (∀ p ∈ l, ∃ x : Nat, x < im.length ∧ p.1 = (x : Int) ∧ p.2.1 = (x : Int)) ∧ Aside0 (DfB wr w.heap.size b A1 im.length c1 A2 cd.length c2) ∧ Aside0 (Below w.heap.size w wr))
      case atStart => exact ⟨[(0, 0, 0)], [0], by simp; omega, Nat.le_refl _, Q6, M6, ⟨by simp, by simp; omega⟩, ⟨fun p hp => ⟨0, by omega, by simp at hp; subst hp; exact ⟨rfl, rfl⟩⟩⟩, D6, B6⟩
      case round =>
        clear Q6 M6 D6 B6
        obtain ⟨l, sx, hgg, hls, QQ, MM, SS, PP, DD, BB⟩ := hrel
        obtain ⟨A, c, e, hcap⟩ := Kd.Q_slice QQ.out
        have hsn : sx.length ≤ im.length := by
          have := nodup_len (X := List.range im.length) SS.out.1 (fun x hx => List.mem_range.2 (SS.out.2 x hx))
          simpa using this
        cases l with
        | nil =>
          simp only [List.length_nil] at e
          subst e
          go_wp2_with (fail)
          go_ret3
          exact ⟨rfl, BB.out⟩
        | cons p l' =>
          obtain ⟨x, hx, hp1, hp2⟩ := PP.out p (by simp)
          obtain ⟨p1, p2, z⟩ := p
          simp only at hp1 hp2
          subst hp1
          subst hp2
          obtain ⟨n', hn'⟩ : ∃ n', (((x : Int), (x : Int), z) :: l').length = n' := ⟨_, rfl⟩
          rw [hn'] at e hcap
          subst e
          have HN := Aside0.mk hn'
          have hn0 : 0 < n' := by rw [← hn']; simp
          have hn0z : (0 : Int) < (n' : Int) := by omega
          have hC := (Kd.Q_reads' QQ.out).2.2
          obtain ⟨ad, e0, hc0⟩ := arr_get hC rfl (i := 0) (by simp)
          subst e0
          have q0 : wr.cell? ad = some (.int .i64 (x : Int)) := hc0 0 _ rfl
          have q1 : wr.cell? ⟨ad.block, ad.off + 1, none⟩ = some (.int .i64 (x : Int)) := by have := hc0 1 _ rfl; rwa [show 0 * 3 + 1 = 1 from rfl, add_pos _ (by omega)] at this
          have q2 : wr.cell? ⟨ad.block, ad.off + 2, none⟩ = some (.int .i64 z) := by have := hc0 2 _ rfl; rwa [show 0 * 3 + 2 = 2 from rfl, add_pos _ (by omega)] at this
          clear hc0 hC hn'
          go_wp2_with (fail)
          obtain ⟨W1, hW1⟩ : ∃ W1, W1 = wr.alloc (.cells #[.int .i64 (x : Int), .int .i64 (x : Int), .int .i64 z] 152) := ⟨_, rfl⟩
          have hb1 : Below wr.heap.size wr W1 := by rw [hW1]; exact below_alloc (Below.refl _ _) _
          have P1 := Aside0.mk (show W1.heap[wr.heap.size]? = some (.cells #[.int .i64 (x : Int), .int .i64 (x : Int), .int .i64 z] 152 (0, 0)) from by rw [hW1]; exact blk_new wr _)
          have D1 := Aside0.mk (DD.out.below' hb1 (blk_lt DD.out.y))
          have B1 := Aside0.mk (below_step BB.out hb1)
          have M1 := Aside0.mk (MM.out.below hb1)
          have Q1 := Aside0.mk (Kd.Q_mono (ok' := fun k => k ≠ wr.heap.size) (Kd.Q_below (Kd.Q_bound QQ.out) hb1) (fun k hk => by have := hk.2.2.1; omega))
          rw [← hW1]
          have ZPB := Aside0.mk (show bm < wr.heap.size from MM.out.lt)
          clear hW1 hb1 q0 q1 q2 DD BB MM QQ
          generalize wr.heap.size = pb at P1 Q1 ZPB ⊢
          have hxc : x < cd.length := by rw [HOK.out.len]; exact hx
          obtain ⟨ac, e0, hcv⟩ := int_get (Kd.C_below HR2.out B1.out) rfl hxc
          subst e0
          generalize cd[x] = cv at hcv
          have hcc : (cv != cv) = false := by simp
          have hxcz : (x : Int) < (cd.length : Int) := by omega
          have HMS := Aside0.mk (show (fun W' => W'.cell? ⟨w.heap.size, 2, none⟩ = some (.slice (some ac) cd.length c2) ∧ W'.cell? ⟨w.heap.size + 1, 2, none⟩ = some (.slice (some ac) cd.length c2) ∧ W'.cell? ⟨pb, 0, none⟩ = some (.int .i64 (x : Int)) ∧ W'.cell? ⟨pb, 1, none⟩ = some (.int .i64 (x : Int)) ∧ W'.cell? (ac.add x) = some (.int .i64 cv)) W1 from ⟨(blk_cell D1.out.x 2).trans rfl, (blk_cell D1.out.y 2).trans rfl, (blk_cell P1.out 0).trans rfl, (blk_cell P1.out 1).trans rfl, hcv⟩)
          clear hcv
          refine wp_region_held_drew (S := (fun W' => W'.cell? ⟨w.heap.size, 2, none⟩ = some (.slice (some ac) cd.length c2) ∧ W'.cell? ⟨w.heap.size + 1, 2, none⟩ = some (.slice (some ac) cd.length c2) ∧ W'.cell? ⟨pb, 0, none⟩ = some (.int .i64 (x : Int)) ∧ W'.cell? ⟨pb, 1, none⟩ = some (.int .i64 (x : Int)) ∧ W'.cell? (ac.add x) = some (.int .i64 cv))) (by kernel_rfl) ?_ (fun hHeld => ?_)
          · (try dsimp only); exact HMS.out
          refine wpAnyH_take (i := 0) (v := ?_) rfl (by kernel_rfl) (by kernel_rfl) (by kernel_rfl) (fun _ _ _ h => h) (Or.inl ⟨by kernel_rfl, ?_⟩) (by assumption) ?_
          rotate_left 1
          · intro w hSw; (try dsimp only at hSw); go_simp; (try with_reducible rfl)
          (try simp only [Act.put, List.getElem_toArray, List.getElem_cons_zero, List.getElem_cons_succ, List.setIfInBounds_toArray, List.set_cons_zero, List.set_cons_succ])
          refine wpAnyH_take (i := 1) (v := ?_) rfl (by kernel_rfl) (by kernel_rfl) (by kernel_rfl) (fun _ _ _ h => h) (Or.inl ⟨by kernel_rfl, ?_⟩) (by assumption) ?_
          rotate_left 1
          · intro w hSw; (try dsimp only at hSw); go_simp; (try with_reducible rfl)
          (try simp only [Act.put, List.getElem_toArray, List.getElem_cons_zero, List.getElem_cons_succ, List.setIfInBounds_toArray, List.set_cons_zero, List.set_cons_succ])
          refine wpAnyH_take (i := 2) (v := ?_) rfl (by kernel_rfl) (by kernel_rfl) (by kernel_rfl) (fun _ _ _ h => h) (Or.inl ⟨by kernel_rfl, ?_⟩) (by assumption) ?_
          rotate_left 1
          · intro w hSw; (try dsimp only at hSw); go_simp; (try with_reducible rfl)
          (try simp only [Act.put, List.getElem_toArray, List.getElem_cons_zero, List.getElem_cons_succ, List.setIfInBounds_toArray, List.set_cons_zero, List.set_cons_succ])
          refine wpAnyH_take (i := 3) (v := ?_) rfl (by kernel_rfl) (by kernel_rfl) (by kernel_rfl) (fun _ _ _ h => h) (Or.inl ⟨by kernel_rfl, ?_⟩) (by assumption) ?_
          rotate_left 1
          · intro w hSw; (try dsimp only at hSw); go_simp; (try with_reducible rfl)
          (try simp only [Act.put, List.getElem_toArray, List.getElem_cons_zero, List.getElem_cons_succ, List.setIfInBounds_toArray, List.set_cons_zero, List.set_cons_succ])
          refine wpAnyH_take (i := 4) (v := ?_) rfl (by kernel_rfl) (by kernel_rfl) (by kernel_rfl) (fun _ _ _ h => h) (Or.inl ⟨by kernel_rfl, ?_⟩) (by assumption) ?_
          rotate_left 1
          · intro w hSw; (try dsimp only at hSw); go_simp; (try with_reducible rfl)
          (try simp only [Act.put, List.getElem_toArray, List.getElem_cons_zero, List.getElem_cons_succ, List.setIfInBounds_toArray, List.set_cons_zero, List.set_cons_succ])
          refine wpAnyH_take (i := 5) (v := ?_) rfl (by kernel_rfl) (by kernel_rfl) (by kernel_rfl) (fun _ _ _ h => h) (Or.inl ⟨by kernel_rfl, ?_⟩) (by assumption) ?_
          rotate_left 1
          · intro w hSw; (try dsimp only at hSw); go_simp; (try with_reducible rfl)
          (try simp only [Act.put, List.getElem_toArray, List.getElem_cons_zero, List.getElem_cons_succ, List.setIfInBounds_toArray, List.set_cons_zero, List.set_cons_succ])
          refine wpAnyH_take (i := 6) (v := ?_) rfl (by kernel_rfl) (by kernel_rfl) (by kernel_rfl) (fun _ _ _ h => h) (Or.inl ⟨by kernel_rfl, ?_⟩) (by assumption) ?_
          rotate_left 1
          · intro w hSw; (try dsimp only at hSw); go_simp; (try with_reducible rfl)
          (try simp only [Act.put, List.getElem_toArray, List.getElem_cons_zero, List.getElem_cons_succ, List.setIfInBounds_toArray, List.set_cons_zero, List.set_cons_succ])
          refine wpAnyH_take (i := 7) (v := ?_) rfl (by kernel_rfl) (by kernel_rfl) (by kernel_rfl) (fun _ _ _ h => h) (Or.inl ⟨by kernel_rfl, ?_⟩) (by assumption) ?_
          rotate_left 1
          · intro w hSw; (try dsimp only at hSw); go_simp; (try with_reducible rfl)
          (try simp only [Act.put, List.getElem_toArray, List.getElem_cons_zero, List.getElem_cons_succ, List.setIfInBounds_toArray, List.set_cons_zero, List.set_cons_succ])
          refine wpAnyH_take (i := 8) (v := ?_) rfl (by kernel_rfl) (by kernel_rfl) (by kernel_rfl) (fun _ _ _ h => h) (Or.inl ⟨by kernel_rfl, ?_⟩) (by assumption) ?_
          rotate_left 1
          · intro w hSw; (try dsimp only at hSw); go_simp; (try with_reducible rfl)
          (try simp only [Act.put, List.getElem_toArray, List.getElem_cons_zero, List.getElem_cons_succ, List.setIfInBounds_toArray, List.set_cons_zero, List.set_cons_succ])
          refine wpAnyH_take (i := 9) (v := ?_) rfl (by kernel_rfl) (by kernel_rfl) (by kernel_rfl) (fun _ _ _ h => h) (Or.inl ⟨by kernel_rfl, ?_⟩) (by assumption) ?_
          rotate_left 1
          · intro w hSw; (try dsimp only at hSw); go_simp; (try with_reducible rfl)
          (try simp only [Act.put, List.getElem_toArray, List.getElem_cons_zero, List.getElem_cons_succ, List.setIfInBounds_toArray, List.set_cons_zero, List.set_cons_succ])
          refine wpAnyH_take (i := 10) (v := ?_) rfl (by kernel_rfl) (by kernel_rfl) (by kernel_rfl) (fun _ _ _ h => h) (Or.inl ⟨by kernel_rfl, ?_⟩) (by assumption) ?_
          rotate_left 1
          · intro w hSw; (try dsimp only at hSw); go_simp; (try with_reducible rfl)
          (try simp only [Act.put, List.getElem_toArray, List.getElem_cons_zero, List.getElem_cons_succ, List.setIfInBounds_toArray, List.set_cons_zero, List.set_cons_succ])
          refine wpAnyH_take (i := 11) (v := ?_) rfl (by kernel_rfl) (by kernel_rfl) (by kernel_rfl) (fun _ _ _ h => h) (Or.inl ⟨by kernel_rfl, ?_⟩) (by assumption) ?_
          rotate_left 1
          · intro w hSw; (try dsimp only at hSw); go_simp; (try with_reducible rfl)
          (try simp only [Act.put, List.getElem_toArray, List.getElem_cons_zero, List.getElem_cons_succ, List.setIfInBounds_toArray, List.set_cons_zero, List.set_cons_succ])
          refine wpAnyH_take (i := 12) (v := ?_) rfl (by kernel_rfl) (by kernel_rfl) (by kernel_rfl) (fun _ _ _ h => h) (Or.inl ⟨by kernel_rfl, ?_⟩) (by assumption) ?_
          rotate_left 1
          · intro w hSw; (try dsimp only at hSw); go_simp; (try with_reducible rfl)
          (try simp only [Act.put, List.getElem_toArray, List.getElem_cons_zero, List.getElem_cons_succ, List.setIfInBounds_toArray, List.set_cons_zero, List.set_cons_succ])
          refine wpAnyH_done (by kernel_rfl) ?_ _
          have kb0 : W1.cell? ⟨w.heap.size, 0, none⟩ = some (.int .i64 (b : Int)) := (blk_cell D1.out.x 0).trans rfl
          go_wp2_with (fail)
          clear HMS kb0 hcc hxcz hxc
          have P5 := Aside0.mk (show W1.drew.heap[pb]? = some (.cells #[.int .i64 (x : Int), .int .i64 (x : Int), .int .i64 z] 152 (0, 0)) from P1.out)
          have D5 := Aside0.mk (D1.out.keep (W' := W1.drew) rfl rfl)
          have B5 := Aside0.mk (below_drew1 B1.out)
          have M5 := Aside0.mk (M1.out.keep (W' := W1.drew) rfl)
          have Q5 := Aside0.mk (Kd.Q_drew Q1.out)
          clear P1 D1 B1 M1 Q1
          generalize W1.drew = W5 at P5 D5 B5 M5 Q5 ⊢
          go_loopg [11, 65] b (fun gg s11 s65 wr => ∃ (l3 : List (Int × Int × Int)) (s2 : List Nat) (d : Nat), d ≤ b ∧ b - d ≤ gg ∧ s65 = .int .i64 (d : Int) ∧ Aside0 (2 * (im.length - s2.length) + l3.length + 1 ≤ 2 * (im.length - sx.length) + n') ∧ l3.length + 1 ≤ s2.length ∧ Aside0 (Kd.Q kAr 152 wr (bm + 1) (fun k => k ≠ pb) s11 (((x : Int), (x : Int), z) :: l3)) ∧ Aside0 (MapK E wr bm (ones (s2.map dg))) ∧ Aside0 (s2.Nodup ∧ ∀ x ∈ s2, x < im.length) ∧ Aside0 (∀ p ∈ l3, ∃ x : Nat, x < im.length ∧ p.1 = (x : Int) ∧ p.2.1 = (x : Int)) ∧ Aside0 (wr.heap[pb]? = some (.cells #[.int .i64 (x : Int), .int .i64 (x : Int), .int .i64 z] 152 (0, 0))) ∧ Aside0 (DfB wr w.heap.size b A1 im.length c1 (some ac) cd.length c2) ∧ Aside0 (Below w.heap.size w wr))
          case atStart => exact ⟨l', sx, 0, Nat.zero_le _, by omega, rfl, ⟨by have := HN.out; simp only [List.length_cons] at this; omega⟩, by have := HN.out; simp only [List.length_cons] at this hls; omega, Q5, M5, SS, ⟨fun p hp => PP.out p (List.mem_cons_of_mem _ hp)⟩, P5, D5, B5⟩
          case round =>
            clear Q5 M5 P5 D5 B5 PP
            obtain ⟨l3, s2, d, hd, hgd, rfl, HME, hl3, QQ, MM, S2, P2, PB, DD, BB⟩ := hrel
            have hs2 : s2.length ≤ im.length := by
              have := nodup_len (X := List.range im.length) S2.out.1 (fun x hx => List.mem_range.2 (S2.out.2 x hx))
              simpa using this
            obtain ⟨A', c', e', hcap'⟩ := Kd.Q_slice QQ.out
            obtain ⟨n2, hn2⟩ : ∃ n2, (((x : Int), (x : Int), z) :: l3).length = n2 := ⟨_, rfl⟩
            rw [hn2] at e' hcap'
            subst e'
            have HN2 := Aside0.mk hn2
            have hn20 : 0 < n2 := by rw [← hn2]; simp
            clear hn2
            by_cases hltd : d < b
            · have hltdz : (d : Int) < (b : Int) := by omega
              have hd0 : (0 : Int) ≤ (d : Int) := by omega
              have hxz : (x : Int) < (im.length : Int) := by omega
              obtain ⟨ai, Ar, cr, e0, hcr, hrow, hcell⟩ := row_get (Kd.C_below HR1.out BB.out) rfl hx
              subst e0
              have hir := im_row HOK.out hx
              have hg : im.getD x [] = im[x] := by rw [List.getD_eq_getElem?_getD, List.getElem?_eq_getElem hx]; rfl
              have hv := im_val HOK.out hx hltd
              rw [hg] at hir hv
              rw [hir.2] at hcell hrow
              obtain ⟨ar, e0, hyc⟩ := int_get hrow hir.2.symm (i := d) (by rw [hir.2]; exact hltd)
              subst e0
              have hyv : im[x][d]'(by rw [hir.2]; exact hltd) = (imN im x d : Int) := by
                rw [← hv.1, List.getD_eq_getElem?_getD, List.getElem?_eq_getElem (by rw [hir.2]; exact hltd)]
                rfl
              rw [hyv] at hyc
              have HYL := Aside0.mk hv.2
              clear hv hyv hir hg hrow hcr
              generalize imN im x d = y at hyc HYL
              have HMS := Aside0.mk (show (fun W' => W'.cell? ⟨w.heap.size, 1, none⟩ = some (.slice (some ai) im.length c1) ∧ W'.cell? ⟨w.heap.size + 1, 1, none⟩ = some (.slice (some ai) im.length c1) ∧ W'.cell? ⟨pb, 0, none⟩ = some (.int .i64 (x : Int)) ∧ W'.cell? ⟨pb, 1, none⟩ = some (.int .i64 (x : Int)) ∧ W'.cell? (ai.add x) = some (.slice (some ar) b cr) ∧ W'.cell? (ar.add d) = some (.int .i64 (y : Int))) wr from ⟨(blk_cell DD.out.x 1).trans rfl, (blk_cell DD.out.y 1).trans rfl, (blk_cell PB.out 0).trans rfl, (blk_cell PB.out 1).trans rfl, hcell, hyc⟩)
              clear hcell hyc
              go_wp2_with (fail)
              refine wp_region_held_drew (S := (fun W' => W'.cell? ⟨w.heap.size, 1, none⟩ = some (.slice (some ai) im.length c1) ∧ W'.cell? ⟨w.heap.size + 1, 1, none⟩ = some (.slice (some ai) im.length c1) ∧ W'.cell? ⟨pb, 0, none⟩ = some (.int .i64 (x : Int)) ∧ W'.cell? ⟨pb, 1, none⟩ = some (.int .i64 (x : Int)) ∧ W'.cell? (ai.add x) = some (.slice (some ar) b cr) ∧ W'.cell? (ar.add d) = some (.int .i64 (y : Int)))) (by kernel_rfl) ?_ (fun hHeld => ?_)
              · (try dsimp only); exact HMS.out
              refine wpAnyH_take (i := 0) (v := ?_) rfl (by kernel_rfl) (by kernel_rfl) (by kernel_rfl) (fun _ _ _ h => h) (Or.inl ⟨by kernel_rfl, ?_⟩) (by assumption) ?_
              rotate_left 1
              · intro w hSw; (try dsimp only at hSw); go_simp; (try with_reducible rfl)
              (try simp only [Act.put, List.getElem_toArray, List.getElem_cons_zero, List.getElem_cons_succ, List.setIfInBounds_toArray, List.set_cons_zero, List.set_cons_succ])
              refine wpAnyH_take (i := 1) (v := ?_) rfl (by kernel_rfl) (by kernel_rfl) (by kernel_rfl) (fun _ _ _ h => h) (Or.inl ⟨by kernel_rfl, ?_⟩) (by assumption) ?_
              rotate_left 1
              · intro w hSw; (try dsimp only at hSw); go_simp; (try with_reducible rfl)
              (try simp only [Act.put, List.getElem_toArray, List.getElem_cons_zero, List.getElem_cons_succ, List.setIfInBounds_toArray, List.set_cons_zero, List.set_cons_succ])
              refine wpAnyH_take (i := 2) (v := ?_) rfl (by kernel_rfl) (by kernel_rfl) (by kernel_rfl) (fun _ _ _ h => h) (Or.inl ⟨by kernel_rfl, ?_⟩) (by assumption) ?_
              rotate_left 1
              · intro w hSw; (try dsimp only at hSw); go_simp; (try with_reducible rfl)
              (try simp only [Act.put, List.getElem_toArray, List.getElem_cons_zero, List.getElem_cons_succ, List.setIfInBounds_toArray, List.set_cons_zero, List.set_cons_succ])
              refine wpAnyH_take (i := 3) (v := ?_) rfl (by kernel_rfl) (by kernel_rfl) (by kernel_rfl) (fun _ _ _ h => h) (Or.inl ⟨by kernel_rfl, ?_⟩) (by assumption) ?_
              rotate_left 1
              · intro w hSw; (try dsimp only at hSw); go_simp; (try with_reducible rfl)
              (try simp only [Act.put, List.getElem_toArray, List.getElem_cons_zero, List.getElem_cons_succ, List.setIfInBounds_toArray, List.set_cons_zero, List.set_cons_succ])
              refine wpAnyH_take (i := 4) (v := ?_) rfl (by kernel_rfl) (by kernel_rfl) (by kernel_rfl) (fun _ _ _ h => h) (Or.inl ⟨by kernel_rfl, ?_⟩) (by assumption) ?_
              rotate_left 1
              · intro w hSw; (try dsimp only at hSw); go_simp; (try with_reducible rfl)
              (try simp only [Act.put, List.getElem_toArray, List.getElem_cons_zero, List.getElem_cons_succ, List.setIfInBounds_toArray, List.set_cons_zero, List.set_cons_succ])
              refine wpAnyH_take (i := 5) (v := ?_) rfl (by kernel_rfl) (by kernel_rfl) (by kernel_rfl) (fun _ _ _ h => h) (Or.inl ⟨by kernel_rfl, ?_⟩) (by assumption) ?_
              rotate_left 1
              · intro w hSw; (try dsimp only at hSw); go_simp; (try with_reducible rfl)
              (try simp only [Act.put, List.getElem_toArray, List.getElem_cons_zero, List.getElem_cons_succ, List.setIfInBounds_toArray, List.set_cons_zero, List.set_cons_succ])
              refine wpAnyH_take (i := 6) (v := ?_) rfl (by kernel_rfl) (by kernel_rfl) (by kernel_rfl) (fun _ _ _ h => h) (Or.inl ⟨by kernel_rfl, ?_⟩) (by assumption) ?_
              rotate_left 1
              · intro w hSw; (try dsimp only at hSw); go_simp; (try with_reducible rfl)
              (try simp only [Act.put, List.getElem_toArray, List.getElem_cons_zero, List.getElem_cons_succ, List.setIfInBounds_toArray, List.set_cons_zero, List.set_cons_succ])
              refine wpAnyH_take (i := 7) (v := ?_) rfl (by kernel_rfl) (by kernel_rfl) (by kernel_rfl) (fun _ _ _ h => h) (Or.inl ⟨by kernel_rfl, ?_⟩) (by assumption) ?_
              rotate_left 1
              · intro w hSw; (try dsimp only at hSw); go_simp; (try with_reducible rfl)
              (try simp only [Act.put, List.getElem_toArray, List.getElem_cons_zero, List.getElem_cons_succ, List.setIfInBounds_toArray, List.set_cons_zero, List.set_cons_succ])
              refine wpAnyH_take (i := 8) (v := ?_) rfl (by kernel_rfl) (by kernel_rfl) (by kernel_rfl) (fun _ _ _ h => h) (Or.inl ⟨by kernel_rfl, ?_⟩) (by assumption) ?_
              rotate_left 1
              · intro w hSw; (try dsimp only at hSw); go_simp; (try with_reducible rfl)
              (try simp only [Act.put, List.getElem_toArray, List.getElem_cons_zero, List.getElem_cons_succ, List.setIfInBounds_toArray, List.set_cons_zero, List.set_cons_succ])
              refine wpAnyH_take (i := 9) (v := ?_) rfl (by kernel_rfl) (by kernel_rfl) (by kernel_rfl) (fun _ _ _ h => h) (Or.inl ⟨by kernel_rfl, ?_⟩) (by assumption) ?_
              rotate_left 1
              · intro w hSw; (try dsimp only at hSw); go_simp; (try with_reducible rfl)
              (try simp only [Act.put, List.getElem_toArray, List.getElem_cons_zero, List.getElem_cons_succ, List.setIfInBounds_toArray, List.set_cons_zero, List.set_cons_succ])
              refine wpAnyH_take (i := 10) (v := ?_) rfl (by kernel_rfl) (by kernel_rfl) (by kernel_rfl) (fun _ _ _ h => h) (Or.inl ⟨by kernel_rfl, ?_⟩) (by assumption) ?_
              rotate_left 1
              · intro w hSw; (try dsimp only at hSw); go_simp; (try with_reducible rfl)
              (try simp only [Act.put, List.getElem_toArray, List.getElem_cons_zero, List.getElem_cons_succ, List.setIfInBounds_toArray, List.set_cons_zero, List.set_cons_succ])
              refine wpAnyH_take (i := 11) (v := ?_) rfl (by kernel_rfl) (by kernel_rfl) (by kernel_rfl) (fun _ _ _ h => h) (Or.inl ⟨by kernel_rfl, ?_⟩) (by assumption) ?_
              rotate_left 1
              · intro w hSw; (try dsimp only at hSw); go_simp; (try with_reducible rfl)
              (try simp only [Act.put, List.getElem_toArray, List.getElem_cons_zero, List.getElem_cons_succ, List.setIfInBounds_toArray, List.set_cons_zero, List.set_cons_succ])
              refine wpAnyH_take (i := 12) (v := ?_) rfl (by kernel_rfl) (by kernel_rfl) (by kernel_rfl) (fun _ _ _ h => h) (Or.inl ⟨by kernel_rfl, ?_⟩) (by assumption) ?_
              rotate_left 1
              · intro w hSw; (try dsimp only at hSw); go_simp; (try with_reducible rfl)
              (try simp only [Act.put, List.getElem_toArray, List.getElem_cons_zero, List.getElem_cons_succ, List.setIfInBounds_toArray, List.set_cons_zero, List.set_cons_succ])
              refine wpAnyH_take (i := 13) (v := ?_) rfl (by kernel_rfl) (by kernel_rfl) (by kernel_rfl) (fun _ _ _ h => h) (Or.inl ⟨by kernel_rfl, ?_⟩) (by assumption) ?_
              rotate_left 1
              · intro w hSw; (try dsimp only at hSw); go_simp; (try with_reducible rfl)
              (try simp only [Act.put, List.getElem_toArray, List.getElem_cons_zero, List.getElem_cons_succ, List.setIfInBounds_toArray, List.set_cons_zero, List.set_cons_succ])
              refine wpAnyH_take (i := 14) (v := ?_) rfl (by kernel_rfl) (by kernel_rfl) (by kernel_rfl) (fun _ _ _ h => h) (Or.inl ⟨by kernel_rfl, ?_⟩) (by assumption) ?_
              rotate_left 1
              · intro w hSw; (try dsimp only at hSw); go_simp; (try with_reducible rfl)
              (try simp only [Act.put, List.getElem_toArray, List.getElem_cons_zero, List.getElem_cons_succ, List.setIfInBounds_toArray, List.set_cons_zero, List.set_cons_succ])
              refine wpAnyH_take (i := 15) (v := ?_) rfl (by kernel_rfl) (by kernel_rfl) (by kernel_rfl) (fun _ _ _ h => h) (Or.inl ⟨by kernel_rfl, ?_⟩) (by assumption) ?_
              rotate_left 1
              · intro w hSw; (try dsimp only at hSw); go_simp; (try with_reducible rfl)
              (try simp only [Act.put, List.getElem_toArray, List.getElem_cons_zero, List.getElem_cons_succ, List.setIfInBounds_toArray, List.set_cons_zero, List.set_cons_succ])
              refine wpAnyH_take (i := 16) (v := ?_) rfl (by kernel_rfl) (by kernel_rfl) (by kernel_rfl) (fun _ _ _ h => h) (Or.inl ⟨by kernel_rfl, ?_⟩) (by assumption) ?_
              rotate_left 1
              · intro w hSw; (try dsimp only at hSw); go_simp; (try with_reducible rfl)
              (try simp only [Act.put, List.getElem_toArray, List.getElem_cons_zero, List.getElem_cons_succ, List.setIfInBounds_toArray, List.set_cons_zero, List.set_cons_succ])
              refine wpAnyH_take (i := 17) (v := ?_) rfl (by kernel_rfl) (by kernel_rfl) (by kernel_rfl) (fun _ _ _ h => h) (Or.inl ⟨by kernel_rfl, ?_⟩) (by assumption) ?_
              rotate_left 1
              · intro w hSw; (try dsimp only at hSw); go_simp; (try with_reducible rfl)
              (try simp only [Act.put, List.getElem_toArray, List.getElem_cons_zero, List.getElem_cons_succ, List.setIfInBounds_toArray, List.set_cons_zero, List.set_cons_succ])
              refine wpAnyH_take (i := 18) (v := ?_) rfl (by kernel_rfl) (by kernel_rfl) (by kernel_rfl) (fun _ _ _ h => h) (Or.inl ⟨by kernel_rfl, ?_⟩) (by assumption) ?_
              rotate_left 1
              · intro w hSw; (try dsimp only at hSw); go_simp; (try with_reducible rfl)
              (try simp only [Act.put, List.getElem_toArray, List.getElem_cons_zero, List.getElem_cons_succ, List.setIfInBounds_toArray, List.set_cons_zero, List.set_cons_succ])
              refine wpAnyH_take (i := 19) (v := ?_) rfl (by kernel_rfl) (by kernel_rfl) (by kernel_rfl) (fun _ _ _ h => h) (Or.inl ⟨by kernel_rfl, ?_⟩) (by assumption) ?_
              rotate_left 1
              · intro w hSw; (try dsimp only at hSw); go_simp; (try with_reducible rfl)
              (try simp only [Act.put, List.getElem_toArray, List.getElem_cons_zero, List.getElem_cons_succ, List.setIfInBounds_toArray, List.set_cons_zero, List.set_cons_succ])
              refine wpAnyH_done (by kernel_rfl) ?_ _
              clear HMS
              have PB5 := Aside0.mk (show wr.drew.heap[pb]? = some (.cells #[.int .i64 (x : Int), .int .i64 (x : Int), .int .i64 z] 152 (0, 0)) from PB.out)
              have D5 := Aside0.mk (DD.out.keep (W' := wr.drew) rfl rfl)
              have B5 := Aside0.mk (below_drew1 BB.out)
              have M5 := Aside0.mk (MM.out.keep (W' := wr.drew) rfl)
              have Q5 := Aside0.mk (Kd.Q_drew QQ.out)
              clear PB DD BB MM QQ
              generalize wr.drew = W5 at PB5 D5 B5 M5 Q5 ⊢
              have hoky : E.ok (dg y) := by rw [E2.out]; have := HYL.out; exact ⟨⟨by show -9223372036854775808 ≤ (y : Int); omega, by show (y : Int) ≤ _; omega⟩, ⟨by show -9223372036854775808 ≤ (y : Int); omega, by show (y : Int) ≤ _; omega⟩⟩
              have HOKY := Aside0.mk hoky
              have hlk := M5.out.look (dg y) hoky Try.underlying150 (zero3 W5) false
              rw [lk_ones (dg_nodup S2.out.1), E1.out] at hlk
              simp only [Bool.false_eq_true, if_false] at hlk
              clear hoky
              by_cases hm : y ∈ s2
              · rw [if_pos (List.mem_map.2 ⟨y, hm, rfl⟩)] at hlk
                have hlk' : (Instr.lookup 150 (.map (some bm)) (.agg #[.int .i64 (y : Int), .int .i64 (y : Int)]) false).run Try.prog W5 = .ok (.int .i64 1) W5 := hlk
                clear hlk
                go_wp2_with (fail)
                go_roundg (b - (d + 1))
                case measure => omega
                case rel => exact ⟨l3, s2, d + 1, by omega, by omega, by go_num, HME, hl3, Q5, M5, S2, P2, PB5, D5, B5⟩
              · have hni : dg y ∉ s2.map dg := fun h => by
                  obtain ⟨y', hy', e⟩ := List.mem_map.1 h
                  exact hm (dg_inj e ▸ hy')
                rw [if_neg hni] at hlk
                have hlk' : (Instr.lookup 150 (.map (some bm)) (.agg #[.int .i64 (y : Int), .int .i64 (y : Int)]) false).run Try.prog W5 = .ok (.int .i64 0) W5 := hlk
                have HNI := Aside0.mk hni
                have HNM := Aside0.mk hm
                clear hlk hni hm
                obtain ⟨z1, hz1⟩ : ∃ z1, IntKind.i64.wrap (z * (b : Int)) = z1 := ⟨_, rfl⟩
                obtain ⟨z2, hz2⟩ : ∃ z2, IntKind.i64.wrap (z1 + (d : Int)) = z2 := ⟨_, rfl⟩
                go_wp2_with (first
                  | (refine wpList_upd E _ rfl _ _ _ 150 rfl Try.underlying150 bm (ones (s2.map dg)) (dg y) (.int .i64 1) (by rfl) (by rw [E1.out]; rfl) (by rfl) M5.out HOKY.out ?_
                     intro w6 hM6 hT6
                     rw [put_ones (dg_nodup S2.out.1) HNI.out, show s2.map dg ++ [dg y] = (s2 ++ [y]).map dg from by simp] at hM6
                     have M6 := Aside0.mk hM6
                     have Q6 := Aside0.mk (Kd.Q_mono (ok' := fun k => k ≠ pb) (Kd.Q_step (Kd.Q_bound Q5.out) (fun k ho _ => hT6.block k (by have := ho.2.1; omega))) (fun k hk => hk.1))
                     have PB6 := Aside0.mk ((hT6.block pb (by have := ZPB.out; omega)).trans PB5.out)
                     have D6 := Aside0.mk (D5.out.keep (hT6.block _ (by have := ZBM.out; omega)) (hT6.block _ (by have := ZBM.out; omega)))
                     have B6 := Aside0.mk (hT6.below B5.out (by have := ZBM.out; omega))
                     have k6 : w6.cell? ⟨pb, 2, none⟩ = some (.int .i64 z) := (blk_cell PB6.out 2).trans rfl
                     have kb6 : w6.cell? ⟨w.heap.size, 0, none⟩ = some (.int .i64 (b : Int)) := (blk_cell D6.out.x 0).trans rfl
                     clear hM6 hT6 hlk')
                  | ((with_reducible refine gate_dst (N := 108) rfl ?_)
                     refine Kd.Q_append kAr (w0 := w6) (bm + 1) rfl _ _ 153 152 (.agg #[.int .i64 0, .int .i64 0, .int .i64 0]) 24 rfl Try.underlying153 info_pl rfl (by decide) (by decide) (.slice A' n2 c') (((x : Int), (x : Int), z) :: l3) ((y : Int), (y : Int), z2) [.int .i64 (y : Int), .int .i64 (y : Int), .int .i64 z2] (fun k => k ≠ pb) (fun _ => False) rfl rfl rfl (fun _ h => h.elim) (fun k hk => by have := blk_lt PB6.out; omega) Q6.out (Below.refl _ _) M6.out.lt (by rw [HN2.out]; have := HN2.out; simp only [List.length_cons] at this; omega) ?_
                     intro v7 w7 h7 hb7 hg7 _
                     have Q7 := Aside0.mk h7
                     have M7 := Aside0.mk (M6.out.keep (hb7.block _ (Nat.lt_succ_self _)))
                     have PB7 := Aside0.mk ((hg7.block pb (blk_lt PB6.out) (fun e => Q6.out.1 pb e.symm rfl)).trans PB6.out)
                     have D7 := Aside0.mk (D6.out.below' hb7 (by have := ZBM.out; omega))
                     have B7 := Aside0.mk (below_weaken B6.out (by have := ZBM.out; omega) hb7)
                     clear h7 hb7 hg7 k6 kb6)
                  | fail)
                go_roundg (b - (d + 1))
                case measure => omega
                case rel => exact ⟨l3 ++ [((y : Int), (y : Int), z2)], s2 ++ [y], d + 1, by omega, by omega, by go_num, ⟨by
                    have h1 := HME.out
                    have h2 : (s2 ++ [y]).length ≤ im.length := by
                      have := nodup_len (X := List.range im.length) (M := s2 ++ [y]) (by rw [List.nodup_append]; exact ⟨S2.out.1, by simp, fun a ha b' hb e => HNM.out (by simp only [List.mem_singleton] at hb; rw [← hb, ← e]; exact ha)⟩) (fun x hx => by
                        rcases List.mem_append.1 hx with h | h
                        · exact List.mem_range.2 (S2.out.2 x h)
                        · simp only [List.mem_singleton] at h; subst h; exact List.mem_range.2 HYL.out)
                      simpa using this
                    simp only [List.length_append, List.length_cons, List.length_nil] at h2 ⊢
                    omega⟩, by simp only [List.length_append, List.length_cons, List.length_nil]; omega, Q7, M7, ⟨by rw [List.nodup_append]; exact ⟨S2.out.1, by simp, fun a ha b' hb e => HNM.out (by simp only [List.mem_singleton] at hb; rw [← hb, ← e]; exact ha)⟩, fun x hx => by
                        rcases List.mem_append.1 hx with h | h
                        · exact S2.out.2 x h
                        · simp only [List.mem_singleton] at h; subst h; exact HYL.out⟩, ⟨fun p hp => by
                        rcases List.mem_append.1 hp with h | h
                        · exact P2.out p h
                        · simp only [List.mem_singleton] at h; subst h; exact ⟨y, HYL.out, rfl, rfl⟩⟩, PB7, D7, B7⟩
            · have hde : d = b := by omega
              obtain ⟨A9, hcut, hQ⟩ := cut_pl A' c' n2 hn20 hcap'
              have Q9 := Aside0.mk (hQ _ _ _ _ _ QQ.out)
              clear hQ
              go_wp2_with (fail)
              go_roundg (2 * (im.length - s2.length) + l3.length)
              case measure => have := HME.out; have := HN.out; simp only [List.length_cons] at this hgg; omega
              case rel => exact ⟨l3, s2, Nat.le_refl _, by omega, ⟨Kd.Q_mono Q9.out (fun _ _ => trivial)⟩, MM, S2, P2, DD, BB⟩
end Go.Proofs.Ytampgoendkjkhaa.H
