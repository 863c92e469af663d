/- The walk of RewriteOnce, and what its row asks of its reading. -/
import Derived.Test.YtampgoendkjkhaaRv
import Derived.Test.YtampgoendkjkhaaOpen
import Derived.Test.YtampgoendkjkhaaRows
namespace Go.Proofs.Ytampgoendkjkhaa.H
open Go.RowKit Go.Shelf Go.Proofs.YtampgoendkjkhaaW.PrintWords Go.Proofs.YtampgoendkjkhaaW.PrintMore Go.Proofs.Ytampgoendkjkhaa.LyM
set_option linter.unusedVariables false
set_option linter.unusedSimpArgs false
theorem nc_nrm {L : Int} {l : List Rul} {x y : List Int} (h : nCode L l x = 0) (hn : Nrm l x y) : nCode L l y = 0 := by
  obtain ⟨h1, h2, h3⟩ := nCode_ok h
  obtain ⟨n, rfl, H⟩ := swOk_of h1
  exact nCode_of h1 (Nat.le_trans (hn.1.len H) h2) (hn.1.lets H h3)
theorem nc_left {L : Int} {l : List Rul} {u v : List Int} (h : nCode L l (u ++ v) = 0) : nCode L l u = 0 := by
  obtain ⟨h1, h2, h3⟩ := nCode_ok h
  exact nCode_of h1 (by rw [List.length_append] at h2; omega) (fun y hy => h3 y (List.mem_append.2 (.inl hy)))
theorem nc_right {L : Int} {l : List Rul} {u v : List Int} (h : nCode L l (u ++ v) = 0) : nCode L l v = 0 := by
  obtain ⟨h1, h2, h3⟩ := nCode_ok h
  exact nCode_of h1 (by rw [List.length_append] at h2; omega) (fun y hy => h3 y (List.mem_append.2 (.inr hy)))
theorem nc_ab {L : Int} {l : List Rul} {u v a b : List Int} (h : nCode L l (u ++ v) = 0) (ha : Nrm l u a) (hb : Nrm l v b) : nCode L l (a ++ b) = 0 := by
  have h1 := nc_left h
  have h2 := nc_right h
  obtain ⟨g1, g2, g3⟩ := nCode_ok h
  obtain ⟨n, rfl, H⟩ := swOk_of g1
  refine nCode_of g1 ?_ (LetN.app (ha.1.lets H (nCode_ok h1).2.2) (hb.1.lets H (nCode_ok h2).2.2))
  have := ha.1.len H
  have := hb.1.len H
  rw [List.length_append] at g2 ⊢
  omega
theorem nc_once {L : Int} {l : List Rul} {u v x a b y : List Int} (h : nCode L l (u ++ v) = 0) (hc : Crits l) (hx : Nrm l (u ++ v) x) (ha : Nrm l u a) (hb : Nrm l v b) (hy : Nrm l (a ++ b) y) : y = x := by
  obtain ⟨n, _, H⟩ := swOk_of (nCode_ok h).1
  exact parts_first H hc hx ha hb hy
abbrev tinyR : List Rul := [([0, 0], [])]
theorem tiny_code : nCode 2 tinyR [1, 0, 0, 1] = 0 := by decide
theorem tiny_len {r : List Int} (h : Nrm tinyR [1, 0, 0, 1] r) : r.length = 2 := by
  have h11 : ∀ y, ¬ Stp tinyR [1, 1] y := fun y hy => by
    obtain ⟨i, s, hs, hi, hb, rfl⟩ := stp_stB hy
    obtain rfl : s = ([0, 0], []) := by simpa using hs
    have : i = 0 := by simp at hi; omega
    subst this
    exact absurd hb (by decide)
  have h4 : ∀ y, Stp tinyR [1, 0, 0, 1] y → y = [1, 1] := fun y hy => by
    obtain ⟨i, s, hs, hi, hb, rfl⟩ := stp_stB hy
    obtain rfl : s = ([0, 0], []) := by simpa using hs
    have : i = 0 ∨ i = 1 ∨ i = 2 := by simp at hi; omega
    rcases this with rfl | rfl | rfl
    · exact absurd hb (by decide)
    · rfl
    · exact absurd hb (by decide)
  cases h.1 with
  | nil => exact absurd (stB_stp (s := ([0, 0], [])) (i := 1) (by simp) (by decide)) (h.2 _)
  | cons g t =>
    have := h4 _ g
    subst this
    cases t with
    | nil => rfl
    | cons g t => exact absurd g (h11 _)
theorem lit_rw2 {W : World} {b : Nat} {x y : Int} (h : W.heap[b]? = some (.cells #[.int .i64 x, .int .i64 y] 3 (0, 0))) : Row W b [x, y] 2 := ⟨[], h, rfl, by decide⟩
theorem lit_rw4 {W : World} {b : Nat} {x y z u : Int} (h : W.heap[b]? = some (.cells #[.int .i64 x, .int .i64 y, .int .i64 z, .int .i64 u] 3 (0, 0))) : Row W b [x, y, z, u] 4 := ⟨[], h, rfl, by decide⟩
theorem lit_sw {W : World} {b b0 : Nat} (h : W.heap[b]? = some (.cells #[.slice (some ⟨b0, 0, none⟩) 2 2, .slice none 0 0] 68 (0, 0))) (h0 : Row W b0 [0, 0] 2) : Kd.C kSw W (some ⟨b, 0, none⟩) 1 tinyR := by
  refine ⟨rfl, by decide, fun _ => ⟨_, rfl, fun j p hj => ?_⟩⟩
  match j, hj with
  | 0, hj =>
    obtain rfl : (([0, 0], []) : Rul) = p := by simpa using hj
    refine ⟨[.slice (some ⟨b0, 0, none⟩) 2 2, .slice none 0 0], rfl, ⟨some ⟨b0, 0, none⟩, 2, none, 0, rfl, Nat.le_refl _, Nat.le_refl _, h0.C, lit_nil _ _ _⟩, fun i u hu => ?_⟩
    match i, hu with
    | 0, hu =>
      obtain rfl : Value.slice (some ⟨b0, 0, none⟩) 2 2 = u := by simpa using hu
      simpa [Addr.add] using blk_cell h 0
    | 1, hu =>
      obtain rfl : Value.slice none 0 0 = u := by simpa using hu
      simpa [Addr.add, kSw] using blk_cell h 1
theorem grown_below_none {w w1 : World} (h : w.grownBy w1 none) : Below w.heap.size w w1 := ⟨h.os, h.tape, h.output, h.size, fun i hi => h.block i hi (by simp)⟩
theorem lit0 (W : World) : Kd.R (Kd.int .i64) 3 (W.alloc (.cells #[] 3)) W.heap.size (fun _ => True) (.slice (some ⟨W.heap.size, 0, none⟩) 0 0) [] :=
  ⟨fun _ _ => trivial, OwnRow.lit W W.heap.size (ps := ([] : List Int)) (inner := []) ⟨by simp, fun j p hj => by simp at hj⟩ (Nat.le_refl _) (by simp)⟩
theorem alk_yes (A B : Option Addr) (c d : Nat) (x : List Int) (W : World) (h1 : Rd W A c x) (h2 : Rd W B d x) : Calls Try.prog 25 #[.slice A x.length c, .slice B x.length d] W fun e w' => e = .returned (.bool true) ∧ Below W.heap.size W w' :=
  (evermorekeep_alikeWords.calls A c x B d x true W h1.2 h1.1 h2.2 h2.1 (by unfold evermorekeep_alikeWords.f wordsEq; rw [if_pos h1.2.2.1]; simp)).mono fun e w' ⟨he, n, hw⟩ => ⟨he, hw ▸ pw_below_drewN (Below.refl _ _) n⟩
abbrev rwArgs (L : Int) (A U V : Option Addr) (n c nu cu nv cv : Nat) : Array Value := #[.int .i64 L, .slice A n c, .slice U nu cu, .slice V nv cv]
set_option maxHeartbeats 16000000 in
set_option maxRecDepth 100000 in
theorem rw_calls (L : Int) (A U V : Option Addr) (c cu cv : Nat) (l : List Rul) (u v : List Int) (w : World) (hr : Kd.C kSw w A l.length l) (hu : Rd w U cu u) (hv : Rd w V cv v) (hs : u.length + v.length < 17592186044416) :
    Calls Try.prog 7 (rwArgs L A U V l.length c u.length cu v.length cv) w fun e w' => e = .returned (.bool true) ∧ Below w.heap.size w w' := by
  have HR := Aside0.mk hr
  have HU := Aside0.mk hu
  have HV := Aside0.mk hv
  have HS := Aside0.mk hs
  obtain ⟨uv, huv⟩ : ∃ uv, uv = u ++ v := ⟨_, rfl⟩
  have HUV := Aside0.mk (show ([] ++ u) ++ v = uv from by rw [huv]; simp)
  clear hr hu hv hs
  have tk1 : True := trivial
  have tk2 : True := trivial
  have tk3 : True := trivial
  by_cases hn : nCode L l uv = 0
  · have HN := Aside0.mk hn
    have HN0 := Aside0.mk (show nCode L l (u ++ v) = 0 from by rw [← huv]; exact hn)
    have HV0 := Aside0.mk huv
    clear hn huv
    have tk4 : True := trivial
    have tk5 : True := trivial
    have tk6 : True := trivial
    have tk7 : True := trivial
    have tk8 : True := trivial
    have tk9 : True := trivial
    have tk10 : True := trivial
    go_enter Try.func7, Try.ntmps7
    go_wp2_with (first | (have _t := tk1; go_at_call 24; refine calls_let ?_; intro W2 hW2; have B2 := Aside0.mk (show Below w.heap.size w W2 from by rw [hW2]; exact below_alloc (below_alloc (below_alloc (Below.refl _ _) _) _) _); have r1 : Row W2 w.heap.size [0, 0] 2 := lit_rw2 (by rw [hW2]; exact blk_alloc (blk_alloc (blk_new w _) _) _); have r2 : Kd.C kSw W2 (some ⟨w.heap.size + 1, 0, none⟩) 1 tinyR := lit_sw (by rw [hW2]; exact blk_alloc (blk_newn _ _ _ (by simp)) _) r1; have r3 : Row W2 (w.heap.size + 1 + 1) [1, 0, 0, 1] 4 := lit_rw4 (by rw [hW2]; exact blk_newn _ _ _ (by simp)); clear hW2; refine (normal_ok 2 _ 1 tinyR _ 4 [1, 0, 0, 1] W2 r2 r3.C (Nat.le_refl _) tiny_code).mono ?_; rintro e w3 ⟨r, Ar, cr, rfl, _, _, hN, hb⟩; rw [tiny_len hN]; have BB := Aside0.mk (below_step B2.out hb); clear r1 r2 r3 hN hb B2 tk1) | (have _t := tk2; at_builtin; refine Kd.R_append_row (w0 := w) (Value.int .i64) 0 w.heap.size rfl _ _ 22 3 (.int .i64 0) 8 rfl Try.underlying22 cat_info3 rfl (by decide) _ [] u U u.length cu (fun _ => True) rfl rfl (fun _ _ => trivial) (Kd.R_nil _ _ _ _ _) (Kd.C_below HU.out.2 BB.out) BB.out BB.out.size (by have := HS.out; simp; omega) ?_; intro v4 w4 hown hb hgr hat; have OW := Aside0.mk hown; replace BB := Aside0.mk hb; clear hown hb hgr hat tk2) | (have _t := tk3; at_builtin; refine Kd.R_append_row (w0 := w) (Value.int .i64) 0 w.heap.size rfl _ _ 22 3 (.int .i64 0) 8 rfl Try.underlying22 cat_info3 rfl (by decide) _ ([] ++ u) v V v.length cv (fun _ => True) rfl rfl (fun _ _ => trivial) OW.out (Kd.C_below HV.out.2 BB.out) BB.out BB.out.size (by have := HS.out; simp; omega) ?_; intro v5 w5 hown hb hgr hat; rw [HUV.out] at hown; obtain ⟨AW, cW, rfl⟩ := Kd.R_slice hown; have OU := Aside0.mk (show Rd w5 AW cW uv from (Kd.R_reads' hown).2); replace BB := Aside0.mk hb; clear hown hb hgr hat tk3 OW) | (have _t := tk4; go_at_call 24; refine (normal_ok L A c l AW cW uv _ (Kd.C_below HR.out BB.out) OU.out.2 OU.out.1 HN.out).mono ?_; rintro e w6 ⟨x, Ax, cx, rfl, h1, h2, hNx, hb⟩; replace BB := Aside0.mk (below_step BB.out hb); (try replace OX := Aside0.mk (OX.out.below hb)); (try replace OY := Aside0.mk (OY.out.below hb)); (try replace OA := Aside0.mk (OA.out.below hb)); (try replace OB := Aside0.mk (OB.out.below hb)); have OX := Aside0.mk (show Rd w6 Ax cx x from ⟨h1, h2⟩); have NX := Aside0.mk hNx; clear h1 h2 hNx hb tk4 OU) | (have _t := tk5; go_at_call 24; refine (normal_ok L A c l Ax cx x _ (Kd.C_below HR.out BB.out) OX.out.2 OX.out.1 (nc_nrm HN.out NX.out)).mono ?_; rintro e w7 ⟨y, Ay, cy, rfl, h1, h2, hNy, hb⟩; obtain rfl := nrm_same NX.out hNy; replace BB := Aside0.mk (below_step BB.out hb); (try replace OX := Aside0.mk (OX.out.below hb)); (try replace OY := Aside0.mk (OY.out.below hb)); (try replace OA := Aside0.mk (OA.out.below hb)); (try replace OB := Aside0.mk (OB.out.below hb)); have OY := Aside0.mk (show Rd w7 Ay cy y from ⟨h1, h2⟩); clear h1 h2 hNy hb tk5) | (have _t := tk6; go_at_call 25; refine (alk_yes Ax Ay cx cy y _ OX.out OY.out).mono ?_; rintro e w8 ⟨rfl, hb⟩; replace BB := Aside0.mk (below_step BB.out hb); (try replace OX := Aside0.mk (OX.out.below hb)); (try replace OY := Aside0.mk (OY.out.below hb)); (try replace OA := Aside0.mk (OA.out.below hb)); (try replace OB := Aside0.mk (OB.out.below hb)); clear hb tk6 OY) | (go_at_call 26; refine (fork_calls L A c l _ (Kd.C_below HR.out BB.out) (nCode_ok HN.out).1).mono ?_; rintro e w9 ⟨f1, f2, f3, r, rfl, hcr, hb⟩; replace BB := Aside0.mk (below_step BB.out hb); (try replace OX := Aside0.mk (OX.out.below hb)); (try replace OY := Aside0.mk (OY.out.below hb)); (try replace OA := Aside0.mk (OA.out.below hb)); (try replace OB := Aside0.mk (OB.out.below hb)); have HC := Aside0.mk hcr; clear hcr hb) | (have _t := tk7; go_at_call 24; have HC1 := Aside0.mk (HC.out (by assumption)); refine (normal_ok L A c l U cu u _ (Kd.C_below HR.out BB.out) (Kd.C_below HU.out.2 BB.out) HU.out.1 (nc_left HN0.out)).mono ?_; rintro e w10 ⟨a, Aa, ca, rfl, h1, h2, hNa, hb⟩; replace BB := Aside0.mk (below_step BB.out hb); (try replace OX := Aside0.mk (OX.out.below hb)); (try replace OY := Aside0.mk (OY.out.below hb)); (try replace OA := Aside0.mk (OA.out.below hb)); (try replace OB := Aside0.mk (OB.out.below hb)); have OA := Aside0.mk (show Rd w10 Aa ca a from ⟨h1, h2⟩); have NA := Aside0.mk hNa; clear h1 h2 hNa hb tk7) | (have _t := tk8; go_at_call 24; refine (normal_ok L A c l V cv v _ (Kd.C_below HR.out BB.out) (Kd.C_below HV.out.2 BB.out) HV.out.1 (nc_right HN0.out)).mono ?_; rintro e w11 ⟨b, Ab, cb, rfl, h1, h2, hNb, hb⟩; replace BB := Aside0.mk (below_step BB.out hb); (try replace OX := Aside0.mk (OX.out.below hb)); (try replace OY := Aside0.mk (OY.out.below hb)); (try replace OA := Aside0.mk (OA.out.below hb)); (try replace OB := Aside0.mk (OB.out.below hb)); have OB := Aside0.mk (show Rd w11 Ab cb b from ⟨h1, h2⟩); have NB := Aside0.mk hNb; obtain ⟨ab, hab⟩ : ∃ ab, ab = a ++ b := ⟨_, rfl⟩; have HAB := Aside0.mk hab; have HNAB := Aside0.mk (show nCode L l ab = 0 from by rw [hab]; exact nc_ab HN0.out NA.out NB.out); have HL16 := Aside0.mk (show a.length + b.length ≤ 16 from by have := (nCode_ok (nc_nrm (nc_left HN0.out) NA.out)).2.1; have := (nCode_ok (nc_nrm (nc_right HN0.out) NB.out)).2.1; omega); clear h1 h2 hNb hb hab tk8) | (have _t := tk9; at_builtin; have HB12 := Aside0.mk (below_alloc (Below.refl w11.heap.size w11) (.cells #[] 3)); refine Kd.R_append_row (w0 := w11) (Value.int .i64) 0 w11.heap.size rfl _ _ 22 3 (.int .i64 0) 8 rfl Try.underlying22 cat_info3 rfl (by decide) _ [] a Aa a.length ca (fun _ => True) rfl rfl (fun _ _ => trivial) (lit0 w11) (Kd.C_below OA.out.2 HB12.out) HB12.out HB12.out.size (by have := HL16.out; simp; omega) ?_; intro v13 w13 hown hb hgr hat; have OE2 := Aside0.mk hown; have HB13 := Aside0.mk hb; clear hown hb hgr hat tk9 HB12) | (have _t := tk10; at_builtin; refine Kd.R_append_row (w0 := w11) (Value.int .i64) 0 w11.heap.size rfl _ _ 22 3 (.int .i64 0) 8 rfl Try.underlying22 cat_info3 rfl (by decide) _ ([] ++ a) b Ab b.length cb (fun _ => True) rfl rfl (fun _ _ => trivial) OE2.out (Kd.C_below OB.out.2 HB13.out) HB13.out HB13.out.size (by have := HL16.out; simp; omega) ?_; intro v14 w14 hown hb hgr hat; rw [List.nil_append, ← HAB.out] at hown; obtain ⟨AZ, cZ, rfl⟩ := Kd.R_slice hown; have OZ := Aside0.mk (show Rd w14 AZ cZ ab from (Kd.R_reads' hown).2); replace BB := Aside0.mk (below_step BB.out hb); (try replace OX := Aside0.mk (OX.out.below hb)); (try replace OY := Aside0.mk (OY.out.below hb)); (try replace OA := Aside0.mk (OA.out.below hb)); (try replace OB := Aside0.mk (OB.out.below hb)); clear hown hb hgr hat tk10 OE2 HB13) | (go_at_call 24; refine (normal_ok L A c l AZ cZ ab _ (Kd.C_below HR.out BB.out) OZ.out.2 OZ.out.1 HNAB.out).mono ?_; rintro e w15 ⟨z, Az, cz, rfl, h1, h2, hNz, hb⟩; obtain rfl := nc_once HN0.out HC1.out (HV0.out ▸ NX.out) NA.out NB.out (HAB.out ▸ hNz); replace BB := Aside0.mk (below_step BB.out hb); (try replace OX := Aside0.mk (OX.out.below hb)); (try replace OY := Aside0.mk (OY.out.below hb)); (try replace OA := Aside0.mk (OA.out.below hb)); (try replace OB := Aside0.mk (OB.out.below hb)); have OY := Aside0.mk (show Rd w15 Az cz z from ⟨h1, h2⟩); clear h1 h2 hNz hb) | (go_at_call 25; refine (alk_yes Ax Az cx cz z _ OX.out OY.out).mono ?_; rintro e w16 ⟨rfl, hb⟩; replace BB := Aside0.mk (below_step BB.out hb); (try replace OX := Aside0.mk (OX.out.below hb)); (try replace OY := Aside0.mk (OY.out.below hb)); (try replace OA := Aside0.mk (OA.out.below hb)); (try replace OB := Aside0.mk (OB.out.below hb)); clear hb) | fail)
    · go_ret
      exact ⟨rfl, BB.out⟩
    · go_ret
      exact ⟨rfl, BB.out⟩
  · obtain ⟨e0, he0⟩ : ∃ e0, nCode L l uv = e0 := ⟨_, rfl⟩
    have HN := Aside0.mk hn
    have g0 : (e0 != 0) = true := by rw [← he0]; simpa using hn
    have HE := Aside0.mk he0
    clear hn he0 huv
    go_enter Try.func7, Try.ntmps7
    go_wp2_with (first | (have _t := tk1; go_at_call 24; refine calls_let ?_; intro W2 hW2; have B2 := Aside0.mk (show Below w.heap.size w W2 from by rw [hW2]; exact below_alloc (below_alloc (below_alloc (Below.refl _ _) _) _) _); have r1 : Row W2 w.heap.size [0, 0] 2 := lit_rw2 (by rw [hW2]; exact blk_alloc (blk_alloc (blk_new w _) _) _); have r2 : Kd.C kSw W2 (some ⟨w.heap.size + 1, 0, none⟩) 1 tinyR := lit_sw (by rw [hW2]; exact blk_alloc (blk_newn _ _ _ (by simp)) _) r1; have r3 : Row W2 (w.heap.size + 1 + 1) [1, 0, 0, 1] 4 := lit_rw4 (by rw [hW2]; exact blk_newn _ _ _ (by simp)); clear hW2; refine (normal_ok 2 _ 1 tinyR _ 4 [1, 0, 0, 1] W2 r2 r3.C (Nat.le_refl _) tiny_code).mono ?_; rintro e w3 ⟨r, Ar, cr, rfl, _, _, hN, hb⟩; rw [tiny_len hN]; have BB := Aside0.mk (below_step B2.out hb); clear r1 r2 r3 hN hb B2 tk1) | (have _t := tk2; at_builtin; refine Kd.R_append_row (w0 := w) (Value.int .i64) 0 w.heap.size rfl _ _ 22 3 (.int .i64 0) 8 rfl Try.underlying22 cat_info3 rfl (by decide) _ [] u U u.length cu (fun _ => True) rfl rfl (fun _ _ => trivial) (Kd.R_nil _ _ _ _ _) (Kd.C_below HU.out.2 BB.out) BB.out BB.out.size (by have := HS.out; simp; omega) ?_; intro v4 w4 hown hb hgr hat; have OW := Aside0.mk hown; replace BB := Aside0.mk hb; clear hown hb hgr hat tk2) | (have _t := tk3; at_builtin; refine Kd.R_append_row (w0 := w) (Value.int .i64) 0 w.heap.size rfl _ _ 22 3 (.int .i64 0) 8 rfl Try.underlying22 cat_info3 rfl (by decide) _ ([] ++ u) v V v.length cv (fun _ => True) rfl rfl (fun _ _ => trivial) OW.out (Kd.C_below HV.out.2 BB.out) BB.out BB.out.size (by have := HS.out; simp; omega) ?_; intro v5 w5 hown hb hgr hat; rw [HUV.out] at hown; obtain ⟨AW, cW, rfl⟩ := Kd.R_slice hown; have OU := Aside0.mk (show Rd w5 AW cW uv from (Kd.R_reads' hown).2); replace BB := Aside0.mk hb; clear hown hb hgr hat tk3 OW) | (go_at_call 24; refine (normal_bad L A c l AW cW uv _ (Kd.C_below HR.out BB.out) OU.out.2 OU.out.1 HN.out).mono ?_; rw [HE.out]; rintro e w6 ⟨rfl, hb⟩; replace BB := Aside0.mk (below_step BB.out hb); clear hb) | fail)
    go_ret
    exact ⟨rfl, BB.out⟩
end Go.Proofs.Ytampgoendkjkhaa.H

namespace Go.Proofs.Ytampgoendkjkhaa.H
open Go.RowKit Go.Joins Go.ChangeShapes Go.WideShapes Go.Deep Go.Proofs.YtampgoendkjkhaaW.PrintWords
set_option linter.unusedSimpArgs false
set_option linter.unusedVariables false
section
variable {H : Type} {enc : TypeId × Value → H} {w : World} {base : Nat} {spare : Nat → Bool} {held : Bool}
set_option maxRecDepth 100000 in
theorem Ki_sw {fuel : Nat} {cs : List Value} {x : DataW H × List MemPlace} (h : DataW.trod enc Try.prog w base spare held fuel 68 cs = some x) : ∃ a, kSw.K w a cs := by
  obtain ⟨xs, n, _, rfl, hl, hlen, hf⟩ := DataW.trod_struct Try.underlying68 h
  have hC : Try.prog.cellsOf 68 = 2 := by kernel_rfl
  have hI : Try.prog.cellsOf 22 = 1 := by kernel_rfl
  replace hl := hl.trans hC
  match cs, hl with
  | [c0, c1], _ =>
    match xs, hlen with
    | [y0, y1], _ =>
      have h0 : DataW.trod enc Try.prog w base spare held n 22 (([c0, c1].drop 0).take (Try.prog.cellsOf 22)) = some y0 := by simpa using hf 0 _ rfl
      have h1 : DataW.trod enc Try.prog w base spare held n 22 (([c0, c1].drop 1).take (Try.prog.cellsOf 22)) = some y1 := by simpa using hf 1 _ rfl
      rw [hI] at h0 h1
      obtain ⟨l0, A0, d0, e0, g0, r0⟩ := K_slice Try.underlying22 (d := (Kd.int .i64)) (by kernel_rfl) (fun _ _ _ h => Ki_int Try.underlying3 h) h0
      obtain ⟨l1, A1, d1, e1, g1, r1⟩ := K_slice Try.underlying22 (d := (Kd.int .i64)) (by kernel_rfl) (fun _ _ _ h => Ki_int Try.underlying3 h) h1
      exact ⟨(l0, l1), A0, d0, A1, d1, by rw [e0, e1], g0, g1, r0, r1⟩
theorem bulk_pos (d : DataW H) : 1 ≤ Rows.uptoBulk d := by
  cases d with
  | lit l => cases l <;> simp [Rows.uptoBulk]
  | _ => simp [Rows.uptoBulk]
theorem bulk_len (l : List (DataW H)) : l.length ≤ Rows.uptoBulkAll l := by
  induction l with
  | nil => simp [Rows.uptoBulkAll]
  | cons x r ih => have := bulk_pos x; simp only [Rows.uptoBulkAll, List.length_cons]; omega
theorem slice_bulk {P : Program} {t e : TypeId} (ht : P.underlying t = some (.slice e)) {fuel : Nat} {A : Option Addr} {n c : Nat} {x : DataW H × List MemPlace} (h : DataW.trod enc P w base spare held fuel t [.slice A n c] = some x) : n ≤ Rows.uptoBulk x.1 := by
  rcases DataW.trod_slice ht h with ⟨h0, _⟩ | ⟨a, len, cap, elems, rest, m, _, hcs, rfl, _, _, _, hlen, _⟩
  · simp only [List.cons.injEq, Value.slice.injEq, and_true] at h0
    omega
  · simp only [List.cons.injEq, Value.slice.injEq, and_true] at hcs
    have := bulk_len (elems.map (·.1))
    rw [List.length_map] at this
    simp only [Rows.uptoBulk]
    omega
end
end Go.Proofs.Ytampgoendkjkhaa.H
