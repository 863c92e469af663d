/- alter.Det. -/
import Derived.Test.YtjabncedfjjbjaaAlE
import Derived.Test.YtjabncedfjjbjaaLst
namespace Go.Proofs.Ytjabncedfjjbjaa.H
open Go.RowKit Go.Shelf Go.Proofs.YtjabncedfjjbjaaW.PrintWords Go.Proofs.Ytjabncedfjjbjaa.DtM
set_option linter.unusedVariables false
set_option linter.unusedSimpArgs false
theorem alOk_of {L st : Int} {nx : List (List (List (List Int)))} {ms : List Int} (h : aCheck L st nx ms = 0) : ∃ L' st' : Nat, L = (L' : Int) ∧ st = (st' : Int) ∧ AlOk L' st' nx ms := by
  unfold aCheck at h
  split at h
  · omega
  rename_i h1
  split at h
  · omega
  rename_i h2
  split at h
  · omega
  rename_i h3
  split at h
  · omega
  rename_i h4
  split at h
  · omega
  rename_i h5
  simp only [Bool.or_eq_true, not_or, Bool.not_eq_true] at h5
  obtain ⟨⟨h6, h7⟩, h8⟩ := h5
  have hno : ∀ n p : Int, noB n p = false → 0 ≤ p ∧ p < n := fun n p h => by
    unfold noB at h; simp only [Bool.or_eq_false_iff, decide_eq_false_iff_not] at h; omega
  have hst := hno _ _ h7
  have hs : ¬ alShape L nx = true := fun q => h3 (.inr q)
  refine ⟨L.toNat, st.toNat, by omega, by omega, by omega, by omega, by omega, by omega, ?_, ?_, by omega, ?_, ?_⟩
  · exact Classical.byContradiction fun q => h3 (.inl q)
  · intro r hr
    rw [Bool.not_eq_true] at hs
    have := List.any_eq_false.1 hs r hr
    simp at this
    omega
  · intro r hr l hl c hc p hp
    have q1 := List.any_eq_false.1 h6 r hr
    rw [Bool.not_eq_true] at q1
    have q2 := List.any_eq_false.1 q1 l hl
    rw [Bool.not_eq_true] at q2
    have q3 := List.any_eq_false.1 q2 c hc
    rw [Bool.not_eq_true] at q3
    have q4 := List.any_eq_false.1 q3 p hp
    rw [Bool.not_eq_true] at q4
    exact hno _ _ q4
  · intro m hm
    have := List.any_eq_false.1 h8 m hm
    rw [Bool.not_eq_true] at this
    unfold bitB at this
    simp at this
    omega
/-! ### what it explores -/
def alF (nx : List (List (List (List Int)))) (g : Int) (a : Nat) : Int := ((alN nx g.toNat a : Nat) : Int)
def alFirst (st : Nat) : Nat := bN (fun S => S.testBit st) 16
def alU : List Int := (List.range 65536).map fun i : Nat => (i : Int)
theorem mem_alU (x : Int) : x ∈ alU ↔ 0 ≤ x ∧ x < 65536 := by
  unfold alU
  rw [List.mem_map]
  constructor
  · rintro ⟨i, hi, rfl⟩
    have := List.mem_range.1 hi
    omega
  · intro h
    exact ⟨x.toNat, List.mem_range.2 (by omega), by omega⟩
theorem alU_len : alU.length = 65536 := by unfold alU; rw [List.length_map, List.length_range]
theorem alF_mem (nx : List (List (List (List Int)))) (g : Int) (a : Nat) : alF nx g a ∈ alU := by
  rw [mem_alU]
  have := bN_lt (fun S => g.toNat.testBit (aheadN nx a S)) 16
  unfold alF alN
  omega
theorem alFirst_mem (st : Nat) : ((alFirst st : Nat) : Int) ∈ alU := by
  rw [mem_alU]
  have := bN_lt (fun S => S.testBit st) 16
  unfold alFirst
  omega
def alL (L st : Nat) (nx : List (List (List (List Int)))) : List Int := expL (alF nx) L (alU.length + 1) [((alFirst st : Nat) : Int)] 0
theorem alL_expl (L st : Nat) (nx : List (List (List (List Int)))) : Expl (alF nx) L alU ((alFirst st : Nat) : Int) (alL L st nx) := expl_of (alFirst_mem st) (fun k a _ _ => alF_mem nx k a)
def alRx (L st : Nat) (nx : List (List (List (List Int)))) : List (List Int) := rowsL (alF nx) L (alL L st nx)
def alMx (L st : Nat) (nx : List (List (List (List Int)))) (ms : List Int) : List Int := (alL L st nx).map (alMk (endsN ms))
theorem al_det {L st : Nat} {nx : List (List (List (List Int)))} {ms : List Int} (h : AlOk L st nx ms) : DetOk L (alRx L st nx) (alMx L st nx ms) :=
  (alL_expl L st nx).det (by rw [alU_len]; exact Nat.le_refl _) h.L1 h.L4 _ (fun x _ => by unfold alMk; split <;> omega)
/-- the answer -/
def alDet (L st : Int) (nx : List (List (List (List Int)))) (ms : List Int) : Int × List (List Int) × List Int × Int :=
  if aCheck L st nx ms = 0 then
    if (lstR L.toNat (alRx L.toNat st.toNat nx) (alMx L.toNat st.toNat nx ms) 0).length > 3000 then (0, [], [], 7)
    else (L, lstR L.toNat (alRx L.toNat st.toNat nx) (alMx L.toNat st.toNat nx ms) 0, lstM L.toNat (alRx L.toNat st.toNat nx) (alMx L.toNat st.toNat nx ms) 0, 0)
  else (0, [], [], aCheck L st nx ms)
def DetPost (w w' : World) (e : Ending) (d : Int × List (List Int) × List Int × Int) : Prop :=
  ∃ vN vM : Value, e = .returned (.tuple #[.agg #[.int .i64 d.1, .int .i64 0, vN, vM], .int .i64 d.2.2.2]) ∧ Below w.heap.size w w' ∧
      ∃ sN sM : Nat → Prop, (∀ k, sM k → ¬ sN k) ∧ Kd.S (Kd.slice 3 (Kd.int .i64)) 22 w' w.heap.size sN vN d.2.1 ∧ Kd.R (Kd.int .i64) 3 w' w.heap.size sM vM d.2.2.1
theorem resDE {fn : Func} {p u : Tmp} (h : fn.results = #[.cell p 80, .tmp u]) (tmps : Array Value) (W : World) (g : Nat) (x0 x1 x2 x3 b : Value) (hp : tmps.getD p undef = .pointer (some ⟨g, 0, none⟩)) (hb : tmps.getD u undef = b)
    (h0 : W.cell? ⟨g, 0, none⟩ = some x0) (h1 : W.cell? ⟨g, 1, none⟩ = some x1) (h2 : W.cell? ⟨g, 2, none⟩ = some x2) (h3 : W.cell? ⟨g, 3, none⟩ = some x3) : (results fn tmps).run Try.prog W = .ok (.tuple #[.agg #[x0, x1, x2, x3], b]) W := resD h tmps W g x0 x1 x2 x3 b hp hb h0 h1 h2 h3
theorem alU_bound : ∀ k ∈ alU, -9223372036854775808 ≤ k ∧ k ≤ 9223372036854775807 := fun k hk => by
  have := (mem_alU k).1 hk
  omega
theorem al_next (L st : Nat) (A2 A3 : Option Addr) (c2 c3 : Nat) (nx : List (List (List (List Int)))) (ms : List Int) (B : Nat) (W0 : World) (hr2 : Kd.C (Kd.slice 42 (Kd.slice 22 (Kd.slice 3 (Kd.int .i64)))) W0 A2 nx.length nx) (hok : AlOk L st nx ms)
    (hx : W0.heap[B]? = some (.cells #[.int .i64 (L : Int), .int .i64 (st : Int), .slice A2 nx.length c2, .slice A3 ms.length c3] 77 (0, 0))) : NextAt 75 #[.pointer (some ⟨B, 0, none⟩)] (alF nx) alU L W0 := by
  intro W k a hW hk ha
  have hk' := (mem_alU k).1 hk
  obtain ⟨g, rfl⟩ : ∃ g : Nat, k = (g : Int) := ⟨k.toNat, by omega⟩
  have := alD1_calls L st A2 A3 c2 c3 nx ms g a B W (Kd.C_below hr2 hW) hok (blk_below hx hW) (by omega) ha
  unfold alF
  rw [Int.toNat_natCast]
  exact this
theorem endsN_lt {L st : Nat} {nx : List (List (List (List Int)))} {ms : List Int} (h : AlOk L st nx ms) : endsN ms < 16 := by
  have h1 := h.len
  have h2 := h.n4
  exact bN_small (mkB ms) (n := ms.length) (m := 4) (by omega)
theorem al_mark (L st : Nat) (nx : List (List (List (List Int)))) (ms : List Int) (B : Nat) (W0 : World) (hok : AlOk L st nx ms) (hx : W0.heap[B]? = some (.cells #[.int .i64 ((endsN ms : Nat) : Int)] 3 (0, 0))) : MarkAt 77 #[.pointer (some ⟨B, 0, none⟩)] (alMk (endsN ms)) alU W0 := by
  intro W k hW hk
  have hk' := (mem_alU k).1 hk
  obtain ⟨g, rfl⟩ : ∃ g : Nat, k = (g : Int) := ⟨k.toNat, by omega⟩
  refine (alD2_calls g (endsN ms) B W ((blk_cell (blk_below hx hW) 0).trans rfl) (by omega) (endsN_lt hok)).mono ?_
  rintro e w' ⟨he, rfl⟩
  exact ⟨he, Below.refl _ _⟩
structure AldM (w W : World) (L st : Int) (A2 A3 : Option Addr) (n c2 m c3 : Nat) : Prop where
  b : Below w.heap.size w W
  x : W.heap[w.heap.size]? = some (.cells #[.int .i64 L, .int .i64 st, .slice A2 n c2, .slice A3 m c3] 77 (0, 0))
  r : W.heap[w.heap.size + 1]? = some (.cells #[.int .i64 0, .int .i64 0, .slice none 0 0, .slice none 0 0] 80 (0, 0))
theorem AldM.below {w W W' : World} {L st : Int} {A2 A3 : Option Addr} {n c2 m c3 : Nat} (h : AldM w W L st A2 A3 n c2 m c3) (hb : Below W.heap.size W W') : AldM w W' L st A2 A3 n c2 m c3 :=
  ⟨below_step h.b hb, blk_below h.x hb, blk_below h.r hb⟩
set_option maxHeartbeats 4000000 in
set_option maxRecDepth 100000 in
theorem alDet_calls (L st : Int) (A2 A3 : Option Addr) (c2 c3 : Nat) (nx : List (List (List (List Int)))) (ms : List Int) (w : World) (hr2 : Kd.C (Kd.slice 42 (Kd.slice 22 (Kd.slice 3 (Kd.int .i64)))) w A2 nx.length nx) (hr3 : Kd.C (Kd.int .i64) w A3 ms.length ms) :
    Calls Try.prog 32 (alArgs L st A2 A3 c2 c3 nx ms) w fun e w' => DetPost w w' e (alDet L st nx ms) := by
  have HR2 := Aside0.mk hr2
  have HR3 := Aside0.mk hr3
  clear hr2 hr3
  have HB0 := Aside0.mk (below_alloc (below_alloc (Below.refl w.heap.size w) (.cells #[.int .i64 L, .int .i64 st, .slice A2 nx.length c2, .slice A3 ms.length c3] 77)) (.cells #[.int .i64 0, .int .i64 0, .slice none 0 0, .slice none 0 0] 80))
  by_cases hc : aCheck L st nx ms = 0
  · obtain ⟨L, st, rfl, rfl, hok⟩ := alOk_of hc
    have HOK := Aside0.mk hok
    have HN4 := Aside0.mk hok.n4
    have hst4 : st < 4 := by have := hok.st; have := hok.n4; omega
    obtain ⟨d, hd⟩ : ∃ d, alDet (L : Int) (st : Int) nx ms = d := ⟨_, rfl⟩
    have HD := Aside0.mk hd
    unfold alDet at hd
    rw [if_pos hc, Int.toNat_natCast, Int.toNat_natCast] at hd
    have HD2 := Aside0.mk hd
    have HC := Aside0.mk hc
    rw [HD.out]
    clear hd hc hok HD
    go_enter Try.func32, Try.ntmps32
    go_wp2_with (go_at_call 72
                 refine (al_Check L st A2 A3 c2 c3 nx ms _ (Kd.C_below HR2.out HB0.out) (Kd.C_below HR3.out HB0.out)).mono ?_
                 rintro e w1 ⟨rfl, hb1⟩
                 rw [HC.out]
                 have M1 := Aside0.mk (show AldM w w1 L st A2 A3 nx.length c2 ms.length c3 from
                   ⟨below_step HB0.out hb1, blk_below (blk_alloc (blk_new w _) _) hb1, blk_below (blk_newn _ _ _ (by simp)) hb1⟩)
                 clear hb1)
    have x1 : w1.cell? ⟨w.heap.size, 1, none⟩ = some (.int .i64 (st : Int)) := (blk_cell M1.out.x 1).trans rfl
    go_loopg [5, 16] 16 (fun gg s5 s16 wr => ∃ i : Nat, i ≤ 16 ∧ 16 - i ≤ gg ∧ s16 = .int .i64 (i : Int) ∧ s5 = .int .i64 ((bN (fun S => S.testBit st) i : Nat) : Int) ∧ wr = w1)
    case atStart => exact ⟨0, Nat.zero_le _, by omega, rfl, rfl, rfl⟩
    case round =>
      obtain ⟨i, hi, hgg, rfl, rfl, rfl⟩ := hrel
      by_cases hlt : i < 16
      · have hltz : (i : Int) < 16 := by omega
        cases hb : i.testBit st with
        | true =>
          have hq : (bits .and .i64 ((i : Int) / 2 ^ st) 1 == 1) = true := by rw [bits_test1 i st (by omega), hb]
          have HE := Aside0.mk (bN_or' (fun S => S.testBit st) i (by omega) hb)
          clear hb
          go_wp2
          go_roundg (16 - (i + 1))
          case measure => omega
          case rel => exact ⟨i + 1, by omega, by omega, by go_num, by rw [← HE.out], rfl⟩
        | false =>
          have hq : (bits .and .i64 ((i : Int) / 2 ^ st) 1 == 1) = false := by rw [bits_test1 i st (by omega), hb]
          have HE := Aside0.mk (bN_not (fun S => S.testBit st) i hb)
          clear hb
          go_wp2
          go_roundg (16 - (i + 1))
          case measure => omega
          case rel => exact ⟨i + 1, by omega, by omega, by go_num, by rw [← HE.out], rfl⟩
      · have hie : i = 16 := by omega
        subst hie
        have x0 : wr.cell? ⟨w.heap.size, 0, none⟩ = some (.int .i64 (L : Int)) := (blk_cell M1.out.x 0).trans rfl
        have x2 : wr.cell? ⟨w.heap.size, 2, none⟩ = some (.slice A2 nx.length c2) := (blk_cell M1.out.x 2).trans rfl
        have x3 : wr.cell? ⟨w.heap.size, 3, none⟩ = some (.slice A3 ms.length c3) := (blk_cell M1.out.x 3).trans rfl
        clear hlt hgg hi
        obtain ⟨bg, hbg⟩ : ∃ bg, decide ((3000 : Int) < ((lstR L (alRx L st nx) (alMx L st nx ms) 0).length : Int)) = bg := ⟨_, rfl⟩
        cases bg
        all_goals
          have HBIG := Aside0.mk hbg
          clear hbg
          go_wp2_with (first
            | (go_at_call 73
               refine (ends_calls L st A2 A3 c2 c3 nx.length ms wr (Kd.C_below HR3.out M1.out.b) (by have := HOK.out.len; have := HN4.out; omega) HOK.out.mks).mono ?_
               rintro e w2 ⟨rfl, hb2⟩
               have M2 := Aside0.mk (M1.out.below hb2)
               have zl : w.heap.size + 1 < w2.heap.size := blk_lt M2.out.r
               have zl0 : w.heap.size < w2.heap.size := by omega
               have y0 : w2.cell? ⟨w.heap.size, 0, none⟩ = some (.int .i64 (L : Int)) := (blk_cell M2.out.x 0).trans rfl
               clear hb2 x0 x1 x2 x3)
            | (go_at_call 74
               refine (explore_calls 75 77 _ _ (enters_of Try.func75 (by kernel_rfl) rfl) (enters_of Try.func77 (by kernel_rfl) rfl) L ((alFirst st : Nat) : Int) _ (alF nx) (alMk (endsN ms)) alU _ (al_next L st A2 A3 c2 c3 nx ms w.heap.size _ ?aC HOK.out ?aX) (al_mark L st nx ms w2.heap.size _ HOK.out ?aE) HOK.out.L1 (by have := HOK.out.L4; omega) (alFirst_mem st) (fun k a _ _ => alF_mem nx k a) alU_bound (by rw [alU_len]; omega) (by rw [alU_len]; omega)).mono ?_
               (case aC => exact Kd.C_below HR2.out (below_alloc M2.out.b _))
               (case aX => exact blk_alloc M2.out.x _)
               (case aE => exact blk_new w2 _)
               rintro e w9 ⟨vN, vM, rfl, hb9, sN, sM, hd9, hN9, hM9⟩
               rw [show rowsL (alF nx) L (expL (alF nx) L (alU.length + 1) [((alFirst st : Nat) : Int)] 0) = alRx L st nx from rfl] at hN9
               rw [show (expL (alF nx) L (alU.length + 1) [((alFirst st : Nat) : Int)] 0).map (alMk (endsN ms)) = alMx L st nx ms from rfl] at hM9
               obtain ⟨AN, cN, rfl⟩ := Kd.S_slice hN9
               obtain ⟨AM, cM, rfl⟩ := Kd.R_slice hM9
               have M9 := Aside0.mk (M2.out.below (below_step (below_alloc (Below.refl _ _) _) hb9))
               have N9 := Aside0.mk (Kd.S_reads' hN9).2
               have K9 := Aside0.mk (Kd.R_reads' hM9).2
               clear hb9 hd9 hN9 hM9 zl zl0 y0)
            | (go_at_call 78
               refine (smallest_calls AN AM cN cM L 0 (alRx L st nx) (alMx L st nx ms) _ (Kd.C_below N9.out.2 (below_alloc (Below.refl _ _) _)) N9.out.1 (Kd.C_below K9.out.2 (below_alloc (Below.refl _ _) _)) K9.out.1 (al_det HOK.out) (al_det HOK.out).pos).mono ?_
               rintro e w10 ⟨vN, vM, rfl, hb10, sN, sM, hd10, hN10, hM10⟩
               obtain ⟨R, hR⟩ : ∃ R, lstR L (alRx L st nx) (alMx L st nx ms) 0 = R := ⟨_, rfl⟩
               obtain ⟨Mk, hMk⟩ : ∃ Mk, lstM L (alRx L st nx) (alMx L st nx ms) 0 = Mk := ⟨_, rfl⟩
               replace hN10 := hR ▸ (show Kd.S (Kd.slice 3 (Kd.int .i64)) 22 w10 _ sN vN (lstR L (alRx L st nx) (alMx L st nx ms) 0) from hN10)
               replace hM10 := hMk ▸ (show Kd.R (Kd.int .i64) 3 w10 _ sM vM (lstM L (alRx L st nx) (alMx L st nx ms) 0) from hM10)
               have HD3 := Aside0.mk (hMk ▸ hR ▸ HD2.out)
               obtain ⟨AR, cR, rfl⟩ := Kd.S_slice hN10
               obtain ⟨AM2, cM2, rfl⟩ := Kd.R_slice hM10
               have M10 := Aside0.mk (M9.out.below (below_step (below_alloc (Below.refl _ _) _) hb10))
               have T10 := Aside0.mk (show w10.heap[w9.heap.size]? = some (.cells #[.int .i64 (L : Int), .int .i64 0, .slice AN (alRx L st nx).length cN, .slice AM (alMx L st nx ms).length cM] 80 (0, 0)) from blk_below (blk_new w9 _) hb10)
               have hz9 : w.heap.size + 1 < w9.heap.size := blk_lt M9.out.r
               have hz9n : w.heap.size + 1 ≠ w9.heap.size := by omega
               have hz10 : w9.heap.size < w10.heap.size := blk_lt T10.out
               have hz11 : w.heap.size + 1 < w10.heap.size := by omega
               have t0 := (blk_cell T10.out 0).trans rfl
               have tf0 := blk_frozen T10.out 0
               have t1 := (blk_cell T10.out 1).trans rfl
               have tf1 := blk_frozen T10.out 1
               have t2 := (blk_cell T10.out 2).trans rfl
               have tf2 := blk_frozen T10.out 2
               have t3 := (blk_cell T10.out 3).trans rfl
               have tf3 := blk_frozen T10.out 3
               have Z10 := Aside0.mk M10.out.r
               have r0 := (blk_cell Z10.out 0).trans rfl
               have rf0 := blk_frozen Z10.out 0
               have r1 := (blk_cell Z10.out 1).trans rfl
               have rf1 := blk_frozen Z10.out 1
               have r2 := (blk_cell Z10.out 2).trans rfl
               have rf2 := blk_frozen Z10.out 2
               have r3 := (blk_cell Z10.out 3).trans rfl
               have rf3 := blk_frozen Z10.out 3
               have hb3 := HBIG.out
               rw [hR] at hb3
               have N10 := Aside0.mk (show Kd.S (Kd.slice 3 (Kd.int .i64)) 22 w10 (w9.heap.size + 1) sN (.slice AR R.length cR) R from Kd.S_lower hN10 (by simp))
               have K10 := Aside0.mk (show Kd.R (Kd.int .i64) 3 w10 (w9.heap.size + 1) sM (.slice AM2 Mk.length cM2) Mk from Kd.R_lower hM10 (by simp))
               have HD10 := Aside0.mk hd10
               clear hb10 hd10 hN10 hM10 hR hMk)
            | fail)
        all_goals
          have hlt1 : w.heap.size + 1 < w9.heap.size + 1 := by omega
          have hlt2 : w9.heap.size < w9.heap.size + 1 := by omega
          have hg1 : w.heap.size ≤ w.heap.size + 1 := by omega
          have hg2 : w.heap.size ≤ w9.heap.size := by omega
          have hg3 : w.heap.size ≤ w9.heap.size + 1 := by omega
          have e := HD3.out
        · rw [if_neg (by have := of_decide_eq_false hb3; omega)] at e
          subst e
          refine bodyPost_ret (resD rfl _ _ (w.heap.size + 1) (.int .i64 (L : Int)) (.int .i64 0) (.slice AR R.length cR) (.slice AM2 Mk.length cM2) (.int .i64 0) rfl rfl (by go_simp) (by go_simp) (by go_simp) (by go_simp)) rfl ?_
          refine ⟨_, _, rfl, ?_, sN, sM, HD10.out, Kd.S_lower (base := w9.heap.size + 1) ?_ hg3, Kd.R_lower (base := w9.heap.size + 1) ?_ hg3⟩
          · with_reducible repeat (first | exact M10.out.b | refine below_set ?_ hg1 | refine below_set ?_ hg2)
          · with_reducible repeat (first | exact N10.out | refine S_set' ?_ hlt1 _ | refine S_set' ?_ hlt2 _)
          · with_reducible repeat (first | exact K10.out | refine R_set' ?_ hlt1 _ | refine R_set' ?_ hlt2 _)
        · rw [if_pos (by have := of_decide_eq_true hb3; omega)] at e
          subst e
          refine bodyPost_ret (resD rfl _ _ (w.heap.size + 1) (.int .i64 0) (.int .i64 0) (.slice none 0 0) (.slice none 0 0) (.int .i64 7) rfl rfl (by go_simp) (by go_simp) (by go_simp) (by go_simp)) rfl ?_
          refine ⟨_, _, rfl, ?_, fun _ => True, fun _ => False, fun _ h => h.elim, Kd.S_nil _ _ _ _ _, Kd.R_nil _ _ _ _ _⟩
          with_reducible repeat (first | exact M10.out.b | refine below_set ?_ hg1 | refine below_set ?_ hg2)
  · obtain ⟨er, her⟩ : ∃ er, aCheck L st nx ms = er := ⟨_, rfl⟩
    have HD : alDet L st nx ms = (0, [], [], er) := by unfold alDet; rw [if_neg hc, her]
    rw [HD]
    clear HD
    rw [her] at hc
    have HER := Aside0.mk her
    have hne : (er != 0) = true := by simpa using hc
    clear her hc
    go_enter Try.func32, Try.ntmps32
    go_wp2_with (go_at_call 72
                 refine (al_Check L st A2 A3 c2 c3 nx ms _ (Kd.C_below HR2.out HB0.out) (Kd.C_below HR3.out HB0.out)).mono ?_
                 rintro e w1 ⟨rfl, hb1⟩
                 rw [HER.out]
                 have B1 := Aside0.mk (below_step HB0.out hb1)
                 have Z1 := Aside0.mk (show w1.heap[w.heap.size + 1]? = some (.cells #[.int .i64 0, .int .i64 0, .slice none 0 0, .slice none 0 0] 80 (0, 0)) from blk_below (blk_newn _ _ _ (by simp)) hb1)
                 have zl : w.heap.size + 1 < w1.heap.size := blk_lt Z1.out
                 have r0 := (blk_cell Z1.out 0).trans rfl
                 have r1 := (blk_cell Z1.out 1).trans rfl
                 have r2 := (blk_cell Z1.out 2).trans rfl
                 have r3 := (blk_cell Z1.out 3).trans rfl
                 have f0 := blk_frozen Z1.out 0
                 have f1 := blk_frozen Z1.out 1
                 have f2 := blk_frozen Z1.out 2
                 have f3 := blk_frozen Z1.out 3
                 clear hb1)
    refine bodyPost_ret (resD rfl _ _ (w.heap.size + 1) (.int .i64 0) (.int .i64 0) (.slice none 0 0) (.slice none 0 0) (.int .i64 er) rfl rfl (by go_simp) (by go_simp) (by go_simp) (by go_simp)) rfl ?_
    refine ⟨_, _, rfl, ?_, fun _ => True, fun _ => False, fun _ h => h.elim, Kd.S_nil _ _ _ _ _, Kd.R_nil _ _ _ _ _⟩
    with_reducible repeat (first | exact B1.out | refine below_set ?_ (Nat.le_succ _))
end Go.Proofs.Ytjabncedfjjbjaa.H
