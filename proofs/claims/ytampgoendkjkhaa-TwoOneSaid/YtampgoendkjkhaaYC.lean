/- Who goes to and fro, and who goes one way: the walk of the given package, with its plain law. -/
import Derived.Test.YtampgoendkjkhaaYB
import Derived.Test.YtampgoendkjkhaaYH
import Derived.Test.YtampgoendkjkhaaCat
import Derived.Test.YtampgoendkjkhaaRow
import Derived.OwnWalk
import Derived.Test.YtampgoendkjkhaaDc
import Derived.Test.YtampgoendkjkhaaNat
import Derived.Test.YtampgoendkjkhaaOpen
import Derived.Test.YtampgoendkjkhaaRows
namespace Go.Proofs.Ytampgoendkjkhaa.H
open Go.RowKit Go.Shelf Go.Proofs.YtampgoendkjkhaaW.PrintWords Go.Proofs.Ytampgoendkjkhaa.DtM
set_option linter.unusedVariables false
set_option linter.unusedSimpArgs false
theorem noB_inT {n q : Int} (h : noB n q = false) : 0 ≤ q ∧ q < n := by
  unfold noB at h
  simp only [Bool.or_eq_false_iff, decide_eq_false_iff_not] at h
  omega
theorem twM_of {L st : Int} {nx : List (List (Int × Int))} {mk : List Int} (h : ckT L st nx mk = 0) : ∃ L' : Nat, L = (L' : Int) ∧ TwM L' st nx mk := by
  unfold ckT at h
  split at h
  · omega
  rename_i h1
  split at h
  · omega
  rename_i h2
  split at h
  · omega
  rename_i h3
  split at h
  · omega
  rename_i h4
  simp only [Bool.or_eq_true, not_or, Bool.not_eq_true] at h4
  obtain ⟨⟨h5, h6⟩, h7⟩ := h4
  refine ⟨L.toNat, by omega, by omega, by omega, by omega, by omega, ?_, fun r hr => ?_, noB_inT h5, fun r hr x hx => ?_, fun m hm => ?_⟩
  · exact Classical.byContradiction fun q => h3 (.inl q)
  · have : ¬ tShape L nx = true := fun q => h3 (.inr q)
    rw [Bool.not_eq_true] at this
    have := List.any_eq_false.1 this r hr
    simp at this
    omega
  · have q1 := List.any_eq_false.1 h6 r hr
    rw [Bool.not_eq_true] at q1
    have q2 := List.any_eq_false.1 q1 x hx
    rw [Bool.not_eq_true] at q2
    unfold eBad at q2
    simp only [Bool.or_eq_false_iff] at q2
    refine ⟨noB_inT q2.1, ?_⟩
    have q3 := q2.2
    simp only [Bool.and_eq_false_iff] at q3
    rcases q3 with q3 | q3
    · exact .inl (by simpa using q3)
    · exact .inr (by simpa using q3)
  · have := List.any_eq_false.1 h7 m hm
    rw [Bool.not_eq_true] at this
    unfold dbit at this
    simp only [Bool.and_eq_false_iff] at this
    rcases this with q | q
    · exact .inl (by simpa using q)
    · exact .inr (by simpa using q)
/-- a table's cells by its numbers -/
def tC (h : Nat → Int) : Array Value := #[.int .i64 (h 0), .int .i64 (h 1), .int .i64 (h 2), .int .i64 (h 3), .int .i64 (h 4)]
theorem tC_cell {h : Nat → Int} {W : World} {b : Nat} (X : W.heap[b]? = some (.cells (tC h) 201 (0, 0))) (p : Nat) (hp : p < 5) : W.cell? ⟨b, p, none⟩ = some (.int .i64 (h p)) := by
  refine (blk_cell X p).trans ?_
  match p, hp with
  | 0, _ => rfl
  | 1, _ => rfl
  | 2, _ => rfl
  | 3, _ => rfl
  | 4, _ => rfl
theorem tC_set {h : Nat → Int} {W : World} {b : Nat} (X : W.heap[b]? = some (.cells (tC h) 201 (0, 0))) (p : Nat) (hp : p < 5) (x : Int) : (W.setCell ⟨b, p, none⟩ (.int .i64 x)).heap[b]? = some (.cells (tC fun q => if q = p then x else h q) 201 (0, 0)) := by
  have := blk_set X p (.int .i64 x)
  match p, hp with
  | 0, _ => exact this
  | 1, _ => exact this
  | 2, _ => exact this
  | 3, _ => exact this
  | 4, _ => exact this
def twDet (L st : Int) (nx : List (List (Int × Int))) (mk : List Int) : Int × List (List Int) × List Int × Int :=
  if ckT L st nx mk = 0 then
    if (lstR L.toNat (twR nx L.toNat st) (twN nx mk L.toNat st) 0).length > 3000 then (0, [], [], 7)
    else (L, lstR L.toNat (twR nx L.toNat st) (twN nx mk L.toNat st) 0, lstM L.toNat (twR nx L.toNat st) (twN nx mk L.toNat st) 0, 0)
  else (0, [], [], ckT L st nx mk)
theorem tw_next {L : Nat} {start : Int} {nx : List (List (Int × Int))} {mk : List Int} (hM : TwM L start nx mk) (W0 : World) (bl bt bn : Nat) (A2 A3 : Option Addr) (c2 c3 : Nat) (hB : TwC W0 bl bt bn L start A2 A3 c2 c3 nx mk) : NextAtW 102 #[.pointer (some ⟨bn, 0, none⟩), .pointer (some ⟨bl, 0, none⟩)] (fT nx) (UT nx.length) L W0 :=
  fun W k a hW hk ha => nxt_calls hM W bl bt bn A2 A3 c2 c3 (hB.below hW) k (UT_mem.1 hk) a ha
theorem tw_markAt {L : Nat} {start : Int} {nx : List (List (Int × Int))} {mk : List Int} (hM : TwM L start nx mk) (W0 : World) (bl bt bn : Nat) (A2 A3 : Option Addr) (c2 c3 : Nat) (hB : TwC W0 bl bt bn L start A2 A3 c2 c3 nx mk) : MarkAtW 103 #[.pointer (some ⟨bl, 0, none⟩), .pointer (some ⟨bt, 0, none⟩)] (mkT nx mk (L : Int)) (UT nx.length) W0 :=
  fun W k hW hk => mrk_calls hM W bl bt bn A2 A3 c2 c3 (hB.below hW) k (UT_mem.1 hk)
/-- Det's memory: the machine's box, the result's, the number of states, the closure 'leaves' -/
structure TdM (w W : World) (b1 b2 bn bl : Nat) (L st : Int) (A2 A3 : Option Addr) (n c2 m c3 : Nat) : Prop where
  b : Below w.heap.size w W
  x : W.heap[b1]? = some (.cells #[.int .i64 L, .int .i64 st, .slice A2 n c2, .slice A3 m c3] 110 (0, 0))
  r : W.heap[b2]? = some (.cells #[.int .i64 0, .int .i64 0, .slice none 0 0, .slice none 0 0] 101 (0, 0))
  n : W.heap[bn]? = some (.cells #[.int .i64 (n : Int)] 3 (0, 0))
  l : W.heap[bl]? = some (.cells #[.func (.func 100) #[] #[.pointer (some ⟨bn, 0, none⟩), .pointer (some ⟨b1, 0, none⟩)]] 202 (0, 0))
theorem TdM.below {w W W' : World} {b1 b2 bn bl : Nat} {L st : Int} {A2 A3 : Option Addr} {n c2 m c3 : Nat} (h : TdM w W b1 b2 bn bl L st A2 A3 n c2 m c3) (hb : Below W.heap.size W W') : TdM w W' b1 b2 bn bl L st A2 A3 n c2 m c3 :=
  ⟨below_step h.b hb, blk_below h.x hb, blk_below h.r hb, blk_below h.n hb, blk_below h.l hb⟩
theorem TdM.turned {w W W' : World} {b1 b2 bn bl b : Nat} {L st : Int} {A2 A3 : Option Addr} {n c2 m c3 : Nat} (h : TdM w W b1 b2 bn bl L st A2 A3 n c2 m c3) (ht : Turned b W W') (h0 : w.heap.size ≤ b) (h1 : b1 ≠ b) (h2 : b2 ≠ b) (h3 : bn ≠ b) (h4 : bl ≠ b) : TdM w W' b1 b2 bn bl L st A2 A3 n c2 m c3 :=
  ⟨ht.below h.b h0, blk_turned h.x ht h1, blk_turned h.r ht h2, blk_turned h.n ht h3, blk_turned h.l ht h4⟩
/-- the first table, filled up to i -/
def hT (nx : List (List (Int × Int))) (L : Int) (i q : Nat) : Int := if q < i then bT nx L q else 0
theorem hT_next {nx : List (List (Int × Int))} {L : Int} {i : Nat} {h : Nat → Int} (hh : ∀ q, h q = if q = i then bT nx L i else hT nx L i q) : h = hT nx L (i + 1) := by
  funext q
  rw [hh]
  unfold hT
  by_cases e : q = i
  · subst e; rw [if_pos rfl, if_pos (Nat.lt_succ_self _)]
  · rw [if_neg e]
    by_cases e2 : q < i
    · rw [if_pos e2, if_pos (by omega)]
    · rw [if_neg e2, if_neg (by omega)]
theorem TdM.twB {w W : World} {b1 b2 bn bl L : Nat} {st : Int} {A2 A3 : Option Addr} {c2 c3 : Nat} {nx : List (List (Int × Int))} {mk : List Int} (h : TdM w W b1 b2 bn bl (L : Int) st A2 A3 nx.length c2 mk.length c3) (hr2 : Kd.C (Kd.slice 111 kD2) w A2 nx.length nx) (hr3 : Kd.C (Kd.int .i64) w A3 mk.length mk) : TwB W b1 bn L st A2 A3 c2 c3 nx mk := ⟨h.x, h.n, Kd.C_below hr2 h.b, Kd.C_below hr3 h.b⟩
set_option maxHeartbeats 8000000 in
set_option maxRecDepth 100000 in
theorem twDet_calls (L st : Int) (A2 A3 : Option Addr) (c2 c3 : Nat) (nx : List (List (Int × Int))) (mk : List Int) (w : World) (hr2 : Kd.C (Kd.slice 111 kD2) w A2 nx.length nx) (hr3 : Kd.C (Kd.int .i64) w A3 mk.length mk) :
    Calls Try.prog 39 (tArgs L st A2 A3 c2 c3 nx mk) w fun e w' => DetPostE w w' e (twDet L st nx mk) := by
  have HR2 := Aside0.mk hr2
  have HR3 := Aside0.mk hr3
  clear hr2 hr3
  have HB0 := Aside0.mk (below_alloc (below_alloc (Below.refl w.heap.size w) (.cells #[.int .i64 L, .int .i64 st, .slice A2 nx.length c2, .slice A3 mk.length c3] 110)) (.cells #[.int .i64 0, .int .i64 0, .slice none 0 0, .slice none 0 0] 101))
  by_cases hc : ckT L st nx mk = 0
  · obtain ⟨L, rfl, hok⟩ := twM_of hc
    have HOK := Aside0.mk hok
    obtain ⟨d, hd⟩ : ∃ d, twDet (L : Int) st nx mk = d := ⟨_, rfl⟩
    have HD := Aside0.mk hd
    unfold twDet at hd
    rw [if_pos hc, Int.toNat_natCast] at hd
    have HD2 := Aside0.mk hd
    have HC := Aside0.mk hc
    rw [HD.out]
    clear hd hc hok HD
    have e1 : ∀ args w, (callFunc 100 args).run Try.prog w = .ok (.enter 100 args) w := enters_of Try.func100 (by kernel_rfl) rfl
    go_enter Try.func39, Try.ntmps39
    go_upto_region 4 with (first
      | (go_at_call 99
         refine (two_Check_at L st A2 A3 c2 c3 nx mk _ (Kd.C_below HR2.out HB0.out) (Kd.C_below HR3.out HB0.out)).mono ?_
         rintro e w1 ⟨rfl, hb1⟩
         rw [HC.out]
         have B1 := Aside0.mk (below_step HB0.out hb1)
         have X1 := Aside0.mk (show w1.heap[w.heap.size]? = some (.cells #[.int .i64 (L : Int), .int .i64 st, .slice A2 nx.length c2, .slice A3 mk.length c3] 110 (0, 0)) from blk_below (blk_alloc (blk_new w _) _) hb1)
         have X2 := Aside0.mk (show w1.heap[w.heap.size + 1]? = some (.cells #[.int .i64 0, .int .i64 0, .slice none 0 0, .slice none 0 0] 101 (0, 0)) from blk_below (blk_newn _ _ _ (by simp)) hb1)
         clear hb1)
      | fail)
    obtain ⟨b1, hb1⟩ : ∃ b1, b1 = w.heap.size := ⟨_, rfl⟩
    obtain ⟨b2, hb2⟩ : ∃ b2, b2 = w.heap.size + 1 := ⟨_, rfl⟩
    rw [← hb2] at X2 ⊢
    replace X1 : Aside0 (w1.heap[b1]? = some (.cells #[.int .i64 (L : Int), .int .i64 st, .slice A2 nx.length c2, .slice A3 mk.length c3] 110 (0, 0))) := ⟨by rw [hb1]; exact X1.out⟩
    rw [← hb1]
    have HZ := Aside0.mk (show w.heap.size = b1 ∧ b2 = b1 + 1 from ⟨hb1.symm, by omega⟩)
    clear hb1 hb2
    have k2 : w1.cell? ⟨b1, 2, none⟩ = some (.slice A2 nx.length c2) := (blk_cell X1.out 2).trans rfl
    have z1 : b1 < w1.heap.size := blk_lt X1.out
    go_upto_region 7 with fail
    obtain ⟨W3, hW3⟩ : ∃ W3, W3 = (((w1.alloc (.cells #[.int .i64 (nx.length : Int)] 3)).alloc (.cells #[.func (.func 100) #[] #[.pointer (some ⟨w1.heap.size, 0, none⟩), .pointer (some ⟨b1, 0, none⟩)]] 202)).alloc (.cells #[.int .i64 0, .int .i64 0, .int .i64 0, .int .i64 0, .int .i64 0] 201)) := ⟨_, rfl⟩
    have B13 := Aside0.mk (show Below w1.heap.size w1 W3 from by rw [hW3]; exact below_alloc (below_alloc (below_alloc (Below.refl _ _) _) _) _)
    have M3 := Aside0.mk (show TdM w W3 b1 b2 w1.heap.size (w1.heap.size + 1) (L : Int) st A2 A3 nx.length c2 mk.length c3 from ⟨below_step B1.out B13.out, blk_below X1.out B13.out, blk_below X2.out B13.out, by rw [hW3]; exact blk_alloc (blk_alloc (blk_new w1 _) _) _, by rw [hW3]; exact blk_alloc (blk_newn _ _ _ (by simp)) _⟩)
    have X7 := Aside0.mk (show W3.heap[w1.heap.size + 1 + 1]? = some (.cells (tC (hT nx (L : Int) 0)) 201 (0, 0)) from by rw [hW3]; exact blk_newn _ _ _ (by simp))
    rw [← hW3]
    clear hW3
    obtain ⟨b7, hb7⟩ : ∃ b7, b7 = w1.heap.size + 1 + 1 := ⟨_, rfl⟩
    obtain ⟨bl, hbl⟩ : ∃ bl, bl = w1.heap.size + 1 := ⟨_, rfl⟩
    obtain ⟨bn, hbn⟩ : ∃ bn, bn = w1.heap.size := ⟨_, rfl⟩
    have HZ2 := Aside0.mk (show w.heap.size ≤ b7 ∧ b1 ≠ b7 ∧ b2 ≠ b7 ∧ bn ≠ b7 ∧ bl ≠ b7 from by
      have h1 := blk_lt X1.out
      have h2 := blk_lt X2.out
      have h3 := B1.out.size
      omega)
    rw [← hb7] at X7 ⊢
    rw [← hbl] at M3 ⊢
    rw [← hbn] at M3 ⊢
    clear hb7 hbl hbn B13 B1 X1 X2 z1 k2
    go_wp2_with fail
    go_loopg [22] 4 (fun gg s22 wr => ∃ i : Nat, i ≤ 4 ∧ 4 - i ≤ gg ∧ s22 = .int .i64 (i : Int) ∧ Aside0 (wr.heap[b7]? = some (.cells (tC (hT nx (L : Int) i)) 201 (0, 0))) ∧ Aside0 (TdM w wr b1 b2 bn bl (L : Int) st A2 A3 nx.length c2 mk.length c3))
    case atStart => exact ⟨0, Nat.zero_le _, by omega, rfl, X7, M3⟩
    case round =>
      obtain ⟨i, hi, hgg, rfl, X7, M3⟩ := hrel
      by_cases hlt : i < 4
      · --< rnd
        have hltz : (i : Int) < 4 := by omega
        have hi5 : (i : Int) < 5 := by omega
        have k7 := tC_cell X7.out i (by omega)
        have f7 := blk_frozen X7.out i
        go_upto_region 11 with fail
        have X8 := Aside0.mk (tC_set X7.out i (by omega) (-1))
        have M8 := Aside0.mk (M3.out.turned (turned_set wr ⟨b7, i, none⟩ (.int .i64 (-1))) HZ2.out.1 HZ2.out.2.1 HZ2.out.2.2.1 HZ2.out.2.2.2.1 HZ2.out.2.2.2.2)
        generalize wr.setCell ⟨b7, i, none⟩ (.int .i64 (-1)) = W8 at X8 M8 ⊢
        clear k7 f7 X7 M3
        have kn : W8.cell? ⟨bn, 0, none⟩ = some (.int .i64 (nx.length : Int)) := (blk_cell M8.out.n 0).trans rfl
        by_cases hin : i < nx.length
        · have hinz : (i : Int) < (nx.length : Int) := by omega
          have kl : W8.cell? ⟨bl, 0, none⟩ = some (.func (.func 100) #[] #[.pointer (some ⟨bn, 0, none⟩), .pointer (some ⟨b1, 0, none⟩)]) := (blk_cell M8.out.l 0).trans rfl
          have kL : W8.cell? ⟨b1, 0, none⟩ = some (.int .i64 (L : Int)) := (blk_cell M8.out.x 0).trans rfl
          generalize hh8 : (fun q => if q = i then (-1 : Int) else hT nx (L : Int) i q) = h8 at X8
          have H8 := Aside0.mk hh8
          clear hh8
          have p0 := tC_cell X8.out 0 (by omega)
          have p1 := tC_cell X8.out 1 (by omega)
          have p2 := tC_cell X8.out 2 (by omega)
          have p3 := tC_cell X8.out 3 (by omega)
          have p4 := tC_cell X8.out 4 (by omega)
          have HCL := Aside0.mk (bg_calls HOK.out W8 b1 bn A2 A3 c2 c3 (M8.out.twB HR2.out HR3.out) (h8 0) (h8 1) (h8 2) (h8 3) (h8 4) (i : Int) (L : Int) (by omega) hinz ⟨by omega, by omega⟩)
          have HBT := Aside0.mk (show bT nx (L : Int) i = bgF (dT nx) (L : Int) i from by unfold bT; rw [if_pos hinz])
          rw [← HBT.out] at HCL
          go_wp2_with (first
            | (go_at_call 100
               refine HCL.out.mono ?_
               rintro e w9 ⟨rfl, hb9⟩
               have B9 := Aside0.mk hb9
               have X89 := Aside0.mk (blk_below X8.out hb9)
               have k7 := tC_cell X89.out i (by omega)
               have f7 := blk_frozen X89.out i
               clear hb9 p0 p1 p2 p3 p4 kl kL kn)
            | fail)
          have X9 := Aside0.mk (show (w9.setCell ⟨b7, i, none⟩ (.int .i64 (bT nx (L : Int) i))).heap[b7]? = some (.cells (tC (hT nx (L : Int) (i + 1))) 201 (0, 0)) from by
            rw [← hT_next (i := i) (h := fun q => if q = i then bT nx (L : Int) i else h8 q) (fun q => by
              rw [← H8.out]
              by_cases e : q = i
              · rw [if_pos e, if_pos e]
              · rw [if_neg e, if_neg e]; exact if_neg e)]
            exact tC_set X89.out i (by omega) _)
          have M9 := Aside0.mk ((M8.out.below B9.out).turned (turned_set w9 ⟨b7, i, none⟩ (.int .i64 (bT nx (L : Int) i))) HZ2.out.1 HZ2.out.2.1 HZ2.out.2.2.1 HZ2.out.2.2.2.1 HZ2.out.2.2.2.2)
          go_roundg (4 - (i + 1))
          case measure => omega
          case rel => exact ⟨i + 1, by omega, by omega, by go_num, X9, M9⟩
        · have X9 := Aside0.mk (show W8.heap[b7]? = some (.cells (tC (hT nx (L : Int) (i + 1))) 201 (0, 0)) from by
            rw [← hT_next (i := i) (h := fun q => if q = i then (-1 : Int) else hT nx (L : Int) i q) (fun q => by
              have : bT nx (L : Int) i = -1 := by unfold bT; rw [if_neg (by omega)]
              rw [this])]
            exact X8.out)
          have hinz : ¬ (i : Int) < (nx.length : Int) := by omega
          go_wp2_with fail
          go_roundg (4 - (i + 1))
          case measure => omega
          case rel => exact ⟨i + 1, by omega, by omega, by go_num, X9, M8⟩
        --> rnd
      · have hie : i = 4 := by omega
        subst hie
        clear hgg
        have kl : wr.cell? ⟨bl, 0, none⟩ = some (.func (.func 100) #[] #[.pointer (some ⟨bn, 0, none⟩), .pointer (some ⟨b1, 0, none⟩)]) := (blk_cell M3.out.l 0).trans rfl
        have kL : wr.cell? ⟨b1, 0, none⟩ = some (.int .i64 (L : Int)) := (blk_cell M3.out.x 0).trans rfl
        have kS : wr.cell? ⟨b1, 1, none⟩ = some (.int .i64 st) := (blk_cell M3.out.x 1).trans rfl
        have p0 := tC_cell X7.out 0 (by omega)
        have p1 := tC_cell X7.out 1 (by omega)
        have p2 := tC_cell X7.out 2 (by omega)
        have p3 := tC_cell X7.out 3 (by omega)
        have p4 := tC_cell X7.out 4 (by omega)
        generalize hh8 : hT nx (L : Int) 4 = h8 at X7 p0 p1 p2 p3 p4
        have H8 := Aside0.mk hh8
        clear hh8
        have HCL := Aside0.mk (bg_calls HOK.out wr b1 bn A2 A3 c2 c3 (M3.out.twB HR2.out HR3.out) (h8 0) (h8 1) (h8 2) (h8 3) (h8 4) st (L : Int) HOK.out.st.1 HOK.out.st.2 ⟨by omega, by omega⟩)
        go_upto_region 15 with (first
          | (go_at_call 100
             refine HCL.out.mono ?_
             rintro e w9 ⟨rfl, hb9⟩
             have B9 := Aside0.mk hb9
             have X79 := Aside0.mk (blk_below X7.out hb9)
             have k7 := tC_cell X79.out 4 (by omega)
             have f7 := blk_frozen X79.out 4
             clear hb9 p0 p1 p2 p3 p4 kl kL kS)
          | fail)
        have X9 := Aside0.mk (tC_set X79.out 4 (by omega) (bgF (dT nx) (L : Int) st))
        have M9 := Aside0.mk ((M3.out.below B9.out).turned (turned_set w9 ⟨b7, 4, none⟩ (.int .i64 (bgF (dT nx) (L : Int) st))) HZ2.out.1 HZ2.out.2.1 HZ2.out.2.2.1 HZ2.out.2.2.2.1 HZ2.out.2.2.2.2)
        generalize w9.setCell ⟨b7, 4, none⟩ (.int .i64 (bgF (dT nx) (L : Int) st)) = W9 at X9 M9 ⊢
        clear k7 f7 HCL B9 X79 X7 M3
        have p0 : W9.cell? ⟨b7, 0, none⟩ = some (.int .i64 (bT nx (L : Int) 0)) := (tC_cell X9.out 0 (by omega)).trans (by rw [← H8.out]; rfl)
        have p1 : W9.cell? ⟨b7, 1, none⟩ = some (.int .i64 (bT nx (L : Int) 1)) := (tC_cell X9.out 1 (by omega)).trans (by rw [← H8.out]; rfl)
        have p2 : W9.cell? ⟨b7, 2, none⟩ = some (.int .i64 (bT nx (L : Int) 2)) := (tC_cell X9.out 2 (by omega)).trans (by rw [← H8.out]; rfl)
        have p3 : W9.cell? ⟨b7, 3, none⟩ = some (.int .i64 (bT nx (L : Int) 3)) := (tC_cell X9.out 3 (by omega)).trans (by rw [← H8.out]; rfl)
        have p4 : W9.cell? ⟨b7, 4, none⟩ = some (.int .i64 (bgF (dT nx) (L : Int) st)) := (tC_cell X9.out 4 (by omega)).trans rfl
        have kL : W9.cell? ⟨b1, 0, none⟩ = some (.int .i64 (L : Int)) := (blk_cell M9.out.x 0).trans rfl
        have HEX := Aside0.mk (show Calls Try.prog 101 #[.int .i64 (L : Int), .agg #[.int .i64 (bT nx (L : Int) 0), .int .i64 (bT nx (L : Int) 1), .int .i64 (bT nx (L : Int) 2), .int .i64 (bT nx (L : Int) 3), .int .i64 (bgF (dT nx) (L : Int) st)], .func (.func 102) #[] #[.pointer (some ⟨bn, 0, none⟩), .pointer (some ⟨bl, 0, none⟩)], .func (.func 103) #[] #[.pointer (some ⟨bl, 0, none⟩), .pointer (some ⟨b1, 0, none⟩)], .int .i64 1048576] W9 (fun e w' => ∃ vN vM : Value, e = .returned (.tuple #[.agg #[.int .i64 (L : Int), .int .i64 0, vN, vM], .bool true]) ∧ Below W9.heap.size W9 w' ∧
            ∃ sN sM : Nat → Prop, (∀ k, sM k → ¬ sN k) ∧ Kd.S (Kd.slice 3 (Kd.int .i64)) 22 w' W9.heap.size sN vN (twR nx L st) ∧ Kd.R (Kd.int .i64) 3 w' W9.heap.size sM vM (twN nx mk L st)) from
          exploreW_calls 102 103 _ _ (enters_of Try.func102 (by kernel_rfl) rfl) (enters_of Try.func103 (by kernel_rfl) rfl) L _ _ _ _ _ 1048576 (fT nx) (mkT nx mk (L : Int)) (UT nx.length) W9 (tw_next HOK.out W9 bl b1 bn A2 A3 c2 c3 ⟨M9.out.twB HR2.out HR3.out, M9.out.l⟩) (tw_markAt HOK.out W9 bl b1 bn A2 A3 c2 c3 ⟨M9.out.twB HR2.out HR3.out, M9.out.l⟩) HOK.out.L1 (by have := HOK.out.L4; omega) (UT_mem.2 (k0T_in HOK.out)) (fun k a hk ha => UT_mem.2 (fT_in HOK.out (UT_mem.1 hk) ha)) (fun k hk => by
            have h := UT_mem.1 hk
            have h4 := HOK.out.n4
            obtain ⟨h0, h1, h2, h3, h5⟩ := h
            exact ⟨⟨by omega, by omega⟩, ⟨by omega, by omega⟩, ⟨by omega, by omega⟩, ⟨by omega, by omega⟩, ⟨by omega, by omega⟩⟩) (by have := UT_len HOK.out.n4; omega) (by have := UT_len HOK.out.n4; omega))
        clear H8 X9
        obtain ⟨bg, hbg⟩ : ∃ bg, decide ((3000 : Int) < ((lstR L (twR nx L st) (twN nx mk L st) 0).length : Int)) = bg := ⟨_, rfl⟩
        cases bg
        all_goals
          have HBIG := Aside0.mk hbg
          clear hbg
          go_wp2_with (first
            | (go_at_call 101
               refine HEX.out.mono ?_
               rintro e w10 ⟨vN, vM, rfl, hb10, sN, sM, hd10, hN10, hM10⟩
               obtain ⟨AN, cN, rfl⟩ := Kd.S_slice hN10
               obtain ⟨AM, cM, rfl⟩ := Kd.R_slice hM10
               have M10 := Aside0.mk (M9.out.below hb10)
               have N10 := Aside0.mk (Kd.S_reads' hN10).2
               have K10 := Aside0.mk (Kd.R_reads' hM10).2
               clear hb10 hd10 hN10 hM10 p0 p1 p2 p3 p4 kL)
            | (go_at_call 98
               refine (smallest_calls AN AM cN cM L 0 (twR nx L st) (twN nx mk L st) _ (Kd.C_below N10.out.2 (below_alloc (Below.refl _ _) _)) N10.out.1 (Kd.C_below K10.out.2 (below_alloc (Below.refl _ _) _)) K10.out.1 (tw_det HOK.out) (tw_det HOK.out).pos).mono ?_
               rintro e w11 ⟨vN, vM, rfl, hb11, sN, sM, hd11, hN11, hM11⟩
               obtain ⟨R, hR⟩ : ∃ R, lstR L (twR nx L st) (twN nx mk L st) 0 = R := ⟨_, rfl⟩
               obtain ⟨Mk, hMk⟩ : ∃ Mk, lstM L (twR nx L st) (twN nx mk L st) 0 = Mk := ⟨_, rfl⟩
               replace hN11 := hR ▸ (show Kd.S (Kd.slice 3 (Kd.int .i64)) 22 w11 _ sN vN (lstR L (twR nx L st) (twN nx mk L st) 0) from hN11)
               replace hM11 := hMk ▸ (show Kd.R (Kd.int .i64) 3 w11 _ sM vM (lstM L (twR nx L st) (twN nx mk L st) 0) from hM11)
               have HD3 := Aside0.mk (hMk ▸ hR ▸ HD2.out)
               obtain ⟨AR, cR, rfl⟩ := Kd.S_slice hN11
               obtain ⟨AM2, cM2, rfl⟩ := Kd.R_slice hM11
               have M11 := Aside0.mk (M10.out.below (below_step (below_alloc (Below.refl _ _) _) hb11))
               have T11 := Aside0.mk (show w11.heap[w10.heap.size]? = some (.cells #[.int .i64 (L : Int), .int .i64 0, .slice AN (twR nx L st).length cN, .slice AM (twN nx mk L st).length cM] 101 (0, 0)) from blk_below (blk_new w10 _) hb11)
               have hz9 : b2 < w10.heap.size := blk_lt M10.out.r
               have hz9n : b2 ≠ w10.heap.size := by omega
               have hz10 : w10.heap.size < w11.heap.size := blk_lt T11.out
               have hz11 : b2 < w11.heap.size := by omega
               have HWZ := Aside0.mk (show w.heap.size ≤ b2 ∧ b2 < w10.heap.size from ⟨by have := HZ.out; omega, hz9⟩)
               have t0 := (blk_cell T11.out 0).trans rfl
               have tf0 := blk_frozen T11.out 0
               have t1 := (blk_cell T11.out 1).trans rfl
               have tf1 := blk_frozen T11.out 1
               have t2 := (blk_cell T11.out 2).trans rfl
               have tf2 := blk_frozen T11.out 2
               have t3 := (blk_cell T11.out 3).trans rfl
               have tf3 := blk_frozen T11.out 3
               have Z11 := Aside0.mk M11.out.r
               have r0 := (blk_cell Z11.out 0).trans rfl
               have rf0 := blk_frozen Z11.out 0
               have r1 := (blk_cell Z11.out 1).trans rfl
               have rf1 := blk_frozen Z11.out 1
               have r2 := (blk_cell Z11.out 2).trans rfl
               have rf2 := blk_frozen Z11.out 2
               have r3 := (blk_cell Z11.out 3).trans rfl
               have rf3 := blk_frozen Z11.out 3
               have hb3 := HBIG.out
               rw [hR] at hb3
               have N11 := Aside0.mk (show Kd.S (Kd.slice 3 (Kd.int .i64)) 22 w11 (w10.heap.size + 1) sN (.slice AR R.length cR) R from Kd.S_lower hN11 (by simp))
               have K11 := Aside0.mk (show Kd.R (Kd.int .i64) 3 w11 (w10.heap.size + 1) sM (.slice AM2 Mk.length cM2) Mk from Kd.R_lower hM11 (by simp))
               have HD11 := Aside0.mk hd11
               clear hb11 hd11 hN11 hM11 hR hMk)
            | fail)
        all_goals
          have hlt1 : b2 < w10.heap.size + 1 := by have := HWZ.out; omega
          have hlt2 : w10.heap.size < w10.heap.size + 1 := by omega
          have hg1 : w.heap.size ≤ b2 := HWZ.out.1
          have hg2 : w.heap.size ≤ w10.heap.size := by have := HWZ.out; omega
          have hg3 : w.heap.size ≤ w10.heap.size + 1 := by omega
          have e := HD3.out
        · rw [if_neg (by have := of_decide_eq_false hb3; omega)] at e
          subst e
          refine bodyPost_ret (resD rfl _ _ b2 (.int .i64 (L : Int)) (.int .i64 0) (.slice AR R.length cR) (.slice AM2 Mk.length cM2) (.int .i64 0) rfl rfl (by go_simp) (by go_simp) (by go_simp) (by go_simp)) rfl ?_
          refine ⟨_, _, _, _, rfl, ?_, sN, sM, HD11.out, Kd.S_lower (base := w10.heap.size + 1) ?_ hg3, Kd.R_lower (base := w10.heap.size + 1) ?_ hg3⟩
          · with_reducible repeat (first | exact M11.out.b | refine below_set ?_ hg1 | refine below_set ?_ hg2)
          · with_reducible repeat (first | exact N11.out | refine S_set' ?_ hlt1 _ | refine S_set' ?_ hlt2 _)
          · with_reducible repeat (first | exact K11.out | refine R_set' ?_ hlt1 _ | refine R_set' ?_ hlt2 _)
        · rw [if_pos (by have := of_decide_eq_true hb3; omega)] at e
          subst e
          refine bodyPost_ret (resD rfl _ _ b2 (.int .i64 0) (.int .i64 0) (.slice none 0 0) (.slice none 0 0) (.int .i64 7) rfl rfl (by go_simp) (by go_simp) (by go_simp) (by go_simp)) rfl ?_
          refine detPostE_none _ _ _ ?_
          with_reducible repeat (first | exact M11.out.b | refine below_set ?_ hg1 | refine below_set ?_ hg2)
  · obtain ⟨er, her⟩ : ∃ er, ckT L st nx mk = er := ⟨_, rfl⟩
    have HD : twDet L st nx mk = (0, [], [], er) := by unfold twDet; rw [if_neg hc, her]
    rw [HD]
    clear HD
    rw [her] at hc
    have HER := Aside0.mk her
    have hne : (er != 0) = true := by simpa using hc
    clear her hc
    go_enter Try.func39, Try.ntmps39
    go_wp2_with (go_at_call 99
                 refine (two_Check_at L st A2 A3 c2 c3 nx mk _ (Kd.C_below HR2.out HB0.out) (Kd.C_below HR3.out HB0.out)).mono ?_
                 rintro e w1 ⟨rfl, hb1⟩
                 rw [HER.out]
                 have B1 := Aside0.mk (below_step HB0.out hb1)
                 have Z1 := Aside0.mk (show w1.heap[w.heap.size + 1]? = some (.cells #[.int .i64 0, .int .i64 0, .slice none 0 0, .slice none 0 0] 101 (0, 0)) from blk_below (blk_newn _ _ _ (by simp)) hb1)
                 have zl : w.heap.size + 1 < w1.heap.size := blk_lt Z1.out
                 have r0 := (blk_cell Z1.out 0).trans rfl
                 have r1 := (blk_cell Z1.out 1).trans rfl
                 have r2 := (blk_cell Z1.out 2).trans rfl
                 have r3 := (blk_cell Z1.out 3).trans rfl
                 have f0 := blk_frozen Z1.out 0
                 have f1 := blk_frozen Z1.out 1
                 have f2 := blk_frozen Z1.out 2
                 have f3 := blk_frozen Z1.out 3
                 clear hb1)
    refine bodyPost_ret (resD rfl _ _ (w.heap.size + 1) (.int .i64 0) (.int .i64 0) (.slice none 0 0) (.slice none 0 0) (.int .i64 er) rfl rfl (by go_simp) (by go_simp) (by go_simp) (by go_simp)) rfl ?_
    refine detPostE_none _ _ _ ?_
    with_reducible repeat (first | exact B1.out | refine below_set ?_ (Nat.le_succ _))
end Go.Proofs.Ytampgoendkjkhaa.H

namespace Go.Proofs.Ytampgoendkjkhaa.H
open Go.RowKit Go.Shelf Go.Proofs.YtampgoendkjkhaaW.PrintWords Go.Proofs.Ytampgoendkjkhaa.DtM
set_option linter.unusedVariables false
set_option linter.unusedSimpArgs false
theorem lit_rows3 {W : World} {b n1 n2 n3 c1 c2 c3 : Nat} {A1 A2 A3 : Option Addr} {x y z : List Int} (h0 : W.cell? ⟨b, 0, none⟩ = some (.slice A1 n1 c1)) (h1 : W.cell? ⟨b, 1, none⟩ = some (.slice A2 n2 c2)) (h2 : W.cell? ⟨b, 2, none⟩ = some (.slice A3 n3 c3)) (e1 : n1 = x.length) (e2 : n2 = y.length) (e3 : n3 = z.length) (g1 : n1 ≤ c1) (g2 : n2 ≤ c2) (g3 : n3 ≤ c3) (q1 : Kd.C (Kd.int .i64) W A1 n1 x) (q2 : Kd.C (Kd.int .i64) W A2 n2 y) (q3 : Kd.C (Kd.int .i64) W A3 n3 z) : Kd.C (Kd.slice 3 (Kd.int .i64)) W (some ⟨b, 0, none⟩) 3 [x, y, z] := by
  subst e1 e2 e3
  refine ⟨rfl, by decide, fun _ => ⟨_, rfl, fun j p hj => ?_⟩⟩
  match j, hj with
  | 0, hj =>
    obtain rfl : x = p := by simpa using hj
    refine ⟨[.slice A1 x.length c1], rfl, ⟨A1, c1, rfl, g1, q1⟩, fun i u hu => ?_⟩
    match i, hu with
    | 0, hu =>
      obtain rfl : Value.slice A1 x.length c1 = u := by simpa using hu
      simpa [Addr.add] using h0
  | 1, hj =>
    obtain rfl : y = p := by simpa using hj
    refine ⟨[.slice A2 y.length c2], rfl, ⟨A2, c2, rfl, g2, q2⟩, fun i u hu => ?_⟩
    match i, hu with
    | 0, hu =>
      obtain rfl : Value.slice A2 y.length c2 = u := by simpa using hu
      simpa [Addr.add, Kd.slice] using h1
  | 2, hj =>
    obtain rfl : z = p := by simpa using hj
    refine ⟨[.slice A3 z.length c3], rfl, ⟨A3, c3, rfl, g3, q3⟩, fun i u hu => ?_⟩
    match i, hu with
    | 0, hu =>
      obtain rfl : Value.slice A3 z.length c3 = u := by simpa using hu
      simpa [Addr.add, Kd.slice] using h2
/-- what the run tells -/
def runB (nx : List (List (Int × Int))) (mk : List Int) (L : Nat) (st : Int) (w : List Int) : Bool := rnF (dT nx) (TpF L w) (((w.length + 2 : Nat) : Int) - 1) (fun p q => decide (0 < p) && decide (mk.getD q.toNat 0 = 1)) ((w.length + 2) * nx.length + 1) 0 st
theorem may_in {L : Int} {w : List Int} (h : mayF L w = 0) : w.length ≤ 60 ∧ ∀ a ∈ w, 0 ≤ a ∧ a < L := by
  unfold mayF at h
  split at h
  · cases h
  · split at h
    · cases h
    · split at h
      · cases h
      · rename_i h3
        refine ⟨by omega, fun a ha => ?_⟩
        have : ¬ (decide (a < 0) || decide (L ≤ a)) = true := fun q => h3 (List.any_eq_true.2 ⟨a, ha, q⟩)
        simp at this
        omega
set_option maxHeartbeats 8000000 in
set_option maxRecDepth 100000 in
theorem run_calls (L : Nat) (st : Int) (A2 A3 : Option Addr) (c2 c3 : Nat) (nx : List (List (Int × Int))) (mk : List Int) (WA : Option Addr) (wc : Nat) (v : List Int) (w : World) (hr2 : Kd.C (Kd.slice 111 kD2) w A2 nx.length nx) (hr3 : Kd.C (Kd.int .i64) w A3 mk.length mk) (hrw : Kd.C (Kd.int .i64) w WA v.length v) (hwc : v.length ≤ wc) (hck : ckT (L : Int) st nx mk = 0) (hM : TwM L st nx mk) :
    Calls Try.prog 40 #[.agg #[.int .i64 (L : Int), .int .i64 st, .slice A2 nx.length c2, .slice A3 mk.length c3], .slice WA v.length wc] w fun e w' => (∃ k : Int, e = .returned (.tuple #[.bool (if mayF (L : Int) v = 0 then runB nx mk L st v else false), .int .i64 k, .int .i64 (mayF (L : Int) v)])) ∧ Below w.heap.size w w' := by
  have HR2 := Aside0.mk hr2
  have HR3 := Aside0.mk hr3
  have HRW := Aside0.mk (And.intro hrw hwc)
  have HM := Aside0.mk hM
  have HC := Aside0.mk hck
  clear hr2 hr3 hrw hwc hM hck
  have B0 := Aside0.mk (below_alloc (Below.refl w.heap.size w) (.cells #[.int .i64 (L : Int), .int .i64 st, .slice A2 nx.length c2, .slice A3 mk.length c3] 110))
  obtain ⟨my, hmy⟩ : ∃ my, my = mayF (L : Int) v := ⟨_, rfl⟩
  rw [← hmy]
  have HMY := Aside0.mk hmy
  obtain ⟨bb, hbb⟩ : ∃ bb, bb = (if my = 0 then runB nx mk L st v else false) := ⟨_, rfl⟩
  rw [← hbb]
  have HBB := Aside0.mk hbb
  clear hmy hbb
  go_enter Try.func40, Try.ntmps40
  go_upto_region 4 with (first
    | (go_at_call 99
       refine (two_Check_at (L : Int) st A2 A3 c2 c3 nx mk _ (Kd.C_below HR2.out B0.out) (Kd.C_below HR3.out B0.out)).mono ?_
       rintro e w1 ⟨rfl, hb1⟩
       rw [HC.out]
       have B1 := Aside0.mk (below_step B0.out hb1)
       have X1 := Aside0.mk (show w1.heap[w.heap.size]? = some (.cells #[.int .i64 (L : Int), .int .i64 st, .slice A2 nx.length c2, .slice A3 mk.length c3] 110 (0, 0)) from blk_below (blk_new w _) hb1)
       clear hb1)
    | fail)
  obtain ⟨b1, hb1⟩ : ∃ b1, b1 = w.heap.size := ⟨_, rfl⟩
  replace X1 : Aside0 (w1.heap[b1]? = some (.cells #[.int .i64 (L : Int), .int .i64 st, .slice A2 nx.length c2, .slice A3 mk.length c3] 110 (0, 0))) := ⟨by rw [hb1]; exact X1.out⟩
  rw [← hb1]
  clear hb1
  have k0 : w1.cell? ⟨b1, 0, none⟩ = some (.int .i64 (L : Int)) := (blk_cell X1.out 0).trans rfl
  have HMC := Aside0.mk (word_May.calls (L : Int) WA wc v my w1 (Kd.C_below HRW.out.1 B1.out) HRW.out.2 (by rw [HMY.out]; rfl))
  by_cases h0 : my = 0
  · have HMI := Aside0.mk (may_in (L := (L : Int)) (w := v) (by rw [← HMY.out]; exact h0))
    have HLA := Aside0.mk (Tp_la HMI.out.2)
    have hbb : bb = runB nx mk L st v := by rw [HBB.out, if_pos h0]
    subst h0
    obtain ⟨L1, hL1⟩ : ∃ L1 : Int, L1 = (L : Int) + 1 := ⟨_, rfl⟩
    have hw : IntKind.i64.wrap ((L : Int) + 1) = L1 := (IntWalk.i64_in _ (by have := HM.out.L4; omega)).trans hL1.symm
    have HL1 := Aside0.mk hL1
    clear hL1
    obtain ⟨tl, htl⟩ : ∃ tl, tl = v.length + 2 := ⟨_, rfl⟩
    obtain ⟨N, hN⟩ : ∃ N, N = tl * nx.length := ⟨_, rfl⟩
    have HRB := Aside0.mk (show rnF (dT nx) (TpF L v) ((tl : Int) - 1) (fun p q => decide (0 < p) && decide (mk.getD q.toNat 0 = 1)) (N + 1 - 0) 0 st = bb from by rw [hbb, hN, htl]; rfl)
    have HTL := Aside0.mk (And.intro htl hN)
    have HN := Aside0.mk (show N ≤ 248 from by
      rw [hN]
      have h1 := HMI.out.1
      have h2 := HM.out.n4
      exact Nat.le_trans (Nat.mul_le_mul (by omega : tl ≤ 62) h2) (Nat.le_refl _))
    have hmul : IntKind.i64.wrap ((tl : Int) * (nx.length : Int)) = (N : Int) := by
      have : (tl : Int) * (nx.length : Int) = (N : Int) := by rw [hN]; exact (Int.natCast_mul _ _).symm
      rw [this]
      exact IntWalk.i64_in _ (by have := HN.out; omega)
    clear hbb htl hN
    go_upto_region 7 with (first
      | (go_at_call 104
         refine HMC.out.mono ?_
         rintro e w2 ⟨rfl, hb2⟩
         have B2 := Aside0.mk hb2.below
         clear hb2 k0)
      | fail)
    have B12 := Aside0.mk (below_step B1.out B2.out)
    have X12 := Aside0.mk (blk_below X1.out B2.out)
    clear HMC B1 X1 B2 B0
    have k0 : w2.cell? ⟨b1, 0, none⟩ = some (.int .i64 (L : Int)) := (blk_cell X12.out 0).trans rfl
    have z1 : b1 < w2.heap.size := blk_lt X12.out
    go_upto_region 8 with (first
      | (go_at_call 72
         refine calls_let ?_
         intro W5 hW5
         have B5 := Aside0.mk (show Below w2.heap.size w2 W5 from by rw [hW5]; repeat (first | exact Below.refl _ _ | apply below_alloc))
         have q0 : W5.cell? ⟨w2.heap.size, 0, none⟩ = some (.int .i64 (L : Int)) := by rw [hW5]; go_simp
         have q1 : W5.cell? ⟨w2.heap.size + 1, 0, none⟩ = some (.int .i64 L1) := by rw [hW5]; go_simp
         have q2 : W5.cell? ⟨w2.heap.size + 1 + 1, 0, none⟩ = some (.slice (some ⟨w2.heap.size, 0, none⟩) 1 1) := by rw [hW5]; go_simp
         have q3 : W5.cell? ⟨w2.heap.size + 1 + 1, 1, none⟩ = some (.slice WA v.length wc) := by rw [hW5]; go_simp
         have q4 : W5.cell? ⟨w2.heap.size + 1 + 1, 2, none⟩ = some (.slice (some ⟨w2.heap.size + 1, 0, none⟩) 1 1) := by rw [hW5]; go_simp
         clear hW5
         refine (slices_Concat.calls (some ⟨w2.heap.size + 1 + 1, 0, none⟩) 3 [[(L : Int)], v, [L1]] (tapeF L v) W5 (lit_rows3 q2 q3 q4 rfl rfl rfl (Nat.le_refl _) HRW.out.2 (Nat.le_refl _) (lit_C q0) (Kd.C_below HRW.out.1 (below_step B12.out B5.out)) (lit_C q1)) (Nat.le_refl _) (by
           unfold slices_Concat.f tapeF
           rw [if_pos (by have := HMI.out.1; simp; omega), HL1.out]
           simp)).mono ?_
         rintro e w6 ⟨vt, rfl, hR6, hB6⟩
         obtain ⟨TA, TC, rfl⟩ := Kd.R_slice hR6
         have hlt6 : (tapeF L v).length = tl := by rw [tape_len, HTL.out.1]
         rw [hlt6] at hR6 ⊢
         have R6 := Aside0.mk (Kd.R_reads' hR6).2.2
         have B6 := Aside0.mk (below_step B5.out hB6)
         have HT6 := Aside0.mk hlt6
         clear q0 q1 q2 q3 q4 hR6 hB6 B5 hlt6 k0 z1)
      | fail)
    have B16 := Aside0.mk (below_step B12.out B6.out)
    have X16 := Aside0.mk (blk_below X12.out B6.out)
    clear B12 X12 B6 HMY hw
    have k1 : w6.cell? ⟨b1, 1, none⟩ = some (.int .i64 st) := (blk_cell X16.out 1).trans rfl
    have HMS := Aside0.mk (show (fun W' => W'.cell? ⟨b1, 1, none⟩ = some (.int .i64 st)) w6.drew from k1)
    refine wp_region_held_drew (S := (fun W' => W'.cell? ⟨b1, 1, none⟩ = some (.int .i64 st))) (by kernel_rfl) ?_ (fun hHeld => ?_)
    · (try dsimp only); exact HMS.out
    refine wpAnyH_take (i := 0) (v := ?_) rfl (by kernel_rfl) (by kernel_rfl) (by kernel_rfl) (fun _ _ _ h => h) (Or.inl ⟨by kernel_rfl, ?_⟩) (by assumption) ?_
    rotate_left 1
    · intro w hSw; (try dsimp only at hSw); go_simp; (try with_reducible rfl)
    (try simp only [Act.put, List.getElem_toArray, List.getElem_cons_zero, List.getElem_cons_succ, List.setIfInBounds_toArray, List.set_cons_zero, List.set_cons_succ])
    refine wpAnyH_take (i := 1) (v := ?_) rfl (by kernel_rfl) (by kernel_rfl) (by kernel_rfl) (fun _ _ _ h => h) (Or.inl ⟨by kernel_rfl, ?_⟩) (by assumption) ?_
    rotate_left 1
    · intro w hSw; (try dsimp only at hSw); go_simp; (try with_reducible rfl)
    (try simp only [Act.put, List.getElem_toArray, List.getElem_cons_zero, List.getElem_cons_succ, List.setIfInBounds_toArray, List.set_cons_zero, List.set_cons_succ])
    refine wpAnyH_take (i := 2) (v := ?_) rfl (by kernel_rfl) (by kernel_rfl) (by kernel_rfl) (fun _ _ _ h => h) (Or.inl ⟨by kernel_rfl, ?_⟩) (by assumption) ?_
    rotate_left 1
    · intro w hSw; (try dsimp only at hSw); go_simp; (try with_reducible rfl)
    (try simp only [Act.put, List.getElem_toArray, List.getElem_cons_zero, List.getElem_cons_succ, List.setIfInBounds_toArray, List.set_cons_zero, List.set_cons_succ])
    refine wpAnyH_take (i := 3) (v := ?_) rfl (by kernel_rfl) (by kernel_rfl) (by kernel_rfl) (fun _ _ _ h => h) (Or.inl ⟨by kernel_rfl, ?_⟩) (by assumption) ?_
    rotate_left 1
    · intro w hSw; (try dsimp only at hSw); go_simp; (try with_reducible rfl)
    (try simp only [Act.put, List.getElem_toArray, List.getElem_cons_zero, List.getElem_cons_succ, List.setIfInBounds_toArray, List.set_cons_zero, List.set_cons_succ])
    refine wpAnyH_done (by kernel_rfl) ?_ _
    have B17 := Aside0.mk (below_step B16.out (below_drew1 (Below.refl w6.heap.size w6)))
    have X17 := Aside0.mk (show w6.drew.heap[b1]? = _ from X16.out)
    have R7 := Aside0.mk (Kd.C_below R6.out (below_drew1 (Below.refl w6.heap.size w6)))
    clear B16 X16 R6 k1 HMS
    generalize w6.drew = W7 at B17 X17 R7 ⊢
    have hbigt : tl ≤ 9223372036854775807 := by have := HMI.out.1; have := HTL.out.1; omega
    go_wp2_with fail
    go_loopg [5, 10, 11] (N + 2) (fun gg s5 s10 s11 wr => ∃ (k : Nat) (p q : Int), k ≤ N + 1 ∧ N + 2 - k ≤ gg ∧ s5 = .int .i64 (k : Int) ∧ s10 = .int .i64 p ∧ s11 = .int .i64 q ∧ Aside0 (0 ≤ q ∧ q < (nx.length : Int)) ∧ Aside0 (-1 ≤ p ∧ p ≤ (tl : Int)) ∧ Aside0 (rnF (dT nx) (TpF L v) ((tl : Int) - 1) (fun p q => decide (0 < p) && decide (mk.getD q.toNat 0 = 1)) (N + 1 - k) p q = bb) ∧ Aside0 (Below W7.heap.size W7 wr))
    case atStart => exact ⟨0, 0, st, Nat.zero_le _, by omega, rfl, rfl, rfl, ⟨HM.out.st⟩, ⟨by omega, by omega⟩, HRB, ⟨Below.refl _ _⟩⟩
    case round =>
      obtain ⟨k, p, q, hk, hgg, rfl, rfl, rfl, HQ, HP, HRI, BR⟩ := hrel
      have XR := Aside0.mk (blk_below X17.out BR.out)
      by_cases hin : 0 ≤ p ∧ p < (tl : Int)
      · have hp0 : 0 ≤ p := hin.1
        have hpt : p < (tl : Int) := hin.2
        have k2 : wr.cell? ⟨b1, 2, none⟩ = some (.slice A2 nx.length c2) := (blk_cell XR.out 2).trans rfl
        by_cases hkN : k = N + 1
        · --< full
          have HB := Aside0.mk (show (false : Bool) = bb from by
            have h := HRI.out
            rw [hkN, Nat.sub_self] at h
            simp only [rnF] at h
            rw [if_pos ⟨hp0, by omega⟩] at h
            exact h)
          subst hkN
          have hgt : ((N + 1 : Nat) : Int) > (N : Int) := by omega
          go_wp2_with fail
          go_ret3
          exact ⟨⟨0, by rw [HB.out]; rfl⟩, below_step B17.out BR.out⟩
          --> full
        · have hgt : ¬ ((k : Nat) : Int) > (N : Int) := by omega
          have HRI2 := Aside0.mk (show rnF (dT nx) (TpF L v) ((tl : Int) - 1) (fun p q => decide (0 < p) && decide (mk.getD q.toNat 0 = 1)) (N + 1 - (k + 1)) (p + (dT nx q (TpF L v p)).2) (dT nx q (TpF L v p)).1 = bb from by
            have h := HRI.out
            rw [show N + 1 - k = (N + 1 - (k + 1)) + 1 from by omega] at h
            simp only [rnF] at h
            rw [if_pos ⟨hp0, by omega⟩] at h
            exact h)
          --< step
          obtain ⟨p', rfl⟩ : ∃ p' : Nat, p = (p' : Int) := ⟨p.toNat, by omega⟩
          have hpl : p' < (tapeF L v).length := by rw [HT6.out]; omega
          have hTp : TpF L v (p' : Int) = (tapeF L v)[p'] := by
            unfold TpF
            rw [Int.toNat_natCast, List.getD_eq_getElem?_getD, List.getElem?_eq_getElem hpl]
            rfl
          obtain ⟨q', a', hq, ha, e1, e2, e3⟩ := HM.out.at HQ.out.1 HQ.out.2 (HLA.out (p' : Int))
          obtain ⟨tp, et, hct⟩ := int_get (Kd.C_below R7.out BR.out) rfl hpl
          rw [← hTp, e2] at hct
          have HMV := Aside0.mk (HM.out.ok.mv q (TpF L v (p' : Int)) HQ.out.1 HQ.out.2 (HLA.out _))
          have HST := Aside0.mk (HM.out.ok.st q (TpF L v (p' : Int)) HQ.out.1 HQ.out.2 (HLA.out _))
          rw [e3] at HRI2 HMV HST
          subst e1 et
          obtain ⟨ad, c4, ad2, eA, z0, z1, z2⟩ := d_get (Kd.C_below HR2.out (below_step B17.out BR.out)) hq ha
          subst eA
          have za : (a' : Int) < ((nx[q'].length : Nat) : Int) := by omega
          have zq : (q' : Int) < ((nx.length : Nat) : Int) := by omega
          generalize nx[q'].length = rl at z0 za
          obtain ⟨x0, hx0⟩ : ∃ x0, x0 = nx[q'][a'].1 := ⟨_, rfl⟩
          obtain ⟨x1, hx1⟩ : ∃ x1, x1 = nx[q'][a'].2 := ⟨_, rfl⟩
          rw [← hx0] at z1 HRI2 HST
          rw [← hx1] at z2 HRI2 HMV
          clear hx0 hx1 e3 e2 hTp hpl
          have HMS := Aside0.mk (show ∀ W', Below wr.heap.size wr W' → (fun W' => W'.cell? ⟨b1, 2, none⟩ = some (.slice (some ad) nx.length c2) ∧ W'.cell? (ad.add q') = some (.slice (some ad2) rl c4) ∧ W'.cell? (tp.add p') = some (.int .i64 (a' : Int)) ∧ W'.cell? (ad2.add (a' * 2)) = some (.int .i64 x0) ∧ W'.cell? ⟨(ad2.add (a' * 2)).block, (ad2.add (a' * 2)).off + 1, none⟩ = some (.int .i64 x1)) W' from fun W' hb => ⟨pw_cell_below hb k2, pw_cell_below hb z0, pw_cell_below hb hct, pw_cell_below hb z1, pw_cell_below hb z2⟩)
          go_upto_region 12 with fail
          clear k2 z0 z1 z2 hct
          refine wp_region_held_drew (S := (fun W' => W'.cell? ⟨b1, 2, none⟩ = some (.slice (some ad) nx.length c2) ∧ W'.cell? (ad.add q') = some (.slice (some ad2) rl c4) ∧ W'.cell? (tp.add p') = some (.int .i64 (a' : Int)) ∧ W'.cell? (ad2.add (a' * 2)) = some (.int .i64 x0) ∧ W'.cell? ⟨(ad2.add (a' * 2)).block, (ad2.add (a' * 2)).off + 1, none⟩ = some (.int .i64 x1))) (by kernel_rfl) ?_ (fun hHeld => ?_)
          · (try dsimp only); (first | (refine HMS.out _ ?_; (repeat (first | exact Below.refl _ _ | apply below_drew1 | apply below_alloc)); done) | fail)
          refine wpAnyH_take (i := 0) (v := ?_) rfl (by kernel_rfl) (by kernel_rfl) (by kernel_rfl) (fun _ _ _ h => h) (Or.inl ⟨by kernel_rfl, ?_⟩) (by assumption) ?_
          rotate_left 1
          · intro w hSw; (try dsimp only at hSw); go_simp; (try with_reducible rfl)
          (try simp only [Act.put, List.getElem_toArray, List.getElem_cons_zero, List.getElem_cons_succ, List.setIfInBounds_toArray, List.set_cons_zero, List.set_cons_succ])
          refine wpAnyH_take (i := 1) (v := ?_) rfl (by kernel_rfl) (by kernel_rfl) (by kernel_rfl) (fun _ _ _ h => h) (Or.inl ⟨by kernel_rfl, ?_⟩) (by assumption) ?_
          rotate_left 1
          · intro w hSw; (try dsimp only at hSw); go_simp; (try with_reducible rfl)
          (try simp only [Act.put, List.getElem_toArray, List.getElem_cons_zero, List.getElem_cons_succ, List.setIfInBounds_toArray, List.set_cons_zero, List.set_cons_succ])
          refine wpAnyH_take (i := 2) (v := ?_) rfl (by kernel_rfl) (by kernel_rfl) (by kernel_rfl) (fun _ _ _ h => h) (Or.inl ⟨by kernel_rfl, ?_⟩) (by assumption) ?_
          rotate_left 1
          · intro w hSw; (try dsimp only at hSw); go_simp; (try with_reducible rfl)
          (try simp only [Act.put, List.getElem_toArray, List.getElem_cons_zero, List.getElem_cons_succ, List.setIfInBounds_toArray, List.set_cons_zero, List.set_cons_succ])
          refine wpAnyH_take (i := 3) (v := ?_) rfl (by kernel_rfl) (by kernel_rfl) (by kernel_rfl) (fun _ _ _ h => h) (Or.inl ⟨by kernel_rfl, ?_⟩) (by assumption) ?_
          rotate_left 1
          · intro w hSw; (try dsimp only at hSw); go_simp; (try with_reducible rfl)
          (try simp only [Act.put, List.getElem_toArray, List.getElem_cons_zero, List.getElem_cons_succ, List.setIfInBounds_toArray, List.set_cons_zero, List.set_cons_succ])
          refine wpAnyH_take (i := 4) (v := ?_) rfl (by kernel_rfl) (by kernel_rfl) (by kernel_rfl) (fun _ _ _ h => h) (Or.inl ⟨by kernel_rfl, ?_⟩) (by assumption) ?_
          rotate_left 1
          · intro w hSw; (try dsimp only at hSw); go_simp; (try with_reducible rfl)
          (try simp only [Act.put, List.getElem_toArray, List.getElem_cons_zero, List.getElem_cons_succ, List.setIfInBounds_toArray, List.set_cons_zero, List.set_cons_succ])
          refine wpAnyH_take (i := 5) (v := ?_) rfl (by kernel_rfl) (by kernel_rfl) (by kernel_rfl) (fun _ _ _ h => h) (Or.inl ⟨by kernel_rfl, ?_⟩) (by assumption) ?_
          rotate_left 1
          · intro w hSw; (try dsimp only at hSw); go_simp; (try with_reducible rfl)
          (try simp only [Act.put, List.getElem_toArray, List.getElem_cons_zero, List.getElem_cons_succ, List.setIfInBounds_toArray, List.set_cons_zero, List.set_cons_succ])
          refine wpAnyH_take (i := 6) (v := ?_) rfl (by kernel_rfl) (by kernel_rfl) (by kernel_rfl) (fun _ _ _ h => h) (Or.inl ⟨by kernel_rfl, ?_⟩) (by assumption) ?_
          rotate_left 1
          · intro w hSw; (try dsimp only at hSw); go_simp; (try with_reducible rfl)
          (try simp only [Act.put, List.getElem_toArray, List.getElem_cons_zero, List.getElem_cons_succ, List.setIfInBounds_toArray, List.set_cons_zero, List.set_cons_succ])
          refine wpAnyH_take (i := 7) (v := ?_) rfl (by kernel_rfl) (by kernel_rfl) (by kernel_rfl) (fun _ _ _ h => h) (Or.inl ⟨by kernel_rfl, ?_⟩) (by assumption) ?_
          rotate_left 1
          · intro w hSw; (try dsimp only at hSw); go_simp; (try with_reducible rfl)
          (try simp only [Act.put, List.getElem_toArray, List.getElem_cons_zero, List.getElem_cons_succ, List.setIfInBounds_toArray, List.set_cons_zero, List.set_cons_succ])
          refine wpAnyH_take (i := 8) (v := ?_) rfl (by kernel_rfl) (by kernel_rfl) (by kernel_rfl) (fun _ _ _ h => h) (Or.inl ⟨by kernel_rfl, ?_⟩) (by assumption) ?_
          rotate_left 1
          · intro w hSw; (try dsimp only at hSw); go_simp; (try with_reducible rfl)
          (try simp only [Act.put, List.getElem_toArray, List.getElem_cons_zero, List.getElem_cons_succ, List.setIfInBounds_toArray, List.set_cons_zero, List.set_cons_succ])
          refine wpAnyH_take (i := 9) (v := ?_) rfl (by kernel_rfl) (by kernel_rfl) (by kernel_rfl) (fun _ _ _ h => h) (Or.inl ⟨by kernel_rfl, ?_⟩) (by assumption) ?_
          rotate_left 1
          · intro w hSw; (try dsimp only at hSw); go_simp; (try with_reducible rfl)
          (try simp only [Act.put, List.getElem_toArray, List.getElem_cons_zero, List.getElem_cons_succ, List.setIfInBounds_toArray, List.set_cons_zero, List.set_cons_succ])
          refine wpAnyH_take (i := 10) (v := ?_) rfl (by kernel_rfl) (by kernel_rfl) (by kernel_rfl) (fun _ _ _ h => h) (Or.inl ⟨by kernel_rfl, ?_⟩) (by assumption) ?_
          rotate_left 1
          · intro w hSw; (try dsimp only at hSw); go_simp; (try with_reducible rfl)
          (try simp only [Act.put, List.getElem_toArray, List.getElem_cons_zero, List.getElem_cons_succ, List.setIfInBounds_toArray, List.set_cons_zero, List.set_cons_succ])
          refine wpAnyH_ready (rs := [11]) (by kernel_rfl) (by simp) ?_
          refine AllReadyH.cons rfl (fun K hK => ?_) AllReadyH.nil
          rw [if_pos (by kernel_rfl)]
          go_simp
          (try go_simp)
          refine hK.out _ _ ?_ (fun hHeld => ?_)
          · (try dsimp only); (first | (refine HMS.out _ ?_; (repeat (first | exact Below.refl _ _ | apply below_drew1 | apply below_alloc)); done) | fail)
          clear hK K
          (try simp only [Act.put, List.getElem_toArray, List.getElem_cons_zero, List.getElem_cons_succ, List.setIfInBounds_toArray, List.set_cons_zero, List.set_cons_succ])
          refine wpAnyH_ready (rs := [12]) (by kernel_rfl) (by simp) ?_
          refine AllReadyH.cons rfl (fun K hK => ?_) AllReadyH.nil
          rw [if_pos (by kernel_rfl)]
          go_simp
          (try go_simp)
          refine hK.out _ _ ?_ (fun hHeld => ?_)
          · (try dsimp only); (first | (refine HMS.out _ ?_; (repeat (first | exact Below.refl _ _ | apply below_drew1 | apply below_alloc)); done) | fail)
          clear hK K
          (try simp only [Act.put, List.getElem_toArray, List.getElem_cons_zero, List.getElem_cons_succ, List.setIfInBounds_toArray, List.set_cons_zero, List.set_cons_succ])
          refine wpAnyH_done (by kernel_rfl) ?_ _
          have B8 := Aside0.mk (show Below wr.heap.size wr (wr.alloc (.cells #[.int .i64 x0, .int .i64 x1] 111)).drew from below_drew1 (below_alloc (Below.refl _ _) _))
          have X8 := Aside0.mk (show (wr.alloc (.cells #[.int .i64 x0, .int .i64 x1] 111)).drew.heap[wr.heap.size]? = some (.cells #[.int .i64 x0, .int .i64 x1] 111 (0, 0)) from blk_new wr _)
          obtain ⟨b12, hb12⟩ : ∃ b12, b12 = wr.heap.size := ⟨_, rfl⟩
          go_upto_region 13 with fail
          generalize (wr.alloc (.cells #[.int .i64 x0, .int .i64 x1] 111)).drew = W8 at B8 X8 ⊢
          rw [← hb12] at X8 ⊢
          clear hb12 HMS
          obtain ⟨p2, hp2⟩ : ∃ p2 : Int, p2 = (p' : Int) + x1 := ⟨_, rfl⟩
          have hw2 : IntKind.i64.wrap ((p' : Int) + x1) = p2 := (IntWalk.i64_in _ (by have := HMV.out; omega)).trans hp2.symm
          rw [← hp2] at HRI2
          have HP2 := Aside0.mk (show -1 ≤ p2 ∧ p2 ≤ (tl : Int) from by have := HMV.out; omega)
          clear hp2
          have k80 : W8.cell? ⟨b12, 0, none⟩ = some (.int .i64 x0) := (blk_cell X8.out 0).trans rfl
          have k81 : W8.cell? ⟨b12, 1, none⟩ = some (.int .i64 x1) := (blk_cell X8.out 1).trans rfl
          have HMS8 := Aside0.mk (show (fun W' => W'.cell? ⟨b12, 0, none⟩ = some (.int .i64 x0) ∧ W'.cell? ⟨b12, 1, none⟩ = some (.int .i64 x1)) W8.drew from ⟨k80, k81⟩)
          refine wp_region_held_drew (S := (fun W' => W'.cell? ⟨b12, 0, none⟩ = some (.int .i64 x0) ∧ W'.cell? ⟨b12, 1, none⟩ = some (.int .i64 x1))) (by kernel_rfl) ?_ (fun hHeld => ?_)
          · (try dsimp only); exact HMS8.out
          refine wpAnyH_take (i := 0) (v := ?_) rfl (by kernel_rfl) (by kernel_rfl) (by kernel_rfl) (fun _ _ _ h => h) (Or.inl ⟨by kernel_rfl, ?_⟩) (by assumption) ?_
          rotate_left 1
          · intro w hSw; (try dsimp only at hSw); go_simp; (try with_reducible rfl)
          (try simp only [Act.put, List.getElem_toArray, List.getElem_cons_zero, List.getElem_cons_succ, List.setIfInBounds_toArray, List.set_cons_zero, List.set_cons_succ])
          refine wpAnyH_take (i := 1) (v := ?_) rfl (by kernel_rfl) (by kernel_rfl) (by kernel_rfl) (fun _ _ _ h => h) (Or.inl ⟨by kernel_rfl, ?_⟩) (by assumption) ?_
          rotate_left 1
          · intro w hSw; (try dsimp only at hSw); go_simp; (try with_reducible rfl)
          (try simp only [Act.put, List.getElem_toArray, List.getElem_cons_zero, List.getElem_cons_succ, List.setIfInBounds_toArray, List.set_cons_zero, List.set_cons_succ])
          refine wpAnyH_take (i := 2) (v := ?_) rfl (by kernel_rfl) (by kernel_rfl) (by kernel_rfl) (fun _ _ _ h => h) (Or.inl ⟨by kernel_rfl, ?_⟩) (by assumption) ?_
          rotate_left 1
          · intro w hSw; (try dsimp only at hSw); go_simp; (try with_reducible rfl)
          (try simp only [Act.put, List.getElem_toArray, List.getElem_cons_zero, List.getElem_cons_succ, List.setIfInBounds_toArray, List.set_cons_zero, List.set_cons_succ])
          refine wpAnyH_take (i := 3) (v := ?_) rfl (by kernel_rfl) (by kernel_rfl) (by kernel_rfl) (fun _ _ _ h => h) (Or.inl ⟨by kernel_rfl, ?_⟩) (by assumption) ?_
          rotate_left 1
          · intro w hSw; (try dsimp only at hSw); go_simp; (try with_reducible rfl)
          (try simp only [Act.put, List.getElem_toArray, List.getElem_cons_zero, List.getElem_cons_succ, List.setIfInBounds_toArray, List.set_cons_zero, List.set_cons_succ])
          refine wpAnyH_take (i := 4) (v := ?_) rfl (by kernel_rfl) (by kernel_rfl) (by kernel_rfl) (fun _ _ _ h => h) (Or.inl ⟨by kernel_rfl, ?_⟩) (by assumption) ?_
          rotate_left 1
          · intro w hSw; (try dsimp only at hSw); go_simp; (try with_reducible rfl)
          (try simp only [Act.put, List.getElem_toArray, List.getElem_cons_zero, List.getElem_cons_succ, List.setIfInBounds_toArray, List.set_cons_zero, List.set_cons_succ])
          refine wpAnyH_take (i := 5) (v := ?_) rfl (by kernel_rfl) (by kernel_rfl) (by kernel_rfl) (fun _ _ _ h => h) (Or.inl ⟨by kernel_rfl, ?_⟩) (by assumption) ?_
          rotate_left 1
          · intro w hSw; (try dsimp only at hSw); go_simp; (try with_reducible rfl)
          (try simp only [Act.put, List.getElem_toArray, List.getElem_cons_zero, List.getElem_cons_succ, List.setIfInBounds_toArray, List.set_cons_zero, List.set_cons_succ])
          refine wpAnyH_take (i := 6) (v := ?_) rfl (by kernel_rfl) (by kernel_rfl) (by kernel_rfl) (fun _ _ _ h => h) (Or.inl ⟨by kernel_rfl, ?_⟩) (by assumption) ?_
          rotate_left 1
          · intro w hSw; (try dsimp only at hSw); go_simp; (try with_reducible rfl)
          (try simp only [Act.put, List.getElem_toArray, List.getElem_cons_zero, List.getElem_cons_succ, List.setIfInBounds_toArray, List.set_cons_zero, List.set_cons_succ])
          refine wpAnyH_take (i := 7) (v := ?_) rfl (by kernel_rfl) (by kernel_rfl) (by kernel_rfl) (fun _ _ _ h => h) (Or.inl ⟨by kernel_rfl, ?_⟩) (by assumption) ?_
          rotate_left 1
          · intro w hSw; (try dsimp only at hSw); go_simp; (try with_reducible rfl)
          (try simp only [Act.put, List.getElem_toArray, List.getElem_cons_zero, List.getElem_cons_succ, List.setIfInBounds_toArray, List.set_cons_zero, List.set_cons_succ])
          refine wpAnyH_done (by kernel_rfl) ?_ _
          have BR8 := Aside0.mk (below_step BR.out (below_drew1 B8.out))
          have HQ2 := Aside0.mk HST.out
          have hkb : (k : Int) ≤ 300 := by have := HN.out; omega
          go_wp2_with fail
          go_roundg (N + 2 - (k + 1))
          case measure => omega
          case rel => exact ⟨k + 1, p2, x0, by omega, by omega, by go_num, rfl, rfl, HQ2, HP2, HRI2, BR8⟩
          --> step
      · have HACC := Aside0.mk (show (decide (0 < p) && decide (mk.getD q.toNat 0 = 1)) = bb from by
          have h := HRI.out
          cases hf : N + 1 - k with
          | zero => rw [hf] at h; simp only [rnF] at h; rw [if_neg (by omega)] at h; exact h
          | succ f => rw [hf] at h; simp only [rnF] at h; rw [if_neg (by omega)] at h; exact h)
        by_cases hp0 : p < 0
        · --< left
          have HB := Aside0.mk (show (false : Bool) = bb from by rw [← HACC.out, decide_eq_false (by omega), Bool.false_and])
          have hpm : p = -1 := by have := HP.out; omega
          subst hpm
          clear hin
          go_wp2_with fail
          go_ret3
          exact ⟨⟨_, by rw [← HB.out]; rfl⟩, below_step B17.out BR.out⟩
          --> left
        · --< right
          have hpm : p = (tl : Int) := by have := HP.out; omega
          subst hpm
          have htp : (0 : Int) < (tl : Int) := by have := HTL.out.1; omega
          obtain ⟨q', rfl⟩ : ∃ q' : Nat, q = (q' : Int) := ⟨q.toNat, by have := HQ.out; omega⟩
          have hqm : q' < mk.length := by have := HQ.out; have := HM.out.ml; omega
          obtain ⟨ads, es, cs0⟩ := int_get (Kd.C_below HR3.out (below_step B17.out BR.out)) rfl hqm
          have HB := Aside0.mk (show decide (mk[q'] = 1) = bb from by
            rw [← HACC.out, decide_eq_true htp, Bool.true_and, Int.toNat_natCast, List.getD_eq_getElem?_getD, List.getElem?_eq_getElem hqm]
            rfl)
          generalize mk[q'] = y at cs0 HB
          subst es
          have k3 : wr.cell? ⟨b1, 3, none⟩ = some (.slice (some ads) mk.length c3) := (blk_cell XR.out 3).trans rfl
          have hqz : (q' : Int) < (mk.length : Int) := by omega
          have hlt : ¬ (tl : Int) < (tl : Int) := by omega
          by_cases hy : y = 1
          · have h1 : (y == 1) = true := by simp [hy]
            have HB2 := Aside0.mk (show (true : Bool) = bb from by rw [← HB.out, decide_eq_true hy])
            clear hin hy
            go_wp2_with fail
            go_ret3
            exact ⟨⟨_, by rw [← HB2.out]; rfl⟩, below_step B17.out BR.out⟩
          · have h1 : (y == 1) = false := by simp [hy]
            have HB2 := Aside0.mk (show (false : Bool) = bb from by rw [← HB.out, decide_eq_false hy])
            clear hin hy
            go_wp2_with fail
            go_ret3
            exact ⟨⟨_, by rw [← HB2.out]; rfl⟩, below_step B17.out BR.out⟩
          --> right
  · have hne : (my != 0) = true := bne_iff_ne.2 h0
    have HBF := Aside0.mk (show bb = false from by rw [HBB.out, if_neg h0])
    clear h0
    go_wp2_with (first
      | (go_at_call 104
         refine HMC.out.mono ?_
         rintro e w2 ⟨rfl, hb2⟩
         have B2 := Aside0.mk (below_step B1.out hb2.below)
         clear hb2 k0)
      | fail)
    go_ret3
    exact ⟨⟨0, by rw [HBF.out]; rfl⟩, B2.out⟩
end Go.Proofs.Ytampgoendkjkhaa.H

namespace Go.Proofs.Ytampgoendkjkhaa.H
open Go.RowKit Go.Shelf Go.Proofs.YtampgoendkjkhaaW.PrintWords Go.Proofs.Ytampgoendkjkhaa.DtM
set_option linter.unusedVariables false
set_option linter.unusedSimpArgs false
theorem aft_run {L : Nat} {R : List (List Int)} {M : List Int} (h : DetOk L R M) : ∀ (v : List Int) (q : Nat), q < R.length → (∀ a ∈ v, 0 ≤ a ∧ a < (L : Int)) → aftF R (q : Int) v = some (runS (nxF R) q (v.map Int.toNat) : Int) ∧ runS (nxF R) q (v.map Int.toNat) < R.length
  | [], q, hq, _ => ⟨rfl, hq⟩
  | a :: v, q, hq, hv => by
    have ha := hv a (List.mem_cons_self ..)
    have hr := nx_row h hq
    have hn := nxF_at h hq (show a.toNat < L from by omega)
    have hlt : nxF R q a.toNat < R.length := by
      have hrow : R.getD q [] ∈ R := by rw [List.getD_eq_getElem?_getD, List.getElem?_eq_getElem hq]; exact List.getElem_mem hq
      have hal : a.toNat < (R.getD q []).length := by rw [hr]; omega
      have := h.tos _ hrow ((R.getD q [])[a.toNat]) (List.getElem_mem hal)
      have e : (R.getD q []).getD a.toNat 0 = (R.getD q [])[a.toNat] := by rw [List.getD_eq_getElem?_getD, List.getElem?_eq_getElem hal]; rfl
      rw [← e, hn] at this
      omega
    obtain ⟨g1, g2⟩ := aft_run h v (nxF R q a.toNat) hlt (fun b hb => hv b (List.mem_cons_of_mem _ hb))
    refine ⟨?_, g2⟩
    unfold aftF at g1 ⊢
    rw [List.foldlM_cons, if_pos ⟨by omega, by omega, ha.1, by rw [Int.toNat_natCast, hr]; omega⟩, Int.toNat_natCast, hn]
    exact g1
set_option maxHeartbeats 8000000 in
set_option maxRecDepth 100000 in
theorem acc_calls (L : Nat) (AN AM : Option Addr) (cN cM : Nat) (R : List (List Int)) (M : List Int) (WA : Option Addr) (wc : Nat) (v : List Int) (w : World) (hR : Kd.C (Kd.slice 3 (Kd.int .i64)) w AN R.length R) (hcN : R.length ≤ cN) (hMk : Kd.C (Kd.int .i64) w AM M.length M) (hcM : M.length ≤ cM) (hrw : Kd.C (Kd.int .i64) w WA v.length v) (hwc : v.length ≤ wc) (hck : dCheck (L : Int) 0 R M = 0) (hok : DetOk L R M) :
    Calls Try.prog 41 #[.agg #[.int .i64 (L : Int), .int .i64 0, .slice AN R.length cN, .slice AM M.length cM], .slice WA v.length wc] w fun e w' => e = .returned (.tuple #[.bool (if mayF (L : Int) v = 0 then decide (mkF M (runS (nxF R) 0 (v.map Int.toNat)) = 1) else false), .int .i64 (mayF (L : Int) v)]) ∧ Below w.heap.size w w' := by
  have HR := Aside0.mk (And.intro hR hcN)
  have HMK := Aside0.mk (And.intro hMk hcM)
  have HRW := Aside0.mk (And.intro hrw hwc)
  have HOK := Aside0.mk hok
  have HC := Aside0.mk hck
  clear hR hcN hMk hcM hrw hwc hck hok
  have B0 := Aside0.mk (below_alloc (Below.refl w.heap.size w) (.cells #[.int .i64 (L : Int), .int .i64 0, .slice AN R.length cN, .slice AM M.length cM] 101))
  obtain ⟨my, hmy⟩ : ∃ my, my = mayF (L : Int) v := ⟨_, rfl⟩
  rw [← hmy]
  have HMY := Aside0.mk hmy
  obtain ⟨bb, hbb⟩ : ∃ bb, bb = (if my = 0 then decide (mkF M (runS (nxF R) 0 (v.map Int.toNat)) = 1) else false) := ⟨_, rfl⟩
  rw [← hbb]
  have HBB := Aside0.mk hbb
  clear hmy hbb
  go_enter Try.func41, Try.ntmps41
  go_upto_region 4 with (first
    | (go_at_call 97
       refine (det_Check_at (L : Int) 0 AN AM cN cM R M _ (Kd.C_below HR.out.1 B0.out) (Kd.C_below HMK.out.1 B0.out)).mono ?_
       rintro e w1 ⟨rfl, hb1⟩
       rw [HC.out]
       have B1 := Aside0.mk (below_step B0.out hb1)
       have X1 := Aside0.mk (show w1.heap[w.heap.size]? = some (.cells #[.int .i64 (L : Int), .int .i64 0, .slice AN R.length cN, .slice AM M.length cM] 101 (0, 0)) from blk_below (blk_new w _) hb1)
       clear hb1)
    | fail)
  obtain ⟨b2, hb2⟩ : ∃ b2, b2 = w.heap.size := ⟨_, rfl⟩
  replace X1 : Aside0 (w1.heap[b2]? = some (.cells #[.int .i64 (L : Int), .int .i64 0, .slice AN R.length cN, .slice AM M.length cM] 101 (0, 0))) := ⟨by rw [hb2]; exact X1.out⟩
  rw [← hb2]
  clear hb2
  have k0 : w1.cell? ⟨b2, 0, none⟩ = some (.int .i64 (L : Int)) := (blk_cell X1.out 0).trans rfl
  have HMC := Aside0.mk (word_May.calls (L : Int) WA wc v my w1 (Kd.C_below HRW.out.1 B1.out) HRW.out.2 (by rw [HMY.out]; rfl))
  by_cases h0 : my = 0
  · have hmi : v.length ≤ 60 ∧ ∀ a ∈ v, 0 ≤ a ∧ a < (L : Int) := by
      have h := HMY.out
      rw [h0] at h
      have h := h.symm
      unfold mayF at h
      split at h
      · cases h
      · split at h
        · cases h
        · split at h
          · cases h
          · rename_i h3
            refine ⟨by omega, fun a ha => ?_⟩
            have : ¬ (decide (a < 0) || decide ((L : Int) ≤ a)) = true := fun q => h3 (List.any_eq_true.2 ⟨a, ha, q⟩)
            simp at this
            omega
    have HMI := Aside0.mk hmi
    have HAR := Aside0.mk (aft_run HOK.out v 0 HOK.out.pos hmi.2)
    have hbb : bb = decide (mkF M (runS (nxF R) 0 (v.map Int.toNat)) = 1) := by rw [HBB.out, if_pos h0]
    subst h0
    obtain ⟨r, hr⟩ : ∃ r, r = runS (nxF R) 0 (v.map Int.toNat) := ⟨_, rfl⟩
    rw [← hr] at hbb HAR
    have hrm : r < M.length := by rw [HOK.out.len]; exact HAR.out.2
    have hyy : mkF M r = M[r] := by unfold mkF; rw [List.getD_eq_getElem?_getD, List.getElem?_eq_getElem hrm]; rfl
    rw [hyy] at hbb
    clear hr hyy hmi
    go_upto_region 7 with (first
      | (go_at_call 104
         refine HMC.out.mono ?_
         rintro e w2 ⟨rfl, hb2⟩
         have B2 := Aside0.mk hb2.below
         clear hb2 k0)
      | fail)
    have B12 := Aside0.mk (below_step B1.out B2.out)
    have X12 := Aside0.mk (blk_below X1.out B2.out)
    clear HMC B1 X1 B2 B0
    obtain ⟨ads, es, cs0⟩ := int_get (Kd.C_below HMK.out.1 B12.out) rfl hrm
    generalize M[r] = y at cs0 hbb
    subst es
    have HBY := Aside0.mk hbb
    clear hbb
    have hrz : (r : Int) < (M.length : Int) := by omega
    have k0 : w2.cell? ⟨b2, 0, none⟩ = some (.int .i64 (L : Int)) := (blk_cell X12.out 0).trans rfl
    have k1 : w2.cell? ⟨b2, 1, none⟩ = some (.int .i64 0) := (blk_cell X12.out 1).trans rfl
    have k2 : w2.cell? ⟨b2, 2, none⟩ = some (.slice AN R.length cN) := (blk_cell X12.out 2).trans rfl
    have k3 : w2.cell? ⟨b2, 3, none⟩ = some (.slice (some ads) M.length cM) := (blk_cell X12.out 3).trans rfl
    have HMS := Aside0.mk (show ∀ W', Below w2.heap.size w2 W' → (fun W' => W'.cell? ⟨b2, 0, none⟩ = some (.int .i64 (L : Int)) ∧ W'.cell? ⟨b2, 1, none⟩ = some (.int .i64 0) ∧ W'.cell? ⟨b2, 2, none⟩ = some (.slice AN R.length cN) ∧ W'.cell? ⟨b2, 3, none⟩ = some (.slice (some ads) M.length cM) ∧ W'.cell? (ads.add r) = some (.int .i64 y)) W' from fun W' hb => ⟨pw_cell_below hb k0, pw_cell_below hb k1, pw_cell_below hb k2, pw_cell_below hb k3, pw_cell_below hb cs0⟩)
    have HAF := Aside0.mk (fun (W' : World) (hb : Below w2.heap.size w2 W') => det_After.calls (L : Int) 0 AN cN R (some ads) cM M 0 WA wc v (r : Int) W' (Kd.C_below HR.out.1 (below_step B12.out hb)) HR.out.2 (Kd.C_below HMK.out.1 (below_step B12.out hb)) HMK.out.2 (Kd.C_below HRW.out.1 (below_step B12.out hb)) HRW.out.2 (by unfold det_After.f; rw [if_pos (by have := HMI.out.1; omega)]; exact HAR.out.1))
    clear k0 k1 k2 k3 cs0
    by_cases hy : y = 1
    · have h1 : (y == 1) = true := by simp [hy]
      have HB2 := Aside0.mk (show (true : Bool) = bb from by rw [HBY.out, decide_eq_true hy])
      clear hy
      refine wp_region_held_drew (S := (fun W' => W'.cell? ⟨b2, 0, none⟩ = some (.int .i64 (L : Int)) ∧ W'.cell? ⟨b2, 1, none⟩ = some (.int .i64 0) ∧ W'.cell? ⟨b2, 2, none⟩ = some (.slice AN R.length cN) ∧ W'.cell? ⟨b2, 3, none⟩ = some (.slice (some ads) M.length cM) ∧ W'.cell? (ads.add r) = some (.int .i64 y))) (by kernel_rfl) ?_ (fun hHeld => ?_)
      · (try dsimp only); (first | exact HMS.out _ (below_drew1 (Below.refl _ _)) | exact HMS.out _ B3.out | fail)
      refine wpAnyH_take (i := 0) (v := ?_) rfl (by kernel_rfl) (by kernel_rfl) (by kernel_rfl) (fun _ _ _ h => h) (Or.inl ⟨by kernel_rfl, ?_⟩) (by assumption) ?_
      rotate_left 1
      · intro w hSw; (try dsimp only at hSw); go_simp; (try with_reducible rfl)
      (try simp only [Act.put, List.getElem_toArray, List.getElem_cons_zero, List.getElem_cons_succ, List.setIfInBounds_toArray, List.set_cons_zero, List.set_cons_succ])
      refine wpAnyH_take (i := 1) (v := ?_) rfl (by kernel_rfl) (by kernel_rfl) (by kernel_rfl) (fun _ _ _ h => h) (Or.inl ⟨by kernel_rfl, ?_⟩) (by assumption) ?_
      rotate_left 1
      · intro w hSw; (try dsimp only at hSw); go_simp; (try with_reducible rfl)
      (try simp only [Act.put, List.getElem_toArray, List.getElem_cons_zero, List.getElem_cons_succ, List.setIfInBounds_toArray, List.set_cons_zero, List.set_cons_succ])
      refine wpAnyH_take (i := 2) (v := ?_) rfl (by kernel_rfl) (by kernel_rfl) (by kernel_rfl) (fun _ _ _ h => h) (Or.inl ⟨by kernel_rfl, ?_⟩) (by assumption) ?_
      rotate_left 1
      · intro w hSw; (try dsimp only at hSw); go_simp; (try with_reducible rfl)
      (try simp only [Act.put, List.getElem_toArray, List.getElem_cons_zero, List.getElem_cons_succ, List.setIfInBounds_toArray, List.set_cons_zero, List.set_cons_succ])
      refine wpAnyH_take (i := 3) (v := ?_) rfl (by kernel_rfl) (by kernel_rfl) (by kernel_rfl) (fun _ _ _ h => h) (Or.inl ⟨by kernel_rfl, ?_⟩) (by assumption) ?_
      rotate_left 1
      · intro w hSw; (try dsimp only at hSw); go_simp; (try with_reducible rfl)
      (try simp only [Act.put, List.getElem_toArray, List.getElem_cons_zero, List.getElem_cons_succ, List.setIfInBounds_toArray, List.set_cons_zero, List.set_cons_succ])
      refine wpAnyH_take (i := 4) (v := ?_) rfl (by kernel_rfl) (by kernel_rfl) (by kernel_rfl) (fun _ _ _ h => h) (Or.inl ⟨by kernel_rfl, ?_⟩) (by assumption) ?_
      rotate_left 1
      · intro w hSw; (try dsimp only at hSw); go_simp; (try with_reducible rfl)
      (try simp only [Act.put, List.getElem_toArray, List.getElem_cons_zero, List.getElem_cons_succ, List.setIfInBounds_toArray, List.set_cons_zero, List.set_cons_succ])
      refine wpAnyH_take (i := 5) (v := ?_) rfl (by kernel_rfl) (by kernel_rfl) (by kernel_rfl) (fun _ _ _ h => h) (Or.inl ⟨by kernel_rfl, ?_⟩) (by assumption) ?_
      rotate_left 1
      · intro w hSw; (try dsimp only at hSw); go_simp; (try with_reducible rfl)
      (try simp only [Act.put, List.getElem_toArray, List.getElem_cons_zero, List.getElem_cons_succ, List.setIfInBounds_toArray, List.set_cons_zero, List.set_cons_succ])
      refine wpAnyH_ready (rs := [6]) (by kernel_rfl) (by simp) ?_
      refine AllReadyH.cons rfl (fun K hK => ?_) AllReadyH.nil
      rw [if_pos (by kernel_rfl)]
      go_simp
      (go_at_call 91; refine (HAF.out _ (below_drew1 (Below.refl _ _))).mono ?_; rintro e w3 ⟨rfl, hb3⟩; have B3 := Aside0.mk (below_step (below_drew1 (Below.refl w2.heap.size w2)) hb3); clear hb3)
      (try go_simp)
      refine hK.out _ _ ?_ (fun hHeld => ?_)
      · (try dsimp only); (first | exact HMS.out _ (below_drew1 (Below.refl _ _)) | exact HMS.out _ B3.out | fail)
      clear hK K
      (try simp only [Act.put, List.getElem_toArray, List.getElem_cons_zero, List.getElem_cons_succ, List.setIfInBounds_toArray, List.set_cons_zero, List.set_cons_succ])
      refine wpAnyH_take (i := 7) (v := ?_) rfl (by kernel_rfl) (by kernel_rfl) (by kernel_rfl) (fun _ _ _ h => h) (Or.inl ⟨by kernel_rfl, ?_⟩) (by assumption) ?_
      rotate_left 1
      · intro w hSw; (try dsimp only at hSw); go_simp; (try with_reducible rfl)
      (try simp only [Act.put, List.getElem_toArray, List.getElem_cons_zero, List.getElem_cons_succ, List.setIfInBounds_toArray, List.set_cons_zero, List.set_cons_succ])
      refine wpAnyH_take (i := 8) (v := ?_) rfl (by kernel_rfl) (by kernel_rfl) (by kernel_rfl) (fun _ _ _ h => h) (Or.inl ⟨by kernel_rfl, ?_⟩) (by assumption) ?_
      rotate_left 1
      · intro w hSw; (try dsimp only at hSw); go_simp; (try with_reducible rfl)
      (try simp only [Act.put, List.getElem_toArray, List.getElem_cons_zero, List.getElem_cons_succ, List.setIfInBounds_toArray, List.set_cons_zero, List.set_cons_succ])
      refine wpAnyH_take (i := 9) (v := ?_) rfl (by kernel_rfl) (by kernel_rfl) (by kernel_rfl) (fun _ _ _ h => h) (Or.inl ⟨by kernel_rfl, ?_⟩) (by assumption) ?_
      rotate_left 1
      · intro w hSw; (try dsimp only at hSw); go_simp; (try with_reducible rfl)
      (try simp only [Act.put, List.getElem_toArray, List.getElem_cons_zero, List.getElem_cons_succ, List.setIfInBounds_toArray, List.set_cons_zero, List.set_cons_succ])
      refine wpAnyH_take (i := 10) (v := ?_) rfl (by kernel_rfl) (by kernel_rfl) (by kernel_rfl) (fun _ _ _ h => h) (Or.inl ⟨by kernel_rfl, ?_⟩) (by assumption) ?_
      rotate_left 1
      · intro w hSw; (try dsimp only at hSw); go_simp; (try with_reducible rfl)
      (try simp only [Act.put, List.getElem_toArray, List.getElem_cons_zero, List.getElem_cons_succ, List.setIfInBounds_toArray, List.set_cons_zero, List.set_cons_succ])
      refine wpAnyH_take (i := 11) (v := ?_) rfl (by kernel_rfl) (by kernel_rfl) (by kernel_rfl) (fun _ _ _ h => h) (Or.inl ⟨by kernel_rfl, ?_⟩) (by assumption) ?_
      rotate_left 1
      · intro w hSw; (try dsimp only at hSw); go_simp; (try with_reducible rfl)
      (try simp only [Act.put, List.getElem_toArray, List.getElem_cons_zero, List.getElem_cons_succ, List.setIfInBounds_toArray, List.set_cons_zero, List.set_cons_succ])
      refine wpAnyH_done (by kernel_rfl) ?_ _
      go_wp2_with fail
      go_ret2
      exact ⟨by rw [← HB2.out]; rfl, below_step B12.out B3.out⟩
    · have h1 : (y == 1) = false := by simp [hy]
      have HB2 := Aside0.mk (show (false : Bool) = bb from by rw [HBY.out, decide_eq_false hy])
      clear hy
      refine wp_region_held_drew (S := (fun W' => W'.cell? ⟨b2, 0, none⟩ = some (.int .i64 (L : Int)) ∧ W'.cell? ⟨b2, 1, none⟩ = some (.int .i64 0) ∧ W'.cell? ⟨b2, 2, none⟩ = some (.slice AN R.length cN) ∧ W'.cell? ⟨b2, 3, none⟩ = some (.slice (some ads) M.length cM) ∧ W'.cell? (ads.add r) = some (.int .i64 y))) (by kernel_rfl) ?_ (fun hHeld => ?_)
      · (try dsimp only); (first | exact HMS.out _ (below_drew1 (Below.refl _ _)) | exact HMS.out _ B3.out | fail)
      refine wpAnyH_take (i := 0) (v := ?_) rfl (by kernel_rfl) (by kernel_rfl) (by kernel_rfl) (fun _ _ _ h => h) (Or.inl ⟨by kernel_rfl, ?_⟩) (by assumption) ?_
      rotate_left 1
      · intro w hSw; (try dsimp only at hSw); go_simp; (try with_reducible rfl)
      (try simp only [Act.put, List.getElem_toArray, List.getElem_cons_zero, List.getElem_cons_succ, List.setIfInBounds_toArray, List.set_cons_zero, List.set_cons_succ])
      refine wpAnyH_take (i := 1) (v := ?_) rfl (by kernel_rfl) (by kernel_rfl) (by kernel_rfl) (fun _ _ _ h => h) (Or.inl ⟨by kernel_rfl, ?_⟩) (by assumption) ?_
      rotate_left 1
      · intro w hSw; (try dsimp only at hSw); go_simp; (try with_reducible rfl)
      (try simp only [Act.put, List.getElem_toArray, List.getElem_cons_zero, List.getElem_cons_succ, List.setIfInBounds_toArray, List.set_cons_zero, List.set_cons_succ])
      refine wpAnyH_take (i := 2) (v := ?_) rfl (by kernel_rfl) (by kernel_rfl) (by kernel_rfl) (fun _ _ _ h => h) (Or.inl ⟨by kernel_rfl, ?_⟩) (by assumption) ?_
      rotate_left 1
      · intro w hSw; (try dsimp only at hSw); go_simp; (try with_reducible rfl)
      (try simp only [Act.put, List.getElem_toArray, List.getElem_cons_zero, List.getElem_cons_succ, List.setIfInBounds_toArray, List.set_cons_zero, List.set_cons_succ])
      refine wpAnyH_take (i := 3) (v := ?_) rfl (by kernel_rfl) (by kernel_rfl) (by kernel_rfl) (fun _ _ _ h => h) (Or.inl ⟨by kernel_rfl, ?_⟩) (by assumption) ?_
      rotate_left 1
      · intro w hSw; (try dsimp only at hSw); go_simp; (try with_reducible rfl)
      (try simp only [Act.put, List.getElem_toArray, List.getElem_cons_zero, List.getElem_cons_succ, List.setIfInBounds_toArray, List.set_cons_zero, List.set_cons_succ])
      refine wpAnyH_take (i := 4) (v := ?_) rfl (by kernel_rfl) (by kernel_rfl) (by kernel_rfl) (fun _ _ _ h => h) (Or.inl ⟨by kernel_rfl, ?_⟩) (by assumption) ?_
      rotate_left 1
      · intro w hSw; (try dsimp only at hSw); go_simp; (try with_reducible rfl)
      (try simp only [Act.put, List.getElem_toArray, List.getElem_cons_zero, List.getElem_cons_succ, List.setIfInBounds_toArray, List.set_cons_zero, List.set_cons_succ])
      refine wpAnyH_take (i := 5) (v := ?_) rfl (by kernel_rfl) (by kernel_rfl) (by kernel_rfl) (fun _ _ _ h => h) (Or.inl ⟨by kernel_rfl, ?_⟩) (by assumption) ?_
      rotate_left 1
      · intro w hSw; (try dsimp only at hSw); go_simp; (try with_reducible rfl)
      (try simp only [Act.put, List.getElem_toArray, List.getElem_cons_zero, List.getElem_cons_succ, List.setIfInBounds_toArray, List.set_cons_zero, List.set_cons_succ])
      refine wpAnyH_ready (rs := [6]) (by kernel_rfl) (by simp) ?_
      refine AllReadyH.cons rfl (fun K hK => ?_) AllReadyH.nil
      rw [if_pos (by kernel_rfl)]
      go_simp
      (go_at_call 91; refine (HAF.out _ (below_drew1 (Below.refl _ _))).mono ?_; rintro e w3 ⟨rfl, hb3⟩; have B3 := Aside0.mk (below_step (below_drew1 (Below.refl w2.heap.size w2)) hb3); clear hb3)
      (try go_simp)
      refine hK.out _ _ ?_ (fun hHeld => ?_)
      · (try dsimp only); (first | exact HMS.out _ (below_drew1 (Below.refl _ _)) | exact HMS.out _ B3.out | fail)
      clear hK K
      (try simp only [Act.put, List.getElem_toArray, List.getElem_cons_zero, List.getElem_cons_succ, List.setIfInBounds_toArray, List.set_cons_zero, List.set_cons_succ])
      refine wpAnyH_take (i := 7) (v := ?_) rfl (by kernel_rfl) (by kernel_rfl) (by kernel_rfl) (fun _ _ _ h => h) (Or.inl ⟨by kernel_rfl, ?_⟩) (by assumption) ?_
      rotate_left 1
      · intro w hSw; (try dsimp only at hSw); go_simp; (try with_reducible rfl)
      (try simp only [Act.put, List.getElem_toArray, List.getElem_cons_zero, List.getElem_cons_succ, List.setIfInBounds_toArray, List.set_cons_zero, List.set_cons_succ])
      refine wpAnyH_take (i := 8) (v := ?_) rfl (by kernel_rfl) (by kernel_rfl) (by kernel_rfl) (fun _ _ _ h => h) (Or.inl ⟨by kernel_rfl, ?_⟩) (by assumption) ?_
      rotate_left 1
      · intro w hSw; (try dsimp only at hSw); go_simp; (try with_reducible rfl)
      (try simp only [Act.put, List.getElem_toArray, List.getElem_cons_zero, List.getElem_cons_succ, List.setIfInBounds_toArray, List.set_cons_zero, List.set_cons_succ])
      refine wpAnyH_take (i := 9) (v := ?_) rfl (by kernel_rfl) (by kernel_rfl) (by kernel_rfl) (fun _ _ _ h => h) (Or.inl ⟨by kernel_rfl, ?_⟩) (by assumption) ?_
      rotate_left 1
      · intro w hSw; (try dsimp only at hSw); go_simp; (try with_reducible rfl)
      (try simp only [Act.put, List.getElem_toArray, List.getElem_cons_zero, List.getElem_cons_succ, List.setIfInBounds_toArray, List.set_cons_zero, List.set_cons_succ])
      refine wpAnyH_take (i := 10) (v := ?_) rfl (by kernel_rfl) (by kernel_rfl) (by kernel_rfl) (fun _ _ _ h => h) (Or.inl ⟨by kernel_rfl, ?_⟩) (by assumption) ?_
      rotate_left 1
      · intro w hSw; (try dsimp only at hSw); go_simp; (try with_reducible rfl)
      (try simp only [Act.put, List.getElem_toArray, List.getElem_cons_zero, List.getElem_cons_succ, List.setIfInBounds_toArray, List.set_cons_zero, List.set_cons_succ])
      refine wpAnyH_take (i := 11) (v := ?_) rfl (by kernel_rfl) (by kernel_rfl) (by kernel_rfl) (fun _ _ _ h => h) (Or.inl ⟨by kernel_rfl, ?_⟩) (by assumption) ?_
      rotate_left 1
      · intro w hSw; (try dsimp only at hSw); go_simp; (try with_reducible rfl)
      (try simp only [Act.put, List.getElem_toArray, List.getElem_cons_zero, List.getElem_cons_succ, List.setIfInBounds_toArray, List.set_cons_zero, List.set_cons_succ])
      refine wpAnyH_done (by kernel_rfl) ?_ _
      go_wp2_with fail
      go_ret2
      exact ⟨by rw [← HB2.out]; rfl, below_step B12.out B3.out⟩
  · have hne : (my != 0) = true := bne_iff_ne.2 h0
    have HBF := Aside0.mk (show bb = false from by rw [HBB.out, if_neg h0])
    clear h0
    go_wp2_with (first
      | (go_at_call 104
         refine HMC.out.mono ?_
         rintro e w2 ⟨rfl, hb2⟩
         have B2 := Aside0.mk (below_step B1.out hb2.below)
         clear hb2 k0)
      | fail)
    go_ret2
    exact ⟨by rw [HBF.out]; rfl, B2.out⟩
end Go.Proofs.Ytampgoendkjkhaa.H

namespace Go.Proofs.Ytampgoendkjkhaa.H
open Go.RowKit Go.Shelf Go.Proofs.YtampgoendkjkhaaW.PrintWords Go.Proofs.YtampgoendkjkhaaW.PrintMore Go.Proofs.Ytampgoendkjkhaa.DtM
set_option linter.unusedVariables false
set_option linter.unusedSimpArgs false
theorem detE_atT {w w' : World} {e : Ending} {d : Int × List (List Int) × List Int × Int} (L' er : Int) (R : List (List Int)) (M : List Int) (hd : d = (L', R, M, er)) (h : DetPostE w w' e d) : ∃ AN cN AM cM, e = .returned (.tuple #[.agg #[.int .i64 L', .int .i64 0, .slice AN R.length cN, .slice AM M.length cM], .int .i64 er]) ∧ Below w.heap.size w w' ∧ DetV w' w.heap.size w'.heap.size AN cN AM cM R M := by
  subst hd
  obtain ⟨AN, cN, AM, cM, he, hb, sN, sM, _, hN, hM⟩ := h
  exact ⟨AN, cN, AM, cM, he, hb, detV_of hN hM⟩
theorem lit_d3 {W : World} {b : Nat} (h : W.heap[b]? = some (.cells #[.int .i64 0, .int .i64 1, .int .i64 0, .int .i64 1, .int .i64 0, .int .i64 1] 111 (0, 0))) : Kd.C kD2 W (some ⟨b, 0, none⟩) 3 [(0, 1), (0, 1), (0, 1)] := by
  refine ⟨rfl, by decide, fun _ => ⟨_, rfl, fun j p hj => ?_⟩⟩
  match j, hj with
  | 0, hj =>
    obtain rfl : ((0 : Int), (1 : Int)) = p := by simpa using hj
    refine ⟨[.int .i64 0, .int .i64 1], rfl, rfl, fun i u hu => ?_⟩
    match i, hu with
    | 0, hu => obtain rfl : Value.int .i64 0 = u := by simpa using hu
               simpa [Addr.add] using blk_cell h 0
    | 1, hu => obtain rfl : Value.int .i64 1 = u := by simpa using hu
               simpa [Addr.add, kD2, kArr] using blk_cell h 1
  | 1, hj =>
    obtain rfl : ((0 : Int), (1 : Int)) = p := by simpa using hj
    refine ⟨[.int .i64 0, .int .i64 1], rfl, rfl, fun i u hu => ?_⟩
    match i, hu with
    | 0, hu => obtain rfl : Value.int .i64 0 = u := by simpa using hu
               simpa [Addr.add, kD2, kArr] using blk_cell h 2
    | 1, hu => obtain rfl : Value.int .i64 1 = u := by simpa using hu
               simpa [Addr.add, kD2, kArr] using blk_cell h 3
  | 2, hj =>
    obtain rfl : ((0 : Int), (1 : Int)) = p := by simpa using hj
    refine ⟨[.int .i64 0, .int .i64 1], rfl, rfl, fun i u hu => ?_⟩
    match i, hu with
    | 0, hu => obtain rfl : Value.int .i64 0 = u := by simpa using hu
               simpa [Addr.add, kD2, kArr] using blk_cell h 4
    | 1, hu => obtain rfl : Value.int .i64 1 = u := by simpa using hu
               simpa [Addr.add, kD2, kArr] using blk_cell h 5
abbrev tinyX : List (List (Int × Int)) := [[(0, 1), (0, 1), (0, 1)]]
theorem tiny_ck : ckT 1 0 tinyX [1] = 0 := by decide
theorem tiny_len : (lT tinyX 1 0).length = 1 := by decide
theorem tiny_m : TwM 1 0 tinyX [1] := by
  obtain ⟨L', e, h⟩ := twM_of (L := 1) (st := 0) (nx := tinyX) (mk := [1]) tiny_ck
  obtain rfl : L' = 1 := by omega
  exact h
theorem tiny_det : ∃ R M, twDet 1 0 tinyX [1] = (1, R, M, 0) ∧ R.length = 1 := by
  have hd := tw_det tiny_m
  have hl : (twR tinyX 1 0).length = 1 := by unfold twR; rw [rows_len]; exact tiny_len
  have h1 := lst_le hd (st := 0) (by rw [hl]; exact Nat.one_pos)
  have h2 := (lst_ok hd (st := 0) (by rw [hl]; exact Nat.one_pos)).pos
  rw [hl] at h1
  refine ⟨lstR 1 (twR tinyX 1 0) (twN tinyX [1] 1 0) 0, lstM 1 (twR tinyX 1 0) (twN tinyX [1] 1 0) 0, ?_, by omega⟩
  unfold twDet
  rw [if_pos tiny_ck]
  show (if (lstR 1 (twR tinyX 1 0) (twN tinyX [1] 1 0) 0).length > 3000 then _ else _) = _
  rw [if_neg (by omega)]
  rfl
theorem tiny_call (W : World) (bE bR bM : Nat) (h1 : W.heap[bE]? = some (.cells #[.int .i64 0, .int .i64 1, .int .i64 0, .int .i64 1, .int .i64 0, .int .i64 1] 111 (0, 0))) (h2 : W.cell? ⟨bR, 0, none⟩ = some (.slice (some ⟨bE, 0, none⟩) 3 3)) (h3 : W.cell? ⟨bM, 0, none⟩ = some (.int .i64 1)) :
    Calls Try.prog 39 #[.agg #[.int .i64 1, .int .i64 0, .slice (some ⟨bR, 0, none⟩) 1 1, .slice (some ⟨bM, 0, none⟩) 1 1]] W fun e w' => ∃ AN cN AM m cM, e = .returned (.tuple #[.agg #[.int .i64 1, .int .i64 0, .slice AN 1 cN, .slice AM m cM], .int .i64 0]) ∧ Below W.heap.size W w' := by
  obtain ⟨R, M, hd, hl⟩ := tiny_det
  refine (twDet_calls 1 0 (some ⟨bR, 0, none⟩) (some ⟨bM, 0, none⟩) 1 1 tinyX [1] W (lit_row (t := 111) h2 rfl (Nat.le_refl _) (lit_d3 h1)) (lit_C h3)).mono ?_
  intro e w' h
  obtain ⟨AN, cN, AM, cM, he, hb, _⟩ := detE_atT 1 0 R M hd h
  rw [hl] at he
  exact ⟨AN, cN, AM, _, cM, he, hb⟩
/-- both tell the same -/
theorem both_same {L : Nat} {st : Int} {nx : List (List (Int × Int))} {mk : List Int} (h : TwM L st nx mk) (v : List Int) : (if mayF (L : Int) v = 0 then runB nx mk L st v else false) = (if mayF (L : Int) v = 0 then decide (mkF (lstM L (twR nx L st) (twN nx mk L st) 0) (runS (nxF (lstR L (twR nx L st) (twN nx mk L st) 0)) 0 (v.map Int.toNat)) = 1) else false) := by
  by_cases h0 : mayF (L : Int) v = 0
  · rw [if_pos h0, if_pos h0]
    have hv := (may_in h0).2
    unfold runB
    rw [two_law h hv, tw_mark h hv]
  · rw [if_neg h0, if_neg h0]
theorem tw_check {L : Nat} {st : Int} {nx : List (List (Int × Int))} {mk : List Int} (h : TwM L st nx mk) (hn : ¬ (lstR L (twR nx L st) (twN nx mk L st) 0).length > 3000) : DetOk L (lstR L (twR nx L st) (twN nx mk L st) 0) (lstM L (twR nx L st) (twN nx mk L st) 0) ∧ dCheck (L : Int) 0 (lstR L (twR nx L st) (twN nx mk L st) 0) (lstM L (twR nx L st) (twN nx mk L st) 0) = 0 := by
  have hd := tw_det h
  have ho := lst_ok hd (st := 0) hd.pos
  refine ⟨ho, dCheck_ok ho (st := 0) ho.pos (by omega) (lstM_bit (fun m hm => ?_) 0)⟩
  obtain ⟨x, _, rfl⟩ := List.mem_map.1 hm
  exact mkT_bit h x
set_option maxHeartbeats 8000000 in
set_option maxRecDepth 100000 in
theorem to_calls (L st : Int) (A2 A3 : Option Addr) (c2 c3 : Nat) (nx : List (List (Int × Int))) (mk : List Int) (WA : Option Addr) (wc : Nat) (v : List Int) (w : World) (hr2 : Kd.C (Kd.slice 111 kD2) w A2 nx.length nx) (hr3 : Kd.C (Kd.int .i64) w A3 mk.length mk) (hrw : Kd.C (Kd.int .i64) w WA v.length v) (hwc : v.length ≤ wc) :
    Calls Try.prog 12 #[.agg #[.int .i64 L, .int .i64 st, .slice A2 nx.length c2, .slice A3 mk.length c3], .slice WA v.length wc] w fun e w' => e = .returned (.bool true) ∧ Below w.heap.size w w' := by
  have HR2 := Aside0.mk hr2
  have HR3 := Aside0.mk hr3
  have HRW := Aside0.mk (And.intro hrw hwc)
  clear hr2 hr3 hrw hwc
  have tok1 : True := trivial
  go_enter Try.func12, Try.ntmps12
  go_upto_region 3 with (first
    | (have _t := tok1
       go_at_call 39
       refine calls_let ?_
       intro W2 hW2
       have X2 : Aside0 (W2.heap[w.heap.size]? = some (.cells #[.int .i64 L, .int .i64 st, .slice A2 nx.length c2, .slice A3 mk.length c3] 110 (0, 0))) := ⟨by rw [hW2]; repeat (first | exact blk_new _ _ | refine blk_alloc ?_ _)⟩
       have B2 : Aside0 (Below w.heap.size w W2) := ⟨by rw [hW2]; repeat (first | exact Below.refl _ _ | apply below_alloc)⟩
       have XE : Aside0 (W2.heap[w.heap.size + 1]? = some (.cells #[.int .i64 0, .int .i64 1, .int .i64 0, .int .i64 1, .int .i64 0, .int .i64 1] 111 (0, 0))) := ⟨by rw [hW2]; repeat (first | exact blk_newn _ _ _ (by simp) | refine blk_alloc ?_ _)⟩
       have hcall := tiny_call W2 (w.heap.size + 1) (w.heap.size + 1 + 1) (w.heap.size + 1 + 1 + 1) XE.out (by rw [hW2]; go_simp) (by rw [hW2]; go_simp)
       clear hW2 XE
       refine hcall.mono ?_
       clear hcall tok1
       rintro e w3 ⟨AN0, cN0, AM0, m0, cM0, rfl, hb3⟩
       have X3 := Aside0.mk (blk_below X2.out hb3)
       have B3 := Aside0.mk (below_step B2.out hb3)
       clear hb3 X2 B2)
    | fail)
  have D4 := Aside0.mk (blk_new w3 (.cells #[.int .i64 1, .int .i64 0, .slice AN0 1 cN0, .slice AM0 m0 cM0] 101 (0, 0)))
  have X4 := Aside0.mk (blk_alloc X3.out (.cells #[.int .i64 1, .int .i64 0, .slice AN0 1 cN0, .slice AM0 m0 cM0] 101))
  have B4 := Aside0.mk (below_alloc B3.out (.cells #[.int .i64 1, .int .i64 0, .slice AN0 1 cN0, .slice AM0 m0 cM0] 101))
  have HZ := Aside0.mk (blk_lt X3.out)
  generalize hW4 : w3.alloc (.cells #[.int .i64 1, .int .i64 0, .slice AN0 1 cN0, .slice AM0 m0 cM0] 101) = W4 at D4 X4 B4 ⊢
  have HZ4 := Aside0.mk (show W4.heap.size = w3.heap.size + 1 from by rw [← hW4]; simp)
  clear hW4
  obtain ⟨b6, hb6⟩ : ∃ b6, b6 = w3.heap.size := ⟨_, rfl⟩
  obtain ⟨b2, hb2⟩ : ∃ b2, b2 = w.heap.size := ⟨_, rfl⟩
  have HZ6 := Aside0.mk (show w.heap.size = b2 ∧ b2 < b6 ∧ W4.heap.size = b6 + 1 from ⟨hb2.symm, by have := HZ.out; omega, by have := HZ4.out; omega⟩)
  rw [← hb6] at D4 ⊢
  replace X4 : Aside0 (W4.heap[b2]? = some (.cells #[.int .i64 L, .int .i64 st, .slice A2 nx.length c2, .slice A3 mk.length c3] 110 (0, 0))) := ⟨by rw [hb2]; exact X4.out⟩
  rw [← hb2]
  clear hb6 hb2 HZ HZ4 X3 B3
  have kd : W4.cell? ⟨b6, 2, none⟩ = some (.slice AN0 1 cN0) := (blk_cell D4.out 2).trans rfl
  go_upto_region 5 with fail
  clear kd
  have k0 : W4.cell? ⟨b2, 0, none⟩ = some (.int .i64 L) := (blk_cell X4.out 0).trans rfl
  have k1 : W4.cell? ⟨b2, 1, none⟩ = some (.int .i64 st) := (blk_cell X4.out 1).trans rfl
  have k2 : W4.cell? ⟨b2, 2, none⟩ = some (.slice A2 nx.length c2) := (blk_cell X4.out 2).trans rfl
  have k3 : W4.cell? ⟨b2, 3, none⟩ = some (.slice A3 mk.length c3) := (blk_cell X4.out 3).trans rfl
  obtain ⟨L', R, M, er, hd⟩ : ∃ L' R M er, twDet L st nx mk = (L', R, M, er) := ⟨_, _, _, _, rfl⟩
  have HDC := Aside0.mk (show Calls Try.prog 39 #[.agg #[.int .i64 L, .int .i64 st, .slice A2 nx.length c2, .slice A3 mk.length c3]] W4 (fun e w' => ∃ AN cN AM cM, e = .returned (.tuple #[.agg #[.int .i64 L', .int .i64 0, .slice AN R.length cN, .slice AM M.length cM], .int .i64 er]) ∧ Below W4.heap.size W4 w' ∧ DetV w' W4.heap.size w'.heap.size AN cN AM cM R M) from (twDet_calls L st A2 A3 c2 c3 nx mk W4 (Kd.C_below HR2.out B4.out) (Kd.C_below HR3.out B4.out)).mono fun e w' h => detE_atT L' er R M hd h)
  have HD := Aside0.mk hd
  clear hd
  go_upto_region 6 with (first
    | (go_at_call 39
       refine HDC.out.mono ?_
       rintro e w5 ⟨AN, cN, AM, cM, rfl, hb5, hV5⟩
       have B5 := Aside0.mk hb5
       have V5 := Aside0.mk hV5
       have D5 := Aside0.mk (blk_below D4.out hb5)
       have d0 := (blk_cell D5.out 0).trans rfl
       have df0 := blk_frozen D5.out 0
       have d1 := (blk_cell D5.out 1).trans rfl
       have df1 := blk_frozen D5.out 1
       have d2 := (blk_cell D5.out 2).trans rfl
       have df2 := blk_frozen D5.out 2
       have d3 := (blk_cell D5.out 3).trans rfl
       have df3 := blk_frozen D5.out 3
       clear hb5 hV5 k0 k1 k2 k3)
    | fail)
  obtain ⟨W6, hW6⟩ : ∃ W6, W6 = set4 w5 b6 (.int .i64 L') (.int .i64 0) (.slice AN R.length cN) (.slice AM M.length cM) := ⟨_, rfl⟩
  have T6 := Aside0.mk (show Turned b6 w5 W6 from by rw [hW6]; exact turned4 w5 b6 _ _ _ _)
  have D6 := Aside0.mk (show W6.heap[b6]? = some (.cells #[.int .i64 L', .int .i64 0, .slice AN R.length cN, .slice AM M.length cM] 101 (0, 0)) from by rw [hW6]; exact blk4 D5.out _ _ _ _)
  have e6 : ((((w5.setCell ⟨b6, 0, none⟩ (.int .i64 L')).setCell ⟨b6, 1, none⟩ (.int .i64 0)).setCell ⟨b6, 2, none⟩ (.slice AN R.length cN)).setCell ⟨b6, 3, none⟩ (.slice AM M.length cM)) = W6 := hW6.symm
  rw [e6]
  clear hW6 e6
  have HZ5 := Aside0.mk B5.out.size
  have X6 := Aside0.mk (blk_turned (blk_below X4.out B5.out) T6.out (by have := HZ6.out; omega))
  have B6 := Aside0.mk (T6.out.below (below_step B4.out B5.out) (by have := HZ6.out; omega))
  have V6 := Aside0.mk (V5.out.turned T6.out (.inl (by have := HZ6.out; omega)))
  clear T6 D5 V5 B5 X4 D4 B4 d0 d1 d2 d3 df0 df1 df2 df3
  by_cases he : er = 0
  · subst he
    have HDE := Aside0.mk (show ∃ L2 : Nat, L = (L2 : Int) ∧ ckT L st nx mk = 0 ∧ TwM L2 st nx mk ∧ L' = (L2 : Int) ∧ R = lstR L2 (twR nx L2 st) (twN nx mk L2 st) 0 ∧ M = lstM L2 (twR nx L2 st) (twN nx mk L2 st) 0 ∧ ¬ (lstR L2 (twR nx L2 st) (twN nx mk L2 st) 0).length > 3000 from by
      have h := HD.out
      unfold twDet at h
      by_cases hc : ckT L st nx mk = 0
      · rw [if_pos hc] at h
        obtain ⟨L2, rfl, hM⟩ := twM_of hc
        rw [Int.toNat_natCast] at h
        by_cases hb : (lstR L2 (twR nx L2 st) (twN nx mk L2 st) 0).length > 3000
        · rw [if_pos hb] at h
          simp only [Prod.mk.injEq] at h
          omega
        · rw [if_neg hb] at h
          simp only [Prod.mk.injEq] at h
          exact ⟨L2, rfl, hc, hM, h.1.symm, h.2.1.symm, h.2.2.1.symm, hb⟩
      · rw [if_neg hc] at h
        simp only [Prod.mk.injEq] at h
        exact absurd h.2.2.2 hc)
    obtain ⟨L2, rfl, hck, hM, rfl, hR, hMk, hbig⟩ := HDE.out
    obtain ⟨hok, hdc⟩ := tw_check hM hbig
    have hsame := both_same hM v
    rw [← hR, ← hMk] at hok hdc
    rw [← hR, ← hMk] at hsame
    have HRN := Aside0.mk (fun (W' : World) (hb : Below W6.heap.size W6 W') => run_calls L2 st A2 A3 c2 c3 nx mk WA wc v W' (Kd.C_below HR2.out (below_step B6.out hb)) (Kd.C_below HR3.out (below_step B6.out hb)) (Kd.C_below HRW.out.1 (below_step B6.out hb)) HRW.out.2 hck hM)
    have HAC := Aside0.mk (fun (W' : World) (hb : Below W6.heap.size W6 W') => acc_calls L2 AN AM cN cM R M WA wc v W' (V6.out.below hb).caps.2.2.1 V6.out.caps.1 (V6.out.below hb).caps.2.2.2 V6.out.caps.2.1 (Kd.C_below HRW.out.1 (below_step B6.out hb)) HRW.out.2 hdc hok)
    rw [← hsame] at HAC
    clear HDE HD HDC hR hMk hbig hok hdc hsame hck hM
    generalize (if mayF (L2 : Int) v = 0 then runB nx mk L2 st v else false) = bb at HRN HAC
    generalize mayF (L2 : Int) v = my at HRN HAC
    have k0 : W6.cell? ⟨b2, 0, none⟩ = some (.int .i64 (L2 : Int)) := (blk_cell X6.out 0).trans rfl
    have k1 : W6.cell? ⟨b2, 1, none⟩ = some (.int .i64 st) := (blk_cell X6.out 1).trans rfl
    have k2 : W6.cell? ⟨b2, 2, none⟩ = some (.slice A2 nx.length c2) := (blk_cell X6.out 2).trans rfl
    have k3 : W6.cell? ⟨b2, 3, none⟩ = some (.slice A3 mk.length c3) := (blk_cell X6.out 3).trans rfl
    go_upto_region 9 with (first
      | (go_at_call 40
         refine (HRN.out W6 (Below.refl _ _)).mono ?_
         rintro e w7 ⟨⟨kk, rfl⟩, hb7⟩
         have B7 := Aside0.mk hb7
         clear hb7 k0 k1 k2 k3)
      | fail)
    have k0 : w7.cell? ⟨b6, 0, none⟩ = some (.int .i64 (L2 : Int)) := (blk_cell (blk_below D6.out B7.out) 0).trans rfl
    have k1 : w7.cell? ⟨b6, 1, none⟩ = some (.int .i64 0) := (blk_cell (blk_below D6.out B7.out) 1).trans rfl
    have k2 : w7.cell? ⟨b6, 2, none⟩ = some (.slice AN R.length cN) := (blk_cell (blk_below D6.out B7.out) 2).trans rfl
    have k3 : w7.cell? ⟨b6, 3, none⟩ = some (.slice AM M.length cM) := (blk_cell (blk_below D6.out B7.out) 3).trans rfl
    go_upto_region 10 with (first
      | (go_at_call 41
         refine (HAC.out w7 B7.out).mono ?_
         rintro e w8 ⟨rfl, hb8⟩
         have B8 := Aside0.mk hb8
         clear hb8 k0 k1 k2 k3)
      | fail)
    go_wp2_with fail
    go_ret
    exact ⟨by simp, below_step (below_step B6.out B7.out) B8.out⟩
  · have hne : (er != 0) = true := bne_iff_ne.2 he
    clear he
    go_wp2_with fail
    go_ret
    exact ⟨rfl, B6.out⟩
end Go.Proofs.Ytampgoendkjkhaa.H

namespace Go.Proofs.Ytampgoendkjkhaa.H
open Go.RowKit Go.Joins Go.ChangeShapes Go.WideShapes Go.Deep Go.Proofs.YtampgoendkjkhaaW.PrintWords
set_option linter.unusedSimpArgs false
set_option linter.unusedVariables false
section
variable {H : Type} {enc : TypeId × Value → H} {w : World} {base : Nat} {spare : Nat → Bool} {held : Bool}
set_option maxRecDepth 100000 in
theorem Ki_d2 {fuel : Nat} {cs : List Value} {x : DataW H × List MemPlace} (h : DataW.trod enc Try.prog w base spare held fuel 111 cs = some x) : ∃ a, kD2.K w a cs := by
  obtain ⟨xs, n, _, rfl, hl, hlen, hf⟩ := DataW.trod_array Try.underlying111 h
  have hC : Try.prog.cellsOf 111 = 2 := by kernel_rfl
  have hI : Try.prog.cellsOf 3 = 1 := by kernel_rfl
  replace hl := hl.trans hC
  match cs, hl with
  | [c0, c1], _ =>
    match xs, hlen with
    | [y0, y1], _ =>
      have h0 : DataW.trod enc Try.prog w base spare held n 3 (([c0, c1].drop 0).take (Try.prog.cellsOf 3)) = some y0 := by have := hf 0 (by decide); rw [hI] at this ⊢; simpa using this
      have h1 : DataW.trod enc Try.prog w base spare held n 3 (([c0, c1].drop 1).take (Try.prog.cellsOf 3)) = some y1 := by have := hf 1 (by decide); rw [hI] at this ⊢; simpa using this
      rw [hI] at h0 h1
      obtain ⟨n0, e0, _⟩ := K_int Try.underlying3 h0
      obtain ⟨n1, e1, _⟩ := K_int Try.underlying3 h1
      exact ⟨(n0, n1), by rw [e0, e1]; rfl⟩
end
end Go.Proofs.Ytampgoendkjkhaa.H
