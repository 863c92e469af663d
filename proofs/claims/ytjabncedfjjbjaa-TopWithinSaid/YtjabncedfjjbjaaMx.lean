/- det.two, det.Mixed. -/
import Derived.Test.YtjabncedfjjbjaaExC
import Derived.Test.YtjabncedfjjbjaaHu
import Derived.BigQuiet
namespace Go.Proofs.Ytjabncedfjjbjaa.H
open Go.RowKit Go.Shelf Go.Proofs.YtjabncedfjjbjaaW.PrintWords Go.Proofs.YtjabncedfjjbjaaW.PrintMore Go.Proofs.Ytjabncedfjjbjaa.DtM
set_option linter.unusedVariables false
set_option linter.unusedSimpArgs false
theorem resA {fn : Func} {p : Tmp} (h : fn.results = #[.cell p 186]) (tmps : Array Value) (W : World) (g : Nat) (x0 x1 : Value) (hp : tmps.getD p undef = .pointer (some ⟨g, 0, none⟩))
    (h0 : W.cell? ⟨g, 0, none⟩ = some x0) (h1 : W.cell? ⟨g, 1, none⟩ = some x1) : (results fn tmps).run Try.prog W = .ok (.agg #[x0, x1]) W := by
  have hu := Try.underlying186
  have hp' : tmps[p]?.getD undef = .pointer (some ⟨g, 0, none⟩) := by simpa using hp
  simp only [results, h]
  go_simp
def mxBit (t x y : Int) : Int := if x = 0 then (if y = 0 then t % 2 else t / 2 % 2) else (if y = 0 then t / 4 % 2 else t / 8 % 2)
theorem bits_and1 (t : Int) (h0 : 0 ≤ t) (h1 : t ≤ 15) : bits .and .i64 t 1 = t % 2 := by
  obtain ⟨n, rfl⟩ : ∃ n : Nat, t = (n : Int) := ⟨t.toNat, by omega⟩
  have hn : n ≤ 15 := by omega
  clear h0 h1
  have : ∀ n : Fin 16, bits .and .i64 ((n.1 : Nat) : Int) 1 = ((n.1 : Nat) : Int) % 2 := by decide
  exact this ⟨n, by omega⟩
set_option maxHeartbeats 16000000 in
set_option maxRecDepth 100000 in
theorem mx1_calls (bA bB : Nat) (A2 B2 : Option Addr) (c2 d2 : Nat) (a0 a1 a3 b0 b1 b3 : Value) (na nb : List (List Int)) (L : Nat) (w : World) (hA : w.heap[bA]? = some (.cells #[a0, a1, .slice A2 na.length c2, a3] 80 (0, 0))) (hB : w.heap[bB]? = some (.cells #[b0, b1, .slice B2 nb.length d2, b3] 80 (0, 0)))
    (hra : Kd.C (Kd.slice 3 (Kd.int .i64)) w A2 na.length na) (hrb : Kd.C (Kd.slice 3 (Kd.int .i64)) w B2 nb.length nb) (p q a : Nat) (hp : p < na.length) (hq : q < nb.length) (hla : (na.getD p []).length = L) (hlb : (nb.getD q []).length = L) (ha : a < L) (x y : Int) (hx : (na.getD p []).getD a 0 = x) (hy : (nb.getD q []).getD a 0 = y) :
    Calls Try.prog 97 #[.agg #[.int .i64 (p : Int), .int .i64 (q : Int)], .int .i64 (a : Int), .pointer (some ⟨bA, 0, none⟩), .pointer (some ⟨bB, 0, none⟩)] w fun e w' => e = .returned (.agg #[.int .i64 x, .int .i64 y]) ∧ Below w.heap.size w w' := by
  obtain ⟨ad, ec, e0, _, ⟨A4, c4, rfl, hle, hro⟩, hc0⟩ := Kd.C_get hra [] (p : Int) (by omega) (by omega)
  subst e0
  rw [Int.toNat_natCast, hla] at hle hro hc0
  have hc2 : w.cell? (ad.add p) = some (.slice A4 L c4) := by simpa [Kd.slice] using hc0 0 _ rfl
  obtain ⟨ad2, e2, hc3⟩ := Kd.at_int hro (a : Int) (by omega) (by omega)
  subst e2
  rw [Int.toNat_natCast, show rd (na.getD p []) (a : Int) = x from hx] at hc3
  obtain ⟨bd, ec', e0, _, ⟨B4, d4, rfl, hle', hro'⟩, hd0⟩ := Kd.C_get hrb [] (q : Int) (by omega) (by omega)
  subst e0
  rw [Int.toNat_natCast, hlb] at hle' hro' hd0
  have hd2 : w.cell? (bd.add q) = some (.slice B4 L d4) := by simpa [Kd.slice] using hd0 0 _ rfl
  obtain ⟨bd2, e2, hd3⟩ := Kd.at_int hro' (a : Int) (by omega) (by omega)
  subst e2
  rw [Int.toNat_natCast, show rd (nb.getD q []) (a : Int) = y from hy] at hd3
  have z1 : (p : Int) < (na.length : Int) := by omega
  have z2 : (q : Int) < (nb.length : Int) := by omega
  have z3 : (a : Int) < (L : Int) := by omega
  have HB0 : Below w.heap.size w ((w.alloc (.cells #[.int .i64 (p : Int), .int .i64 (q : Int)] 186)).alloc (.cells #[.int .i64 0, .int .i64 0] 186)) := by repeat (first | exact Below.refl _ _ | apply below_alloc)
  have hbl : bA < w.heap.size := blk_lt hA
  have hbl' : bB < w.heap.size := blk_lt hB
  have X := Aside0.mk (show ((w.alloc (.cells #[.int .i64 (p : Int), .int .i64 (q : Int)] 186)).alloc (.cells #[.int .i64 0, .int .i64 0] 186)).heap[w.heap.size]? = some (.cells #[.int .i64 (p : Int), .int .i64 (q : Int)] 186 (0, 0)) from blk_alloc (blk_new w _) _)
  have Y := Aside0.mk (show ((w.alloc (.cells #[.int .i64 (p : Int), .int .i64 (q : Int)] 186)).alloc (.cells #[.int .i64 0, .int .i64 0] 186)).heap[w.heap.size + 1]? = some (.cells #[.int .i64 0, .int .i64 0] 186 (0, 0)) from blk_newn _ _ _ (by simp))
  have PA := Aside0.mk (blk_below hA HB0)
  have PB := Aside0.mk (blk_below hB HB0)
  have gg1 := Aside0.mk (show Aside0 (w.cell? (ad.add p) = some (.slice (some ad2) L c4) ∧ w.cell? (ad2.add a) = some (.int .i64 x) ∧ w.cell? (bd.add q) = some (.slice (some bd2) L d4) ∧ w.cell? (bd2.add a) = some (.int .i64 y)) from ⟨hc2, hc3, hd2, hd3⟩)
  have k1 : (ad.add p).block < w.heap.size := World.block_lt_of_cell? w _ hc2
  have k2 : (ad2.add a).block < w.heap.size := World.block_lt_of_cell? w _ hc3
  have k3 : (bd.add q).block < w.heap.size := World.block_lt_of_cell? w _ hd2
  have k4 : (bd2.add a).block < w.heap.size := World.block_lt_of_cell? w _ hd3
  have f1 := (HB0.cell (p := ad.add p) k1).trans hc2
  have f2 := (HB0.cell (p := ad2.add a) k2).trans hc3
  have f3 := (HB0.cell (p := bd.add q) k3).trans hd2
  have f4 := (HB0.cell (p := bd2.add a) k4).trans hd3
  have HB := Aside0.mk HB0
  clear hA hB hra hrb hro hro' hc0 hd0 hx hy hc2 hc3 hd2 hd3 gg1 hla hlb HB0 k1 k2 k3 k4
  go_enter Try.func97, Try.ntmps97
  go_wp2
  generalize (w.alloc (.cells #[.int .i64 (p : Int), .int .i64 (q : Int)] 186)).alloc (.cells #[.int .i64 0, .int .i64 0] 186) = W at HB X Y PA PB f1 f2 f3 f4 ⊢
  have d1 : W.cell? ⟨bA, 2, none⟩ = some (.slice (some ad) na.length c2) := (blk_cell PA.out 2).trans rfl
  have d2' : W.cell? ⟨bB, 2, none⟩ = some (.slice (some bd) nb.length d2) := (blk_cell PB.out 2).trans rfl
  have x0 : W.cell? ⟨w.heap.size, 0, none⟩ = some (.int .i64 (p : Int)) := (blk_cell X.out 0).trans rfl
  have x1 : W.cell? ⟨w.heap.size, 1, none⟩ = some (.int .i64 (q : Int)) := (blk_cell X.out 1).trans rfl
  have y0 : W.cell? ⟨w.heap.size + 1, 0, none⟩ = some (.int .i64 0) := (blk_cell Y.out 0).trans rfl
  have y1 : W.cell? ⟨w.heap.size + 1, 1, none⟩ = some (.int .i64 0) := (blk_cell Y.out 1).trans rfl
  have yf0 := blk_frozen Y.out 0
  have yf1 := blk_frozen Y.out 1
  have zz : w.heap.size + 1 < W.heap.size := blk_lt Y.out
  go_region
  all_goals go_wp2
  all_goals
    refine bodyPost_ret (resA rfl _ _ (w.heap.size + 1) (.int .i64 x) (.int .i64 y) rfl (by go_simp) (by go_simp)) rfl ?_
    exact ⟨rfl, by repeat (first | exact HB.out | apply below_drew1 | apply pw_below_drewN | refine below_set ?_ (Nat.le_succ _))⟩
set_option maxHeartbeats 16000000 in
set_option maxRecDepth 100000 in
theorem mx2_calls (bA bB bT : Nat) (A3 B3 : Option Addr) (c3 d3 : Nat) (a0 a1 a2 b0 b1 b2 : Value) (ma mb : List Int) (t : Int) (ht0 : 0 ≤ t) (ht : t ≤ 15) (w : World) (hA : w.heap[bA]? = some (.cells #[a0, a1, a2, .slice A3 ma.length c3] 80 (0, 0))) (hB : w.heap[bB]? = some (.cells #[b0, b1, b2, .slice B3 mb.length d3] 80 (0, 0))) (hT : w.heap[bT]? = some (.cells #[.int .i64 t] 3 (0, 0)))
    (hra : Kd.C (Kd.int .i64) w A3 ma.length ma) (hrb : Kd.C (Kd.int .i64) w B3 mb.length mb) (p q : Nat) (hp : p < ma.length) (hq : q < mb.length) (x y : Int) (hx : ma.getD p 0 = x) (hy : mb.getD q 0 = y) (hx2 : x = 0 ∨ x = 1) (hy2 : y = 0 ∨ y = 1) :
    Calls Try.prog 98 #[.agg #[.int .i64 (p : Int), .int .i64 (q : Int)], .pointer (some ⟨bT, 0, none⟩), .pointer (some ⟨bA, 0, none⟩), .pointer (some ⟨bB, 0, none⟩)] w fun e w' => e = .returned (.int .i64 (mxBit t x y)) ∧ Below w.heap.size w w' := by
  obtain ⟨ad2, e2, hc3⟩ := Kd.at_int hra (p : Int) (by omega) (by omega)
  subst e2
  rw [Int.toNat_natCast, show rd ma (p : Int) = x from hx] at hc3
  obtain ⟨bd2, e2, hd3⟩ := Kd.at_int hrb (q : Int) (by omega) (by omega)
  subst e2
  rw [Int.toNat_natCast, show rd mb (q : Int) = y from hy] at hd3
  have z1 : (p : Int) < (ma.length : Int) := by omega
  have z2 : (q : Int) < (mb.length : Int) := by omega
  have HB0 : Below w.heap.size w (w.alloc (.cells #[.int .i64 (p : Int), .int .i64 (q : Int)] 186)) := by repeat (first | exact Below.refl _ _ | apply below_alloc)
  have X := Aside0.mk (show (w.alloc (.cells #[.int .i64 (p : Int), .int .i64 (q : Int)] 186)).heap[w.heap.size]? = some (.cells #[.int .i64 (p : Int), .int .i64 (q : Int)] 186 (0, 0)) from blk_new w _)
  have PA := Aside0.mk (blk_below hA HB0)
  have PB := Aside0.mk (blk_below hB HB0)
  have PT := Aside0.mk (blk_below hT HB0)
  have k2 : (ad2.add p).block < w.heap.size := World.block_lt_of_cell? w _ hc3
  have k4 : (bd2.add q).block < w.heap.size := World.block_lt_of_cell? w _ hd3
  have f2 := (HB0.cell (p := ad2.add p) k2).trans hc3
  have f4 := (HB0.cell (p := bd2.add q) k4).trans hd3
  have HB := Aside0.mk HB0
  have HX := Aside0.mk (And.intro hx2 hy2)
  have u0 := bits_and1 t ht0 ht
  have u1 := bits_and1 (t / 2) (by omega) (by omega)
  have u2 := bits_and1 (t / 4) (by omega) (by omega)
  have u3 := bits_and1 (t / 8) (by omega) (by omega)
  clear hA hB hT hra hrb hx hy hc3 hd3 HB0 k2 k4 hx2 hy2
  rcases HX.out.1 with rfl | rfl <;> rcases HX.out.2 with rfl | rfl
  all_goals
    clear HX
    go_enter Try.func98, Try.ntmps98
    go_wp2
    generalize w.alloc (.cells #[.int .i64 (p : Int), .int .i64 (q : Int)] 186) = W at HB X PA PB PT f2 f4 ⊢
    have d1 : W.cell? ⟨bA, 3, none⟩ = some (.slice (some ad2) ma.length c3) := (blk_cell PA.out 3).trans rfl
    have d2' : W.cell? ⟨bB, 3, none⟩ = some (.slice (some bd2) mb.length d3) := (blk_cell PB.out 3).trans rfl
    have dt : W.cell? ⟨bT, 0, none⟩ = some (.int .i64 t) := (blk_cell PT.out 0).trans rfl
    have x0 : W.cell? ⟨w.heap.size, 0, none⟩ = some (.int .i64 (p : Int)) := (blk_cell X.out 0).trans rfl
    have x1 : W.cell? ⟨w.heap.size, 1, none⟩ = some (.int .i64 (q : Int)) := (blk_cell X.out 1).trans rfl
    go_quiet (fail)
    go_wp2
    go_ret
    refine ⟨?_, by repeat (first | exact HB.out | apply below_drew1 | apply pw_below_drewN)⟩
    unfold mxBit
    simp
/-! ### two -/
structure TwM (w W : World) (L sa sb : Int) (A2 A3 B2 B3 : Option Addr) (n1 n2 n3 n4 c2 c3 d2 d3 : Nat) : Prop where
  b : Below w.heap.size w W
  x : W.heap[w.heap.size]? = some (.cells #[.int .i64 L, .int .i64 sa, .slice A2 n1 c2, .slice A3 n2 c3] 80 (0, 0))
  y : W.heap[w.heap.size + 1]? = some (.cells #[.int .i64 L, .int .i64 sb, .slice B2 n3 d2, .slice B3 n4 d3] 80 (0, 0))
  s : W.heap[w.heap.size + 2]? = some (.cells #[.int .i64 L, .int .i64 sa, .slice A2 n1 c2, .slice A3 n2 c3, .int .i64 L, .int .i64 sb, .slice B2 n3 d2, .slice B3 n4 d3] 80 (0, 0))
theorem TwM.below {w W W' : World} {L sa sb : Int} {A2 A3 B2 B3 : Option Addr} {n1 n2 n3 n4 c2 c3 d2 d3 : Nat} (h : TwM w W L sa sb A2 A3 B2 B3 n1 n2 n3 n4 c2 c3 d2 d3) (hb : Below W.heap.size W W') : TwM w W' L sa sb A2 A3 B2 B3 n1 n2 n3 n4 c2 c3 d2 d3 :=
  ⟨below_step h.b hb, blk_below h.x hb, blk_below h.y hb, blk_below h.s hb⟩
set_option maxHeartbeats 8000000 in
set_option maxRecDepth 100000 in
theorem two_calls (L sa sb : Int) (A2 A3 B2 B3 : Option Addr) (c2 c3 d2 d3 : Nat) (na nb : List (List Int)) (ma mb : List Int) (w : World) (hra2 : Kd.C (Kd.slice 3 (Kd.int .i64)) w A2 na.length na) (hra3 : Kd.C (Kd.int .i64) w A3 ma.length ma) (hrb2 : Kd.C (Kd.slice 3 (Kd.int .i64)) w B2 nb.length nb) (hrb3 : Kd.C (Kd.int .i64) w B3 mb.length mb)
    (ha : dCheck L sa na ma = 0) (hb : dCheck L sb nb mb = 0) :
    Calls Try.prog 95 #[.agg #[.int .i64 L, .int .i64 sa, .slice A2 na.length c2, .slice A3 ma.length c3], .agg #[.int .i64 L, .int .i64 sb, .slice B2 nb.length d2, .slice B3 mb.length d3]] w fun e w' => e = .returned (.int .i64 0) ∧ Below w.heap.size w w' := by
  have HCA := Aside0.mk (show ∀ W, Below w.heap.size w W → Calls Try.prog 89 #[.agg #[.int .i64 L, .int .i64 sa, .slice A2 na.length c2, .slice A3 ma.length c3]] W fun e w' => e = .returned (.int .i64 0) ∧ Below W.heap.size W w' from fun W h => by
    have := det_Check_at L sa A2 A3 c2 c3 na ma W (Kd.C_below hra2 h) (Kd.C_below hra3 h)
    rwa [ha] at this)
  have HCB := Aside0.mk (show ∀ W, Below w.heap.size w W → Calls Try.prog 89 #[.agg #[.int .i64 L, .int .i64 sb, .slice B2 nb.length d2, .slice B3 mb.length d3]] W fun e w' => e = .returned (.int .i64 0) ∧ Below W.heap.size W w' from fun W h => by
    have := det_Check_at L sb B2 B3 d2 d3 nb mb W (Kd.C_below hrb2 h) (Kd.C_below hrb3 h)
    rwa [hb] at this)
  clear hra2 hra3 hrb2 hrb3 ha hb
  generalize na.length = n1 at HCA ⊢
  generalize ma.length = n2 at HCA ⊢
  generalize nb.length = n3 at HCB ⊢
  generalize mb.length = n4 at HCB ⊢
  go_enter Try.func95, Try.ntmps95
  go_wp2
  have M0 := Aside0.mk (show TwM w (((w.alloc (.cells #[.int .i64 L, .int .i64 sa, .slice A2 n1 c2, .slice A3 n2 c3] 80)).alloc (.cells #[.int .i64 L, .int .i64 sb, .slice B2 n3 d2, .slice B3 n4 d3] 80)).alloc (.cells #[.int .i64 L, .int .i64 sa, .slice A2 n1 c2, .slice A3 n2 c3, .int .i64 L, .int .i64 sb, .slice B2 n3 d2, .slice B3 n4 d3] 80)) L sa sb A2 A3 B2 B3 n1 n2 n3 n4 c2 c3 d2 d3 from
    ⟨below_alloc (below_alloc (below_alloc (Below.refl _ _) _) _) _, blk_alloc (blk_alloc (blk_new w _) _) _, blk_alloc (blk_newn _ _ _ (by simp)) _, blk_newn _ _ _ (by simp)⟩)
  generalize ((w.alloc (.cells #[.int .i64 L, .int .i64 sa, .slice A2 n1 c2, .slice A3 n2 c3] 80)).alloc (.cells #[.int .i64 L, .int .i64 sb, .slice B2 n3 d2, .slice B3 n4 d3] 80)).alloc (.cells #[.int .i64 L, .int .i64 sa, .slice A2 n1 c2, .slice A3 n2 c3, .int .i64 L, .int .i64 sb, .slice B2 n3 d2, .slice B3 n4 d3] 80) = W1 at M0 ⊢
  go_loopg [12] 2 (fun gg s12 wr => ∃ i : Nat, i ≤ 2 ∧ 2 - i ≤ gg ∧ s12 = .int .i64 (i : Int) ∧ Aside0 (TwM w wr L sa sb A2 A3 B2 B3 n1 n2 n3 n4 c2 c3 d2 d3))
  case atStart => exact ⟨0, Nat.zero_le _, by omega, rfl, M0⟩
  case round =>
    obtain ⟨i, hi, hgg, rfl, MM⟩ := hrel
    clear M0
    have zs : w.heap.size + 1 + 1 < wr.heap.size := blk_lt MM.out.s
    rcases (by omega : i = 0 ∨ i = 1 ∨ i = 2) with rfl | rfl | rfl
    · have s0 : wr.cell? ⟨w.heap.size + 1 + 1, 0, none⟩ = some (.int .i64 L) := (blk_cell MM.out.s 0).trans rfl
      have s1 : wr.cell? ⟨w.heap.size + 1 + 1, 1, none⟩ = some (.int .i64 sa) := (blk_cell MM.out.s 1).trans rfl
      have s2 : wr.cell? ⟨w.heap.size + 1 + 1, 2, none⟩ = some (.slice A2 n1 c2) := (blk_cell MM.out.s 2).trans rfl
      have s3 : wr.cell? ⟨w.heap.size + 1 + 1, 3, none⟩ = some (.slice A3 n2 c3) := (blk_cell MM.out.s 3).trans rfl
      go_wp2_with (go_at_call 89
                   refine (HCA.out _ (by repeat (first | exact MM.out.b | apply below_alloc | refine below_set ?_ MM.out.b.size))).mono ?_
                   rintro e w1 ⟨rfl, hb1⟩
                   have M1 := Aside0.mk (MM.out.below (below_step (by repeat (first | exact Below.refl _ _ | apply below_alloc | refine below_set ?_ (Nat.le_refl _))) hb1))
                   clear hb1)
      go_roundg 1
      case measure => omega
      case rel => exact ⟨1, by omega, by omega, by go_num, M1⟩
    · have s0 : wr.cell? ⟨w.heap.size + 1 + 1, 4, none⟩ = some (.int .i64 L) := (blk_cell MM.out.s 4).trans rfl
      have s1 : wr.cell? ⟨w.heap.size + 1 + 1, 5, none⟩ = some (.int .i64 sb) := (blk_cell MM.out.s 5).trans rfl
      have s2 : wr.cell? ⟨w.heap.size + 1 + 1, 6, none⟩ = some (.slice B2 n3 d2) := (blk_cell MM.out.s 6).trans rfl
      have s3 : wr.cell? ⟨w.heap.size + 1 + 1, 7, none⟩ = some (.slice B3 n4 d3) := (blk_cell MM.out.s 7).trans rfl
      go_wp2_with (go_at_call 89
                   refine (HCB.out _ (by repeat (first | exact MM.out.b | apply below_alloc | refine below_set ?_ MM.out.b.size))).mono ?_
                   rintro e w1 ⟨rfl, hb1⟩
                   have M1 := Aside0.mk (MM.out.below (below_step (by repeat (first | exact Below.refl _ _ | apply below_alloc | refine below_set ?_ (Nat.le_refl _))) hb1))
                   clear hb1)
      go_roundg 0
      case measure => omega
      case rel => exact ⟨2, by omega, by omega, by go_num, M1⟩
    · have s0 : wr.cell? ⟨w.heap.size, 0, none⟩ = some (.int .i64 L) := (blk_cell MM.out.x 0).trans rfl
      have s1 : wr.cell? ⟨w.heap.size + 1, 0, none⟩ = some (.int .i64 L) := (blk_cell MM.out.y 0).trans rfl
      go_wp2
      go_ret
      exact ⟨rfl, MM.out.b⟩
/-! ### Mixed -/
structure MxOk (L sa sb : Nat) (na : List (List Int)) (ma : List Int) (nb : List (List Int)) (mb : List Int) : Prop where
  a : DetOk L na ma
  b : DetOk L nb mb
  fa : sa < na.length
  fb : sb < nb.length
  ca : dCheck L sa na ma = 0
  cb : dCheck L sb nb mb = 0
  ba : ∀ m ∈ ma, m = 0 ∨ m = 1
  bb : ∀ m ∈ mb, m = 0 ∨ m = 1
  big : na.length * nb.length ≤ 3000
def mxF (na nb : List (List Int)) (k : KC) (a : Nat) : KC := ((nxF na k.1.toNat a : Int), (nxF nb k.2.toNat a : Int))
def mxM (t : Int) (ma mb : List Int) (k : KC) : Int := mxBit t (mkF ma k.1.toNat) (mkF mb k.2.toNat)
def mxU (na nb : List (List Int)) : List KC := (List.range na.length).flatMap fun p : Nat => (List.range nb.length).map fun q : Nat => ((p : Int), (q : Int))
theorem mem_mxU (na nb : List (List Int)) (k : KC) : k ∈ mxU na nb ↔ ∃ p q : Nat, k = ((p : Int), (q : Int)) ∧ p < na.length ∧ q < nb.length := by
  unfold mxU
  simp only [List.mem_flatMap, List.mem_map, List.mem_range]
  constructor
  · rintro ⟨p, hp, q, hq, rfl⟩; exact ⟨p, q, rfl, hp, hq⟩
  · rintro ⟨p, q, rfl, hp, hq⟩; exact ⟨p, hp, q, hq, rfl⟩
theorem flat_len {α β : Type} (f : α → List β) (n : Nat) : ∀ l : List α, (∀ x ∈ l, (f x).length = n) → (l.flatMap f).length = l.length * n
  | [], _ => by simp
  | x :: l, h => by
    rw [List.flatMap_cons, List.length_append, flat_len f n l (fun y hy => h y (by simp [hy])), h x (by simp), List.length_cons, Nat.succ_mul, Nat.add_comm]
theorem mxU_len (na nb : List (List Int)) : (mxU na nb).length = na.length * nb.length := by
  unfold mxU
  rw [flat_len _ nb.length _ (fun x _ => by simp), List.length_range]
theorem nxF_lt {L : Nat} {nx : List (List Int)} {ms : List Int} (h : DetOk L nx ms) {q a : Nat} (hq : q < nx.length) (ha : a < L) : nxF nx q a < nx.length := by
  have e := nxF_at h hq ha
  have hm := List.getElem_mem hq
  have hl := h.row _ hm
  have := h.tos _ hm (nx[q][a]'(by omega)) (List.getElem_mem _)
  have e1 : nx.getD q [] = nx[q] := by rw [List.getD_eq_getElem?_getD, List.getElem?_eq_getElem hq, Option.getD_some]
  have e2 : nx[q].getD a 0 = nx[q][a]'(by omega) := by rw [List.getD_eq_getElem?_getD, List.getElem?_eq_getElem (by omega), Option.getD_some]
  rw [e1, e2] at e
  omega
theorem mkF_bit {ms : List Int} (h : ∀ m ∈ ms, m = 0 ∨ m = 1) (q : Nat) : mkF ms q = 0 ∨ mkF ms q = 1 := by
  unfold mkF
  rw [List.getD_eq_getElem?_getD]
  by_cases hq : q < ms.length
  · rw [List.getElem?_eq_getElem hq]; exact h _ (List.getElem_mem _)
  · rw [List.getElem?_eq_none (by omega)]; exact .inl rfl
section
variable {L sa sb : Nat} {na nb : List (List Int)} {ma mb : List Int}
theorem MxOk.step (h : MxOk L sa sb na ma nb mb) (k : KC) (a : Nat) (hk : k ∈ mxU na nb) (ha : a < L) : mxF na nb k a ∈ mxU na nb := by
  obtain ⟨p, q, rfl, hp, hq⟩ := (mem_mxU na nb k).1 hk
  exact (mem_mxU na nb _).2 ⟨_, _, rfl, by rw [Int.toNat_natCast]; exact nxF_lt h.a hp ha, by rw [Int.toNat_natCast]; exact nxF_lt h.b hq ha⟩
theorem MxOk.first (h : MxOk L sa sb na ma nb mb) : (((sa : Int), (sb : Int)) : KC) ∈ mxU na nb := (mem_mxU na nb _).2 ⟨sa, sb, rfl, h.fa, h.fb⟩
theorem MxOk.keys (h : MxOk L sa sb na ma nb mb) : ∀ k ∈ mxU na nb, okC k := fun k hk => by
  obtain ⟨p, q, rfl, hp, hq⟩ := (mem_mxU na nb k).1 hk
  have := h.a.big; have := h.b.big
  unfold okC
  simp only
  omega
def mxL (L sa sb : Nat) (na nb : List (List Int)) : List KC := expL (mxF na nb) L ((mxU na nb).length + 1) [((sa : Int), (sb : Int))] 0
def mxRx (L sa sb : Nat) (na nb : List (List Int)) : List (List Int) := rowsL (mxF na nb) L (mxL L sa sb na nb)
def mxMx (L sa sb : Nat) (na nb : List (List Int)) (t : Int) (ma mb : List Int) : List Int := (mxL L sa sb na nb).map (mxM t ma mb)
theorem MxOk.expl (h : MxOk L sa sb na ma nb mb) : Expl (mxF na nb) L (mxU na nb) (((sa : Int), (sb : Int)) : KC) (mxL L sa sb na nb) := expl_of h.first h.step
theorem mxBit_lt (t x y : Int) : 0 ≤ mxBit t x y ∧ mxBit t x y < 65536 := by
  unfold mxBit
  split <;> split <;> omega
theorem MxOk.det (h : MxOk L sa sb na ma nb mb) (t : Int) : DetOk L (mxRx L sa sb na nb) (mxMx L sa sb na nb t ma mb) :=
  h.expl.det (by rw [mxU_len]; have := h.big; omega) h.a.L1 h.a.L4 _ (fun x _ => mxBit_lt _ _ _)
theorem mx_next (h : MxOk L sa sb na ma nb mb) (bA bB : Nat) (A2 B2 : Option Addr) (c2 d2 : Nat) (a0 a1 a3 b0 b1 b3 : Value) (W0 : World) (hA : W0.heap[bA]? = some (.cells #[a0, a1, .slice A2 na.length c2, a3] 80 (0, 0))) (hB : W0.heap[bB]? = some (.cells #[b0, b1, .slice B2 nb.length d2, b3] 80 (0, 0)))
    (hra : Kd.C (Kd.slice 3 (Kd.int .i64)) W0 A2 na.length na) (hrb : Kd.C (Kd.slice 3 (Kd.int .i64)) W0 B2 nb.length nb) : NextAtC 97 #[.pointer (some ⟨bA, 0, none⟩), .pointer (some ⟨bB, 0, none⟩)] (mxF na nb) (mxU na nb) L W0 := by
  intro W k a hW hk ha
  obtain ⟨p, q, rfl, hp, hq⟩ := (mem_mxU na nb k).1 hk
  have := mx1_calls bA bB A2 B2 c2 d2 a0 a1 a3 b0 b1 b3 na nb L W (blk_below hA hW) (blk_below hB hW) (Kd.C_below hra hW) (Kd.C_below hrb hW) p q a hp hq (nx_row h.a hp) (nx_row h.b hq) ha _ _ (nxF_at h.a hp ha) (nxF_at h.b hq ha)
  unfold mxF
  rw [Int.toNat_natCast, Int.toNat_natCast]
  exact this
theorem mx_mark (h : MxOk L sa sb na ma nb mb) (bA bB bT : Nat) (A3 B3 : Option Addr) (c3 d3 : Nat) (a0 a1 a2 b0 b1 b2 : Value) (t : Int) (ht0 : 0 ≤ t) (ht : t ≤ 15) (W0 : World) (hA : W0.heap[bA]? = some (.cells #[a0, a1, a2, .slice A3 ma.length c3] 80 (0, 0))) (hB : W0.heap[bB]? = some (.cells #[b0, b1, b2, .slice B3 mb.length d3] 80 (0, 0))) (hT : W0.heap[bT]? = some (.cells #[.int .i64 t] 3 (0, 0)))
    (hra : Kd.C (Kd.int .i64) W0 A3 ma.length ma) (hrb : Kd.C (Kd.int .i64) W0 B3 mb.length mb) : MarkAtC 98 #[.pointer (some ⟨bT, 0, none⟩), .pointer (some ⟨bA, 0, none⟩), .pointer (some ⟨bB, 0, none⟩)] (mxM t ma mb) (mxU na nb) W0 := by
  intro W k hW hk
  obtain ⟨p, q, rfl, hp, hq⟩ := (mem_mxU na nb k).1 hk
  have := mx2_calls bA bB bT A3 B3 c3 d3 a0 a1 a2 b0 b1 b2 ma mb t ht0 ht W (blk_below hA hW) (blk_below hB hW) (blk_below hT hW) (Kd.C_below hra hW) (Kd.C_below hrb hW) p q (by rw [h.a.len]; exact hp) (by rw [h.b.len]; exact hq) _ _ rfl rfl (mkF_bit h.ba p) (mkF_bit h.bb q)
  unfold mxM
  rw [Int.toNat_natCast, Int.toNat_natCast]
  exact this
end
structure MxM (w W : World) (bB bT bR : Nat) (L sa sb : Int) (A2 A3 B2 B3 : Option Addr) (n1 n2 n3 n4 c2 c3 d2 d3 : Nat) (t : Int) : Prop where
  b : Below w.heap.size w W
  x : W.heap[w.heap.size]? = some (.cells #[.int .i64 L, .int .i64 sa, .slice A2 n1 c2, .slice A3 n2 c3] 80 (0, 0))
  y : W.heap[bB]? = some (.cells #[.int .i64 L, .int .i64 sb, .slice B2 n3 d2, .slice B3 n4 d3] 80 (0, 0))
  t : W.heap[bT]? = some (.cells #[.int .i64 t] 3 (0, 0))
  r : W.heap[bR]? = some (.cells #[.int .i64 0, .int .i64 0, .slice none 0 0, .slice none 0 0] 80 (0, 0))
  e : w.heap.size ≤ bR
theorem MxM.below {w W W' : World} {bB bT bR : Nat} {L sa sb : Int} {A2 A3 B2 B3 : Option Addr} {n1 n2 n3 n4 c2 c3 d2 d3 : Nat} {t : Int} (h : MxM w W bB bT bR L sa sb A2 A3 B2 B3 n1 n2 n3 n4 c2 c3 d2 d3 t) (hb : Below W.heap.size W W') : MxM w W' bB bT bR L sa sb A2 A3 B2 B3 n1 n2 n3 n4 c2 c3 d2 d3 t :=
  ⟨below_step h.b hb, blk_below h.x hb, blk_below h.y hb, blk_below h.t hb, blk_below h.r hb, h.e⟩
theorem wrap_mul {x y : Nat} (h : x * y ≤ 3000) : IntKind.i64.wrap ((x : Int) * (y : Int)) = ((x * y : Nat) : Int) := by
  rw [show (x : Int) * (y : Int) = ((x * y : Nat) : Int) from by simp, IntKind.wrap_i64]
  generalize x * y = z at h
  omega
set_option maxHeartbeats 8000000 in
set_option maxRecDepth 100000 in
theorem mixed_calls (L sa sb : Nat) (A2 A3 B2 B3 : Option Addr) (c2 c3 d2 d3 : Nat) (na nb : List (List Int)) (ma mb : List Int) (t : Int) (w : World) (hra2 : Kd.C (Kd.slice 3 (Kd.int .i64)) w A2 na.length na) (hra3 : Kd.C (Kd.int .i64) w A3 ma.length ma) (hrb2 : Kd.C (Kd.slice 3 (Kd.int .i64)) w B2 nb.length nb) (hrb3 : Kd.C (Kd.int .i64) w B3 mb.length mb)
    (h : MxOk L sa sb na ma nb mb) (ht0 : 0 ≤ t) (ht : t ≤ 15) :
    Calls Try.prog 40 #[.agg #[.int .i64 (L : Int), .int .i64 (sa : Int), .slice A2 na.length c2, .slice A3 ma.length c3], .agg #[.int .i64 (L : Int), .int .i64 (sb : Int), .slice B2 nb.length d2, .slice B3 mb.length d3], .int .i64 t] w fun e w' =>
      DetPostE w w' e ((L : Int), lstR L (mxRx L sa sb na nb) (mxMx L sa sb na nb t ma mb) 0, lstM L (mxRx L sa sb na nb) (mxMx L sa sb na nb t ma mb) 0, 0) := by
  have RA2 := Aside0.mk hra2
  have RA3 := Aside0.mk hra3
  have RB2 := Aside0.mk hrb2
  have RB3 := Aside0.mk hrb3
  have HOK := Aside0.mk h
  have hL4 := h.a.L4
  have hmw := wrap_mul h.big
  have HBG := Aside0.mk h.big
  obtain ⟨P, hP⟩ : ∃ P : Nat, na.length * nb.length = P := ⟨_, rfl⟩
  have HPP := Aside0.mk hP
  have hbig := h.big
  rw [hP] at hmw hbig
  have g1 : decide (t < 0) = false := decide_eq_false (by omega)
  have g2 : decide ((15 : Int) < t) = false := decide_eq_false (by omega)
  have g3 : decide ((3000 : Int) < (P : Int)) = false := decide_eq_false (by omega)
  have HTT := Aside0.mk (And.intro ht0 ht)
  clear hra2 hra3 hrb2 hrb3 h hP hbig
  obtain ⟨bB, hbB⟩ : ∃ bB, w.heap.size + 1 = bB := ⟨_, rfl⟩
  obtain ⟨bT, hbT⟩ : ∃ bT, bB + 1 = bT := ⟨_, rfl⟩
  obtain ⟨bR, hbR⟩ : ∃ bR, bT + 1 = bR := ⟨_, rfl⟩
  have M0 := Aside0.mk (show MxM w ((((w.alloc (.cells #[.int .i64 (L : Int), .int .i64 (sa : Int), .slice A2 na.length c2, .slice A3 ma.length c3] 80)).alloc (.cells #[.int .i64 (L : Int), .int .i64 (sb : Int), .slice B2 nb.length d2, .slice B3 mb.length d3] 80)).alloc (.cells #[.int .i64 t] 3)).alloc (.cells #[.int .i64 0, .int .i64 0, .slice none 0 0, .slice none 0 0] 80)) bB bT bR (L : Int) (sa : Int) (sb : Int) A2 A3 B2 B3 na.length ma.length nb.length mb.length c2 c3 d2 d3 t from
    ⟨below_alloc (below_alloc (below_alloc (below_alloc (Below.refl _ _) _) _) _) _, blk_alloc (blk_alloc (blk_alloc (blk_new w _) _) _) _, blk_alloc (blk_alloc (blk_newn _ _ _ (by rw [← hbB]; simp)) _) _, blk_alloc (blk_newn _ _ _ (by rw [← hbT, ← hbB]; simp)) _, blk_newn _ _ _ (by rw [← hbR, ← hbT, ← hbB]; simp), by omega⟩)
  have HEQ := Aside0.mk (And.intro hbB (And.intro hbT hbR))
  clear hbB hbT hbR
  go_enter Try.func40, Try.ntmps40
  go_wp2_with (first
    | (go_at_call 95
       refine (two_calls (L : Int) (sa : Int) (sb : Int) A2 A3 B2 B3 c2 c3 d2 d3 na nb ma mb _ (Kd.C_below RA2.out M0.out.b) (Kd.C_below RA3.out M0.out.b) (Kd.C_below RB2.out M0.out.b) (Kd.C_below RB3.out M0.out.b) HOK.out.ca HOK.out.cb).mono ?_
       rintro e w1 ⟨rfl, hb1⟩
       have M1 := Aside0.mk (M0.out.below hb1)
       clear hb1 M0
       rw [HEQ.out.1, HEQ.out.2.1, HEQ.out.2.2]
       have kx0 : w1.cell? ⟨w.heap.size, 0, none⟩ = some (.int .i64 (L : Int)) := (blk_cell M1.out.x 0).trans rfl
       have kx1 : w1.cell? ⟨w.heap.size, 1, none⟩ = some (.int .i64 (sa : Int)) := (blk_cell M1.out.x 1).trans rfl
       have kx2 : w1.cell? ⟨w.heap.size, 2, none⟩ = some (.slice A2 na.length c2) := (blk_cell M1.out.x 2).trans rfl
       have ky1 : w1.cell? ⟨bB, 1, none⟩ = some (.int .i64 (sb : Int)) := (blk_cell M1.out.y 1).trans rfl
       have ky2 : w1.cell? ⟨bB, 2, none⟩ = some (.slice B2 nb.length d2) := (blk_cell M1.out.y 2).trans rfl
       have kt : w1.cell? ⟨bT, 0, none⟩ = some (.int .i64 t) := (blk_cell M1.out.t 0).trans rfl)
    | (go_at_call 96
       refine (exploreC_calls 97 98 _ _ (enters_of Try.func97 (by kernel_rfl) rfl) (enters_of Try.func98 (by kernel_rfl) rfl) L (sa : Int) (sb : Int) _ (mxF na nb) (mxM t ma mb) (mxU na nb) w1 (mx_next HOK.out w.heap.size bB A2 B2 c2 d2 _ _ _ _ _ _ w1 M1.out.x M1.out.y (Kd.C_below RA2.out M1.out.b) (Kd.C_below RB2.out M1.out.b)) (mx_mark HOK.out w.heap.size bB bT A3 B3 c3 d3 _ _ _ _ _ _ t HTT.out.1 HTT.out.2 w1 M1.out.x M1.out.y M1.out.t (Kd.C_below RA3.out M1.out.b) (Kd.C_below RB3.out M1.out.b)) HOK.out.a.L1 (by omega) HOK.out.first HOK.out.step HOK.out.keys (by rw [mxU_len]; have := HBG.out; omega) (by rw [mxU_len]; have := HBG.out; omega)).mono ?_
       rintro e w9 ⟨vN, vM, rfl, hb9, sN, sM, hd9, hN9, hM9⟩
       rw [show rowsL (mxF na nb) L (expL (mxF na nb) L ((mxU na nb).length + 1) [((sa : Int), (sb : Int))] 0) = mxRx L sa sb na nb from rfl] at hN9
       rw [show (expL (mxF na nb) L ((mxU na nb).length + 1) [((sa : Int), (sb : Int))] 0).map (mxM t ma mb) = mxMx L sa sb na nb t ma mb from rfl] at hM9
       obtain ⟨AN, cN, rfl⟩ := Kd.S_slice hN9
       obtain ⟨AM, cM, rfl⟩ := Kd.R_slice hM9
       have M9 := Aside0.mk (M1.out.below hb9)
       have N9 := Aside0.mk (Kd.S_reads' hN9).2
       have K9 := Aside0.mk (Kd.R_reads' hM9).2
       clear hb9 hd9 hN9 hM9 kx0 kx1 kx2 ky1 ky2 kt)
    | (go_at_call 78
       refine (smallest_calls AN AM cN cM L 0 (mxRx L sa sb na nb) (mxMx L sa sb na nb t ma mb) _ (Kd.C_below N9.out.2 (below_alloc (Below.refl _ _) _)) N9.out.1 (Kd.C_below K9.out.2 (below_alloc (Below.refl _ _) _)) K9.out.1 (HOK.out.det t) (HOK.out.det t).pos).mono ?_
       rintro e w10 ⟨vN, vM, rfl, hb10, sN, sM, hd10, hN10, hM10⟩
       obtain ⟨R, hR⟩ : ∃ R, lstR L (mxRx L sa sb na nb) (mxMx L sa sb na nb t ma mb) 0 = R := ⟨_, rfl⟩
       obtain ⟨Mk, hMk⟩ : ∃ Mk, lstM L (mxRx L sa sb na nb) (mxMx L sa sb na nb t ma mb) 0 = Mk := ⟨_, rfl⟩
       replace hN10 := hR ▸ (show Kd.S (Kd.slice 3 (Kd.int .i64)) 22 w10 _ sN vN (lstR L (mxRx L sa sb na nb) (mxMx L sa sb na nb t ma mb) 0) from hN10)
       replace hM10 := hMk ▸ (show Kd.R (Kd.int .i64) 3 w10 _ sM vM (lstM L (mxRx L sa sb na nb) (mxMx L sa sb na nb t ma mb) 0) from hM10)
       have HRR := Aside0.mk (And.intro hR hMk)
       obtain ⟨AR, cR, rfl⟩ := Kd.S_slice hN10
       obtain ⟨AM2, cM2, rfl⟩ := Kd.R_slice hM10
       have M10 := Aside0.mk (M9.out.below (below_step (below_alloc (Below.refl _ _) _) hb10))
       have hz9 : bR < w9.heap.size := blk_lt M9.out.r
       have Z10 := Aside0.mk M10.out.r
       have hzr : bR < w10.heap.size := blk_lt Z10.out
       have r0 := (blk_cell Z10.out 0).trans rfl
       have rf0 := blk_frozen Z10.out 0
       have r1 := (blk_cell Z10.out 1).trans rfl
       have rf1 := blk_frozen Z10.out 1
       have r2 := (blk_cell Z10.out 2).trans rfl
       have rf2 := blk_frozen Z10.out 2
       have r3 := (blk_cell Z10.out 3).trans rfl
       have rf3 := blk_frozen Z10.out 3
       have N10 := Aside0.mk (show Kd.S (Kd.slice 3 (Kd.int .i64)) 22 w10 (w9.heap.size + 1) sN (.slice AR R.length cR) R from Kd.S_lower hN10 (by simp))
       have K10 := Aside0.mk (show Kd.R (Kd.int .i64) 3 w10 (w9.heap.size + 1) sM (.slice AM2 Mk.length cM2) Mk from Kd.R_lower hM10 (by simp))
       have HD10 := Aside0.mk hd10
       clear hb10 hd10 hN10 hM10 hR hMk)
    | fail)
  rw [HRR.out.1, HRR.out.2]
  have hlo : w.heap.size ≤ bR := M10.out.e
  have hlt1 : bR < w9.heap.size + 1 := by omega
  have hg3 : w.heap.size ≤ w9.heap.size + 1 := by omega
  refine bodyPost_ret (resD rfl _ _ bR (.int .i64 (L : Int)) (.int .i64 0) (.slice AR R.length cR) (.slice AM2 Mk.length cM2) (.int .i64 0) rfl rfl (by go_simp) (by go_simp) (by go_simp) (by go_simp)) rfl ?_
  refine ⟨AR, cR, AM2, cM2, rfl, ?_, sN, sM, HD10.out, Kd.S_lower (base := w9.heap.size + 1) ?_ hg3, Kd.R_lower (base := w9.heap.size + 1) ?_ hg3⟩
  · with_reducible repeat (first | exact M10.out.b | refine below_set ?_ hlo)
  · with_reducible repeat (first | exact N10.out | refine S_set' ?_ hlt1 _)
  · with_reducible repeat (first | exact K10.out | refine R_set' ?_ hlt1 _)
end Go.Proofs.Ytjabncedfjjbjaa.H
