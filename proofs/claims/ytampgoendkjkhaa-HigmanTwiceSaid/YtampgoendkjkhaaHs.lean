/- higman.sets and its closures. -/
import Derived.Test.YtampgoendkjkhaaHg
namespace Go.Proofs.Ytampgoendkjkhaa.H
open Go.RowKit Go.Shelf Go.Proofs.YtampgoendkjkhaaW.PrintWords Go.Proofs.YtampgoendkjkhaaW.PrintMore Go.Proofs.Ytampgoendkjkhaa.DtM
set_option linter.unusedVariables false
set_option linter.unusedSimpArgs false
def MoreAt (g : Nat) (lb : Array Value) (mr : Nat → Nat → Nat) (N : Nat) (w : World) : Prop :=
  ∀ (W : World) (S X : Nat), Below w.heap.size w W → S < N → X < N → Calls Try.prog g (#[.int .i64 (S : Int), .int .i64 (X : Int)] ++ lb) W fun e W' => e = .returned (.int .i64 ((mr S X : Nat) : Int)) ∧ Below W.heap.size W W'
theorem up1_calls (S X : Nat) (w : World) (hS : S < 32) (hX : X < 32) : Calls Try.prog 93 #[.int .i64 (S : Int), .int .i64 (X : Int)] w fun e w' => e = .returned (.int .i64 ((S ||| X : Nat) : Int)) ∧ w = w' := by
  have HB := Aside0.mk (bits_or S X (by omega) (by omega))
  go_enter Try.func93, Try.ntmps93
  go_wp2
  go_ret
  exact ⟨by rw [← HB.out]; rfl, rfl⟩
def hgMk (good : Nat) (S : Int) : Int := if S.toNat &&& good = 0 then 0 else 1
theorem hs2_calls (S good : Nat) (B : Nat) (w : World) (hc : w.cell? ⟨B, 0, none⟩ = some (.int .i64 (good : Int))) (hS : S < 32) (hg : good < 32) :
    Calls Try.prog 155 #[.int .i64 (S : Int), .pointer (some ⟨B, 0, none⟩)] w fun e w' => e = .returned (.int .i64 (hgMk good S)) ∧ w = w' := by
  have hb := bits_and S good (by omega) (by omega)
  have HR := Aside0.mk (show hgMk good (S : Int) = if S &&& good = 0 then 0 else 1 from by unfold hgMk; rw [Int.toNat_natCast])
  by_cases h : S &&& good = 0
  · have hq : (bits .and .i64 (S : Int) (good : Int) != 0) = false := by rw [hb, h]; rfl
    rw [if_pos h] at HR
    clear hb h
    go_enter Try.func155, Try.ntmps155
    go_wp2
    go_ret
    exact ⟨by rw [HR.out]; rfl, rfl⟩
  · have hq : (bits .and .i64 (S : Int) (good : Int) != 0) = true := by rw [hb]; simp; omega
    rw [if_neg h] at HR
    clear hb h
    go_enter Try.func155, Try.ntmps155
    go_wp2
    go_ret
    exact ⟨by rw [HR.out]; rfl, rfl⟩
set_option maxHeartbeats 2000000 in
theorem hs1_calls (g : Nat) (lb : Array Value) (eg : ∀ args w, (callFunc g args).run Try.prog w = .ok (.enter g args) w) (L st : Nat) (A2 A3 : Option Addr) (c2 c3 : Nat) (nx : List (List Int)) (ms : List Int) (mr : Nat → Nat → Nat) (S a : Nat) (b1 b2 : Nat) (w : World) (hr2 : Kd.C (Kd.slice 3 (Kd.int .i64)) w A2 nx.length nx) (hok : SmOk L st nx ms)
    (hx : w.heap[b1]? = some (.cells #[.int .i64 (L : Int), .int .i64 (st : Int), .slice A2 nx.length c2, .slice A3 ms.length c3] 101 (0, 0))) (hf : w.heap[b2]? = some (.cells #[.func (.func g) #[] lb] 196 (0, 0))) (hm : MoreAt g lb mr (2 ^ nx.length) w) (hS : S < 2 ^ nx.length) (ha : a < L) :
    Calls Try.prog 154 #[.int .i64 (S : Int), .int .i64 (a : Int), .pointer (some ⟨b1, 0, none⟩), .pointer (some ⟨b2, 0, none⟩)] w fun e w' => e = .returned (.int .i64 ((mr S (nextK nx a S nx.length) : Nat) : Int)) ∧ Below w.heap.size w w' := by
  have HR := Aside0.mk hr2
  have HOK := Aside0.mk hok
  have HM := Aside0.mk hm
  have HS := Aside0.mk hS
  have hn5 := hok.n5
  have hL4 := hok.L4
  have hS32 := pow_le62 hS hn5
  have k2 : w.cell? ⟨b1, 2, none⟩ = some (.slice A2 nx.length c2) := (blk_cell hx 2).trans rfl
  have kf : w.cell? ⟨b2, 0, none⟩ = some (.func (.func g) #[] lb) := (blk_cell hf 0).trans rfl
  clear hr2 hok hm hS hx hf
  go_enter Try.func154, Try.ntmps154
  go_wp2
  go_loopg [7, 13] nx.length (fun gg s7 s13 wr => ∃ i : Nat, i ≤ nx.length ∧ nx.length - i ≤ gg ∧ s13 = .int .i64 (i : Int) ∧ s7 = .int .i64 ((nextK nx a S i : Nat) : Int) ∧ wr = w)
  case atStart => exact ⟨0, Nat.zero_le _, by omega, rfl, rfl, rfl⟩
  case round =>
    obtain ⟨i, hi, hg, rfl, rfl, rfl⟩ := hrel
    have hx32 := pow_le62 (nextK_lt (S := S) HOK.out ha i hi) hn5
    by_cases hlt : i < nx.length
    · have hltz : (i : Int) < (nx.length : Int) := by omega
      obtain ⟨ad, A4, c4, rfl, hle, hrow, hc⟩ := row_get HR.out rfl hlt
      have hrl := HOK.out.row _ (List.getElem_mem hlt)
      have hal : a < nx[i].length := by omega
      obtain ⟨ad5, rfl, hc5⟩ := int_get hrow rfl hal
      have hNF : nx[i][a] = (nxF nx i a : Int) := by
        have := HOK.out.tos _ (List.getElem_mem hlt) _ (List.getElem_mem hal)
        unfold nxF
        have e1 : nx.getD i [] = nx[i] := by rw [List.getD_eq_getElem?_getD, List.getElem?_eq_getElem hlt, Option.getD_some]
        rw [e1, List.getD_eq_getElem?_getD, List.getElem?_eq_getElem hal, Option.getD_some]
        omega
      rw [hNF] at hc5
      rw [hrl] at hc
      have hto := nx_lt HOK.out.det hlt ha
      have HB := Aside0.mk (bits_or_pow (nextK nx a S i) (nxF nx i a) (by omega) (by omega))
      have haz : (a : Int) < (L : Int) := by omega
      clear hrow hrl hle hal hNF
      cases hb : S.testBit i with
      | true =>
        have hqq : (bits .and .i64 ((S : Int) / 2 ^ i) 1 == 1) = true := by rw [bits_test1 S i (by omega), hb]
        have HE := Aside0.mk (show nextK nx a S (i + 1) = nextK nx a S i ||| 2 ^ (nxF nx i a) from by rw [nextK, if_pos hb])
        clear hb
        generalize nextK nx a S i = x at HB HE hx32 ⊢
        generalize nxF nx i a = t at HB HE hto hc5
        go_wp2
        go_roundg (nx.length - (i + 1))
        case measure => omega
        case rel => exact ⟨i + 1, by omega, by omega, by go_num, by rw [HE.out, ← HB.out], rfl⟩
      | false =>
        have hqq : (bits .and .i64 ((S : Int) / 2 ^ i) 1 == 1) = false := by rw [bits_test1 S i (by omega), hb]
        have HE := Aside0.mk (show nextK nx a S (i + 1) = nextK nx a S i from by rw [nextK, if_neg (by simp [hb]), Nat.or_zero])
        clear hb
        generalize nextK nx a S i = x at HB HE hx32 ⊢
        generalize nxF nx i a = t at HB hto hc5
        go_wp2
        go_roundg (nx.length - (i + 1))
        case measure => omega
        case rel => exact ⟨i + 1, by omega, by omega, by go_num, by rw [HE.out], rfl⟩
    · have hie : i = nx.length := by omega
      subst hie
      have HC := Aside0.mk (HM.out wr S (nextK nx a S nx.length) (Below.refl _ _) HS.out (nextK_lt HOK.out ha nx.length (Nat.le_refl _)))
      go_wp2_with (go_at_fn g; refine HC.out.mono ?_; rintro e w6 ⟨rfl, hb6⟩)
      go_ret
      exact ⟨rfl, hb6⟩
/-! ### what sets explores -/
def hgF (nx : List (List Int)) (mr : Nat → Nat → Nat) (k : Int) (a : Nat) : Int := ((mr k.toNat (nextK nx a k.toNat nx.length) : Nat) : Int)
def hgU (nx : List (List Int)) : List Int := (List.range (2 ^ nx.length)).map fun i : Nat => (i : Int)
theorem mem_hgU (nx : List (List Int)) (x : Int) : x ∈ hgU nx ↔ ∃ i : Nat, x = (i : Int) ∧ i < 2 ^ nx.length := by
  unfold hgU
  rw [List.mem_map]
  constructor
  · rintro ⟨i, hi, rfl⟩; exact ⟨i, rfl, List.mem_range.1 hi⟩
  · rintro ⟨i, rfl, hi⟩; exact ⟨i, List.mem_range.2 hi, rfl⟩
theorem hgU_len (nx : List (List Int)) : (hgU nx).length = 2 ^ nx.length := by unfold hgU; rw [List.length_map, List.length_range]
theorem hgU_le {nx : List (List Int)} (h : nx.length ≤ 5) : (hgU nx).length ≤ 32 := by
  rw [hgU_len]; exact Nat.le_trans (Nat.pow_le_pow_right (by omega) h) (by decide)
theorem hgF_mem {L st : Nat} {nx : List (List Int)} {ms : List Int} (h : SmOk L st nx ms) {mr : Nat → Nat → Nat} (hmr : ∀ S X, S < 2 ^ nx.length → X < 2 ^ nx.length → mr S X < 2 ^ nx.length) (k : Int) (a : Nat) (hk : k ∈ hgU nx) (ha : a < L) : hgF nx mr k a ∈ hgU nx := by
  obtain ⟨i, rfl, hi⟩ := (mem_hgU nx k).1 hk
  refine (mem_hgU nx _).2 ⟨_, rfl, ?_⟩
  rw [Int.toNat_natCast]
  exact hmr _ _ hi (nextK_lt h ha _ (Nat.le_refl _))
def hgL (L : Nat) (nx : List (List Int)) (mr : Nat → Nat → Nat) (first : Nat) : List Int := expL (hgF nx mr) L ((hgU nx).length + 1) [((first : Nat) : Int)] 0
theorem hgL_expl {L st : Nat} {nx : List (List Int)} {ms : List Int} (h : SmOk L st nx ms) {mr : Nat → Nat → Nat} (hmr : ∀ S X, S < 2 ^ nx.length → X < 2 ^ nx.length → mr S X < 2 ^ nx.length) {first : Nat} (hf : first < 2 ^ nx.length) : Expl (hgF nx mr) L (hgU nx) ((first : Nat) : Int) (hgL L nx mr first) :=
  expl_of ((mem_hgU nx _).2 ⟨first, rfl, hf⟩) (fun k a hk ha => hgF_mem h hmr k a hk ha)
def hgRx (L : Nat) (nx : List (List Int)) (mr : Nat → Nat → Nat) (first : Nat) : List (List Int) := rowsL (hgF nx mr) L (hgL L nx mr first)
def hgMx (L : Nat) (nx : List (List Int)) (ms : List Int) (mr : Nat → Nat → Nat) (first : Nat) : List Int := (hgL L nx mr first).map (hgMk (bN (mkB ms) ms.length))
theorem hg_det {L st : Nat} {nx : List (List Int)} {ms : List Int} (h : SmOk L st nx ms) {mr : Nat → Nat → Nat} (hmr : ∀ S X, S < 2 ^ nx.length → X < 2 ^ nx.length → mr S X < 2 ^ nx.length) {first : Nat} (hf : first < 2 ^ nx.length) : DetOk L (hgRx L nx mr first) (hgMx L nx ms mr first) :=
  (hgL_expl h hmr hf).det (by have := hgU_le h.n5; omega) h.L1 h.L4 _ (fun x _ => by unfold hgMk; split <;> omega)
theorem more_below {g : Nat} {lb : Array Value} {mr : Nat → Nat → Nat} {N : Nat} {w W : World} (h : MoreAt g lb mr N w) (hb : Below w.heap.size w W) : MoreAt g lb mr N W :=
  fun W2 S X h2 hS hX => h W2 S X (below_step hb h2) hS hX
def DetPost0 (w w' : World) (e : Ending) (L : Int) (R : List (List Int)) (M : List Int) : Prop :=
  ∃ AN cN AM cM, e = .returned (.agg #[.int .i64 L, .int .i64 0, .slice AN R.length cN, .slice AM M.length cM]) ∧ Below w.heap.size w w' ∧
      ∃ sN sM : Nat → Prop, (∀ k, sM k → ¬ sN k) ∧ Kd.S (Kd.slice 3 (Kd.int .i64)) 22 w' w.heap.size sN (.slice AN R.length cN) R ∧ Kd.R (Kd.int .i64) 3 w' w.heap.size sM (.slice AM M.length cM) M
theorem hg_next (g : Nat) (lb : Array Value) (eg : ∀ args w, (callFunc g args).run Try.prog w = .ok (.enter g args) w) (L st : Nat) (A2 A3 : Option Addr) (c2 c3 : Nat) (nx : List (List Int)) (ms : List Int) (mr : Nat → Nat → Nat) (b1 b2 : Nat) (W0 : World) (hr2 : Kd.C (Kd.slice 3 (Kd.int .i64)) W0 A2 nx.length nx) (hok : SmOk L st nx ms)
    (hx : W0.heap[b1]? = some (.cells #[.int .i64 (L : Int), .int .i64 (st : Int), .slice A2 nx.length c2, .slice A3 ms.length c3] 101 (0, 0))) (hf : W0.heap[b2]? = some (.cells #[.func (.func g) #[] lb] 196 (0, 0))) (hm : MoreAt g lb mr (2 ^ nx.length) W0) :
    NextAt 154 #[.pointer (some ⟨b1, 0, none⟩), .pointer (some ⟨b2, 0, none⟩)] (hgF nx mr) (hgU nx) L W0 := by
  intro W k a hW hk ha
  obtain ⟨i, rfl, hi⟩ := (mem_hgU nx k).1 hk
  have hm' : MoreAt g lb mr (2 ^ nx.length) W := fun W2 S X h2 hS hX => hm W2 S X (below_step hW h2) hS hX
  have := hs1_calls g lb eg L st A2 A3 c2 c3 nx ms mr i a b1 b2 W (Kd.C_below hr2 hW) hok (blk_below hx hW) (blk_below hf hW) hm' hi ha
  unfold hgF
  rw [Int.toNat_natCast]
  exact this
theorem hg_mark (L st : Nat) (nx : List (List Int)) (ms : List Int) (B : Nat) (W0 : World) (hok : SmOk L st nx ms) (hx : W0.heap[B]? = some (.cells #[.int .i64 ((bN (mkB ms) ms.length : Nat) : Int)] 3 (0, 0))) : MarkAt 155 #[.pointer (some ⟨B, 0, none⟩)] (hgMk (bN (mkB ms) ms.length)) (hgU nx) W0 := by
  intro W k hW hk
  obtain ⟨i, rfl, hi⟩ := (mem_hgU nx k).1 hk
  refine (hs2_calls i _ B W ((blk_cell (blk_below hx hW) 0).trans rfl) (pow_le62 hi hok.n5) (pow_le62 (bN_lt _ _) (by have := hok.len; have := hok.n5; omega))).mono ?_
  rintro e w' ⟨he, rfl⟩
  exact ⟨he, Below.refl _ _⟩
theorem hgU_bound (nx : List (List Int)) (h : nx.length ≤ 5) : ∀ k ∈ hgU nx, -9223372036854775808 ≤ k ∧ k ≤ 9223372036854775807 := fun k hk => by
  obtain ⟨i, rfl, hi⟩ := (mem_hgU nx k).1 hk
  have := pow_le62 hi h
  omega
structure HsM (w W : World) (bR bG : Nat) (g : Nat) (lb : Array Value) (L st : Int) (A2 A3 : Option Addr) (n c2 m c3 : Nat) (gx : Nat) : Prop where
  b : Below w.heap.size w W
  x : W.heap[w.heap.size]? = some (.cells #[.int .i64 L, .int .i64 st, .slice A2 n c2, .slice A3 m c3] 101 (0, 0))
  f : W.heap[w.heap.size + 1]? = some (.cells #[.func (.func g) #[] lb] 196 (0, 0))
  r : W.heap[bR]? = some (.cells #[.int .i64 0, .int .i64 0, .slice none 0 0, .slice none 0 0] 101 (0, 0))
  g : W.heap[bG]? = some (.cells #[.int .i64 (gx : Int)] 3 (0, 0))
  eR : bR = w.heap.size + 2
  eG : bG = w.heap.size + 3
section
variable {w W W' : World} {bR bG g : Nat} {lb : Array Value} {L st : Int} {A2 A3 : Option Addr} {n c2 m c3 gx : Nat}
theorem HsM.below (h : HsM w W bR bG g lb L st A2 A3 n c2 m c3 gx) (hb : Below W.heap.size W W') : HsM w W' bR bG g lb L st A2 A3 n c2 m c3 gx :=
  ⟨below_step h.b hb, blk_below h.x hb, blk_below h.f hb, blk_below h.r hb, blk_below h.g hb, h.eR, h.eG⟩
theorem HsM.set (h : HsM w W bR bG g lb L st A2 A3 n c2 m c3 gx) (y : Nat) : HsM w (W.drew.setCell ⟨bG, 0, none⟩ (.int .i64 (y : Int))) bR bG g lb L st A2 A3 n c2 m c3 y := by
  have e1 := h.eR
  have e2 := h.eG
  exact ⟨below_set (below_drew1 h.b) (by show _ ≤ bG; omega), blk_far (blk_drew h.x) (p := ⟨bG, 0, none⟩) (by show _ ≠ bG; omega) _, blk_far (blk_drew h.f) (p := ⟨bG, 0, none⟩) (by show _ ≠ bG; omega) _, blk_far (blk_drew h.r) (p := ⟨bG, 0, none⟩) (by show _ ≠ bG; omega) _, blk_set (blk_drew h.g) 0 _, e1, e2⟩
end
set_option maxHeartbeats 8000000 in
set_option maxRecDepth 100000 in
theorem hgSets_calls (g : Nat) (lb : Array Value) (eg : ∀ args w, (callFunc g args).run Try.prog w = .ok (.enter g args) w) (L st : Nat) (A2 A3 : Option Addr) (c2 c3 : Nat) (nx : List (List Int)) (ms : List Int) (mr : Nat → Nat → Nat) (first : Nat) (w : World) (hr2 : Kd.C (Kd.slice 3 (Kd.int .i64)) w A2 nx.length nx) (hr3 : Kd.C (Kd.int .i64) w A3 ms.length ms) (hok : SmOk L st nx ms)
    (hm : MoreAt g lb mr (2 ^ nx.length) w) (hf : first < 2 ^ nx.length) (hmr : ∀ S X, S < 2 ^ nx.length → X < 2 ^ nx.length → mr S X < 2 ^ nx.length) :
    Calls Try.prog 92 #[.agg #[.int .i64 (L : Int), .int .i64 (st : Int), .slice A2 nx.length c2, .slice A3 ms.length c3], .int .i64 (first : Int), .func (.func g) #[] lb] w fun e w' =>
      DetPost0 w w' e (L : Int) (lstR L (hgRx L nx mr first) (hgMx L nx ms mr first) 0) (lstM L (hgRx L nx mr first) (hgMx L nx ms mr first) 0) := by
  have HR2 := Aside0.mk hr2
  have HR3 := Aside0.mk hr3
  have HOK := Aside0.mk hok
  have HM := Aside0.mk hm
  have HF := Aside0.mk hf
  have HMR := Aside0.mk hmr
  have hn5 := hok.n5
  have hL4 := hok.L4
  have hml := Aside0.mk hok.len
  have hm5 : ms.length ≤ 5 := by have := hok.len; omega
  have EG := Aside0.mk eg
  clear hr2 hr3 hok hm hf hmr eg
  go_enter Try.func92, Try.ntmps92
  go_wp2
  obtain ⟨bR, hbR⟩ : ∃ bR, w.heap.size + 1 + 1 = bR := ⟨_, rfl⟩
  obtain ⟨bG, hbG⟩ : ∃ bG, bR + 1 = bG := ⟨_, rfl⟩
  have M0 := Aside0.mk (show HsM w ((((w.alloc (.cells #[.int .i64 (L : Int), .int .i64 (st : Int), .slice A2 nx.length c2, .slice A3 ms.length c3] 101)).alloc (.cells #[.func (.func g) #[] lb] 196)).alloc (.cells #[.int .i64 0, .int .i64 0, .slice none 0 0, .slice none 0 0] 101)).alloc (.cells #[.int .i64 0] 3)) bR bG g lb (L : Int) (st : Int) A2 A3 nx.length c2 ms.length c3 (bN (mkB ms) 0) from
    ⟨below_alloc (below_alloc (below_alloc (below_alloc (Below.refl _ _) _) _) _) _, blk_alloc (blk_alloc (blk_alloc (blk_new w _) _) _) _, blk_alloc (blk_alloc (blk_newn _ _ _ (by simp)) _) _, blk_alloc (blk_newn _ _ _ (by rw [← hbR]; simp)) _, blk_newn _ _ _ (by rw [← hbG, ← hbR]; simp), by omega, by omega⟩)
  rw [hbR, hbG]
  generalize (((w.alloc (.cells #[.int .i64 (L : Int), .int .i64 (st : Int), .slice A2 nx.length c2, .slice A3 ms.length c3] 101)).alloc (.cells #[.func (.func g) #[] lb] 196)).alloc (.cells #[.int .i64 0, .int .i64 0, .slice none 0 0, .slice none 0 0] 101)).alloc (.cells #[.int .i64 0] 3) = W1 at M0 ⊢
  clear hbR hbG
  go_loopg [15] ms.length (fun gg s15 wr => ∃ i : Nat, i ≤ ms.length ∧ ms.length - i ≤ gg ∧ s15 = .int .i64 (i : Int) ∧ Aside0 (HsM w wr bR bG g lb (L : Int) (st : Int) A2 A3 nx.length c2 ms.length c3 (bN (mkB ms) i)))
  case atStart => exact ⟨0, Nat.zero_le _, by omega, rfl, M0⟩
  case round =>
    obtain ⟨i, hi, hgg, rfl, MM⟩ := hrel
    clear M0
    have kG : wr.cell? ⟨bG, 0, none⟩ = some (.int .i64 ((bN (mkB ms) i : Nat) : Int)) := (blk_cell MM.out.g 0).trans rfl
    have fG := blk_frozen MM.out.g 0
    by_cases hlt : i < ms.length
    · have hltz : (i : Int) < (ms.length : Int) := by omega
      obtain ⟨ad, rfl, hc⟩ := int_get (Kd.C_below HR3.out MM.out.b) rfl hlt
      rw [mk_get HOK.out.mks hlt] at hc
      cases hb : mkB ms i with
      | true =>
        rw [hb, if_pos rfl] at hc
        have HE := Aside0.mk (bN_or' (mkB ms) i (by omega) hb)
        clear hb
        go_wp2
        go_region
        all_goals go_wp2
        all_goals
          go_roundg (ms.length - (i + 1))
          case measure => omega
          case rel => exact ⟨i + 1, by omega, by omega, by go_num, ⟨by rw [HE.out]; exact MM.out.set _⟩⟩
      | false =>
        rw [hb, if_neg (by simp)] at hc
        have HE := Aside0.mk (bN_or0 (mkB ms) i (by omega) hb)
        clear hb
        go_wp2
        go_region
        all_goals go_wp2
        all_goals
          go_roundg (ms.length - (i + 1))
          case measure => omega
          case rel => exact ⟨i + 1, by omega, by omega, by go_num, ⟨by rw [HE.out]; exact MM.out.set _⟩⟩
    · have hie : i = ms.length := by omega
      subst hie
      have x0 : wr.cell? ⟨w.heap.size, 0, none⟩ = some (.int .i64 (L : Int)) := (blk_cell MM.out.x 0).trans rfl
      have EQ := Aside0.mk (And.intro MM.out.eR MM.out.eG)
      clear hlt hgg hi kG fG
      go_wp2_with (first
        | (go_at_call 153
           refine (explore_calls 154 155 _ _ (enters_of Try.func154 (by kernel_rfl) rfl) (enters_of Try.func155 (by kernel_rfl) rfl) L ((first : Nat) : Int) _ (hgF nx mr) (hgMk (bN (mkB ms) ms.length)) (hgU nx) wr (hg_next g lb EG.out L st A2 A3 c2 c3 nx ms mr w.heap.size (w.heap.size + 1) wr (Kd.C_below HR2.out MM.out.b) HOK.out MM.out.x MM.out.f (more_below HM.out MM.out.b)) (hg_mark L st nx ms bG wr HOK.out MM.out.g) HOK.out.L1 (by omega) ((mem_hgU nx _).2 ⟨first, rfl, HF.out⟩) (fun k a hk ha => hgF_mem HOK.out HMR.out k a hk ha) (hgU_bound nx hn5) (by have := hgU_le hn5; omega) (by have := hgU_le hn5; omega)).mono ?_
           rintro e w9 ⟨vN, vM, rfl, hb9, sN, sM, hd9, hN9, hM9⟩
           rw [show rowsL (hgF nx mr) L (expL (hgF nx mr) L ((hgU nx).length + 1) [((first : Nat) : Int)] 0) = hgRx L nx mr first from rfl] at hN9
           rw [show (expL (hgF nx mr) L ((hgU nx).length + 1) [((first : Nat) : Int)] 0).map (hgMk (bN (mkB ms) ms.length)) = hgMx L nx ms mr first from rfl] at hM9
           obtain ⟨AN, cN, rfl⟩ := Kd.S_slice hN9
           obtain ⟨AM, cM, rfl⟩ := Kd.R_slice hM9
           have M9 := Aside0.mk (MM.out.below hb9)
           have N9 := Aside0.mk (Kd.S_reads' hN9).2
           have K9 := Aside0.mk (Kd.R_reads' hM9).2
           clear hb9 hd9 hN9 hM9 x0)
        | (go_at_call 98
           refine (smallest_calls AN AM cN cM L 0 (hgRx L nx mr first) (hgMx L nx ms mr first) _ (Kd.C_below N9.out.2 (below_alloc (Below.refl _ _) _)) N9.out.1 (Kd.C_below K9.out.2 (below_alloc (Below.refl _ _) _)) K9.out.1 (hg_det HOK.out HMR.out HF.out) (hg_det HOK.out HMR.out HF.out).pos).mono ?_
           rintro e w10 ⟨vN, vM, rfl, hb10, sN, sM, hd10, hN10, hM10⟩
           obtain ⟨R, hR⟩ : ∃ R, lstR L (hgRx L nx mr first) (hgMx L nx ms mr first) 0 = R := ⟨_, rfl⟩
           obtain ⟨Mk, hMk⟩ : ∃ Mk, lstM L (hgRx L nx mr first) (hgMx L nx ms mr first) 0 = Mk := ⟨_, rfl⟩
           replace hN10 := hR ▸ (show Kd.S (Kd.slice 3 (Kd.int .i64)) 22 w10 _ sN vN (lstR L (hgRx L nx mr first) (hgMx L nx ms mr first) 0) from hN10)
           replace hM10 := hMk ▸ (show Kd.R (Kd.int .i64) 3 w10 _ sM vM (lstM L (hgRx L nx mr first) (hgMx L nx ms mr first) 0) from hM10)
           have HRR := Aside0.mk (And.intro hR hMk)
           obtain ⟨AR, cR, rfl⟩ := Kd.S_slice hN10
           obtain ⟨AM2, cM2, rfl⟩ := Kd.R_slice hM10
           have M10 := Aside0.mk (M9.out.below (below_step (below_alloc (Below.refl _ _) _) hb10))
           have hz9 : bR < w9.heap.size := blk_lt M9.out.r
           have Z10 := Aside0.mk M10.out.r
           have hzr : bR < w10.heap.size := blk_lt Z10.out
           have r0 := (blk_cell Z10.out 0).trans rfl
           have rf0 := blk_frozen Z10.out 0
           have r1 := (blk_cell Z10.out 1).trans rfl
           have rf1 := blk_frozen Z10.out 1
           have r2 := (blk_cell Z10.out 2).trans rfl
           have rf2 := blk_frozen Z10.out 2
           have r3 := (blk_cell Z10.out 3).trans rfl
           have rf3 := blk_frozen Z10.out 3
           have N10 := Aside0.mk (show Kd.S (Kd.slice 3 (Kd.int .i64)) 22 w10 (w9.heap.size + 1) sN (.slice AR R.length cR) R from Kd.S_lower hN10 (by simp))
           have K10 := Aside0.mk (show Kd.R (Kd.int .i64) 3 w10 (w9.heap.size + 1) sM (.slice AM2 Mk.length cM2) Mk from Kd.R_lower hM10 (by simp))
           have HD10 := Aside0.mk hd10
           clear hb10 hd10 hN10 hM10 hR hMk)
        | fail)
      rw [HRR.out.1, HRR.out.2]
      have hlo : w.heap.size ≤ bR := by have := EQ.out.1; omega
      have hlt1 : bR < w9.heap.size + 1 := by omega
      have hg3 : w.heap.size ≤ w9.heap.size + 1 := by omega
      refine bodyPost_ret (resC rfl _ _ bR (.int .i64 (L : Int)) (.int .i64 0) (.slice AR R.length cR) (.slice AM2 Mk.length cM2) rfl (by go_simp) (by go_simp) (by go_simp) (by go_simp)) rfl ?_
      refine ⟨AR, cR, AM2, cM2, rfl, ?_, sN, sM, HD10.out, Kd.S_lower (base := w9.heap.size + 1) ?_ hg3, Kd.R_lower (base := w9.heap.size + 1) ?_ hg3⟩
      · with_reducible repeat (first | exact M10.out.b | refine below_set ?_ hlo)
      · with_reducible repeat (first | exact N10.out | refine S_set' ?_ hlt1 _)
      · with_reducible repeat (first | exact K10.out | refine R_set' ?_ hlt1 _)
end Go.Proofs.Ytampgoendkjkhaa.H
