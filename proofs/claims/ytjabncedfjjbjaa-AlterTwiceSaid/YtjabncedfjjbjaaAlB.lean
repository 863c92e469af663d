/- alter.ends, ahead. -/
import Derived.Test.YtjabncedfjjbjaaAl
import Derived.Test.YtjabncedfjjbjaaBt
namespace Go.Proofs.Ytjabncedfjjbjaa.H
open Go.RowKit Go.Shelf Go.Proofs.YtjabncedfjjbjaaW.PrintWords
set_option linter.unusedVariables false
set_option linter.unusedSimpArgs false
/-- what may stand in an automaton with choices -/
structure AlOk (L st : Nat) (nx : List (List (List (List Int)))) (ms : List Int) : Prop where
  n1 : 1 ≤ nx.length
  n4 : nx.length ≤ 4
  L1 : 1 ≤ L
  L4 : L ≤ 4
  len : ms.length = nx.length
  row : ∀ r ∈ nx, r.length = L
  st : st < nx.length
  tos : ∀ r ∈ nx, ∀ l ∈ r, ∀ c ∈ l, ∀ p ∈ c, 0 ≤ p ∧ p < (nx.length : Int)
  mks : ∀ m ∈ ms, m = 0 ∨ m = 1
def mkB (ms : List Int) (q : Nat) : Bool := ms.getD q 0 == 1
def endsN (ms : List Int) : Nat := bN (mkB ms) ms.length
theorem mk_get {ms : List Int} (h : ∀ m ∈ ms, m = 0 ∨ m = 1) {q : Nat} (hq : q < ms.length) : ms[q] = if mkB ms q then 1 else 0 := by
  unfold mkB
  rw [List.getD_eq_getElem?_getD, List.getElem?_eq_getElem hq, Option.getD_some]
  rcases h _ (List.getElem_mem hq) with e | e <;> rw [e] <;> rfl
set_option maxHeartbeats 1000000 in
theorem ends_calls (L st : Int) (A2 A3 : Option Addr) (c2 c3 n : Nat) (ms : List Int) (w : World) (hr3 : Kd.C (Kd.int .i64) w A3 ms.length ms) (hl : ms.length ≤ 4) (hm : ∀ m ∈ ms, m = 0 ∨ m = 1) :
    Calls Try.prog 73 #[.agg #[.int .i64 L, .int .i64 st, .slice A2 n c2, .slice A3 ms.length c3]] w fun e w' => e = .returned (.int .i64 ((endsN ms : Nat) : Int)) ∧ Below w.heap.size w w' := by
  have HR := Aside0.mk hr3
  have HM := Aside0.mk hm
  clear hr3 hm
  go_enter Try.func73, Try.ntmps73
  go_wp2
  have HB := Aside0.mk (below_alloc (Below.refl w.heap.size w) (.cells #[.int .i64 L, .int .i64 st, .slice A2 n c2, .slice A3 ms.length c3] 77))
  generalize w.alloc (.cells #[.int .i64 L, .int .i64 st, .slice A2 n c2, .slice A3 ms.length c3] 77) = W1 at HB ⊢
  go_loopg [3, 9] ms.length (fun gg s3 s9 wr => ∃ i : Nat, i ≤ ms.length ∧ ms.length - i ≤ gg ∧ s9 = .int .i64 (i : Int) ∧ s3 = .int .i64 ((bN (mkB ms) i : Nat) : Int) ∧ wr = W1)
  case atStart => exact ⟨0, Nat.zero_le _, by omega, rfl, rfl, rfl⟩
  case round =>
    obtain ⟨i, hi, hg, rfl, rfl, rfl⟩ := hrel
    by_cases hlt : i < ms.length
    · have hltz : (i : Int) < (ms.length : Int) := by omega
      obtain ⟨ad, rfl, hc⟩ := int_get (Kd.C_below HR.out HB.out) rfl hlt
      rw [mk_get HM.out hlt] at hc
      cases hb : mkB ms i with
      | true =>
        rw [hb, if_pos rfl] at hc
        have HE := Aside0.mk (bN_or' (mkB ms) i (by omega) hb)
        clear hb
        go_wp2
        go_roundg (ms.length - (i + 1))
        case measure => omega
        case rel => exact ⟨i + 1, by omega, by omega, by go_num, by rw [HE.out], rfl⟩
      | false =>
        rw [hb, if_neg (by simp)] at hc
        have HE := Aside0.mk (bN_or0 (mkB ms) i (by omega) hb)
        clear hb
        go_wp2
        go_roundg (ms.length - (i + 1))
        case measure => omega
        case rel => exact ⟨i + 1, by omega, by omega, by go_num, by rw [← HE.out], rfl⟩
    · have hie : i = ms.length := by omega
      subst hie
      go_wp2
      go_ret
      exact ⟨rfl, HB.out⟩
def aheadC (s : Nat) (c : List Int) : Bool := !c.any (fun p => !s.testBit p.toNat)
def aheadP (nx : List (List (List (List Int)))) (a s q : Nat) : Bool := ((nx.getD q []).getD a []).any (aheadC s)
def aheadN (nx : List (List (List (List Int)))) (a s : Nat) : Nat := bN (aheadP nx a s) nx.length
theorem ah11_calls (p : Int) (s : Nat) (B : Nat) (w : World) (hc : w.cell? ⟨B, 0, none⟩ = some (.int .i64 (s : Int))) (hs : s < 16) (hp : 0 ≤ p ∧ p < 4) :
    Calls Try.prog 139 #[.int .i64 p, .pointer (some ⟨B, 0, none⟩)] w fun e w' => e = .returned (.bool (!s.testBit p.toNat)) ∧ w = w' := by
  obtain ⟨q, rfl⟩ : ∃ q : Nat, p = (q : Int) := ⟨p.toNat, by omega⟩
  have HE := Aside0.mk (bits_test0 s q (by omega))
  go_enter Try.func139, Try.ntmps139
  go_wp2
  go_ret
  exact ⟨by rw [Int.toNat_natCast, ← HE.out]; rfl, rfl⟩
theorem ah11_pred (xs : List Int) (s : Nat) (W0 : World) (B : Nat) (hB : B < W0.heap.size) (hc : W0.cell? ⟨B, 0, none⟩ = some (.int .i64 (s : Int))) (hs : s < 16) (hx : ∀ p ∈ xs, 0 ≤ p ∧ p < 4) : Pred_int 139 #[.pointer (some ⟨B, 0, none⟩)] (fun p => !s.testBit p.toNat) xs W0 :=
  fun W x hx' hb => (ah11_calls x s B W ((hb.cell (p := ⟨B, 0, none⟩) hB).trans hc) hs (hx x hx')).mono fun e w' ⟨he, hw⟩ => ⟨he, hw ▸ hb⟩
theorem ah1_calls (A : Option Addr) (c : Nat) (xs : List Int) (s : Nat) (B : Nat) (w : World) (hr : Kd.C (Kd.int .i64) w A xs.length xs) (hc : w.cell? ⟨B, 0, none⟩ = some (.int .i64 (s : Int))) (hB : B < w.heap.size) (hs : s < 16) (hx : ∀ p ∈ xs, 0 ≤ p ∧ p < 4) :
    Calls Try.prog 138 #[.slice A xs.length c, .pointer (some ⟨B, 0, none⟩)] w fun e w' => e = .returned (.bool (aheadC s xs)) ∧ Below w.heap.size w w' := by
  have H := Aside0.mk (ContainsFunc_int 139 #[.pointer (some ⟨B, 0, none⟩)] (enters_of Try.func139 (by kernel_rfl) rfl) _ A c xs w hr (ah11_pred xs s w B hB hc hs hx))
  clear hr hx hc
  go_enter Try.func138, Try.ntmps138
  go_wp2_with (go_at_call 81; refine H.out.mono ?_; rintro e w' ⟨rfl, hb'⟩)
  go_ret
  exact ⟨rfl, hb'⟩
theorem ah1_pred (xs : List (List Int)) (s : Nat) (W0 : World) (B : Nat) (hB : B < W0.heap.size) (hc : W0.cell? ⟨B, 0, none⟩ = some (.int .i64 (s : Int))) (hs : s < 16) (hx : ∀ c ∈ xs, ∀ p ∈ c, 0 ≤ p ∧ p < 4) : Pred_row 138 #[.pointer (some ⟨B, 0, none⟩)] (aheadC s) xs W0 :=
  fun W x A c hx' _ hr hb => (ah1_calls A c x s B W hr ((hb.cell (p := ⟨B, 0, none⟩) hB).trans hc) (Nat.lt_of_lt_of_le hB hb.size) hs (hx x hx')).mono fun e w' ⟨he, hw⟩ => ⟨he, hb.trans (hw.mono hb.size)⟩
structure AhM (w W : World) (L st : Int) (A2 A3 : Option Addr) (n c2 m c3 s : Nat) : Prop where
  b : Below w.heap.size w W
  x : W.heap[w.heap.size]? = some (.cells #[.int .i64 L, .int .i64 st, .slice A2 n c2, .slice A3 m c3] 77 (0, 0))
  s : W.heap[w.heap.size + 1]? = some (.cells #[.int .i64 (s : Int)] 3 (0, 0))
theorem AhM.below {w W W' : World} {L st : Int} {A2 A3 : Option Addr} {n c2 m c3 s : Nat} (h : AhM w W L st A2 A3 n c2 m c3 s) (hb : Below W.heap.size W W') : AhM w W' L st A2 A3 n c2 m c3 s :=
  ⟨below_step h.b hb, blk_below h.x hb, blk_below h.s hb⟩
set_option maxHeartbeats 1000000 in
theorem ahead_calls (L st : Nat) (A2 A3 : Option Addr) (c2 c3 : Nat) (nx : List (List (List (List Int)))) (ms : List Int) (s a : Nat) (w : World) (hr2 : Kd.C (Kd.slice 42 (Kd.slice 22 (Kd.slice 3 (Kd.int .i64)))) w A2 nx.length nx) (hok : AlOk L st nx ms) (hs : s < 16) (ha : a < L) :
    Calls Try.prog 76 #[.agg #[.int .i64 (L : Int), .int .i64 (st : Int), .slice A2 nx.length c2, .slice A3 ms.length c3], .int .i64 (s : Int), .int .i64 (a : Int)] w fun e w' => e = .returned (.int .i64 ((aheadN nx a s : Nat) : Int)) ∧ Below w.heap.size w w' := by
  have HR := Aside0.mk hr2
  have HOK := Aside0.mk hok
  have hn4 := hok.n4
  clear hr2 hok
  go_enter Try.func76, Try.ntmps76
  go_wp2
  have M0 := Aside0.mk (show AhM w ((w.alloc (.cells #[.int .i64 (L : Int), .int .i64 (st : Int), .slice A2 nx.length c2, .slice A3 ms.length c3] 77)).alloc (.cells #[.int .i64 (s : Int)] 3)) L st A2 A3 nx.length c2 ms.length c3 s from
    ⟨below_alloc (below_alloc (Below.refl _ _) _) _, blk_alloc (blk_new w _) _, blk_newn _ _ _ (by simp)⟩)
  generalize (w.alloc (.cells #[.int .i64 (L : Int), .int .i64 (st : Int), .slice A2 nx.length c2, .slice A3 ms.length c3] 77)).alloc (.cells #[.int .i64 (s : Int)] 3) = W1 at M0 ⊢
  go_loopg [7, 13] nx.length (fun gg s7 s13 wr => ∃ i : Nat, i ≤ nx.length ∧ nx.length - i ≤ gg ∧ s13 = .int .i64 (i : Int) ∧ s7 = .int .i64 ((bN (aheadP nx a s) i : Nat) : Int) ∧ Aside0 (AhM w wr L st A2 A3 nx.length c2 ms.length c3 s))
  case atStart => exact ⟨0, Nat.zero_le _, by omega, rfl, rfl, M0⟩
  case round =>
    clear M0
    obtain ⟨i, hi, hg, rfl, rfl, MM⟩ := hrel
    by_cases hlt : i < nx.length
    · have hltz : (i : Int) < (nx.length : Int) := by omega
      obtain ⟨ad, A4, c4, rfl, hle, hrow, hc⟩ := row_get (Kd.C_below HR.out MM.out.b) rfl hlt
      have hrl := HOK.out.row _ (List.getElem_mem hlt)
      have hto := Aside0.mk (HOK.out.tos _ (List.getElem_mem hlt))
      have haz : (a : Int) < (L : Int) := by omega
      have hal : a < nx[i].length := by omega
      obtain ⟨ad5, A5, c5, rfl, hle5, hrow5, hc5⟩ := row_get hrow rfl hal
      have hp : aheadP nx a s i = nx[i][a].any (aheadC s) := by
        unfold aheadP
        simp [List.getD_eq_getElem?_getD, hlt, hal]
      have hto' := Aside0.mk (show ∀ c ∈ nx[i][a], ∀ p ∈ c, 0 ≤ p ∧ p < 4 from fun c hc p hp => by
        have := hto.out _ (List.getElem_mem hal) c hc p hp
        omega)
      rw [hrl] at hc
      obtain ⟨l, hl⟩ : ∃ l, nx[i][a] = l := ⟨_, rfl⟩
      rw [hl] at hle5 hrow5 hc5 hp hto'
      have HR5 := Aside0.mk hrow5
      have hs1 : wr.cell? ⟨w.heap.size + 1, 0, none⟩ = some (.int .i64 (s : Int)) := (blk_cell MM.out.s 0).trans rfl
      clear hrow hrow5 hl hto hle hle5 hrl hal
      cases hb : l.any (aheadC s) with
      | true =>
        rw [hb] at hp
        have HE := Aside0.mk (bN_or' (aheadP nx a s) i (by omega) hp)
        have HBl := Aside0.mk hb
        clear hb hp
        go_wp2_with (go_at_call 79; refine (ContainsFunc_row 138 _ (enters_of Try.func138 (by kernel_rfl) rfl) _ A5 c5 l _ HR5.out (ah1_pred l s _ (w.heap.size + 1) (blk_lt MM.out.s) hs1 hs hto'.out)).mono ?_; rintro e w6 ⟨rfl, hb6⟩; rw [HBl.out]; have M6 := Aside0.mk (MM.out.below hb6); clear hb6)
        go_roundg (nx.length - (i + 1))
        case measure => omega
        case rel => exact ⟨i + 1, by omega, by omega, by go_num, by rw [HE.out], M6⟩
      | false =>
        rw [hb] at hp
        have HE := Aside0.mk (bN_not (aheadP nx a s) i hp)
        have HBl := Aside0.mk hb
        clear hb hp
        go_wp2_with (go_at_call 79; refine (ContainsFunc_row 138 _ (enters_of Try.func138 (by kernel_rfl) rfl) _ A5 c5 l _ HR5.out (ah1_pred l s _ (w.heap.size + 1) (blk_lt MM.out.s) hs1 hs hto'.out)).mono ?_; rintro e w6 ⟨rfl, hb6⟩; rw [HBl.out]; have M6 := Aside0.mk (MM.out.below hb6); clear hb6)
        go_roundg (nx.length - (i + 1))
        case measure => omega
        case rel => exact ⟨i + 1, by omega, by omega, by go_num, by rw [HE.out], M6⟩
    · have hie : i = nx.length := by omega
      subst hie
      go_wp2
      go_ret
      exact ⟨rfl, MM.out.b⟩
end Go.Proofs.Ytjabncedfjjbjaa.H
