/- What a stack can come to: the walk of the given package, with its plain law. -/
import Derived.Test.YtampgoendkjkhaaSl
import Derived.Test.YtampgoendkjkhaaSlA
import Derived.Test.YtampgoendkjkhaaVA
import Derived.Test.YtampgoendkjkhaaNoB
import Derived.Test.YtampgoendkjkhaaDv
import Derived.Test.YtampgoendkjkhaaCut
import Derived.Test.YtampgoendkjkhaaGet
namespace Go.Proofs.Ytampgoendkjkhaa.H
open Go.RowKit Go.Shelf Go.Proofs.YtampgoendkjkhaaW.PrintWords
set_option linter.unusedVariables false
set_option linter.unusedSimpArgs false
def kPu : Kd Psh where
  sz := 4
  E := []
  K := fun w x cs => ∃ A c, cs = [.int .i64 x.fr, .int .i64 x.tp, .int .i64 x.tw, .slice A x.pt.length c] ∧ x.pt.length ≤ c ∧ Kd.C (Kd.int .i64) w A x.pt.length x.pt
  M := fun _ _ _ _ _ => False
  K_len := by rintro w x cs ⟨A, c, rfl, _⟩; rfl
  K_one := by
    rintro w x cs ⟨A, c, rfl, _⟩ u hu
    simp only [List.mem_cons, List.not_mem_nil, or_false] at hu
    rcases hu with rfl | rfl | rfl | rfl <;> rfl
  K_below := by
    rintro w w1 x cs hb ⟨A, c, rfl, h1, h2⟩
    exact ⟨A, c, rfl, h1, Kd.C_below h2 hb⟩
  K_of_M := fun h => h.elim
  M_mono := fun _ h => h
  M_bound := fun h => h
  M_move := fun _ h => h
  M_lower := fun _ h => h
theorem pu_get {W : World} {A : Option Addr} {n : Nat} {xs : List Psh} (h : Kd.C kPu W A n xs) (hn : n = xs.length) {i : Nat} (hi : i < xs.length) :
    ∃ ad A1 c1, A = some ad ∧ xs[i].pt.length ≤ c1 ∧ Kd.C (Kd.int .i64) W A1 xs[i].pt.length xs[i].pt ∧ W.cell? (ad.add (i * 4)) = some (.int .i64 xs[i].fr) ∧ W.cell? ⟨(ad.add (i * 4)).block, (ad.add (i * 4)).off + 1, none⟩ = some (.int .i64 xs[i].tp) ∧ W.cell? ⟨(ad.add (i * 4)).block, (ad.add (i * 4)).off + 2, none⟩ = some (.int .i64 xs[i].tw) ∧ W.cell? ⟨(ad.add (i * 4)).block, (ad.add (i * 4)).off + 3, none⟩ = some (.slice A1 xs[i].pt.length c1) := by
  subst hn
  obtain ⟨ad, c, e0, _, hK, hc0⟩ := Kd.C_get h xs[i] (i : Int) (by omega) (by omega)
  have hx : xs.getD ((i : Int).toNat) xs[i] = xs[i] := by simp [List.getD_eq_getElem?_getD, hi]
  rw [hx] at hK
  obtain ⟨A1, c1, rfl, h1, h3⟩ := hK
  have z0 := hc0 0 _ rfl
  have z1 := hc0 1 _ rfl
  have z2 := hc0 2 _ rfl
  have z3 := hc0 3 _ rfl
  rw [Int.toNat_natCast] at z0 z1 z2 z3
  rw [show kPu.sz = 4 from rfl, ← Addr.add_add, add_pos _ (by omega)] at z1 z2 z3
  exact ⟨ad, A1, c1, e0, h1, h3, z0, z1, z2, z3⟩
abbrev Cfg : Type := Int × List Int
def kCf : Kd Cfg where
  sz := 2
  E := []
  K := fun w x cs => ∃ A c, cs = [.int .i64 x.1, .slice A x.2.length c] ∧ x.2.length ≤ c ∧ Kd.C (Kd.int .i64) w A x.2.length x.2
  M := fun _ _ _ _ _ => False
  K_len := by rintro w x cs ⟨A, c, rfl, _⟩; rfl
  K_one := by
    rintro w x cs ⟨A, c, rfl, _⟩ u hu
    simp only [List.mem_cons, List.not_mem_nil, or_false] at hu
    rcases hu with rfl | rfl <;> rfl
  K_below := by
    rintro w w1 x cs hb ⟨A, c, rfl, h1, h2⟩
    exact ⟨A, c, rfl, h1, Kd.C_below h2 hb⟩
  K_of_M := fun h => h.elim
  M_mono := fun _ h => h
  M_bound := fun h => h
  M_move := fun _ h => h
  M_lower := fun _ h => h
theorem cf_get {W : World} {A : Option Addr} {n : Nat} {xs : List Cfg} (h : Kd.C kCf W A n xs) (hn : n = xs.length) {i : Nat} (hi : i < xs.length) :
    ∃ ad A1 c1, A = some ad ∧ xs[i].2.length ≤ c1 ∧ Kd.C (Kd.int .i64) W A1 xs[i].2.length xs[i].2 ∧ W.cell? (ad.add (i * 2)) = some (.int .i64 xs[i].1) ∧ W.cell? ⟨(ad.add (i * 2)).block, (ad.add (i * 2)).off + 1, none⟩ = some (.slice A1 xs[i].2.length c1) := by
  subst hn
  obtain ⟨ad, c, e0, _, hK, hc0⟩ := Kd.C_get h xs[i] (i : Int) (by omega) (by omega)
  have hx : xs.getD ((i : Int).toNat) xs[i] = xs[i] := by simp [List.getD_eq_getElem?_getD, hi]
  rw [hx] at hK
  obtain ⟨A1, c1, rfl, h1, h3⟩ := hK
  have z0 := hc0 0 _ rfl
  have z1 := hc0 1 _ rfl
  rw [Int.toNat_natCast] at z0 z1
  rw [show kCf.sz = 2 from rfl, ← Addr.add_add, add_pos _ (by omega)] at z1
  exact ⟨ad, A1, c1, e0, h1, h3, z0, z1⟩

/-- What is asked of a closure: at each element, in each world in which all that lay lies. -/
def Pred_pu (g : Nat) (lb : Array Value) (p : Psh → Bool) (xs : List Psh) (w : World) : Prop :=
  ∀ (W : World) (x : Psh) (A : Option Addr) (c : Nat), x ∈ xs → x.pt.length ≤ c → Kd.C (Kd.int .i64) W A x.pt.length x.pt → Below w.heap.size w W → Calls Try.prog g (#[.agg #[.int .i64 x.fr, .int .i64 x.tp, .int .i64 x.tw, .slice A x.pt.length c]] ++ lb) W fun e w' => e = .returned (.bool (p x)) ∧ Below w.heap.size w w'
set_option maxHeartbeats 1000000 in
theorem IndexFunc_pu (g : Nat) (lb : Array Value) (eg : ∀ args w, (callFunc g args).run Try.prog w = .ok (.enter g args) w) (p : Psh → Bool) (A : Option Addr) (c : Nat) (xs : List (Psh)) (w : World)
    (hr : Kd.C kPu w A xs.length xs) (hp : Pred_pu g lb p xs w) :
    Calls Try.prog 203 #[.slice A xs.length c, .func (.func g) #[] lb] w fun e w' => e = .returned (.int .i64 (ixOf p xs)) ∧ Below w.heap.size w w' := by
  have hbig : xs.length ≤ 9223372036854775807 := hr.2.1
  have HR := Aside0.mk hr
  have HP := Aside0.mk hp
  clear hr hp
  go_enter Try.func203, Try.ntmps203
  go_wp2
  go_loopg [5, 8] xs.length (fun gg _ s8 wr => ∃ kk : Nat, kk ≤ xs.length ∧ xs.length - kk ≤ gg ∧ s8 = .int .i64 kk ∧ Aside0 (Below w.heap.size w wr) ∧ Aside0 (∀ j, ∀ hj : j < xs.length, j < kk → p xs[j] = false))
  case atStart => exact ⟨0, Nat.zero_le _, by omega, rfl, ⟨Below.refl _ w⟩, ⟨fun j _ hj => absurd hj (Nat.not_lt_zero _)⟩⟩
  case round =>
    obtain ⟨kk, hkk, hg, rfl, BW, AA⟩ := hrel
    by_cases hlt : kk < xs.length
    · have hltz : (kk : Int) < (xs.length : Int) := by omega
      obtain ⟨ad, A1, c1, e0, h1, hC1, hc1, hc2, hc3, hc4⟩ := pu_get (Kd.C_below HR.out BW.out) rfl hlt
      cases e0
      have hcall := HP.out wr xs[kk] A1 c1 (List.getElem_mem hlt) h1 hC1 BW.out
      clear h1 hC1
      have hat := Aside0.mk (fun (h : p xs[kk] = true) => ixOf_hit p xs kk hlt h AA.out)
      have hne := Aside0.mk (fun (h : p xs[kk] = false) (j : Nat) (hj : j < xs.length) (hjk : j < kk + 1) => by
        by_cases e : j = kk
        · subst e; exact h
        · exact AA.out j hj (by omega) : p xs[kk] = false → ∀ j, ∀ hj : j < xs.length, j < kk + 1 → p xs[j] = false)
      generalize xs[kk] = y at hc1 hc2 hc3 hc4 hcall hat hne
      cases hq : p y with
      | true =>
        rw [hq] at hcall
        have hq' := Aside0.mk hq
        clear hq
        go_wp2_with (go_at_fn g; refine hcall.mono ?_; rintro e w' ⟨rfl, hb'⟩)
        go_ret
        exact ⟨by rw [hat.out hq'.out]; rfl, hb'⟩
      | false =>
        rw [hq] at hcall
        have hq' := Aside0.mk hq
        clear hq
        go_wp2_with (go_at_fn g; refine hcall.mono ?_; rintro e w' ⟨rfl, hb'⟩)
        go_roundg (xs.length - (kk + 1))
        case measure => omega
        case rel => exact ⟨kk + 1, by omega, by omega, by go_num, ⟨hb'⟩, ⟨hne.out hq'.out⟩⟩
    · have hltz : ¬ (kk : Int) < (xs.length : Int) := by omega
      have hfin := Aside0.mk (ixOf_miss p xs (fun j hj => AA.out j hj (by omega)))
      go_wp2
      go_ret
      exact ⟨by rw [hfin.out]; rfl, BW.out⟩

set_option maxHeartbeats 1000000 in
theorem ContainsFunc_pu (g : Nat) (lb : Array Value) (eg : ∀ args w, (callFunc g args).run Try.prog w = .ok (.enter g args) w) (p : Psh → Bool) (A : Option Addr) (c : Nat) (xs : List (Psh)) (w : World)
    (hr : Kd.C kPu w A xs.length xs) (hp : Pred_pu g lb p xs w) :
    Calls Try.prog 176 #[.slice A xs.length c, .func (.func g) #[] lb] w fun e w' => e = .returned (.bool (xs.any p)) ∧ Below w.heap.size w w' := by
  rw [← ixOf_any]
  have H := IndexFunc_pu g lb eg p A c xs w hr hp
  clear hr hp
  go_enter Try.func176, Try.ntmps176
  go_wp2_with (go_at_call 203; refine H.mono ?_; rintro e w' ⟨rfl, hb'⟩)
  go_ret
  exact ⟨rfl, hb'⟩

end Go.Proofs.Ytampgoendkjkhaa.H

namespace Go.Proofs.Ytampgoendkjkhaa.H
open Go.RowKit Go.Shelf Go.Proofs.YtampgoendkjkhaaW.PrintWords Go.Proofs.YtampgoendkjkhaaW.PrintMore
set_option linter.unusedVariables false
set_option linter.unusedSimpArgs false
theorem no3_calls (q : Int) (w : World) : Calls Try.prog 179 #[.int .i64 q] w fun e w' => e = .returned (.bool (noB 3 q)) ∧ w = w' := by
  by_cases h : q < 0
  · have HA := Aside0.mk (show noB 3 q = true from by unfold noB; rw [decide_eq_true h, Bool.true_or])
    go_enter Try.func179, Try.ntmps179
    go_wp2
    go_ret
    exact ⟨by rw [HA.out]; rfl, rfl⟩
  · have HA := Aside0.mk (show noB 3 q = decide (3 ≤ q) from by unfold noB; rw [decide_eq_false h, Bool.false_or])
    go_enter Try.func179, Try.ntmps179
    go_wp2
    go_ret
    exact ⟨by rw [HA.out]; rfl, rfl⟩
theorem no3_any (A : Option Addr) (c : Nat) (xs : List Int) (W : World) (hC : Kd.C (Kd.int .i64) W A xs.length xs) :
    Calls Try.prog 66 #[.slice A xs.length c, .func (.func 179) #[] #[]] W fun e w' => e = .returned (.bool (xs.any (noB 3))) ∧ Below W.heap.size W w' := by
  have e1 : ∀ args w, (callFunc 179 args).run Try.prog w = .ok (.enter 179 args) w := enters_of Try.func179 (by kernel_rfl) rfl
  exact ContainsFunc_int 179 #[] e1 (noB 3) A c xs W hC (fun W' x _ hb => (no3_calls x W').mono fun e w' ⟨he, hw⟩ => ⟨he, hw ▸ hb⟩)
def pu1B (r : Psh) : Bool := decide (2 < r.pt.length)
def pu2B (r : Psh) : Bool := noB 3 r.fr || (noB 3 r.tp || (noB 3 r.tw || r.pt.any (noB 3)))
theorem pu1_calls (r : Psh) (A : Option Addr) (c : Nat) (w : World) : Calls Try.prog 177 #[.agg #[.int .i64 r.fr, .int .i64 r.tp, .int .i64 r.tw, .slice A r.pt.length c]] w fun e w' => e = .returned (.bool (pu1B r)) ∧ Below w.heap.size w w' := by
  have HB := Aside0.mk (below_alloc (Below.refl w.heap.size w) (.cells #[.int .i64 r.fr, .int .i64 r.tp, .int .i64 r.tw, .slice A r.pt.length c] 37))
  have HA := Aside0.mk (show pu1B r = decide (2 < r.pt.length) from rfl)
  go_enter Try.func177, Try.ntmps177
  go_wp2
  go_ret
  exact ⟨by rw [HA.out]; simp; omega, HB.out⟩
set_option maxHeartbeats 2000000 in
theorem pu2_calls (r : Psh) (A : Option Addr) (c : Nat) (w : World) (hC : Kd.C (Kd.int .i64) w A r.pt.length r.pt) : Calls Try.prog 178 #[.agg #[.int .i64 r.fr, .int .i64 r.tp, .int .i64 r.tw, .slice A r.pt.length c]] w fun e w' => e = .returned (.bool (pu2B r)) ∧ Below w.heap.size w w' := by
  have HB := Aside0.mk (below_alloc (Below.refl w.heap.size w) (.cells #[.int .i64 r.fr, .int .i64 r.tp, .int .i64 r.tw, .slice A r.pt.length c] 37))
  have HF := Aside0.mk (no3_any A c r.pt _ (Kd.C_below hC HB.out))
  clear hC
  cases q0 : noB 3 r.fr with
  | true =>
    have HA := Aside0.mk (show pu2B r = true from by unfold pu2B; rw [q0]; rfl)
    go_enter Try.func178, Try.ntmps178
    go_wp2_with (go_at_call 179; refine (no3_calls _ _).mono ?_; rintro e w' ⟨rfl, rfl⟩)
    go_ret
    exact ⟨by rw [HA.out]; rfl, HB.out⟩
  | false =>
    cases q1 : noB 3 r.tp with
    | true =>
      have HA := Aside0.mk (show pu2B r = true from by unfold pu2B; rw [q0, q1]; rfl)
      go_enter Try.func178, Try.ntmps178
      go_wp2_with (go_at_call 179; refine (no3_calls _ _).mono ?_; rintro e w' ⟨rfl, rfl⟩)
      go_ret
      exact ⟨by rw [HA.out]; rfl, HB.out⟩
    | false =>
      cases q2 : noB 3 r.tw with
      | true =>
        have HA := Aside0.mk (show pu2B r = true from by unfold pu2B; rw [q0, q1, q2]; rfl)
        go_enter Try.func178, Try.ntmps178
        go_wp2_with (go_at_call 179; refine (no3_calls _ _).mono ?_; rintro e w' ⟨rfl, rfl⟩)
        go_ret
        exact ⟨by rw [HA.out]; rfl, HB.out⟩
      | false =>
        have HA := Aside0.mk (show pu2B r = r.pt.any (noB 3) from by unfold pu2B; rw [q0, q1, q2]; rfl)
        go_enter Try.func178, Try.ntmps178
        go_wp2_with (first | (go_at_call 179; refine (no3_calls _ _).mono ?_; rintro e w' ⟨rfl, rfl⟩) | (go_at_call 66; refine HF.out.mono ?_; rintro e w2 ⟨rfl, hb2⟩; have B2 := Aside0.mk (below_step HB.out hb2); clear hb2) | fail)
        go_ret
        exact ⟨by rw [HA.out]; rfl, B2.out⟩
def pChk (l : List Psh) : Int := if 8 < l.length ∨ l.any pu1B = true then 1 else if l.any pu2B = true then 2 else 0
def cfChk (x : Cfg) : Int := if 20 < x.2.length then 1 else if noB 3 x.1 = true ∨ x.2.any (noB 3) = true then 2 else 0
def csChk : List Cfg → Int
  | [] => 0
  | x :: t => if cfChk x = 0 then csChk t else cfChk x
def ckdF (l : List Psh) (cs : List Cfg) : Int := if pChk l = 0 then csChk cs else pChk l
set_option maxHeartbeats 2000000 in
theorem pck_calls (A : Option Addr) (c : Nat) (l : List Psh) (w : World) (hr : Kd.C kPu w A l.length l) : Calls Try.prog 118 #[.slice A l.length c] w fun e w' => e = .returned (.int .i64 (pChk l)) ∧ Below w.heap.size w w' := by
  have e1 : ∀ args w, (callFunc 177 args).run Try.prog w = .ok (.enter 177 args) w := enters_of Try.func177 (by kernel_rfl) rfl
  have e2 : ∀ args w, (callFunc 178 args).run Try.prog w = .ok (.enter 178 args) w := enters_of Try.func178 (by kernel_rfl) rfl
  have H1 := Aside0.mk (ContainsFunc_pu 177 #[] e1 pu1B A c l w hr (fun W x B d _ _ _ hb => (pu1_calls x B d W).mono fun e w' ⟨he, hw⟩ => ⟨he, below_step hb hw⟩))
  have H2 := Aside0.mk (fun (W : World) (hb : Below w.heap.size w W) => ContainsFunc_pu 178 #[] e2 pu2B A c l W (Kd.C_below hr hb) (fun W x B d _ _ hC hb => (pu2_calls x B d W hC).mono fun e w' ⟨he, hw⟩ => ⟨he, below_step hb hw⟩))
  clear hr e1 e2
  by_cases h8 : 8 < l.length
  · have HA := Aside0.mk (show pChk l = 1 from if_pos (.inl h8))
    go_enter Try.func118, Try.ntmps118
    go_wp2
    go_ret
    exact ⟨by rw [HA.out]; rfl, Below.refl _ _⟩
  · have tk1 : True := trivial
    cases q1 : l.any pu1B with
    | true =>
      rw [q1] at H1
      have HA := Aside0.mk (show pChk l = 1 from if_pos (.inr q1))
      clear q1
      go_enter Try.func118, Try.ntmps118
      go_wp2_with (first | (have _t := tk1; go_at_call 176; refine H1.out.mono ?_; rintro e w2 ⟨rfl, hb2⟩; have B2 := Aside0.mk hb2; clear hb2 tk1) | fail)
      go_ret
      exact ⟨by rw [HA.out]; rfl, B2.out⟩
    | false =>
      rw [q1] at H1
      have HP := Aside0.mk (show pChk l = if l.any pu2B = true then 2 else 0 from if_neg (by rw [q1]; simp [h8]))
      clear q1
      cases q2 : l.any pu2B with
      | true =>
        rw [q2] at H2
        have HA := Aside0.mk (show pChk l = 2 from by rw [HP.out, q2]; rfl)
        clear q2
        go_enter Try.func118, Try.ntmps118
        go_wp2_with (first | (have _t := tk1; go_at_call 176; refine H1.out.mono ?_; rintro e w2 ⟨rfl, hb2⟩; have B2 := Aside0.mk hb2; clear hb2 tk1) | (go_at_call 176; refine (H2.out _ B2.out).mono ?_; rintro e w3 ⟨rfl, hb3⟩; have B3 := Aside0.mk (below_step B2.out hb3); clear hb3) | fail)
        go_ret
        exact ⟨by rw [HA.out]; rfl, B3.out⟩
      | false =>
        rw [q2] at H2
        have HA := Aside0.mk (show pChk l = 0 from by rw [HP.out, q2]; rfl)
        clear q2
        go_enter Try.func118, Try.ntmps118
        go_wp2_with (first | (have _t := tk1; go_at_call 176; refine H1.out.mono ?_; rintro e w2 ⟨rfl, hb2⟩; have B2 := Aside0.mk hb2; clear hb2 tk1) | (go_at_call 176; refine (H2.out _ B2.out).mono ?_; rintro e w3 ⟨rfl, hb3⟩; have B3 := Aside0.mk (below_step B2.out hb3); clear hb3) | fail)
        go_ret
        exact ⟨by rw [HA.out]; rfl, B3.out⟩
theorem cfg_calls (x : Cfg) (A : Option Addr) (c : Nat) (w : World) (hC : Kd.C (Kd.int .i64) w A x.2.length x.2) : Calls Try.prog 119 #[.agg #[.int .i64 x.1, .slice A x.2.length c]] w fun e w' => e = .returned (.int .i64 (cfChk x)) ∧ Below w.heap.size w w' := by
  have HB := Aside0.mk (below_alloc (Below.refl w.heap.size w) (.cells #[.int .i64 x.1, .slice A x.2.length c] 35))
  have HF := Aside0.mk (no3_any A c x.2 _ (Kd.C_below hC HB.out))
  clear hC
  by_cases h : 20 < x.2.length
  · have HA := Aside0.mk (show cfChk x = 1 from if_pos h)
    go_enter Try.func119, Try.ntmps119
    go_wp2
    go_ret
    exact ⟨by rw [HA.out]; rfl, HB.out⟩
  · have HP := Aside0.mk (show cfChk x = if noB 3 x.1 = true ∨ x.2.any (noB 3) = true then 2 else 0 from if_neg h)
    cases q0 : noB 3 x.1 with
    | true =>
      have HA := Aside0.mk (show cfChk x = 2 from by rw [HP.out, if_pos (.inl q0)])
      go_enter Try.func119, Try.ntmps119
      go_wp2_with (go_at_call 179; refine (no3_calls _ _).mono ?_; rintro e w' ⟨rfl, rfl⟩)
      go_ret
      exact ⟨by rw [HA.out]; rfl, HB.out⟩
    | false =>
      cases q1 : x.2.any (noB 3) with
      | true =>
        rw [q1] at HF
        have HA := Aside0.mk (show cfChk x = 2 from by rw [HP.out, if_pos (.inr q1)])
        clear q1
        go_enter Try.func119, Try.ntmps119
        go_wp2_with (first | (go_at_call 179; refine (no3_calls _ _).mono ?_; rintro e w' ⟨rfl, rfl⟩) | (go_at_call 66; refine HF.out.mono ?_; rintro e w2 ⟨rfl, hb2⟩; have B2 := Aside0.mk (below_step HB.out hb2); clear hb2) | fail)
        go_ret
        exact ⟨by rw [HA.out]; rfl, B2.out⟩
      | false =>
        rw [q1] at HF
        have HA := Aside0.mk (show cfChk x = 0 from by rw [HP.out, if_neg (by rw [q0, q1]; simp)])
        clear q1
        go_enter Try.func119, Try.ntmps119
        go_wp2_with (first | (go_at_call 179; refine (no3_calls _ _).mono ?_; rintro e w' ⟨rfl, rfl⟩) | (go_at_call 66; refine HF.out.mono ?_; rintro e w2 ⟨rfl, hb2⟩; have B2 := Aside0.mk (below_step HB.out hb2); clear hb2) | fail)
        go_ret
        exact ⟨by rw [HA.out]; rfl, B2.out⟩
set_option maxHeartbeats 2000000 in
theorem ckd_calls (A B : Option Addr) (c d : Nat) (l : List Psh) (cs : List Cfg) (w : World) (hr : Kd.C kPu w A l.length l) (hx : Kd.C kCf w B cs.length cs) : Calls Try.prog 52 #[.slice A l.length c, .slice B cs.length d] w fun e w' => e = .returned (.int .i64 (ckdF l cs)) ∧ Below w.heap.size w w' := by
  have HK := Aside0.mk (pck_calls A c l w hr)
  have HX := Aside0.mk hx
  have hbig := hx.2.1
  clear hr hx
  by_cases h : pChk l = 0
  · have HA := Aside0.mk (show ckdF l cs = csChk cs from if_pos h)
    rw [h] at HK
    clear h
    go_enter Try.func52, Try.ntmps52
    go_wp2_with (go_at_call 118; refine HK.out.mono ?_; rintro e w1 ⟨rfl, hb1⟩; have B1 := Aside0.mk hb1; clear hb1)
    clear HK
    go_loopg [16] cs.length (fun gg s16 wr => ∃ i : Nat, i ≤ cs.length ∧ cs.length - i ≤ gg ∧ s16 = .int .i64 (i : Int) ∧ Aside0 (Below w.heap.size w wr) ∧ Aside0 (csChk (cs.drop i) = csChk cs))
    case atStart => exact ⟨0, Nat.zero_le _, by omega, rfl, B1, ⟨rfl⟩⟩
    case round =>
      obtain ⟨i, hi, hgg, rfl, BB, AA⟩ := hrel
      clear B1
      by_cases hlt : i < cs.length
      · have hltz : (i : Int) < (cs.length : Int) := by omega
        obtain ⟨ad, A1, c1, e0, h1, hC1, k1, k2⟩ := cf_get (Kd.C_below HX.out BB.out) rfl hlt
        cases e0
        have HD := Aside0.mk (show csChk (cs.drop i) = if cfChk cs[i] = 0 then csChk (cs.drop (i + 1)) else cfChk cs[i] from by rw [List.drop_eq_getElem_cons hlt]; rfl)
        rw [AA.out] at HD
        generalize cs[i] = x at HD h1 hC1 k1 k2
        have B2 := Aside0.mk (below_alloc BB.out (.cells #[.int .i64 x.1, .slice A1 x.2.length c1] 35))
        have HF := Aside0.mk (cfg_calls x A1 c1 _ (Kd.C_below hC1 (below_alloc (Below.refl _ _) (.cells #[.int .i64 x.1, .slice A1 x.2.length c1] 35))))
        clear h1 hC1 AA
        by_cases hz : cfChk x = 0
        · rw [hz] at HF
          have HN := Aside0.mk (show csChk (cs.drop (i + 1)) = csChk cs from by rw [HD.out, if_pos hz])
          clear hz
          go_wp2_with (go_at_call 119; refine HF.out.mono ?_; rintro e w3 ⟨rfl, hb3⟩; have B3 := Aside0.mk (below_step B2.out hb3); clear hb3)
          go_roundg (cs.length - (i + 1))
          case measure => omega
          case rel => exact ⟨i + 1, by omega, by omega, by go_num, B3, HN⟩
        · have g1 : (cfChk x != 0) = true := by simpa using hz
          have HN := Aside0.mk (show csChk cs = cfChk x from by rw [HD.out, if_neg hz])
          clear hz HD
          generalize cfChk x = e0 at HF g1 HN
          go_wp2_with (go_at_call 119; refine HF.out.mono ?_; rintro e w3 ⟨rfl, hb3⟩; have B3 := Aside0.mk (below_step B2.out hb3); clear hb3)
          go_ret
          exact ⟨by rw [HA.out, HN.out]; rfl, B3.out⟩
      · have hie : i = cs.length := by omega
        have HN := Aside0.mk (show csChk cs = 0 from by rw [← AA.out, List.drop_eq_nil_of_le (by omega)]; rfl)
        clear AA
        subst hie
        go_wp2
        go_ret
        exact ⟨by rw [HA.out, HN.out]; rfl, BB.out⟩
  · have g1 : (pChk l != 0) = true := by simpa using h
    have HA := Aside0.mk (show ckdF l cs = pChk l from if_neg h)
    clear h
    generalize pChk l = e0 at HK g1 HA
    go_enter Try.func52, Try.ntmps52
    go_wp2_with (go_at_call 118; refine HK.out.mono ?_; rintro e w1 ⟨rfl, hb1⟩; have B1 := Aside0.mk hb1; clear hb1)
    go_ret
    exact ⟨by rw [HA.out]; rfl, B1.out⟩
end Go.Proofs.Ytampgoendkjkhaa.H

namespace Go.Proofs.Ytampgoendkjkhaa.H
open Go.RowKit Go.Shelf Go.Proofs.YtampgoendkjkhaaW.PrintWords Go.Proofs.YtampgoendkjkhaaW.PrintMore
set_option linter.unusedVariables false
set_option linter.unusedSimpArgs false
theorem lit_cf2 {W : World} {b : Nat} {x y : Cfg} {A B : Option Addr} {c d : Nat} (h : W.heap[b]? = some (.cells #[.int .i64 x.1, .slice A x.2.length c, .int .i64 y.1, .slice B y.2.length d] 35 (0, 0))) (g0 : x.2.length ≤ c) (g1 : y.2.length ≤ d) (h0 : Kd.C (Kd.int .i64) W A x.2.length x.2) (h1 : Kd.C (Kd.int .i64) W B y.2.length y.2) : Kd.C kCf W (some ⟨b, 0, none⟩) 2 [x, y] := by
  refine ⟨rfl, by decide, fun _ => ⟨_, rfl, fun j p hj => ?_⟩⟩
  match j, hj with
  | 0, hj =>
    obtain rfl : x = p := by simpa using hj
    refine ⟨[.int .i64 x.1, .slice A x.2.length c], rfl, ⟨A, c, rfl, g0, h0⟩, fun i u hu => ?_⟩
    match i, hu with
    | 0, hu =>
      obtain rfl : Value.int .i64 x.1 = u := by simpa using hu
      simpa [Addr.add] using blk_cell h 0
    | 1, hu =>
      obtain rfl : Value.slice A x.2.length c = u := by simpa using hu
      simpa [Addr.add, kCf] using blk_cell h 1
  | 1, hj =>
    obtain rfl : y = p := by simpa using hj
    refine ⟨[.int .i64 y.1, .slice B y.2.length d], rfl, ⟨B, d, rfl, g1, h1⟩, fun i u hu => ?_⟩
    match i, hu with
    | 0, hu =>
      obtain rfl : Value.int .i64 y.1 = u := by simpa using hu
      simpa [Addr.add, kCf] using blk_cell h 2
    | 1, hu =>
      obtain rfl : Value.slice B y.2.length d = u := by simpa using hu
      simpa [Addr.add, kCf] using blk_cell h 3
theorem lit_cf1 {W : World} {b : Nat} {x : Cfg} {A : Option Addr} {c : Nat} (h : W.heap[b]? = some (.cells #[.int .i64 x.1, .slice A x.2.length c] 35 (0, 0))) (g0 : x.2.length ≤ c) (h0 : Kd.C (Kd.int .i64) W A x.2.length x.2) : Kd.C kCf W (some ⟨b, 0, none⟩) 1 [x] := by
  refine ⟨rfl, by decide, fun _ => ⟨_, rfl, fun j p hj => ?_⟩⟩
  match j, hj with
  | 0, hj =>
    obtain rfl : x = p := by simpa using hj
    refine ⟨[.int .i64 x.1, .slice A x.2.length c], rfl, ⟨A, c, rfl, g0, h0⟩, fun i u hu => ?_⟩
    match i, hu with
    | 0, hu =>
      obtain rfl : Value.int .i64 x.1 = u := by simpa using hu
      simpa [Addr.add] using blk_cell h 0
    | 1, hu =>
      obtain rfl : Value.slice A x.2.length c = u := by simpa using hu
      simpa [Addr.add, kCf] using blk_cell h 1
def askF (l : List Psh) (x y : Cfg) : Int := if ckdF l [x, y] = 0 then (if 3 < y.2.length then 1 else 0) else ckdF l [x, y]
theorem ask_calls (A : Option Addr) (c b : Nat) (l : List Psh) (x y : Cfg) (X Y : Option Addr) (cx cy : Nat) (w : World) (hr : Kd.C kPu w A l.length l) (hb : w.heap[b]? = some (.cells #[.int .i64 x.1, .slice X x.2.length cx, .int .i64 y.1, .slice Y y.2.length cy] 35 (0, 0))) (g0 : x.2.length ≤ cx) (g1 : y.2.length ≤ cy) (h0 : Kd.C (Kd.int .i64) w X x.2.length x.2) (h1 : Kd.C (Kd.int .i64) w Y y.2.length y.2) :
    Calls Try.prog 47 #[.slice A l.length c, .slice (some ⟨b, 0, none⟩) 2 2] w fun e w' => e = .returned (.int .i64 (askF l x y)) ∧ Below w.heap.size w w' := by
  have HK := Aside0.mk (ckd_calls A (some ⟨b, 0, none⟩) c 2 l [x, y] w hr (lit_cf2 hb g0 g1 h0 h1))
  have HB := Aside0.mk hb
  clear hr hb g0 g1 h0 h1
  by_cases h : ckdF l [x, y] = 0
  · rw [h] at HK
    have HA := Aside0.mk (show askF l x y = if 3 < y.2.length then 1 else 0 from if_pos h)
    clear h
    by_cases h3 : 3 < y.2.length
    · have HF := Aside0.mk (show askF l x y = 1 from by rw [HA.out, if_pos h3])
      go_enter Try.func47, Try.ntmps47
      go_wp2_with (go_at_call 52; refine HK.out.mono ?_; rintro e w1 ⟨rfl, hb1⟩; have B1 := Aside0.mk hb1; have k3 : w1.cell? ⟨b, 3, none⟩ = some (.slice Y y.2.length cy) := (blk_cell (blk_below HB.out hb1) 3).trans rfl; clear hb1)
      go_ret
      exact ⟨by rw [HF.out]; rfl, B1.out⟩
    · have HF := Aside0.mk (show askF l x y = 0 from by rw [HA.out, if_neg h3])
      go_enter Try.func47, Try.ntmps47
      go_wp2_with (go_at_call 52; refine HK.out.mono ?_; rintro e w1 ⟨rfl, hb1⟩; have B1 := Aside0.mk hb1; have k3 : w1.cell? ⟨b, 3, none⟩ = some (.slice Y y.2.length cy) := (blk_cell (blk_below HB.out hb1) 3).trans rfl; clear hb1)
      go_ret
      exact ⟨by rw [HF.out]; rfl, B1.out⟩
  · have g : (ckdF l [x, y] != 0) = true := by simpa using h
    have HA := Aside0.mk (show askF l x y = ckdF l [x, y] from if_neg h)
    clear h
    generalize ckdF l [x, y] = e0 at HK HA g
    go_enter Try.func47, Try.ntmps47
    go_wp2_with (go_at_call 52; refine HK.out.mono ?_; rintro e w1 ⟨rfl, hb1⟩; have B1 := Aside0.mk hb1; clear hb1)
    go_ret
    exact ⟨by rw [HA.out]; rfl, B1.out⟩
theorem sts_calls (b gl gp : Nat) (gc : Int) (G : Option Addr) (m : Value) (w : World) (hb : w.heap[b]? = some (.cells #[.int .i64 gc, .slice G gl gp, m] 224 (0, 0))) (hg : gl ≤ 1000) :
    Calls Try.prog 116 #[.pointer (some ⟨b, 0, none⟩)] w fun e w' => e = .returned (.int .i64 ((gl + 4 : Nat) : Int)) ∧ w = w' := by
  have k1 : w.cell? ⟨b, 1, none⟩ = some (.slice G gl gp) := (blk_cell hb 1).trans rfl
  obtain ⟨s1, hs1⟩ : ∃ s1 : Int, s1 = 3 + (gl : Int) := ⟨_, rfl⟩
  have hw1 : IntKind.i64.wrap (3 + (gl : Int)) = s1 := (IntWalk.i64_in _ (by omega)).trans hs1.symm
  have hw2 : IntKind.i64.wrap (s1 + 1) = ((gl + 4 : Nat) : Int) := (IntWalk.i64_in _ (by omega)).trans (by omega)
  clear hs1 hg hb
  generalize ((gl + 4 : Nat) : Int) = n at hw2 ⊢
  go_enter Try.func116, Try.ntmps116
  go_wp2
  go_ret
  exact ⟨rfl, rfl⟩
theorem lst_calls (b gl gp : Nat) (gc : Int) (G : Option Addr) (m : Value) (w : World) (hb : w.heap[b]? = some (.cells #[.int .i64 gc, .slice G gl gp, m] 224 (0, 0))) (hg : gl ≤ 1000) :
    Calls Try.prog 50 #[.pointer (some ⟨b, 0, none⟩)] w fun e w' => e = .returned (.int .i64 ((gl + 3 : Nat) : Int)) ∧ w = w' := by
  have HK := Aside0.mk (sts_calls b gl gp gc G m w hb hg)
  have hw2 : IntKind.i64.wrap (((gl + 4 : Nat) : Int) - 1) = ((gl + 3 : Nat) : Int) := (IntWalk.i64_in _ (by omega)).trans (by omega)
  clear hb hg
  generalize ((gl + 3 : Nat) : Int) = n at hw2 ⊢
  generalize ((gl + 4 : Nat) : Int) = n4 at hw2 HK
  go_enter Try.func50, Try.ntmps50
  go_wp2_with (go_at_call 116; refine HK.out.mono ?_; rintro e w1 ⟨rfl, rfl⟩)
  go_ret
  exact ⟨rfl, rfl⟩
end Go.Proofs.Ytampgoendkjkhaa.H

namespace Go.Proofs.Ytampgoendkjkhaa.H
open Go.RowKit Go.Shelf Go.Proofs.YtampgoendkjkhaaW.PrintWords Go.Proofs.YtampgoendkjkhaaW.PrintMore
set_option linter.unusedVariables false
set_option linter.unusedSimpArgs false
theorem resCf {fn : Func} {p s : Tmp} (h : fn.results = #[.cell p 35, .tmp s]) (tmps : Array Value) (W : World) (b1 : Nat) (v0 v1 : Value) (hp : tmps.getD p undef = .pointer (some ⟨b1, 0, none⟩))
    (h0 : W.cell? ⟨b1, 0, none⟩ = some v0) (h1 : W.cell? ⟨b1, 1, none⟩ = some v1) : (results fn tmps).run Try.prog W = .ok (.tuple #[.agg #[v0, v1], tmps.getD s undef]) W := by
  have hu := Try.underlying35
  have hp' : tmps[p]?.getD undef = .pointer (some ⟨b1, 0, none⟩) := by simpa using hp
  simp only [results, h]
  go_simp
theorem info_i3 : (Try.prog.info? 3).map (fun i => (i.zero, i.size, i.bytes)) = some (some (.int .i64 0), 1, 8) := by kernel_rfl
/-- how a step ends: its code -/
def stpF (l : List Psh) (x : Cfg) (i : Int) : Int := if ckdF l [x] = 0 then (if h : 0 ≤ i ∧ i.toNat < l.length then (if x.1 = (l[i.toNat]'h.2).fr ∧ x.2.head? = some (l[i.toNat]'h.2).tp then 0 else 6) else 5) else ckdF l [x]
structure SpM (w W : World) (x : Cfg) (X : Option Addr) (cx : Nat) : Prop where
  b : Below w.heap.size w W
  c : W.heap[w.heap.size]? = some (.cells #[.int .i64 x.1, .slice X x.2.length cx] 35 (0, 0))
  r : W.heap[w.heap.size + 1]? = some (.cells #[.int .i64 0, .slice none 0 0] 35 (0, 0))
theorem SpM.below {w W W' : World} {x : Cfg} {X : Option Addr} {cx : Nat} (h : SpM w W x X cx) (hb : Below W.heap.size W W') : SpM w W' x X cx := ⟨below_step h.b hb, blk_below h.c hb, blk_below h.r hb⟩
set_option maxHeartbeats 8000000 in
set_option maxRecDepth 100000 in
theorem step_bad (A : Option Addr) (c : Nat) (l : List Psh) (x : Cfg) (X : Option Addr) (cx : Nat) (i : Int) (w : World) (hr : Kd.C kPu w A l.length l) (hx : x.2.length ≤ cx ∧ Kd.C (Kd.int .i64) w X x.2.length x.2) (h : ckdF l [x] ≠ 0 ∨ ckdF l [x] = 0 ∧ (i < 0 ∨ (l.length : Int) ≤ i)) :
    Calls Try.prog 17 #[.slice A l.length c, .agg #[.int .i64 x.1, .slice X x.2.length cx], .int .i64 i] w fun e w' => ∃ code : Int, code ≠ 0 ∧ e = .returned (.tuple #[.agg #[.int .i64 0, .slice none 0 0], .int .i64 code]) ∧ Below w.heap.size w w' := by
  have HR := Aside0.mk hr
  have HX := Aside0.mk hx
  have hbig := hr.2.1
  clear hr hx
  rcases h with h | ⟨h0, h | h⟩
  · obtain ⟨e0, he0⟩ : ∃ e0, ckdF l [x] = e0 := ⟨_, rfl⟩
    have HQ := Aside0.mk he0
    have HN := Aside0.mk (show e0 ≠ 0 from by rw [← he0]; exact h)
    have g0 : (e0 != 0) = true := by rw [← he0]; simpa using h
    clear h he0
    go_enter Try.func17, Try.ntmps17
    go_wp2_with (first | (go_at_call 52; refine calls_let ?_; intro W2 hW2; have M2 := (show SpM w W2 x X cx from by rw [hW2]; exact ⟨below_alloc (below_alloc (below_alloc (Below.refl _ _) _) _) _, blk_alloc (blk_alloc (blk_new w _) _) _, blk_alloc (blk_newn _ _ _ (by simp)) _⟩); have L2 := lit_cf1 (x := x) (show W2.heap[w.heap.size + 1 + 1]? = some (.cells #[.int .i64 x.1, .slice X x.2.length cx] 35 (0, 0)) from by rw [hW2]; exact blk_newn _ _ _ (by simp)) HX.out.1 (Kd.C_below HX.out.2 M2.b); clear hW2; refine (ckd_calls _ (some ⟨w.heap.size + 1 + 1, 0, none⟩) c 1 l [x] W2 (Kd.C_below HR.out M2.b) L2).mono ?_; rw [HQ.out]; rintro e w3 ⟨rfl, hb3⟩; have M3 := Aside0.mk (M2.below hb3); have q60 : w3.cell? ⟨w.heap.size + 1, 0, none⟩ = some (.int .i64 0) := (blk_cell M3.out.r 0).trans rfl; have q61 : w3.cell? ⟨w.heap.size + 1, 1, none⟩ = some (.slice none 0 0) := (blk_cell M3.out.r 1).trans rfl; have f60 := blk_frozen M3.out.r 0; have f61 := blk_frozen M3.out.r 1; clear M2 L2 hb3) | fail)
    refine bodyPost_ret (resCf rfl _ _ (w.heap.size + 1) (.int .i64 0) (.slice none 0 0) rfl (by go_simp) (by go_simp)) rfl ?_
    exact ⟨e0, HN.out, rfl, by repeat (first | exact M3.out.b | refine below_set ?_ (by omega))⟩
  · have HQ := Aside0.mk h0
    have g0 : decide (i < 0) = true := decide_eq_true h
    clear h h0
    go_enter Try.func17, Try.ntmps17
    go_wp2_with (first | (go_at_call 52; refine calls_let ?_; intro W2 hW2; have M2 := (show SpM w W2 x X cx from by rw [hW2]; exact ⟨below_alloc (below_alloc (below_alloc (Below.refl _ _) _) _) _, blk_alloc (blk_alloc (blk_new w _) _) _, blk_alloc (blk_newn _ _ _ (by simp)) _⟩); have L2 := lit_cf1 (x := x) (show W2.heap[w.heap.size + 1 + 1]? = some (.cells #[.int .i64 x.1, .slice X x.2.length cx] 35 (0, 0)) from by rw [hW2]; exact blk_newn _ _ _ (by simp)) HX.out.1 (Kd.C_below HX.out.2 M2.b); clear hW2; refine (ckd_calls _ (some ⟨w.heap.size + 1 + 1, 0, none⟩) c 1 l [x] W2 (Kd.C_below HR.out M2.b) L2).mono ?_; rw [HQ.out]; rintro e w3 ⟨rfl, hb3⟩; have M3 := Aside0.mk (M2.below hb3); have q60 : w3.cell? ⟨w.heap.size + 1, 0, none⟩ = some (.int .i64 0) := (blk_cell M3.out.r 0).trans rfl; have q61 : w3.cell? ⟨w.heap.size + 1, 1, none⟩ = some (.slice none 0 0) := (blk_cell M3.out.r 1).trans rfl; have f60 := blk_frozen M3.out.r 0; have f61 := blk_frozen M3.out.r 1; clear M2 L2 hb3) | fail)
    refine bodyPost_ret (resCf rfl _ _ (w.heap.size + 1) (.int .i64 0) (.slice none 0 0) rfl (by go_simp) (by go_simp)) rfl ?_
    exact ⟨5, by decide, rfl, by repeat (first | exact M3.out.b | refine below_set ?_ (by omega))⟩
  · have HQ := Aside0.mk h0
    have g0 : decide (i < 0) = false := decide_eq_false (by omega)
    have g1 : decide ((l.length : Int) ≤ i) = true := decide_eq_true h
    clear h h0
    go_enter Try.func17, Try.ntmps17
    go_wp2_with (first | (go_at_call 52; refine calls_let ?_; intro W2 hW2; have M2 := (show SpM w W2 x X cx from by rw [hW2]; exact ⟨below_alloc (below_alloc (below_alloc (Below.refl _ _) _) _) _, blk_alloc (blk_alloc (blk_new w _) _) _, blk_alloc (blk_newn _ _ _ (by simp)) _⟩); have L2 := lit_cf1 (x := x) (show W2.heap[w.heap.size + 1 + 1]? = some (.cells #[.int .i64 x.1, .slice X x.2.length cx] 35 (0, 0)) from by rw [hW2]; exact blk_newn _ _ _ (by simp)) HX.out.1 (Kd.C_below HX.out.2 M2.b); clear hW2; refine (ckd_calls _ (some ⟨w.heap.size + 1 + 1, 0, none⟩) c 1 l [x] W2 (Kd.C_below HR.out M2.b) L2).mono ?_; rw [HQ.out]; rintro e w3 ⟨rfl, hb3⟩; have M3 := Aside0.mk (M2.below hb3); have q60 : w3.cell? ⟨w.heap.size + 1, 0, none⟩ = some (.int .i64 0) := (blk_cell M3.out.r 0).trans rfl; have q61 : w3.cell? ⟨w.heap.size + 1, 1, none⟩ = some (.slice none 0 0) := (blk_cell M3.out.r 1).trans rfl; have f60 := blk_frozen M3.out.r 0; have f61 := blk_frozen M3.out.r 1; clear M2 L2 hb3) | fail)
    refine bodyPost_ret (resCf rfl _ _ (w.heap.size + 1) (.int .i64 0) (.slice none 0 0) rfl (by go_simp) (by go_simp)) rfl ?_
    exact ⟨5, by decide, rfl, by repeat (first | exact M3.out.b | refine below_set ?_ (by omega))⟩
/-- up to the test: the rule lies in its box -/
theorem pu_at {l : List Psh} {A : Option Addr} {W : World} (h : Kd.C kPu W A l.length l) {j : Nat} {r : Psh} (hj : l[j]? = some r) : ∃ ad A1 c1, A = some ad ∧ j < l.length ∧ r.pt.length ≤ c1 ∧ Kd.C (Kd.int .i64) W A1 r.pt.length r.pt ∧ W.cell? (ad.add (j * 4)) = some (.int .i64 r.fr) ∧ W.cell? ⟨(ad.add (j * 4)).block, (ad.add (j * 4)).off + 1, none⟩ = some (.int .i64 r.tp) ∧ W.cell? ⟨(ad.add (j * 4)).block, (ad.add (j * 4)).off + 2, none⟩ = some (.int .i64 r.tw) ∧ W.cell? ⟨(ad.add (j * 4)).block, (ad.add (j * 4)).off + 3, none⟩ = some (.slice A1 r.pt.length c1) := by
  obtain ⟨hlt, rfl⟩ := List.getElem?_eq_some_iff.1 hj
  obtain ⟨ad, A1, c1, e0, h1, h2, h3⟩ := pu_get h rfl hlt
  exact ⟨ad, A1, c1, e0, hlt, h1, h2, h3⟩
set_option maxHeartbeats 8000000 in
set_option maxRecDepth 100000 in
theorem step_off (A : Option Addr) (c : Nat) (l : List Psh) (x : Cfg) (X : Option Addr) (cx j : Nat) (r : Psh) (w : World) (hr : Kd.C kPu w A l.length l) (hx : x.2.length ≤ cx ∧ Kd.C (Kd.int .i64) w X x.2.length x.2) (h : ckdF l [x] = 0) (hj : l[j]? = some r) (hne : x.1 ≠ r.fr ∨ x.2.head? ≠ some r.tp) :
    Calls Try.prog 17 #[.slice A l.length c, .agg #[.int .i64 x.1, .slice X x.2.length cx], .int .i64 (j : Int)] w fun e w' => ∃ code : Int, code ≠ 0 ∧ e = .returned (.tuple #[.agg #[.int .i64 0, .slice none 0 0], .int .i64 code]) ∧ Below w.heap.size w w' := by
  obtain ⟨ad, A1, c1, e0, hlt, hc1, hC1, k1, k2, k3, k4⟩ := pu_at hr hj
  cases e0
  have HQ := Aside0.mk h
  have HR := Aside0.mk hr
  have HX := Aside0.mk hx
  have HK := Aside0.mk (show w.cell? (ad.add (j * 4)) = some (.int .i64 r.fr) ∧ w.cell? ⟨(ad.add (j * 4)).block, (ad.add (j * 4)).off + 1, none⟩ = some (.int .i64 r.tp) ∧ w.cell? ⟨(ad.add (j * 4)).block, (ad.add (j * 4)).off + 2, none⟩ = some (.int .i64 r.tw) ∧ w.cell? ⟨(ad.add (j * 4)).block, (ad.add (j * 4)).off + 3, none⟩ = some (.slice A1 r.pt.length c1) from ⟨k1, k2, k3, k4⟩)
  have HNE := Aside0.mk hne
  have hbig := hr.2.1
  have hltz : (j : Int) < (l.length : Int) := by omega
  have hltz2 : ¬ (l.length : Int) ≤ (j : Int) := by omega
  clear hr hx h hj hne k1 k2 k3 k4 hc1 hC1
  go_enter Try.func17, Try.ntmps17; go_upto_region 6 with (first | (go_at_call 52; refine calls_let ?_; intro W2 hW2; have M2 := (show SpM w W2 x X cx from by rw [hW2]; exact ⟨below_alloc (below_alloc (below_alloc (Below.refl _ _) _) _) _, blk_alloc (blk_alloc (blk_new w _) _) _, blk_alloc (blk_newn _ _ _ (by simp)) _⟩); have L2 := lit_cf1 (x := x) (show W2.heap[w.heap.size + 1 + 1]? = some (.cells #[.int .i64 x.1, .slice X x.2.length cx] 35 (0, 0)) from by rw [hW2]; exact blk_newn _ _ _ (by simp)) HX.out.1 (Kd.C_below HX.out.2 M2.b); clear hW2; refine (ckd_calls _ (some ⟨w.heap.size + 1 + 1, 0, none⟩) c 1 l [x] W2 (Kd.C_below HR.out M2.b) L2).mono ?_; rw [HQ.out]; rintro e w3 ⟨rfl, hb3⟩; have M3 := Aside0.mk (M2.below hb3); have q60 : w3.cell? ⟨w.heap.size + 1, 0, none⟩ = some (.int .i64 0) := (blk_cell M3.out.r 0).trans rfl; have q61 : w3.cell? ⟨w.heap.size + 1, 1, none⟩ = some (.slice none 0 0) := (blk_cell M3.out.r 1).trans rfl; have f60 := blk_frozen M3.out.r 0; have f61 := blk_frozen M3.out.r 1; clear M2 L2 hb3) | fail)
  have k1 := pw_cell_below M3.out.b HK.out.1
  have k2 := pw_cell_below M3.out.b HK.out.2.1
  have k3 := pw_cell_below M3.out.b HK.out.2.2.1
  have k4 := pw_cell_below M3.out.b HK.out.2.2.2
  have M9 := Aside0.mk (M3.out.below (below_alloc (Below.refl w3.heap.size w3) (.cells #[.int .i64 r.fr, .int .i64 r.tp, .int .i64 r.tw, .slice A1 r.pt.length c1] 37)))
  have X9 := Aside0.mk (blk_new w3 (.cells #[.int .i64 r.fr, .int .i64 r.tp, .int .i64 r.tw, .slice A1 r.pt.length c1] 37 (0, 0)))
  clear q60 q61 f60 f61
  go_wp2
  obtain ⟨b9, hb9⟩ : ∃ b9, b9 = w3.heap.size := ⟨_, rfl⟩
  generalize w3.alloc (.cells #[.int .i64 r.fr, .int .i64 r.tp, .int .i64 r.tw, .slice A1 r.pt.length c1] 37) = W9 at M9 X9 ⊢
  rw [← hb9] at X9 ⊢
  clear k1 k2 k3 k4 hb9
  have q40 : W9.cell? ⟨w.heap.size, 0, none⟩ = some (.int .i64 x.1) := (blk_cell M9.out.c 0).trans rfl; have q41 : W9.cell? ⟨w.heap.size, 1, none⟩ = some (.slice X x.2.length cx) := (blk_cell M9.out.c 1).trans rfl; have q90 : W9.cell? ⟨b9, 0, none⟩ = some (.int .i64 r.fr) := (blk_cell X9.out 0).trans rfl; have q91 : W9.cell? ⟨b9, 1, none⟩ = some (.int .i64 r.tp) := (blk_cell X9.out 1).trans rfl; have q92 : W9.cell? ⟨b9, 2, none⟩ = some (.int .i64 r.tw) := (blk_cell X9.out 2).trans rfl; have q93 : W9.cell? ⟨b9, 3, none⟩ = some (.slice A1 r.pt.length c1) := (blk_cell X9.out 3).trans rfl; have q60 : W9.cell? ⟨w.heap.size + 1, 0, none⟩ = some (.int .i64 0) := (blk_cell M9.out.r 0).trans rfl; have q61 : W9.cell? ⟨w.heap.size + 1, 1, none⟩ = some (.slice none 0 0) := (blk_cell M9.out.r 1).trans rfl; have f60 := blk_frozen M9.out.r 0; have f61 := blk_frozen M9.out.r 1
  cases c0 : (x.1 != r.fr) with
  | true =>
    refine wp_region_held_drew (S := (fun W' => W'.cell? ⟨w.heap.size, 0, none⟩ = some (.int .i64 x.1) ∧ W'.cell? ⟨w.heap.size, 1, none⟩ = some (.slice X x.2.length cx) ∧ W'.cell? ⟨b9, 0, none⟩ = some (.int .i64 r.fr) ∧ W'.cell? ⟨b9, 1, none⟩ = some (.int .i64 r.tp) ∧ W'.cell? ⟨b9, 2, none⟩ = some (.int .i64 r.tw) ∧ W'.cell? ⟨b9, 3, none⟩ = some (.slice A1 r.pt.length c1))) (by kernel_rfl) ?_ (fun hHeld => ?_)
    · (try dsimp only); exact ⟨q40, q41, q90, q91, q92, q93⟩
    refine wpAnyH_take (i := 0) (v := ?_) rfl (by kernel_rfl) (by kernel_rfl) (by kernel_rfl) (fun _ _ _ h => h) (Or.inl ⟨by kernel_rfl, ?_⟩) (by assumption) ?_
    rotate_left 1
    · intro w hSw; (try dsimp only at hSw); go_simp; (try with_reducible rfl)
    (try simp only [Act.put, List.getElem_toArray, List.getElem_cons_zero, List.getElem_cons_succ, List.setIfInBounds_toArray, List.set_cons_zero, List.set_cons_succ])
    refine wpAnyH_take (i := 1) (v := ?_) rfl (by kernel_rfl) (by kernel_rfl) (by kernel_rfl) (fun _ _ _ h => h) (Or.inl ⟨by kernel_rfl, ?_⟩) (by assumption) ?_
    rotate_left 1
    · intro w hSw; (try dsimp only at hSw); go_simp; (try with_reducible rfl)
    (try simp only [Act.put, List.getElem_toArray, List.getElem_cons_zero, List.getElem_cons_succ, List.setIfInBounds_toArray, List.set_cons_zero, List.set_cons_succ])
    refine wpAnyH_take (i := 2) (v := ?_) rfl (by kernel_rfl) (by kernel_rfl) (by kernel_rfl) (fun _ _ _ h => h) (Or.inl ⟨by kernel_rfl, ?_⟩) (by assumption) ?_
    rotate_left 1
    · intro w hSw; (try dsimp only at hSw); go_simp; (try with_reducible rfl)
    (try simp only [Act.put, List.getElem_toArray, List.getElem_cons_zero, List.getElem_cons_succ, List.setIfInBounds_toArray, List.set_cons_zero, List.set_cons_succ])
    refine wpAnyH_take (i := 3) (v := ?_) rfl (by kernel_rfl) (by kernel_rfl) (by kernel_rfl) (fun _ _ _ h => h) (Or.inl ⟨by kernel_rfl, ?_⟩) (by assumption) ?_
    rotate_left 1
    · intro w hSw; (try dsimp only at hSw); go_simp; (try with_reducible rfl)
    (try simp only [Act.put, List.getElem_toArray, List.getElem_cons_zero, List.getElem_cons_succ, List.setIfInBounds_toArray, List.set_cons_zero, List.set_cons_succ])
    refine wpAnyH_take (i := 4) (v := ?_) rfl (by kernel_rfl) (by kernel_rfl) (by kernel_rfl) (fun _ _ _ h => h) (Or.inl ⟨by kernel_rfl, ?_⟩) (by assumption) ?_
    rotate_left 1
    · intro w hSw; (try dsimp only at hSw); go_simp; (try with_reducible rfl)
    (try simp only [Act.put, List.getElem_toArray, List.getElem_cons_zero, List.getElem_cons_succ, List.setIfInBounds_toArray, List.set_cons_zero, List.set_cons_succ])
    refine wpAnyH_take (i := 5) (v := ?_) rfl (by kernel_rfl) (by kernel_rfl) (by kernel_rfl) (fun _ _ _ h => h) (Or.inl ⟨by kernel_rfl, ?_⟩) (by assumption) ?_
    rotate_left 1
    · intro w hSw; (try dsimp only at hSw); go_simp; (try with_reducible rfl)
    (try simp only [Act.put, List.getElem_toArray, List.getElem_cons_zero, List.getElem_cons_succ, List.setIfInBounds_toArray, List.set_cons_zero, List.set_cons_succ])
    refine wpAnyH_take (i := 6) (v := undef) rfl (by kernel_rfl) (by kernel_rfl) (by kernel_rfl) (fun _ _ _ h => h) (Or.inr ⟨by kernel_rfl, rfl⟩) (by assumption) ?_
    (try simp only [Act.put, List.getElem_toArray, List.getElem_cons_zero, List.getElem_cons_succ, List.setIfInBounds_toArray, List.set_cons_zero, List.set_cons_succ])
    refine wpAnyH_take (i := 7) (v := undef) rfl (by kernel_rfl) (by kernel_rfl) (by kernel_rfl) (fun _ _ _ h => h) (Or.inr ⟨by kernel_rfl, rfl⟩) (by assumption) ?_
    (try simp only [Act.put, List.getElem_toArray, List.getElem_cons_zero, List.getElem_cons_succ, List.setIfInBounds_toArray, List.set_cons_zero, List.set_cons_succ])
    refine wpAnyH_take (i := 8) (v := undef) rfl (by kernel_rfl) (by kernel_rfl) (by kernel_rfl) (fun _ _ _ h => h) (Or.inr ⟨by kernel_rfl, rfl⟩) (by assumption) ?_
    (try simp only [Act.put, List.getElem_toArray, List.getElem_cons_zero, List.getElem_cons_succ, List.setIfInBounds_toArray, List.set_cons_zero, List.set_cons_succ])
    refine wpAnyH_take (i := 9) (v := undef) rfl (by kernel_rfl) (by kernel_rfl) (by kernel_rfl) (fun _ _ _ h => h) (Or.inr ⟨by kernel_rfl, rfl⟩) (by assumption) ?_
    (try simp only [Act.put, List.getElem_toArray, List.getElem_cons_zero, List.getElem_cons_succ, List.setIfInBounds_toArray, List.set_cons_zero, List.set_cons_succ])
    refine wpAnyH_take (i := 10) (v := ?_) rfl (by kernel_rfl) (by kernel_rfl) (by kernel_rfl) (fun _ _ _ h => h) (Or.inl ⟨by kernel_rfl, ?_⟩) (by assumption) ?_
    rotate_left 1
    · intro w hSw; (try dsimp only at hSw); go_simp; (try with_reducible rfl)
    (try simp only [Act.put, List.getElem_toArray, List.getElem_cons_zero, List.getElem_cons_succ, List.setIfInBounds_toArray, List.set_cons_zero, List.set_cons_succ])
    refine wpAnyH_take (i := 11) (v := ?_) rfl (by kernel_rfl) (by kernel_rfl) (by kernel_rfl) (fun _ _ _ h => h) (Or.inl ⟨by kernel_rfl, ?_⟩) (by assumption) ?_
    rotate_left 1
    · intro w hSw; (try dsimp only at hSw); go_simp; (try with_reducible rfl)
    (try simp only [Act.put, List.getElem_toArray, List.getElem_cons_zero, List.getElem_cons_succ, List.setIfInBounds_toArray, List.set_cons_zero, List.set_cons_succ])
    refine wpAnyH_take (i := 12) (v := undef) rfl (by kernel_rfl) (by kernel_rfl) (by kernel_rfl) (fun _ _ _ h => h) (Or.inr ⟨by kernel_rfl, rfl⟩) (by assumption) ?_
    (try simp only [Act.put, List.getElem_toArray, List.getElem_cons_zero, List.getElem_cons_succ, List.setIfInBounds_toArray, List.set_cons_zero, List.set_cons_succ])
    refine wpAnyH_take (i := 13) (v := undef) rfl (by kernel_rfl) (by kernel_rfl) (by kernel_rfl) (fun _ _ _ h => h) (Or.inr ⟨by kernel_rfl, rfl⟩) (by assumption) ?_
    (try simp only [Act.put, List.getElem_toArray, List.getElem_cons_zero, List.getElem_cons_succ, List.setIfInBounds_toArray, List.set_cons_zero, List.set_cons_succ])
    refine wpAnyH_take (i := 14) (v := undef) rfl (by kernel_rfl) (by kernel_rfl) (by kernel_rfl) (fun _ _ _ h => h) (Or.inr ⟨by kernel_rfl, rfl⟩) (by assumption) ?_
    (try simp only [Act.put, List.getElem_toArray, List.getElem_cons_zero, List.getElem_cons_succ, List.setIfInBounds_toArray, List.set_cons_zero, List.set_cons_succ])
    refine wpAnyH_take (i := 15) (v := undef) rfl (by kernel_rfl) (by kernel_rfl) (by kernel_rfl) (fun _ _ _ h => h) (Or.inr ⟨by kernel_rfl, rfl⟩) (by assumption) ?_
    (try simp only [Act.put, List.getElem_toArray, List.getElem_cons_zero, List.getElem_cons_succ, List.setIfInBounds_toArray, List.set_cons_zero, List.set_cons_succ])
    refine wpAnyH_take (i := 16) (v := undef) rfl (by kernel_rfl) (by kernel_rfl) (by kernel_rfl) (fun _ _ _ h => h) (Or.inr ⟨by kernel_rfl, rfl⟩) (by assumption) ?_
    (try simp only [Act.put, List.getElem_toArray, List.getElem_cons_zero, List.getElem_cons_succ, List.setIfInBounds_toArray, List.set_cons_zero, List.set_cons_succ])
    refine wpAnyH_take (i := 17) (v := undef) rfl (by kernel_rfl) (by kernel_rfl) (by kernel_rfl) (fun _ _ _ h => h) (Or.inr ⟨by kernel_rfl, rfl⟩) (by assumption) ?_
    (try simp only [Act.put, List.getElem_toArray, List.getElem_cons_zero, List.getElem_cons_succ, List.setIfInBounds_toArray, List.set_cons_zero, List.set_cons_succ])
    refine wpAnyH_take (i := 18) (v := undef) rfl (by kernel_rfl) (by kernel_rfl) (by kernel_rfl) (fun _ _ _ h => h) (Or.inr ⟨by kernel_rfl, rfl⟩) (by assumption) ?_
    (try simp only [Act.put, List.getElem_toArray, List.getElem_cons_zero, List.getElem_cons_succ, List.setIfInBounds_toArray, List.set_cons_zero, List.set_cons_succ])
    refine wpAnyH_take (i := 19) (v := ?_) rfl (by kernel_rfl) (by kernel_rfl) (by kernel_rfl) (fun _ _ _ h => h) (Or.inl ⟨by kernel_rfl, ?_⟩) (by assumption) ?_
    rotate_left 1
    · intro w hSw; (try dsimp only at hSw); go_simp; (try with_reducible rfl)
    (try simp only [Act.put, List.getElem_toArray, List.getElem_cons_zero, List.getElem_cons_succ, List.setIfInBounds_toArray, List.set_cons_zero, List.set_cons_succ])
    refine wpAnyH_done (by kernel_rfl) ?_ _
    go_wp2
    refine bodyPost_ret (resCf rfl _ _ (w.heap.size + 1) (.int .i64 0) (.slice none 0 0) rfl (by go_simp) (by go_simp)) rfl ?_
    exact ⟨6, by decide, rfl, by repeat (first | exact M9.out.b | refine below_set ?_ (by omega) | refine below_drew1 ?_)⟩
  | false =>
    have hxf : x.1 = r.fr := by simpa using c0
    have HNH := Aside0.mk (show x.2.head? ≠ some r.tp from HNE.out.resolve_left (fun h => h hxf))
    clear hxf
    cases hst : x.2 with
    | nil =>
      have hz : x.2.length = 0 := by rw [hst]; rfl
      have q41' : W9.cell? ⟨w.heap.size, 1, none⟩ = some (.slice X 0 cx) := by rw [q41, hz]
      clear hst hz q41
      refine wp_region_held_drew (S := (fun W' => W'.cell? ⟨w.heap.size, 0, none⟩ = some (.int .i64 x.1) ∧ W'.cell? ⟨w.heap.size, 1, none⟩ = some (.slice X 0 cx) ∧ W'.cell? ⟨b9, 0, none⟩ = some (.int .i64 r.fr))) (by kernel_rfl) ?_ (fun hHeld => ?_)
      · (try dsimp only); exact ⟨q40, q41', q90⟩
      refine wpAnyH_take (i := 0) (v := ?_) rfl (by kernel_rfl) (by kernel_rfl) (by kernel_rfl) (fun _ _ _ h => h) (Or.inl ⟨by kernel_rfl, ?_⟩) (by assumption) ?_
      rotate_left 1
      · intro w hSw; (try dsimp only at hSw); go_simp; (try with_reducible rfl)
      (try simp only [Act.put, List.getElem_toArray, List.getElem_cons_zero, List.getElem_cons_succ, List.setIfInBounds_toArray, List.set_cons_zero, List.set_cons_succ])
      refine wpAnyH_take (i := 1) (v := ?_) rfl (by kernel_rfl) (by kernel_rfl) (by kernel_rfl) (fun _ _ _ h => h) (Or.inl ⟨by kernel_rfl, ?_⟩) (by assumption) ?_
      rotate_left 1
      · intro w hSw; (try dsimp only at hSw); go_simp; (try with_reducible rfl)
      (try simp only [Act.put, List.getElem_toArray, List.getElem_cons_zero, List.getElem_cons_succ, List.setIfInBounds_toArray, List.set_cons_zero, List.set_cons_succ])
      refine wpAnyH_take (i := 2) (v := ?_) rfl (by kernel_rfl) (by kernel_rfl) (by kernel_rfl) (fun _ _ _ h => h) (Or.inl ⟨by kernel_rfl, ?_⟩) (by assumption) ?_
      rotate_left 1
      · intro w hSw; (try dsimp only at hSw); go_simp; (try with_reducible rfl)
      (try simp only [Act.put, List.getElem_toArray, List.getElem_cons_zero, List.getElem_cons_succ, List.setIfInBounds_toArray, List.set_cons_zero, List.set_cons_succ])
      refine wpAnyH_take (i := 3) (v := ?_) rfl (by kernel_rfl) (by kernel_rfl) (by kernel_rfl) (fun _ _ _ h => h) (Or.inl ⟨by kernel_rfl, ?_⟩) (by assumption) ?_
      rotate_left 1
      · intro w hSw; (try dsimp only at hSw); go_simp; (try with_reducible rfl)
      (try simp only [Act.put, List.getElem_toArray, List.getElem_cons_zero, List.getElem_cons_succ, List.setIfInBounds_toArray, List.set_cons_zero, List.set_cons_succ])
      refine wpAnyH_take (i := 4) (v := ?_) rfl (by kernel_rfl) (by kernel_rfl) (by kernel_rfl) (fun _ _ _ h => h) (Or.inl ⟨by kernel_rfl, ?_⟩) (by assumption) ?_
      rotate_left 1
      · intro w hSw; (try dsimp only at hSw); go_simp; (try with_reducible rfl)
      (try simp only [Act.put, List.getElem_toArray, List.getElem_cons_zero, List.getElem_cons_succ, List.setIfInBounds_toArray, List.set_cons_zero, List.set_cons_succ])
      refine wpAnyH_take (i := 5) (v := ?_) rfl (by kernel_rfl) (by kernel_rfl) (by kernel_rfl) (fun _ _ _ h => h) (Or.inl ⟨by kernel_rfl, ?_⟩) (by assumption) ?_
      rotate_left 1
      · intro w hSw; (try dsimp only at hSw); go_simp; (try with_reducible rfl)
      (try simp only [Act.put, List.getElem_toArray, List.getElem_cons_zero, List.getElem_cons_succ, List.setIfInBounds_toArray, List.set_cons_zero, List.set_cons_succ])
      refine wpAnyH_take (i := 6) (v := ?_) rfl (by kernel_rfl) (by kernel_rfl) (by kernel_rfl) (fun _ _ _ h => h) (Or.inl ⟨by kernel_rfl, ?_⟩) (by assumption) ?_
      rotate_left 1
      · intro w hSw; (try dsimp only at hSw); go_simp; (try with_reducible rfl)
      (try simp only [Act.put, List.getElem_toArray, List.getElem_cons_zero, List.getElem_cons_succ, List.setIfInBounds_toArray, List.set_cons_zero, List.set_cons_succ])
      refine wpAnyH_take (i := 7) (v := ?_) rfl (by kernel_rfl) (by kernel_rfl) (by kernel_rfl) (fun _ _ _ h => h) (Or.inl ⟨by kernel_rfl, ?_⟩) (by assumption) ?_
      rotate_left 1
      · intro w hSw; (try dsimp only at hSw); go_simp; (try with_reducible rfl)
      (try simp only [Act.put, List.getElem_toArray, List.getElem_cons_zero, List.getElem_cons_succ, List.setIfInBounds_toArray, List.set_cons_zero, List.set_cons_succ])
      refine wpAnyH_take (i := 8) (v := ?_) rfl (by kernel_rfl) (by kernel_rfl) (by kernel_rfl) (fun _ _ _ h => h) (Or.inl ⟨by kernel_rfl, ?_⟩) (by assumption) ?_
      rotate_left 1
      · intro w hSw; (try dsimp only at hSw); go_simp; (try with_reducible rfl)
      (try simp only [Act.put, List.getElem_toArray, List.getElem_cons_zero, List.getElem_cons_succ, List.setIfInBounds_toArray, List.set_cons_zero, List.set_cons_succ])
      refine wpAnyH_take (i := 9) (v := ?_) rfl (by kernel_rfl) (by kernel_rfl) (by kernel_rfl) (fun _ _ _ h => h) (Or.inl ⟨by kernel_rfl, ?_⟩) (by assumption) ?_
      rotate_left 1
      · intro w hSw; (try dsimp only at hSw); go_simp; (try with_reducible rfl)
      (try simp only [Act.put, List.getElem_toArray, List.getElem_cons_zero, List.getElem_cons_succ, List.setIfInBounds_toArray, List.set_cons_zero, List.set_cons_succ])
      refine wpAnyH_take (i := 10) (v := ?_) rfl (by kernel_rfl) (by kernel_rfl) (by kernel_rfl) (fun _ _ _ h => h) (Or.inl ⟨by kernel_rfl, ?_⟩) (by assumption) ?_
      rotate_left 1
      · intro w hSw; (try dsimp only at hSw); go_simp; (try with_reducible rfl)
      (try simp only [Act.put, List.getElem_toArray, List.getElem_cons_zero, List.getElem_cons_succ, List.setIfInBounds_toArray, List.set_cons_zero, List.set_cons_succ])
      refine wpAnyH_take (i := 11) (v := ?_) rfl (by kernel_rfl) (by kernel_rfl) (by kernel_rfl) (fun _ _ _ h => h) (Or.inl ⟨by kernel_rfl, ?_⟩) (by assumption) ?_
      rotate_left 1
      · intro w hSw; (try dsimp only at hSw); go_simp; (try with_reducible rfl)
      (try simp only [Act.put, List.getElem_toArray, List.getElem_cons_zero, List.getElem_cons_succ, List.setIfInBounds_toArray, List.set_cons_zero, List.set_cons_succ])
      refine wpAnyH_take (i := 12) (v := undef) rfl (by kernel_rfl) (by kernel_rfl) (by kernel_rfl) (fun _ _ _ h => h) (Or.inr ⟨by kernel_rfl, rfl⟩) (by assumption) ?_
      (try simp only [Act.put, List.getElem_toArray, List.getElem_cons_zero, List.getElem_cons_succ, List.setIfInBounds_toArray, List.set_cons_zero, List.set_cons_succ])
      refine wpAnyH_take (i := 13) (v := undef) rfl (by kernel_rfl) (by kernel_rfl) (by kernel_rfl) (fun _ _ _ h => h) (Or.inr ⟨by kernel_rfl, rfl⟩) (by assumption) ?_
      (try simp only [Act.put, List.getElem_toArray, List.getElem_cons_zero, List.getElem_cons_succ, List.setIfInBounds_toArray, List.set_cons_zero, List.set_cons_succ])
      refine wpAnyH_take (i := 14) (v := undef) rfl (by kernel_rfl) (by kernel_rfl) (by kernel_rfl) (fun _ _ _ h => h) (Or.inr ⟨by kernel_rfl, rfl⟩) (by assumption) ?_
      (try simp only [Act.put, List.getElem_toArray, List.getElem_cons_zero, List.getElem_cons_succ, List.setIfInBounds_toArray, List.set_cons_zero, List.set_cons_succ])
      refine wpAnyH_take (i := 15) (v := undef) rfl (by kernel_rfl) (by kernel_rfl) (by kernel_rfl) (fun _ _ _ h => h) (Or.inr ⟨by kernel_rfl, rfl⟩) (by assumption) ?_
      (try simp only [Act.put, List.getElem_toArray, List.getElem_cons_zero, List.getElem_cons_succ, List.setIfInBounds_toArray, List.set_cons_zero, List.set_cons_succ])
      refine wpAnyH_take (i := 16) (v := undef) rfl (by kernel_rfl) (by kernel_rfl) (by kernel_rfl) (fun _ _ _ h => h) (Or.inr ⟨by kernel_rfl, rfl⟩) (by assumption) ?_
      (try simp only [Act.put, List.getElem_toArray, List.getElem_cons_zero, List.getElem_cons_succ, List.setIfInBounds_toArray, List.set_cons_zero, List.set_cons_succ])
      refine wpAnyH_take (i := 17) (v := undef) rfl (by kernel_rfl) (by kernel_rfl) (by kernel_rfl) (fun _ _ _ h => h) (Or.inr ⟨by kernel_rfl, rfl⟩) (by assumption) ?_
      (try simp only [Act.put, List.getElem_toArray, List.getElem_cons_zero, List.getElem_cons_succ, List.setIfInBounds_toArray, List.set_cons_zero, List.set_cons_succ])
      refine wpAnyH_take (i := 18) (v := undef) rfl (by kernel_rfl) (by kernel_rfl) (by kernel_rfl) (fun _ _ _ h => h) (Or.inr ⟨by kernel_rfl, rfl⟩) (by assumption) ?_
      (try simp only [Act.put, List.getElem_toArray, List.getElem_cons_zero, List.getElem_cons_succ, List.setIfInBounds_toArray, List.set_cons_zero, List.set_cons_succ])
      refine wpAnyH_take (i := 19) (v := ?_) rfl (by kernel_rfl) (by kernel_rfl) (by kernel_rfl) (fun _ _ _ h => h) (Or.inl ⟨by kernel_rfl, ?_⟩) (by assumption) ?_
      rotate_left 1
      · intro w hSw; (try dsimp only at hSw); go_simp; (try with_reducible rfl)
      (try simp only [Act.put, List.getElem_toArray, List.getElem_cons_zero, List.getElem_cons_succ, List.setIfInBounds_toArray, List.set_cons_zero, List.set_cons_succ])
      refine wpAnyH_done (by kernel_rfl) ?_ _
      go_wp2
      refine bodyPost_ret (resCf rfl _ _ (w.heap.size + 1) (.int .i64 0) (.slice none 0 0) rfl (by go_simp) (by go_simp)) rfl ?_
      exact ⟨6, by decide, rfl, by repeat (first | exact M9.out.b | refine below_set ?_ (by omega) | refine below_drew1 ?_)⟩
    | cons h t =>
      obtain ⟨ax, e1, hx0⟩ := int_get (Kd.C_below HX.out.2 M9.out.b) rfl (i := 0) (by rw [hst]; simp)
      have hx1 : W9.cell? ax = some (.int .i64 h) := by
        have e : x.2[0]'(by rw [hst]; simp) = h := by simp [hst]
        rw [e] at hx0
        simpa [Addr.add] using hx0
      obtain ⟨n2, hn2⟩ : ∃ n2, n2 = x.2.length := ⟨_, rfl⟩
      have q41' : W9.cell? ⟨w.heap.size, 1, none⟩ = some (.slice (some ax) n2 cx) := by rw [q41, e1, hn2]
      have hp : 0 < n2 := by rw [hn2, hst]; simp
      have hz : ¬ n2 = 0 := by omega
      have hz2 : ((n2 : Int) == 0) = false := by simp; omega
      have hz3 : (0 : Int) < (n2 : Int) := by omega
      have c2 : (h != r.tp) = true := by
        have := HNH.out
        rw [hst] at this
        simpa using this
      clear hst q41 e1 hx0 hn2
      refine wp_region_held_drew (S := (fun W' => W'.cell? ⟨w.heap.size, 0, none⟩ = some (.int .i64 x.1) ∧ W'.cell? ⟨w.heap.size, 1, none⟩ = some (.slice (some ax) n2 cx) ∧ W'.cell? ⟨b9, 0, none⟩ = some (.int .i64 r.fr) ∧ W'.cell? ⟨b9, 1, none⟩ = some (.int .i64 r.tp) ∧ W'.cell? ax = some (.int .i64 h))) (by kernel_rfl) ?_ (fun hHeld => ?_)
      · (try dsimp only); exact ⟨q40, q41', q90, q91, hx1⟩
      refine wpAnyH_take (i := 0) (v := ?_) rfl (by kernel_rfl) (by kernel_rfl) (by kernel_rfl) (fun _ _ _ h => h) (Or.inl ⟨by kernel_rfl, ?_⟩) (by assumption) ?_
      rotate_left 1
      · intro w hSw; (try dsimp only at hSw); go_simp; (try with_reducible rfl)
      (try simp only [Act.put, List.getElem_toArray, List.getElem_cons_zero, List.getElem_cons_succ, List.setIfInBounds_toArray, List.set_cons_zero, List.set_cons_succ])
      refine wpAnyH_take (i := 1) (v := ?_) rfl (by kernel_rfl) (by kernel_rfl) (by kernel_rfl) (fun _ _ _ h => h) (Or.inl ⟨by kernel_rfl, ?_⟩) (by assumption) ?_
      rotate_left 1
      · intro w hSw; (try dsimp only at hSw); go_simp; (try with_reducible rfl)
      (try simp only [Act.put, List.getElem_toArray, List.getElem_cons_zero, List.getElem_cons_succ, List.setIfInBounds_toArray, List.set_cons_zero, List.set_cons_succ])
      refine wpAnyH_take (i := 2) (v := ?_) rfl (by kernel_rfl) (by kernel_rfl) (by kernel_rfl) (fun _ _ _ h => h) (Or.inl ⟨by kernel_rfl, ?_⟩) (by assumption) ?_
      rotate_left 1
      · intro w hSw; (try dsimp only at hSw); go_simp; (try with_reducible rfl)
      (try simp only [Act.put, List.getElem_toArray, List.getElem_cons_zero, List.getElem_cons_succ, List.setIfInBounds_toArray, List.set_cons_zero, List.set_cons_succ])
      refine wpAnyH_take (i := 3) (v := ?_) rfl (by kernel_rfl) (by kernel_rfl) (by kernel_rfl) (fun _ _ _ h => h) (Or.inl ⟨by kernel_rfl, ?_⟩) (by assumption) ?_
      rotate_left 1
      · intro w hSw; (try dsimp only at hSw); go_simp; (try with_reducible rfl)
      (try simp only [Act.put, List.getElem_toArray, List.getElem_cons_zero, List.getElem_cons_succ, List.setIfInBounds_toArray, List.set_cons_zero, List.set_cons_succ])
      refine wpAnyH_take (i := 4) (v := ?_) rfl (by kernel_rfl) (by kernel_rfl) (by kernel_rfl) (fun _ _ _ h => h) (Or.inl ⟨by kernel_rfl, ?_⟩) (by assumption) ?_
      rotate_left 1
      · intro w hSw; (try dsimp only at hSw); go_simp; (try with_reducible rfl)
      (try simp only [Act.put, List.getElem_toArray, List.getElem_cons_zero, List.getElem_cons_succ, List.setIfInBounds_toArray, List.set_cons_zero, List.set_cons_succ])
      refine wpAnyH_take (i := 5) (v := ?_) rfl (by kernel_rfl) (by kernel_rfl) (by kernel_rfl) (fun _ _ _ h => h) (Or.inl ⟨by kernel_rfl, ?_⟩) (by assumption) ?_
      rotate_left 1
      · intro w hSw; (try dsimp only at hSw); go_simp; (try with_reducible rfl)
      (try simp only [Act.put, List.getElem_toArray, List.getElem_cons_zero, List.getElem_cons_succ, List.setIfInBounds_toArray, List.set_cons_zero, List.set_cons_succ])
      refine wpAnyH_take (i := 6) (v := ?_) rfl (by kernel_rfl) (by kernel_rfl) (by kernel_rfl) (fun _ _ _ h => h) (Or.inl ⟨by kernel_rfl, ?_⟩) (by assumption) ?_
      rotate_left 1
      · intro w hSw; (try dsimp only at hSw); go_simp; (try with_reducible rfl)
      (try simp only [Act.put, List.getElem_toArray, List.getElem_cons_zero, List.getElem_cons_succ, List.setIfInBounds_toArray, List.set_cons_zero, List.set_cons_succ])
      refine wpAnyH_take (i := 7) (v := ?_) rfl (by kernel_rfl) (by kernel_rfl) (by kernel_rfl) (fun _ _ _ h => h) (Or.inl ⟨by kernel_rfl, ?_⟩) (by assumption) ?_
      rotate_left 1
      · intro w hSw; (try dsimp only at hSw); go_simp; (try with_reducible rfl)
      (try simp only [Act.put, List.getElem_toArray, List.getElem_cons_zero, List.getElem_cons_succ, List.setIfInBounds_toArray, List.set_cons_zero, List.set_cons_succ])
      refine wpAnyH_take (i := 8) (v := ?_) rfl (by kernel_rfl) (by kernel_rfl) (by kernel_rfl) (fun _ _ _ h => h) (Or.inl ⟨by kernel_rfl, ?_⟩) (by assumption) ?_
      rotate_left 1
      · intro w hSw; (try dsimp only at hSw); go_simp; (try with_reducible rfl)
      (try simp only [Act.put, List.getElem_toArray, List.getElem_cons_zero, List.getElem_cons_succ, List.setIfInBounds_toArray, List.set_cons_zero, List.set_cons_succ])
      refine wpAnyH_take (i := 9) (v := ?_) rfl (by kernel_rfl) (by kernel_rfl) (by kernel_rfl) (fun _ _ _ h => h) (Or.inl ⟨by kernel_rfl, ?_⟩) (by assumption) ?_
      rotate_left 1
      · intro w hSw; (try dsimp only at hSw); go_simp; (try with_reducible rfl)
      (try simp only [Act.put, List.getElem_toArray, List.getElem_cons_zero, List.getElem_cons_succ, List.setIfInBounds_toArray, List.set_cons_zero, List.set_cons_succ])
      refine wpAnyH_take (i := 10) (v := ?_) rfl (by kernel_rfl) (by kernel_rfl) (by kernel_rfl) (fun _ _ _ h => h) (Or.inl ⟨by kernel_rfl, ?_⟩) (by assumption) ?_
      rotate_left 1
      · intro w hSw; (try dsimp only at hSw); go_simp; (try with_reducible rfl)
      (try simp only [Act.put, List.getElem_toArray, List.getElem_cons_zero, List.getElem_cons_succ, List.setIfInBounds_toArray, List.set_cons_zero, List.set_cons_succ])
      refine wpAnyH_take (i := 11) (v := ?_) rfl (by kernel_rfl) (by kernel_rfl) (by kernel_rfl) (fun _ _ _ h => h) (Or.inl ⟨by kernel_rfl, ?_⟩) (by assumption) ?_
      rotate_left 1
      · intro w hSw; (try dsimp only at hSw); go_simp; (try with_reducible rfl)
      (try simp only [Act.put, List.getElem_toArray, List.getElem_cons_zero, List.getElem_cons_succ, List.setIfInBounds_toArray, List.set_cons_zero, List.set_cons_succ])
      refine wpAnyH_take (i := 12) (v := ?_) rfl (by kernel_rfl) (by kernel_rfl) (by kernel_rfl) (fun _ _ _ h => h) (Or.inl ⟨by kernel_rfl, ?_⟩) (by assumption) ?_
      rotate_left 1
      · intro w hSw; (try dsimp only at hSw); go_simp; (try with_reducible rfl)
      (try simp only [Act.put, List.getElem_toArray, List.getElem_cons_zero, List.getElem_cons_succ, List.setIfInBounds_toArray, List.set_cons_zero, List.set_cons_succ])
      refine wpAnyH_take (i := 13) (v := ?_) rfl (by kernel_rfl) (by kernel_rfl) (by kernel_rfl) (fun _ _ _ h => h) (Or.inl ⟨by kernel_rfl, ?_⟩) (by assumption) ?_
      rotate_left 1
      · intro w hSw; (try dsimp only at hSw); go_simp; (try with_reducible rfl)
      (try simp only [Act.put, List.getElem_toArray, List.getElem_cons_zero, List.getElem_cons_succ, List.setIfInBounds_toArray, List.set_cons_zero, List.set_cons_succ])
      refine wpAnyH_take (i := 14) (v := ?_) rfl (by kernel_rfl) (by kernel_rfl) (by kernel_rfl) (fun _ _ _ h => h) (Or.inl ⟨by kernel_rfl, ?_⟩) (by assumption) ?_
      rotate_left 1
      · intro w hSw; (try dsimp only at hSw); go_simp; (try with_reducible rfl)
      (try simp only [Act.put, List.getElem_toArray, List.getElem_cons_zero, List.getElem_cons_succ, List.setIfInBounds_toArray, List.set_cons_zero, List.set_cons_succ])
      refine wpAnyH_take (i := 15) (v := ?_) rfl (by kernel_rfl) (by kernel_rfl) (by kernel_rfl) (fun _ _ _ h => h) (Or.inl ⟨by kernel_rfl, ?_⟩) (by assumption) ?_
      rotate_left 1
      · intro w hSw; (try dsimp only at hSw); go_simp; (try with_reducible rfl)
      (try simp only [Act.put, List.getElem_toArray, List.getElem_cons_zero, List.getElem_cons_succ, List.setIfInBounds_toArray, List.set_cons_zero, List.set_cons_succ])
      refine wpAnyH_take (i := 16) (v := ?_) rfl (by kernel_rfl) (by kernel_rfl) (by kernel_rfl) (fun _ _ _ h => h) (Or.inl ⟨by kernel_rfl, ?_⟩) (by assumption) ?_
      rotate_left 1
      · intro w hSw; (try dsimp only at hSw); go_simp; (try with_reducible rfl)
      (try simp only [Act.put, List.getElem_toArray, List.getElem_cons_zero, List.getElem_cons_succ, List.setIfInBounds_toArray, List.set_cons_zero, List.set_cons_succ])
      refine wpAnyH_take (i := 17) (v := ?_) rfl (by kernel_rfl) (by kernel_rfl) (by kernel_rfl) (fun _ _ _ h => h) (Or.inl ⟨by kernel_rfl, ?_⟩) (by assumption) ?_
      rotate_left 1
      · intro w hSw; (try dsimp only at hSw); go_simp; (try with_reducible rfl)
      (try simp only [Act.put, List.getElem_toArray, List.getElem_cons_zero, List.getElem_cons_succ, List.setIfInBounds_toArray, List.set_cons_zero, List.set_cons_succ])
      refine wpAnyH_take (i := 18) (v := ?_) rfl (by kernel_rfl) (by kernel_rfl) (by kernel_rfl) (fun _ _ _ h => h) (Or.inl ⟨by kernel_rfl, ?_⟩) (by assumption) ?_
      rotate_left 1
      · intro w hSw; (try dsimp only at hSw); go_simp; (try with_reducible rfl)
      (try simp only [Act.put, List.getElem_toArray, List.getElem_cons_zero, List.getElem_cons_succ, List.setIfInBounds_toArray, List.set_cons_zero, List.set_cons_succ])
      refine wpAnyH_take (i := 19) (v := ?_) rfl (by kernel_rfl) (by kernel_rfl) (by kernel_rfl) (fun _ _ _ h => h) (Or.inl ⟨by kernel_rfl, ?_⟩) (by assumption) ?_
      rotate_left 1
      · intro w hSw; (try dsimp only at hSw); go_simp; (try with_reducible rfl)
      (try simp only [Act.put, List.getElem_toArray, List.getElem_cons_zero, List.getElem_cons_succ, List.setIfInBounds_toArray, List.set_cons_zero, List.set_cons_succ])
      refine wpAnyH_done (by kernel_rfl) ?_ _
      go_wp2
      refine bodyPost_ret (resCf rfl _ _ (w.heap.size + 1) (.int .i64 0) (.slice none 0 0) rfl (by go_simp) (by go_simp)) rfl ?_
      exact ⟨6, by decide, rfl, by repeat (first | exact M9.out.b | refine below_set ?_ (by omega) | refine below_drew1 ?_)⟩
end Go.Proofs.Ytampgoendkjkhaa.H

namespace Go.Proofs.Ytampgoendkjkhaa.H
open Go.RowKit Go.Shelf Go.Proofs.YtampgoendkjkhaaW.PrintWords Go.Proofs.YtampgoendkjkhaaW.PrintMore
set_option linter.unusedVariables false
set_option linter.unusedSimpArgs false
theorem own_seti {W : World} {base : Nat} {ok : Nat → Prop} {v : Value} {xs : List Int} {b i : Nat} (h : Kd.R (Kd.int .i64) 3 W base ok v xs) (hb : b < base) (u : Value) : Kd.R (Kd.int .i64) 3 (W.setCell ⟨b, i, none⟩ u) base ok v xs :=
  Kd.R_mono (Kd.R_step (Kd.R_bound h) (fun k hk _ => Below.heap_setCell W ⟨b, i, none⟩ u k (show k ≠ b from by have := hk.2.1; omega))) (fun _ hk => hk.1)
theorem ckd_lens {l : List Psh} {x : Cfg} (h : ckdF l [x] = 0) {r : Psh} (hr : r ∈ l) : r.pt.length ≤ 2 ∧ x.2.length ≤ 20 := by
  unfold ckdF at h
  split at h
  · rename_i hp
    refine ⟨?_, ?_⟩
    · unfold pChk at hp
      split at hp
      · cases hp
      · rename_i h1
        refine Nat.le_of_not_lt fun h2 => h1 (.inr (List.any_eq_true.2 ⟨r, hr, decide_eq_true h2⟩))
    · unfold csChk at h
      split at h
      · rename_i h1
        unfold cfChk at h1
        split at h1
        · cases h1
        · omega
      · rename_i h1; exact absurd h h1
  · rename_i hp; exact absurd h hp
set_option maxHeartbeats 8000000 in
set_option maxRecDepth 100000 in
theorem step_ok (A : Option Addr) (c : Nat) (l : List Psh) (x : Cfg) (X : Option Addr) (cx j : Nat) (r : Psh) (t : List Int) (w : World) (hr : Kd.C kPu w A l.length l) (hx : x.2.length ≤ cx ∧ Kd.C (Kd.int .i64) w X x.2.length x.2) (h : ckdF l [x] = 0) (hj : l[j]? = some r) (h1 : x.1 = r.fr) (h2 : x.2 = r.tp :: t) :
    Calls Try.prog 17 #[.slice A l.length c, .agg #[.int .i64 x.1, .slice X x.2.length cx], .int .i64 (j : Int)] w fun e w' => ∃ (A' : Option Addr) (c' : Nat), e = .returned (.tuple #[.agg #[.int .i64 r.tw, .slice A' (r.pt ++ t).length c'], .int .i64 0]) ∧ (r.pt ++ t).length ≤ c' ∧ Kd.C (Kd.int .i64) w' A' (r.pt ++ t).length (r.pt ++ t) ∧ Below w.heap.size w w' := by
  obtain ⟨ad, A1, c1, e0, hlt, hc1, hC1, k1, k2, k3, k4⟩ := pu_at hr hj
  cases e0
  have HLS := Aside0.mk (ckd_lens h (List.mem_of_getElem? hj))
  have HQ := Aside0.mk h
  have HR := Aside0.mk hr
  have HX := Aside0.mk hx
  have HP := Aside0.mk (And.intro hc1 hC1)
  have HK := Aside0.mk (show w.cell? (ad.add (j * 4)) = some (.int .i64 r.fr) ∧ w.cell? ⟨(ad.add (j * 4)).block, (ad.add (j * 4)).off + 1, none⟩ = some (.int .i64 r.tp) ∧ w.cell? ⟨(ad.add (j * 4)).block, (ad.add (j * 4)).off + 2, none⟩ = some (.int .i64 r.tw) ∧ w.cell? ⟨(ad.add (j * 4)).block, (ad.add (j * 4)).off + 3, none⟩ = some (.slice A1 r.pt.length c1) from ⟨k1, k2, k3, k4⟩)
  have c0 : (x.1 != r.fr) = false := by rw [h1]; simp
  have HST := Aside0.mk h2
  have hbig := hr.2.1
  have hltz : (j : Int) < (l.length : Int) := by omega
  have hltz2 : ¬ (l.length : Int) ≤ (j : Int) := by omega
  clear hr hx h hj h1 h2 k1 k2 k3 k4 hc1 hC1
  go_enter Try.func17, Try.ntmps17; go_upto_region 6 with (first | (go_at_call 52; refine calls_let ?_; intro W2 hW2; have M2 := (show SpM w W2 x X cx from by rw [hW2]; exact ⟨below_alloc (below_alloc (below_alloc (Below.refl _ _) _) _) _, blk_alloc (blk_alloc (blk_new w _) _) _, blk_alloc (blk_newn _ _ _ (by simp)) _⟩); have L2 := lit_cf1 (x := x) (show W2.heap[w.heap.size + 1 + 1]? = some (.cells #[.int .i64 x.1, .slice X x.2.length cx] 35 (0, 0)) from by rw [hW2]; exact blk_newn _ _ _ (by simp)) HX.out.1 (Kd.C_below HX.out.2 M2.b); clear hW2; refine (ckd_calls _ (some ⟨w.heap.size + 1 + 1, 0, none⟩) c 1 l [x] W2 (Kd.C_below HR.out M2.b) L2).mono ?_; rw [HQ.out]; rintro e w3 ⟨rfl, hb3⟩; have M3 := Aside0.mk (M2.below hb3); have q60 : w3.cell? ⟨w.heap.size + 1, 0, none⟩ = some (.int .i64 0) := (blk_cell M3.out.r 0).trans rfl; have q61 : w3.cell? ⟨w.heap.size + 1, 1, none⟩ = some (.slice none 0 0) := (blk_cell M3.out.r 1).trans rfl; have f60 := blk_frozen M3.out.r 0; have f61 := blk_frozen M3.out.r 1; clear M2 L2 hb3) | fail)
  have k1 := pw_cell_below M3.out.b HK.out.1
  have k2 := pw_cell_below M3.out.b HK.out.2.1
  have k3 := pw_cell_below M3.out.b HK.out.2.2.1
  have k4 := pw_cell_below M3.out.b HK.out.2.2.2
  have M9 := Aside0.mk (M3.out.below (below_alloc (Below.refl w3.heap.size w3) (.cells #[.int .i64 r.fr, .int .i64 r.tp, .int .i64 r.tw, .slice A1 r.pt.length c1] 37)))
  have X9 := Aside0.mk (blk_new w3 (.cells #[.int .i64 r.fr, .int .i64 r.tp, .int .i64 r.tw, .slice A1 r.pt.length c1] 37 (0, 0)))
  have ZB := Aside0.mk (show w.heap.size + 1 < w3.heap.size from blk_lt M3.out.r)
  clear q60 q61 f60 f61
  go_wp2
  obtain ⟨b9, hb9⟩ : ∃ b9, b9 = w3.heap.size := ⟨_, rfl⟩
  generalize w3.alloc (.cells #[.int .i64 r.fr, .int .i64 r.tp, .int .i64 r.tw, .slice A1 r.pt.length c1] 37) = W9 at M9 X9 ⊢
  rw [← hb9] at X9 ZB ⊢
  clear k1 k2 k3 k4 hb9
  have q40 : W9.cell? ⟨w.heap.size, 0, none⟩ = some (.int .i64 x.1) := (blk_cell M9.out.c 0).trans rfl; have q41 : W9.cell? ⟨w.heap.size, 1, none⟩ = some (.slice X x.2.length cx) := (blk_cell M9.out.c 1).trans rfl; have q90 : W9.cell? ⟨b9, 0, none⟩ = some (.int .i64 r.fr) := (blk_cell X9.out 0).trans rfl; have q91 : W9.cell? ⟨b9, 1, none⟩ = some (.int .i64 r.tp) := (blk_cell X9.out 1).trans rfl; have q92 : W9.cell? ⟨b9, 2, none⟩ = some (.int .i64 r.tw) := (blk_cell X9.out 2).trans rfl; have q93 : W9.cell? ⟨b9, 3, none⟩ = some (.slice A1 r.pt.length c1) := (blk_cell X9.out 3).trans rfl; have q60 : W9.cell? ⟨w.heap.size + 1, 0, none⟩ = some (.int .i64 0) := (blk_cell M9.out.r 0).trans rfl; have q61 : W9.cell? ⟨w.heap.size + 1, 1, none⟩ = some (.slice none 0 0) := (blk_cell M9.out.r 1).trans rfl; have f60 := blk_frozen M9.out.r 0; have f61 := blk_frozen M9.out.r 1
  obtain ⟨ax, e1, hx0⟩ := int_get (Kd.C_below HX.out.2 M9.out.b) rfl (i := 0) (by rw [HST.out]; simp)
  have hx1 : W9.cell? ax = some (.int .i64 r.tp) := by
    have e : x.2[0]'(by rw [HST.out]; simp) = r.tp := by simp [HST.out]
    rw [e] at hx0
    simpa [Addr.add] using hx0
  obtain ⟨n2, hn2⟩ : ∃ n2, n2 = x.2.length := ⟨_, rfl⟩
  have q41' : W9.cell? ⟨w.heap.size, 1, none⟩ = some (.slice (some ax) n2 cx) := by rw [q41, e1, hn2]
  have hp : 0 < n2 := by rw [hn2, HST.out]; simp
  have hz : ¬ n2 = 0 := by omega
  have hz2 : ((n2 : Int) == 0) = false := by simp; omega
  have hz3 : (0 : Int) < (n2 : Int) := by omega
  have c2 : (r.tp != r.tp) = false := by simp
  have HXC := Aside0.mk (show n2 ≤ cx ∧ Kd.C (Kd.int .i64) w (some ax) n2 x.2 from by rw [hn2, ← e1]; exact HX.out)
  have HN2 := Aside0.mk (show n2 = t.length + 1 from by rw [hn2, HST.out]; rfl)
  clear q41 e1 hx0 hn2
  refine wp_region_held_drew (S := (fun W' => W'.cell? ⟨w.heap.size, 0, none⟩ = some (.int .i64 x.1) ∧ W'.cell? ⟨w.heap.size, 1, none⟩ = some (.slice (some ax) n2 cx) ∧ W'.cell? ⟨b9, 0, none⟩ = some (.int .i64 r.fr) ∧ W'.cell? ⟨b9, 1, none⟩ = some (.int .i64 r.tp) ∧ W'.cell? ax = some (.int .i64 r.tp))) (by kernel_rfl) ?_ (fun hHeld => ?_)
  · (try dsimp only); exact ⟨q40, q41', q90, q91, hx1⟩
  refine wpAnyH_take (i := 0) (v := ?_) rfl (by kernel_rfl) (by kernel_rfl) (by kernel_rfl) (fun _ _ _ h => h) (Or.inl ⟨by kernel_rfl, ?_⟩) (by assumption) ?_
  rotate_left 1
  · intro w hSw; (try dsimp only at hSw); go_simp; (try with_reducible rfl)
  (try simp only [Act.put, List.getElem_toArray, List.getElem_cons_zero, List.getElem_cons_succ, List.setIfInBounds_toArray, List.set_cons_zero, List.set_cons_succ])
  refine wpAnyH_take (i := 1) (v := ?_) rfl (by kernel_rfl) (by kernel_rfl) (by kernel_rfl) (fun _ _ _ h => h) (Or.inl ⟨by kernel_rfl, ?_⟩) (by assumption) ?_
  rotate_left 1
  · intro w hSw; (try dsimp only at hSw); go_simp; (try with_reducible rfl)
  (try simp only [Act.put, List.getElem_toArray, List.getElem_cons_zero, List.getElem_cons_succ, List.setIfInBounds_toArray, List.set_cons_zero, List.set_cons_succ])
  refine wpAnyH_take (i := 2) (v := ?_) rfl (by kernel_rfl) (by kernel_rfl) (by kernel_rfl) (fun _ _ _ h => h) (Or.inl ⟨by kernel_rfl, ?_⟩) (by assumption) ?_
  rotate_left 1
  · intro w hSw; (try dsimp only at hSw); go_simp; (try with_reducible rfl)
  (try simp only [Act.put, List.getElem_toArray, List.getElem_cons_zero, List.getElem_cons_succ, List.setIfInBounds_toArray, List.set_cons_zero, List.set_cons_succ])
  refine wpAnyH_take (i := 3) (v := ?_) rfl (by kernel_rfl) (by kernel_rfl) (by kernel_rfl) (fun _ _ _ h => h) (Or.inl ⟨by kernel_rfl, ?_⟩) (by assumption) ?_
  rotate_left 1
  · intro w hSw; (try dsimp only at hSw); go_simp; (try with_reducible rfl)
  (try simp only [Act.put, List.getElem_toArray, List.getElem_cons_zero, List.getElem_cons_succ, List.setIfInBounds_toArray, List.set_cons_zero, List.set_cons_succ])
  refine wpAnyH_take (i := 4) (v := ?_) rfl (by kernel_rfl) (by kernel_rfl) (by kernel_rfl) (fun _ _ _ h => h) (Or.inl ⟨by kernel_rfl, ?_⟩) (by assumption) ?_
  rotate_left 1
  · intro w hSw; (try dsimp only at hSw); go_simp; (try with_reducible rfl)
  (try simp only [Act.put, List.getElem_toArray, List.getElem_cons_zero, List.getElem_cons_succ, List.setIfInBounds_toArray, List.set_cons_zero, List.set_cons_succ])
  refine wpAnyH_take (i := 5) (v := ?_) rfl (by kernel_rfl) (by kernel_rfl) (by kernel_rfl) (fun _ _ _ h => h) (Or.inl ⟨by kernel_rfl, ?_⟩) (by assumption) ?_
  rotate_left 1
  · intro w hSw; (try dsimp only at hSw); go_simp; (try with_reducible rfl)
  (try simp only [Act.put, List.getElem_toArray, List.getElem_cons_zero, List.getElem_cons_succ, List.setIfInBounds_toArray, List.set_cons_zero, List.set_cons_succ])
  refine wpAnyH_take (i := 6) (v := ?_) rfl (by kernel_rfl) (by kernel_rfl) (by kernel_rfl) (fun _ _ _ h => h) (Or.inl ⟨by kernel_rfl, ?_⟩) (by assumption) ?_
  rotate_left 1
  · intro w hSw; (try dsimp only at hSw); go_simp; (try with_reducible rfl)
  (try simp only [Act.put, List.getElem_toArray, List.getElem_cons_zero, List.getElem_cons_succ, List.setIfInBounds_toArray, List.set_cons_zero, List.set_cons_succ])
  refine wpAnyH_take (i := 7) (v := ?_) rfl (by kernel_rfl) (by kernel_rfl) (by kernel_rfl) (fun _ _ _ h => h) (Or.inl ⟨by kernel_rfl, ?_⟩) (by assumption) ?_
  rotate_left 1
  · intro w hSw; (try dsimp only at hSw); go_simp; (try with_reducible rfl)
  (try simp only [Act.put, List.getElem_toArray, List.getElem_cons_zero, List.getElem_cons_succ, List.setIfInBounds_toArray, List.set_cons_zero, List.set_cons_succ])
  refine wpAnyH_take (i := 8) (v := ?_) rfl (by kernel_rfl) (by kernel_rfl) (by kernel_rfl) (fun _ _ _ h => h) (Or.inl ⟨by kernel_rfl, ?_⟩) (by assumption) ?_
  rotate_left 1
  · intro w hSw; (try dsimp only at hSw); go_simp; (try with_reducible rfl)
  (try simp only [Act.put, List.getElem_toArray, List.getElem_cons_zero, List.getElem_cons_succ, List.setIfInBounds_toArray, List.set_cons_zero, List.set_cons_succ])
  refine wpAnyH_take (i := 9) (v := ?_) rfl (by kernel_rfl) (by kernel_rfl) (by kernel_rfl) (fun _ _ _ h => h) (Or.inl ⟨by kernel_rfl, ?_⟩) (by assumption) ?_
  rotate_left 1
  · intro w hSw; (try dsimp only at hSw); go_simp; (try with_reducible rfl)
  (try simp only [Act.put, List.getElem_toArray, List.getElem_cons_zero, List.getElem_cons_succ, List.setIfInBounds_toArray, List.set_cons_zero, List.set_cons_succ])
  refine wpAnyH_take (i := 10) (v := ?_) rfl (by kernel_rfl) (by kernel_rfl) (by kernel_rfl) (fun _ _ _ h => h) (Or.inl ⟨by kernel_rfl, ?_⟩) (by assumption) ?_
  rotate_left 1
  · intro w hSw; (try dsimp only at hSw); go_simp; (try with_reducible rfl)
  (try simp only [Act.put, List.getElem_toArray, List.getElem_cons_zero, List.getElem_cons_succ, List.setIfInBounds_toArray, List.set_cons_zero, List.set_cons_succ])
  refine wpAnyH_take (i := 11) (v := ?_) rfl (by kernel_rfl) (by kernel_rfl) (by kernel_rfl) (fun _ _ _ h => h) (Or.inl ⟨by kernel_rfl, ?_⟩) (by assumption) ?_
  rotate_left 1
  · intro w hSw; (try dsimp only at hSw); go_simp; (try with_reducible rfl)
  (try simp only [Act.put, List.getElem_toArray, List.getElem_cons_zero, List.getElem_cons_succ, List.setIfInBounds_toArray, List.set_cons_zero, List.set_cons_succ])
  refine wpAnyH_take (i := 12) (v := ?_) rfl (by kernel_rfl) (by kernel_rfl) (by kernel_rfl) (fun _ _ _ h => h) (Or.inl ⟨by kernel_rfl, ?_⟩) (by assumption) ?_
  rotate_left 1
  · intro w hSw; (try dsimp only at hSw); go_simp; (try with_reducible rfl)
  (try simp only [Act.put, List.getElem_toArray, List.getElem_cons_zero, List.getElem_cons_succ, List.setIfInBounds_toArray, List.set_cons_zero, List.set_cons_succ])
  refine wpAnyH_take (i := 13) (v := ?_) rfl (by kernel_rfl) (by kernel_rfl) (by kernel_rfl) (fun _ _ _ h => h) (Or.inl ⟨by kernel_rfl, ?_⟩) (by assumption) ?_
  rotate_left 1
  · intro w hSw; (try dsimp only at hSw); go_simp; (try with_reducible rfl)
  (try simp only [Act.put, List.getElem_toArray, List.getElem_cons_zero, List.getElem_cons_succ, List.setIfInBounds_toArray, List.set_cons_zero, List.set_cons_succ])
  refine wpAnyH_take (i := 14) (v := ?_) rfl (by kernel_rfl) (by kernel_rfl) (by kernel_rfl) (fun _ _ _ h => h) (Or.inl ⟨by kernel_rfl, ?_⟩) (by assumption) ?_
  rotate_left 1
  · intro w hSw; (try dsimp only at hSw); go_simp; (try with_reducible rfl)
  (try simp only [Act.put, List.getElem_toArray, List.getElem_cons_zero, List.getElem_cons_succ, List.setIfInBounds_toArray, List.set_cons_zero, List.set_cons_succ])
  refine wpAnyH_take (i := 15) (v := ?_) rfl (by kernel_rfl) (by kernel_rfl) (by kernel_rfl) (fun _ _ _ h => h) (Or.inl ⟨by kernel_rfl, ?_⟩) (by assumption) ?_
  rotate_left 1
  · intro w hSw; (try dsimp only at hSw); go_simp; (try with_reducible rfl)
  (try simp only [Act.put, List.getElem_toArray, List.getElem_cons_zero, List.getElem_cons_succ, List.setIfInBounds_toArray, List.set_cons_zero, List.set_cons_succ])
  refine wpAnyH_take (i := 16) (v := ?_) rfl (by kernel_rfl) (by kernel_rfl) (by kernel_rfl) (fun _ _ _ h => h) (Or.inl ⟨by kernel_rfl, ?_⟩) (by assumption) ?_
  rotate_left 1
  · intro w hSw; (try dsimp only at hSw); go_simp; (try with_reducible rfl)
  (try simp only [Act.put, List.getElem_toArray, List.getElem_cons_zero, List.getElem_cons_succ, List.setIfInBounds_toArray, List.set_cons_zero, List.set_cons_succ])
  refine wpAnyH_take (i := 17) (v := ?_) rfl (by kernel_rfl) (by kernel_rfl) (by kernel_rfl) (fun _ _ _ h => h) (Or.inl ⟨by kernel_rfl, ?_⟩) (by assumption) ?_
  rotate_left 1
  · intro w hSw; (try dsimp only at hSw); go_simp; (try with_reducible rfl)
  (try simp only [Act.put, List.getElem_toArray, List.getElem_cons_zero, List.getElem_cons_succ, List.setIfInBounds_toArray, List.set_cons_zero, List.set_cons_succ])
  refine wpAnyH_take (i := 18) (v := ?_) rfl (by kernel_rfl) (by kernel_rfl) (by kernel_rfl) (fun _ _ _ h => h) (Or.inl ⟨by kernel_rfl, ?_⟩) (by assumption) ?_
  rotate_left 1
  · intro w hSw; (try dsimp only at hSw); go_simp; (try with_reducible rfl)
  (try simp only [Act.put, List.getElem_toArray, List.getElem_cons_zero, List.getElem_cons_succ, List.setIfInBounds_toArray, List.set_cons_zero, List.set_cons_succ])
  refine wpAnyH_take (i := 19) (v := ?_) rfl (by kernel_rfl) (by kernel_rfl) (by kernel_rfl) (fun _ _ _ h => h) (Or.inl ⟨by kernel_rfl, ?_⟩) (by assumption) ?_
  rotate_left 1
  · intro w hSw; (try dsimp only at hSw); go_simp; (try with_reducible rfl)
  (try simp only [Act.put, List.getElem_toArray, List.getElem_cons_zero, List.getElem_cons_succ, List.setIfInBounds_toArray, List.set_cons_zero, List.set_cons_succ])
  refine wpAnyH_done (by kernel_rfl) ?_ _
  go_wp2
  obtain ⟨A5, m5, c5, hm5, hmc5, hcut, hC5⟩ := cutA (some ax) cx n2 1 hp HXC.out.1
  have hcut' : ∀ W, (Instr.slice 22 (.slice (some ax) n2 cx) (some (.int .i64 1)) none none).run Try.prog W = .ok (.slice A5 m5 c5) W := hcut
  have H5 := Aside0.mk (show m5 = t.length ∧ ∀ W, Below w.heap.size w W → Kd.C (Kd.int .i64) W A5 m5 t from ⟨by have := HN2.out; omega, fun W hb => by have := hC5 W x.2 (Kd.C_below HXC.out.2 hb); rw [HST.out] at this; simpa using this⟩)
  clear hm5 hmc5 hC5 hcut
  have HMS := Aside0.mk (show ∀ W', Below W9.heap.size W9 W' → (W'.cell? ⟨w.heap.size, 1, none⟩ = some (.slice (some ax) n2 cx) ∧ W'.cell? ⟨b9, 2, none⟩ = some (.int .i64 r.tw) ∧ W'.cell? ⟨b9, 3, none⟩ = some (.slice A1 r.pt.length c1)) from fun W' hb => ⟨pw_cell_below hb q41', pw_cell_below hb q92, pw_cell_below hb q93⟩)
  have zb : w.heap.size + 1 < b9 := ZB.out
  refine wp_region_held_drew (S := (fun W' => W'.cell? ⟨w.heap.size, 1, none⟩ = some (.slice (some ax) n2 cx) ∧ W'.cell? ⟨b9, 2, none⟩ = some (.int .i64 r.tw) ∧ W'.cell? ⟨b9, 3, none⟩ = some (.slice A1 r.pt.length c1))) (by kernel_rfl) ?_ (fun hHeld => ?_)
  · (try dsimp only); (first | (refine HMS.out _ ?_; (repeat (first | exact BB9.out | exact BN.out | exact Below.refl _ _ | apply below_drew1)); done) | exact ⟨by go_simp, by go_simp, by go_simp⟩ | fail)
  refine wpAnyH_take (i := 0) (v := ?_) rfl (by kernel_rfl) (by kernel_rfl) (by kernel_rfl) (fun _ _ _ h => h) (Or.inl ⟨by kernel_rfl, ?_⟩) (by assumption) ?_
  rotate_left 1
  · intro w hSw; (try dsimp only at hSw); go_simp; (try with_reducible rfl)
  (try simp only [Act.put, List.getElem_toArray, List.getElem_cons_zero, List.getElem_cons_succ, List.setIfInBounds_toArray, List.set_cons_zero, List.set_cons_succ])
  refine wpAnyH_take (i := 1) (v := ?_) rfl (by kernel_rfl) (by kernel_rfl) (by kernel_rfl) (fun _ _ _ h => h) (Or.inl ⟨by kernel_rfl, ?_⟩) (by assumption) ?_
  rotate_left 1
  · intro w hSw; (try dsimp only at hSw); go_simp; (try with_reducible rfl)
  (try simp only [Act.put, List.getElem_toArray, List.getElem_cons_zero, List.getElem_cons_succ, List.setIfInBounds_toArray, List.set_cons_zero, List.set_cons_succ])
  refine wpAnyH_take (i := 2) (v := ?_) rfl (by kernel_rfl) (by kernel_rfl) (by kernel_rfl) (fun _ _ _ h => h) (Or.inl ⟨by kernel_rfl, ?_⟩) (by assumption) ?_
  rotate_left 1
  · intro w hSw; (try dsimp only at hSw); go_simp; (try with_reducible rfl)
  (try simp only [Act.put, List.getElem_toArray, List.getElem_cons_zero, List.getElem_cons_succ, List.setIfInBounds_toArray, List.set_cons_zero, List.set_cons_succ])
  refine wpAnyH_take (i := 3) (v := ?_) rfl (by kernel_rfl) (by kernel_rfl) (by kernel_rfl) (fun _ _ _ h => h) (Or.inl ⟨by kernel_rfl, ?_⟩) (by assumption) ?_
  rotate_left 1
  · intro w hSw; (try dsimp only at hSw); go_simp; (try with_reducible rfl)
  (try simp only [Act.put, List.getElem_toArray, List.getElem_cons_zero, List.getElem_cons_succ, List.setIfInBounds_toArray, List.set_cons_zero, List.set_cons_succ])
  refine wpAnyH_take (i := 5) (v := ?_) rfl (by kernel_rfl) (by kernel_rfl) (by kernel_rfl) (fun _ _ _ h => h) (Or.inl ⟨by kernel_rfl, ?_⟩) (by assumption) ?_
  rotate_left 1
  · intro w hSw; (try dsimp only at hSw); go_simp; (try with_reducible rfl)
  (try simp only [Act.put, List.getElem_toArray, List.getElem_cons_zero, List.getElem_cons_succ, List.setIfInBounds_toArray, List.set_cons_zero, List.set_cons_succ])
  refine wpAnyH_take (i := 6) (v := ?_) rfl (by kernel_rfl) (by kernel_rfl) (by kernel_rfl) (fun _ _ _ h => h) (Or.inl ⟨by kernel_rfl, ?_⟩) (by assumption) ?_
  rotate_left 1
  · intro w hSw; (try dsimp only at hSw); go_simp; (try with_reducible rfl)
  (try simp only [Act.put, List.getElem_toArray, List.getElem_cons_zero, List.getElem_cons_succ, List.setIfInBounds_toArray, List.set_cons_zero, List.set_cons_succ])
  refine wpAnyH_take (i := 7) (v := ?_) rfl (by kernel_rfl) (by kernel_rfl) (by kernel_rfl) (fun _ _ _ h => h) (Or.inl ⟨by kernel_rfl, ?_⟩) (by assumption) ?_
  rotate_left 1
  · intro w hSw; (try dsimp only at hSw); go_simp; (try with_reducible rfl)
  (try simp only [Act.put, List.getElem_toArray, List.getElem_cons_zero, List.getElem_cons_succ, List.setIfInBounds_toArray, List.set_cons_zero, List.set_cons_succ])
  refine wpAnyH_ready (rs := [4]) (by kernel_rfl) (by simp) ?_
  refine AllReadyH.cons rfl (fun K hK => ?_) AllReadyH.nil
  rw [if_pos (by kernel_rfl)]
  go_simp
  (go_at_call 53; refine calls_let ?_; intro Wc hWc; have BC := Aside0.mk (show Below W9.heap.size W9 Wc from by rw [hWc]; repeat (first | exact Below.refl _ _ | apply below_drew1)); clear hWc; refine (clone_at A1 r.pt.length c1 r.pt Wc rfl (Kd.C_below HP.out.2 (below_step M9.out.b BC.out)) HP.out.1 (by have := HLS.out.1; omega)).mono ?_; rintro e wn ⟨v4, rfl, ho, hb⟩; obtain ⟨A4, c4, rfl⟩ := Kd.R_slice ho; have OC := Aside0.mk (Kd.R_lower ho BC.out.size); have BN := Aside0.mk (below_step BC.out hb); clear ho hb BC)
  (try go_simp)
  refine hK.out _ _ ?_ (fun hHeld => ?_)
  · (try dsimp only); (first | (refine HMS.out _ ?_; (repeat (first | exact BB9.out | exact BN.out | exact Below.refl _ _ | apply below_drew1)); done) | exact ⟨by go_simp, by go_simp, by go_simp⟩ | fail)
  clear hK K
  (try simp only [Act.put, List.getElem_toArray, List.getElem_cons_zero, List.getElem_cons_succ, List.setIfInBounds_toArray, List.set_cons_zero, List.set_cons_succ])
  refine wpAnyH_ready (rs := [8]) (by kernel_rfl) (by simp) ?_
  refine AllReadyH.cons rfl (fun K hK => ?_) AllReadyH.nil
  (refine' Kd.R_append_rows_step (Kd.int .i64) (w0 := W9) W9.heap.size (by rfl) _ _ 22 3 (.int .i64 0) 8 rfl Try.underlying22 info_i3 rfl (by decide) (by decide) (.slice A4 r.pt.length c4) r.pt t A5 m5 c5 (fun _ => True) (fun _ => False) (by rfl) (by rfl) ?aO ?aC (fun _ _ h => h) (fun _ h => h.elim) (fun _ _ => trivial) ?aB ?aS ?aL ?_; (case aO => exact Kd.R_below OC.out (by repeat (first | exact Below.refl _ _ | apply below_drew1))); (case aC => exact H5.out.2 _ (below_step M9.out.b (by repeat (first | exact BN.out | apply below_drew1)))); (case aB => repeat (first | exact BN.out | apply below_drew1)); (case aS => exact (show Below W9.heap.size W9 _ from by repeat (first | exact BN.out | apply below_drew1)).size); (case aL => have := HLS.out; have := H5.out.1; have := HN2.out; have := HST.out; have := congrArg List.length HST.out; simp at this; omega); intro v9 w9 hown hb9 hg9 hat9; obtain ⟨A9, c9, ev9⟩ := Kd.R_slice hown; subst ev9; have O9 := Aside0.mk hown; have BB9 := Aside0.mk hb9; have M10 := Aside0.mk (M9.out.below hb9); have g0 : w9.cell? ⟨w.heap.size + 1, 0, none⟩ = some (.int .i64 0) := (blk_cell M10.out.r 0).trans rfl; have g1 : w9.cell? ⟨w.heap.size + 1, 1, none⟩ = some (.slice none 0 0) := (blk_cell M10.out.r 1).trans rfl; have fr0 := blk_frozen M10.out.r 0; have fr1 := blk_frozen M10.out.r 1; have s1 := (HMS.out w9 hb9).1; have s2 := (HMS.out w9 hb9).2.1; have s3 := (HMS.out w9 hb9).2.2; clear hown hb9 hg9 hat9)
  (try go_simp)
  refine hK.out _ _ ?_ (fun hHeld => ?_)
  · (try dsimp only); (first | (refine HMS.out _ ?_; (repeat (first | exact BB9.out | exact BN.out | exact Below.refl _ _ | apply below_drew1)); done) | exact ⟨by go_simp, by go_simp, by go_simp⟩ | fail)
  clear hK K
  (try simp only [Act.put, List.getElem_toArray, List.getElem_cons_zero, List.getElem_cons_succ, List.setIfInBounds_toArray, List.set_cons_zero, List.set_cons_succ])
  refine wpAnyH_take (i := 9) (v := ?_) rfl (by kernel_rfl) (by kernel_rfl) (by kernel_rfl) (fun _ _ _ h => h) (Or.inl ⟨by kernel_rfl, ?_⟩) (by assumption) ?_
  rotate_left 1
  · intro w hSw; (try dsimp only at hSw); go_simp; (try with_reducible rfl)
  (try simp only [Act.put, List.getElem_toArray, List.getElem_cons_zero, List.getElem_cons_succ, List.setIfInBounds_toArray, List.set_cons_zero, List.set_cons_succ])
  refine wpAnyH_ready (rs := [10]) (by kernel_rfl) (by simp) ?_
  refine AllReadyH.cons rfl (fun K hK => ?_) AllReadyH.nil
  rw [if_pos (by kernel_rfl)]
  go_simp
  (try go_simp)
  refine hK.out _ _ ?_ (fun hHeld => ?_)
  · (try dsimp only); (first | (refine HMS.out _ ?_; (repeat (first | exact BB9.out | exact BN.out | exact Below.refl _ _ | apply below_drew1)); done) | exact ⟨by go_simp, by go_simp, by go_simp⟩ | fail)
  clear hK K
  (try simp only [Act.put, List.getElem_toArray, List.getElem_cons_zero, List.getElem_cons_succ, List.setIfInBounds_toArray, List.set_cons_zero, List.set_cons_succ])
  refine wpAnyH_take (i := 11) (v := ?_) rfl (by kernel_rfl) (by kernel_rfl) (by kernel_rfl) (fun _ _ _ h => h) (Or.inl ⟨by kernel_rfl, ?_⟩) (by assumption) ?_
  rotate_left 1
  · intro w hSw; (try dsimp only at hSw); go_simp; (try with_reducible rfl)
  (try simp only [Act.put, List.getElem_toArray, List.getElem_cons_zero, List.getElem_cons_succ, List.setIfInBounds_toArray, List.set_cons_zero, List.set_cons_succ])
  refine wpAnyH_done (by kernel_rfl) ?_ _
  go_wp2
  refine bodyPost_ret (resCf rfl _ _ (w.heap.size + 1) (.int .i64 r.tw) (.slice A9 (r.pt ++ t).length c9) rfl (by go_simp) (by go_simp)) rfl ?_
  have hz9 : w.heap.size + 1 < W9.heap.size := blk_lt M9.out.r
  have O10 := Kd.R_reads' (own_seti (i := 1) (own_seti (i := 0) O9.out hz9 (.int .i64 r.tw)) hz9 (.slice A9 (r.pt.length + t.length) c9))
  exact ⟨A9, c9, rfl, O10.2.1, (by first | exact O10.2.2 | exact Kd.C_below O10.2.2 (below_drew1 (Below.refl _ _)) | (rw [List.length_append] at O10; exact O10.2.2)), by repeat (first | exact M10.out.b | refine below_set ?_ (by omega) | refine below_drew1 ?_)⟩
end Go.Proofs.Ytampgoendkjkhaa.H
