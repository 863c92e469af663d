/- alter.Det's closures. -/
import Derived.Test.YtjabncedfjjbjaaAlB
import Derived.Test.YtjabncedfjjbjaaSma
namespace Go.Proofs.Ytjabncedfjjbjaa.H
open Go.RowKit Go.Shelf Go.Proofs.YtjabncedfjjbjaaW.PrintWords
set_option linter.unusedVariables false
set_option linter.unusedSimpArgs false
def alN (nx : List (List (List (List Int)))) (g a : Nat) : Nat := bN (fun S => g.testBit (aheadN nx a S)) 16
def alMk (e : Nat) (g : Int) : Int := if g.toNat.testBit e then 1 else 0
theorem alD2_calls (g e : Nat) (B : Nat) (w : World) (hc : w.cell? ⟨B, 0, none⟩ = some (.int .i64 (e : Int))) (hg : g < 65536) (he : e < 16) :
    Calls Try.prog 77 #[.int .i64 (g : Int), .pointer (some ⟨B, 0, none⟩)] w fun e' w' => e' = .returned (.int .i64 (alMk e g)) ∧ w = w' := by
  have HE := Aside0.mk (bits_test g e (by omega))
  go_enter Try.func77, Try.ntmps77
  go_wp2
  go_ret
  exact ⟨by unfold alMk; rw [Int.toNat_natCast, ← HE.out]; rfl, rfl⟩
theorem aheadN_lt {L st : Nat} {nx : List (List (List (List Int)))} {ms : List Int} (h : AlOk L st nx ms) (a s : Nat) : aheadN nx a s < 16 := bN_small _ h.n4
set_option maxHeartbeats 1000000 in
theorem alD1_calls (L st : Nat) (A2 A3 : Option Addr) (c2 c3 : Nat) (nx : List (List (List (List Int)))) (ms : List Int) (g a : Nat) (B : Nat) (w : World) (hr2 : Kd.C (Kd.slice 42 (Kd.slice 22 (Kd.slice 3 (Kd.int .i64)))) w A2 nx.length nx) (hok : AlOk L st nx ms)
    (hx : w.heap[B]? = some (.cells #[.int .i64 (L : Int), .int .i64 (st : Int), .slice A2 nx.length c2, .slice A3 ms.length c3] 77 (0, 0))) (hg : g < 65536) (ha : a < L) :
    Calls Try.prog 75 #[.int .i64 (g : Int), .int .i64 (a : Int), .pointer (some ⟨B, 0, none⟩)] w fun e w' => e = .returned (.int .i64 ((alN nx g a : Nat) : Int)) ∧ Below w.heap.size w w' := by
  have HR := Aside0.mk hr2
  have HOK := Aside0.mk hok
  have HX := Aside0.mk hx
  clear hr2 hok hx
  go_enter Try.func75, Try.ntmps75
  go_wp2
  go_loopg [6, 8] 16 (fun gg s6 s8 wr => ∃ i : Nat, i ≤ 16 ∧ 16 - i ≤ gg ∧ s8 = .int .i64 (i : Int) ∧ s6 = .int .i64 ((bN (fun S => g.testBit (aheadN nx a S)) i : Nat) : Int) ∧ Aside0 (Below w.heap.size w wr))
  case atStart => exact ⟨0, Nat.zero_le _, by omega, rfl, rfl, ⟨Below.refl _ _⟩⟩
  case round =>
    obtain ⟨i, hi, hgg, rfl, rfl, BB⟩ := hrel
    by_cases hlt : i < 16
    · have hltz : (i : Int) < 16 := by omega
      have BX := Aside0.mk (blk_below HX.out BB.out)
      have k0 : wr.cell? ⟨B, 0, none⟩ = some (.int .i64 (L : Int)) := (blk_cell BX.out 0).trans rfl
      have k1 : wr.cell? ⟨B, 1, none⟩ = some (.int .i64 (st : Int)) := (blk_cell BX.out 1).trans rfl
      have k2 : wr.cell? ⟨B, 2, none⟩ = some (.slice A2 nx.length c2) := (blk_cell BX.out 2).trans rfl
      have k3 : wr.cell? ⟨B, 3, none⟩ = some (.slice A3 ms.length c3) := (blk_cell BX.out 3).trans rfl
      have hl := aheadN_lt HOK.out a i
      have hcall := Aside0.mk (ahead_calls L st A2 A3 c2 c3 nx ms i a wr (Kd.C_below HR.out BB.out) HOK.out hlt ha)
      obtain ⟨t, ht⟩ : ∃ t, aheadN nx a i = t := ⟨_, rfl⟩
      rw [ht] at hcall hl
      cases hb : g.testBit t with
      | true =>
        have hq : (bits .and .i64 ((g : Int) / 2 ^ t) 1 == 1) = true := by rw [bits_test1 g t (by omega), hb]
        have HE := Aside0.mk (bN_or' (fun S => g.testBit (aheadN nx a S)) i (by omega) (by rw [ht, hb]))
        clear hb
        go_wp2_with (go_at_call 76; refine hcall.out.mono ?_; rintro e w6 ⟨rfl, hb6⟩; have B6 := Aside0.mk (below_step BB.out hb6); clear hb6)
        go_roundg (16 - (i + 1))
        case measure => omega
        case rel => exact ⟨i + 1, by omega, by omega, by go_num, by rw [← HE.out], B6⟩
      | false =>
        have hq : (bits .and .i64 ((g : Int) / 2 ^ t) 1 == 1) = false := by rw [bits_test1 g t (by omega), hb]
        have HE := Aside0.mk (bN_not (fun S => g.testBit (aheadN nx a S)) i (by rw [ht, hb]))
        clear hb
        go_wp2_with (go_at_call 76; refine hcall.out.mono ?_; rintro e w6 ⟨rfl, hb6⟩; have B6 := Aside0.mk (below_step BB.out hb6); clear hb6)
        go_roundg (16 - (i + 1))
        case measure => omega
        case rel => exact ⟨i + 1, by omega, by omega, by go_num, by rw [← HE.out], B6⟩
    · have hie : i = 16 := by omega
      subst hie
      go_wp2
      go_ret
      exact ⟨rfl, BB.out⟩
end Go.Proofs.Ytjabncedfjjbjaa.H
