/- Hand-proved: slices.Grow at nil, slices.Concat at ints. -/
import Derived.Test.YtampgoendkjkhaaHb
import Derived.Test.YtampgoendkjkhaaWZeros
import Derived.Deep.LoopGhost
namespace Go.Proofs.Ytampgoendkjkhaa.H
open Go.RowKit Go.Shelf Go.Proofs.YtampgoendkjkhaaW.PrintWords
set_option linter.unusedVariables false
set_option linter.unusedSimpArgs false

theorem cat_info3 : (Try.prog.info? 3).map (fun i => (i.zero, i.size, i.bytes)) = some (some (.int .i64 0), 1, 8) := by kernel_rfl
theorem grow_calls (n : Int) (h0 : 0 ≤ n) (h1 : n < 17592186044416) (w : World) :
    Calls Try.prog 131 #[.slice none 0 0, .int .i64 n] w fun e w' => ∃ v : Value, e = .returned v ∧ Kd.R (Kd.int .i64) 3 w' w.heap.size (fun _ => True) v [] ∧ Below w.heap.size w w' := by
  have hw : IntKind.i64.wrap n = n := by rw [IntKind.wrap_i64]; omega
  have hn : ¬ n < 0 := by omega
  by_cases hz : 0 < n
  · have HL := Aside0.mk h1
    clear h1
    go_enter Try.func131, Try.ntmps131
    go_wp2_with (
      at_builtin
      refine Kd.R_append_zeros (Kd.int .i64) (w0 := w) w.heap.size rfl (.tmp 20) (.tmp 21) 22 3 3 (.int .i64 0) 8 rfl Try.underlying22 Try.underlying3 cat_info3 rfl (by decide) (by omega) (.slice none 0 0) [] (0 : Int) n (fun _ => True) rfl rfl rfl (fun _ _ => trivial) (Kd.R_nil _ _ _ _ _) h0 (Below.refl _ _) (Nat.le_refl _) (by have := HL.out; simp; omega) ?_
      intro v1 w1 hown hb hg hat
      obtain ⟨A1, c1, rfl⟩ := Kd.R_slice hown
      have HO := Aside0.mk hown
      have HB := Aside0.mk hb
      have hc := Aside0.mk (Kd.R_reads' hown).2.1
      have hlen : (([] : List Int) ++ List.replicate n.toNat (0 : Int)).length = n.toNat := by simp
      have hcc : (([] : List Int) ++ List.replicate n.toNat (0 : Int)).length ≤ c1 := (Kd.R_reads' hown).2.1
      clear hown hb hg hat)
    go_ret
    exact ⟨_, rfl, by simpa using Kd.R_take HO.out (m := 0) (Nat.zero_le _), HB.out⟩
  · obtain rfl : n = 0 := by omega
    go_enter Try.func131, Try.ntmps131
    go_wp2
    go_ret
    exact ⟨_, rfl, Kd.R_nil _ _ _ _ _, Below.refl _ _⟩

/-! ### Concat -/
theorem take_flat {l : List (List Int)} {k : Nat} (h : k < l.length) : (l.take (k + 1)).flatten = (l.take k).flatten ++ l[k] := by
  rw [List.take_add_one, List.flatten_append]; simp [h]
theorem take_flat_le (l : List (List Int)) (k : Nat) : (l.take k).flatten.length ≤ l.flatten.length := by
  have := congrArg (fun x => (List.flatten x).length) (List.take_append_drop k l)
  simp only [List.flatten_append, List.length_append] at this
  omega
def flen (l : List (List Int)) : Nat := l.flatten.length
def slices_Concat.f (l0 : List (List Int)) : Option (List Int) := if l0.flatten.length < 17592186044416 then some l0.flatten else none
set_option maxHeartbeats 2000000 in
theorem slices_Concat.calls (A0 : Option Addr) (c0 : Nat) (l0 : List (List Int)) (r : List Int) (w : World) (hr0 : Kd.C (Kd.slice 3 (Kd.int .i64)) w A0 l0.length l0) (hc0 : l0.length ≤ c0) (h : slices_Concat.f l0 = some r) :
    Calls Try.prog 72 #[.slice A0 l0.length c0] w fun e w' => ∃ v0_ : Value, e = .returned (v0_) ∧ Kd.R (Kd.int .i64) 3 w' w.heap.size (fun _ => True) v0_ r ∧ Below w.heap.size w w' := by
  unfold slices_Concat.f at h
  by_cases hl : l0.flatten.length < 17592186044416
  · rw [if_pos hl] at h
    obtain rfl := Option.some.inj h
    have hbig : l0.length ≤ 9223372036854775807 := hr0.2.1
    have HR := Aside0.mk hr0
    have HL := Aside0.mk (show flen l0 < 17592186044416 from hl)
    clear hr0 h hl
    go_enter Try.func72, Try.ntmps72
    go_wp2
    go_loopg [3, 5, 11] l0.length (fun gg s3 _ s11 wr => ∃ kk : Nat, kk ≤ l0.length ∧ l0.length - kk ≤ gg ∧ s11 = .int .i64 kk ∧ s3 = .int .i64 (flen (l0.take kk) : Nat) ∧ Aside0 (Below w.heap.size w wr))
    case atStart => exact ⟨0, Nat.zero_le _, by omega, rfl, rfl, ⟨Below.refl _ _⟩⟩
    case round =>
      obtain ⟨kk, hkk, hg, rfl, rfl, BW⟩ := hrel
      by_cases hlt : kk < l0.length
      · have hltz : (kk : Int) < (l0.length : Int) := by omega
        obtain ⟨ad, ec, e0, _, ⟨A1, c1, rfl, hle, hrow⟩, hc0⟩ := Kd.C_get HR.out [] kk (by omega) hltz
        cases e0
        have hx : l0.getD ((kk : Int).toNat) [] = l0[kk] := by simp [List.getD_eq_getElem?_getD, hlt]
        rw [hx] at hle hrow hc0
        clear hx
        have hc1 := pw_cell_below (BW.out) (hc0 0 _ rfl)
        clear hc0
        replace hc1 : wr.cell? (ad.add kk) = some (.slice A1 l0[kk].length c1) := by simpa [Kd.slice] using hc1
        have hsum : flen (l0.take (kk + 1)) = flen (l0.take kk) + l0[kk].length := by unfold flen; rw [take_flat hlt, List.length_append]
        have hS : ∃ S : Nat, S = flen (l0.take (kk + 1)) := ⟨_, rfl⟩
        obtain ⟨S, hS⟩ := hS
        have hlS : S < 17592186044416 := by have := HL.out; have := take_flat_le l0 (kk + 1); unfold flen at *; omega
        have hw : IntKind.i64.wrap ((flen (l0.take kk) : Nat) + (l0[kk].length : Nat)) = (S : Int) := by rw [IntKind.wrap_i64]; omega
        have hS' := Aside0.mk hS
        have hneg : ¬ ((S : Int) < 0) := by omega
        clear hsum hS hrow hle
        generalize flen (l0.take kk) = T at hw ⊢
        generalize l0[kk].length = M at hw hc1
        go_wp2
        go_roundg (l0.length - (kk + 1))
        case measure => omega
        case rel => exact ⟨kk + 1, by omega, by omega, by go_num, by rw [← hS'.out], ⟨BW.out⟩⟩
      · have hltz : ¬ (kk : Int) < (l0.length : Int) := by omega
        have hall : l0.take kk = l0 := List.take_of_length_le (by omega)
        rw [hall]
        generalize hT : flen l0 = T at HL ⊢
        have HT := Aside0.mk hT
        clear hT hall
        go_wp2_with (
          go_at_call 131
          refine (grow_calls _ (by omega) (by have := HL.out; omega) _).mono ?_
          rintro e w1 ⟨v, rfl, ho, hb⟩
          have HO := Aside0.mk (Kd.R_lower ho BW.out.size)
          have HB1 := Aside0.mk (below_step BW.out hb)
          clear ho hb)
        go_loopg [6, 8, 27] l0.length (fun gg s6 _ s27 ws => ∃ jj : Nat, jj ≤ l0.length ∧ l0.length - jj ≤ gg ∧ s27 = .int .i64 jj ∧ Aside0 (Kd.R (Kd.int .i64) 3 ws w.heap.size (fun _ => True) s6 (l0.take jj).flatten) ∧ Aside0 (Below w.heap.size w ws))
        case atStart => exact ⟨0, Nat.zero_le _, by omega, rfl, ⟨by simpa using HO.out⟩, ⟨HB1.out⟩⟩
        case round =>
          obtain ⟨jj, hjj, hg2, rfl, OW, BS⟩ := hrel
          by_cases hlt2 : jj < l0.length
          · have hltz2 : (jj : Int) < (l0.length : Int) := by omega
            obtain ⟨ad, ec, e0, _, ⟨A1, c1, rfl, hle, hrow⟩, hc0⟩ := Kd.C_get HR.out [] jj (by omega) hltz2
            cases e0
            have hx : l0.getD ((jj : Int).toNat) [] = l0[jj] := by simp [List.getD_eq_getElem?_getD, hlt2]
            rw [hx] at hle hrow hc0
            clear hx
            have hc1 := pw_cell_below (BS.out) (hc0 0 _ rfl)
            clear hc0
            replace hc1 : wr.cell? (ad.add jj) = some (.slice A1 l0[jj].length c1) := by simpa [Kd.slice] using hc1
            have HX := Aside0.mk (Kd.C_below hrow BS.out)
            have HS := Aside0.mk (show (l0.take jj).flatten ++ l0[jj] = (l0.take (jj + 1)).flatten from (take_flat hlt2).symm)
            have hlS := Aside0.mk (show (l0.take jj).flatten.length + l0[jj].length < 17592186044416 by have := HL.out; have := HT.out; have h3 := take_flat_le l0 (jj + 1); rw [take_flat hlt2, List.length_append] at h3; unfold flen at *; omega)
            clear hrow hle
            generalize l0[jj] = row at hc1 HX HS hlS
            generalize (l0.take jj).flatten = pre at OW HS hlS
            go_wp2_with (
              at_builtin
              refine Kd.R_append_row (w0 := w) (Value.int .i64) 0 w.heap.size rfl _ _ 22 3 (.int .i64 0) 8 rfl Try.underlying22 cat_info3 rfl (by decide) _ pre row A1 row.length c1 (fun _ => True) rfl rfl (fun _ _ => trivial) OW.out HX.out BS.out BS.out.size (by have := hlS.out; omega) ?_
              intro v1 w2 hown hb hgr hat
              have HO2 := Aside0.mk hown
              have HB2 := Aside0.mk hb
              clear hown hb hgr hat)
            go_roundg (l0.length - (jj + 1))
            case measure => omega
            case rel => exact ⟨jj + 1, by omega, by omega, by go_num, ⟨by rw [← HS.out]; exact HO2.out⟩, ⟨HB2.out⟩⟩
          · have hltz2 : ¬ (jj : Int) < (l0.length : Int) := by omega
            have hall2 : l0.take jj = l0 := List.take_of_length_le (by omega)
            rw [hall2] at OW
            go_wp2
            go_ret
            exact ⟨_, rfl, OW.out, BS.out⟩
  · rw [if_neg hl] at h; cases h
end Go.Proofs.Ytampgoendkjkhaa.H
