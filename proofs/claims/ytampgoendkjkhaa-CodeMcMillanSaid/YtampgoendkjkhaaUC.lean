/- Several texts of this claim in one. -/
import Derived.Test.YtampgoendkjkhaaUB
import Derived.Test.YtampgoendkjkhaaUA
namespace Go.Proofs.Ytampgoendkjkhaa.H
open Go.RowKit Go.Maps Go.Shelf Go.Proofs.YtampgoendkjkhaaW.PrintWords Go.Proofs.YtampgoendkjkhaaW.PrintMore Go.Proofs.Ytampgoendkjkhaa.DtM Go.Proofs.Ytampgoendkjkhaa.LyM
set_option linter.unusedVariables false
set_option linter.unusedSimpArgs false
theorem rowAt_lit {W : World} {b base m : Nat} {x : Int} (h : W.heap[b]? = some (.cells #[.int .i64 x] 3 (0, 0))) (hb : base ≤ b) (hm : 1 ≤ m) : RowAt W base m (some ⟨b, 0, none⟩) 1 1 :=
  ⟨b, [x], rfl, ⟨[], by simpa [nums] using h, rfl, by unfold maxLen; omega⟩, rfl, hm, hb⟩
def UnqPost (L : Int) (l : List (List Int)) (w : World) (e : Ending) (w' : World) : Prop := ∃ (va vb : Value) (u : Bool), e = .returned (.tuple #[va, vb, .bool u, .int .i64 (cChk L l)]) ∧ (cChk L l = 0 → u = true → ∃ al, Fst l al l.length 0 ∧ Snd l al al.length 0 ∧ NoE al al.length) ∧ Below w.heap.size w w'
set_option maxHeartbeats 16000000 in
set_option maxRecDepth 100000 in
theorem unq_calls (L : Int) (A : Option Addr) (c : Nat) (l : List (List Int)) (w : World) (hr : Kd.C (Kd.slice 3 (Kd.int .i64)) w A l.length l) :
    Calls Try.prog 43 #[.int .i64 L, .slice A l.length c] w (UnqPost L l w) := by
  have HR := Aside0.mk hr
  have HCK := Aside0.mk (ckc_calls L A c l w hr)
  obtain ⟨ck, hck⟩ : ∃ ck, ck = cChk L l := ⟨_, rfl⟩
  have HQ := Aside0.mk hck
  rw [← hck] at HCK
  clear hr hck
  by_cases hz : ck = 0
  · subst hz
    have HW := Aside0.mk (cChk_zero HQ.out.symm).2.1
    have hn10 : l.length ≤ 10 := HW.out.n.2
    go_enter Try.func43, Try.ntmps43
    go_upto_region 4 with (go_at_call 105; refine HCK.out.mono ?_; rintro e w1 ⟨rfl, hb1⟩; have B1 := Aside0.mk hb1; clear hb1)
    clear HCK
    have HR1 := Aside0.mk (Kd.C_below HR.out B1.out)
    obtain ⟨E, hE1, hE2⟩ := keyL
    have HE := Aside0.mk (And.intro hE1 hE2)
    clear hE1 hE2
    have M0 := Aside0.mk (UniM.start E w1 l)
    obtain ⟨ad, hA⟩ : ∃ ad, A = some ad := by
      obtain ⟨ad, _, _, h, _⟩ := row_get HR.out rfl (show 0 < l.length from HW.out.n.1)
      exact ⟨ad, h⟩
    subst hA
    have hmm := @run_makeMap Try.prog
    go_upto_region 7 with fail
    obtain ⟨bm, hbm⟩ : ∃ bm, bm = w1.heap.size := ⟨_, rfl⟩
    obtain ⟨b9, hb9⟩ : ∃ b9, b9 = w1.heap.size + 1 := ⟨_, rfl⟩
    obtain ⟨b10, hb10⟩ : ∃ b10, b10 = w1.heap.size + 1 + 1 := ⟨_, rfl⟩
    rw [← hb10, ← hb9, ← hbm] at M0
    rw [← hb10, ← hb9, ← hbm]
    clear hmm hbm hb9 hb10
    generalize ((w1.alloc (.map #[] 0)).alloc (.cells #[.map (some bm)] 145)).alloc (.cells #[.slice none 0 0] 209) = W2 at M0 ⊢
    obtain ⟨n, hn⟩ : ∃ n, n = l.length := ⟨_, rfl⟩
    have HN := Aside0.mk hn
    rw [← hn] at hn10 ⊢
    clear hn
    go_wp2_with fail
    go_loopg [32] n (fun gg s32 wr => ∃ (i : Nat) (al : List (List Int)) (rs : List Rst) (A2 : Option Addr) (c2 : Nat), i ≤ n ∧ n - i ≤ gg ∧ s32 = .int .i64 (i : Int) ∧ Aside0 (UniM E w1 wr b9 bm b10 b9 l al al rs A2 c2) ∧ Aside0 (Fst l al i 0))
    case atStart => exact ⟨0, [], [], none, 0, Nat.zero_le _, by omega, rfl, M0, ⟨Fst.zero l []⟩⟩
    case round =>
      obtain ⟨i, al, rs, A2, c2, hi, hgi, rfl, MM, FF⟩ := hrel
      clear M0
      by_cases hlt : i < n
      · skip
        --< rone
        have hltz : (i : Int) < (n : Int) := by omega
        obtain ⟨ad', A3, c3, es, hle3, hrow3, k3⟩ := row_get HR1.out rfl (i := i) (by rw [← HN.out]; exact hlt)
        obtain rfl := Option.some.inj es
        obtain ⟨v, hv⟩ : ∃ v, v = l[i]'(by rw [← HN.out]; exact hlt) := ⟨_, rfl⟩
        rw [← hv] at hle3 hrow3 k3
        have HV := Aside0.mk (show v = l.getD i [] from by rw [hv, List.getD_eq_getElem?_getD, List.getElem?_eq_getElem (by rw [← HN.out]; exact hlt)]; rfl)
        have HVW := Aside0.mk (show 1 ≤ v.length ∧ v.length ≤ 10 ∧ ∀ a ∈ v, 0 ≤ a ∧ a < 4 from by rw [hv]; exact HW.out.get _)
        have CV := Aside0.mk (And.intro hle3 hrow3)
        have KV := Aside0.mk k3
        have kv := pw_cell_below MM.out.b k3
        clear es hv hle3 hrow3 k3
        have hv10 : v.length ≤ 10 := HVW.out.2.1
        obtain ⟨go, hgo⟩ : ∃ go, go = gk := ⟨_, rfl⟩
        subst hgo
        go_wp2_with fail
        go_loopg [39] n (fun gg s39 wr => ∃ (k : Nat) (al : List (List Int)) (rs : List Rst) (A2 : Option Addr) (c2 : Nat), k ≤ n ∧ n - k ≤ gg ∧ s39 = .int .i64 (k : Int) ∧ Aside0 (UniM E w1 wr b9 bm b10 b9 l al al rs A2 c2) ∧ Aside0 (Fst l al i k))
        case atStart => exact ⟨0, al, rs, A2, c2, Nat.zero_le _, by omega, rfl, MM, FF⟩
        case round =>
          obtain ⟨k, al, rs, A2, c2, hk, hgk, rfl, MM, FF⟩ := hrel
          clear kv
          by_cases hkl : k < n
          · have hklz : (k : Int) < (n : Int) := by omega
            obtain ⟨ad', A4, c4, es, hle4, hrow4, k4⟩ := row_get HR1.out rfl (i := k) (by rw [← HN.out]; exact hkl)
            obtain rfl := Option.some.inj es
            obtain ⟨u, hu⟩ : ∃ u, u = l[k]'(by rw [← HN.out]; exact hkl) := ⟨_, rfl⟩
            rw [← hu] at hle4 hrow4 k4
            have HU := Aside0.mk (show u = l.getD k [] from by rw [hu, List.getD_eq_getElem?_getD, List.getElem?_eq_getElem (by rw [← HN.out]; exact hkl)]; rfl)
            have hu10 : u.length ≤ 10 := by rw [hu]; exact (HW.out.get _).2.1
            have CU := Aside0.mk (And.intro hle4 hrow4)
            have ku := pw_cell_below MM.out.b k4
            clear es hu hle4 hrow4 k4
            by_cases hik : i = k
            · have F2 := Aside0.mk (show Fst l al i (k + 1) from by have := FF.out.step [] (fun h => absurd hik h); simpa using this)
              have hikz : (i : Int) = (k : Int) := by omega
              go_wp2_with fail
              go_roundg (n - (k + 1))
              case measure => omega
              case rel => exact ⟨k + 1, al, rs, A2, c2, by omega, by omega, by go_num, MM, F2⟩
            · have hikz : ¬ (i : Int) = (k : Int) := by omega
              by_cases hlen : u.length ≤ v.length
              · have hlz : ((u.length : Nat) : Int) ≤ ((v.length : Nat) : Int) := by omega
                obtain ⟨hcut1, hC1⟩ := cutB A3 c3 v.length u.length hlen CV.out.1
                have HE1 := Aside0.mk (equal_at A3 c3 (v.take u.length) A4 c4 u u.length u.length wr (by rw [List.length_take]; omega) rfl (hC1 wr v (Kd.C_below CV.out.2 MM.out.b)) (by have := CV.out.1; omega) (Kd.C_below CU.out.2 MM.out.b) CU.out.1 _ rfl (by omega))
                clear hC1
                cases hq : decide (v.take u.length = u) with
                | false =>
                  rw [hq] at HE1
                  have F2 := Aside0.mk (show Fst l al i (k + 1) from by
                    have := FF.out.step [] (fun _ r hr => by
                      rw [← HV.out, ← HU.out] at hr
                      exact absurd (by rw [hr]; simp) (of_decide_eq_false hq))
                    simpa using this)
                  clear hq
                  go_wp2_with (go_at_call 71; refine HE1.out.mono ?_; rintro e w3 ⟨rfl, ⟨n3, hw3⟩⟩; have B3 := Aside0.mk (show Below wr.heap.size wr w3 from by rw [hw3]; exact pw_below_drewN (Below.refl _ _) n3); clear hw3)
                  go_roundg (n - (k + 1))
                  case measure => omega
                  case rel => exact ⟨k + 1, al, rs, A2, c2, by omega, by omega, by go_num, ⟨MM.out.below B3.out⟩, F2⟩
                | true =>
                  rw [hq] at HE1
                  have HQ2 := Aside0.mk (show v = u ++ v.drop u.length from by
                    have h := of_decide_eq_true hq
                    have h2 := (List.take_append_drop u.length v).symm
                    rw [h] at h2
                    exact h2)
                  clear hq
                  go_upto_region 14 with (go_at_call 71; refine HE1.out.mono ?_; rintro e w3 ⟨rfl, ⟨n3, hw3⟩⟩; have B3 := Aside0.mk (show Below wr.heap.size wr w3 from by rw [hw3]; exact pw_below_drewN (Below.refl _ _) n3); clear hw3)
                  clear hcut1 HE1
                  obtain ⟨A5, m5, c5, hm5, hmc5, hcut5, hC5⟩ := cutA A3 c3 v.length u.length hlen CV.out.1
                  obtain ⟨r, hrr⟩ : ∃ r, r = v.drop u.length := ⟨_, rfl⟩
                  obtain rfl : m5 = r.length := by rw [hrr, List.length_drop]; exact hm5
                  have HRD := Aside0.mk hrr
                  have C5 := Aside0.mk (show r.length ≤ c5 ∧ Kd.C (Kd.int .i64) w1 A5 r.length r from ⟨hmc5, by have := hC5 w1 v CV.out.2; rw [← hrr] at this; exact this⟩)
                  have HEND := Aside0.mk (show EndOf l r from by rw [hrr, HV.out]; exact end_word (by rw [← HN.out]; exact hlt) _)
                  have M3 := Aside0.mk (MM.out.below B3.out)
                  clear hrr hm5 hmc5 hC5
                  go_wp2_with (first
                    | (go_at_call 106
                       refine calls_let ?_
                       intro W5 hW5
                       have B5 := Aside0.mk (show Below w3.heap.size w3 W5 from by rw [hW5]; exact below_alloc (below_alloc (Below.refl _ _) _) _)
                       have M5 := Aside0.mk (M3.out.below B5.out)
                       have L1 := Aside0.mk (show RowAt W5 w1.heap.size (al.length + 1) (some ⟨w3.heap.size, 0, none⟩) 1 1 from rowAt_lit (x := (i : Int)) (by rw [hW5]; exact blk_alloc (blk_new w3 _) _) M3.out.b.size (by omega))
                       have L2 := Aside0.mk (show RowAt W5 w1.heap.size (al.length + 1) (some ⟨w3.heap.size + 1, 0, none⟩) 1 1 from rowAt_lit (x := (k : Int)) (by rw [hW5]; exact blk_newn _ _ _ (by simp)) (by have := M3.out.b.size; omega) (by omega))
                       clear hW5
                       refine (put_calls E HE.out.1 HE.out.2 w1 W5 b9 bm b10 b9 l al rs A2 c2 A5 c5 _ 1 1 _ 1 1 r (HW.out.okL HEND.out) M5.out ⟨rfl, C5.out.1, C5.out.2, L1.out, L2.out⟩ HEND.out (by have := HW.out.row M5.out.row; omega)).mono ?_
                       rintro e w6 ⟨rfl, ma, msx, A6, c6, hM6, hin6, _⟩
                       have M6 := Aside0.mk hM6
                       have F6 := Aside0.mk (show Fst l (al ++ ma) i (k + 1) from FF.out.step ma (fun _ r' hr' => by
                         rw [← HV.out, ← HU.out] at hr'
                         have e2 := HQ2.out
                         rw [← HRD.out] at e2
                         rw [e2] at hr'
                         have := List.append_cancel_left hr'
                         rw [← this]; exact hin6))
                       clear hM6 hin6)
                    | fail)
                  go_roundg (n - (k + 1))
                  case measure => omega
                  case rel => exact ⟨k + 1, al ++ ma, rs ++ msx, A6, c6, by omega, by omega, by go_num, M6, F6⟩
              · have hlz : ¬ ((u.length : Nat) : Int) ≤ ((v.length : Nat) : Int) := by omega
                have F2 := Aside0.mk (show Fst l al i (k + 1) from by
                  have := FF.out.step [] (fun _ r hr => by
                    rw [← HV.out, ← HU.out] at hr
                    exact absurd (by rw [hr]; simp) hlen)
                  simpa using this)
                clear hlen
                go_wp2_with fail
                go_roundg (n - (k + 1))
                case measure => omega
                case rel => exact ⟨k + 1, al, rs, A2, c2, by omega, by omega, by go_num, MM, F2⟩
          · have hke : k = n := by omega
            have F2 := Aside0.mk (show Fst l al (i + 1) 0 from by have := FF.out; rw [hke, HN.out] at this; exact this.row)
            clear hke
            have hke : ¬ (k : Int) < (n : Int) := by omega
            go_wp2_with fail
            go_roundg (n - (i + 1))
            case measure => omega
            case rel => exact ⟨i + 1, al, rs, A2, c2, by omega, by omega, by go_num, MM, F2⟩
        --> rone
      · have hie : ¬ (i : Int) < (n : Int) := by omega
        have hien : i = n := by omega
        have F0 := Aside0.mk (show Fst l al l.length 0 from by have := FF.out; rw [hien, HN.out] at this; exact this)
        clear hien
        clear hie
        obtain ⟨go, hgo⟩ : ∃ go, go = gk := ⟨_, rfl⟩
        subst hgo
        go_wp2_with fail
        go_loopg [16] 200 (fun gg s16 wr => ∃ (j : Nat) (al : List (List Int)) (rs : List Rst) (A2 : Option Addr) (c2 : Nat), j ≤ al.length ∧ 200 - j ≤ gg ∧ s16 = .int .i64 (j : Int) ∧ Aside0 (UniM E w1 wr b9 bm b10 b9 l al al rs A2 c2) ∧ Aside0 (Fst l al l.length 0) ∧ Aside0 (Snd l al j 0) ∧ Aside0 (NoE al j))
        case atStart => exact ⟨0, al, rs, A2, c2, Nat.zero_le _, by omega, rfl, MM, F0, ⟨Snd.zero l al⟩, ⟨fun j hj => by omega⟩⟩
        case round =>
          clear MM F0 FF
          obtain ⟨j, al, rs, A2, c2, hj, hgj, rfl, MM, F0, S0, N0⟩ := hrel
          have hal := HW.out.row MM.out.row
          have HLEN := Aside0.mk MM.out.len
          have k10 : wr.cell? ⟨b10, 0, none⟩ = some (.slice A2 rs.length c2) := (blk_cell MM.out.x 0).trans rfl
          by_cases hjl : j < rs.length
          · have hjz : (j : Int) < (rs.length : Int) := by omega
            have hj110 : (j : Int) ≤ 110 := by have := HLEN.out; omega
            obtain ⟨ad2, hA2, z0, z1, z2⟩ := re_get (Kd.R_reads' MM.out.r).2.2 rfl hjl
            subst hA2
            have HE0 := Aside0.mk (MM.out.e j hjl)
            have HIN := Aside0.mk (fun hne => MM.out.inn hjl F0.out S0.out N0.out hne)
            obtain ⟨v, hv⟩ : ∃ v, v = al.getD j [] := ⟨_, rfl⟩
            obtain ⟨e0, he0⟩ : ∃ e0, e0 = rs[j] := ⟨_, rfl⟩
            rw [← hv, ← he0] at HE0 HIN
            rw [← he0] at z0 z1 z2
            obtain ⟨wA, wn, wc, aA, an, ac, bA, bn, bc⟩ := e0
            obtain rfl : wn = v.length := HE0.out.n
            obtain ⟨e1, he1⟩ : ∃ e1 : Rst, e1 = ⟨wA, v.length, wc, aA, an, ac, bA, bn, bc⟩ := ⟨_, rfl⟩
            have HI0 := Aside0.mk (show v ≠ [] → Inn E w1 (wr.alloc (.cells #[.slice wA v.length wc, .slice aA an ac, .slice bA bn bc] 211)) b9 bm b10 wr.heap.size l j e1 v 0 al rs (some ad2) c2 from fun hne => by rw [he1]; exact HIN.out hne)
            have EH1 := Aside0.mk he1
            have XX := Aside0.mk (blk_new wr (.cells #[.slice wA v.length wc, .slice aA an ac, .slice bA bn bc] 211 (0, 0)))
            have BX := Aside0.mk (below_step B1.out (below_step MM.out.b (below_alloc (Below.refl wr.heap.size wr) (.cells #[.slice wA v.length wc, .slice aA an ac, .slice bA bn bc] 211))))
            clear HIN he0 he1 hv
            go_upto_region 21 with fail
            obtain ⟨bx, hbx⟩ : ∃ bx, bx = wr.heap.size := ⟨_, rfl⟩
            rw [← hbx] at HI0 XX ⊢
            clear hbx z0 z1 z2 k10 MM F0 S0 N0
            generalize wr.alloc (.cells #[.slice wA v.length wc, .slice aA an ac, .slice bA bn bc] 211) = W1 at HI0 XX BX ⊢
            have kb0 : W1.cell? ⟨bx, 0, none⟩ = some (.slice wA v.length wc) := (blk_cell XX.out 0).trans rfl
            have kb1 : W1.cell? ⟨bx, 1, none⟩ = some (.slice aA an ac) := (blk_cell XX.out 1).trans rfl
            have kb2 : W1.cell? ⟨bx, 2, none⟩ = some (.slice bA bn bc) := (blk_cell XX.out 2).trans rfl
            by_cases hv0 : v.length = 0
            · have hvz : ((v.length : Nat) : Int) = 0 := by omega
              go_upto_region 22 with fail
              go_region
              go_wp2_with fail
              (try simp only [Exit.inBlock, Exit.then])
              refine bodyPost_ret (results_tmp4 rfl _ _ _) rfl ?_
              exact ⟨_, _, false, by rw [← HQ.out]; rfl, (fun _ h => by cases h), (by first | exact BX.out | exact below_drew1 BX.out)⟩
            · have hvz : ¬ ((v.length : Nat) : Int) = 0 := by omega
              have I0 := Aside0.mk (HI0.out (fun h => hv0 (by rw [h]; rfl)))
              clear kb1 kb2 XX HI0 hv0
              obtain ⟨go, hgo⟩ : ∃ go, go = gk := ⟨_, rfl⟩
              subst hgo
              go_wp2_with fail
              have hvb : (((v.length : Nat) : Int) == 0) = false := beq_eq_false_iff_ne.2 hvz
              rw [hvb]
              clear hvb
              go_loopg [95] n (fun gg s95 wr => ∃ (k : Nat) (al : List (List Int)) (rs : List Rst) (A2 : Option Addr) (c2 : Nat), k ≤ n ∧ n - k ≤ gg ∧ s95 = .int .i64 (k : Int) ∧ Aside0 (Inn E w1 wr b9 bm b10 bx l j e1 v k al rs A2 c2))
              case atStart => exact ⟨0, al, rs, some ad2, c2, Nat.zero_le _, by omega, rfl, I0⟩
              case round =>
                clear I0 BX kb0 hvz
                obtain ⟨k, al, rs, A2, c2, hk, hgk, rfl, II⟩ := hrel
                by_cases hkl : k < n
                · have hklz : (k : Int) < (n : Int) := by omega
                  have hk10 : (k : Int) ≤ 10 := by omega
                  obtain ⟨ad', A4, c4, es, hle4, hrow4, k4⟩ := row_get HR1.out rfl (i := k) (by rw [← HN.out]; exact hkl)
                  obtain rfl := Option.some.inj es
                  obtain ⟨u, hu⟩ : ∃ u, u = l[k]'(by rw [← HN.out]; exact hkl) := ⟨_, rfl⟩
                  rw [← hu] at hle4 hrow4 k4
                  have HU := Aside0.mk (show u = l.getD k [] from by rw [hu, List.getD_eq_getElem?_getD, List.getElem?_eq_getElem (by rw [← HN.out]; exact hkl)]; rfl)
                  have hu10 : u.length ≤ 10 := by rw [hu]; exact (HW.out.get _).2.1
                  have CU := Aside0.mk (And.intro hle4 hrow4)
                  have ku := pw_cell_below II.out.m.b k4
                  clear es hu hle4 hrow4 k4
                  have EE := Aside0.mk (show RstOk wr w1 (j + 1) ⟨wA, v.length, wc, aA, an, ac, bA, bn, bc⟩ v from by have := II.out.e; rw [EH1.out] at this; exact this)
                  have XX := Aside0.mk (show wr.heap[bx]? = some (.cells #[.slice wA v.length wc, .slice aA an ac, .slice bA bn bc] 211 (0, 0)) from by have := II.out.x; rw [EH1.out] at this; exact this)
                  have hv10 : v.length ≤ 1000 := (HW.out.okL II.out.endOf).2
                  have kb2 : wr.cell? ⟨bx, 2, none⟩ = some (.slice bA bn bc) := (blk_cell XX.out 2).trans rfl
                  have hEb : RowAt wr w1.heap.size (j + 1) bA bn bc := EE.out.b
                  obtain ⟨xs, hxs, hbC, hbc, hbm⟩ := hEb.C
                  have hj110 : j ≤ 110 := by have := HW.out.row II.out.m.row; have := II.out.jl; omega
                  have HCLO := Aside0.mk (clone_at bA bn bc xs wr hxs hbC hbc (by omega))
                  have HXS := Aside0.mk (show xs.length ≤ j + 1 from by rw [hxs]; exact hbm)
                  clear hxs hbC hbc hbm hEb
                  go_upto_region 27 with (first
                    | (go_at_call 53
                       refine HCLO.out.mono ?_
                       rintro e w6 ⟨v6, rfl, hR6, hb6⟩
                       obtain ⟨A6, c6, rfl⟩ := Kd.R_slice hR6
                       have R6 := Aside0.mk hR6
                       have B6 := Aside0.mk hb6
                       clear hR6 hb6)
                    | (at_builtin
                       have BA := Aside0.mk (below_alloc (Below.refl w6.heap.size w6) (.cells #[.int .i64 (k : Int)] 3))
                       refine' Kd.R_append_row (w0 := wr) (Value.int .i64) 0 wr.heap.size rfl _ _ 22 3 (.int .i64 0) 8 rfl Try.underlying22 int3 rfl (by decide) (.slice A6 xs.length c6) xs [(k : Int)] (some ⟨w6.heap.size, 0, none⟩) 1 1 (fun _ => True) ?q1 ?q2 ?q3 ?q4 ?q5 ?q6 ?q7 ?q8 ?_
                       (case q1 => rfl)
                       (case q2 => rfl)
                       (case q3 => exact fun _ _ => trivial)
                       (case q4 => exact Kd.R_below R6.out BA.out)
                       (case q5 => exact lit_C (by go_simp))
                       (case q6 => exact below_step B6.out BA.out)
                       (case q7 => exact Nat.le_trans B6.out.size BA.out.size)
                       (case q8 => (have := HXS.out; omega))
                       intro v8 w8 hown hb8 hgr hat
                       obtain ⟨A8, c8, rfl⟩ := Kd.R_slice hown
                       obtain ⟨m8, hm8⟩ : ∃ m8, m8 = (xs ++ [(k : Int)]).length := ⟨_, rfl⟩
                       rw [← hm8] at hown ⊢
                       have B8 := Aside0.mk hb8
                       have L8 := Aside0.mk (show RowAt w8 w1.heap.size (al.length + 1) A8 m8 c8 from rowAt_of_R hown hm8 (by simp) II.out.m.b.size (by have := HXS.out; have := II.out.jl; rw [List.length_append]; simp; omega))
                       clear hown hb8 hgr hat hm8)
                    | fail)
                  have I8 := Aside0.mk (II.out.below B8.out)
                  have XX8 := Aside0.mk (blk_below XX.out B8.out)
                  have kb0 : w8.cell? ⟨bx, 0, none⟩ = some (.slice wA v.length wc) := (blk_cell XX8.out 0).trans rfl
                  clear kb2 ku HCLO R6 B6 XX II
                  by_cases hle : u.length ≤ v.length
                  · skip
                    --< le
                    have hmin : ¬ ((v.length : Nat) : Int) < ((u.length : Nat) : Int) := by omega
                    have hlz : ((u.length : Nat) : Int) ≤ ((v.length : Nat) : Int) := by omega
                    obtain ⟨hcut1, hC1⟩ := cutB A4 c4 u.length u.length (Nat.le_refl _) CU.out.1
                    obtain ⟨hcut2, hC2⟩ := cutB wA wc v.length u.length hle EE.out.c
                    have HE1 := Aside0.mk (fun (W' : World) (hb : Below w8.heap.size w8 W') => equal_at A4 c4 (u.take u.length) wA wc (v.take u.length) u.length u.length W' (by rw [List.length_take]; omega) (by rw [List.length_take]; omega) (hC1 W' u (Kd.C_below CU.out.2 (below_step I8.out.m.b hb))) (Nat.le_trans (Nat.le_refl _) CU.out.1) (hC2 W' v (Kd.C_below EE.out.r (below_step I8.out.m.b hb))) (Nat.le_trans hle EE.out.c) _ rfl (by omega))
                    clear hC1 hC2
                    have HMS := Aside0.mk (show ∀ W', Below w8.heap.size w8 W' → (fun W' : World => W'.cell? ⟨bx, 0, none⟩ = some (.slice wA v.length wc)) W' from fun W' h => pw_cell_below h kb0)
                    cases hq : decide (u.take u.length = v.take u.length) with
                    | false =>
                      rw [hq] at HE1
                      have HSK := Aside0.mk (pre_skip (u := u) (v := v) (n := u.length) (by omega) (of_decide_eq_false hq))
                      clear hq
                      go_upto_region 29 with fail
                      rw [show min ((u.length : Nat) : Int) ((v.length : Nat) : Int) = ((u.length : Nat) : Int) from by omega]
                      clear kb0
                      refine wp_region_held_drew (S := (fun W' : World => W'.cell? ⟨bx, 0, none⟩ = some (.slice wA v.length wc))) (by kernel_rfl) ?_ (fun hHeld => ?_)
                      · (try dsimp only); (first | exact HMS.out _ B9.out | exact HMS.out _ (below_drew1 (Below.refl _ _)) | fail)
                      refine wpAnyH_take (i := 0) (v := ?_) rfl (by kernel_rfl) (by kernel_rfl) (by kernel_rfl) (fun _ _ _ h => h) (Or.inl ⟨by kernel_rfl, ?_⟩) (by assumption) ?_
                      rotate_left 1
                      · intro w hSw; (try dsimp only at hSw); go_simp; (try with_reducible rfl)
                      (try simp only [Act.put, List.getElem_toArray, List.getElem_cons_zero, List.getElem_cons_succ, List.setIfInBounds_toArray, List.set_cons_zero, List.set_cons_succ])
                      refine wpAnyH_take (i := 1) (v := ?_) rfl (by kernel_rfl) (by kernel_rfl) (by kernel_rfl) (fun _ _ _ h => h) (Or.inl ⟨by kernel_rfl, ?_⟩) (by assumption) ?_
                      rotate_left 1
                      · intro w hSw; (try dsimp only at hSw); go_simp; (try with_reducible rfl)
                      (try simp only [Act.put, List.getElem_toArray, List.getElem_cons_zero, List.getElem_cons_succ, List.setIfInBounds_toArray, List.set_cons_zero, List.set_cons_succ])
                      refine wpAnyH_take (i := 2) (v := ?_) rfl (by kernel_rfl) (by kernel_rfl) (by kernel_rfl) (fun _ _ _ h => h) (Or.inl ⟨by kernel_rfl, ?_⟩) (by assumption) ?_
                      rotate_left 1
                      · intro w hSw; (try dsimp only at hSw); go_simp; (try with_reducible rfl)
                      (try simp only [Act.put, List.getElem_toArray, List.getElem_cons_zero, List.getElem_cons_succ, List.setIfInBounds_toArray, List.set_cons_zero, List.set_cons_succ])
                      refine wpAnyH_take (i := 3) (v := ?_) rfl (by kernel_rfl) (by kernel_rfl) (by kernel_rfl) (fun _ _ _ h => h) (Or.inl ⟨by kernel_rfl, ?_⟩) (by assumption) ?_
                      rotate_left 1
                      · intro w hSw; (try dsimp only at hSw); go_simp; (try with_reducible rfl)
                      (try simp only [Act.put, List.getElem_toArray, List.getElem_cons_zero, List.getElem_cons_succ, List.setIfInBounds_toArray, List.set_cons_zero, List.set_cons_succ])
                      refine wpAnyH_take (i := 4) (v := ?_) rfl (by kernel_rfl) (by kernel_rfl) (by kernel_rfl) (fun _ _ _ h => h) (Or.inl ⟨by kernel_rfl, ?_⟩) (by assumption) ?_
                      rotate_left 1
                      · intro w hSw; (try dsimp only at hSw); go_simp; (try with_reducible rfl)
                      (try simp only [Act.put, List.getElem_toArray, List.getElem_cons_zero, List.getElem_cons_succ, List.setIfInBounds_toArray, List.set_cons_zero, List.set_cons_succ])
                      refine wpAnyH_take (i := 5) (v := ?_) rfl (by kernel_rfl) (by kernel_rfl) (by kernel_rfl) (fun _ _ _ h => h) (Or.inl ⟨by kernel_rfl, ?_⟩) (by assumption) ?_
                      rotate_left 1
                      · intro w hSw; (try dsimp only at hSw); go_simp; (try with_reducible rfl)
                      (try simp only [Act.put, List.getElem_toArray, List.getElem_cons_zero, List.getElem_cons_succ, List.setIfInBounds_toArray, List.set_cons_zero, List.set_cons_succ])
                      refine wpAnyH_take (i := 6) (v := ?_) rfl (by kernel_rfl) (by kernel_rfl) (by kernel_rfl) (fun _ _ _ h => h) (Or.inl ⟨by kernel_rfl, ?_⟩) (by assumption) ?_
                      rotate_left 1
                      · intro w hSw; (try dsimp only at hSw); go_simp; (try with_reducible rfl)
                      (try simp only [Act.put, List.getElem_toArray, List.getElem_cons_zero, List.getElem_cons_succ, List.setIfInBounds_toArray, List.set_cons_zero, List.set_cons_succ])
                      refine wpAnyH_ready (rs := [7]) (by kernel_rfl) (by simp) ?_
                      refine AllReadyH.cons rfl (fun K hK => ?_) AllReadyH.nil
                      rw [if_pos (by kernel_rfl)]
                      go_simp
                      (go_at_call 71; refine (HE1.out _ (below_drew1 (Below.refl _ _))).mono ?_; rintro e w9 ⟨rfl, ⟨n9, hw9⟩⟩; have B9 := Aside0.mk (show Below w8.heap.size w8 w9 from by rw [hw9]; exact pw_below_drewN (below_drew1 (Below.refl _ _)) n9); clear hw9)
                      (try go_simp)
                      refine hK.out _ _ ?_ (fun hHeld => ?_)
                      · (try dsimp only); (first | exact HMS.out _ B9.out | exact HMS.out _ (below_drew1 (Below.refl _ _)) | fail)
                      clear hK K
                      (try simp only [Act.put, List.getElem_toArray, List.getElem_cons_zero, List.getElem_cons_succ, List.setIfInBounds_toArray, List.set_cons_zero, List.set_cons_succ])
                      refine wpAnyH_take (i := 8) (v := ?_) rfl (by kernel_rfl) (by kernel_rfl) (by kernel_rfl) (fun _ _ _ h => h) (Or.inl ⟨by kernel_rfl, ?_⟩) (by assumption) ?_
                      rotate_left 1
                      · intro w hSw; (try dsimp only at hSw); go_simp; (try with_reducible rfl)
                      (try simp only [Act.put, List.getElem_toArray, List.getElem_cons_zero, List.getElem_cons_succ, List.setIfInBounds_toArray, List.set_cons_zero, List.set_cons_succ])
                      refine wpAnyH_take (i := 9) (v := ?_) rfl (by kernel_rfl) (by kernel_rfl) (by kernel_rfl) (fun _ _ _ h => h) (Or.inl ⟨by kernel_rfl, ?_⟩) (by assumption) ?_
                      rotate_left 1
                      · intro w hSw; (try dsimp only at hSw); go_simp; (try with_reducible rfl)
                      (try simp only [Act.put, List.getElem_toArray, List.getElem_cons_zero, List.getElem_cons_succ, List.setIfInBounds_toArray, List.set_cons_zero, List.set_cons_succ])
                      refine wpAnyH_done (by kernel_rfl) ?_ _
                      go_wp2_with fail
                      have I9 := Aside0.mk (show Inn E w1 w9 b9 bm b10 bx l j e1 v (k + 1) al rs A2 c2 from (I8.out.below B9.out).skip (by rw [← HU.out]; exact HSK.out))
                      go_roundg (n - (k + 1))
                      case measure => omega
                      case rel => exact ⟨k + 1, al, rs, A2, c2, by omega, by omega, by go_num, I9⟩
                    | true =>
                      rw [hq] at HE1
                      clear hq
                      go_upto_region 29 with fail
                      rw [show min ((u.length : Nat) : Int) ((v.length : Nat) : Int) = ((u.length : Nat) : Int) from by omega]
                      clear kb0
                      refine wp_region_held_drew (S := (fun W' : World => W'.cell? ⟨bx, 0, none⟩ = some (.slice wA v.length wc))) (by kernel_rfl) ?_ (fun hHeld => ?_)
                      · (try dsimp only); (first | exact HMS.out _ B9.out | exact HMS.out _ (below_drew1 (Below.refl _ _)) | fail)
                      refine wpAnyH_take (i := 0) (v := ?_) rfl (by kernel_rfl) (by kernel_rfl) (by kernel_rfl) (fun _ _ _ h => h) (Or.inl ⟨by kernel_rfl, ?_⟩) (by assumption) ?_
                      rotate_left 1
                      · intro w hSw; (try dsimp only at hSw); go_simp; (try with_reducible rfl)
                      (try simp only [Act.put, List.getElem_toArray, List.getElem_cons_zero, List.getElem_cons_succ, List.setIfInBounds_toArray, List.set_cons_zero, List.set_cons_succ])
                      refine wpAnyH_take (i := 1) (v := ?_) rfl (by kernel_rfl) (by kernel_rfl) (by kernel_rfl) (fun _ _ _ h => h) (Or.inl ⟨by kernel_rfl, ?_⟩) (by assumption) ?_
                      rotate_left 1
                      · intro w hSw; (try dsimp only at hSw); go_simp; (try with_reducible rfl)
                      (try simp only [Act.put, List.getElem_toArray, List.getElem_cons_zero, List.getElem_cons_succ, List.setIfInBounds_toArray, List.set_cons_zero, List.set_cons_succ])
                      refine wpAnyH_take (i := 2) (v := ?_) rfl (by kernel_rfl) (by kernel_rfl) (by kernel_rfl) (fun _ _ _ h => h) (Or.inl ⟨by kernel_rfl, ?_⟩) (by assumption) ?_
                      rotate_left 1
                      · intro w hSw; (try dsimp only at hSw); go_simp; (try with_reducible rfl)
                      (try simp only [Act.put, List.getElem_toArray, List.getElem_cons_zero, List.getElem_cons_succ, List.setIfInBounds_toArray, List.set_cons_zero, List.set_cons_succ])
                      refine wpAnyH_take (i := 3) (v := ?_) rfl (by kernel_rfl) (by kernel_rfl) (by kernel_rfl) (fun _ _ _ h => h) (Or.inl ⟨by kernel_rfl, ?_⟩) (by assumption) ?_
                      rotate_left 1
                      · intro w hSw; (try dsimp only at hSw); go_simp; (try with_reducible rfl)
                      (try simp only [Act.put, List.getElem_toArray, List.getElem_cons_zero, List.getElem_cons_succ, List.setIfInBounds_toArray, List.set_cons_zero, List.set_cons_succ])
                      refine wpAnyH_take (i := 4) (v := ?_) rfl (by kernel_rfl) (by kernel_rfl) (by kernel_rfl) (fun _ _ _ h => h) (Or.inl ⟨by kernel_rfl, ?_⟩) (by assumption) ?_
                      rotate_left 1
                      · intro w hSw; (try dsimp only at hSw); go_simp; (try with_reducible rfl)
                      (try simp only [Act.put, List.getElem_toArray, List.getElem_cons_zero, List.getElem_cons_succ, List.setIfInBounds_toArray, List.set_cons_zero, List.set_cons_succ])
                      refine wpAnyH_take (i := 5) (v := ?_) rfl (by kernel_rfl) (by kernel_rfl) (by kernel_rfl) (fun _ _ _ h => h) (Or.inl ⟨by kernel_rfl, ?_⟩) (by assumption) ?_
                      rotate_left 1
                      · intro w hSw; (try dsimp only at hSw); go_simp; (try with_reducible rfl)
                      (try simp only [Act.put, List.getElem_toArray, List.getElem_cons_zero, List.getElem_cons_succ, List.setIfInBounds_toArray, List.set_cons_zero, List.set_cons_succ])
                      refine wpAnyH_take (i := 6) (v := ?_) rfl (by kernel_rfl) (by kernel_rfl) (by kernel_rfl) (fun _ _ _ h => h) (Or.inl ⟨by kernel_rfl, ?_⟩) (by assumption) ?_
                      rotate_left 1
                      · intro w hSw; (try dsimp only at hSw); go_simp; (try with_reducible rfl)
                      (try simp only [Act.put, List.getElem_toArray, List.getElem_cons_zero, List.getElem_cons_succ, List.setIfInBounds_toArray, List.set_cons_zero, List.set_cons_succ])
                      refine wpAnyH_ready (rs := [7]) (by kernel_rfl) (by simp) ?_
                      refine AllReadyH.cons rfl (fun K hK => ?_) AllReadyH.nil
                      rw [if_pos (by kernel_rfl)]
                      go_simp
                      (go_at_call 71; refine (HE1.out _ (below_drew1 (Below.refl _ _))).mono ?_; rintro e w9 ⟨rfl, ⟨n9, hw9⟩⟩; have B9 := Aside0.mk (show Below w8.heap.size w8 w9 from by rw [hw9]; exact pw_below_drewN (below_drew1 (Below.refl _ _)) n9); clear hw9)
                      (try go_simp)
                      refine hK.out _ _ ?_ (fun hHeld => ?_)
                      · (try dsimp only); (first | exact HMS.out _ B9.out | exact HMS.out _ (below_drew1 (Below.refl _ _)) | fail)
                      clear hK K
                      (try simp only [Act.put, List.getElem_toArray, List.getElem_cons_zero, List.getElem_cons_succ, List.setIfInBounds_toArray, List.set_cons_zero, List.set_cons_succ])
                      refine wpAnyH_take (i := 8) (v := ?_) rfl (by kernel_rfl) (by kernel_rfl) (by kernel_rfl) (fun _ _ _ h => h) (Or.inl ⟨by kernel_rfl, ?_⟩) (by assumption) ?_
                      rotate_left 1
                      · intro w hSw; (try dsimp only at hSw); go_simp; (try with_reducible rfl)
                      (try simp only [Act.put, List.getElem_toArray, List.getElem_cons_zero, List.getElem_cons_succ, List.setIfInBounds_toArray, List.set_cons_zero, List.set_cons_succ])
                      refine wpAnyH_take (i := 9) (v := ?_) rfl (by kernel_rfl) (by kernel_rfl) (by kernel_rfl) (fun _ _ _ h => h) (Or.inl ⟨by kernel_rfl, ?_⟩) (by assumption) ?_
                      rotate_left 1
                      · intro w hSw; (try dsimp only at hSw); go_simp; (try with_reducible rfl)
                      (try simp only [Act.put, List.getElem_toArray, List.getElem_cons_zero, List.getElem_cons_succ, List.setIfInBounds_toArray, List.set_cons_zero, List.set_cons_succ])
                      refine wpAnyH_done (by kernel_rfl) ?_ _
                      have kb0 : w9.cell? ⟨bx, 0, none⟩ = some (.slice wA v.length wc) := HMS.out _ B9.out
                      have I9 := Aside0.mk (I8.out.below B9.out)
                      have E9 := Aside0.mk (show RstOk w9 w1 (j + 1) ⟨wA, v.length, wc, aA, an, ac, bA, bn, bc⟩ v from by have := I9.out.e; rw [EH1.out] at this; exact this)
                      have L9 := Aside0.mk (L8.out.keep fun g cs hg => B9.out.block g (blk_lt hg))
                      clear hcut1 hcut2 HE1 HMS
                      obtain ⟨A5, m5, c5, hm5, hmc5, hcut5, hC5⟩ := cutA wA wc v.length u.length hle E9.out.c
                      obtain ⟨r, hrr⟩ : ∃ r, r = v.drop u.length := ⟨_, rfl⟩
                      obtain rfl : m5 = r.length := by rw [hrr, List.length_drop]; exact hm5
                      have C5 := Aside0.mk (show r.length ≤ c5 ∧ Kd.C (Kd.int .i64) w1 A5 r.length r from ⟨hmc5, by have := hC5 w1 v E9.out.r; rw [← hrr] at this; exact this⟩)
                      have HEND := Aside0.mk (show EndOf l r from by rw [hrr]; exact end_drop I9.out.endOf _)
                      have HPRE := Aside0.mk (show ∀ r', (v = u ++ r' → r' = r) ∧ (u = v ++ r' → r' = r) from by rw [hrr]; exact pre_le hle)
                      have HPUT := Aside0.mk (fun (W' : World) (hb : Below w9.heap.size w9 W') => put_calls E HE.out.1 HE.out.2 w1 W' b9 bm b10 bx l al rs A2 c2 A5 c5 aA an ac A8 m8 c8 r (HW.out.okL HEND.out) (I9.out.m.below hb) ⟨rfl, C5.out.1, C5.out.2, (E9.out.a.more (by have := I9.out.jl; omega)).keep (fun g cs hg => hb.block g (blk_lt hg)), L9.out.keep (fun g cs hg => hb.block g (blk_lt hg))⟩ HEND.out (by have := HW.out.row I9.out.m.row; omega))
                      have HMS := Aside0.mk (show ∀ W' : World, W'.heap[bx]? = w9.heap[bx]? → (fun W' : World => W'.cell? ⟨bx, 0, none⟩ = some (.slice wA v.length wc) ∧ W'.cell? ⟨bx, 1, none⟩ = some (.slice aA an ac)) W' from fun W' h => by
                        have x9 := I9.out.x
                        rw [EH1.out] at x9
                        exact ⟨(blk_cell (h.trans x9) 0).trans rfl, (blk_cell (h.trans x9) 1).trans rfl⟩)
                      clear hrr hm5 hmc5 hC5
                      go_upto_region 31 with fail
                      clear kb0
                      refine wp_region_held_drew (S := (fun W' : World => W'.cell? ⟨bx, 0, none⟩ = some (.slice wA v.length wc) ∧ W'.cell? ⟨bx, 1, none⟩ = some (.slice aA an ac))) (by kernel_rfl) ?_ (fun hHeld => ?_)
                      · (try dsimp only); (first | exact HMS.out _ (by assumption) | exact HMS.out _ rfl | fail)
                      refine wpAnyH_take (i := 0) (v := ?_) rfl (by kernel_rfl) (by kernel_rfl) (by kernel_rfl) (fun _ _ _ h => h) (Or.inl ⟨by kernel_rfl, ?_⟩) (by assumption) ?_
                      rotate_left 1
                      · intro w hSw; (try dsimp only at hSw); go_simp; (try with_reducible rfl)
                      (try simp only [Act.put, List.getElem_toArray, List.getElem_cons_zero, List.getElem_cons_succ, List.setIfInBounds_toArray, List.set_cons_zero, List.set_cons_succ])
                      refine wpAnyH_take (i := 1) (v := ?_) rfl (by kernel_rfl) (by kernel_rfl) (by kernel_rfl) (fun _ _ _ h => h) (Or.inl ⟨by kernel_rfl, ?_⟩) (by assumption) ?_
                      rotate_left 1
                      · intro w hSw; (try dsimp only at hSw); go_simp; (try with_reducible rfl)
                      (try simp only [Act.put, List.getElem_toArray, List.getElem_cons_zero, List.getElem_cons_succ, List.setIfInBounds_toArray, List.set_cons_zero, List.set_cons_succ])
                      refine wpAnyH_take (i := 2) (v := ?_) rfl (by kernel_rfl) (by kernel_rfl) (by kernel_rfl) (fun _ _ _ h => h) (Or.inl ⟨by kernel_rfl, ?_⟩) (by assumption) ?_
                      rotate_left 1
                      · intro w hSw; (try dsimp only at hSw); go_simp; (try with_reducible rfl)
                      (try simp only [Act.put, List.getElem_toArray, List.getElem_cons_zero, List.getElem_cons_succ, List.setIfInBounds_toArray, List.set_cons_zero, List.set_cons_succ])
                      refine wpAnyH_take (i := 3) (v := ?_) rfl (by kernel_rfl) (by kernel_rfl) (by kernel_rfl) (fun _ _ _ h => h) (Or.inl ⟨by kernel_rfl, ?_⟩) (by assumption) ?_
                      rotate_left 1
                      · intro w hSw; (try dsimp only at hSw); go_simp; (try with_reducible rfl)
                      (try simp only [Act.put, List.getElem_toArray, List.getElem_cons_zero, List.getElem_cons_succ, List.setIfInBounds_toArray, List.set_cons_zero, List.set_cons_succ])
                      refine wpAnyH_take (i := 4) (v := ?_) rfl (by kernel_rfl) (by kernel_rfl) (by kernel_rfl) (fun _ _ _ h => h) (Or.inl ⟨by kernel_rfl, ?_⟩) (by assumption) ?_
                      rotate_left 1
                      · intro w hSw; (try dsimp only at hSw); go_simp; (try with_reducible rfl)
                      (try simp only [Act.put, List.getElem_toArray, List.getElem_cons_zero, List.getElem_cons_succ, List.setIfInBounds_toArray, List.set_cons_zero, List.set_cons_succ])
                      refine wpAnyH_take (i := 5) (v := ?_) rfl (by kernel_rfl) (by kernel_rfl) (by kernel_rfl) (fun _ _ _ h => h) (Or.inl ⟨by kernel_rfl, ?_⟩) (by assumption) ?_
                      rotate_left 1
                      · intro w hSw; (try dsimp only at hSw); go_simp; (try with_reducible rfl)
                      (try simp only [Act.put, List.getElem_toArray, List.getElem_cons_zero, List.getElem_cons_succ, List.setIfInBounds_toArray, List.set_cons_zero, List.set_cons_succ])
                      refine wpAnyH_take (i := 6) (v := ?_) rfl (by kernel_rfl) (by kernel_rfl) (by kernel_rfl) (fun _ _ _ h => h) (Or.inl ⟨by kernel_rfl, ?_⟩) (by assumption) ?_
                      rotate_left 1
                      · intro w hSw; (try dsimp only at hSw); go_simp; (try with_reducible rfl)
                      (try simp only [Act.put, List.getElem_toArray, List.getElem_cons_zero, List.getElem_cons_succ, List.setIfInBounds_toArray, List.set_cons_zero, List.set_cons_succ])
                      refine wpAnyH_take (i := 7) (v := ?_) rfl (by kernel_rfl) (by kernel_rfl) (by kernel_rfl) (fun _ _ _ h => h) (Or.inl ⟨by kernel_rfl, ?_⟩) (by assumption) ?_
                      rotate_left 1
                      · intro w hSw; (try dsimp only at hSw); go_simp; (try with_reducible rfl)
                      (try simp only [Act.put, List.getElem_toArray, List.getElem_cons_zero, List.getElem_cons_succ, List.setIfInBounds_toArray, List.set_cons_zero, List.set_cons_succ])
                      refine wpAnyH_take (i := 8) (v := ?_) rfl (by kernel_rfl) (by kernel_rfl) (by kernel_rfl) (fun _ _ _ h => h) (Or.inl ⟨by kernel_rfl, ?_⟩) (by assumption) ?_
                      rotate_left 1
                      · intro w hSw; (try dsimp only at hSw); go_simp; (try with_reducible rfl)
                      (try simp only [Act.put, List.getElem_toArray, List.getElem_cons_zero, List.getElem_cons_succ, List.setIfInBounds_toArray, List.set_cons_zero, List.set_cons_succ])
                      refine wpAnyH_ready (rs := [9]) (by kernel_rfl) (by simp) ?_
                      refine AllReadyH.cons rfl (fun K hK => ?_) AllReadyH.nil
                      rw [if_pos (by kernel_rfl)]
                      go_simp
                      (go_at_call 106; refine (HPUT.out _ (below_drew1 (Below.refl _ _))).mono ?_; rintro e w6 ⟨rfl, ma, msx, A7, c7, hM7, hin7, hbx7⟩; have M7 := Aside0.mk hM7; have IN7 := Aside0.mk hin7; clear hM7 hin7)
                      (try go_simp)
                      refine hK.out _ _ ?_ (fun hHeld => ?_)
                      · (try dsimp only); (first | exact HMS.out _ (by assumption) | exact HMS.out _ rfl | fail)
                      clear hK K
                      (try simp only [Act.put, List.getElem_toArray, List.getElem_cons_zero, List.getElem_cons_succ, List.setIfInBounds_toArray, List.set_cons_zero, List.set_cons_succ])
                      refine wpAnyH_done (by kernel_rfl) ?_ _
                      go_wp2_with fail
                      have I7 := Aside0.mk (show Inn E w1 w6 b9 bm b10 bx l j e1 v (k + 1) (al ++ ma) (rs ++ msx) A7 c7 from I9.out.put M7.out IN7.out hbx7 (by rw [← HU.out]; exact HPRE.out))
                      go_roundg (n - (k + 1))
                      case measure => omega
                      case rel => exact ⟨k + 1, al ++ ma, rs ++ msx, A7, c7, by omega, by omega, by go_num, I7⟩
                    --> le
                  · skip
                    --< gt
                    have hmin : ((v.length : Nat) : Int) < ((u.length : Nat) : Int) := by omega
                    have hlz : ¬ ((u.length : Nat) : Int) ≤ ((v.length : Nat) : Int) := by omega
                    obtain ⟨hcut1, hC1⟩ := cutB A4 c4 u.length v.length (Nat.le_of_lt (Nat.lt_of_not_le hle)) CU.out.1
                    obtain ⟨hcut2, hC2⟩ := cutB wA wc v.length v.length (Nat.le_refl _) EE.out.c
                    have HE1 := Aside0.mk (fun (W' : World) (hb : Below w8.heap.size w8 W') => equal_at A4 c4 (u.take v.length) wA wc (v.take v.length) v.length v.length W' (by rw [List.length_take]; omega) (by rw [List.length_take]; omega) (hC1 W' u (Kd.C_below CU.out.2 (below_step I8.out.m.b hb))) (Nat.le_trans (Nat.le_of_lt (Nat.lt_of_not_le hle)) CU.out.1) (hC2 W' v (Kd.C_below EE.out.r (below_step I8.out.m.b hb))) (Nat.le_trans (Nat.le_refl _) EE.out.c) _ rfl (by omega))
                    clear hC1 hC2
                    have HMS := Aside0.mk (show ∀ W', Below w8.heap.size w8 W' → (fun W' : World => W'.cell? ⟨bx, 0, none⟩ = some (.slice wA v.length wc)) W' from fun W' h => pw_cell_below h kb0)
                    cases hq : decide (u.take v.length = v.take v.length) with
                    | false =>
                      rw [hq] at HE1
                      have HSK := Aside0.mk (pre_skip (u := u) (v := v) (n := v.length) (by omega) (of_decide_eq_false hq))
                      clear hq
                      go_upto_region 29 with fail
                      rw [show min ((u.length : Nat) : Int) ((v.length : Nat) : Int) = ((v.length : Nat) : Int) from by omega]
                      clear kb0
                      refine wp_region_held_drew (S := (fun W' : World => W'.cell? ⟨bx, 0, none⟩ = some (.slice wA v.length wc))) (by kernel_rfl) ?_ (fun hHeld => ?_)
                      · (try dsimp only); (first | exact HMS.out _ B9.out | exact HMS.out _ (below_drew1 (Below.refl _ _)) | fail)
                      refine wpAnyH_take (i := 0) (v := ?_) rfl (by kernel_rfl) (by kernel_rfl) (by kernel_rfl) (fun _ _ _ h => h) (Or.inl ⟨by kernel_rfl, ?_⟩) (by assumption) ?_
                      rotate_left 1
                      · intro w hSw; (try dsimp only at hSw); go_simp; (try with_reducible rfl)
                      (try simp only [Act.put, List.getElem_toArray, List.getElem_cons_zero, List.getElem_cons_succ, List.setIfInBounds_toArray, List.set_cons_zero, List.set_cons_succ])
                      refine wpAnyH_take (i := 1) (v := ?_) rfl (by kernel_rfl) (by kernel_rfl) (by kernel_rfl) (fun _ _ _ h => h) (Or.inl ⟨by kernel_rfl, ?_⟩) (by assumption) ?_
                      rotate_left 1
                      · intro w hSw; (try dsimp only at hSw); go_simp; (try with_reducible rfl)
                      (try simp only [Act.put, List.getElem_toArray, List.getElem_cons_zero, List.getElem_cons_succ, List.setIfInBounds_toArray, List.set_cons_zero, List.set_cons_succ])
                      refine wpAnyH_take (i := 2) (v := ?_) rfl (by kernel_rfl) (by kernel_rfl) (by kernel_rfl) (fun _ _ _ h => h) (Or.inl ⟨by kernel_rfl, ?_⟩) (by assumption) ?_
                      rotate_left 1
                      · intro w hSw; (try dsimp only at hSw); go_simp; (try with_reducible rfl)
                      (try simp only [Act.put, List.getElem_toArray, List.getElem_cons_zero, List.getElem_cons_succ, List.setIfInBounds_toArray, List.set_cons_zero, List.set_cons_succ])
                      refine wpAnyH_take (i := 3) (v := ?_) rfl (by kernel_rfl) (by kernel_rfl) (by kernel_rfl) (fun _ _ _ h => h) (Or.inl ⟨by kernel_rfl, ?_⟩) (by assumption) ?_
                      rotate_left 1
                      · intro w hSw; (try dsimp only at hSw); go_simp; (try with_reducible rfl)
                      (try simp only [Act.put, List.getElem_toArray, List.getElem_cons_zero, List.getElem_cons_succ, List.setIfInBounds_toArray, List.set_cons_zero, List.set_cons_succ])
                      refine wpAnyH_take (i := 4) (v := ?_) rfl (by kernel_rfl) (by kernel_rfl) (by kernel_rfl) (fun _ _ _ h => h) (Or.inl ⟨by kernel_rfl, ?_⟩) (by assumption) ?_
                      rotate_left 1
                      · intro w hSw; (try dsimp only at hSw); go_simp; (try with_reducible rfl)
                      (try simp only [Act.put, List.getElem_toArray, List.getElem_cons_zero, List.getElem_cons_succ, List.setIfInBounds_toArray, List.set_cons_zero, List.set_cons_succ])
                      refine wpAnyH_take (i := 5) (v := ?_) rfl (by kernel_rfl) (by kernel_rfl) (by kernel_rfl) (fun _ _ _ h => h) (Or.inl ⟨by kernel_rfl, ?_⟩) (by assumption) ?_
                      rotate_left 1
                      · intro w hSw; (try dsimp only at hSw); go_simp; (try with_reducible rfl)
                      (try simp only [Act.put, List.getElem_toArray, List.getElem_cons_zero, List.getElem_cons_succ, List.setIfInBounds_toArray, List.set_cons_zero, List.set_cons_succ])
                      refine wpAnyH_take (i := 6) (v := ?_) rfl (by kernel_rfl) (by kernel_rfl) (by kernel_rfl) (fun _ _ _ h => h) (Or.inl ⟨by kernel_rfl, ?_⟩) (by assumption) ?_
                      rotate_left 1
                      · intro w hSw; (try dsimp only at hSw); go_simp; (try with_reducible rfl)
                      (try simp only [Act.put, List.getElem_toArray, List.getElem_cons_zero, List.getElem_cons_succ, List.setIfInBounds_toArray, List.set_cons_zero, List.set_cons_succ])
                      refine wpAnyH_ready (rs := [7]) (by kernel_rfl) (by simp) ?_
                      refine AllReadyH.cons rfl (fun K hK => ?_) AllReadyH.nil
                      rw [if_pos (by kernel_rfl)]
                      go_simp
                      (go_at_call 71; refine (HE1.out _ (below_drew1 (Below.refl _ _))).mono ?_; rintro e w9 ⟨rfl, ⟨n9, hw9⟩⟩; have B9 := Aside0.mk (show Below w8.heap.size w8 w9 from by rw [hw9]; exact pw_below_drewN (below_drew1 (Below.refl _ _)) n9); clear hw9)
                      (try go_simp)
                      refine hK.out _ _ ?_ (fun hHeld => ?_)
                      · (try dsimp only); (first | exact HMS.out _ B9.out | exact HMS.out _ (below_drew1 (Below.refl _ _)) | fail)
                      clear hK K
                      (try simp only [Act.put, List.getElem_toArray, List.getElem_cons_zero, List.getElem_cons_succ, List.setIfInBounds_toArray, List.set_cons_zero, List.set_cons_succ])
                      refine wpAnyH_take (i := 8) (v := ?_) rfl (by kernel_rfl) (by kernel_rfl) (by kernel_rfl) (fun _ _ _ h => h) (Or.inl ⟨by kernel_rfl, ?_⟩) (by assumption) ?_
                      rotate_left 1
                      · intro w hSw; (try dsimp only at hSw); go_simp; (try with_reducible rfl)
                      (try simp only [Act.put, List.getElem_toArray, List.getElem_cons_zero, List.getElem_cons_succ, List.setIfInBounds_toArray, List.set_cons_zero, List.set_cons_succ])
                      refine wpAnyH_take (i := 9) (v := ?_) rfl (by kernel_rfl) (by kernel_rfl) (by kernel_rfl) (fun _ _ _ h => h) (Or.inl ⟨by kernel_rfl, ?_⟩) (by assumption) ?_
                      rotate_left 1
                      · intro w hSw; (try dsimp only at hSw); go_simp; (try with_reducible rfl)
                      (try simp only [Act.put, List.getElem_toArray, List.getElem_cons_zero, List.getElem_cons_succ, List.setIfInBounds_toArray, List.set_cons_zero, List.set_cons_succ])
                      refine wpAnyH_done (by kernel_rfl) ?_ _
                      go_wp2_with fail
                      have I9 := Aside0.mk (show Inn E w1 w9 b9 bm b10 bx l j e1 v (k + 1) al rs A2 c2 from (I8.out.below B9.out).skip (by rw [← HU.out]; exact HSK.out))
                      go_roundg (n - (k + 1))
                      case measure => omega
                      case rel => exact ⟨k + 1, al, rs, A2, c2, by omega, by omega, by go_num, I9⟩
                    | true =>
                      rw [hq] at HE1
                      clear hq
                      go_upto_region 29 with fail
                      rw [show min ((u.length : Nat) : Int) ((v.length : Nat) : Int) = ((v.length : Nat) : Int) from by omega]
                      clear kb0
                      refine wp_region_held_drew (S := (fun W' : World => W'.cell? ⟨bx, 0, none⟩ = some (.slice wA v.length wc))) (by kernel_rfl) ?_ (fun hHeld => ?_)
                      · (try dsimp only); (first | exact HMS.out _ B9.out | exact HMS.out _ (below_drew1 (Below.refl _ _)) | fail)
                      refine wpAnyH_take (i := 0) (v := ?_) rfl (by kernel_rfl) (by kernel_rfl) (by kernel_rfl) (fun _ _ _ h => h) (Or.inl ⟨by kernel_rfl, ?_⟩) (by assumption) ?_
                      rotate_left 1
                      · intro w hSw; (try dsimp only at hSw); go_simp; (try with_reducible rfl)
                      (try simp only [Act.put, List.getElem_toArray, List.getElem_cons_zero, List.getElem_cons_succ, List.setIfInBounds_toArray, List.set_cons_zero, List.set_cons_succ])
                      refine wpAnyH_take (i := 1) (v := ?_) rfl (by kernel_rfl) (by kernel_rfl) (by kernel_rfl) (fun _ _ _ h => h) (Or.inl ⟨by kernel_rfl, ?_⟩) (by assumption) ?_
                      rotate_left 1
                      · intro w hSw; (try dsimp only at hSw); go_simp; (try with_reducible rfl)
                      (try simp only [Act.put, List.getElem_toArray, List.getElem_cons_zero, List.getElem_cons_succ, List.setIfInBounds_toArray, List.set_cons_zero, List.set_cons_succ])
                      refine wpAnyH_take (i := 2) (v := ?_) rfl (by kernel_rfl) (by kernel_rfl) (by kernel_rfl) (fun _ _ _ h => h) (Or.inl ⟨by kernel_rfl, ?_⟩) (by assumption) ?_
                      rotate_left 1
                      · intro w hSw; (try dsimp only at hSw); go_simp; (try with_reducible rfl)
                      (try simp only [Act.put, List.getElem_toArray, List.getElem_cons_zero, List.getElem_cons_succ, List.setIfInBounds_toArray, List.set_cons_zero, List.set_cons_succ])
                      refine wpAnyH_take (i := 3) (v := ?_) rfl (by kernel_rfl) (by kernel_rfl) (by kernel_rfl) (fun _ _ _ h => h) (Or.inl ⟨by kernel_rfl, ?_⟩) (by assumption) ?_
                      rotate_left 1
                      · intro w hSw; (try dsimp only at hSw); go_simp; (try with_reducible rfl)
                      (try simp only [Act.put, List.getElem_toArray, List.getElem_cons_zero, List.getElem_cons_succ, List.setIfInBounds_toArray, List.set_cons_zero, List.set_cons_succ])
                      refine wpAnyH_take (i := 4) (v := ?_) rfl (by kernel_rfl) (by kernel_rfl) (by kernel_rfl) (fun _ _ _ h => h) (Or.inl ⟨by kernel_rfl, ?_⟩) (by assumption) ?_
                      rotate_left 1
                      · intro w hSw; (try dsimp only at hSw); go_simp; (try with_reducible rfl)
                      (try simp only [Act.put, List.getElem_toArray, List.getElem_cons_zero, List.getElem_cons_succ, List.setIfInBounds_toArray, List.set_cons_zero, List.set_cons_succ])
                      refine wpAnyH_take (i := 5) (v := ?_) rfl (by kernel_rfl) (by kernel_rfl) (by kernel_rfl) (fun _ _ _ h => h) (Or.inl ⟨by kernel_rfl, ?_⟩) (by assumption) ?_
                      rotate_left 1
                      · intro w hSw; (try dsimp only at hSw); go_simp; (try with_reducible rfl)
                      (try simp only [Act.put, List.getElem_toArray, List.getElem_cons_zero, List.getElem_cons_succ, List.setIfInBounds_toArray, List.set_cons_zero, List.set_cons_succ])
                      refine wpAnyH_take (i := 6) (v := ?_) rfl (by kernel_rfl) (by kernel_rfl) (by kernel_rfl) (fun _ _ _ h => h) (Or.inl ⟨by kernel_rfl, ?_⟩) (by assumption) ?_
                      rotate_left 1
                      · intro w hSw; (try dsimp only at hSw); go_simp; (try with_reducible rfl)
                      (try simp only [Act.put, List.getElem_toArray, List.getElem_cons_zero, List.getElem_cons_succ, List.setIfInBounds_toArray, List.set_cons_zero, List.set_cons_succ])
                      refine wpAnyH_ready (rs := [7]) (by kernel_rfl) (by simp) ?_
                      refine AllReadyH.cons rfl (fun K hK => ?_) AllReadyH.nil
                      rw [if_pos (by kernel_rfl)]
                      go_simp
                      (go_at_call 71; refine (HE1.out _ (below_drew1 (Below.refl _ _))).mono ?_; rintro e w9 ⟨rfl, ⟨n9, hw9⟩⟩; have B9 := Aside0.mk (show Below w8.heap.size w8 w9 from by rw [hw9]; exact pw_below_drewN (below_drew1 (Below.refl _ _)) n9); clear hw9)
                      (try go_simp)
                      refine hK.out _ _ ?_ (fun hHeld => ?_)
                      · (try dsimp only); (first | exact HMS.out _ B9.out | exact HMS.out _ (below_drew1 (Below.refl _ _)) | fail)
                      clear hK K
                      (try simp only [Act.put, List.getElem_toArray, List.getElem_cons_zero, List.getElem_cons_succ, List.setIfInBounds_toArray, List.set_cons_zero, List.set_cons_succ])
                      refine wpAnyH_take (i := 8) (v := ?_) rfl (by kernel_rfl) (by kernel_rfl) (by kernel_rfl) (fun _ _ _ h => h) (Or.inl ⟨by kernel_rfl, ?_⟩) (by assumption) ?_
                      rotate_left 1
                      · intro w hSw; (try dsimp only at hSw); go_simp; (try with_reducible rfl)
                      (try simp only [Act.put, List.getElem_toArray, List.getElem_cons_zero, List.getElem_cons_succ, List.setIfInBounds_toArray, List.set_cons_zero, List.set_cons_succ])
                      refine wpAnyH_take (i := 9) (v := ?_) rfl (by kernel_rfl) (by kernel_rfl) (by kernel_rfl) (fun _ _ _ h => h) (Or.inl ⟨by kernel_rfl, ?_⟩) (by assumption) ?_
                      rotate_left 1
                      · intro w hSw; (try dsimp only at hSw); go_simp; (try with_reducible rfl)
                      (try simp only [Act.put, List.getElem_toArray, List.getElem_cons_zero, List.getElem_cons_succ, List.setIfInBounds_toArray, List.set_cons_zero, List.set_cons_succ])
                      refine wpAnyH_done (by kernel_rfl) ?_ _
                      have kb0 : w9.cell? ⟨bx, 0, none⟩ = some (.slice wA v.length wc) := HMS.out _ B9.out
                      have I9 := Aside0.mk (I8.out.below B9.out)
                      have E9 := Aside0.mk (show RstOk w9 w1 (j + 1) ⟨wA, v.length, wc, aA, an, ac, bA, bn, bc⟩ v from by have := I9.out.e; rw [EH1.out] at this; exact this)
                      have L9 := Aside0.mk (L8.out.keep fun g cs hg => B9.out.block g (blk_lt hg))
                      clear hcut1 hcut2 HE1 HMS
                      obtain ⟨A5, m5, c5, hm5, hmc5, hcut5, hC5⟩ := cutA A4 c4 u.length v.length (by omega) CU.out.1
                      obtain ⟨r, hrr⟩ : ∃ r, r = u.drop v.length := ⟨_, rfl⟩
                      obtain rfl : m5 = r.length := by rw [hrr, List.length_drop]; exact hm5
                      have C5 := Aside0.mk (show r.length ≤ c5 ∧ Kd.C (Kd.int .i64) w1 A5 r.length r from ⟨hmc5, by have := hC5 w1 u CU.out.2; rw [← hrr] at this; exact this⟩)
                      have HEND := Aside0.mk (show EndOf l r from by rw [hrr, HU.out]; exact end_word (by rw [← HN.out]; exact hkl) _)
                      have HPRE := Aside0.mk (show ∀ r', (v = u ++ r' → r' = r) ∧ (u = v ++ r' → r' = r) from by rw [hrr]; exact pre_gt hle)
                      have HPUT := Aside0.mk (fun (W' : World) (hb : Below w9.heap.size w9 W') => put_calls E HE.out.1 HE.out.2 w1 W' b9 bm b10 bx l al rs A2 c2 A5 c5 A8 m8 c8 aA an ac r (HW.out.okL HEND.out) (I9.out.m.below hb) ⟨rfl, C5.out.1, C5.out.2, L9.out.keep (fun g cs hg => hb.block g (blk_lt hg)), (E9.out.a.more (by have := I9.out.jl; omega)).keep (fun g cs hg => hb.block g (blk_lt hg))⟩ HEND.out (by have := HW.out.row I9.out.m.row; omega))
                      have HMS := Aside0.mk (show ∀ W' : World, W'.heap[bx]? = w9.heap[bx]? → (fun W' : World => W'.cell? ⟨bx, 0, none⟩ = some (.slice wA v.length wc) ∧ W'.cell? ⟨bx, 1, none⟩ = some (.slice aA an ac)) W' from fun W' h => by
                        have x9 := I9.out.x
                        rw [EH1.out] at x9
                        exact ⟨(blk_cell (h.trans x9) 0).trans rfl, (blk_cell (h.trans x9) 1).trans rfl⟩)
                      clear hrr hm5 hmc5 hC5
                      go_upto_region 28 with fail
                      clear kb0
                      refine wp_region_held_drew (S := (fun W' : World => W'.cell? ⟨bx, 0, none⟩ = some (.slice wA v.length wc) ∧ W'.cell? ⟨bx, 1, none⟩ = some (.slice aA an ac))) (by kernel_rfl) ?_ (fun hHeld => ?_)
                      · (try dsimp only); (first | exact HMS.out _ (by assumption) | exact HMS.out _ rfl | fail)
                      refine wpAnyH_take (i := 0) (v := ?_) rfl (by kernel_rfl) (by kernel_rfl) (by kernel_rfl) (fun _ _ _ h => h) (Or.inl ⟨by kernel_rfl, ?_⟩) (by assumption) ?_
                      rotate_left 1
                      · intro w hSw; (try dsimp only at hSw); go_simp; (try with_reducible rfl)
                      (try simp only [Act.put, List.getElem_toArray, List.getElem_cons_zero, List.getElem_cons_succ, List.setIfInBounds_toArray, List.set_cons_zero, List.set_cons_succ])
                      refine wpAnyH_take (i := 1) (v := ?_) rfl (by kernel_rfl) (by kernel_rfl) (by kernel_rfl) (fun _ _ _ h => h) (Or.inl ⟨by kernel_rfl, ?_⟩) (by assumption) ?_
                      rotate_left 1
                      · intro w hSw; (try dsimp only at hSw); go_simp; (try with_reducible rfl)
                      (try simp only [Act.put, List.getElem_toArray, List.getElem_cons_zero, List.getElem_cons_succ, List.setIfInBounds_toArray, List.set_cons_zero, List.set_cons_succ])
                      refine wpAnyH_take (i := 2) (v := ?_) rfl (by kernel_rfl) (by kernel_rfl) (by kernel_rfl) (fun _ _ _ h => h) (Or.inl ⟨by kernel_rfl, ?_⟩) (by assumption) ?_
                      rotate_left 1
                      · intro w hSw; (try dsimp only at hSw); go_simp; (try with_reducible rfl)
                      (try simp only [Act.put, List.getElem_toArray, List.getElem_cons_zero, List.getElem_cons_succ, List.setIfInBounds_toArray, List.set_cons_zero, List.set_cons_succ])
                      refine wpAnyH_take (i := 3) (v := ?_) rfl (by kernel_rfl) (by kernel_rfl) (by kernel_rfl) (fun _ _ _ h => h) (Or.inl ⟨by kernel_rfl, ?_⟩) (by assumption) ?_
                      rotate_left 1
                      · intro w hSw; (try dsimp only at hSw); go_simp; (try with_reducible rfl)
                      (try simp only [Act.put, List.getElem_toArray, List.getElem_cons_zero, List.getElem_cons_succ, List.setIfInBounds_toArray, List.set_cons_zero, List.set_cons_succ])
                      refine wpAnyH_take (i := 4) (v := ?_) rfl (by kernel_rfl) (by kernel_rfl) (by kernel_rfl) (fun _ _ _ h => h) (Or.inl ⟨by kernel_rfl, ?_⟩) (by assumption) ?_
                      rotate_left 1
                      · intro w hSw; (try dsimp only at hSw); go_simp; (try with_reducible rfl)
                      (try simp only [Act.put, List.getElem_toArray, List.getElem_cons_zero, List.getElem_cons_succ, List.setIfInBounds_toArray, List.set_cons_zero, List.set_cons_succ])
                      refine wpAnyH_take (i := 5) (v := ?_) rfl (by kernel_rfl) (by kernel_rfl) (by kernel_rfl) (fun _ _ _ h => h) (Or.inl ⟨by kernel_rfl, ?_⟩) (by assumption) ?_
                      rotate_left 1
                      · intro w hSw; (try dsimp only at hSw); go_simp; (try with_reducible rfl)
                      (try simp only [Act.put, List.getElem_toArray, List.getElem_cons_zero, List.getElem_cons_succ, List.setIfInBounds_toArray, List.set_cons_zero, List.set_cons_succ])
                      refine wpAnyH_take (i := 6) (v := ?_) rfl (by kernel_rfl) (by kernel_rfl) (by kernel_rfl) (fun _ _ _ h => h) (Or.inl ⟨by kernel_rfl, ?_⟩) (by assumption) ?_
                      rotate_left 1
                      · intro w hSw; (try dsimp only at hSw); go_simp; (try with_reducible rfl)
                      (try simp only [Act.put, List.getElem_toArray, List.getElem_cons_zero, List.getElem_cons_succ, List.setIfInBounds_toArray, List.set_cons_zero, List.set_cons_succ])
                      refine wpAnyH_take (i := 7) (v := ?_) rfl (by kernel_rfl) (by kernel_rfl) (by kernel_rfl) (fun _ _ _ h => h) (Or.inl ⟨by kernel_rfl, ?_⟩) (by assumption) ?_
                      rotate_left 1
                      · intro w hSw; (try dsimp only at hSw); go_simp; (try with_reducible rfl)
                      (try simp only [Act.put, List.getElem_toArray, List.getElem_cons_zero, List.getElem_cons_succ, List.setIfInBounds_toArray, List.set_cons_zero, List.set_cons_succ])
                      refine wpAnyH_ready (rs := [8]) (by kernel_rfl) (by simp) ?_
                      refine AllReadyH.cons rfl (fun K hK => ?_) AllReadyH.nil
                      rw [if_pos (by kernel_rfl)]
                      go_simp
                      (go_at_call 106; refine (HPUT.out _ (below_drew1 (Below.refl _ _))).mono ?_; rintro e w6 ⟨rfl, ma, msx, A7, c7, hM7, hin7, hbx7⟩; have M7 := Aside0.mk hM7; have IN7 := Aside0.mk hin7; clear hM7 hin7)
                      (try go_simp)
                      refine hK.out _ _ ?_ (fun hHeld => ?_)
                      · (try dsimp only); (first | exact HMS.out _ (by assumption) | exact HMS.out _ rfl | fail)
                      clear hK K
                      (try simp only [Act.put, List.getElem_toArray, List.getElem_cons_zero, List.getElem_cons_succ, List.setIfInBounds_toArray, List.set_cons_zero, List.set_cons_succ])
                      refine wpAnyH_done (by kernel_rfl) ?_ _
                      go_wp2_with fail
                      have I7 := Aside0.mk (show Inn E w1 w6 b9 bm b10 bx l j e1 v (k + 1) (al ++ ma) (rs ++ msx) A7 c7 from I9.out.put M7.out IN7.out hbx7 (by rw [← HU.out]; exact HPRE.out))
                      go_roundg (n - (k + 1))
                      case measure => omega
                      case rel => exact ⟨k + 1, al ++ ma, rs ++ msx, A7, c7, by omega, by omega, by go_num, I7⟩
                    --> gt
                · skip
                  --< kend
                  have hke : k = n := by omega
                  have S9 := Aside0.mk (show Snd l al (j + 1) 0 from by have := II.out.s; rw [hke, HN.out] at this; exact this.row)
                  have M9 := Aside0.mk II.out.m.unbox
                  have F9 := Aside0.mk II.out.f
                  have N9 := Aside0.mk II.out.n
                  have hj1 : j + 1 ≤ al.length := II.out.jl
                  clear hke
                  have hke : ¬ (k : Int) < (n : Int) := by omega
                  go_wp2_with fail
                  go_roundg (200 - (j + 1))
                  case measure => omega
                  case rel => exact ⟨j + 1, al, rs, A2, c2, hj1, by omega, by go_num, M9, F9, S9, N9⟩
                  --> kend
          · have hjz : ¬ (j : Int) < (rs.length : Int) := by omega
            have hje : j = al.length := by have := HLEN.out; omega
            have FIN := Aside0.mk (show ∃ al, Fst l al l.length 0 ∧ Snd l al al.length 0 ∧ NoE al al.length from ⟨al, F0.out, hje ▸ S0.out, hje ▸ N0.out⟩)
            have BB := Aside0.mk (below_step B1.out MM.out.b)
            clear hje hjl
            go_wp2_with fail
            (try simp only [Exit.inBlock, Exit.then])
            refine bodyPost_ret (results_tmp4 rfl _ _ _) rfl ?_
            exact ⟨_, _, true, by rw [← HQ.out]; rfl, fun _ _ => FIN.out, BB.out⟩
  · have HCZ := Aside0.mk hz
    go_enter Try.func43, Try.ntmps43
    go_wp2_with (first
      | (go_at_call 105; refine HCK.out.mono ?_; rintro e w1 ⟨rfl, hb1⟩; have B1 := Aside0.mk hb1; clear hb1)
      | fail)
    (try simp only [Exit.inBlock, Exit.then])
    refine bodyPost_ret (results_tmp4 rfl _ _ _) rfl ?_
    exact ⟨_, _, false, by rw [← HQ.out]; rfl, fun h => absurd (HQ.out.trans h) HCZ.out, B1.out⟩
end Go.Proofs.Ytampgoendkjkhaa.H

namespace Go.Proofs.Ytampgoendkjkhaa.H
open Go.RowKit Go.Maps Go.Shelf Go.Proofs.YtampgoendkjkhaaW.PrintWords Go.Proofs.YtampgoendkjkhaaW.PrintMore Go.Proofs.Ytampgoendkjkhaa.DtM Go.Proofs.Ytampgoendkjkhaa.LyM
set_option linter.unusedVariables false
set_option linter.unusedSimpArgs false
def code3 : List (List Int) := [[0], [0, 1], [1, 0]]
theorem code3_chk : cChk 2 code3 = 0 := by decide
theorem code3_not {al : List (List Int)} (h1 : Fst code3 al code3.length 0) (h2 : Snd code3 al al.length 0) (h3 : NoE al al.length) : False := by
  have hr := row_rests (l := code3) (al := al) (fun i hi => by
    match i, hi with
    | 0, _ => decide
    | 1, _ => decide
    | 2, _ => decide
    | i + 3, hi => exact absurd hi (by simp [code3])) h1 h2 h3
  have := told_apart hr [0, 2] [1, 0] (fun i hi => by simp at hi; rcases hi with rfl | rfl <;> decide) (fun i hi => by simp at hi; rcases hi with rfl | rfl <;> decide) (by decide)
  simp at this
def szL (l : List (List Int)) : List Int := l.map fun w => (w.length : Int)
theorem sz_sum (L : Nat) (l : List (List Int)) : ((szL l).map fun s => L ^ (10 - s.toNat)).sum = (l.map fun w => L ^ (10 - w.length)).sum := by
  unfold szL
  rw [List.map_map]
  congr 1
theorem sz_room {L : Int} {l al : List (List Int)} (h : cChk L l = 0) (hf : Fst l al l.length 0) (hs : Snd l al al.length 0) (hn : NoE al al.length) : ((szL l).map fun s => L.toNat ^ (10 - s.toNat)).sum ≤ L.toNat ^ 10 := by
  obtain ⟨hL, hw, ha⟩ := cChk_zero h
  rw [sz_sum]
  exact room (by omega) (fun w hm => ⟨(hw.w w hm).1, (hw.w w hm).2.1, fun a q => by have := ha w hm a q; omega⟩) hf hs hn
theorem sz_in {l : List (List Int)} (hw : WsU l) : ∀ s ∈ szL l, 1 ≤ s ∧ s ≤ 10 := fun s hs => by
  obtain ⟨w, hm, rfl⟩ := List.mem_map.1 hs
  have := hw.w w hm
  omega
theorem lit_rows3 {W : World} {b b1 b2 b3 : Nat} (h : W.heap[b]? = some (.cells #[.slice (some ⟨b1, 0, none⟩) 1 1, .slice (some ⟨b2, 0, none⟩) 2 2, .slice (some ⟨b3, 0, none⟩) 2 2] 22 (0, 0))) (h1 : Row W b1 [0] 1) (h2 : Row W b2 [0, 1] 2) (h3 : Row W b3 [1, 0] 2) : Kd.C (Kd.slice 3 (Kd.int .i64)) W (some ⟨b, 0, none⟩) 3 code3 := by
  refine ⟨rfl, by decide, fun _ => ⟨_, rfl, fun j p hj => ?_⟩⟩
  match j, hj with
  | 0, hj =>
    obtain rfl : [0] = p := by simpa [code3] using hj
    refine ⟨[.slice (some ⟨b1, 0, none⟩) 1 1], rfl, ⟨some ⟨b1, 0, none⟩, 1, rfl, Nat.le_refl _, h1.C⟩, fun i u hu => ?_⟩
    match i, hu with
    | 0, hu =>
      obtain rfl : Value.slice (some ⟨b1, 0, none⟩) 1 1 = u := by simpa using hu
      simpa [Addr.add] using blk_cell h 0
  | 1, hj =>
    obtain rfl : [0, 1] = p := by simpa [code3] using hj
    refine ⟨[.slice (some ⟨b2, 0, none⟩) 2 2], rfl, ⟨some ⟨b2, 0, none⟩, 2, rfl, Nat.le_refl _, h2.C⟩, fun i u hu => ?_⟩
    match i, hu with
    | 0, hu =>
      obtain rfl : Value.slice (some ⟨b2, 0, none⟩) 2 2 = u := by simpa using hu
      simpa [Addr.add, Kd.slice] using blk_cell h 1
  | 2, hj =>
    obtain rfl : [1, 0] = p := by simpa [code3] using hj
    refine ⟨[.slice (some ⟨b3, 0, none⟩) 2 2], rfl, ⟨some ⟨b3, 0, none⟩, 2, rfl, Nat.le_refl _, h3.C⟩, fun i u hu => ?_⟩
    match i, hu with
    | 0, hu =>
      obtain rfl : Value.slice (some ⟨b3, 0, none⟩) 2 2 = u := by simpa using hu
      simpa [Addr.add, Kd.slice] using blk_cell h 2
theorem unq3 (W : World) (A : Option Addr) (c : Nat) (h : Kd.C (Kd.slice 3 (Kd.int .i64)) W A 3 code3) : Calls Try.prog 43 #[.int .i64 2, .slice A 3 c] W fun e w' => (∃ va vb : Value, e = .returned (.tuple #[va, vb, .bool false, .int .i64 0])) ∧ Below W.heap.size W w' :=
  (unq_calls 2 A c code3 W h).mono fun e w' ⟨va, vb, u, he, hu, hb⟩ => by
    refine ⟨⟨va, vb, ?_⟩, hb⟩
    rw [he, code3_chk]
    cases u with
    | false => rfl
    | true =>
      obtain ⟨al, h1, h2, h3⟩ := hu code3_chk rfl
      exact (code3_not h1 h2 h3).elim
theorem kft2 (W : World) (A : Option Addr) (c : Nat) (h : Kd.C (Kd.int .i64) W A 2 [1, 1]) : Calls Try.prog 44 #[.int .i64 2, .slice A 2 c] W fun e w' => ∃ v : Value, e = .returned (.tuple #[v, .bool true, .int .i64 0]) ∧ Below W.heap.size W w' :=
  kft_calls 2 A c [1, 1] W h (by omega) (by decide) (by decide) (by decide)
set_option maxHeartbeats 8000000 in
set_option maxRecDepth 100000 in
theorem cm_calls (L : Int) (A : Option Addr) (c : Nat) (l : List (List Int)) (w : World) (hr : Kd.C (Kd.slice 3 (Kd.int .i64)) w A l.length l) :
    Calls Try.prog 14 #[.int .i64 L, .slice A l.length c] w fun e w' => e = .returned (.bool true) ∧ Below w.heap.size w w' := by
  have HR := Aside0.mk hr
  clear hr
  go_enter Try.func14, Try.ntmps14
  have tk1 : True := trivial
  go_upto_region 8 with (first
    | (go_at_call 43
       have _t := tk1
       refine calls_let ?_
       intro W2 hW2
       have B2 : Below w.heap.size w W2 := (by rw [hW2]; exact below_alloc (below_alloc (below_alloc (below_alloc (Below.refl _ _) _) _) _) _)
       have r1 : Row W2 w.heap.size [0] 1 := ⟨[], (by rw [hW2]; exact blk_alloc (blk_alloc (blk_alloc (blk_new w _) _) _) _), rfl, by decide⟩
       have r2 : Row W2 (w.heap.size + 1) [0, 1] 2 := ⟨[], (by rw [hW2]; exact blk_alloc (blk_alloc (blk_newn _ _ _ (by simp)) _) _), rfl, by decide⟩
       have r3 : Row W2 (w.heap.size + 1 + 1) [1, 0] 2 := ⟨[], (by rw [hW2]; exact blk_alloc (blk_newn _ _ _ (by simp)) _), rfl, by decide⟩
       have r4 : Kd.C (Kd.slice 3 (Kd.int .i64)) W2 (some ⟨w.heap.size + 1 + 1 + 1, 0, none⟩) 3 code3 := lit_rows3 (by rw [hW2]; exact blk_newn _ _ _ (by simp)) r1 r2 r3
       clear hW2
       refine (unq3 W2 _ 3 r4).mono ?_
       rintro e w3 ⟨⟨va, vb, rfl⟩, hb3⟩
       have B3 := Aside0.mk (below_step B2 hb3)
       clear tk1
       have tk2 : True := trivial
       clear B2 r1 r2 r3 r4 hb3)
    | (go_at_call 44
       have _t := tk2
       refine calls_let ?_
       intro W4 hW4
       have B4 : Below w3.heap.size w3 W4 := (by rw [hW4]; exact below_alloc (Below.refl _ _) _)
       have r1 : Row W4 w3.heap.size [1, 1] 2 := ⟨[], (by rw [hW4]; exact blk_new w3 _), rfl, by decide⟩
       clear hW4
       refine (kft2 W4 _ 2 r1.C).mono ?_
       rintro e w5 ⟨v5, rfl, hb5⟩
       have B5 := Aside0.mk (below_step B3.out (below_step B4 hb5))
       have tk3 : True := trivial
       clear tk2
       clear B4 r1 hb5)
    | (go_at_call 43
       have _t := tk3
       refine (unq_calls L A c l w5 (Kd.C_below HR.out B5.out)).mono ?_
       rintro e w6 ⟨va6, vb6, u6, rfl, hu6, hb6⟩
       have B6 := Aside0.mk (below_step B5.out hb6)
       have U6 := Aside0.mk hu6
       obtain ⟨ck, hck⟩ : ∃ ck, ck = cChk L l := ⟨_, rfl⟩
       have HCK := Aside0.mk hck
       rw [← hck]
       clear hck hu6 hb6 tk3)
    | fail)
  by_cases hz : ck = 0
  · subst hz
    cases u6 with
    | false =>
      go_wp2_with fail
      go_ret
      exact ⟨rfl, B6.out⟩
    | true =>
      obtain ⟨al, hf, hs, hn⟩ := U6.out HCK.out.symm rfl
      obtain ⟨hL, hw, ha⟩ := cChk_zero HCK.out.symm
      have HRM := Aside0.mk (sz_room HCK.out.symm hf hs hn)
      have HSI := Aside0.mk (sz_in hw)
      have HN := Aside0.mk hw.n
      obtain ⟨m, hm⟩ : ∃ m : Nat, L = (m : Int) := ⟨L.toNat, by omega⟩
      subst hm
      have HL := Aside0.mk (show 1 ≤ m ∧ m ≤ 4 from by omega)
      clear hf hs hn hL hw ha
      have HSL := Aside0.mk (show (szL l).length = l.length from by simp [szL])
      have hl10 : l.length ≤ 10 := HN.out.2
      go_wp2_with fail
      go_loopg [11, 12] l.length (fun gg s11 s12 wr => ∃ (i : Nat) (A1 : Option Addr) (c1 : Nat), i ≤ l.length ∧ l.length - i ≤ gg ∧ s11 = .slice A1 i c1 ∧ s12 = .int .i64 (i : Int) ∧ Aside0 (Kd.R (Kd.int .i64) 3 wr w6.heap.size (fun _ => True) (.slice A1 i c1) ((szL l).take i)) ∧ Aside0 (Below w6.heap.size w6 wr))
      case atStart => exact ⟨0, none, 0, Nat.zero_le _, by omega, rfl, rfl, ⟨Kd.R_nil _ _ _ _ _⟩, ⟨Below.refl _ _⟩⟩
      case round =>
        obtain ⟨i, A1, c1, hi, hgg, rfl, rfl, RR, BR⟩ := hrel
        have BW := Aside0.mk (below_step B6.out BR.out)
        by_cases hil : i < l.length
        · have hiz : (i : Int) < (l.length : Int) := by omega
          have hi10 : (i : Int) ≤ 10 := by omega
          obtain ⟨ad, A4, c4, es, hle4, hrow4, k4⟩ := row_get (Kd.C_below HR.out BW.out) rfl hil
          subst es
          obtain ⟨u, hu⟩ : ∃ u, u = l[i] := ⟨_, rfl⟩
          rw [← hu] at hle4 hrow4 k4
          have HTK := Aside0.mk (show (szL l).take i ++ [((u.length : Nat) : Int)] = (szL l).take (i + 1) from by
            rw [hu]
            have h2 : i < (szL l).length := by rw [HSL.out]; exact hil
            rw [List.take_succ_eq_append_getElem h2]
            simp [szL])
          clear hu hle4 hrow4
          go_wp2_with (first
            | (at_builtin
               have BA := Aside0.mk (below_alloc (Below.refl wr.heap.size wr) (.cells #[.int .i64 ((u.length : Nat) : Int)] 3))
               refine' Kd.R_append_row (w0 := w6) (Value.int .i64) 0 w6.heap.size rfl _ _ 22 3 (.int .i64 0) 8 rfl Try.underlying22 int3 rfl (by decide) (.slice A1 i c1) ((szL l).take i) [((u.length : Nat) : Int)] (some ⟨wr.heap.size, 0, none⟩) 1 1 (fun _ => True) ?q1 ?q2 ?q3 ?q4 ?q5 ?q6 ?q7 ?q8 ?_
               (case q1 => rfl)
               (case q2 => rfl)
               (case q3 => exact fun _ _ => trivial)
               (case q4 => exact Kd.R_below RR.out BA.out)
               (case q5 => exact lit_C (by go_simp))
               (case q6 => exact below_step BR.out BA.out)
               (case q7 => exact Nat.le_trans BR.out.size BA.out.size)
               (case q8 => (rw [List.length_take]; omega))
               intro v8 w8 hown hb8 hgr hat
               obtain ⟨A8, c8, rfl⟩ := Kd.R_slice hown
               have hm8 : ((szL l).take i ++ [((u.length : Nat) : Int)]).length = i + 1 := by rw [List.length_append, List.length_take, HSL.out, List.length_singleton]; omega
               rw [hm8] at hown ⊢
               rw [HTK.out] at hown
               have R8 := Aside0.mk hown
               have B8 := Aside0.mk hb8
               clear hown hb8 hgr hat hm8)
            | fail)
          go_roundg (l.length - (i + 1))
          case measure => omega
          case rel => exact ⟨i + 1, A8, c8, by omega, by omega, rfl, by go_num, R8, B8⟩
        · have hie : i = l.length := by omega
          have hiz : ¬ (i : Int) < (l.length : Int) := by omega
          have HCR := Aside0.mk (show Kd.C (Kd.int .i64) wr A1 (szL l).length (szL l) from by
            have h := (Kd.R_reads' RR.out).2.2
            rw [hie, ← HSL.out, List.take_length] at h
            exact h)
          have HKF := Aside0.mk (kft_calls m A1 c1 (szL l) wr HCR.out HL.out (by rw [HSL.out]; exact HN.out) HSI.out (by have := HRM.out; rwa [Int.toNat_natCast] at this))
          rw [HSL.out, ← hie] at HKF
          clear hie HCR
          go_wp2_with (first
            | (go_at_call 44
               refine HKF.out.mono ?_
               rintro e w9 ⟨v9, rfl, hb9⟩
               have B9 := Aside0.mk (below_step BW.out hb9)
               clear hb9)
            | fail)
          go_ret
          exact ⟨rfl, B9.out⟩
  · go_wp2_with fail
    go_ret
    exact ⟨rfl, B6.out⟩
end Go.Proofs.Ytampgoendkjkhaa.H
