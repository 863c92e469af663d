/- slices.Repeat of one bool. -/
import Derived.Test.YtampgoendkjkhaaSlA
import Derived.Test.YtampgoendkjkhaaDv
namespace Go.Proofs.Ytampgoendkjkhaa.H
open Go.RowKit Go.Shelf Go.Proofs.YtampgoendkjkhaaW.PrintWords Go.Proofs.YtampgoendkjkhaaW.PrintMore
set_option linter.unusedVariables false
set_option linter.unusedSimpArgs false
/-- a row of bools of the call's own -/
def BRow (W : World) (g : Nat) (r : List Bool) (c : Nat) : Prop := ∃ rest : List Value, W.heap[g]? = some (.cells (bools r ++ rest).toArray 4 (0, 0)) ∧ (bools r ++ rest).length = c ∧ c ≤ maxLen
theorem bools_length (r : List Bool) : (bools r).length = r.length := by simp [bools]
theorem BRow.keep {W W' : World} {g c : Nat} {r : List Bool} (h : BRow W g r c) (e : W'.heap[g]? = W.heap[g]?) : BRow W' g r c := by
  obtain ⟨rest, a, b⟩ := h
  exact ⟨rest, e.trans a, b⟩
theorem BRow.below {W W' : World} {g c : Nat} {r : List Bool} (h : BRow W g r c) (hb : Below W.heap.size W W') : BRow W' g r c := by
  obtain ⟨rest, a, b⟩ := h
  exact ⟨rest, blk_below a hb, b⟩
theorem BRow.lt {W : World} {g c : Nat} {r : List Bool} (h : BRow W g r c) : g < W.heap.size := by
  obtain ⟨rest, a, b⟩ := h
  exact blk_lt a
theorem BRow.cell {W : World} {g c : Nat} {r : List Bool} (h : BRow W g r c) {i : Nat} (hi : i < r.length) : W.cell? ⟨g, i, none⟩ = some (.bool (r.getD i false)) := by
  obtain ⟨rest, a, b⟩ := h
  rw [blk_cell a i]
  rw [List.getElem?_toArray, List.getElem?_append_left (by rw [bools_length]; exact hi)]
  simp [bools, List.getD_eq_getElem?_getD, hi]
theorem BRow.frozen {W : World} {g c : Nat} {r : List Bool} (h : BRow W g r c) (i : Nat) : W.frozen? ⟨g, i, none⟩ = false := by
  obtain ⟨rest, a, b⟩ := h
  exact blk_frozen a i
theorem BRow.set {W : World} {g c : Nat} {r : List Bool} (h : BRow W g r c) {i : Nat} (hi : i < r.length) (a : Bool) : BRow (W.setCell ⟨g, i, none⟩ (.bool a)) g (r.set i a) c := by
  obtain ⟨rest, e, b, m⟩ := h
  refine ⟨rest, ?_, ?_, m⟩
  · rw [blk_set e i (.bool a)]
    congr 2
    rw [← Array.toList_inj, Array.toList_setIfInBounds]
    simp only [bools, List.map_set]
    rw [List.set_append_left _ _ (by simpa using hi)]
  · simpa [bools] using b
theorem brow_of_R {W : World} {base : Nat} {ok : Nat → Prop} {ad : Addr} {n c : Nat} {r : List Bool} (h : Kd.R Kd.bool 4 W base ok (.slice (some ad) n c) r) : ∃ g, ad = ⟨g, 0, none⟩ ∧ n = r.length ∧ n ≤ c ∧ BRow W g r c ∧ base ≤ g := by
  have ho := Kd.own_of_R h
  obtain ⟨hl, ⟨hv, _⟩ | ⟨g, cap, cur, hv, hb, hg, hn, hm, hs, ht⟩⟩ := ho
  · cases hv
  · injection hv with h1 h2 h3
    injection h1 with h1
    subst h1 h3
    have e1 : bools r = cur.toList.take r.length := by rw [show r.length = r.length * 1 from by omega, ht]; rfl
    refine ⟨g, rfl, h2, by omega, ⟨cur.toList.drop r.length, ?_, ?_, hm⟩, hb⟩
    · rw [hg]
      congr 2
      rw [← Array.toList_inj, e1, List.take_append_drop]
    · rw [e1, List.take_append_drop, Array.length_toList]
      omega
theorem mul6_calls (n : Nat) (h : n ≤ 12) (w : World) : Calls Try.prog 189 #[.int .u64 1, .int .u64 (n : Int)] w fun e w' => e = .returned (.tuple #[.int .u64 0, .int .u64 (n : Int)]) ∧ w = w' := by
  have hc : n = 0 ∨ n = 1 ∨ n = 2 ∨ n = 3 ∨ n = 4 ∨ n = 5 ∨ n = 6 ∨ n = 7 ∨ n = 8 ∨ n = 9 ∨ n = 10 ∨ n = 11 ∨ n = 12 := by omega
  rcases hc with rfl | rfl | rfl | rfl | rfl | rfl | rfl | rfl | rfl | rfl | rfl | rfl | rfl
  all_goals
    go_enter Try.func189, Try.ntmps189
    go_wp2
    go_ret2
    exact ⟨rfl, rfl⟩
theorem mul_calls (n : Nat) (h : n ≤ 12) (w : World) : Calls Try.prog 139 #[.int .u64 1, .int .u64 (n : Int)] w fun e w' => e = .returned (.tuple #[.int .u64 0, .int .u64 (n : Int)]) ∧ w = w' := by
  have H := Aside0.mk (mul6_calls n h)
  go_enter Try.func139, Try.ntmps139
  go_wp2_with (go_at_call 189; refine (H.out _).mono ?_; rintro e w' ⟨rfl, rfl⟩)
  go_ret2
  exact ⟨rfl, rfl⟩
theorem bool3 : (Try.prog.info? 4).map (fun i => (i.zero, i.size, i.bytes)) = some (some (.bool false), 1, 1) := by kernel_rfl
theorem cutKb (g c n k : Nat) (h0 : 0 < k) (hk : k < n) (hc : n ≤ c) : ∃ m d : Nat, m = n - k ∧ m ≤ d ∧ ∀ W, (Instr.slice 82 (.slice (some ⟨g, 0, none⟩) n c) (some (.int .i64 (k : Int))) none none).run Try.prog W = .ok (.slice (some ⟨g, k, none⟩) m d) W := by
  obtain ⟨i0, hi, _, hsz, _⟩ := info_parts bool3
  refine ⟨n - k, c - k, rfl, by omega, fun W => ?_⟩
  have := cut_from (P := Try.prog) 82 4 .i64 Try.underlying82 hi 1 hsz (some ⟨g, 0, none⟩) n c (k : Int) (by omega) (by omega) W
  rw [Int.toNat_natCast, if_neg (by omega), Nat.mul_one] at this
  rw [this]
  simp [add_pos _ h0]
theorem cutTb (g c n k : Nat) (hk : k ≤ n) (hc : n ≤ c) : ∀ W, (Instr.slice 82 (.slice (some ⟨g, 0, none⟩) n c) none (some (.int .i64 (k : Int))) none).run Try.prog W = .ok (.slice (some ⟨g, 0, none⟩) k c) W := by
  obtain ⟨i0, hi, _, hsz, _⟩ := info_parts bool3
  exact fun W => by simpa using cut_to (P := Try.prog) 82 4 .i64 Try.underlying82 hi (some ⟨g, 0, none⟩) n c (k : Int) (by omega) (by omega) hc W
def repT (n k : Nat) : List Bool := List.replicate k true ++ List.replicate (n - k) false
theorem repT_len {n k : Nat} (h : k ≤ n) : (repT n k).length = n := by unfold repT; simp; omega
theorem repT_all (n : Nat) : repT n n = List.replicate n true := by unfold repT; simp
theorem repT_none (n : Nat) : repT n 0 = List.replicate n false := by unfold repT; simp
theorem repT_splice {n k m : Nat} (h : k + m ≤ n) (rest : List Value) : splice (bools (repT n k) ++ rest) k (bools (List.replicate m true)) = bools (repT n (k + m)) ++ rest := by
  unfold splice repT bools
  have l1 : (List.map (fun x => Value.bool x) (List.replicate m true)).length = m := by simp
  rw [l1]
  simp only [List.map_append, List.map_replicate]
  rw [show n - k = m + (n - (k + m)) from by omega, ← List.replicate_append_replicate (n := m) (m := n - (k + m)) (a := Value.bool false), ← List.replicate_append_replicate (n := k) (m := m) (a := Value.bool true)]
  simp [List.drop_append, List.append_assoc]
  rw [← List.append_assoc (List.replicate k (Value.bool true)), List.replicate_append_replicate]
theorem brow_spliced {W : World} {g c n k m : Nat} {rest : List Value} (h : k + m ≤ n) (hl : (bools (repT n k) ++ rest).length = c) (hm : c ≤ maxLen) (e : W.heap[g]? = some (.cells (splice (bools (repT n k) ++ rest) k (bools (List.replicate m true))).toArray 4 (0, 0))) : BRow W g (repT n (k + m)) c := by
  rw [repT_splice h] at e
  refine ⟨rest, e, ?_, hm⟩
  rw [← hl, List.length_append, List.length_append, bools_length, bools_length, repT_len (by omega), repT_len (by omega)]
theorem brow_src {W : World} {g n k q c j : Nat} {v : Value} (h : BRow W g (repT n k) c) (hq : q ≤ k) (hk : k ≤ n) (hj : (bools (List.replicate q true))[j]? = some v) : W.cell? ((⟨g, 0, none⟩ : Addr).add j) = some v := by
  have hl := (List.getElem?_eq_some_iff.1 hj).1
  rw [bools_length, List.length_replicate] at hl
  have hv : Value.bool true = v := by
    unfold bools at hj
    rw [List.map_replicate, List.getElem?_replicate, if_pos hl] at hj
    injection hj
  subst hv
  have hc := h.cell (i := j) (by rw [repT_len hk]; omega)
  have e : (repT n k).getD j false = true := by
    unfold repT
    rw [List.getD_eq_getElem?_getD, List.getElem?_append_left (by simp; omega), List.getElem?_replicate, if_pos (by omega)]
    rfl
  rw [e] at hc
  have ea : (⟨g, 0, none⟩ : Addr).add j = ⟨g, j, none⟩ := by
    cases j with
    | zero => rfl
    | succ j => rw [add_pos _ (by omega)]; simp
  rw [ea]
  exact hc
theorem one_true {w w2 : World} {b j : Nat} {v : Value} (hx : w.cell? ⟨b, 0, none⟩ = some (.bool true)) (hc : w2.cell? ⟨b, 0, none⟩ = w.cell? ⟨b, 0, none⟩) (h : (bools (List.replicate 1 true))[j]? = some v) : w2.cell? ((⟨b, 0, none⟩ : Addr).add j) = some v := by
  match j, h with
  | 0, h =>
    obtain rfl : Value.bool true = v := by simpa [bools] using h
    exact hc.trans hx
theorem bools_one (r : List Bool) : ∀ v ∈ bools r, v.oneCell' = true := by
  intro v hv
  unfold bools at hv
  obtain ⟨x, _, rfl⟩ := List.mem_map.1 hv
  rfl
set_option maxHeartbeats 8000000 in
set_option maxRecDepth 100000 in
theorem repeat_calls (n : Nat) (h1 : 1 ≤ n) (hn : n ≤ 12) (b : Nat) (w : World) (hx : w.cell? ⟨b, 0, none⟩ = some (.bool true)) (hb : b < w.heap.size) :
    Calls Try.prog 75 #[.slice (some ⟨b, 0, none⟩) 1 1, .int .i64 (n : Int)] w fun e w' => ∃ g c, e = .returned (.slice (some ⟨g, 0, none⟩) n c) ∧ BRow w' g (List.replicate n true) c ∧ w.heap.size ≤ g ∧ Below w.heap.size w w' := by
  have HX := Aside0.mk hx
  have HB := Aside0.mk hb
  have HM := Aside0.mk (mul_calls n hn)
  have h0 : (0 : Int) ≤ (n : Int) := by omega
  have hw1 : IntKind.u64.wrap (n : Int) = (n : Int) := by rw [IntKind.wrap_u64]; omega
  have hw2 : IntKind.i64.wrap (n : Int) = (n : Int) := IntWalk.i64_in _ (by omega)
  have hbig : (n : Int) ≤ 9223372036854775807 := by omega
  have HN := Aside0.mk (And.intro h1 hn)
  clear hx hb
  go_enter Try.func75, Try.ntmps75
  go_wp2_with (first
    | (go_at_call 139; refine (HM.out _).mono ?_; rintro e w1 ⟨rfl, rfl⟩)
    | ((with_reducible refine gate_dst (N := 30) rfl ?_)
       refine Kd.R_make Kd.bool (w0 := w) w.heap.size 4 rfl rfl 82 (.tmp 29) (.tmp 29) rfl (n : Int) rfl rfl Try.underlying82 (.bool false) 1 bool3 rfl (by decide) (by decide) false (ok := fun k => w.heap.size ≤ k) (okp := fun _ => False) rfl (fun _ h => h.elim) (Nat.le_refl _) (by omega) (by have := HN.out.2; omega) (Below.refl _ _) (Nat.le_refl _) ?_
       intro v1 w2 hr1 hb1 hg1 hat1
       rw [Int.toNat_natCast] at hr1
       obtain ⟨bn, ebn, hbn⟩ := hat1
       obtain ⟨A3, cn, ev⟩ := Kd.R_slice hr1
       subst ev
       obtain ⟨a1, rfl⟩ : ∃ a1, A3 = some a1 := by cases A3 with
         | none => simp [Value.ownBlock] at ebn
         | some a => exact ⟨a, rfl⟩
       obtain ⟨g, rfl, hl1, hle, hrow, hg⟩ := brow_of_R hr1
       rw [List.length_replicate] at hle ⊢
       have R2 := Aside0.mk (show BRow w2 g (repT n 0) cn from by rw [repT_none]; exact hrow)
       have G2 := Aside0.mk hg
       have C2 := Aside0.mk hle
       have B2 := Aside0.mk hb1
       clear hr1 hrow hg hle hb1 hg1 hbn ebn hl1 bn)
    | ((with_reducible refine gate_dst (N := 33) rfl ?_)
       refine wpList_copy_splice rfl (.tmp 31) (.tmp 32) 82 82 rfl 4 Try.underlying82 (by kernel_rfl) (some ⟨g, 0, none⟩) (some ⟨b, 0, none⟩) n cn 1 1 rfl rfl g 0 (bools (repT n 0) ++ R2.out.choose) 4 R2.out.choose_spec.1 (bools (List.replicate 1 true)) ?sa ?sb ?sc ?sd g w2 (Below.refl _ _) (Nat.le_refl _) ?_
       (case sa => show 1 = min 1 n; have := HN.out; omega)
       (case sb => exact fun _ => ⟨rfl, ⟨b, 0, none⟩, rfl, fun j v hj => one_true HX.out (B2.out.cell (p := ⟨b, 0, none⟩) HB.out) hj⟩)
       (case sc => have hq := bools_length (repT n 0); rw [repT_len (Nat.zero_le _)] at hq; show 0 + 1 ≤ _; rw [List.length_append, hq]; have := HN.out; omega)
       (case sd => exact bools_one _)
       intro w3 hg3 hb3
       have R3 := Aside0.mk (show BRow w3 g (repT n 1) cn from brow_spliced (k := 0) (m := 1) HN.out.1 R2.out.choose_spec.2.1 R2.out.choose_spec.2.2 hg3)
       have B3 := Aside0.mk (show Below w.heap.size w w3 from B2.out.trans (hb3.mono G2.out))
       rw [show goInt ((bools (List.replicate 1 true)).length : Nat) = .int .i64 1 from rfl]
       clear hg3 hb3 R2 B2)
    | fail)
  go_loopg [8] n (fun gg s8 wr => ∃ k : Nat, 1 ≤ k ∧ k ≤ n ∧ n - k ≤ gg ∧ s8 = .int .i64 (k : Int) ∧ Aside0 (BRow wr g (repT n k) cn) ∧ Aside0 (Below w.heap.size w wr))
  case atStart => exact ⟨1, Nat.le_refl _, HN.out.1, by omega, rfl, R3, B3⟩
  case round =>
    obtain ⟨k, hk1, hk, hgg, rfl, RR, BB⟩ := hrel
    clear R3 B3
    by_cases hlt : k < n
    · have hltz : (k : Int) < (n : Int) := by omega
      obtain ⟨m, d, hm, hmd, hcut⟩ := cutKb g cn n k hk1 hlt C2.out
      have hcut2 := cutTb g cn n k hk C2.out
      obtain ⟨q, hq⟩ : ∃ q, min k m = q := ⟨_, rfl⟩
      have HQ := Aside0.mk (show q = min k m ∧ k + q ≤ n ∧ 0 < q ∧ m = n - k from by omega)
      have hw1 : IntKind.i64.wrap ((k : Int) + (q : Int)) = ((k + q : Nat) : Int) := (IntWalk.i64_in _ (by omega)).trans (by omega)
      clear hm hmd hq
      go_wp2
      have RD := Aside0.mk (RR.out.keep (W' := wr.drew) rfl)
      refine wp_region_held_drew (S := (fun W' => Below g wr W')) (by kernel_rfl) ?_ (fun hHeld => ?_)
      · (try dsimp only); (first | assumption | exact below_drew1 (Below.refl _ _))
      refine wpAnyH_take (i := 0) (v := ?_) rfl (by kernel_rfl) (by kernel_rfl) (by kernel_rfl) (fun _ _ _ h => h) (Or.inl ⟨by kernel_rfl, ?_⟩) (by assumption) ?_
      rotate_left 1
      · intro w hSw; (try dsimp only at hSw); go_simp; (try with_reducible rfl)
      (try simp only [Act.put, List.getElem_toArray, List.getElem_cons_zero, List.getElem_cons_succ, List.setIfInBounds_toArray, List.set_cons_zero, List.set_cons_succ])
      refine wpAnyH_take (i := 1) (v := ?_) rfl (by kernel_rfl) (by kernel_rfl) (by kernel_rfl) (fun _ _ _ h => h) (Or.inl ⟨by kernel_rfl, ?_⟩) (by assumption) ?_
      rotate_left 1
      · intro w hSw; (try dsimp only at hSw); go_simp; (try with_reducible rfl)
      (try simp only [Act.put, List.getElem_toArray, List.getElem_cons_zero, List.getElem_cons_succ, List.setIfInBounds_toArray, List.set_cons_zero, List.set_cons_succ])
      refine wpAnyH_take (i := 2) (v := ?_) rfl (by kernel_rfl) (by kernel_rfl) (by kernel_rfl) (fun _ _ _ h => h) (Or.inl ⟨by kernel_rfl, ?_⟩) (by assumption) ?_
      rotate_left 1
      · intro w hSw; (try dsimp only at hSw); go_simp; (try with_reducible rfl)
      (try simp only [Act.put, List.getElem_toArray, List.getElem_cons_zero, List.getElem_cons_succ, List.setIfInBounds_toArray, List.set_cons_zero, List.set_cons_succ])
      refine wpAnyH_take (i := 3) (v := ?_) rfl (by kernel_rfl) (by kernel_rfl) (by kernel_rfl) (fun _ _ _ h => h) (Or.inl ⟨by kernel_rfl, ?_⟩) (by assumption) ?_
      rotate_left 1
      · intro w hSw; (try dsimp only at hSw); go_simp; (try with_reducible rfl)
      (try simp only [Act.put, List.getElem_toArray, List.getElem_cons_zero, List.getElem_cons_succ, List.setIfInBounds_toArray, List.set_cons_zero, List.set_cons_succ])
      refine wpAnyH_take (i := 4) (v := ?_) rfl (by kernel_rfl) (by kernel_rfl) (by kernel_rfl) (fun _ _ _ h => h) (Or.inl ⟨by kernel_rfl, ?_⟩) (by assumption) ?_
      rotate_left 1
      · intro w hSw; (try dsimp only at hSw); go_simp; (try with_reducible rfl)
      (try simp only [Act.put, List.getElem_toArray, List.getElem_cons_zero, List.getElem_cons_succ, List.setIfInBounds_toArray, List.set_cons_zero, List.set_cons_succ])
      refine wpAnyH_take (i := 5) (v := ?_) rfl (by kernel_rfl) (by kernel_rfl) (by kernel_rfl) (fun _ _ _ h => h) (Or.inl ⟨by kernel_rfl, ?_⟩) (by assumption) ?_
      rotate_left 1
      · intro w hSw; (try dsimp only at hSw); go_simp; (try with_reducible rfl)
      (try simp only [Act.put, List.getElem_toArray, List.getElem_cons_zero, List.getElem_cons_succ, List.setIfInBounds_toArray, List.set_cons_zero, List.set_cons_succ])
      refine wpAnyH_take (i := 6) (v := ?_) rfl (by kernel_rfl) (by kernel_rfl) (by kernel_rfl) (fun _ _ _ h => h) (Or.inl ⟨by kernel_rfl, ?_⟩) (by assumption) ?_
      rotate_left 1
      · intro w hSw; (try dsimp only at hSw); go_simp; (try with_reducible rfl)
      (try simp only [Act.put, List.getElem_toArray, List.getElem_cons_zero, List.getElem_cons_succ, List.setIfInBounds_toArray, List.set_cons_zero, List.set_cons_succ])
      refine wpAnyH_ready (rs := [7]) (by kernel_rfl) (by simp) ?_
      refine AllReadyH.cons rfl (fun K hK => ?_) AllReadyH.nil
      refine step_copy_splice (by rfl) (.tmp 41) (.tmp 44) 82 82 (by rfl) 4 Try.underlying82 (by kernel_rfl) (some ⟨g, k, none⟩) (some ⟨g, 0, none⟩) m d k cn (by rfl) (by rfl) g k (bools (repT n k) ++ RD.out.choose) 4 RD.out.choose_spec.1 (bools (List.replicate q true)) ?sa ?sb ?sc ?sd g wr.drew (Below.refl _ _) (Nat.le_refl _) ?_; (case sa => rw [bools_length, List.length_replicate]; exact HQ.out.1); (case sb => exact fun _ => ⟨rfl, ⟨g, 0, none⟩, rfl, fun j v hj => brow_src RD.out (by have := HQ.out; omega) (by have := HQ.out; omega) hj⟩); (case sc => have hq := bools_length (repT n k); rw [repT_len hk] at hq; rw [List.length_append, hq, bools_length, List.length_replicate]; have := HQ.out; omega); (case sd => exact bools_one _); intro w7 hg7 hb7; have R7 := Aside0.mk (show BRow w7 g (repT n (k + q)) cn from brow_spliced (by have := HQ.out; omega) RD.out.choose_spec.2.1 RD.out.choose_spec.2.2 hg7); have hb7' : Below g wr w7 := (below_drew1 (Below.refl _ _)).trans hb7; have B7 := Aside0.mk hb7'; rw [show goInt (((bools (List.replicate q true)).length : Nat) : Int) = .int .i64 (q : Int) from by rw [bools_length, List.length_replicate]; rfl]; clear hg7 hb7
      (try go_simp)
      refine hK.out _ _ ?_ (fun hHeld => ?_)
      · (try dsimp only); (first | assumption | exact below_drew1 (Below.refl _ _))
      clear hK K
      (try simp only [Act.put, List.getElem_toArray, List.getElem_cons_zero, List.getElem_cons_succ, List.setIfInBounds_toArray, List.set_cons_zero, List.set_cons_succ])
      refine wpAnyH_take (i := 8) (v := ?_) rfl (by kernel_rfl) (by kernel_rfl) (by kernel_rfl) (fun _ _ _ h => h) (Or.inl ⟨by kernel_rfl, ?_⟩) (by assumption) ?_
      rotate_left 1
      · intro w hSw; (try dsimp only at hSw); go_simp; (try with_reducible rfl)
      (try simp only [Act.put, List.getElem_toArray, List.getElem_cons_zero, List.getElem_cons_succ, List.setIfInBounds_toArray, List.set_cons_zero, List.set_cons_succ])
      refine wpAnyH_take (i := 9) (v := ?_) rfl (by kernel_rfl) (by kernel_rfl) (by kernel_rfl) (fun _ _ _ h => h) (Or.inl ⟨by kernel_rfl, ?_⟩) (by assumption) ?_
      rotate_left 1
      · intro w hSw; (try dsimp only at hSw); go_simp; (try with_reducible rfl)
      (try simp only [Act.put, List.getElem_toArray, List.getElem_cons_zero, List.getElem_cons_succ, List.setIfInBounds_toArray, List.set_cons_zero, List.set_cons_succ])
      refine wpAnyH_done (by kernel_rfl) ?_ _
      go_wp2
      go_roundg (n - (k + q))
      case measure => have := HQ.out; omega
      case rel => exact ⟨k + q, by omega, HQ.out.2.1, Nat.le_refl _, rfl, R7, ⟨BB.out.trans (B7.out.mono G2.out)⟩⟩
    · have hke : n = k := by omega
      subst hke
      go_wp2
      go_ret
      exact ⟨g, cn, rfl, by have := RR.out; rwa [repT_all] at this, G2.out, BB.out⟩
end Go.Proofs.Ytampgoendkjkhaa.H
