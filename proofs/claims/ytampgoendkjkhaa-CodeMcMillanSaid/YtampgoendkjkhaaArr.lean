/- Arrays of ints as keys and elements; exploring at such keys: what holds of memory. -/
import Derived.Test.YtampgoendkjkhaaExp
import Derived.Test.YtampgoendkjkhaaOwn
import Derived.DeepKeys4
namespace Go.Proofs.Ytampgoendkjkhaa.H
open Go.RowKit Go.Maps Go.Shelf Go.Proofs.YtampgoendkjkhaaW.PrintWords Go.Proofs.Ytampgoendkjkhaa.DtM
set_option linter.unusedVariables false
set_option linter.unusedSimpArgs false
/-- an array of ints by its cells -/
def kArr {κ : Type} (m : Nat) (enc : κ → List Int) (he : ∀ x, (enc x).length = m) : Kd κ where
  sz := m
  E := []
  K := fun _ x cs => cs = nums .i64 (enc x)
  M := fun _ _ _ x cs => cs = nums .i64 (enc x)
  K_len := by rintro w x cs rfl; simp [nums, he]
  K_one := by
    rintro w x cs rfl u hu
    obtain ⟨a, _, rfl⟩ := List.mem_map.1 hu
    rfl
  K_below := fun _ h => h
  K_of_M := fun h => h
  M_mono := fun _ h => h
  M_bound := fun h => h
  M_move := fun _ h => h
  M_lower := fun _ h => h
theorem arr_get {κ : Type} {m : Nat} {enc : κ → List Int} {he : ∀ x, (enc x).length = m} {W : World} {A : Option Addr} {n : Nat} {xs : List κ} (h : Kd.C (kArr m enc he) W A n xs) (hn : n = xs.length) {i : Nat} (hi : i < xs.length) : ∃ ad, A = some ad ∧ ∀ j v, (enc xs[i])[j]? = some v → W.cell? (ad.add (i * m + j)) = some (.int .i64 v) := by
  subst hn
  obtain ⟨ad, c, e0, _, hK, hc0⟩ := Kd.C_get h xs[i] (i : Int) (by omega) (by omega)
  refine ⟨ad, e0, fun j v hv => ?_⟩
  have hx : xs.getD ((i : Int).toNat) xs[i] = xs[i] := by simp [List.getD_eq_getElem?_getD, hi]
  rw [hx] at hK
  have := hc0 j (.int .i64 v) (by
    rw [show c = nums .i64 (enc xs[i]) from hK]
    unfold nums
    rw [List.getElem?_map, hv]
    rfl)
  rwa [Int.toNat_natCast] at this
theorem R_addr {κ : Type} {d : Kd κ} {e : Nat} {W : World} {B : Nat} {ok : Nat → Prop} {ad : Addr} {n c : Nat} {xs : List κ} (h : Kd.R d e W B ok (.slice (some ad) n c) xs) : ∃ g, ad = ⟨g, 0, none⟩ := by
  obtain ⟨inner, ho⟩ := Kd.R_own h
  rcases ho.2 with ⟨e, _⟩ | ⟨g, cap, cur, e, _⟩
  · cases e
  · injection e with e1
    injection e1 with e1
    exact ⟨g, e1⟩
theorem add_at (g j : Nat) : (⟨g, 0, none⟩ : Addr).add j = ⟨g, j, none⟩ := by
  unfold Addr.add
  split
  · rename_i h; rw [h]
  · simp
theorem arr_lit {κ : Type} (m : Nat) (enc : κ → List Int) (he : ∀ x, (enc x).length = m) (T : TypeId) (W : World) (B : Nat) (x : κ) (hB : B ≤ W.heap.size) : Kd.R (kArr m enc he) T (W.alloc (.cells (nums .i64 (enc x)).toArray T)) B (fun k => k = W.heap.size) (.slice (some ⟨W.heap.size, 0, none⟩) 1 1) [x] :=
  ⟨fun k hk => by simp [Value.ownBlock] at hk; exact hk.symm, OwnRow.lit W B (ps := [x]) ⟨by simp [nums, he, kArr], fun j p hj => by
    match j, hj with
    | 0, hj =>
      obtain rfl : x = p := by simpa using hj
      show _ = nums .i64 (enc x)
      rw [Nat.zero_mul, List.drop_zero]
      exact List.take_of_length_le (by simp [nums, he, kArr])⟩ hB (by simp)⟩
section
variable {κ : Type}
structure O3g (dL : Kd κ) (eL : Nat) (W : World) (B : Nat) (av : Nat → Prop) (vL : Value) (l : List κ) (vM : Value) (ms : List Int) (vN : Value) (rows : List (List Int)) (sL sM sN : Nat → Prop) : Prop where
  L : Kd.R dL eL W B sL vL l
  M : Kd.R (Kd.int .i64) 3 W B sM vM ms
  N : Kd.S (Kd.slice 3 (Kd.int .i64)) 22 W B sN vN rows
  ltL : ∀ k, sL k → k < W.heap.size
  ltM : ∀ k, sM k → k < W.heap.size
  ltN : ∀ k, sN k → k < W.heap.size
  LM : ∀ k, sL k → ¬ sM k
  LN : ∀ k, sL k → ¬ sN k
  MN : ∀ k, sM k → ¬ sN k
  avL : ∀ k, sL k → ¬ av k
  avM : ∀ k, sM k → ¬ av k
  avN : ∀ k, sN k → ¬ av k
variable {dL : Kd κ} {eL : Nat} {W W' w1 : World} {B : Nat} {av av' : Nat → Prop} {vL v1 vM vN : Value} {l l' : List κ} {ms ms' : List Int} {rows : List (List Int)} {sL sM sN : Nat → Prop}
theorem O3g.step (h : O3g dL eL W B av vL l vM ms vN rows sL sM sN) (hsz : W.heap.size ≤ W'.heap.size) (hk : ∀ k, k < W.heap.size → B ≤ k → ¬ av k → W'.heap[k]? = W.heap[k]?) : O3g dL eL W' B av vL l vM ms vN rows sL sM sN where
  L := Kd.R_mono (Kd.R_step (Kd.R_bound h.L) (fun k ho hl => hk k hl ho.2.1 (h.avL k ho.1))) (fun _ hk => hk.1)
  M := Kd.R_mono (Kd.R_step (Kd.R_bound h.M) (fun k ho hl => hk k hl ho.2.1 (h.avM k ho.1))) (fun _ hk => hk.1)
  N := Kd.S_mono (Kd.S_step (Kd.S_bound h.N) (fun k ho hl => hk k hl ho.2.1 (h.avN k ho.1))) (fun _ hk => hk.1)
  ltL k hk := Nat.lt_of_lt_of_le (h.ltL k hk) hsz
  ltM k hk := Nat.lt_of_lt_of_le (h.ltM k hk) hsz
  ltN k hk := Nat.lt_of_lt_of_le (h.ltN k hk) hsz
  LM := h.LM
  LN := h.LN
  MN := h.MN
  avL := h.avL
  avM := h.avM
  avN := h.avN
theorem O3g.below (h : O3g dL eL W B av vL l vM ms vN rows sL sM sN) (hb : Below W.heap.size W W') : O3g dL eL W' B av vL l vM ms vN rows sL sM sN := h.step hb.size (fun k hl _ _ => hb.block k hl)
theorem O3g.turned {b : Nat} (h : O3g dL eL W B av vL l vM ms vN rows sL sM sN) (ht : Turned b W W') (hb : b < B) : O3g dL eL W' B av vL l vM ms vN rows sL sM sN := h.step (by rw [ht.size]; exact Nat.le_refl _) (fun k _ h2 _ => ht.block k (by omega))
theorem O3g.set (h : O3g dL eL W B av vL l vM ms vN rows sL sM sN) {p : Addr} (hp : p.block < B ∨ av p.block) (u : Value) : O3g dL eL (W.setCell p u) B av vL l vM ms vN rows sL sM sN :=
  h.step (by simp) (fun k _ h2 h3 => Below.heap_setCell W p u k (fun e => hp.elim (fun hp => by omega) (fun hp => h3 (e ▸ hp))))
theorem O3g.appL (h : O3g dL eL W B av vL l vM ms vN rows sL sM sN) (hR : Kd.R dL eL w1 B (fun k => sL k ∨ W.heap.size ≤ k) v1 l') (hg : W.grownBy w1 vL.ownBlock) (hav : ∀ k, W.heap.size ≤ k → ¬ av k) :
    O3g dL eL w1 B av v1 l' vM ms vN rows (fun k => (sL k ∨ W.heap.size ≤ k) ∧ k < w1.heap.size) sM sN where
  L := Kd.R_mono (Kd.R_bound hR) (fun k hk => ⟨hk.1, hk.2.2.1⟩)
  M := Kd.R_step h.M (fun k ho hl => hg.block k hl (fun e => h.LM k (h.L.1 k e.symm) ho))
  N := Kd.S_step h.N (fun k ho hl => hg.block k hl (fun e => h.LN k (h.L.1 k e.symm) ho))
  ltL k hk := hk.2
  ltM k hk := Nat.lt_of_lt_of_le (h.ltM k hk) hg.size
  ltN k hk := Nat.lt_of_lt_of_le (h.ltN k hk) hg.size
  LM k hk hm := by
    rcases hk.1 with h1 | h1
    · exact h.LM k h1 hm
    · have := h.ltM k hm; omega
  LN k hk hm := by
    rcases hk.1 with h1 | h1
    · exact h.LN k h1 hm
    · have := h.ltN k hm; omega
  MN := h.MN
  avL k hk := by
    rcases hk.1 with h1 | h1
    · exact h.avL k h1
    · exact hav k h1
  avM := h.avM
  avN := h.avN
theorem O3g.appM (h : O3g dL eL W B av vL l vM ms vN rows sL sM sN) (hR : Kd.R (Kd.int .i64) 3 w1 B (fun k => sM k ∨ W.heap.size ≤ k) v1 ms') (hg : W.grownBy w1 vM.ownBlock) (hav : ∀ k, W.heap.size ≤ k → ¬ av k) :
    O3g dL eL w1 B av vL l v1 ms' vN rows sL (fun k => (sM k ∨ W.heap.size ≤ k) ∧ k < w1.heap.size) sN where
  M := Kd.R_mono (Kd.R_bound hR) (fun k hk => ⟨hk.1, hk.2.2.1⟩)
  L := Kd.R_step h.L (fun k ho hl => hg.block k hl (fun e => h.LM k ho (h.M.1 k e.symm)))
  N := Kd.S_step h.N (fun k ho hl => hg.block k hl (fun e => h.MN k (h.M.1 k e.symm) ho))
  ltM k hk := hk.2
  ltL k hk := Nat.lt_of_lt_of_le (h.ltL k hk) hg.size
  ltN k hk := Nat.lt_of_lt_of_le (h.ltN k hk) hg.size
  LM k hl hk := by
    rcases hk.1 with h1 | h1
    · exact h.LM k hl h1
    · have := h.ltL k hl; omega
  LN := h.LN
  MN k hk hm := by
    rcases hk.1 with h1 | h1
    · exact h.MN k h1 hm
    · have := h.ltN k hm; omega
  avL := h.avL
  avM k hk := by
    rcases hk.1 with h1 | h1
    · exact h.avM k h1
    · exact hav k h1
  avN := h.avN
/-- a row (block bw, to be kept away from) goes to the rows; av' is what is still to be kept away from -/
theorem O3g.appN {bw : Nat} {rows' : List (List Int)} (h : O3g dL eL W B av vL l vM ms vN rows sL sM sN) (hbw : av bw) (hav' : ∀ k, av' k → av k ∧ k ≠ bw ∧ k < W.heap.size) (hR : Kd.S (Kd.slice 3 (Kd.int .i64)) 22 w1 B (fun k => (sN k ∨ k = bw) ∨ W.heap.size ≤ k) v1 rows') (hg : W.grownBy w1 vN.ownBlock) :
    O3g dL eL w1 B av' vL l vM ms v1 rows' sL sM (fun k => ((sN k ∨ k = bw) ∨ W.heap.size ≤ k) ∧ k < w1.heap.size) where
  N := Kd.S_mono (Kd.S_bound hR) (fun k hk => ⟨hk.1, hk.2.2.1⟩)
  L := Kd.R_step h.L (fun k ho hl => hg.block k hl (fun e => h.LN k ho ((Kd.S_R h.N).1 k e.symm)))
  M := Kd.R_step h.M (fun k ho hl => hg.block k hl (fun e => h.MN k ho ((Kd.S_R h.N).1 k e.symm)))
  ltN k hk := hk.2
  ltL k hk := Nat.lt_of_lt_of_le (h.ltL k hk) hg.size
  ltM k hk := Nat.lt_of_lt_of_le (h.ltM k hk) hg.size
  LM := h.LM
  LN k hl hk := by
    rcases hk.1 with (h1 | h1) | h1
    · exact h.LN k hl h1
    · exact h.avL k hl (h1 ▸ hbw)
    · have := h.ltL k hl; omega
  MN k hl hk := by
    rcases hk.1 with (h1 | h1) | h1
    · exact h.MN k hl h1
    · exact h.avM k hl (h1 ▸ hbw)
    · have := h.ltM k hl; omega
  avL k hk h2 := h.avL k hk (hav' k h2).1
  avM k hk h2 := h.avM k hk (hav' k h2).1
  avN k hk h2 := by
    rcases hk.1 with (h1 | h1) | h1
    · exact h.avN k h1 (hav' k h2).1
    · exact (hav' k h2).2.1 h1
    · have := (hav' k h2).2.2; omega
theorem O3g.avoid (h : O3g dL eL W B av vL l vM ms vN rows sL sM sN) (hav : ∀ k, av' k → av k ∨ W.heap.size ≤ k) : O3g dL eL W B av' vL l vM ms vN rows sL sM sN :=
  { h with avL := fun k hk e => by
             rcases hav k e with h1 | h1
             · exact h.avL k hk h1
             · have := h.ltL k hk; omega
           avM := fun k hk e => by
             rcases hav k e with h1 | h1
             · exact h.avM k hk h1
             · have := h.ltM k hk; omega
           avN := fun k hk e => by
             rcases hav k e with h1 | h1
             · exact h.avN k hk h1
             · have := h.ltN k hk; omega }
theorem O3g.set4 (h : O3g dL eL W B av vL l vM ms vN rows sL sM sN) {g : Nat} (hg : g < B) (x0 x1 x2 x3 : Value) : O3g dL eL (set4 W g x0 x1 x2 x3) B av vL l vM ms vN rows sL sM sN :=
  (((h.set (p := ⟨g, 0, none⟩) (.inl hg) x0).set (p := ⟨g, 1, none⟩) (.inl hg) x1).set (p := ⟨g, 2, none⟩) (.inl hg) x2).set (p := ⟨g, 3, none⟩) (.inl hg) x3
end
end Go.Proofs.Ytampgoendkjkhaa.H
