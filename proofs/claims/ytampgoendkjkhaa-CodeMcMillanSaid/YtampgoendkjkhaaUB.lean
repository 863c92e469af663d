/- Several texts of this claim in one. -/
import Derived.Test.YtampgoendkjkhaaUA
import Derived.Test.YtampgoendkjkhaaUR
import Derived.Test.YtampgoendkjkhaaCut
import Derived.Test.YtampgoendkjkhaaDv
import Derived.Test.YtampgoendkjkhaaSlA
import Derived.StringKeys
import Derived.OwnWalk
namespace Go.Proofs.Ytampgoendkjkhaa.H
open Go.RowKit Go.Maps Go.Shelf Go.Proofs.YtampgoendkjkhaaW.PrintWords Go.Proofs.YtampgoendkjkhaaW.PrintMore Go.Proofs.Ytampgoendkjkhaa.DtM Go.Proofs.Ytampgoendkjkhaa.LyM
set_option linter.unusedVariables false
set_option linter.unusedSimpArgs false
def okL (x : List Int) : Prop := (∀ a ∈ x, 0 ≤ a ∧ a < 65536) ∧ x.length ≤ 1000
theorem keyL : ∃ E : KeyE Try.prog 9 (List Int), E.enc = (fun x => .string (bstr x)) ∧ E.ok = okL := ⟨{
  enc := fun x => .string (bstr x)
  ok := okL
  K := string_keyed Try.underlying9
  lit := fun x => .string (bstr x).data.toList
  key := fun x h => Go.WideMaps.keyOf_string_mk Try.underlying9 (by rw [bstr_size]; have := h.2; unfold maxLen; omega)
  inj := fun a b ha hb e => by injection e with e; exact bstr_inj ha.1 hb.1 e }, rfl, rfl⟩
/-! ### rows of rests -/
structure Rst where
  wA : Option Addr
  wn : Nat
  wc : Nat
  aA : Option Addr
  an : Nat
  ac : Nat
  bA : Option Addr
  bn : Nat
  bc : Nat
def csRe (r : Rst) : List Value := [.slice r.wA r.wn r.wc, .slice r.aA r.an r.ac, .slice r.bA r.bn r.bc]
def kRe : Kd Rst where
  sz := 3
  E := []
  K := fun _ x cs => cs = csRe x
  M := fun _ _ _ x cs => cs = csRe x
  K_len := by rintro w x cs rfl; rfl
  K_one := by
    rintro w x cs rfl u hu
    simp only [csRe, List.mem_cons, List.not_mem_nil, or_false] at hu
    rcases hu with rfl | rfl | rfl <;> rfl
  K_below := fun _ h => h
  K_of_M := fun h => h
  M_mono := fun _ h => h
  M_bound := fun h => h
  M_move := fun _ h => h
  M_lower := fun _ h => h
theorem info_re : (Try.prog.info? 211).map (fun i => (i.zero, i.size, i.bytes)) = some (some (.agg #[.slice none 0 0, .slice none 0 0, .slice none 0 0]), 3, 72) := by kernel_rfl
theorem lit_re {W : World} {b : Nat} {e : Rst} (h : W.heap[b]? = some (.cells #[.slice e.wA e.wn e.wc, .slice e.aA e.an e.ac, .slice e.bA e.bn e.bc] 211 (0, 0))) : Kd.C kRe W (some ⟨b, 0, none⟩) 1 [e] := by
  refine ⟨rfl, by decide, fun _ => ⟨_, rfl, fun j p hj => ?_⟩⟩
  match j, hj with
  | 0, hj =>
    obtain rfl : e = p := by simpa using hj
    refine ⟨csRe e, rfl, rfl, fun i u hu => ?_⟩
    have hc : ∀ i, (csRe e)[i]? = some u → W.cell? ⟨b, i, none⟩ = some u := fun i hu => by
      rw [blk_cell h i]
      match i, hu with
      | 0, hu => simpa [csRe] using hu
      | 1, hu => simpa [csRe] using hu
      | 2, hu => simpa [csRe] using hu
      | i + 3, hu => simp [csRe] at hu
    have e0 : (⟨b, 0, none⟩ : Addr).add (0 * kRe.sz + i) = ⟨b, i, none⟩ := by
      rw [Nat.zero_mul, Nat.zero_add]
      exact add_at b i
    have := hc i hu
    first
      | exact this
      | (rw [e0]; exact this)
      | simpa [Addr.add] using this
theorem re_get {W : World} {A : Option Addr} {n : Nat} {xs : List Rst} (h : Kd.C kRe W A n xs) (hn : n = xs.length) {i : Nat} (hi : i < xs.length) :
    ∃ ad, A = some ad ∧ W.cell? (ad.add (i * 3)) = some (.slice xs[i].wA xs[i].wn xs[i].wc) ∧ W.cell? ⟨(ad.add (i * 3)).block, (ad.add (i * 3)).off + 1, none⟩ = some (.slice xs[i].aA xs[i].an xs[i].ac) ∧ W.cell? ⟨(ad.add (i * 3)).block, (ad.add (i * 3)).off + 2, none⟩ = some (.slice xs[i].bA xs[i].bn xs[i].bc) := by
  subst hn
  obtain ⟨ad, c, e0, _, hK, hc0⟩ := Kd.C_get h xs[i] (i : Int) (by omega) (by omega)
  have hx : xs.getD ((i : Int).toNat) xs[i] = xs[i] := by simp [List.getD_eq_getElem?_getD, hi]
  rw [hx] at hK
  obtain rfl : c = csRe xs[i] := hK
  have z0 := hc0 0 _ rfl
  have z1 := hc0 1 _ rfl
  have z2 := hc0 2 _ rfl
  rw [Int.toNat_natCast] at z0 z1 z2
  refine ⟨ad, e0, z0, ?_, ?_⟩
  · rw [show kRe.sz = 3 from rfl, ← Addr.add_add, add_pos _ (by omega)] at z1
    exact z1
  · rw [show kRe.sz = 3 from rfl, ← Addr.add_add, add_pos _ (by omega)] at z2
    exact z2
/-! ### the search's memory -/
/-- an own row of at most m ints -/
def RowAt (W : World) (base m : Nat) (A : Option Addr) (n c : Nat) : Prop := ∃ g xs, A = some ⟨g, 0, none⟩ ∧ Row W g xs c ∧ n = xs.length ∧ n ≤ m ∧ base ≤ g
structure RstOk (W w0 : World) (m : Nat) (e : Rst) (r : List Int) : Prop where
  n : e.wn = r.length
  c : e.wn ≤ e.wc
  r : Kd.C (Kd.int .i64) w0 e.wA e.wn r
  a : RowAt W w0.heap.size m e.aA e.an e.ac
  b : RowAt W w0.heap.size m e.bA e.bn e.bc
theorem RowAt.keep {W W' : World} {base m : Nat} {A : Option Addr} {n c : Nat} (h : RowAt W base m A n c) (hk : ∀ (g : Nat) (cs : Array Value), W.heap[g]? = some (.cells cs 3 (0, 0)) → W'.heap[g]? = W.heap[g]?) : RowAt W' base m A n c := by
  obtain ⟨g, xs, h1, h2, h3, h4, h5⟩ := h
  obtain ⟨rest, hb, h6, h7⟩ := h2
  exact ⟨g, xs, h1, ⟨rest, (hk g _ hb).trans hb, h6, h7⟩, h3, h4, h5⟩
theorem RowAt.more {W : World} {base m m' : Nat} {A : Option Addr} {n c : Nat} (h : RowAt W base m A n c) (hm : m ≤ m') : RowAt W base m' A n c := by
  obtain ⟨g, xs, h1, h2, h3, h4, h5⟩ := h
  exact ⟨g, xs, h1, h2, h3, Nat.le_trans h4 hm, h5⟩
theorem RstOk.keep {W W' w0 : World} {m : Nat} {e : Rst} {r : List Int} (h : RstOk W w0 m e r) (hk : ∀ (g : Nat) (cs : Array Value), W.heap[g]? = some (.cells cs 3 (0, 0)) → W'.heap[g]? = W.heap[g]?) : RstOk W' w0 m e r := ⟨h.n, h.c, h.r, h.a.keep hk, h.b.keep hk⟩
theorem RstOk.below {W W' w0 : World} {m : Nat} {e : Rst} {r : List Int} (h : RstOk W w0 m e r) (hb : Below W.heap.size W W') : RstOk W' w0 m e r := h.keep fun g cs hg => hb.block g (blk_lt hg)
theorem blk_ne {W : World} {g g' t t' : Nat} {cs cs' : Array Value} (h : W.heap[g]? = some (.cells cs t (0, 0))) (h' : W.heap[g']? = some (.cells cs' t' (0, 0))) (ht : t ≠ t') : g ≠ g' := by
  rintro rfl
  rw [h] at h'
  injection h' with h'
  injection h' with _ h'
  exact ht h'
theorem mapk_ne {κ : Type} [DecidableEq κ] {P : Program} {t : TypeId} {E : KeyE P t κ} {W : World} {bm : Nat} {kvs : List (κ × Value)} (h : MapK E W bm kvs) {k : Nat} {cs : Array Value} {t : Nat} {m : Nat × Nat} (hk : W.heap[k]? = some (.cells cs t m)) : k ≠ bm := by
  rintro rfl
  obtain ⟨⟨es, c, h1, _⟩, _⟩ := h
  rw [h1] at hk
  injection hk with hk
  cases hk
def kvU (ms : List (List Int)) : List (List Int × Value) := ms.map fun r => (r, .int .i64 1)
structure UniM (E : KeyE Try.prog 9 (List Int)) (w0 W : World) (b9 bm b10 bx : Nat) (l ms al : List (List Int)) (rs : List Rst) (A : Option Addr) (c : Nat) : Prop where
  b : Below w0.heap.size w0 W
  s : W.heap[b9]? = some (.cells #[.map (some bm)] 145 (0, 0))
  m : MapK E W bm (kvU ms)
  x : W.heap[b10]? = some (.cells #[.slice A rs.length c] 209 (0, 0))
  r : Kd.R kRe 211 W w0.heap.size (fun k => k ≠ bx) (.slice A rs.length c) rs
  len : rs.length = al.length
  e : ∀ j (h : j < rs.length), RstOk W w0 (j + 1) rs[j] (al.getD j [])
  row : RowR l al
  bx : ∃ cs t, W.heap[bx]? = some (.cells cs t (0, 0)) ∧ t ≠ 209
  lo : w0.heap.size ≤ bm ∧ w0.heap.size ≤ b10
section
variable {E : KeyE Try.prog 9 (List Int)} {w0 W W' : World} {b9 bm b10 bx : Nat} {l ms ms' al : List (List Int)} {rs : List Rst} {A : Option Addr} {c : Nat}
theorem UniM.below (h : UniM E w0 W b9 bm b10 bx l ms al rs A c) (hb : Below W.heap.size W W') : UniM E w0 W' b9 bm b10 bx l ms al rs A c :=
  ⟨below_step h.b hb, blk_below h.s hb, h.m.below hb, blk_below h.x hb, Kd.R_below h.r hb, h.len, fun j hj => (h.e j hj).below hb, h.row, (by obtain ⟨cs, t, h1, h2⟩ := h.bx; exact ⟨cs, t, blk_below h1 hb, h2⟩), h.lo⟩
theorem UniM.upd (h : UniM E w0 W b9 bm b10 bx l ms al rs A c) (hm : MapK E W' bm (kvU ms')) (ht : Turned bm W W') : UniM E w0 W' b9 bm b10 bx l ms' al rs A c where
  b := ht.below h.b h.lo.1
  s := (ht.block b9 (mapk_ne h.m h.s)).trans h.s
  m := hm
  x := (ht.block b10 (mapk_ne h.m h.x)).trans h.x
  r := Kd.R_mono (Kd.R_move (Kd.R_bound h.r) fun k hk => by
    obtain ⟨_, _, _, q, _, cells, hc⟩ := hk
    exact ht.block k (mapk_ne h.m hc)) (fun _ hk => hk.1)
  len := h.len
  e := fun j hj => (h.e j hj).keep fun g cs hg => ht.block g (mapk_ne h.m hg)
  row := h.row
  bx := by obtain ⟨cs, t, h1, h2⟩ := h.bx; exact ⟨cs, t, (ht.block bx (mapk_ne h.m h1)).trans h1, h2⟩
  lo := h.lo
theorem UniM.push (h : UniM E w0 W b9 bm b10 bx l ms al rs A c) {e : Rst} {r : List Int} {A' : Option Addr} {c' : Nat} (hR : Kd.R kRe 211 W' w0.heap.size (fun k => k ≠ bx) (.slice A' (rs ++ [e]).length c') (rs ++ [e])) (hg : W.grownBy W' (Value.slice A rs.length c).ownBlock) (hb : Below w0.heap.size w0 W') (hr : RstOk W w0 (al.length + 1) e r) (row : RowR l (al ++ [r])) :
    UniM E w0 (W'.setCell ⟨b10, 0, none⟩ (.slice A' (rs ++ [e]).length c')) b9 bm b10 bx l ms (al ++ [r]) (rs ++ [e]) A' c' := by
  have kp : ∀ (g : Nat) (cs : Array Value) (t : Nat), W.heap[g]? = some (.cells cs t (0, 0)) → t ≠ 211 → W'.heap[g]? = W.heap[g]? := fun g cs t hh ht => hg.block g (blk_lt hh) (Kd.R_ne h.r hh (Ne.symm ht))
  have x' : W'.heap[b10]? = some (.cells #[.slice A rs.length c] 209 (0, 0)) := (kp b10 _ _ h.x (by decide)).trans h.x
  have kp2 : ∀ g : Nat, g ≠ b10 → (W'.setCell ⟨b10, 0, none⟩ (.slice A' (rs ++ [e]).length c')).heap[g]? = W'.heap[g]? := fun g hgb => Below.heap_setCell _ _ _ _ hgb
  have ki : ∀ (g : Nat) (cs : Array Value), W.heap[g]? = some (.cells cs 3 (0, 0)) → (W'.setCell ⟨b10, 0, none⟩ (.slice A' (rs ++ [e]).length c')).heap[g]? = W.heap[g]? := fun g cs hh => (kp2 g (blk_ne hh h.x (by decide))).trans (kp g _ _ hh (by decide))
  have hbm : W'.heap[bm]? = W.heap[bm]? := hg.block bm h.m.lt (fun eq => by
    obtain ⟨_, _, _, q, _, cells, hc⟩ := (Kd.R_bound h.r).1 bm eq.symm
    exact mapk_ne h.m hc rfl)
  refine ⟨below_set hb h.lo.2, (kp2 b9 (blk_ne h.s h.x (by decide))).trans ((kp b9 _ _ h.s (by decide)).trans h.s), ?_, by simpa using blk_set x' 0 (.slice A' (rs ++ [e]).length c'), Kd.R_set hR x' (fun q hq => by rw [List.mem_singleton.1 hq]; decide) 0 _, by simp [h.len], fun j hj => ?_, row, ?_, h.lo⟩
  · refine h.m.keep ((kp2 bm ?_).trans hbm)
    exact Ne.symm (mapk_ne h.m h.x)
  · by_cases hlt : j < rs.length
    · rw [List.getElem_append_left hlt, List.getD_eq_getElem?_getD, List.getElem?_append_left (by rw [← h.len]; exact hlt), ← List.getD_eq_getElem?_getD]
      exact (h.e j hlt).keep ki
    · have hje : j = rs.length := by rw [List.length_append] at hj; simp at hj; omega
      subst hje
      rw [List.getElem_append_right (Nat.le_refl _)]
      have e2 : (al ++ [r]).getD rs.length [] = r := by rw [h.len, List.getD_eq_getElem?_getD, List.getElem?_append_right (Nat.le_refl _)]; simp
      rw [e2]
      simp only [Nat.sub_self, List.getElem_cons_zero]
      rw [h.len]
      exact hr.keep ki
  · obtain ⟨cs, t, h1, h2⟩ := h.bx
    have hxo : some bx ≠ (Value.slice A rs.length c).ownBlock := fun eq => h.r.1 bx eq.symm rfl
    exact ⟨cs, t, (kp2 bx (blk_ne h1 h.x h2)).trans ((hg.block bx (blk_lt h1) hxo).trans h1), h2⟩
end
end Go.Proofs.Ytampgoendkjkhaa.H

namespace Go.Proofs.Ytampgoendkjkhaa.H
open Go.RowKit Go.Maps Go.Shelf Go.Proofs.YtampgoendkjkhaaW.PrintWords Go.Proofs.YtampgoendkjkhaaW.PrintMore Go.Proofs.Ytampgoendkjkhaa.DtM Go.Proofs.Ytampgoendkjkhaa.LyM
set_option linter.unusedVariables false
set_option linter.unusedSimpArgs false
def PutPost (E : KeyE Try.prog 9 (List Int)) (w0 W : World) (b9 bm b10 bx : Nat) (l al : List (List Int)) (rs : List Rst) (r : List Int) (w' : World) : Prop :=
  ∃ ma ms A' c', UniM E w0 w' b9 bm b10 bx l (al ++ ma) (al ++ ma) (rs ++ ms) A' c' ∧ r ∈ al ++ ma ∧ w'.heap[bx]? = W.heap[bx]?
theorem lk_in {ms : List (List Int)} {r : List Int} (hn : ((kvU ms).map (·.1)).Nodup) (h : r ∈ ms) : lk (kvU ms) r = some (.int .i64 1) := lk_some hn (List.mem_map.2 ⟨r, h, rfl⟩)
theorem lk_out {ms : List (List Int)} {r : List Int} (h : r ∉ ms) : lk (kvU ms) r = none := lk_none fun p hp e => by
  obtain ⟨q, hq, rfl⟩ := List.mem_map.1 hp
  exact h (e ▸ hq)
theorem put_out {ms : List (List Int)} {r : List Int} (h : r ∉ ms) : put (kvU ms) r (.int .i64 1) = kvU (ms ++ [r]) := by
  unfold put
  rw [lk_out h]
  simp [kvU]
set_option maxHeartbeats 8000000 in
set_option maxRecDepth 100000 in
theorem put_calls (E : KeyE Try.prog 9 (List Int)) (hE1 : E.enc = fun x => .string (bstr x)) (hE2 : E.ok = okL) (w0 W : World) (b9 bm b10 bx : Nat) (l al : List (List Int)) (rs : List Rst) (A : Option Addr) (c : Nat) (wA : Option Addr) (wc : Nat) (aA : Option Addr) (an ac : Nat) (bA : Option Addr) (bn bc : Nat) (r : List Int)
    (hok : okL r) (h : UniM E w0 W b9 bm b10 bx l al al rs A c) (hr : RstOk W w0 (al.length + 1) ⟨wA, r.length, wc, aA, an, ac, bA, bn, bc⟩ r) (hend : EndOf l r) (hlen : al.length ≤ 1000) :
    Calls Try.prog 106 #[.agg #[.slice wA r.length wc, .slice aA an ac, .slice bA bn bc], .pointer (some ⟨b9, 0, none⟩), .pointer (some ⟨b10, 0, none⟩)] W fun e w' => e = .returned (.tuple #[]) ∧ PutPost E w0 W b9 bm b10 bx l al rs r w' := by
  have HOK := Aside0.mk hok
  have HE := Aside0.mk (And.intro hE1 hE2)
  have B1 := Aside0.mk (below_alloc (Below.refl W.heap.size W) (.cells #[.slice wA r.length wc, .slice aA an ac, .slice bA bn bc] 211))
  have X1 := Aside0.mk (blk_new W (.cells #[.slice wA r.length wc, .slice aA an ac, .slice bA bn bc] 211 (0, 0)))
  have M1 := Aside0.mk (h.below B1.out)
  have HR := Aside0.mk hr
  have HL := Aside0.mk (And.intro hend hlen)
  obtain ⟨csx, tx, hbx0, htx⟩ := h.bx
  have HBX := Aside0.mk (show bx < W.heap.size from blk_lt hbx0)
  have HK := Aside0.mk (fun W' (hb : Below w0.heap.size w0 W') => key_calls wA wc r W' (Kd.C_below hr.r hb) hr.c (by have := hok.2; omega))
  clear hok hE1 hE2 h hr hend hlen hbx0
  go_enter Try.func106, Try.ntmps106
  go_upto_region 1 with fail
  obtain ⟨b3, hb3⟩ : ∃ b3, b3 = W.heap.size := ⟨_, rfl⟩
  rw [← hb3] at X1 ⊢
  have HZ := Aside0.mk hb3
  clear hb3
  generalize W.alloc (.cells #[.slice wA r.length wc, .slice aA an ac, .slice bA bn bc] 211) = W1 at B1 X1 M1 ⊢
  have k0 : W1.cell? ⟨b3, 0, none⟩ = some (.slice wA r.length wc) := (blk_cell X1.out 0).trans rfl
  go_upto_region 2 with (go_at_call 57; refine (HK.out _ M1.out.b).mono ?_; rintro e w2 ⟨rfl, hb2⟩; have B2 := Aside0.mk hb2; clear hb2)
  have M2 := Aside0.mk (M1.out.below B2.out)
  have X2 := Aside0.mk (blk_below X1.out B2.out)
  have BX2 := Aside0.mk ((below_step B1.out B2.out).block bx HBX.out)
  clear k0 X1 M1 HK
  have k9 : w2.cell? ⟨b9, 0, none⟩ = some (.map (some bm)) := (blk_cell M2.out.s 0).trans rfl
  have hlk := M2.out.m.look r (by rw [HE.out.2]; exact HOK.out) Try.underlying145 (zero3 w2) false
  rw [HE.out.1] at hlk
  by_cases hin : r ∈ al
  · rw [lk_in M2.out.m.2.1 hin] at hlk
    have HIN := Aside0.mk hin
    clear hin
    go_wp2_with fail
    refine Go.Great.bodyPost_end0 rfl rfl ?_
    exact ⟨rfl, [], [], A, c, by simpa using M2.out, by simpa using HIN.out, BX2.out⟩
  · rw [lk_out hin] at hlk
    obtain ⟨w3, hrun3, hM3, ht3⟩ := M2.out.m.upd r (by rw [HE.out.2]; exact HOK.out) Try.underlying145 (.int .i64 1)
    rw [HE.out.1] at hrun3
    rw [put_out hin] at hM3
    have HIN := Aside0.mk hin
    have M3 := Aside0.mk (M2.out.upd hM3 ht3)
    have X3 := Aside0.mk ((ht3.block b3 (mapk_ne M2.out.m X2.out)).trans X2.out)
    have HR4 := Aside0.mk (show RstOk w3 w0 (al.length + 1) ⟨wA, r.length, wc, aA, an, ac, bA, bn, bc⟩ r from ((HR.out.below (below_step B1.out B2.out))).keep fun g cs hg => ht3.block g (mapk_ne M2.out.m hg))
    have BX3 := Aside0.mk (show w3.heap[bx]? = W.heap[bx]? from by
      obtain ⟨cs, t, h1, _⟩ := M2.out.bx
      exact (ht3.block bx (mapk_ne M2.out.m h1)).trans BX2.out)
    clear hin hM3 ht3
    go_upto_region 4 with fail
    have k10 : w3.cell? ⟨b10, 0, none⟩ = some (.slice A rs.length c) := (blk_cell M3.out.x 0).trans rfl
    have z0 : w3.cell? ⟨b3, 0, none⟩ = some (.slice wA r.length wc) := (blk_cell X3.out 0).trans rfl
    have z1 : w3.cell? ⟨b3, 1, none⟩ = some (.slice aA an ac) := (blk_cell X3.out 1).trans rfl
    have z2 : w3.cell? ⟨b3, 2, none⟩ = some (.slice bA bn bc) := (blk_cell X3.out 2).trans rfl
    obtain ⟨e0, he0⟩ : ∃ e0 : Rst, e0 = ⟨wA, r.length, wc, aA, an, ac, bA, bn, bc⟩ := ⟨_, rfl⟩
    have M4 := Aside0.mk (M3.out.below (below_alloc (Below.refl w3.heap.size w3) (.cells #[.slice wA r.length wc, .slice aA an ac, .slice bA bn bc] 211)))
    have L4 := Aside0.mk (show Kd.C kRe (w3.alloc (.cells #[.slice wA r.length wc, .slice aA an ac, .slice bA bn bc] 211)) (some ⟨w3.heap.size, 0, none⟩) 1 [e0] from by rw [he0]; exact lit_re (e := ⟨wA, r.length, wc, aA, an, ac, bA, bn, bc⟩) (blk_new w3 (.cells #[.slice wA r.length wc, .slice aA an ac, .slice bA bn bc] 211 (0, 0))))
    have R4 := Aside0.mk (show RstOk (w3.alloc (.cells #[.slice wA r.length wc, .slice aA an ac, .slice bA bn bc] 211)) w0 (al.length + 1) e0 r from by rw [he0]; exact (HR4.out).below (below_alloc (Below.refl w3.heap.size w3) _))
    have HRS := Aside0.mk (show rs.length ≤ 1000 from by have := M3.out.len; have := HL.out.2; omega)
    have ROW := Aside0.mk (M3.out.row.put HL.out.1 HIN.out)
    clear hlk hrun3 k9 he0
    go_wp2_with (first
      | (at_builtin
         refine Kd.R_append_rows kRe (w0 := w0) w0.heap.size rfl _ _ 209 211 (.agg #[.slice none 0 0, .slice none 0 0, .slice none 0 0]) 72 rfl Try.underlying209 info_re rfl (by decide) (by decide) (.slice A rs.length c) rs [e0] (some ⟨w3.heap.size, 0, none⟩) 1 1 (fun k => k ≠ bx) (fun _ => False) rfl rfl M4.out.r L4.out (fun _ _ h => h) (fun _ h => h.elim) ?q1 M4.out.b M4.out.b.size ?q2 ?_
         (case q1 => exact fun k hk => by have := blk_lt M4.out.bx.choose_spec.choose_spec.1; omega)
         (case q2 => have := HRS.out; omega)
         intro v5 w5 hown hb5 hg5 hat5
         obtain ⟨A5, c5, rfl⟩ := Kd.R_slice hown
         clear hat5
         have M6 := Aside0.mk (M4.out.push hown hg5 hb5 R4.out ROW.out)
         have x5 : w5.heap[b10]? = some (.cells #[.slice A rs.length c] 209 (0, 0)) := (hg5.block b10 (blk_lt M4.out.x) (Kd.R_ne M4.out.r M4.out.x (by decide))).trans M4.out.x
         have f10 := blk_frozen x5 0
         have c10 : w5.cell? ⟨b10, 0, none⟩ = some (.slice A rs.length c) := (blk_cell x5 0).trans rfl
         clear x5
         have BX6 := Aside0.mk (show (w5.setCell ⟨b10, 0, none⟩ (.slice A5 (rs ++ [e0]).length c5)).heap[bx]? = W.heap[bx]? from by
           obtain ⟨cs, t, h1, h2⟩ := M4.out.bx
           refine (Below.heap_setCell _ _ _ _ (blk_ne h1 M4.out.x h2)).trans ((hg5.block bx (blk_lt h1) (fun eq => M4.out.r.1 bx eq.symm rfl)).trans ?_)
           exact ((below_alloc (Below.refl w3.heap.size w3) _).block bx (by obtain ⟨_, _, h3, _⟩ := M3.out.bx; exact blk_lt h3)).trans BX3.out)
         rw [show (rs ++ [e0]).length = rs.length + 1 from by simp] at BX6
         replace M6 : Aside0 (UniM E w0 (w5.setCell ⟨b10, 0, none⟩ (.slice A5 (rs.length + 1) c5)) b9 bm b10 bx l (al ++ [r]) (al ++ [r]) (rs ++ [e0]) A5 c5) := ⟨by have := M6.out; rwa [show (rs ++ [e0]).length = rs.length + 1 from by simp] at this⟩
         clear hown hb5 hg5)
      | fail)
    refine Go.Great.bodyPost_end0 rfl rfl ?_
    exact ⟨rfl, [r], [e0], A5, c5, M6.out, by simp, BX6.out⟩
end Go.Proofs.Ytampgoendkjkhaa.H

namespace Go.Proofs.Ytampgoendkjkhaa.H
open Go.RowKit Go.Maps Go.Shelf Go.Proofs.YtampgoendkjkhaaW.PrintWords Go.Proofs.YtampgoendkjkhaaW.PrintMore Go.Proofs.Ytampgoendkjkhaa.DtM Go.Proofs.Ytampgoendkjkhaa.LyM
set_option linter.unusedVariables false
set_option linter.unusedSimpArgs false
theorem Fst.step {l al : List (List Int)} {i k : Nat} (h : Fst l al i k) (ma : List (List Int)) (hs : i ≠ k → ∀ r, l.getD i [] = l.getD k [] ++ r → r ∈ al ++ ma) : Fst l (al ++ ma) i (k + 1) := fun i' k' h1 h2 h3 h4 r hr => by
  by_cases e : i' = i ∧ k' = k
  · obtain ⟨rfl, rfl⟩ := e; exact hs h4 r hr
  · exact List.mem_append.2 (.inl (h i' k' h1 h2 (by omega) h4 r hr))
theorem Fst.row {l al : List (List Int)} {i : Nat} (h : Fst l al i l.length) : Fst l al (i + 1) 0 := fun i' k' h1 h2 h3 h4 r hr => h i' k' h1 h2 (by omega) h4 r hr
theorem Fst.zero (l al : List (List Int)) : Fst l al 0 0 := fun i' k' h1 h2 h3 h4 r hr => by omega
theorem Snd.zero (l al : List (List Int)) : Snd l al 0 0 := fun i' k' h1 h2 h3 => by omega
theorem Snd.row {l al : List (List Int)} {j : Nat} (h : Snd l al j l.length) : Snd l al (j + 1) 0 := fun i' k' h1 h2 h3 => h i' k' h1 h2 (by omega)
theorem getD_app {al ma : List (List Int)} {j : Nat} (hj : j < al.length) : (al ++ ma).getD j [] = al.getD j [] := by rw [List.getD_eq_getElem?_getD, List.getD_eq_getElem?_getD, List.getElem?_append_left hj]
theorem Snd.step {l al : List (List Int)} {j k : Nat} (h : Snd l al j k) (hj : j < al.length) (ma : List (List Int)) (hs : ∀ r', (al.getD j [] = l.getD k [] ++ r' → r' ∈ al ++ ma) ∧ (l.getD k [] = al.getD j [] ++ r' → r' ∈ al ++ ma)) : Snd l (al ++ ma) j (k + 1) := fun j' k' h1 h2 h3 r' => by
  by_cases e : j' = j ∧ k' = k
  · obtain ⟨rfl, rfl⟩ := e; rw [getD_app hj]; exact hs r'
  · have hj' : j' < al.length := by omega
    have := h j' k' hj' h2 (by omega) r'
    rw [getD_app hj']
    exact ⟨fun q => List.mem_append.2 (.inl (this.1 q)), fun q => List.mem_append.2 (.inl (this.2 q))⟩
theorem NoE.more {al : List (List Int)} {j : Nat} (h : NoE al j) (hj : j ≤ al.length) (ma : List (List Int)) : NoE (al ++ ma) j := fun j' hj' => by rw [getD_app (by omega)]; exact h j' hj'
theorem NoE.step {al : List (List Int)} {j : Nat} (h : NoE al j) (hn : al.getD j [] ≠ []) : NoE al (j + 1) := fun j' hj' => by
  by_cases e : j' = j
  · subst e; exact hn
  · exact h j' (by omega)
theorem end_word {l : List (List Int)} {i : Nat} (hi : i < l.length) (n : Nat) : EndOf l ((l.getD i []).drop n) := ⟨i, n, hi, rfl⟩
theorem end_drop {l : List (List Int)} {r : List Int} (h : EndOf l r) (n : Nat) : EndOf l (r.drop n) := by
  obtain ⟨i, m, hi, rfl⟩ := h
  exact ⟨i, m + n, hi, by rw [List.drop_drop]⟩
/-- what Check lets in -/
structure WsU (l : List (List Int)) : Prop where
  n : 1 ≤ l.length ∧ l.length ≤ 10
  w : ∀ w ∈ l, 1 ≤ w.length ∧ w.length ≤ 10 ∧ ∀ a ∈ w, 0 ≤ a ∧ a < 4
theorem wChk_zero {L : Int} : ∀ {l : List (List Int)}, wChk L l = 0 → ∀ w ∈ l, 1 ≤ w.length ∧ w.length ≤ 10 ∧ ∀ a ∈ w, 0 ≤ a ∧ a < L
  | [], _, _, hw => by cases hw
  | v :: t, h, w, hw => by
    unfold wChk at h
    split at h
    · cases h
    · next hv =>
      split at h
      · cases h
      · next hany =>
        rcases List.mem_cons.1 hw with rfl | hw
        · refine ⟨by omega, by omega, fun a ha => ?_⟩
          rw [List.any_eq_true] at hany
          have := fun q => hany ⟨a, ha, q⟩
          unfold noB at this
          simp at this
          omega
        · exact wChk_zero h w hw
theorem cChk_zero {L : Int} {l : List (List Int)} (h : cChk L l = 0) : (1 ≤ L ∧ L ≤ 4) ∧ WsU l ∧ ∀ w ∈ l, ∀ a ∈ w, 0 ≤ a ∧ a < L := by
  unfold cChk at h
  split at h
  · cases h
  · next hL =>
    split at h
    · cases h
    · next hn =>
      have hw := wChk_zero h
      refine ⟨⟨by omega, by omega⟩, ⟨⟨by omega, by omega⟩, fun w hm => ⟨(hw w hm).1, (hw w hm).2.1, fun a ha => by have := (hw w hm).2.2 a ha; omega⟩⟩, fun w hm => (hw w hm).2.2⟩
theorem WsU.get {l : List (List Int)} (h : WsU l) {i : Nat} (hi : i < l.length) : 1 ≤ l[i].length ∧ l[i].length ≤ 10 ∧ ∀ a ∈ l[i], 0 ≤ a ∧ a < 4 := h.w _ (List.getElem_mem hi)
theorem WsU.okL {l : List (List Int)} (h : WsU l) {r : List Int} (hr : EndOf l r) : okL r := by
  obtain ⟨i, n, hi, rfl⟩ := hr
  have e : l.getD i [] = l[i] := by rw [List.getD_eq_getElem?_getD, List.getElem?_eq_getElem hi]; rfl
  rw [e]
  have := h.get hi
  refine ⟨fun a ha => ?_, ?_⟩
  · have := this.2.2 a (List.mem_of_mem_drop ha); omega
  · rw [List.length_drop]; omega
theorem WsU.row {l al : List (List Int)} (h : WsU l) (hr : RowR l al) : al.length ≤ 110 := by
  have h1 := hr.len (B := 10) (fun w hw => (h.w w hw).2.1)
  have := h.n.2
  have : l.length * (10 + 1) ≤ 10 * 11 := Nat.mul_le_mul this (Nat.le_refl _)
  omega
section
variable {E : KeyE Try.prog 9 (List Int)} {w0 W W' : World} {b9 bm b10 bx : Nat} {l ms al : List (List Int)} {rs : List Rst} {A : Option Addr} {c : Nat}
/-- the box of the round's own rest -/
theorem UniM.box (h : UniM E w0 W b9 bm b10 bx l ms al rs A c) (cs : Array Value) : UniM E w0 (W.alloc (.cells cs 211)) b9 bm b10 W.heap.size l ms al rs A c :=
  have g := h.below (below_alloc (Below.refl W.heap.size W) (.cells cs 211))
  ⟨g.b, g.s, g.m, g.x, Kd.R_below (Kd.R_mono (Kd.R_bound h.r) (fun k hk => by have := hk.2.2.1; omega)) (below_alloc (Below.refl W.heap.size W) (.cells cs 211)), g.len, g.e, g.row, ⟨cs, 211, blk_new W _, by decide⟩, g.lo⟩
theorem UniM.unbox (h : UniM E w0 W b9 bm b10 bx l ms al rs A c) : UniM E w0 W b9 bm b10 b9 l ms al rs A c :=
  ⟨h.b, h.s, h.m, h.x, Kd.R_mono (Kd.R_types h.r h.s (fun q hq => by rw [List.mem_singleton.1 hq]; decide)) (fun _ hk => hk.2), h.len, h.e, h.row, ⟨_, _, h.s, by decide⟩, h.lo⟩
theorem UniM.start (E : KeyE Try.prog 9 (List Int)) (w : World) (l : List (List Int)) : UniM E w (((w.alloc (.map #[] 0)).alloc (.cells #[.map (some w.heap.size)] 145)).alloc (.cells #[.slice none 0 0] 209)) (w.heap.size + 1) w.heap.size (w.heap.size + 1 + 1) (w.heap.size + 1) l [] [] [] none 0 :=
  ⟨below_alloc (below_alloc (below_alloc (Below.refl _ _) _) _) _, blk_alloc (blk_newn _ _ _ (by simp)) _, ((mapK_made E w).below (below_alloc (Below.refl _ _) _)).below (below_alloc (Below.refl _ _) _), blk_newn _ _ _ (by simp), Kd.R_nil _ _ _ _ _, rfl, fun j hj => by simp at hj, RowR.nil l, ⟨_, _, blk_alloc (blk_newn _ _ _ (by simp)) _, by decide⟩, ⟨Nat.le_refl _, by omega⟩⟩
end
end Go.Proofs.Ytampgoendkjkhaa.H

namespace Go.Proofs.Ytampgoendkjkhaa.H
open Go.RowKit Go.Maps Go.Shelf Go.Proofs.YtampgoendkjkhaaW.PrintWords Go.Proofs.YtampgoendkjkhaaW.PrintMore Go.Proofs.Ytampgoendkjkhaa.DtM Go.Proofs.Ytampgoendkjkhaa.LyM
set_option linter.unusedVariables false
set_option linter.unusedSimpArgs false
/-- neither is the other's beginning -/
theorem pre_skip {u v : List Int} {n : Nat} (hn : n = min u.length v.length) (h : ¬ u.take n = v.take n) : ∀ r', (v = u ++ r' → False) ∧ (u = v ++ r' → False) := fun r' => by
  refine ⟨fun e => h ?_, fun e => h ?_⟩
  · have hl : u.length ≤ v.length := by rw [e, List.length_append]; omega
    rw [hn, Nat.min_eq_left hl, e]
    simp
  · have hl : v.length ≤ u.length := by rw [e, List.length_append]; omega
    rw [hn, Nat.min_eq_right hl, e]
    simp
theorem pre_le {u v : List Int} (h : u.length ≤ v.length) : ∀ r', (v = u ++ r' → r' = v.drop u.length) ∧ (u = v ++ r' → r' = v.drop u.length) := fun r' => by
  refine ⟨fun e => by rw [e]; simp, fun e => ?_⟩
  have hl := congrArg List.length e
  rw [List.length_append] at hl
  have hr : r' = [] := List.eq_nil_of_length_eq_zero (by omega)
  rw [hr, List.drop_of_length_le (by omega)]
theorem pre_gt {u v : List Int} (h : ¬ u.length ≤ v.length) : ∀ r', (v = u ++ r' → r' = u.drop v.length) ∧ (u = v ++ r' → r' = u.drop v.length) := fun r' => by
  refine ⟨fun e => ?_, fun e => by rw [e]; simp⟩
  have hl := congrArg List.length e
  rw [List.length_append] at hl
  omega
structure Inn (E : KeyE Try.prog 9 (List Int)) (w0 W : World) (b9 bm b10 bx : Nat) (l : List (List Int)) (j : Nat) (e0 : Rst) (v : List Int) (k : Nat) (al : List (List Int)) (rs : List Rst) (A : Option Addr) (c : Nat) : Prop where
  m : UniM E w0 W b9 bm b10 bx l al al rs A c
  x : W.heap[bx]? = some (.cells #[.slice e0.wA e0.wn e0.wc, .slice e0.aA e0.an e0.ac, .slice e0.bA e0.bn e0.bc] 211 (0, 0))
  q : rs[j]? = some e0
  g : al.getD j [] = v
  jl : j < al.length
  f : Fst l al l.length 0
  s : Snd l al j k
  n : NoE al (j + 1)
section
variable {E : KeyE Try.prog 9 (List Int)} {w0 W W' : World} {b9 bm b10 bx : Nat} {l al ma : List (List Int)} {j k : Nat} {e0 : Rst} {v : List Int} {rs ms : List Rst} {A A' : Option Addr} {c c' : Nat}
theorem Inn.e (h : Inn E w0 W b9 bm b10 bx l j e0 v k al rs A c) : RstOk W w0 (j + 1) e0 v := by
  have hj : j < rs.length := by rw [h.m.len]; exact h.jl
  have he : rs[j] = e0 := by have := h.q; rw [List.getElem?_eq_getElem hj] at this; exact Option.some.inj this
  have := h.m.e j hj
  rw [he, h.g] at this
  exact this
theorem Inn.endOf (h : Inn E w0 W b9 bm b10 bx l j e0 v k al rs A c) : EndOf l v := by
  refine h.m.row.sub v ?_
  rw [← h.g, List.getD_eq_getElem?_getD, List.getElem?_eq_getElem h.jl]
  exact List.getElem_mem h.jl
theorem Inn.below (h : Inn E w0 W b9 bm b10 bx l j e0 v k al rs A c) (hb : Below W.heap.size W W') : Inn E w0 W' b9 bm b10 bx l j e0 v k al rs A c :=
  ⟨h.m.below hb, blk_below h.x hb, h.q, h.g, h.jl, h.f, h.s, h.n⟩
theorem Inn.skip (h : Inn E w0 W b9 bm b10 bx l j e0 v k al rs A c) (hs : ∀ r', (v = l.getD k [] ++ r' → False) ∧ (l.getD k [] = v ++ r' → False)) : Inn E w0 W b9 bm b10 bx l j e0 v (k + 1) al rs A c :=
  ⟨h.m, h.x, h.q, h.g, h.jl, h.f, by
    have := h.s.step h.jl [] (fun r' => ⟨fun e => ((hs r').1 (h.g ▸ e)).elim, fun e => ((hs r').2 (h.g ▸ e)).elim⟩)
    simpa using this, h.n⟩
theorem Inn.put (h : Inn E w0 W b9 bm b10 bx l j e0 v k al rs A c) {r : List Int} (hm : UniM E w0 W' b9 bm b10 bx l (al ++ ma) (al ++ ma) (rs ++ ms) A' c') (hr : r ∈ al ++ ma) (hx : W'.heap[bx]? = W.heap[bx]?) (hs : ∀ r', (v = l.getD k [] ++ r' → r' = r) ∧ (l.getD k [] = v ++ r' → r' = r)) : Inn E w0 W' b9 bm b10 bx l j e0 v (k + 1) (al ++ ma) (rs ++ ms) A' c' := by
  have hj : j < rs.length := by rw [h.m.len]; exact h.jl
  refine ⟨hm, hx.trans h.x, ?_, (getD_app h.jl).trans h.g, by rw [List.length_append]; have := h.jl; omega, h.f.more ma, h.s.step h.jl ma (fun r' => ⟨fun e => ?_, fun e => ?_⟩), h.n.more h.jl ma⟩
  · rw [List.getElem?_append_left hj]; exact h.q
  · rw [(hs r').1 (h.g ▸ e)]; exact hr
  · rw [(hs r').2 (h.g ▸ e)]; exact hr
/-- a round begins -/
theorem UniM.inn (h : UniM E w0 W b9 bm b10 b9 l al al rs A c) (hj : j < rs.length) (hf : Fst l al l.length 0) (hs : Snd l al j 0) (hn : NoE al j) (hne : al.getD j [] ≠ []) :
    Inn E w0 (W.alloc (.cells #[.slice rs[j].wA rs[j].wn rs[j].wc, .slice rs[j].aA rs[j].an rs[j].ac, .slice rs[j].bA rs[j].bn rs[j].bc] 211)) b9 bm b10 W.heap.size l j rs[j] (al.getD j []) 0 al rs A c :=
  ⟨h.box _, blk_new W _, List.getElem?_eq_getElem hj, rfl, by rw [← h.len]; exact hj, hf, hs, hn.step hne⟩
end
theorem results_tmp4 {fn : Func} {t u v x : Tmp} (h : fn.results = #[.tmp t, .tmp u, .tmp v, .tmp x]) (tmps : Array Value) (P : Program) (w : World) :
    (results fn tmps).run P w = .ok (.tuple #[tmps.getD t undef, tmps.getD u undef, tmps.getD v undef, tmps.getD x undef]) w := by
  simp [results, h]
theorem RowAt.C {W : World} {base m : Nat} {A : Option Addr} {n c : Nat} (h : RowAt W base m A n c) : ∃ xs, xs.length = n ∧ Kd.C (Kd.int .i64) W A n xs ∧ n ≤ c ∧ n ≤ m := by
  obtain ⟨g, xs, rfl, h2, rfl, h4, h5⟩ := h
  exact ⟨xs, rfl, h2.C, h2.le, h4⟩
theorem rowAt_of_R {W : World} {base lo m : Nat} {A : Option Addr} {n c : Nat} {r : List Int} (h : Kd.R (Kd.int .i64) 3 W base (fun _ => True) (.slice A n c) r) (hn : n = r.length) (hr : 0 < r.length) (hb : lo ≤ base) (hm : r.length ≤ m) : RowAt W lo m A n c := by
  cases A with
  | none =>
    obtain ⟨_, q, _⟩ := int_get (i := 0) (Kd.R_reads' h).2.2 rfl hr
    cases q
  | some ay =>
    obtain ⟨g, rfl, hn, hrow, hgb, _⟩ := row_of_R h
    exact ⟨g, r, rfl, hrow, hn, by omega, by omega⟩
end Go.Proofs.Ytampgoendkjkhaa.H
