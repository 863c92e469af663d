/- Hand-proved: det.Explore at keys that are arrays of 2 ints. -/
import Derived.Test.YtjabncedfjjbjaaArrP
import Derived.Test.YtjabncedfjjbjaaLst
import Derived.WalkKit
import Derived.KernelRfl
import Derived.Outline
namespace Go.Proofs.Ytjabncedfjjbjaa.H
open Go.RowKit Go.Maps Go.Shelf Go.Proofs.YtjabncedfjjbjaaW.PrintWords Go.Proofs.Ytjabncedfjjbjaa.DtM
set_option linter.unusedVariables false
set_option linter.unusedSimpArgs false
abbrev KC : Type := Int × Int
def csC (x : KC) : List Int := [x.1, x.2]
def encC (x : KC) : Value := .agg #[.int .i64 x.1, .int .i64 x.2]
def okC (x : KC) : Prop := (-9223372036854775808 ≤ x.1 ∧ x.1 ≤ 9223372036854775807) ∧ (-9223372036854775808 ≤ x.2 ∧ x.2 ≤ 9223372036854775807)
def kdC : Kd KC := kArr 2 csC (fun _ => rfl)
theorem kaC_laid : laidOutB Try.prog = true := by kernel_rfl
theorem kaC_row : (186 : TypeId) < Try.prog.types.size := of_decide_eq_true (by kernel_rfl)
theorem kaC_wide : (match Try.prog.underlying 186 with | some (.array _ _) | some (.struct _) => true | _ => false) = true := by kernel_rfl
theorem kaC_kt3 : Try.prog.keyTypeAt 3 186 = true := by kernel_rfl
set_option maxRecDepth 100000 in
theorem kaC_law : WideMaps.KeyLaw Try.prog 186 := deep_law_laid (m := 3) kaC_laid (by decide) kaC_row kaC_kt3 kaC_wide
theorem kaC_kt : Try.prog.keyType 186 = true := by kernel_rfl
theorem kaC_c : Try.prog.cellsOf 186 = 2 := by kernel_rfl
theorem kaC_c3 : Try.prog.cellsOf 3 = 1 := by kernel_rfl
theorem kaC_fm (x0 x1 : Int) : (Value.agg #[.int .i64 x0, .int .i64 x1]).formed Try.prog 186 = true := by
  simp [Value.formed, Try.underlying186, kaC_c]
theorem kaC_kl (n : Nat) (x0 x1 : Int) (h0 : (Lit.int .i64 x0).wf = true) (h1 : (Lit.int .i64 x1).wf = true) : (Try.prog.keyLits (n + 2) 186 [.int .i64 x0, .int .i64 x1]) = some [.int .i64 x0, .int .i64 x1] := by
  simp [Program.keyLits, Try.underlying186, Try.underlying3, kaC_c, kaC_c3, List.range_succ, h0, h1]
theorem kaC_tsz : Try.prog.types.size = (Try.prog.types.size - 1) + 1 := by kernel_rfl
theorem kaC_ko (x0 x1 : Int) (h0 : (Lit.int .i64 x0).wf = true) (h1 : (Lit.int .i64 x1).wf = true) : keyOf Try.prog 186 (.agg #[.int .i64 x0, .int .i64 x1]) = some (.string (keyBytes [.int .i64 x0, .int .i64 x1])) := by
  have hw : ∃ n e, Try.prog.underlying 186 = some (.array n e) := ⟨_, _, Try.underlying186⟩
  obtain ⟨n, e, hu⟩ := hw
  unfold keyOf
  rw [hu]
  simp only [kaC_kt, kaC_fm, Bool.and_self, if_true]
  rw [kaC_tsz]
  have := kaC_kl (Try.prog.types.size - 1) x0 x1 h0 h1
  simp only [Value.cells]
  rw [this]
  rfl
theorem keyC : ∃ E : KeyE Try.prog 186 KC, E.enc = encC ∧ E.ok = okC := ⟨{
  enc := encC
  ok := okC
  K := Keyed.of_law kaC_law
  lit := fun a => .string (keyBytes [.int .i64 a.1, .int .i64 a.2])
  key := fun a h => kaC_ko a.1 a.2 (wf_i64 (by have q := h.1; omega)) (wf_i64 (by have q := h.2; omega))
  inj := fun a b _ _ e => by
    unfold encC at e
    injection e with e
    have e0 := congrArg (fun z => z[0]?) e; have e1 := congrArg (fun z => z[1]?) e
    simp at e0 e1
    exact Prod.ext e0 (e1) }, rfl, rfl⟩
theorem kInfoC : (Try.prog.info? 186).map (fun i => (i.zero, i.size, i.bytes)) = some (some (.agg #[.int .i64 0, .int .i64 0]), 2, 16) := by kernel_rfl
def NextAtC (g : Nat) (lb : Array Value) (f : KC → Nat → KC) (U : List KC) (L : Nat) (w : World) : Prop :=
  ∀ (W : World) (k : KC) (a : Nat), Below w.heap.size w W → k ∈ U → a < L → Calls Try.prog g (#[encC k, .int .i64 (a : Int)] ++ lb) W fun e W' => e = .returned (encC (f k a)) ∧ Below W.heap.size W W'
def MarkAtC (g : Nat) (lb : Array Value) (mk : KC → Int) (U : List KC) (w : World) : Prop :=
  ∀ (W : World) (k : KC), Below w.heap.size w W → k ∈ U → Calls Try.prog g (#[encC k] ++ lb) W fun e W' => e = .returned (.int .i64 (mk k)) ∧ Below W.heap.size W W'
structure ExpMC (E : KeyE Try.prog 186 KC) (w wr : World) (av : Nat → Prop) (L : Nat) (x : KC) (l : List KC) (ms : List Int) (rows : List (List Int)) (AL AM AN : Option Addr) (cL cM cN : Nat) (sL sM sN : Nat → Prop) : Prop where
  o : O3g kdC 186 wr (w.heap.size + 4) av (.slice AL l.length cL) l (.slice AM ms.length cM) ms (.slice AN rows.length cN) rows sL sM sN
  m : MapK E wr (w.heap.size + 3) (kvsOf l)
  d : wr.heap[w.heap.size + 2]? = some (.cells #[.int .i64 (L : Int), .int .i64 0, .slice AN rows.length cN, .slice AM ms.length cM] 80 (0, 0))
  r : wr.heap[w.heap.size + 1]? = some (.cells #[.int .i64 0, .int .i64 0, .slice none 0 0, .slice none 0 0] 80 (0, 0))
  b : Below w.heap.size w wr
section
variable {E : KeyE Try.prog 186 KC} {w wr w1 : World} {av av' : Nat → Prop} {L : Nat} {x : KC} {l : List KC} {ms : List Int} {rows : List (List Int)} {AL AM AN : Option Addr} {cL cM cN : Nat} {sL sM sN : Nat → Prop}
theorem ExpMC.below (h : ExpMC E w wr av L x l ms rows AL AM AN cL cM cN sL sM sN) (hb : Below wr.heap.size wr w1) : ExpMC E w w1 av L x l ms rows AL AM AN cL cM cN sL sM sN :=
  ⟨h.o.below hb, h.m.below hb, blk_below h.d hb, blk_below h.r hb, below_step h.b hb⟩
theorem ExpMC.avoid (h : ExpMC E w wr av L x l ms rows AL AM AN cL cM cN sL sM sN) (hav : ∀ k, av' k → av k ∨ wr.heap.size ≤ k) : ExpMC E w wr av' L x l ms rows AL AM AN cL cM cN sL sM sN :=
  ⟨h.o.avoid hav, h.m, h.d, h.r, h.b⟩
theorem ExpMC.setRow (h : ExpMC E w wr av L x l ms rows AL AM AN cL cM cN sL sM sN) {bw : Nat} (hav : av bw) (hb : w.heap.size + 4 ≤ bw) (a : Nat) (u : Value) : ExpMC E w (wr.setCell ⟨bw, a, none⟩ u) av L x l ms rows AL AM AN cL cM cN sL sM sN :=
  ⟨h.o.set (.inr hav) u, h.m.keep (Below.heap_setCell _ ⟨bw, a, none⟩ u _ (by show _ ≠ bw; omega)), blk_far h.d (p := ⟨bw, a, none⟩) (by show _ ≠ bw; omega) u, blk_far h.r (p := ⟨bw, a, none⟩) (by show _ ≠ bw; omega) u, below_set h.b (by omega)⟩
end
set_option maxHeartbeats 16000000 in
set_option maxRecDepth 100000 in
theorem exploreC_calls (g1 g2 : Nat) (lb1 lb2 : Array Value) (eg1 : ∀ args w, (callFunc g1 args).run Try.prog w = .ok (.enter g1 args) w) (eg2 : ∀ args w, (callFunc g2 args).run Try.prog w = .ok (.enter g2 args) w)
    (L : Nat) (x0 x1 : Int) (most : Int) (f : KC → Nat → KC) (mk : KC → Int) (U : List KC) (w : World) (h1 : NextAtC g1 lb1 f U L w) (h2 : MarkAtC g2 lb2 mk U w)
    (hL : 1 ≤ L) (hL4 : L ≤ 1000) (hx : (x0, x1) ∈ U) (hU : ∀ k a, k ∈ U → a < L → f k a ∈ U) (hUk : ∀ k ∈ U, okC k) (hUl : U.length ≤ 900000) (hmost : (U.length : Int) ≤ most) :
    Calls Try.prog 96 #[.int .i64 (L : Int), .agg #[.int .i64 x0, .int .i64 x1], .func (.func g1) #[] lb1, .func (.func g2) #[] lb2, .int .i64 most] w fun e w' => ∃ vN vM : Value, e = .returned (.tuple #[.agg #[.int .i64 (L : Int), .int .i64 0, vN, vM], .bool true]) ∧ Below w.heap.size w w' ∧
      ∃ sN sM : Nat → Prop, (∀ k, sM k → ¬ sN k) ∧ Kd.S (Kd.slice 3 (Kd.int .i64)) 22 w' w.heap.size sN vN (rowsL f L (expL f L (U.length + 1) [(x0, x1)] 0)) ∧ Kd.R (Kd.int .i64) 3 w' w.heap.size sM vM ((expL f L (U.length + 1) [(x0, x1)] 0).map mk) := by
  obtain ⟨E, hE1, hE2⟩ := keyC
  have E1 := Aside0.mk hE1
  have E2 := Aside0.mk hE2
  have H1 := Aside0.mk h1
  have H2 := Aside0.mk h2
  have HX := Aside0.mk hx
  have HU := Aside0.mk hU
  have HUK := Aside0.mk hUk
  have HUL := Aside0.mk hUl
  have HMO := Aside0.mk hmost
  clear h1 h2 hx hU hUk hmost hE1 hE2
  have hmm := @run_makeMap Try.prog
  go_enter Try.func96, Try.ntmps96
  go_wp2_with (first
    | (refine wpList_ins E _ rfl _ _ _ 237 rfl Try.underlying237 (w.heap.size + 3) [] (x0, x1) (.int .i64 0) (by rfl) (by rw [E1.out]; rfl) rfl (mapK_made' _ _ _ (by simp)) (by rw [E2.out]; exact HUK.out _ HX.out) ?_
       intro w2 hM2 ht2
       have e2 : w2.heap.size = w.heap.size + 4 := ht2.size.trans (by simp)
       have XB := Aside0.mk (show w2.heap[w.heap.size]? = some (.cells #[.int .i64 x0, .int .i64 x1] 186 (0, 0)) from (ht2.block _ (by omega)).trans (blk_alloc (blk_alloc (blk_alloc (blk_new w _) _) _) _))
       have xb0 : w2.cell? ⟨w.heap.size, 0, none⟩ = some (.int .i64 x0) := (blk_cell XB.out 0).trans rfl
       have xb1 : w2.cell? ⟨w.heap.size, 1, none⟩ = some (.int .i64 x1) := (blk_cell XB.out 1).trans rfl
       have I0 := Aside0.mk (show ExpMC E w (w2.alloc (.cells #[.int .i64 x0, .int .i64 x1] 186)) (fun _ => False) L (x0, x1) [(x0, x1)] [] [] (some ⟨w.heap.size + 4, 0, none⟩) none none 1 0 0 (fun k => k = w2.heap.size) (fun _ => False) (fun _ => False) from by
         rw [← e2]
         exact { o := { L := arr_lit 2 csC (fun _ => rfl) 186 w2 _ (x0, x1) (by omega), M := Kd.R_nil _ _ _ _ _, N := Kd.S_nil _ _ _ _ _, ltL := fun k hk => (by simp; omega), ltM := fun _ h => h.elim, ltN := fun _ h => h.elim, LM := fun _ _ => id, LN := fun _ _ => id, MN := fun _ _ => id, avL := fun _ _ => id, avM := fun _ _ => id, avN := fun _ _ => id },
                 m := MapK.below hM2 (below_alloc (Below.refl _ _) _),
                 d := blk_alloc ((ht2.block _ (by omega)).trans (blk_alloc (blk_newn _ _ _ (by simp)) _)) _,
                 r := blk_alloc ((ht2.block _ (by omega)).trans (blk_alloc (blk_alloc (blk_newn _ _ _ (by simp)) _) _)) _,
                 b := below_alloc (ht2.below (below_alloc (below_alloc (below_alloc (below_alloc (Below.refl _ _) _) _) _) _) (by omega)) _ })
       clear hM2 ht2)
    | fail)
  generalize w2.alloc (.cells #[.int .i64 x0, .int .i64 x1] 186) = W3 at I0 ⊢
  generalize (some { block := w.heap.size + 4, off := 0 } : Option Addr) = A3 at I0 ⊢
  generalize (fun k => k = w2.heap.size) = s3 at I0
  clear e2 XB xb0 xb1
  have HP0 := Aside0.mk (show ExpPG L f mk U (expL f L (U.length + 1) [(x0, x1)] 0) 0 [(x0, x1)] [] [] from ⟨Nat.zero_le _, Nat.zero_le _, by simp, fun x hx => by simp only [List.mem_singleton] at hx; rw [hx]; exact HX.out, rfl, rfl, rfl, fun j _ hj => by omega⟩)
  obtain ⟨lF, hlF⟩ : ∃ lF, expL f L (U.length + 1) [(x0, x1)] 0 = lF := ⟨_, rfl⟩
  rw [hlF] at HP0
  have HLF := Aside0.mk hlF
  clear hlF
  go_loopg [14] (U.length + 1) (fun gg s14 wr => ∃ (i n iR : Nat) (l : List KC) (ms : List Int) (rows : List (List Int)) (AL AM AN : Option Addr) (cL cM cN : Nat) (sL sM sN : Nat → Prop), U.length + 1 - i ≤ gg ∧ s14 = .slice AL n cL ∧ Aside0 (n = l.length ∧ iR = i) ∧ Aside0 (ExpPG L f mk U lF i l ms rows) ∧ Aside0 (ExpMC E w wr (fun _ => False) L (x0, x1) l ms rows AL AM AN cL cM cN sL sM sN))
  case atStart => exact ⟨0, 1, 0, [(x0, x1)], [], [], A3, none, none, 1, 0, 0, s3, _, _, by omega, rfl, ⟨rfl, rfl⟩, HP0, I0⟩
  case round =>
    obtain ⟨i, n, iR, l, ms, rows, AL, AM, AN, cL, cM, cN, sL, sM, sN, hg, rfl, HN, HP, HM⟩ := hrel
    clear I0 HP0
    have er : rows.length = i := by rw [HP.out.rows]; simp [rowsAtG]; have := HP.out.il; omega
    have em : ms.length = i := by rw [HP.out.ms]; simp; have := HP.out.il; omega
    have hd := HM.out.d
    have d2 : wr.cell? ⟨w.heap.size + 1 + 1, 2, none⟩ = some (.slice AN i cN) := by rw [show w.heap.size + 1 + 1 = w.heap.size + 2 from rfl, blk_cell hd 2, er]; rfl
    have d3 : wr.cell? ⟨w.heap.size + 1 + 1, 3, none⟩ = some (.slice AM i cM) := by rw [show w.heap.size + 1 + 1 = w.heap.size + 2 from rfl, blk_cell hd 3, em]; rfl
    have zd : w.heap.size + 1 + 1 < wr.heap.size := blk_lt hd
    have ER := Aside0.mk (And.intro er em)
    clear hd er em
    have hnU : n ≤ U.length := by rw [HN.out.1]; exact nodup_len HP.out.nd HP.out.sub
    by_cases hlt : i < n
    · have hltz : decide ((i : Int) < (n : Int)) = true := by simp; omega
      have hil : i < l.length := by rw [← HN.out.1]; exact hlt
      obtain ⟨ad, eAL, hk⟩ := arr_get (Kd.R_reads' HM.out.o.L).2.2 rfl hil
      subst eAL
      obtain ⟨gL, rfl⟩ := R_addr HM.out.o.L
      obtain ⟨⟨k0, k1⟩, hkk⟩ : ∃ k, l[i] = k := ⟨_, rfl⟩
      rw [hkk] at hk
      have hk0 : wr.cell? ⟨gL, i * 2, none⟩ = some (.int .i64 k0) := by have q := hk 0 k0 rfl; rw [add_at] at q; exact q
      have hk1 : wr.cell? ⟨gL, i * 2 + 1, none⟩ = some (.int .i64 k1) := by have q := hk 1 k1 rfl; rw [add_at] at q; exact q
      have hkU : (k0, k1) ∈ U := by rw [← hkk]; exact HP.out.sub _ (List.getElem_mem hil)
      have HKU := Aside0.mk hkU
      have HKK := Aside0.mk (show ∃ h : i < l.length, l[i] = (k0, k1) from ⟨hil, hkk⟩)
      obtain ⟨lE, hlE⟩ : ∃ lE, stepL f (k0, k1) L 0 l = lE := ⟨_, rfl⟩
      have HLE := Aside0.mk hlE
      clear hkk hkU hlE hil hk
      obtain ⟨bk, hbk⟩ : ∃ bk, wr.heap.size = bk := ⟨_, rfl⟩
      have HBK := Aside0.mk hbk
      clear hbk
      go_wp2_with (first
        | ((with_reducible refine gate_dst (N := 41) rfl ?_)
           refine Kd.R_make (Kd.int .i64) (w0 := wr.alloc (.cells #[.int .i64 k0, .int .i64 k1] 186)) (wr.alloc (.cells #[.int .i64 k0, .int .i64 k1] 186)).heap.size 3 rfl rfl 22 (.tmp 40) (.tmp 40) rfl (L : Int) rfl rfl Try.underlying22 (.int .i64 0) 8 int3 rfl (by decide) (by decide) (0 : Int) (ok := fun k => (wr.alloc (.cells #[.int .i64 k0, .int .i64 k1] 186)).heap.size ≤ k) (okp := fun _ => False) rfl (fun _ h => h.elim) (Nat.le_refl _) (by omega) (by omega) (Below.refl _ _) (Nat.le_refl _) ?_
           intro v1 w1 hr1 hb1 hg1 hat1
           rw [Int.toNat_natCast] at hr1
           obtain ⟨bw, ebw, hbw⟩ := hat1
           obtain ⟨A1, cw, ev⟩ := Kd.R_slice hr1
           subst ev
           obtain ⟨a1, rfl⟩ : ∃ a1, A1 = some a1 := by cases A1 with
             | none => simp [Value.ownBlock] at ebw
             | some a => exact ⟨a, rfl⟩
           obtain ⟨bw', rfl, hl1, hrow, _, _⟩ := row_of_R hr1
           obtain rfl : bw' = bw := by simpa [Value.ownBlock] using ebw
           have hbw2 : wr.heap.size + 1 ≤ bw' := by simpa using hbw
           have ROW := Aside0.mk hrow
           have HBW := Aside0.mk (show w.heap.size + 4 ≤ bk ∧ bk < bw' by have := HM.out.m.lt; have := HBK.out; omega)
           have M1 := Aside0.mk ((HM.out.avoid (av' := fun k => k = bw' ∨ k = bk) (fun k hk => .inr (by have := HBK.out; omega))).below (below_step (below_alloc (Below.refl _ _) _) hb1))
           have K1 := Aside0.mk (show w1.heap[bk]? = some (.cells #[.int .i64 k0, .int .i64 k1] 186 (0, 0)) from by rw [← HBK.out]; exact blk_below (blk_new wr _) hb1)
           rw [List.length_replicate, HBK.out]
           clear hr1 hb1 hg1 hrow ebw hl1 hbw hbw2)
        | fail)
      have IP0 := Aside0.mk (show InPG L f U (k0, k1) l lE 0 l from ⟨HP.out.nd, HP.out.sub, HLE.out, fun b hb => by omega, [], by simp⟩)
      have R0 := Aside0.mk (show Row w1 bw' (rowAtG f l (k0, k1) 0 ++ List.replicate (L - 0) 0) cw from ROW.out)
      clear ROW hlt hltz hk0 hk1 d2 d3 zd
      go_loopg [14, 43] L (fun gg s14 s43 wq => ∃ (a n' : Nat) (l' : List KC) (AL' : Option Addr) (cL' : Nat) (sL' : Nat → Prop), L - a ≤ gg ∧ a ≤ L ∧ s43 = .int .i64 (a : Int) ∧ s14 = .slice AL' n' cL' ∧ Aside0 (n' = l'.length) ∧ Aside0 (InPG L f U (k0, k1) l lE a l') ∧ Aside0 (Row wq bw' (rowAtG f l' (k0, k1) a ++ List.replicate (L - a) 0) cw) ∧ Aside0 (ExpMC E w wq (fun k => k = bw' ∨ k = bk) L (x0, x1) l' ms rows AL' AM AN cL' cM cN sL' sM sN) ∧ Aside0 (wq.heap[bk]? = some (.cells #[.int .i64 k0, .int .i64 k1] 186 (0, 0))))
      case atStart => exact ⟨0, n, l, some ⟨gL, 0, none⟩, cL, sL, by omega, by omega, rfl, rfl, ⟨HN.out.1⟩, IP0, R0, M1, K1⟩
      case round =>
        obtain ⟨a, n', l', AL', cL', sL', hga, haL, rfl, rfl, HN', IP, RW, MM, KK⟩ := hrel
        clear IP0 R0 M1 K1
        by_cases hal : a < L
        · have hltz : decide ((a : Int) < (L : Int)) = true := by simp; omega
          obtain ⟨⟨t0, t1⟩, htq⟩ : ∃ tq, f (k0, k1) a = tq := ⟨_, rfl⟩
          have htqU : (t0, t1) ∈ U := by rw [← htq]; exact HU.out (k0, k1) a HKU.out hal
          have hok := HUK.out (t0, t1) htqU
          have HTQ := Aside0.mk (And.intro htq htqU)
          have HCALL := Aside0.mk (show Calls Try.prog g1 (#[.agg #[.int .i64 k0, .int .i64 k1], .int .i64 (a : Int)] ++ lb1) wr fun e W' => e = .returned (.agg #[.int .i64 t0, .int .i64 t1]) ∧ Below wr.heap.size wr W' from by have := H1.out wr (k0, k1) a MM.out.b HKU.out hal; rw [htq] at this; exact this)
          have HOK := Aside0.mk hok
          have bc0 : wr.cell? ⟨bk, 0, none⟩ = some (.int .i64 k0) := (blk_cell KK.out 0).trans rfl
          have bc1 : wr.cell? ⟨bk, 1, none⟩ = some (.int .i64 k1) := (blk_cell KK.out 1).trans rfl
          have bcz : bk < wr.heap.size := blk_lt KK.out
          clear htq htqU hok
          have hal2 : (a : Int) < (L : Int) := by omega
          by_cases hm : (t0, t1) ∈ l'
          · obtain ⟨X, hX⟩ : ∃ X : Int, (ixd l' (t0, t1) : Int) = X := ⟨_, rfl⟩
            have HX2 := Aside0.mk hX
            have HLK := Aside0.mk (show lk (kvsOf l') (t0, t1) = some (.int .i64 X) by rw [lk_kvs IP.out.nd, if_pos hm, ixk_ixd, hX])
            have HMM := Aside0.mk hm
            clear hX hm
            go_wp2_with (first
              | (go_at_fn g1
                 refine HCALL.out.mono ?_
                 rintro e w5 ⟨rfl, hb5⟩
                 have M5 := Aside0.mk ((MM.out.below hb5).below (below_alloc (Below.refl _ _) (.cells #[.int .i64 t0, .int .i64 t1] 186)))
                 have R5 := Aside0.mk ((RW.out.below hb5).below (below_alloc (Below.refl _ _) (.cells #[.int .i64 t0, .int .i64 t1] 186)))
                 have K5 := Aside0.mk (blk_alloc (blk_below KK.out hb5) (.cells #[.int .i64 t0, .int .i64 t1] 186))
                 have hlk : (Instr.lookup 237 (.map (some (w.heap.size + 1 + 1 + 1))) (.agg #[.int .i64 t0, .int .i64 t1]) true).run Try.prog (w5.alloc (.cells #[.int .i64 t0, .int .i64 t1] 186)) = .ok (.tuple #[.int .i64 X, .bool true]) (w5.alloc (.cells #[.int .i64 t0, .int .i64 t1] 186)) := by
                   have q := M5.out.m.look (t0, t1) (by rw [E2.out]; exact HOK.out) Try.underlying237 (zero3 _) true
                   rw [HLK.out, E1.out] at q
                   exact q
                 have M50 := Aside0.mk (MM.out.below hb5)
                 have R50 := Aside0.mk (RW.out.below hb5)
                 have K50 := Aside0.mk (blk_below KK.out hb5)
                 have hc5 := (RW.out.below hb5).cell (i := a) (by rw [List.length_append, rowAtG_len, List.length_replicate]; omega)
                 have hf5 := (RW.out.below hb5).frozen a
                 have hz5 := (RW.out.below hb5).lt
                 clear hb5)
              | fail)
            go_roundg (L - (a + 1))
            case measure => omega
            case rel => exact ⟨a + 1, n', l', AL', cL', sL', by omega, by omega, by go_num, rfl, HN', ⟨IP.out.old hal (by rw [HTQ.out.1]; exact HMM.out)⟩, ⟨by have := (R50.out.set (i := a) (by rw [List.length_append, rowAtG_len, List.length_replicate]; omega) X).below (below_alloc (Below.refl _ _) (.cells #[.int .i64 t0, .int .i64 t1] 186)); rw [← HX2.out, ← HTQ.out.1, rowG_next hal] at this; rw [← HX2.out, ← HTQ.out.1]; exact this⟩, ⟨(M50.out.setRow (.inl rfl) (by have := HBW.out; omega) a _).below (below_alloc (Below.refl _ _) _)⟩, ⟨blk_alloc (blk_far K50.out (p := ⟨bw', a, none⟩) (by show bk ≠ bw'; have := HBW.out; omega) _) _⟩⟩
          · have HLK := Aside0.mk (show lk (kvsOf l') (t0, t1) = none by rw [lk_kvs IP.out.nd, if_neg hm])
            have IN := Aside0.mk (show InPG L f U (k0, k1) l lE (a + 1) (l' ++ [(t0, t1)]) from by have := IP.out.new hal (by rw [HTQ.out.1]; exact hm) (by rw [HTQ.out.1]; exact HTQ.out.2); rwa [HTQ.out.1] at this)
            have hnl : n' + 1 ≤ U.length := by
              have := nodup_len IN.out.nd IN.out.sub
              rw [List.length_append] at this
              rw [HN'.out]
              exact this
            have hne : ((n' : Int) == most) = false := beq_eq_false_iff_ne.mpr (by have := HMO.out; omega)
            have HMM := Aside0.mk hm
            have HNL := Aside0.mk hnl
            clear hm hnl
            go_wp2_with (first
              | (go_at_fn g1
                 refine HCALL.out.mono ?_
                 rintro e w5 ⟨rfl, hb5⟩
                 have M5 := Aside0.mk ((MM.out.below hb5).below (below_alloc (Below.refl _ _) (.cells #[.int .i64 t0, .int .i64 t1] 186)))
                 have R5 := Aside0.mk ((RW.out.below hb5).below (below_alloc (Below.refl _ _) (.cells #[.int .i64 t0, .int .i64 t1] 186)))
                 have K5 := Aside0.mk (blk_alloc (blk_below KK.out hb5) (.cells #[.int .i64 t0, .int .i64 t1] 186))
                 have P5 := Aside0.mk (blk_new w5 (.cells #[.int .i64 t0, .int .i64 t1] 186))
                 have hlk : (Instr.lookup 237 (.map (some (w.heap.size + 1 + 1 + 1))) (.agg #[.int .i64 t0, .int .i64 t1]) true).run Try.prog (w5.alloc (.cells #[.int .i64 t0, .int .i64 t1] 186)) = .ok (.tuple #[.int .i64 0, .bool false]) (w5.alloc (.cells #[.int .i64 t0, .int .i64 t1] 186)) := by
                   have q := M5.out.m.look (t0, t1) (by rw [E2.out]; exact HOK.out) Try.underlying237 (zero3 _) true
                   rw [HLK.out, E1.out] at q
                   exact q
                 have HZ5 := Aside0.mk (show w.heap.size + 4 ≤ w5.heap.size ∧ bk < w5.heap.size from by have h1 := MM.out.m.lt; have h2 := hb5.size; have h3 := blk_lt KK.out; omega)
                 clear hb5)
              | (at_mapUpdate
                 refine wpList_upd E _ rfl _ _ _ 237 rfl Try.underlying237 (w.heap.size + 1 + 1 + 1) (kvsOf l') (t0, t1) (.int .i64 (n' : Int)) rfl (by rw [E1.out]; rfl) rfl M5.out.m (by rw [E2.out]; exact HOK.out) ?_
                 intro w6 hM6 ht6
                 rw [HN'.out, put_kvs IP.out.nd HMM.out] at hM6
                 have M6 := Aside0.mk hM6
                 have O6 := Aside0.mk (M5.out.o.turned ht6 (by omega))
                 have D6 := Aside0.mk ((ht6.block _ (by omega)).trans M5.out.d)
                 have Q6 := Aside0.mk ((ht6.block _ (by omega)).trans M5.out.r)
                 have B6 := Aside0.mk (ht6.below M5.out.b (by omega))
                 have R6 := Aside0.mk (R5.out.keep (ht6.block bw' (by have := HBW.out; omega)))
                 have K6 := Aside0.mk ((ht6.block bk (by have := HBW.out; omega)).trans K5.out)
                 have P6 := Aside0.mk ((ht6.block w5.heap.size (by have := HZ5.out; omega)).trans P5.out)
                 have pc0 : w6.cell? ⟨w5.heap.size, 0, none⟩ = some (.int .i64 t0) := (blk_cell P6.out 0).trans rfl
                 have pc1 : w6.cell? ⟨w5.heap.size, 1, none⟩ = some (.int .i64 t1) := (blk_cell P6.out 1).trans rfl
                 clear hM6 ht6)
              | (at_builtin
                 refine Kd.R_append kdC (w0 := w6) (w.heap.size + 4) rfl _ _ 238 186 (.agg #[.int .i64 0, .int .i64 0]) 16 rfl Try.underlying238 kInfoC rfl (by decide) (by decide) (.slice AL' n' cL') l' (t0, t1) [.int .i64 t0, .int .i64 t1] (fun k => sL' k ∨ w6.heap.size ≤ k) (fun _ => False) rfl rfl rfl (fun _ h => h.elim) (fun _ h => .inr h) (Kd.R_mono (by have := O6.out.L; rw [← HN'.out] at this; exact this) (fun _ h => .inl h)) (Below.refl _ _) (by have := M6.out.lt; omega) (by have := HNL.out; rw [← HN'.out]; omega) ?_
                 intro v7 w7 hr7 hb7 hg7 hat7
                 obtain ⟨A7, c7, ev7⟩ := Kd.R_slice hr7
                 subst ev7
                 have hgr : w6.grownBy w7 (Value.slice AL' l'.length cL').ownBlock := by rw [← HN'.out]; exact hg7
                 have hnb : ∀ b, b < w.heap.size + 4 → some b ≠ (Value.slice AL' n' cL').ownBlock := fun b hb e => by
                   have := Kd.R_base O6.out.L b (by rw [← HN'.out]; exact e.symm)
                   omega
                 have hown : ∀ b, (b = bw' ∨ b = bk) → some b ≠ (Value.slice AL' n' cL').ownBlock := fun b hb e => O6.out.avL b (O6.out.L.1 b (by rw [← HN'.out]; exact e.symm)) hb
                 have R7 := Aside0.mk (R6.out.keep (hg7.block bw' R6.out.lt (hown bw' (.inl rfl))))
                 have K7 := Aside0.mk ((hg7.block bk (blk_lt K6.out) (hown bk (.inr rfl))).trans K6.out)
                 have M7 := Aside0.mk (show ExpMC E w w7 (fun k => k = bw' ∨ k = bk) L (x0, x1) (l' ++ [(t0, t1)]) ms rows A7 AM AN c7 cM cN (fun k => (sL' k ∨ w6.heap.size ≤ k) ∧ k < w7.heap.size) sM sN from
                   ⟨O6.out.appL hr7 hgr (fun k hk e => by have h1 := R6.out.lt; have h2 := blk_lt K6.out; rcases e with e | e <;> omega), M6.out.keep (hg7.block _ M6.out.lt (hnb _ (by omega))), (hg7.block _ (blk_lt D6.out) (hnb _ (by omega))).trans D6.out, (hg7.block _ (blk_lt Q6.out) (hnb _ (by omega))).trans Q6.out, B6.out.grown hg7 (by have := M6.out.lt; omega) (fun k hk => by have := Kd.R_base O6.out.L k (by rw [← HN'.out]; exact hk); omega)⟩)
                 obtain ⟨n7, hn7⟩ : ∃ n7, (l' ++ [(t0, t1)]).length = n7 := ⟨_, rfl⟩
                 rw [hn7]
                 have HN7 := Aside0.mk hn7.symm
                 have hc7 := R7.out.cell (i := a) (by rw [List.length_append, rowAtG_len, List.length_replicate]; omega)
                 have hf7 := R7.out.frozen a
                 clear hr7 hb7 hg7 hat7 hgr hnb hn7 hown)
              | fail)
            go_roundg (L - (a + 1))
            case measure => omega
            case rel => exact ⟨a + 1, n7, l' ++ [(t0, t1)], A7, c7, _, by omega, by omega, by go_num, rfl, HN7, IN, ⟨by
                have e1 : rowAtG f l' (k0, k1) a = rowAtG f (l' ++ [(t0, t1)]) (k0, k1) a := (rowAtG_app IP.out.has _).symm
                have e2 : (n' : Int) = (ixd (l' ++ [(t0, t1)]) (f (k0, k1) a) : Int) := by rw [HTQ.out.1, ixd_new HMM.out, HN'.out]
                have := R7.out.set (i := a) (by rw [List.length_append, rowAtG_len, List.length_replicate]; omega) (n' : Int)
                rw [e1, e2, rowG_next hal] at this
                rw [e2]
                exact this⟩, ⟨M7.out.setRow (.inl rfl) (by have := HBW.out; omega) a _⟩, ⟨blk_far K7.out (p := ⟨bw', a, none⟩) (by show bk ≠ bw'; have := HBW.out; omega) _⟩⟩
        · have hae : a = L := by omega
          subst hae
          have hd := MM.out.d
          have d0 : wr.cell? ⟨w.heap.size + 1 + 1, 2, none⟩ = some (.slice AN i cN) := by rw [show w.heap.size + 1 + 1 = w.heap.size + 2 from rfl, blk_cell hd 2, ER.out.1]; rfl
          have f0 : wr.frozen? ⟨w.heap.size + 1 + 1, 2, none⟩ = false := blk_frozen hd 2
          have zd : w.heap.size + 1 + 1 < wr.heap.size := blk_lt hd
          clear hd
          have e0 : rowAtG f l' (k0, k1) a ++ List.replicate (a - a) 0 = rowAtG f l' (k0, k1) a := by rw [Nat.sub_self]; simp
          have RW2 := Aside0.mk (show Row wr bw' (rowAtG f l' (k0, k1) a) cw by have := RW.out; rwa [e0] at this)
          have hiU : i ≤ U.length := HP.out.iU
          clear e0 RW
          go_wp2_with (first
            | (at_builtin
               refine Kd.S_append (Kd.slice 3 (Kd.int .i64)) (w0 := wr) (w.heap.size + 4) rfl _ _ 42 22 (.slice none 0 0) 24 rfl Try.underlying42 row22 rfl (by decide) (by decide) (.slice AN i cN) rows (rowAtG f l' (k0, k1) a) [.slice (some ⟨bw', 0, none⟩) a cw] (fun k => (sN k ∨ k = bw') ∨ wr.heap.size ≤ k) (fun k => k = bw') rfl rfl (Kd.M_row (by have := RW2.out.R (base := w.heap.size + 4) (ok := fun k => k = bw') (by have := HBW.out; omega) rfl; rw [rowAtG_len] at this; exact this)) (fun k hk => ⟨.inl (.inr hk), fun e => MM.out.o.avN k ((Kd.S_R MM.out.o.N).1 k (by rw [ER.out.1]; exact e.symm)) (.inl hk)⟩) (fun _ h => .inr h) (Kd.S_mono (by have := MM.out.o.N; rw [ER.out.1] at this; exact this) (fun k hk => ⟨.inl (.inl hk), fun e => MM.out.o.avN k hk (.inl e)⟩)) (Below.refl _ _) (by have := MM.out.m.lt; omega) (by have := ER.out.1; omega) ?_
               intro v8 w8 hs8 hb8 hg8 hat8
               obtain ⟨A8, c8, ev8⟩ := Kd.S_slice hs8
               subst ev8
               have hgr : wr.grownBy w8 (Value.slice AN rows.length cN).ownBlock := by rw [ER.out.1]; exact hg8
               have hnb : ∀ b, b < w.heap.size + 4 → some b ≠ (Value.slice AN i cN).ownBlock := fun b hb e => by
                 have := Kd.S_base MM.out.o.N b (by rw [ER.out.1]; exact e.symm)
                 omega
               have hnk : some bk ≠ (Value.slice AN i cN).ownBlock := fun e => MM.out.o.avN bk ((Kd.S_R MM.out.o.N).1 bk (by rw [ER.out.1]; exact e.symm)) (.inr rfl)
               have hln : (rows ++ [rowAtG f l' (k0, k1) a]).length = i + 1 := by rw [List.length_append, ER.out.1]; rfl
               have O8 := Aside0.mk (MM.out.o.appN (av' := fun k => k = bk) (.inl rfl) (fun k hk => ⟨.inr hk, by have := HBW.out; omega, by have := blk_lt KK.out; omega⟩) hs8 hgr)
               have D8 := Aside0.mk ((hg8.block _ (blk_lt MM.out.d) (hnb _ (by omega))).trans MM.out.d)
               have Q8 := Aside0.mk ((hg8.block _ (blk_lt MM.out.r) (hnb _ (by omega))).trans MM.out.r)
               have MK8 := Aside0.mk (MM.out.m.keep (hg8.block _ MM.out.m.lt (hnb _ (by omega))))
               have K8 := Aside0.mk ((hg8.block bk (blk_lt KK.out) hnk).trans KK.out)
               have B8 := Aside0.mk (show Below w.heap.size w w8 from MM.out.b.grown hg8 (by have := MM.out.m.lt; omega) (fun k hk => by have := Kd.S_base MM.out.o.N k (by rw [ER.out.1]; exact hk); omega))
               rw [hln]
               have HLN := Aside0.mk hln
               have q2 : w8.cell? ⟨w.heap.size + 1 + 1, 2, none⟩ = some (.slice AN i cN) := by rw [show w.heap.size + 1 + 1 = w.heap.size + 2 from rfl, blk_cell D8.out 2, ER.out.1]; rfl
               have q3 : w8.frozen? ⟨w.heap.size + 1 + 1, 2, none⟩ = false := blk_frozen D8.out 2
               clear hs8 hb8 hg8 hat8 hgr hnb hln hnk)
            | fail)
          have M9 := Aside0.mk (show ExpMC E w (w8.setCell ⟨w.heap.size + 1 + 1, 2, none⟩ (.slice A8 (i + 1) c8)) (fun k => k = bk) a (x0, x1) l' ms (rows ++ [rowAtG f l' (k0, k1) a]) AL' AM A8 cL' cM c8 sL' sM (fun k => ((sN k ∨ k = bw') ∨ wr.heap.size ≤ k) ∧ k < w8.heap.size) from
            ⟨O8.out.set (p := ⟨w.heap.size + 2, 2, none⟩) (.inl (by show w.heap.size + 2 < _; omega)) _, MK8.out.keep (Below.heap_setCell _ ⟨w.heap.size + 2, 2, none⟩ _ _ (by show _ ≠ w.heap.size + 2; omega)), by rw [show w.heap.size + 1 + 1 = w.heap.size + 2 from rfl, blk_set D8.out 2, HLN.out]; rfl, blk_far Q8.out (p := ⟨w.heap.size + 2, 2, none⟩) (by show _ ≠ w.heap.size + 2; omega) _, below_set B8.out (by omega)⟩)
          have K9 := Aside0.mk (blk_far K8.out (p := ⟨w.heap.size + 1 + 1, 2, none⟩) (by show bk ≠ w.heap.size + 1 + 1; have := HBW.out; omega) (.slice A8 (i + 1) c8))
          generalize w8.setCell ⟨w.heap.size + 1 + 1, 2, none⟩ (.slice A8 (i + 1) c8) = W9 at M9 K9 ⊢
          have m3 : W9.cell? ⟨w.heap.size + 1 + 1, 3, none⟩ = some (.slice AM i cM) := by rw [show w.heap.size + 1 + 1 = w.heap.size + 2 from rfl, blk_cell M9.out.d 3, ER.out.2]; rfl
          have zlt : w.heap.size + 1 + 1 < W9.heap.size := blk_lt M9.out.d
          have m40 : W9.cell? ⟨bk, 0, none⟩ = some (.int .i64 k0) := (blk_cell K9.out 0).trans rfl
          have m41 : W9.cell? ⟨bk, 1, none⟩ = some (.int .i64 k1) := (blk_cell K9.out 1).trans rfl
          obtain ⟨mv, hmv⟩ : ∃ mv, mk (k0, k1) = mv := ⟨_, rfl⟩
          have HMV := Aside0.mk hmv
          have HC2 := Aside0.mk (show ∀ W, Below w.heap.size w W → Calls Try.prog g2 (#[.agg #[.int .i64 k0, .int .i64 k1]] ++ lb2) W fun e W' => e = .returned (.int .i64 mv) ∧ Below W.heap.size W W' from fun W hb => by have := H2.out W (k0, k1) hb HKU.out; rw [hmv] at this; exact this)
          clear hmv d0 f0 q2 q3 zd
          go_region_law (first
            | (rw [if_pos (by rfl)]
               go_simp
               go_at_fn g2
               refine (HC2.out _ (by repeat (first | exact M9.out.b | apply below_drew1 | apply pw_below_drewN))).mono ?_
               rintro e w10 ⟨rfl, hb10⟩
               have M10 := Aside0.mk (show ExpMC E w w10 (fun k => k = bk) a (x0, x1) l' ms (rows ++ [rowAtG f l' (k0, k1) a]) AL' AM A8 cL' cM c8 sL' sM (fun k => ((sN k ∨ k = bw') ∨ wr.heap.size ≤ k) ∧ k < w8.heap.size) from M9.out.below (below_step (by repeat (first | exact Below.refl _ _ | apply below_drew1 | apply pw_below_drewN)) hb10))
               have m10 : w10.cell? ⟨w.heap.size + 1 + 1, 3, none⟩ = some (.slice AM i cM) := by rw [show w.heap.size + 1 + 1 = w.heap.size + 2 from rfl, blk_cell M10.out.d 3, ER.out.2]; rfl
               have z10 : w.heap.size + 1 + 1 < w10.heap.size := blk_lt M10.out.d
               clear hb10)
            | (refine' append_int_step (x := mv) (B := w.heap.size + 4) (ok := sM) (.slice AM i cM) ms (.tmp 83) (.tmp 87) 22 (by rfl) (by rfl) Try.underlying22 int3 (by rfl) (by rfl) ?aO ?aC ?aS ?aL ?_
               (case aO => rw [← ER.out.2]; exact (M10.out.o.below (by repeat (first | exact Below.refl _ _ | apply below_drew1 | apply pw_below_drewN | apply below_alloc))).M)
               (case aC => go_simp)
               (case aS => have := M10.out.m.lt; simp; omega)
               (case aL => have := ER.out.2; omega)
               intro v11 w11 hr11 hg11
               have bb := bb_of (w10 := w10) hg11 (by repeat (first | exact Below.refl _ _ | apply below_drew1 | apply pw_below_drewN | apply below_alloc))
               obtain ⟨A11, c11, ev11⟩ := Kd.R_slice hr11
               subst ev11
               have M11 := Aside0.mk ((M10.out.avoid (av' := fun _ => False) (fun _ h => h.elim)).below bb.out)
               have hgr := hg11
               rw [← ER.out.2] at hgr
               have hnb : ∀ b, b < w.heap.size + 4 → some b ≠ (Value.slice AM i cM).ownBlock := fun b hb e => by
                 have := Kd.R_base M11.out.o.M b (by rw [ER.out.2]; exact e.symm)
                 omega
               have hln : (ms ++ [mv]).length = i + 1 := by rw [List.length_append, ER.out.2]; rfl
               have O11 := Aside0.mk (M11.out.o.appM hr11 hgr (fun _ _ => id))
               have D11 := Aside0.mk ((hg11.block _ (blk_lt M11.out.d) (hnb _ (by omega))).trans M11.out.d)
               have Q11 := Aside0.mk ((hg11.block _ (blk_lt M11.out.r) (hnb _ (by omega))).trans M11.out.r)
               have K11 := Aside0.mk (M11.out.m.keep (hg11.block _ M11.out.m.lt (hnb _ (by omega))))
               have B11 := Aside0.mk (show Below w.heap.size w w11 from M11.out.b.grown hg11 (by have := M11.out.m.lt; omega) (fun k hk => by have := Kd.R_base M11.out.o.M k (by rw [ER.out.2]; exact hk); omega))
               rw [hln]
               have HL11 := Aside0.mk hln
               have q11 : w11.cell? ⟨w.heap.size + 1 + 1, 3, none⟩ = some (.slice AM i cM) := by rw [show w.heap.size + 1 + 1 = w.heap.size + 2 from rfl, blk_cell D11.out 3, ER.out.2]; rfl
               have qf11 : w11.frozen? ⟨w.heap.size + 1 + 1, 3, none⟩ = false := blk_frozen D11.out 3
               clear hr11 hg11 hgr hnb hln bb)
            | fail)
          all_goals go_wp2
          all_goals
            go_roundg (U.length + 1 - (i + 1))
            case measure => omega
            case rel => exact ⟨i + 1, n', i + 1, l', ms ++ [mv], rows ++ [rowAtG f l' (k0, k1) a], AL', A11, A8, cL', c11, c8, _, _, _, by omega, rfl, ⟨HN'.out, rfl⟩, ⟨HP.out.next HKK.out HLE.out IP.out HMV.out⟩, ⟨O11.out.set (p := ⟨w.heap.size + 2, 3, none⟩) (.inl (by show w.heap.size + 2 < _; omega)) _, K11.out.keep (Below.heap_setCell _ ⟨w.heap.size + 2, 3, none⟩ _ _ (by show _ ≠ w.heap.size + 2; omega)), by rw [show w.heap.size + 1 + 1 = w.heap.size + 2 from rfl, blk_set D11.out 3, HL11.out]; rfl, blk_far Q11.out (p := ⟨w.heap.size + 2, 3, none⟩) (by show _ ≠ w.heap.size + 2; omega) _, below_set B11.out (by omega)⟩⟩
    · have hin : i = n := by have := HP.out.il; have := HN.out.1; omega
      subst hin
      have hd := HM.out.d
      have hr := HM.out.r
      have d0 : wr.cell? ⟨w.heap.size + 1 + 1, 0, none⟩ = some (.int .i64 (L : Int)) := (blk_cell hd 0).trans rfl
      have d1 : wr.cell? ⟨w.heap.size + 1 + 1, 1, none⟩ = some (.int .i64 0) := (blk_cell hd 1).trans rfl
      have r0 : wr.cell? ⟨w.heap.size + 1, 0, none⟩ = some (.int .i64 0) := (blk_cell hr 0).trans rfl
      have r1 : wr.cell? ⟨w.heap.size + 1, 1, none⟩ = some (.int .i64 0) := (blk_cell hr 1).trans rfl
      have r2 : wr.cell? ⟨w.heap.size + 1, 2, none⟩ = some (.slice none 0 0) := (blk_cell hr 2).trans rfl
      have r3 : wr.cell? ⟨w.heap.size + 1, 3, none⟩ = some (.slice none 0 0) := (blk_cell hr 3).trans rfl
      have f0 := blk_frozen hr 0
      have f1 := blk_frozen hr 1
      have f2 := blk_frozen hr 2
      have f3 := blk_frozen hr 3
      have hil := Aside0.mk (show i = l.length from HN.out.1)
      have FIN := Aside0.mk (show ∃ vN vM : Value, Ending.returned (.tuple #[.agg #[.int .i64 (L : Int), .int .i64 0, .slice AN i cN, .slice AM i cM], .bool true]) = .returned (.tuple #[.agg #[.int .i64 (L : Int), .int .i64 0, vN, vM], .bool true]) ∧ Below w.heap.size w (set4 wr (w.heap.size + 1) (.int .i64 (L : Int)) (.int .i64 0) (.slice AN i cN) (.slice AM i cM)) ∧
          ∃ sN sM : Nat → Prop, (∀ k, sM k → ¬ sN k) ∧ Kd.S (Kd.slice 3 (Kd.int .i64)) 22 (set4 wr (w.heap.size + 1) (.int .i64 (L : Int)) (.int .i64 0) (.slice AN i cN) (.slice AM i cM)) w.heap.size sN vN (rowsL f L lF) ∧ Kd.R (Kd.int .i64) 3 (set4 wr (w.heap.size + 1) (.int .i64 (L : Int)) (.int .i64 0) (.slice AN i cN) (.slice AM i cM)) w.heap.size sM vM (lF.map mk) from by
        have o4 := HM.out.o.set4 (g := w.heap.size + 1) (by omega) (.int .i64 (L : Int)) (.int .i64 0) (.slice AN i cN) (.slice AM i cM)
        have el : l = lF := by
          have := HP.out.fin
          rw [← this]
          obtain ⟨g, hg⟩ : ∃ g, U.length + 1 - i = g + 1 := ⟨U.length - i, by omega⟩
          rw [hg, expL, dif_neg (by have := hil.out; omega)]
        have e1 : rows = rowsL f L lF := by
          rw [HP.out.rows, ← el, hil.out]
          unfold rowsAtG rowsL rowAtG
          rw [List.take_length]
        have e2 : ms = lF.map mk := by rw [HP.out.ms, ← el, hil.out, List.take_length]
        have hle : w.heap.size ≤ w.heap.size + 1 := by omega
        refine ⟨_, _, rfl, below_set (below_set (below_set (below_set HM.out.b hle) hle) hle) hle, sN, sM, o4.MN, ?_, ?_⟩
        · have := Kd.S_lower o4.N (show w.heap.size ≤ w.heap.size + 4 by omega)
          rw [ER.out.1, e1] at this
          exact this
        · have := Kd.R_lower o4.M (show w.heap.size ≤ w.heap.size + 4 by omega)
          rw [ER.out.2, e2] at this
          exact this)
      have zr : w.heap.size + 1 < wr.heap.size := blk_lt hr
      clear hd hr hlt hnU hg
      go_wp2
      refine bodyPost_ret (resD rfl _ _ (w.heap.size + 1) (.int .i64 (L : Int)) (.int .i64 0) (.slice AN i cN) (.slice AM i cM) (.bool true) rfl rfl (by go_simp) (by go_simp) (by go_simp) (by go_simp)) rfl ?_
      have fin := FIN.out
      rw [← HLF.out] at fin
      exact fin
end Go.Proofs.Ytjabncedfjjbjaa.H
