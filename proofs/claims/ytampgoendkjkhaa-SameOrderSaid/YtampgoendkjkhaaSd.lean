/- same: classes and serving, plain. -/
import Derived.Test.YtampgoendkjkhaaSc
namespace Go.Proofs.Ytampgoendkjkhaa.H
open Go.RowKit Go.Shelf Go.Proofs.YtampgoendkjkhaaW.PrintWords Go.Proofs.YtampgoendkjkhaaW.PrintMore Go.Proofs.Ytampgoendkjkhaa.DtM
set_option linter.unusedVariables false
set_option linter.unusedSimpArgs false
/-! ### classes -/
def alC (cl : List Int) (a b : Int) : Bool := cl.getD a.toNat 0 == cl.getD b.toNat 0
def samC (ar : List Arw) (cl : List Int) (p q : Int) : Bool := alC cl p q && (ansB ar (alC cl) p q && ansB ar (alC cl) q p)
def stF (ar : List Arw) (cl fs : List Int) (p : Int) : Int × List Int := if ixOf (samC ar cl p) fs < 0 then ((fs.length : Int), fs ++ [p]) else (ixOf (samC ar cl p) fs, fs)
def rnF (ar : List Arw) (cl : List Int) : Nat → List Int × List Int
  | 0 => ([], [])
  | n + 1 => ((stF ar cl (rnF ar cl n).1 n).2, (rnF ar cl n).2 ++ [(stF ar cl (rnF ar cl n).1 n).1])
theorem ansB_iff (ar : List Arw) (ok : Int → Int → Bool) (p q : Int) : ansB ar ok p q = true ↔ ∀ x ∈ ar, x.1 = p → ∃ y ∈ ar, y.1 = q ∧ y.2.1 = x.2.1 ∧ ok x.2.2 y.2.2 = true := by
  unfold ansB
  rw [List.all_eq_true]
  refine forall_congr' fun x => forall_congr' fun hx => ?_
  unfold anX
  rw [Bool.or_eq_true, List.any_eq_true]
  constructor
  · rintro (h | ⟨y, hy, h⟩) e
    · simp [e] at h
    · refine ⟨y, hy, ?_⟩
      unfold anY at h
      simp only [Bool.and_eq_true, beq_iff_eq] at h
      exact ⟨h.1.1, h.1.2, h.2⟩
  · intro h
    by_cases e : x.1 = p
    · obtain ⟨y, hy, h1, h2, h3⟩ := h e
      exact .inr ⟨y, hy, by unfold anY; simp [h1, h2, h3]⟩
    · exact .inl (by simp [e])
theorem ansB_trans {ar : List Arw} {ok : Int → Int → Bool} (ht : ∀ a b c, ok a b = true → ok b c = true → ok a c = true) {p f q : Int} (h1 : ansB ar ok p f = true) (h2 : ansB ar ok f q = true) : ansB ar ok p q = true := by
  rw [ansB_iff] at *
  intro x hx e
  obtain ⟨y, hy, a1, a2, a3⟩ := h1 x hx e
  obtain ⟨z, hz, b1, b2, b3⟩ := h2 y hy a1
  exact ⟨z, hz, b1, b2.trans a2, ht _ _ _ a3 b3⟩
theorem ansB_refl {ar : List Arw} {ok : Int → Int → Bool} (hr : ∀ x ∈ ar, ok x.2.2 x.2.2 = true) (p : Int) : ansB ar ok p p = true := by
  rw [ansB_iff]
  exact fun x hx e => ⟨x, hx, e, rfl, hr x hx⟩
theorem alC_trans (cl : List Int) (a b c : Int) (h1 : alC cl a b = true) (h2 : alC cl b c = true) : alC cl a c = true := by
  unfold alC at *
  rw [beq_iff_eq] at *
  exact h1.trans h2
theorem alC_symm (cl : List Int) (a b : Int) (h1 : alC cl a b = true) : alC cl b a = true := by
  unfold alC at *
  rw [beq_iff_eq] at *
  exact h1.symm
theorem ixOf_neg {α : Type} (p : α → Bool) (xs : List α) (h : ¬ ixOf p xs < 0) : ∃ i, ∃ hi : i < xs.length, ixOf p xs = (i : Int) ∧ p xs[i] = true := by
  unfold ixOf at h ⊢
  by_cases c : xs.any p = true
  · rw [if_pos c]
    have hl : xs.findIdx p < xs.length := List.findIdx_lt_length_of_exists (by simpa using c)
    exact ⟨xs.findIdx p, hl, rfl, List.findIdx_getElem⟩
  · rw [if_neg c] at h; omega
structure RnOk (ar : List Arw) (cl : List Int) (n : Nat) (fs nx : List Int) : Prop where
  len : nx.length = n
  le : fs.length ≤ n
  hfs : ∀ i, ∀ hi : i < fs.length, ∃ f : Nat, f < n ∧ fs[i] = (f : Int) ∧ nx[f]? = some (i : Int)
  hnx : ∀ p, p < n → ∃ i, ∃ hi : i < fs.length, nx[p]? = some (i : Int) ∧ (fs[i] = (p : Int) ∨ samC ar cl p fs[i] = true)
theorem rn_ok (ar : List Arw) (cl : List Int) : ∀ n, RnOk ar cl n (rnF ar cl n).1 (rnF ar cl n).2
  | 0 => ⟨rfl, Nat.le_refl _, fun i hi => absurd hi (Nat.not_lt_zero _), fun p hp => absurd hp (Nat.not_lt_zero _)⟩
  | n + 1 => by
    have h := rn_ok ar cl n
    show RnOk ar cl (n + 1) (stF ar cl (rnF ar cl n).1 n).2 ((rnF ar cl n).2 ++ [(stF ar cl (rnF ar cl n).1 n).1])
    generalize (rnF ar cl n).1 = fs at h ⊢
    generalize (rnF ar cl n).2 = nx at h ⊢
    have hl := h.len
    have hle := h.le
    unfold stF
    by_cases c : ixOf (samC ar cl n) fs < 0
    · rw [if_pos c]
      refine ⟨by simp [hl], by simp; omega, fun i hi => ?_, fun p hp => ?_⟩
      · simp only [List.length_append, List.length_cons, List.length_nil] at hi
        by_cases e : i < fs.length
        · obtain ⟨f, hf, e1, e2⟩ := h.hfs i e
          exact ⟨f, by omega, by rw [List.getElem_append_left e]; exact e1, by rw [List.getElem?_append_left (by omega)]; exact e2⟩
        · have : i = fs.length := by omega
          subst this
          exact ⟨n, by omega, by simp, by rw [← hl]; simp⟩
      · by_cases e : p < n
        · obtain ⟨i, hi, e1, e2⟩ := h.hnx p e
          exact ⟨i, by simp; omega, by rw [List.getElem?_append_left (by omega)]; exact e1, by rw [List.getElem_append_left hi]; exact e2⟩
        · have : p = n := by omega
          subst this
          exact ⟨fs.length, by simp, by rw [← hl]; simp, .inl (by simp)⟩
    · rw [if_neg c]
      obtain ⟨i, hi, e0, e1⟩ := ixOf_neg _ _ c
      refine ⟨by simp [hl], by simp; omega, fun j hj => ?_, fun p hp => ?_⟩
      · obtain ⟨f, hf, a1, a2⟩ := h.hfs j hj
        exact ⟨f, by omega, a1, by rw [List.getElem?_append_left (by omega)]; exact a2⟩
      · by_cases e : p < n
        · obtain ⟨j, hj, a1, a2⟩ := h.hnx p e
          exact ⟨j, hj, by rw [List.getElem?_append_left (by omega)]; exact a1, a2⟩
        · have : p = n := by omega
          subst this
          exact ⟨i, hi, by rw [e0, ← hl]; simp, .inr e1⟩
structure ClsOk (cl : List Int) (n m : Nat) : Prop where
  len : cl.length = n
  pos : 1 ≤ m
  le : m ≤ n
  lt : ∀ p, p < n → ∃ v : Nat, v < m ∧ cl[p]? = some (v : Int)
  on : ∀ v, v < m → ∃ p, p < n ∧ cl[p]? = some (v : Int)
theorem cls_zero {n : Nat} (h : 1 ≤ n) : ClsOk (List.replicate n 0) n 1 where
  len := by simp
  pos := Nat.le_refl _
  le := h
  lt p hp := ⟨0, by omega, by simp [hp]⟩
  on v hv := ⟨0, by omega, by rw [show v = 0 from by omega, List.getElem?_replicate, if_pos (by omega)]; rfl⟩
theorem RnOk.cls {ar : List Arw} {cl : List Int} {n : Nat} {fs nx : List Int} (h : RnOk ar cl n fs nx) (hn : 1 ≤ n) : ClsOk nx n fs.length where
  len := h.len
  pos := by
    obtain ⟨i, hi, _⟩ := h.hnx 0 (by omega)
    omega
  le := h.le
  lt p hp := by
    obtain ⟨i, hi, e, _⟩ := h.hnx p hp
    exact ⟨i, hi, e⟩
  on v hv := by
    obtain ⟨f, hf, _, e⟩ := h.hfs v hv
    exact ⟨f, hf, e⟩
theorem getD_some {cl : List Int} {p : Nat} {v : Int} (h : cl[p]? = some v) : cl.getD p 0 = v := by
  rw [List.getD_eq_getElem?_getD, h]; rfl
section
variable {ar : List Arw} {cl : List Int} {n m : Nat} {fs nx : List Int}
theorem rn_al (h : RnOk ar cl n fs nx) {p : Nat} (hp : p < n) : ∃ i, ∃ hi : i < fs.length, nx[p]? = some (i : Int) ∧ cl.getD p 0 = cl.getD fs[i].toNat 0 ∧ (fs[i] = (p : Int) ∨ samC ar cl p fs[i] = true) := by
  obtain ⟨i, hi, e1, e2⟩ := h.hnx p hp
  refine ⟨i, hi, e1, ?_, e2⟩
  rcases e2 with e | e
  · rw [e, Int.toNat_natCast]
  · unfold samC at e
    rw [Bool.and_eq_true] at e
    have := e.1
    unfold alC at this
    rw [beq_iff_eq, Int.toNat_natCast] at this
    exact this
theorem rn_cover (h : RnOk ar cl n fs nx) (hc : ClsOk cl n m) : ∀ x ∈ (List.range m).map (fun v : Nat => (v : Int)), x ∈ fs.map (fun f => cl.getD f.toNat 0) := by
  intro x hx
  obtain ⟨v, hv, rfl⟩ := List.mem_map.1 hx
  obtain ⟨p, hp, e⟩ := hc.on v (List.mem_range.1 hv)
  obtain ⟨i, hi, _, e2, _⟩ := rn_al h hp
  rw [List.mem_map]
  exact ⟨fs[i], List.getElem_mem hi, by rw [← e2, getD_some e]⟩
theorem rng_nodup (m : Nat) : ((List.range m).map (fun v : Nat => (v : Int))).Nodup :=
  List.Pairwise.map _ (fun a b h e => h (by omega)) List.nodup_range
theorem rn_ge (h : RnOk ar cl n fs nx) (hc : ClsOk cl n m) : m ≤ fs.length := by
  have := nodup_len (rng_nodup m) (rn_cover h hc)
  simpa using this
theorem nodup_inj {X : List Int} (h : X.Nodup) {i j : Nat} (hi : i < X.length) (hj : j < X.length) (e : X[i] = X[j]) : i = j := by
  have h := List.pairwise_iff_getElem.1 h
  rcases Nat.lt_trichotomy i j with g | g | g
  · exact absurd e (h i j hi hj g)
  · exact g
  · exact absurd e.symm (h j i hj hi g)
/-- where no class is parted, what is alike is answered -/
theorem rn_end (h : RnOk ar cl n fs nx) (hc : ClsOk cl n m) (hm : fs.length = m) (har : ArOk n ar) {p q : Nat} (hp : p < n) (hq : q < n) (e : cl.getD p 0 = cl.getD q 0) : ansB ar (alC cl) p q = true := by
  have hN := nodup_of_len (rng_nodup m) (rn_cover h hc) (by simp; omega)
  obtain ⟨i, hi, _, e1, r1⟩ := rn_al h hp
  obtain ⟨j, hj, _, e2, r2⟩ := rn_al h hq
  have hij : i = j := nodup_inj hN (by simpa using hi) (by simpa using hj) (by simp only [List.getElem_map]; rw [← e1, ← e2, e])
  subst hij
  generalize fs[i] = f at r1 r2
  have hrf : ∀ x ∈ ar, alC cl x.2.2 x.2.2 = true := fun x _ => by unfold alC; simp
  have k1 : ansB ar (alC cl) p f = true := by
    rcases r1 with r | r
    · rw [r]; exact ansB_refl hrf _
    · unfold samC at r
      simp only [Bool.and_eq_true] at r
      exact r.2.1
  have k2 : ansB ar (alC cl) f q = true := by
    rcases r2 with r | r
    · rw [r]; exact ansB_refl hrf _
    · unfold samC at r
      simp only [Bool.and_eq_true] at r
      exact r.2.2
  exact ansB_trans (alC_trans cl) k1 k2
end
def mxI : List Int → Int
  | [] => 0
  | x :: l => l.foldl max x
theorem fold_max (l : List Int) : ∀ x : Int, x ≤ l.foldl max x ∧ (∀ y ∈ l, y ≤ l.foldl max x) ∧ (l.foldl max x = x ∨ l.foldl max x ∈ l) := by
  induction l with
  | nil => intro x; exact ⟨Int.le_refl _, by simp, .inl rfl⟩
  | cons y l ih =>
    intro x
    have := ih (max x y)
    rw [List.foldl_cons]
    refine ⟨by omega, fun z hz => ?_, ?_⟩
    · rcases List.mem_cons.1 hz with e | e
      · subst e; omega
      · exact this.2.1 z e
    · rcases this.2.2 with e | e
      · rw [e]
        by_cases g : x ≤ y
        · right; rw [show max x y = y from by omega]; simp
        · left; omega
      · right; exact List.mem_cons_of_mem _ e
theorem mxI_cls {cl : List Int} {n m : Nat} (h : ClsOk cl n m) : mxI cl = (m : Int) - 1 := by
  have hl := h.len
  have hp := h.pos
  have hle := h.le
  have hin : ∀ y ∈ cl, y < m := fun y hy => by
    obtain ⟨p, hp, rfl⟩ := List.getElem_of_mem hy
    obtain ⟨v, hv, e⟩ := h.lt p (by omega)
    rw [List.getElem?_eq_getElem hp] at e
    injection e with e
    omega
  obtain ⟨p, hpn, e⟩ := h.on (m - 1) (by omega)
  have hmem : ((m - 1 : Nat) : Int) ∈ cl := List.mem_of_getElem? e
  cases cl with
  | nil => simp at hmem
  | cons x l =>
    have f := fold_max l x
    have h1 : mxI (x :: l) ∈ x :: l := by
      show l.foldl max x ∈ _
      rcases f.2.2 with e | e
      · rw [e]; simp
      · exact List.mem_cons_of_mem _ e
    have h2 := hin _ h1
    have h3 : ((m - 1 : Nat) : Int) ≤ mxI (x :: l) := by
      rcases List.mem_cons.1 hmem with e | e
      · rw [e]; exact f.1
      · exact f.2.1 _ e
    omega
/-! ### who serves for whom -/
def okT (T : Nat → Nat → Bool) (a b : Int) : Bool := T a.toNat b.toNat
def Sim (ar : List Arw) (n : Nat) (R : Nat → Nat → Bool) : Prop := ∀ p q : Nat, p < n → q < n → R p q = true → ansB ar (okT R) p q = true
def SubT (n : Nat) (R T : Nat → Nat → Bool) : Prop := ∀ p q : Nat, p < n → q < n → R p q = true → T p q = true
def Holds (ar : List Arw) (n : Nat) (T : Nat → Nat → Bool) : Prop := ∀ R, Sim ar n R → SubT n R T
theorem ansB_mono {ar : List Arw} {n : Nat} (har : ArOk n ar) {R T : Nat → Nat → Bool} (h : SubT n R T) {p q : Int} (hh : ansB ar (okT R) p q = true) : ansB ar (okT T) p q = true := by
  rw [ansB_iff] at *
  intro x hx e
  obtain ⟨y, hy, a1, a2, a3⟩ := hh x hx e
  have b1 := har x hx
  have b2 := har y hy
  exact ⟨y, hy, a1, a2, h _ _ (by omega) (by omega) a3⟩
def offT (T : Nat → Nat → Bool) (p q : Nat) : Nat → Nat → Bool := fun a b => if a = p ∧ b = q then false else T a b
theorem holds_all (ar : List Arw) (n : Nat) : Holds ar n (fun _ _ => true) := fun _ _ _ _ _ _ _ => rfl
theorem holds_off {ar : List Arw} {n : Nat} (har : ArOk n ar) {T : Nat → Nat → Bool} (h : Holds ar n T) {p q : Nat} (hp : p < n) (hq : q < n) (hn : ansB ar (okT T) p q = false) : Holds ar n (offT T p q) := by
  intro R hR a b ha hb hab
  unfold offT
  split
  · rename_i e
    obtain ⟨rfl, rfl⟩ := e
    have := ansB_mono har (h R hR) (hR a b ha hb hab)
    rw [hn] at this
    cases this
  · exact h R hR a b ha hb hab
def prs (n : Nat) : List (Nat × Nat) := (List.range n).flatMap fun p => (List.range n).map fun q => (p, q)
def cntT (n : Nat) (T : Nat → Nat → Bool) : Nat := (prs n).countP fun x => T x.1 x.2
theorem mem_prs {n p q : Nat} (hp : p < n) (hq : q < n) : (p, q) ∈ prs n := by
  unfold prs
  rw [List.mem_flatMap]
  exact ⟨p, List.mem_range.2 hp, List.mem_map.2 ⟨q, List.mem_range.2 hq, rfl⟩⟩
theorem countP_lt {α : Type} {P Q : α → Bool} : ∀ {l : List α} {a : α}, (∀ x ∈ l, P x = true → Q x = true) → a ∈ l → Q a = true → P a = false → l.countP P < l.countP Q
  | [], a, _, h, _, _ => by simp at h
  | x :: l, a, h, ha, hq, hp => by
    have hm : l.countP P ≤ l.countP Q := List.countP_mono_left (fun y hy => h y (by simp [hy]))
    rcases List.mem_cons.1 ha with e | e
    · subst e
      rw [List.countP_cons, List.countP_cons, hq, hp]
      simp
      omega
    · have ih := countP_lt (fun y hy => h y (by simp [hy])) e hq hp
      rw [List.countP_cons, List.countP_cons]
      have := h x (by simp)
      cases hx : P x with
      | true => rw [this hx]; simp; omega
      | false => cases Q x <;> simp <;> omega
theorem cnt_off {n : Nat} {T : Nat → Nat → Bool} {p q : Nat} (hp : p < n) (hq : q < n) (h : T p q = true) : cntT n (offT T p q) < cntT n T := by
  refine countP_lt (a := (p, q)) ?_ (mem_prs hp hq) h (by simp [offT])
  intro x _ hx
  unfold offT at hx
  split at hx
  · cases hx
  · exact hx
/-- the greatest table -/
structure Great (ar : List Arw) (n : Nat) (T : Nat → Nat → Bool) : Prop where
  holds : Holds ar n T
  sim : Sim ar n T
theorem Great.refl {ar : List Arw} {n : Nat} {T : Nat → Nat → Bool} (h : Great ar n T) {p : Nat} (hp : p < n) : T p p = true := by
  refine h.holds (fun a b => a == b) ?_ p p hp hp (by simp)
  intro p q _ _ e
  have e : p = q := by simpa using e
  subst e
  exact ansB_refl (fun x _ => by unfold okT; simp) _
theorem Great.trans {ar : List Arw} {n : Nat} (har : ArOk n ar) {T : Nat → Nat → Bool} (h : Great ar n T) {p q r : Nat} (hp : p < n) (hq : q < n) (hr : r < n) (h1 : T p q = true) (h2 : T q r = true) : T p r = true := by
  refine h.holds (fun a b => (List.range n).any fun c => T a c && T c b) ?_ p r hp hr (List.any_eq_true.2 ⟨q, List.mem_range.2 hq, by rw [h1, h2]; rfl⟩)
  intro p r hp hr e
  obtain ⟨q, hq, e⟩ := List.any_eq_true.1 e
  rw [Bool.and_eq_true] at e
  have k1 := h.sim p q hp (List.mem_range.1 hq) e.1
  have k2 := h.sim q r (List.mem_range.1 hq) hr e.2
  rw [ansB_iff] at *
  intro x hx ex
  obtain ⟨y, hy, a1, a2, a3⟩ := k1 x hx ex
  obtain ⟨z, hz, b1, b2, b3⟩ := k2 y hy a1
  have g := har y hy
  refine ⟨z, hz, b1, b2.trans a2, List.any_eq_true.2 ⟨y.2.2.toNat, List.mem_range.2 (by omega), ?_⟩⟩
  unfold okT at a3 b3
  rw [a3, b3]; rfl
theorem Great.alike {ar : List Arw} {n : Nat} {T : Nat → Nat → Bool} (h : Great ar n T) {cl : List Int} (hc : ∀ p q : Nat, p < n → q < n → cl.getD p 0 = cl.getD q 0 → ansB ar (alC cl) p q = true) {p q : Nat} (hp : p < n) (hq : q < n) (e : cl.getD p 0 = cl.getD q 0) : T p q = true := by
  refine h.holds (fun a b => cl.getD a 0 == cl.getD b 0) ?_ p q hp hq (by simpa using e)
  intro p q hp hq e
  have := hc p q hp hq (by simpa using e)
  exact this
/-- 0 leads on, 1 does not -/
theorem tiny_apart {cl : List Int} (hc : ∀ p q : Nat, p < 2 → q < 2 → cl.getD p 0 = cl.getD q 0 → ansB [(0, 0, 1)] (alC cl) p q = true) : cl.getD 0 0 ≠ cl.getD 1 0 := by
  intro e
  have := hc 0 1 (by omega) (by omega) e
  rw [ansB_iff] at this
  obtain ⟨y, hy, h, _⟩ := this (0, 0, 1) (by simp) rfl
  simp only [List.mem_singleton] at hy
  subst hy
  cases h
end Go.Proofs.Ytampgoendkjkhaa.H
