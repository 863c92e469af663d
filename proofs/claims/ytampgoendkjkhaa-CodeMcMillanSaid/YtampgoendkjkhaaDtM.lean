/- Automata that know their way: exploring, classes, the least one (plain). -/
import Init
namespace Go.Proofs.Ytampgoendkjkhaa.DtM
set_option linter.unusedVariables false
set_option linter.unusedSectionVars false
/-! ### lists without repetition -/
section
variable {κ : Type} [DecidableEq κ]
theorem nodup_len {M : List κ} (h : M.Nodup) : ∀ {X : List κ}, (∀ x ∈ M, x ∈ X) → M.length ≤ X.length := by
  induction M with
  | nil => intro X _; exact Nat.zero_le _
  | cons m M ih =>
    intro X hs
    rw [List.nodup_cons] at h
    have hm := hs m (List.mem_cons_self ..)
    have := ih h.2 (X := X.erase m) (fun x hx => (List.mem_erase_of_ne (fun e => h.1 (by rw [← e]; exact hx))).2 (hs x (List.mem_cons_of_mem _ hx)))
    rw [List.length_erase_of_mem hm] at this
    have := List.length_pos_of_mem hm
    rw [List.length_cons]; omega
theorem nodup_of_len {X : List κ} : ∀ {M : List κ}, M.Nodup → (∀ x ∈ M, x ∈ X) → X.length ≤ M.length → X.Nodup := by
  induction X with
  | nil => intro M _ _ _; exact List.nodup_nil
  | cons x X ih =>
    intro M hM hs hl
    rw [List.length_cons] at hl
    have hx : x ∉ X := by
      intro hx
      have : M.length ≤ X.length := nodup_len hM (fun y hy => by
        rcases List.mem_cons.1 (hs y hy) with rfl | h
        · exact hx
        · exact h)
      omega
    rw [List.nodup_cons]
    refine ⟨hx, ih (M := M.erase x) (hM.erase x) (fun y hy => ?_) ?_⟩
    · have hy' := (List.Nodup.mem_erase_iff hM).1 hy
      rcases List.mem_cons.1 (hs y hy'.2) with rfl | h
      · exact absurd rfl hy'.1
      · exact h
    · have := List.length_erase (a := x) (l := M)
      split at this <;> omega
/-- the place of a key -/
def ixd (l : List κ) (x : κ) : Nat := l.findIdx (fun y => decide (y = x))
theorem ixd_lt {l : List κ} {x : κ} (h : x ∈ l) : ixd l x < l.length := List.findIdx_lt_length_of_exists ⟨x, h, by simp⟩
theorem ixd_get {l : List κ} {x : κ} (h : x ∈ l) : l[ixd l x]'(ixd_lt h) = x := of_decide_eq_true (List.findIdx_getElem (w := ixd_lt h))
theorem ixd_app {l : List κ} {x : κ} (h : x ∈ l) (m : List κ) : ixd (l ++ m) x = ixd l x := by
  unfold ixd
  rw [List.findIdx_append, if_pos (List.findIdx_lt_length_of_exists ⟨x, h, by simp⟩)]
theorem ixd_new {l : List κ} {x : κ} (h : x ∉ l) : ixd (l ++ [x]) x = l.length := by
  unfold ixd
  rw [List.findIdx_append]
  have : l.findIdx (fun y => decide (y = x)) = l.length := List.findIdx_eq_length_of_false (fun y hy => by simp; intro e; exact h (e ▸ hy))
  rw [this, if_neg (Nat.lt_irrefl _)]
  simp
theorem ixd_inj {l : List κ} {x y : κ} (hx : x ∈ l) (hy : y ∈ l) (e : ixd l x = ixd l y) : x = y := by
  rw [← ixd_get hx, ← ixd_get hy]
  congr 1
theorem ixd_at {l : List κ} (hn : l.Nodup) {i : Nat} (hi : i < l.length) : ixd l l[i] = i := by
  have h := ixd_get (List.getElem_mem hi)
  have hl := ixd_lt (List.getElem_mem hi)
  exact (List.getElem_inj hn).1 h

/-! ### exploring -/
def stepL (f : κ → Nat → κ) (k : κ) : Nat → Nat → List κ → List κ
  | 0, _, l => l
  | d + 1, a, l => stepL f k d (a + 1) (if f k a ∈ l then l else l ++ [f k a])
theorem stepL_pre (f : κ → Nat → κ) (k : κ) : ∀ d a l, ∃ m, stepL f k d a l = l ++ m
  | 0, _, l => ⟨[], by simp [stepL]⟩
  | d + 1, a, l => by
    unfold stepL
    obtain ⟨m, hm⟩ := stepL_pre f k d (a + 1) (if f k a ∈ l then l else l ++ [f k a])
    rw [hm]
    split
    · exact ⟨m, rfl⟩
    · exact ⟨f k a :: m, by simp⟩
theorem stepL_nodup (f : κ → Nat → κ) (k : κ) : ∀ d a l, l.Nodup → (stepL f k d a l).Nodup
  | 0, _, l, h => h
  | d + 1, a, l, h => by
    unfold stepL
    refine stepL_nodup f k d (a + 1) _ ?_
    split
    · exact h
    · rename_i hn
      rw [List.nodup_append]
      refine ⟨h, by simp, fun x hx y hy e => ?_⟩
      simp only [List.mem_singleton] at hy
      exact hn (by rw [← hy, ← e]; exact hx)
theorem stepL_sub (f : κ → Nat → κ) (k : κ) (U : κ → Prop) : ∀ d a l, (∀ x ∈ l, U x) → (∀ b, a ≤ b → b < a + d → U (f k b)) → ∀ x ∈ stepL f k d a l, U x
  | 0, _, l, h, _ => h
  | d + 1, a, l, h, hf => by
    unfold stepL
    refine stepL_sub f k U d (a + 1) _ ?_ (fun b h1 h2 => hf b (by omega) (by omega))
    split
    · exact h
    · intro x hx
      rcases List.mem_append.1 hx with hx | hx
      · exact h x hx
      · simp only [List.mem_singleton] at hx
        rw [hx]; exact hf a (Nat.le_refl _) (by omega)
theorem stepL_has (f : κ → Nat → κ) (k : κ) : ∀ d a l b, a ≤ b → b < a + d → f k b ∈ stepL f k d a l
  | 0, a, l, b, h1, h2 => by omega
  | d + 1, a, l, b, h1, h2 => by
    unfold stepL
    by_cases e : a = b
    · subst e
      obtain ⟨m, hm⟩ := stepL_pre f k d (a + 1) (if f k a ∈ l then l else l ++ [f k a])
      rw [hm]
      refine List.mem_append_left _ ?_
      split
      · assumption
      · simp
    · exact stepL_has f k d (a + 1) _ b (by omega) (by omega)
def expL (f : κ → Nat → κ) (L : Nat) : Nat → List κ → Nat → List κ
  | 0, l, _ => l
  | g + 1, l, i => if h : i < l.length then expL f L g (stepL f l[i] L 0 l) (i + 1) else l
theorem expL_pre (f : κ → Nat → κ) (L : Nat) : ∀ g l i, ∃ m, expL f L g l i = l ++ m
  | 0, l, _ => ⟨[], by simp [expL]⟩
  | g + 1, l, i => by
    unfold expL
    split
    · obtain ⟨m, hm⟩ := stepL_pre f l[i] L 0 l
      obtain ⟨m', hm'⟩ := expL_pre f L g (stepL f l[i] L 0 l) (i + 1)
      exact ⟨m ++ m', by rw [hm', hm, List.append_assoc]⟩
    · exact ⟨[], by simp⟩
theorem expL_nodup (f : κ → Nat → κ) (L : Nat) : ∀ g l i, l.Nodup → (expL f L g l i).Nodup
  | 0, l, _, h => h
  | g + 1, l, i, h => by
    unfold expL
    split
    · exact expL_nodup f L g _ _ (stepL_nodup _ _ _ _ _ h)
    · exact h
theorem expL_sub (f : κ → Nat → κ) (L : Nat) (U : κ → Prop) (hU : ∀ k a, U k → a < L → U (f k a)) : ∀ g l i, (∀ x ∈ l, U x) → ∀ x ∈ expL f L g l i, U x
  | 0, l, _, h => h
  | g + 1, l, i, h => by
    unfold expL
    split
    · rename_i hi
      exact expL_sub f L U hU g _ _ (stepL_sub f _ U _ _ _ h (fun b _ hb => hU _ b (h _ (List.getElem_mem hi)) (by omega)))
    · exact h
/-- with enough rounds the list is closed -/
theorem expL_closed (f : κ → Nat → κ) (L : Nat) (U : List κ) (hU : ∀ k a, k ∈ U → a < L → f k a ∈ U) : ∀ g l i, l.Nodup → (∀ x ∈ l, x ∈ U) → U.length - i < g → i ≤ l.length → (∀ j (hj : j < l.length), j < i → ∀ a, a < L → f l[j] a ∈ l) →
    ∀ x ∈ expL f L g l i, ∀ a, a < L → f x a ∈ expL f L g l i
  | 0, l, i, _, _, h, _, _ => by omega
  | g + 1, l, i, hn, hs, hg, hil, hc => by
    have hlen := nodup_len hn hs
    unfold expL
    split
    · rename_i hi
      obtain ⟨m, hm⟩ := stepL_pre f l[i] L 0 l
      refine expL_closed f L U hU g _ (i + 1) (stepL_nodup _ _ _ _ _ hn) (stepL_sub f _ (· ∈ U) _ _ _ hs (fun b _ hb => hU _ b (hs _ (List.getElem_mem hi)) (by omega))) (by omega) (by rw [hm, List.length_append]; omega) ?_
      intro j hj hji a ha
      by_cases e : j = i
      · subst e
        have : (stepL f l[j] L 0 l)[j] = l[j] := by simp only [hm]; rw [List.getElem_append_left hi]
        rw [this]
        exact stepL_has f l[j] L 0 l a (Nat.zero_le _) (by omega)
      · have hjl : j < l.length := by omega
        have : (stepL f l[i] L 0 l)[j] = l[j] := by simp only [hm]; rw [List.getElem_append_left hjl]
        rw [this, hm]
        exact List.mem_append_left _ (hc j hjl (by omega) a ha)
    · rename_i hi
      intro x hx a ha
      obtain ⟨j, hj, rfl⟩ := List.getElem_of_mem hx
      exact hc j hj (by omega) a ha
/-- more rounds change nothing where the list is closed behind enough -/
theorem expL_end (f : κ → Nat → κ) (L : Nat) (U : List κ) (hU : ∀ k a, k ∈ U → a < L → f k a ∈ U) : ∀ g l i, l.Nodup → (∀ x ∈ l, x ∈ U) → U.length - i < g → i ≤ l.length → expL f L (g + 1) l i = expL f L g l i
  | 0, l, i, _, _, h, _ => by omega
  | g + 1, l, i, hn, hs, hg, hil => by
    have hlen := nodup_len hn hs
    rw [expL, expL]
    split
    · rename_i hi
      obtain ⟨m, hm⟩ := stepL_pre f l[i] L 0 l
      exact expL_end f L U hU g _ (i + 1) (stepL_nodup _ _ _ _ _ hn) (stepL_sub f _ (· ∈ U) _ _ _ hs (fun b _ hb => hU _ b (hs _ (List.getElem_mem hi)) (by omega))) (by omega) (by rw [hm, List.length_append]; omega)
    · rfl
def rowsL (f : κ → Nat → κ) (L : Nat) (l : List κ) : List (List Int) := l.map fun k => (List.range L).map fun a => (ixd l (f k a) : Int)
end
/-! ### two that explore alike -/
section
variable {κ κ' : Type} [DecidableEq κ] [DecidableEq κ']
/-- the lists go side by side -/
def Side (r : κ → κ' → Prop) (l : List κ) (l' : List κ') : Prop := l.length = l'.length ∧ ∀ i (h : i < l.length) (h' : i < l'.length), r l[i] l'[i]
theorem Side.snoc {r : κ → κ' → Prop} {l : List κ} {l' : List κ'} (h : Side r l l') {x : κ} {y : κ'} (hx : r x y) : Side r (l ++ [x]) (l' ++ [y]) := by
  refine ⟨by simp [h.1], fun i hi hi' => ?_⟩
  by_cases e : i < l.length
  · rw [List.getElem_append_left e, List.getElem_append_left (by rw [← h.1]; exact e)]
    exact h.2 i e _
  · rw [List.length_append] at hi
    have : i = l.length := by simp at hi; omega
    subst this
    have h1 := h.1
    simp only [List.getElem_append_right (Nat.le_refl _)]
    rw [List.getElem_append_right (by omega)]
    simpa using hx
theorem Side.mem {r : κ → κ' → Prop} {l : List κ} {l' : List κ'} (h : Side r l l') (hr : ∀ x y x' y', r x x' → r y y' → (x = y ↔ x' = y')) {x : κ} {x' : κ'} (hx : r x x') : x ∈ l ↔ x' ∈ l' := by
  constructor
  · intro hm
    obtain ⟨i, hi, e⟩ := List.getElem_of_mem hm
    have := (hr _ _ _ _ (h.2 i hi (by rw [← h.1]; exact hi)) hx).1 e
    rw [← this]; exact List.getElem_mem _
  · intro hm
    obtain ⟨i, hi, e⟩ := List.getElem_of_mem hm
    have := (hr _ _ _ _ (h.2 i (by rw [h.1]; exact hi) hi) hx).2 e
    rw [← this]; exact List.getElem_mem _
theorem side_step {r : κ → κ' → Prop} (hr : ∀ x y x' y', r x x' → r y y' → (x = y ↔ x' = y')) {f : κ → Nat → κ} {f' : κ' → Nat → κ'} {k : κ} {k' : κ'} : ∀ d a l l', (∀ b, a ≤ b → b < a + d → r (f k b) (f' k' b)) → Side r l l' → Side r (stepL f k d a l) (stepL f' k' d a l')
  | 0, _, l, l', _, h => h
  | d + 1, a, l, l', hf, h => by
    unfold stepL
    refine side_step hr d (a + 1) _ _ (fun b h1 h2 => hf b (by omega) (by omega)) ?_
    have hx := hf a (Nat.le_refl _) (by omega)
    by_cases hm : f k a ∈ l
    · rw [if_pos hm, if_pos ((h.mem hr hx).1 hm)]; exact h
    · rw [if_neg hm, if_neg (fun hm' => hm ((h.mem hr hx).2 hm'))]; exact h.snoc hx
theorem side_exp {r : κ → κ' → Prop} (hr : ∀ x y x' y', r x x' → r y y' → (x = y ↔ x' = y')) {f : κ → Nat → κ} {f' : κ' → Nat → κ'} {L : Nat} (hf : ∀ k k' a, r k k' → a < L → r (f k a) (f' k' a)) : ∀ g l l' i, Side r l l' → Side r (expL f L g l i) (expL f' L g l' i)
  | 0, l, l', _, h => h
  | g + 1, l, l', i, h => by
    unfold expL
    by_cases hi : i < l.length
    · have hi' : i < l'.length := by rw [← h.1]; exact hi
      rw [dif_pos hi, dif_pos hi']
      exact side_exp hr hf g _ _ _ (side_step hr L 0 _ _ (fun b _ hb => hf _ _ b (h.2 i hi hi') (by omega)) h)
    · have hi' : ¬ i < l'.length := by rw [← h.1]; exact hi
      rw [dif_neg hi, dif_neg hi']
      exact h
theorem side_ix {r : κ → κ' → Prop} (hr : ∀ x y x' y', r x x' → r y y' → (x = y ↔ x' = y')) {l : List κ} {l' : List κ'} (h : Side r l l') (hn : l.Nodup) (hn' : l'.Nodup) {x : κ} {x' : κ'} (hx : r x x') (hm : x ∈ l) : ixd l x = ixd l' x' := by
  obtain ⟨i, hi, rfl⟩ := List.getElem_of_mem hm
  have hi' : i < l'.length := by rw [← h.1]; exact hi
  have e := (hr _ _ _ _ (h.2 i hi hi') hx).1 rfl
  rw [ixd_at hn hi, ← e, ixd_at hn' hi']
theorem side_rows {r : κ → κ' → Prop} (hr : ∀ x y x' y', r x x' → r y y' → (x = y ↔ x' = y')) {f : κ → Nat → κ} {f' : κ' → Nat → κ'} {L : Nat} (hf : ∀ k k' a, r k k' → a < L → r (f k a) (f' k' a)) {l : List κ} {l' : List κ'} (h : Side r l l') (hn : l.Nodup) (hn' : l'.Nodup) (hc : ∀ x ∈ l, ∀ a, a < L → f x a ∈ l) : rowsL f L l = rowsL f' L l' := by
  unfold rowsL
  apply List.ext_getElem
  · simp [h.1]
  · intro i h1 h2
    simp only [List.length_map] at h1 h2
    simp only [List.getElem_map]
    apply List.map_congr_left
    intro a ha
    rw [List.mem_range] at ha
    rw [side_ix hr h hn hn' (hf _ _ a (h.2 i h1 h2) ha) (hc _ (List.getElem_mem h1) a ha)]
end
/-! ### what automata accept -/
def runS (nx : Nat → Nat → Nat) (q : Nat) (w : List Nat) : Nat := w.foldl nx q
/-- two states of two automata tell the same -/
def Cross (L : Nat) (nx nx' : Nat → Nat → Nat) (mk mk' : Nat → Int) (p p' : Nat) : Prop := ∀ w : List Nat, (∀ a ∈ w, a < L) → mk (runS nx p w) = mk' (runS nx' p' w)
theorem Cross.step {L : Nat} {nx nx' : Nat → Nat → Nat} {mk mk' : Nat → Int} {p p' : Nat} (h : Cross L nx nx' mk mk' p p') {a : Nat} (ha : a < L) : Cross L nx nx' mk mk' (nx p a) (nx' p' a) := fun w hw => h (a :: w) (fun b hb => by
  rcases List.mem_cons.1 hb with rfl | hb
  · exact ha
  · exact hw b hb)
theorem Cross.mark {L : Nat} {nx nx' : Nat → Nat → Nat} {mk mk' : Nat → Int} {p p' : Nat} (h : Cross L nx nx' mk mk' p p') : mk p = mk' p' := h [] (fun _ h => by simp at h)
theorem Cross.symm {L : Nat} {nx nx' : Nat → Nat → Nat} {mk mk' : Nat → Int} {p p' : Nat} (h : Cross L nx nx' mk mk' p p') : Cross L nx' nx mk' mk p' p := fun w hw => (h w hw).symm
theorem Cross.trans {L : Nat} {nx nx' nx2 : Nat → Nat → Nat} {mk mk' mk2 : Nat → Int} {p p' p2 : Nat} (h : Cross L nx nx' mk mk' p p') (g : Cross L nx' nx2 mk' mk2 p' p2) : Cross L nx nx2 mk mk2 p p2 := fun w hw => (h w hw).trans (g w hw)
theorem Cross.refl (L : Nat) (nx : Nat → Nat → Nat) (mk : Nat → Int) (p : Nat) : Cross L nx nx mk mk p p := fun _ _ => rfl
/-- classes that tell just what words tell -/
structure Cls (n L : Nat) (nx : Nat → Nat → Nat) (mk : Nat → Int) (cl : Nat → Nat) : Prop where
  lt : ∀ q, q < n → cl q < n
  iff : ∀ p q, p < n → q < n → (cl p = cl q ↔ Cross L nx nx mk mk p q)
/-! ### classes -/
section
variable {κ : Type} [DecidableEq κ]
def dedupK (ks : List κ) : List κ := ks.foldl (fun D k => if k ∈ D then D else D ++ [k]) []
theorem dedup_fold (ks : List κ) : ∀ D : List κ, D.Nodup → (ks.foldl (fun D k => if k ∈ D then D else D ++ [k]) D).Nodup ∧ (∀ x, x ∈ ks.foldl (fun D k => if k ∈ D then D else D ++ [k]) D ↔ x ∈ D ∨ x ∈ ks) := by
  induction ks with
  | nil => intro D h; exact ⟨h, fun x => by simp⟩
  | cons k ks ih =>
    intro D h
    rw [List.foldl_cons]
    have hD : (if k ∈ D then D else D ++ [k]).Nodup := by
      split
      · exact h
      · rename_i hn
        rw [List.nodup_append]
        refine ⟨h, by simp, fun x hx y hy e => ?_⟩
        simp only [List.mem_singleton] at hy
        exact hn (by rw [← hy, ← e]; exact hx)
    obtain ⟨h1, h2⟩ := ih _ hD
    refine ⟨h1, fun x => ?_⟩
    rw [h2]
    split
    · rename_i hm
      constructor
      · rintro (h | h)
        · exact .inl h
        · exact .inr (List.mem_cons_of_mem _ h)
      · rintro (h | h)
        · exact .inl h
        · rcases List.mem_cons.1 h with rfl | h
          · exact .inl hm
          · exact .inr h
    · rw [List.mem_append, List.mem_singleton, List.mem_cons, or_assoc]
theorem dedup_nodup (ks : List κ) : (dedupK ks).Nodup := (dedup_fold ks [] List.nodup_nil).1
theorem mem_dedup (ks : List κ) (x : κ) : x ∈ dedupK ks ↔ x ∈ ks := by
  have := (dedup_fold ks [] List.nodup_nil).2 x
  unfold dedupK
  simpa using this
theorem dedup_snoc (ks : List κ) (x : κ) : dedupK (ks ++ [x]) = if x ∈ dedupK ks then dedupK ks else dedupK ks ++ [x] := by
  unfold dedupK
  rw [List.foldl_append]
  rfl
theorem dedup_len (ks : List κ) : (dedupK ks).length ≤ ks.length := nodup_len (dedup_nodup ks) (fun x hx => (mem_dedup ks x).1 hx)
end
section
variable (n L : Nat) (nx : Nat → Nat → Nat) (mk : Nat → Int)
def keyC (cl : Nat → Int) (q : Nat) : Int × List Int := (cl q, (List.range L).map fun a => cl (nx q a))
def keysC (cl : Nat → Int) : List (Int × List Int) := (List.range n).map (keyC L nx cl)
def nextC (cl : Nat → Int) (q : Nat) : Int := (ixd (dedupK (keysC n L nx cl)) (keyC L nx cl q) : Int)
def clsC : Nat → Int → (Nat → Int) → (Nat → Int)
  | 0, _, cl => cl
  | g + 1, count, cl => if ((dedupK (keysC n L nx cl)).length : Int) = count then nextC n L nx cl else clsC g ((dedupK (keysC n L nx cl)).length : Int) (nextC n L nx cl)
variable {n L nx mk}
theorem key_mem {cl : Nat → Int} {q : Nat} (hq : q < n) : keyC L nx cl q ∈ dedupK (keysC n L nx cl) := (mem_dedup _ _).2 (List.mem_map_of_mem (List.mem_range.2 hq))
theorem next_iff {cl : Nat → Int} {p q : Nat} (hp : p < n) (hq : q < n) : nextC n L nx cl p = nextC n L nx cl q ↔ keyC L nx cl p = keyC L nx cl q := by
  unfold nextC
  constructor
  · intro h; exact ixd_inj (key_mem hp) (key_mem hq) (by omega)
  · intro h; rw [h]
theorem key_iff {cl : Nat → Int} {p q : Nat} : keyC L nx cl p = keyC L nx cl q ↔ cl p = cl q ∧ ∀ a, a < L → cl (nx p a) = cl (nx q a) := by
  unfold keyC
  rw [Prod.mk.injEq, List.map_inj_left]
  exact ⟨fun h => ⟨h.1, fun a ha => h.2 a (List.mem_range.2 ha)⟩, fun h => ⟨h.1, fun a ha => h.2 a (List.mem_range.1 ha)⟩⟩
theorem next_lt {cl : Nat → Int} {q : Nat} (hq : q < n) : 0 ≤ nextC n L nx cl q ∧ nextC n L nx cl q < (n : Int) := by
  unfold nextC
  have h1 := ixd_lt (key_mem (n := n) (L := L) (nx := nx) (cl := cl) hq)
  have h2 := dedup_len (keysC n L nx cl)
  have h3 : (keysC n L nx cl).length = n := by simp [keysC]
  omega
theorem run_lt (hnx : ∀ q a, q < n → a < L → nx q a < n) : ∀ (w : List Nat) (q : Nat), q < n → (∀ a ∈ w, a < L) → runS nx q w < n
  | [], q, hq, _ => hq
  | a :: w, q, hq, hw => run_lt hnx w (nx q a) (hnx q a hq (hw a (by simp))) (fun b hb => hw b (by simp [hb]))
/-- a stable one tells just what words tell -/
theorem cls_stable (hnx : ∀ q a, q < n → a < L → nx q a < n) {cl : Nat → Int} (h1 : ∀ p q, p < n → q < n → Cross L nx nx mk mk p q → cl p = cl q) (h2 : ∀ p q, p < n → q < n → cl p = cl q → mk p = mk q)
    (h3 : ∀ p q, p < n → q < n → cl p = cl q → ∀ a, a < L → cl (nx p a) = cl (nx q a)) {p q : Nat} (hp : p < n) (hq : q < n) : cl p = cl q ↔ Cross L nx nx mk mk p q := by
  refine ⟨fun h => ?_, h1 p q hp hq⟩
  intro w
  induction w generalizing p q with
  | nil => intro _; exact h2 p q hp hq h
  | cons a w ih =>
    intro hw
    have ha := hw a (by simp)
    exact ih (hnx p a hp ha) (hnx q a hq ha) (h3 p q hp hq h a ha) (fun b hb => hw b (by simp [hb]))
theorem cls_ge {cl : Nat → Int} {count : Nat} (h3 : ∀ i : Nat, i < count → ∃ q, q < n ∧ cl q = (i : Int)) : count ≤ (dedupK (keysC n L nx cl)).length := by
  have hV : ∀ x ∈ (List.range count).map (fun i : Nat => (i : Int)), x ∈ (dedupK (keysC n L nx cl)).map (·.1) := by
    intro x hx
    obtain ⟨i, hi, rfl⟩ := List.mem_map.1 hx
    obtain ⟨q, hq, he⟩ := h3 i (List.mem_range.1 hi)
    exact List.mem_map.2 ⟨keyC L nx cl q, key_mem hq, he⟩
  have hVn : ((List.range count).map (fun i : Nat => (i : Int))).Nodup := by
    unfold List.Nodup
    rw [List.pairwise_map]
    exact List.nodup_range.imp (fun h e => h (by omega))
  have := nodup_len hVn hV
  simpa using this
theorem next_has {cl : Nat → Int} {i : Nat} (hi : i < (dedupK (keysC n L nx cl)).length) : ∃ q, q < n ∧ nextC n L nx cl q = (i : Int) := by
  have hD := dedup_nodup (keysC n L nx cl)
  have hm := List.getElem_mem hi
  obtain ⟨q, hq, hk⟩ := List.mem_map.1 ((mem_dedup _ _).1 hm)
  refine ⟨q, List.mem_range.1 hq, ?_⟩
  unfold nextC
  rw [hk, ixd_at hD hi]
theorem cls_main (hnx : ∀ q a, q < n → a < L → nx q a < n) : ∀ g (count : Nat) (cl : Nat → Int), n - count < g → (∀ p q, p < n → q < n → Cross L nx nx mk mk p q → cl p = cl q) → (∀ p q, p < n → q < n → cl p = cl q → mk p = mk q) →
    (∀ i : Nat, i < count → ∃ q, q < n ∧ cl q = (i : Int)) → (0 < count ∨ 0 < n) → count ≤ n →
    (∀ p q, p < n → q < n → (clsC n L nx g (count : Int) cl p = clsC n L nx g (count : Int) cl q ↔ Cross L nx nx mk mk p q)) ∧ ∀ q, q < n → 0 ≤ clsC n L nx g (count : Int) cl q ∧ clsC n L nx g (count : Int) cl q < (n : Int)
  | 0, count, cl, h, _, _, _, _, _ => by omega
  | g + 1, count, cl, hg, h1, h2, h3, h4, h5 => by
    have hD := dedup_nodup (keysC n L nx cl)
    have hlen := dedup_len (keysC n L nx cl)
    have hkl : (keysC n L nx cl).length = n := by simp [keysC]
    -- the classes' names are among the keys' first parts
    have hV : ∀ x ∈ (List.range count).map (fun i : Nat => (i : Int)), x ∈ (dedupK (keysC n L nx cl)).map (·.1) := by
      intro x hx
      obtain ⟨i, hi, rfl⟩ := List.mem_map.1 hx
      obtain ⟨q, hq, he⟩ := h3 i (List.mem_range.1 hi)
      exact List.mem_map.2 ⟨keyC L nx cl q, key_mem hq, he⟩
    have hVn : ((List.range count).map (fun i : Nat => (i : Int))).Nodup := by
      unfold List.Nodup
      rw [List.pairwise_map]
      exact List.nodup_range.imp (fun h e => h (by omega))
    have hcount : count ≤ (dedupK (keysC n L nx cl)).length := by
      have := nodup_len hVn hV
      simpa using this
    have nc : ∀ p q, p < n → q < n → Cross L nx nx mk mk p q → nextC n L nx cl p = nextC n L nx cl q := fun p q hp hq hc => (next_iff hp hq).2 (key_iff.2 ⟨h1 p q hp hq hc, fun a ha => h1 _ _ (hnx p a hp ha) (hnx q a hq ha) (hc.step ha)⟩)
    have nm : ∀ p q, p < n → q < n → nextC n L nx cl p = nextC n L nx cl q → mk p = mk q := fun p q hp hq hc => h2 p q hp hq (key_iff.1 ((next_iff hp hq).1 hc)).1
    unfold clsC
    by_cases e : ((dedupK (keysC n L nx cl)).length : Int) = count
    · rw [if_pos e]
      have e' : (dedupK (keysC n L nx cl)).length = count := by omega
      have hf : ((dedupK (keysC n L nx cl)).map (·.1)).Nodup := nodup_of_len hVn hV (by simp [e'])
      -- one class, one key
      have one : ∀ p q, p < n → q < n → cl p = cl q → keyC L nx cl p = keyC L nx cl q := by
        intro p q hp hq hc
        obtain ⟨i, hi, ei⟩ := List.getElem_of_mem (key_mem (n := n) (L := L) (nx := nx) (cl := cl) hp)
        obtain ⟨j, hj, ej⟩ := List.getElem_of_mem (key_mem (n := n) (L := L) (nx := nx) (cl := cl) hq)
        have : i = j := (List.getElem_inj (i := i) (j := j) (h₀ := by simpa using hi) (h₁ := by simpa using hj) hf).1 (by simp only [List.getElem_map, ei, ej]; exact hc)
        subst this
        rw [← ei, ← ej]
      refine ⟨fun p q hp hq => cls_stable hnx nc nm (fun p q hp hq hc a ha => ?_) hp hq, fun q hq => next_lt hq⟩
      have hk := key_iff.1 ((next_iff hp hq).1 hc)
      exact (next_iff (hnx p a hp ha) (hnx q a hq ha)).2 (one _ _ (hnx p a hp ha) (hnx q a hq ha) (hk.2 a ha))
    · rw [if_neg e]
      refine cls_main hnx g _ _ (by omega) nc nm (fun i hi => ?_) (.inl ?_) (by omega)
      · have hm := List.getElem_mem hi
        obtain ⟨q, hq, hk⟩ := List.mem_map.1 ((mem_dedup _ _).1 hm)
        refine ⟨q, List.mem_range.1 hq, ?_⟩
        unfold nextC
        rw [hk, ixd_at hD hi]
      · rcases h4 with h4 | h4
        · omega
        · exact List.length_pos_of_mem (key_mem (n := n) (L := L) (nx := nx) (cl := cl) h4)
theorem cls_all (hnx : ∀ q a, q < n → a < L → nx q a < n) (hn : 0 < n) (g : Nat) (hg : n < g) :
    (∀ p q, p < n → q < n → (clsC n L nx g 0 mk p = clsC n L nx g 0 mk q ↔ Cross L nx nx mk mk p q)) ∧ ∀ q, q < n → 0 ≤ clsC n L nx g 0 mk q ∧ clsC n L nx g 0 mk q < (n : Int) :=
  cls_main hnx g 0 mk (by omega) (fun p q _ _ h => h.mark) (fun p q _ _ h => h) (fun i hi => by omega) (.inr hn) (by omega)
end
/-! ### the least automaton -/
/-- classes with a state of each -/
structure Least (n L : Nat) (nx : Nat → Nat → Nat) (mk : Nat → Int) (cl : Nat → Int) (of : Int → Nat) : Prop where
  clo : ∀ q a, q < n → a < L → nx q a < n
  iff : ∀ p q, p < n → q < n → (cl p = cl q ↔ Cross L nx nx mk mk p q)
  of_lt : ∀ q, q < n → of (cl q) < n
  of_cl : ∀ q, q < n → cl (of (cl q)) = cl q
def fS (nx : Nat → Nat → Nat) (cl : Nat → Int) (of : Int → Nat) (c : Int) (a : Nat) : Int := cl (nx (of c) a)
def listS (L : Nat) (nx : Nat → Nat → Nat) (cl : Nat → Int) (of : Int → Nat) (g start : Nat) : List Int := expL (fS nx cl of) L g [cl start] 0
/-- Two automata that tell the same have one least automaton. -/
theorem least_same {n n' L : Nat} {nx nx' : Nat → Nat → Nat} {mk mk' : Nat → Int} {cl cl' : Nat → Int} {of of' : Int → Nat} (h : Least n L nx mk cl of) (h' : Least n' L nx' mk' cl' of') {s s' : Nat} (hs : s < n) (hs' : s' < n') (hc : Cross L nx nx' mk mk' s s') (g : Nat) (hg : n < g) :
    rowsL (fS nx cl of) L (listS L nx cl of g s) = rowsL (fS nx' cl' of') L (listS L nx' cl' of' g s') ∧ (listS L nx cl of g s).map (fun c => mk (of c)) = (listS L nx' cl' of' g s').map (fun c => mk' (of' c)) ∧ (listS L nx cl of g s).length = (listS L nx' cl' of' g s').length := by
  let r : Int → Int → Prop := fun c c' => ∃ p p', p < n ∧ p' < n' ∧ c = cl p ∧ c' = cl' p' ∧ Cross L nx nx' mk mk' p p'
  have hr : ∀ x y x' y', r x x' → r y y' → (x = y ↔ x' = y') := by
    rintro x y x' y' ⟨p, p', hp, hp', rfl, rfl, h1⟩ ⟨q, q', hq, hq', rfl, rfl, h2⟩
    rw [h.iff p q hp hq, h'.iff p' q' hp' hq']
    exact ⟨fun e => (h1.symm.trans e).trans h2, fun e => (h1.trans e).trans h2.symm⟩
  -- of a class's state
  have hof : ∀ c c', r c c' → r c c' ∧ of c < n ∧ of' c' < n' ∧ Cross L nx nx' mk mk' (of c) (of' c') := by
    rintro c c' ⟨p, p', hp, hp', rfl, rfl, h1⟩
    have a := (h.iff _ _ (h.of_lt p hp) hp).1 (h.of_cl p hp)
    have b := (h'.iff _ _ (h'.of_lt p' hp') hp').1 (h'.of_cl p' hp')
    exact ⟨⟨p, p', hp, hp', rfl, rfl, h1⟩, h.of_lt p hp, h'.of_lt p' hp', (a.trans h1).trans b.symm⟩
  have hf : ∀ k k' a, r k k' → a < L → r (fS nx cl of k a) (fS nx' cl' of' k' a) := by
    intro k k' a hk ha
    obtain ⟨_, h1, h2, h3⟩ := hof k k' hk
    exact ⟨_, _, h.clo _ a h1 ha, h'.clo _ a h2 ha, rfl, rfl, h3.step ha⟩
  have start : Side r [cl s] [cl' s'] := ⟨rfl, fun i hi hi' => by
    have : i = 0 := by simp at hi; omega
    subst this
    exact ⟨s, s', hs, hs', rfl, rfl, hc⟩⟩
  have side := side_exp hr hf (L := L) g [cl s] [cl' s'] 0 start
  have n1 := expL_nodup (fS nx cl of) L g [cl s] 0 (by simp)
  have n2 := expL_nodup (fS nx' cl' of') L g [cl' s'] 0 (by simp)
  have closed := expL_closed (fS nx cl of) L ((List.range n).map cl) (fun k a hk ha => by
    obtain ⟨q, hq, rfl⟩ := List.mem_map.1 hk
    exact List.mem_map.2 ⟨_, List.mem_range.2 (h.clo _ a (h.of_lt q (List.mem_range.1 hq)) ha), rfl⟩) g [cl s] 0 (by simp) (fun x hx => by
      simp only [List.mem_singleton] at hx
      rw [hx]; exact List.mem_map.2 ⟨s, List.mem_range.2 hs, rfl⟩) (by simp; omega) (by simp) (fun j _ hj => by omega)
  refine ⟨side_rows hr hf side n1 n2 closed, ?_, side.1⟩
  unfold listS
  apply List.ext_getElem
  · simp [side.1]
  · intro i h1 h2
    simp only [List.length_map] at h1 h2
    simp only [List.getElem_map]
    exact (hof _ _ (side.2 i h1 h2)).2.2.2.mark
end Go.Proofs.Ytampgoendkjkhaa.DtM
