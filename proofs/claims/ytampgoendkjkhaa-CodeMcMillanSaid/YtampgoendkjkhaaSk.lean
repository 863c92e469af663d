/- The keys of det.Classes: a number with a row of numbers, each of two bytes. -/
import Derived.Test.YtampgoendkjkhaaMap
import Derived.WalkKit
import Derived.KernelRfl
import Derived.DeepKeys4
namespace Go.Proofs.Ytampgoendkjkhaa.H
open Go.RowKit Go.Maps
set_option linter.unusedVariables false
def twoB (x : Int) : List Int := [x % 256, x / 256 % 256]
def bytesB (xs : List Int) : List Int := xs.flatMap twoB
def byteU (x : Int) : UInt8 := UInt8.ofNat x.toNat
def bstr (xs : List Int) : ByteArray := ⟨((bytesB xs).map byteU).toArray⟩
theorem bytesB_cons (x : Int) (xs : List Int) : bytesB (x :: xs) = x % 256 :: x / 256 % 256 :: bytesB xs := rfl
theorem bytesB_len (xs : List Int) : (bytesB xs).length = 2 * xs.length := by
  induction xs with
  | nil => rfl
  | cons x xs ih => rw [bytesB_cons, List.length_cons, List.length_cons, List.length_cons, ih]; omega
theorem bstr_size (xs : List Int) : (bstr xs).size = 2 * xs.length := by
  have : (bstr xs).size = ((bytesB xs).map byteU).length := by simp [bstr, ByteArray.size]
  rw [this, List.length_map, bytesB_len]
theorem byteU_inj {a b : Int} (ha : 0 ≤ a ∧ a < 256) (hb : 0 ≤ b ∧ b < 256) (e : byteU a = byteU b) : a = b := by
  unfold byteU at e
  have := congrArg UInt8.toNat e
  rw [UInt8.toNat_ofNat', UInt8.toNat_ofNat'] at this
  omega
theorem bytes_inj : ∀ {a b : List Int}, (∀ x ∈ a, 0 ≤ x ∧ x < 65536) → (∀ x ∈ b, 0 ≤ x ∧ x < 65536) → (bytesB a).map byteU = (bytesB b).map byteU → a = b
  | [], [], _, _, _ => rfl
  | [], _ :: _, _, _, h => by simp [bytesB, twoB] at h
  | _ :: _, [], _, _, h => by simp [bytesB, twoB] at h
  | x :: xs, y :: ys, ha, hb, h => by
    rw [bytesB_cons, bytesB_cons] at h
    simp only [List.map_cons, List.cons.injEq] at h
    obtain ⟨h1, h2, h3⟩ := h
    have a := ha x (by simp)
    have b := hb y (by simp)
    have e1 := byteU_inj (by omega) (by omega) h1
    have e2 := byteU_inj (by omega) (by omega) h2
    rw [bytes_inj (fun z hz => ha z (by simp [hz])) (fun z hz => hb z (by simp [hz])) h3]
    congr 1
    omega
theorem bstr_inj {a b : List Int} (ha : ∀ x ∈ a, 0 ≤ x ∧ x < 65536) (hb : ∀ x ∈ b, 0 ≤ x ∧ x < 65536) (e : bstr a = bstr b) : a = b := by
  refine bytes_inj ha hb ?_
  have := congrArg (fun s : ByteArray => s.data.toList) e
  simpa [bstr] using this
theorem sk_laid : laidOutB Try.prog = true := by kernel_rfl
theorem sk_row : (294 : TypeId) < Try.prog.types.size := of_decide_eq_true (by kernel_rfl)
theorem sk_wide : (match Try.prog.underlying 294 with | some (.array _ _) | some (.struct _) => true | _ => false) = true := by kernel_rfl
theorem sk_kt3 : Try.prog.keyTypeAt 3 294 = true := by kernel_rfl
set_option maxRecDepth 100000 in
theorem sk_law : WideMaps.KeyLaw Try.prog 294 := deep_law_laid (m := 3) sk_laid (by decide) sk_row sk_kt3 sk_wide
theorem sk_kt : Try.prog.keyType 294 = true := by kernel_rfl
theorem sk_c : Try.prog.cellsOf 294 = 2 := by kernel_rfl
theorem sk_c3 : Try.prog.cellsOf 3 = 1 := by kernel_rfl
theorem sk_c9 : Try.prog.cellsOf 9 = 1 := by kernel_rfl
theorem sk_fm (o : Int) (s : ByteArray) : (Value.agg #[.int .i64 o, .string s]).formed Try.prog 294 = true := by
  simp [Value.formed, Try.underlying294, sk_c]
theorem sk_kl (n : Nat) (o : Int) (s : ByteArray) (ho : (Lit.int .i64 o).wf = true) (hs : s.size ≤ maxLen) : (Try.prog.keyLits (n + 2) 294 [.int .i64 o, .string s]) = some [.int .i64 o, .string s.data.toList] := by
  simp [Program.keyLits, Try.underlying294, Try.underlying3, Try.underlying9, sk_c, sk_c3, sk_c9, ho, hs]
theorem sk_tsz : Try.prog.types.size = (Try.prog.types.size - 1) + 1 := by kernel_rfl
theorem sk_ko (o : Int) (s : ByteArray) (ho : (Lit.int .i64 o).wf = true) (hs : s.size ≤ maxLen) : keyOf Try.prog 294 (.agg #[.int .i64 o, .string s]) = some (.string (keyBytes [.int .i64 o, .string s.data.toList])) := by
  have hw : ∃ fs, Try.prog.underlying 294 = some (.struct fs) := ⟨_, Try.underlying294⟩
  obtain ⟨fs, hu⟩ := hw
  unfold keyOf
  rw [hu]
  simp only [sk_kt, sk_fm, Bool.and_self, if_true]
  rw [sk_tsz]
  have := sk_kl (Try.prog.types.size - 1) o s ho hs
  simp only [Value.cells]
  rw [this]
  rfl
def encS (p : Int × List Int) : Value := .agg #[.int .i64 p.1, .string (bstr p.2)]
def okS (p : Int × List Int) : Prop := (0 ≤ p.1 ∧ p.1 < 65536) ∧ p.2.length ≤ 1000 ∧ ∀ x ∈ p.2, 0 ≤ x ∧ x < 65536
theorem splitOk : ∃ E : KeyE Try.prog 294 (Int × List Int), E.enc = encS ∧ E.ok = okS := ⟨{
  enc := encS
  ok := okS
  K := Keyed.of_law sk_law
  lit := fun a => .string (keyBytes [.int .i64 a.1, .string (bstr a.2).data.toList])
  key := fun a h => sk_ko a.1 (bstr a.2) (wf_i64 (by have := h.1; omega)) (by rw [bstr_size]; have := h.2.1; unfold maxLen; omega)
  inj := fun a b ha hb e => by
    unfold encS at e
    injection e with e
    have e1 := congrArg (fun z => z[0]?) e
    have e2 := congrArg (fun z => z[1]?) e
    simp at e1 e2
    exact Prod.ext e1 (bstr_inj ha.2.2 hb.2.2 e2) }, rfl, rfl⟩
end Go.Proofs.Ytampgoendkjkhaa.H
