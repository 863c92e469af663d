/-
  No cell of these rows narrows 'for every input' (looked for: loops, veiled, ifaces, maps, wideKeys, modest, calm, conditions, laid).
  DERIVED. THE GIVEN ROWS OF THIS SEAT. 12 by the template 'for every input the law returns true; each argument reads behind the call as it read before'; 0 by the template 'total and deterministic' (their statements: YtampgoendkjkhaaTotals.lean).
  GIVEN WITH THE SEED: the statements are not yours to turn. If you find one false, say at which input.
  Laid BY PROGRAM, IN A SANDBOX (cutbox-rows.mjs): the forced cells as the released guide's own fill.sh prints them over the translation b7bab85f7bc042fa… (all of the seat's roots in one cut). By AI agents, Wed Nov 11 2026. No macro, syntax, notation, axiom, sorry.
-/
import Derived.Test.YtampgoendkjkhaaChecked
import GoSem.Claim
import GoSem.ClaimJoined
import GoSem.ClaimMapViews
import Derived.JoinedTies
import Derived.KernelRfl
namespace Go.Proofs.Ytampgoendkjkhaa
/- THE CELL 'sum', in the pinned program and in every row, IS THE sha256 OF THE DUMP (.gsa) THAT YtampgoendkjkhaaProg.lean LOADS. Nothing in Lean hashes anything: it is a label: what it is worth is what the hold of that sum in a sandbox is worth. -/
noncomputable def Try.pinned : Pinned := { name := "ytampgoendkjkhaa", sum := "b7bab85f7bc042fa2b6134b9798f0d2b4e748403f0dcf82a65c0082a837278ec", checked := Try.checked }
namespace Rows
def none {H : Type} : Left H := { results := [], args := [] }

/-- 'evermorekeep.TimedMore': WHATEVER THE INPUT: true; the input reads as it did. -/
def timedMoreSpec : ChangeSpec := { name := "timedMore", fn := fun _ => fun
  | [d1, d2] => { results := [.lit (.bool true)], args := [d1, d2] }
  | _ => none }
def timedMoreRow : OpenClaim := { program := "ytampgoendkjkhaa", sum := "b7bab85f7bc042fa2b6134b9798f0d2b4e748403f0dcf82a65c0082a837278ec", func := "evermore/evermorekeep.TimedMore", spec := "timedMore", unfollowed := true, recurses := true, plainKeys := false, apart := false }
def TimedMoreSaid : Prop := timedMoreRow.holds Try.pinned (OpenSpec.ofChange timedMoreSpec)

/-- ITS FALSE NEIGHBOUR: 'it returns false'. Refute it at one input. -/
def timedMoreWrong : ChangeSpec := { name := "timedMore", fn := fun _ => fun
  | [d1, d2] => { results := [.lit (.bool false)], args := [d1, d2] }
  | _ => none }
def TimedMoreWrongFalsely : Prop := timedMoreRow.holds Try.pinned (OpenSpec.ofChange timedMoreWrong)

/-- 'evermorekeep.StackGoes': WHATEVER THE INPUT: true; the input reads as it did. -/
def stackGoesSpec : ChangeSpec := { name := "stackGoes", fn := fun _ => fun
  | [d1, d2, d3, d4] => { results := [.lit (.bool true)], args := [d1, d2, d3, d4] }
  | _ => none }
def stackGoesRow : OpenClaim := { program := "ytampgoendkjkhaa", sum := "b7bab85f7bc042fa2b6134b9798f0d2b4e748403f0dcf82a65c0082a837278ec", func := "evermore/evermorekeep.StackGoes", spec := "stackGoes", unfollowed := true, recurses := true, plainKeys := false, apart := false }
def StackGoesSaid : Prop := stackGoesRow.holds Try.pinned (OpenSpec.ofChange stackGoesSpec)

/-- ITS FALSE NEIGHBOUR: 'it returns false'. Refute it at one input. -/
def stackGoesWrong : ChangeSpec := { name := "stackGoes", fn := fun _ => fun
  | [d1, d2, d3, d4] => { results := [.lit (.bool false)], args := [d1, d2, d3, d4] }
  | _ => none }
def StackGoesWrongFalsely : Prop := stackGoesRow.holds Try.pinned (OpenSpec.ofChange stackGoesWrong)

/-- 'evermorekeep.SeqsGoes': WHATEVER THE INPUT: true; the input reads as it did. -/
def seqsGoesSpec : ChangeSpec := { name := "seqsGoes", fn := fun _ => fun
  | [d1, d2] => { results := [.lit (.bool true)], args := [d1, d2] }
  | _ => none }
def seqsGoesRow : OpenClaim := { program := "ytampgoendkjkhaa", sum := "b7bab85f7bc042fa2b6134b9798f0d2b4e748403f0dcf82a65c0082a837278ec", func := "evermore/evermorekeep.SeqsGoes", spec := "seqsGoes", unfollowed := true, recurses := true, plainKeys := false, apart := false }
def SeqsGoesSaid : Prop := seqsGoesRow.holds Try.pinned (OpenSpec.ofChange seqsGoesSpec)

/-- ITS FALSE NEIGHBOUR: 'it returns false'. Refute it at one input. -/
def seqsGoesWrong : ChangeSpec := { name := "seqsGoes", fn := fun _ => fun
  | [d1, d2] => { results := [.lit (.bool false)], args := [d1, d2] }
  | _ => none }
def SeqsGoesWrongFalsely : Prop := seqsGoesRow.holds Try.pinned (OpenSpec.ofChange seqsGoesWrong)

/-- 'evermorekeep.CoverGrows': WHATEVER THE INPUT: true; the input reads as it did. -/
def coverGrowsSpec : ChangeSpec := { name := "coverGrows", fn := fun _ => fun
  | [d1, d2, d3, d4] => { results := [.lit (.bool true)], args := [d1, d2, d3, d4] }
  | _ => none }
def coverGrowsRow : OpenClaim := { program := "ytampgoendkjkhaa", sum := "b7bab85f7bc042fa2b6134b9798f0d2b4e748403f0dcf82a65c0082a837278ec", func := "evermore/evermorekeep.CoverGrows", spec := "coverGrows", unfollowed := true, recurses := true, plainKeys := false, apart := false }
def CoverGrowsSaid : Prop := coverGrowsRow.holds Try.pinned (OpenSpec.ofChange coverGrowsSpec)

/-- ITS FALSE NEIGHBOUR: 'it returns false'. Refute it at one input. -/
def coverGrowsWrong : ChangeSpec := { name := "coverGrows", fn := fun _ => fun
  | [d1, d2, d3, d4] => { results := [.lit (.bool false)], args := [d1, d2, d3, d4] }
  | _ => none }
def CoverGrowsWrongFalsely : Prop := coverGrowsRow.holds Try.pinned (OpenSpec.ofChange coverGrowsWrong)

/-- 'evermorekeep.RewriteOnce': WHATEVER THE INPUT: true; the input reads as it did. -/
def rewriteOnceSpec : ChangeSpec := { name := "rewriteOnce", fn := fun _ => fun
  | [d1, d2, d3, d4] => { results := [.lit (.bool true)], args := [d1, d2, d3, d4] }
  | _ => none }
def rewriteOnceRow : OpenClaim := { program := "ytampgoendkjkhaa", sum := "b7bab85f7bc042fa2b6134b9798f0d2b4e748403f0dcf82a65c0082a837278ec", func := "evermore/evermorekeep.RewriteOnce", spec := "rewriteOnce", unfollowed := true, recurses := true, plainKeys := false, apart := false }
def RewriteOnceSaid : Prop := rewriteOnceRow.holds Try.pinned (OpenSpec.ofChange rewriteOnceSpec)

/-- ITS FALSE NEIGHBOUR: 'it returns false'. Refute it at one input. -/
def rewriteOnceWrong : ChangeSpec := { name := "rewriteOnce", fn := fun _ => fun
  | [d1, d2, d3, d4] => { results := [.lit (.bool false)], args := [d1, d2, d3, d4] }
  | _ => none }
def RewriteOnceWrongFalsely : Prop := rewriteOnceRow.holds Try.pinned (OpenSpec.ofChange rewriteOnceWrong)

/-- 'evermorekeep.SameOrder': WHATEVER THE INPUT: true; the input reads as it did. -/
def sameOrderSpec : ChangeSpec := { name := "sameOrder", fn := fun _ => fun
  | [d] => { results := [.lit (.bool true)], args := [d] }
  | _ => none }
def sameOrderRow : OpenClaim := { program := "ytampgoendkjkhaa", sum := "b7bab85f7bc042fa2b6134b9798f0d2b4e748403f0dcf82a65c0082a837278ec", func := "evermore/evermorekeep.SameOrder", spec := "sameOrder", unfollowed := true, recurses := true, plainKeys := false, apart := false }
def SameOrderSaid : Prop := sameOrderRow.holds Try.pinned (OpenSpec.ofChange sameOrderSpec)

/-- ITS FALSE NEIGHBOUR: 'it returns false'. Refute it at one input. -/
def sameOrderWrong : ChangeSpec := { name := "sameOrder", fn := fun _ => fun
  | [d] => { results := [.lit (.bool false)], args := [d] }
  | _ => none }
def SameOrderWrongFalsely : Prop := sameOrderRow.holds Try.pinned (OpenSpec.ofChange sameOrderWrong)

/-- 'evermorekeep.TimeLaws': WHATEVER THE INPUT: true; the input reads as it did. -/
def timeLawsSpec : ChangeSpec := { name := "timeLaws", fn := fun _ => fun
  | [d1, d2, d3] => { results := [.lit (.bool true)], args := [d1, d2, d3] }
  | _ => none }
def timeLawsRow : OpenClaim := { program := "ytampgoendkjkhaa", sum := "b7bab85f7bc042fa2b6134b9798f0d2b4e748403f0dcf82a65c0082a837278ec", func := "evermore/evermorekeep.TimeLaws", spec := "timeLaws", unfollowed := true, recurses := true, plainKeys := false, apart := false }
def TimeLawsSaid : Prop := timeLawsRow.holds Try.pinned (OpenSpec.ofChange timeLawsSpec)

/-- ITS FALSE NEIGHBOUR: 'it returns false'. Refute it at one input. -/
def timeLawsWrong : ChangeSpec := { name := "timeLaws", fn := fun _ => fun
  | [d1, d2, d3] => { results := [.lit (.bool false)], args := [d1, d2, d3] }
  | _ => none }
def TimeLawsWrongFalsely : Prop := timeLawsRow.holds Try.pinned (OpenSpec.ofChange timeLawsWrong)

/-- 'evermoretop.TopSaid': WHATEVER THE INPUT: true; the input reads as it did. -/
def topSaidSpec : ChangeSpec := { name := "topSaid", fn := fun _ => fun
  | [d] => { results := [.lit (.bool true)], args := [d] }
  | _ => none }
def topSaidRow : OpenClaim := { program := "ytampgoendkjkhaa", sum := "b7bab85f7bc042fa2b6134b9798f0d2b4e748403f0dcf82a65c0082a837278ec", func := "evermore/evermoretop.TopSaid", spec := "topSaid", unfollowed := true, recurses := true, plainKeys := false, apart := false }
def TopSaidSaid : Prop := topSaidRow.holds Try.pinned (OpenSpec.ofChange topSaidSpec)

/-- ITS FALSE NEIGHBOUR: 'it returns false'. Refute it at one input. -/
def topSaidWrong : ChangeSpec := { name := "topSaid", fn := fun _ => fun
  | [d] => { results := [.lit (.bool false)], args := [d] }
  | _ => none }
def TopSaidWrongFalsely : Prop := topSaidRow.holds Try.pinned (OpenSpec.ofChange topSaidWrong)

/-- 'evermorekeep.HigmanTwice': WHATEVER THE INPUT: true; the input reads as it did. -/
def higmanTwiceSpec : ChangeSpec := { name := "higmanTwice", fn := fun _ => fun
  | [d] => { results := [.lit (.bool true)], args := [d] }
  | _ => none }
def higmanTwiceRow : OpenClaim := { program := "ytampgoendkjkhaa", sum := "b7bab85f7bc042fa2b6134b9798f0d2b4e748403f0dcf82a65c0082a837278ec", func := "evermore/evermorekeep.HigmanTwice", spec := "higmanTwice", unfollowed := true, recurses := true, plainKeys := false, apart := false }
def HigmanTwiceSaid : Prop := higmanTwiceRow.holds Try.pinned (OpenSpec.ofChange higmanTwiceSpec)

/-- ITS FALSE NEIGHBOUR: 'it returns false'. Refute it at one input. -/
def higmanTwiceWrong : ChangeSpec := { name := "higmanTwice", fn := fun _ => fun
  | [d] => { results := [.lit (.bool false)], args := [d] }
  | _ => none }
def HigmanTwiceWrongFalsely : Prop := higmanTwiceRow.holds Try.pinned (OpenSpec.ofChange higmanTwiceWrong)

/-- 'evermorekeep.TwoOne': WHATEVER THE INPUT: true; the input reads as it did. -/
def twoOneSpec : ChangeSpec := { name := "twoOne", fn := fun _ => fun
  | [d1, d2] => { results := [.lit (.bool true)], args := [d1, d2] }
  | _ => none }
def twoOneRow : OpenClaim := { program := "ytampgoendkjkhaa", sum := "b7bab85f7bc042fa2b6134b9798f0d2b4e748403f0dcf82a65c0082a837278ec", func := "evermore/evermorekeep.TwoOne", spec := "twoOne", unfollowed := true, recurses := true, plainKeys := false, apart := false }
def TwoOneSaid : Prop := twoOneRow.holds Try.pinned (OpenSpec.ofChange twoOneSpec)

/-- ITS FALSE NEIGHBOUR: 'it returns false'. Refute it at one input. -/
def twoOneWrong : ChangeSpec := { name := "twoOne", fn := fun _ => fun
  | [d1, d2] => { results := [.lit (.bool false)], args := [d1, d2] }
  | _ => none }
def TwoOneWrongFalsely : Prop := twoOneRow.holds Try.pinned (OpenSpec.ofChange twoOneWrong)

/-- 'evermorekeep.TransRow': WHATEVER THE INPUT: true; the input reads as it did. -/
def transRowSpec : ChangeSpec := { name := "transRow", fn := fun _ => fun
  | [d1, d2, d3] => { results := [.lit (.bool true)], args := [d1, d2, d3] }
  | _ => none }
def transRowRow : OpenClaim := { program := "ytampgoendkjkhaa", sum := "b7bab85f7bc042fa2b6134b9798f0d2b4e748403f0dcf82a65c0082a837278ec", func := "evermore/evermorekeep.TransRow", spec := "transRow", unfollowed := true, recurses := true, plainKeys := false, apart := false }
def TransRowSaid : Prop := transRowRow.holds Try.pinned (OpenSpec.ofChange transRowSpec)

/-- ITS FALSE NEIGHBOUR: 'it returns false'. Refute it at one input. -/
def transRowWrong : ChangeSpec := { name := "transRow", fn := fun _ => fun
  | [d1, d2, d3] => { results := [.lit (.bool false)], args := [d1, d2, d3] }
  | _ => none }
def TransRowWrongFalsely : Prop := transRowRow.holds Try.pinned (OpenSpec.ofChange transRowWrong)

/-- 'evermorekeep.CodeMcMillan': WHATEVER THE INPUT: true; the input reads as it did. -/
def codeMcMillanSpec : ChangeSpec := { name := "codeMcMillan", fn := fun _ => fun
  | [d1, d2] => { results := [.lit (.bool true)], args := [d1, d2] }
  | _ => none }
def codeMcMillanRow : OpenClaim := { program := "ytampgoendkjkhaa", sum := "b7bab85f7bc042fa2b6134b9798f0d2b4e748403f0dcf82a65c0082a837278ec", func := "evermore/evermorekeep.CodeMcMillan", spec := "codeMcMillan", unfollowed := true, recurses := true, plainKeys := false, apart := false }
def CodeMcMillanSaid : Prop := codeMcMillanRow.holds Try.pinned (OpenSpec.ofChange codeMcMillanSpec)

/-- ITS FALSE NEIGHBOUR: 'it returns false'. Refute it at one input. -/
def codeMcMillanWrong : ChangeSpec := { name := "codeMcMillan", fn := fun _ => fun
  | [d1, d2] => { results := [.lit (.bool false)], args := [d1, d2] }
  | _ => none }
def CodeMcMillanWrongFalsely : Prop := codeMcMillanRow.holds Try.pinned (OpenSpec.ofChange codeMcMillanWrong)

/- THE SECOND FORM. 'bulk': how many values and letters a reading holds, each counted each time it is reached (what is shared counts as often as it is met; a slice's spare places count too). A statement '..UptoSaid' is the law's where the arguments, and the package variables that the reading takes, are together of bulk at most 1048576: NARROWER than '..Said'. Prove '..Said' where nothing that the law and all that it calls make is longer than what came in: it says more and counts as full. Else prove '..UptoSaid'. A law counts once. -/
mutual
def uptoBulk {H : Type} : DataW H → Nat
  | .lit (.string bytes) => bytes.length + 1
  | .lit _ => 1
  | .nil => 1
  | .ptr d => uptoBulk d + 1
  | .slice elems spare => uptoBulkAll elems + uptoBulkAll spare + 1
  | .agg parts => uptoBulkAll parts + 1
  | .iface _ d => uptoBulk d + 1
  | .map entries => uptoBulkEntries entries + 1
  | .held _ => 1
def uptoBulkAll {H : Type} : List (DataW H) → Nat
  | [] => 0
  | d :: r => uptoBulk d + uptoBulkAll r
def uptoBulkEntries {H : Type} : List (Lit × DataW H) → Nat
  | [] => 0
  | x :: r => uptoBulkEntry x + uptoBulkEntries r
def uptoBulkEntry {H : Type} : Lit × DataW H → Nat
  | (.string bytes, d) => bytes.length + uptoBulk d + 1
  | (_, d) => uptoBulk d + 1
 end
def uptoSmall : (H : Type) → List (DataW H) → Bool := fun _ ds => decide (uptoBulkAll ds ≤ 1048576)
def OpenSpec.upto (s : _root_.Go.ChangeSpec) : _root_.Go.OpenSpec := { _root_.Go.OpenSpec.ofChange s with cond := some uptoSmall }

/-- 'evermorekeep.TimedMore', WHERE WHAT IT READS IS OF BULK AT MOST 1048576: true; the input reads as it did. -/
def timedMoreUptoRow : OpenClaim := { program := "ytampgoendkjkhaa", sum := "b7bab85f7bc042fa2b6134b9798f0d2b4e748403f0dcf82a65c0082a837278ec", func := "evermore/evermorekeep.TimedMore", spec := "timedMore", unfollowed := true, recurses := true, plainKeys := false, apart := false, narrowed := true }
def TimedMoreUptoSaid : Prop := timedMoreUptoRow.holds Try.pinned (OpenSpec.upto timedMoreSpec)

/-- 'evermorekeep.StackGoes', WHERE WHAT IT READS IS OF BULK AT MOST 1048576: true; the input reads as it did. -/
def stackGoesUptoRow : OpenClaim := { program := "ytampgoendkjkhaa", sum := "b7bab85f7bc042fa2b6134b9798f0d2b4e748403f0dcf82a65c0082a837278ec", func := "evermore/evermorekeep.StackGoes", spec := "stackGoes", unfollowed := true, recurses := true, plainKeys := false, apart := false, narrowed := true }
def StackGoesUptoSaid : Prop := stackGoesUptoRow.holds Try.pinned (OpenSpec.upto stackGoesSpec)

/-- 'evermorekeep.SeqsGoes', WHERE WHAT IT READS IS OF BULK AT MOST 1048576: true; the input reads as it did. -/
def seqsGoesUptoRow : OpenClaim := { program := "ytampgoendkjkhaa", sum := "b7bab85f7bc042fa2b6134b9798f0d2b4e748403f0dcf82a65c0082a837278ec", func := "evermore/evermorekeep.SeqsGoes", spec := "seqsGoes", unfollowed := true, recurses := true, plainKeys := false, apart := false, narrowed := true }
def SeqsGoesUptoSaid : Prop := seqsGoesUptoRow.holds Try.pinned (OpenSpec.upto seqsGoesSpec)

/-- 'evermorekeep.CoverGrows', WHERE WHAT IT READS IS OF BULK AT MOST 1048576: true; the input reads as it did. -/
def coverGrowsUptoRow : OpenClaim := { program := "ytampgoendkjkhaa", sum := "b7bab85f7bc042fa2b6134b9798f0d2b4e748403f0dcf82a65c0082a837278ec", func := "evermore/evermorekeep.CoverGrows", spec := "coverGrows", unfollowed := true, recurses := true, plainKeys := false, apart := false, narrowed := true }
def CoverGrowsUptoSaid : Prop := coverGrowsUptoRow.holds Try.pinned (OpenSpec.upto coverGrowsSpec)

/-- 'evermorekeep.RewriteOnce', WHERE WHAT IT READS IS OF BULK AT MOST 1048576: true; the input reads as it did. -/
def rewriteOnceUptoRow : OpenClaim := { program := "ytampgoendkjkhaa", sum := "b7bab85f7bc042fa2b6134b9798f0d2b4e748403f0dcf82a65c0082a837278ec", func := "evermore/evermorekeep.RewriteOnce", spec := "rewriteOnce", unfollowed := true, recurses := true, plainKeys := false, apart := false, narrowed := true }
def RewriteOnceUptoSaid : Prop := rewriteOnceUptoRow.holds Try.pinned (OpenSpec.upto rewriteOnceSpec)

/-- 'evermorekeep.SameOrder', WHERE WHAT IT READS IS OF BULK AT MOST 1048576: true; the input reads as it did. -/
def sameOrderUptoRow : OpenClaim := { program := "ytampgoendkjkhaa", sum := "b7bab85f7bc042fa2b6134b9798f0d2b4e748403f0dcf82a65c0082a837278ec", func := "evermore/evermorekeep.SameOrder", spec := "sameOrder", unfollowed := true, recurses := true, plainKeys := false, apart := false, narrowed := true }
def SameOrderUptoSaid : Prop := sameOrderUptoRow.holds Try.pinned (OpenSpec.upto sameOrderSpec)

/-- 'evermorekeep.TimeLaws', WHERE WHAT IT READS IS OF BULK AT MOST 1048576: true; the input reads as it did. -/
def timeLawsUptoRow : OpenClaim := { program := "ytampgoendkjkhaa", sum := "b7bab85f7bc042fa2b6134b9798f0d2b4e748403f0dcf82a65c0082a837278ec", func := "evermore/evermorekeep.TimeLaws", spec := "timeLaws", unfollowed := true, recurses := true, plainKeys := false, apart := false, narrowed := true }
def TimeLawsUptoSaid : Prop := timeLawsUptoRow.holds Try.pinned (OpenSpec.upto timeLawsSpec)

/-- 'evermoretop.TopSaid', WHERE WHAT IT READS IS OF BULK AT MOST 1048576: true; the input reads as it did. -/
def topSaidUptoRow : OpenClaim := { program := "ytampgoendkjkhaa", sum := "b7bab85f7bc042fa2b6134b9798f0d2b4e748403f0dcf82a65c0082a837278ec", func := "evermore/evermoretop.TopSaid", spec := "topSaid", unfollowed := true, recurses := true, plainKeys := false, apart := false, narrowed := true }
def TopSaidUptoSaid : Prop := topSaidUptoRow.holds Try.pinned (OpenSpec.upto topSaidSpec)

/-- 'evermorekeep.HigmanTwice', WHERE WHAT IT READS IS OF BULK AT MOST 1048576: true; the input reads as it did. -/
def higmanTwiceUptoRow : OpenClaim := { program := "ytampgoendkjkhaa", sum := "b7bab85f7bc042fa2b6134b9798f0d2b4e748403f0dcf82a65c0082a837278ec", func := "evermore/evermorekeep.HigmanTwice", spec := "higmanTwice", unfollowed := true, recurses := true, plainKeys := false, apart := false, narrowed := true }
def HigmanTwiceUptoSaid : Prop := higmanTwiceUptoRow.holds Try.pinned (OpenSpec.upto higmanTwiceSpec)

/-- 'evermorekeep.TwoOne', WHERE WHAT IT READS IS OF BULK AT MOST 1048576: true; the input reads as it did. -/
def twoOneUptoRow : OpenClaim := { program := "ytampgoendkjkhaa", sum := "b7bab85f7bc042fa2b6134b9798f0d2b4e748403f0dcf82a65c0082a837278ec", func := "evermore/evermorekeep.TwoOne", spec := "twoOne", unfollowed := true, recurses := true, plainKeys := false, apart := false, narrowed := true }
def TwoOneUptoSaid : Prop := twoOneUptoRow.holds Try.pinned (OpenSpec.upto twoOneSpec)

/-- 'evermorekeep.TransRow', WHERE WHAT IT READS IS OF BULK AT MOST 1048576: true; the input reads as it did. -/
def transRowUptoRow : OpenClaim := { program := "ytampgoendkjkhaa", sum := "b7bab85f7bc042fa2b6134b9798f0d2b4e748403f0dcf82a65c0082a837278ec", func := "evermore/evermorekeep.TransRow", spec := "transRow", unfollowed := true, recurses := true, plainKeys := false, apart := false, narrowed := true }
def TransRowUptoSaid : Prop := transRowUptoRow.holds Try.pinned (OpenSpec.upto transRowSpec)

/-- 'evermorekeep.CodeMcMillan', WHERE WHAT IT READS IS OF BULK AT MOST 1048576: true; the input reads as it did. -/
def codeMcMillanUptoRow : OpenClaim := { program := "ytampgoendkjkhaa", sum := "b7bab85f7bc042fa2b6134b9798f0d2b4e748403f0dcf82a65c0082a837278ec", func := "evermore/evermorekeep.CodeMcMillan", spec := "codeMcMillan", unfollowed := true, recurses := true, plainKeys := false, apart := false, narrowed := true }
def CodeMcMillanUptoSaid : Prop := codeMcMillanUptoRow.holds Try.pinned (OpenSpec.upto codeMcMillanSpec)

end Rows
end Go.Proofs.Ytampgoendkjkhaa
