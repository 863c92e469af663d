/-
  No cell of these rows narrows 'for every input' (looked for: loops, veiled, ifaces, maps, wideKeys, modest, calm, conditions, laid).
  DERIVED. THE GIVEN ROWS OF THIS SEAT. 12 by the template 'for every input the law returns true; each argument reads behind the call as it read before'; 0 by the template 'total and deterministic' (their statements: YtjabncedfjjbjaaTotals.lean).
  GIVEN WITH THE SEED: the statements are not yours to turn. If you find one false, say at which input.
  Laid BY PROGRAM, IN A SANDBOX (cutbox-rows.mjs): the forced cells as the released guide's own fill.sh prints them over the translation cd27cf4c7f8c6591… (all of the seat's roots in one cut). By AI agents, Wed Nov 11 2026. No macro, syntax, notation, axiom, sorry.
-/
import Derived.Test.YtjabncedfjjbjaaChecked
import GoSem.Claim
import GoSem.ClaimJoined
import GoSem.ClaimMapViews
import Derived.JoinedTies
import Derived.KernelRfl
namespace Go.Proofs.Ytjabncedfjjbjaa
/- THE CELL 'sum', in the pinned program and in every row, IS THE sha256 OF THE DUMP (.gsa) THAT YtjabncedfjjbjaaProg.lean LOADS. Nothing in Lean hashes anything: it is a label: what it is worth is what the hold of that sum in a sandbox is worth. -/
noncomputable def Try.pinned : Pinned := { name := "ytjabncedfjjbjaa", sum := "cd27cf4c7f8c65913da72e154e9d63331220647207bbf239006a414f42921ae7", checked := Try.checked }
namespace Rows
def none {H : Type} : Left H := { results := [], args := [] }

/-- 'evermorekeep.TimedMore': WHATEVER THE INPUT: true; the input reads as it did. -/
def timedMoreSpec : ChangeSpec := { name := "timedMore", fn := fun _ => fun
  | [d1, d2] => { results := [.lit (.bool true)], args := [d1, d2] }
  | _ => none }
def timedMoreRow : OpenClaim := { program := "ytjabncedfjjbjaa", sum := "cd27cf4c7f8c65913da72e154e9d63331220647207bbf239006a414f42921ae7", func := "evermore/evermorekeep.TimedMore", spec := "timedMore", unfollowed := true, recurses := true, plainKeys := false, apart := false }
def TimedMoreSaid : Prop := timedMoreRow.holds Try.pinned (OpenSpec.ofChange timedMoreSpec)

/-- ITS FALSE NEIGHBOUR: 'it returns false'. Refute it at one input. -/
def timedMoreWrong : ChangeSpec := { name := "timedMore", fn := fun _ => fun
  | [d1, d2] => { results := [.lit (.bool false)], args := [d1, d2] }
  | _ => none }
def TimedMoreWrongFalsely : Prop := timedMoreRow.holds Try.pinned (OpenSpec.ofChange timedMoreWrong)

/-- 'evermorekeep.WordRest': WHATEVER THE INPUT: true; the input reads as it did. -/
def wordRestSpec : ChangeSpec := { name := "wordRest", fn := fun _ => fun
  | [d1, d2, d3] => { results := [.lit (.bool true)], args := [d1, d2, d3] }
  | _ => none }
def wordRestRow : OpenClaim := { program := "ytjabncedfjjbjaa", sum := "cd27cf4c7f8c65913da72e154e9d63331220647207bbf239006a414f42921ae7", func := "evermore/evermorekeep.WordRest", spec := "wordRest", plainKeys := false, apart := false }
def WordRestSaid : Prop := wordRestRow.holds Try.pinned (OpenSpec.ofChange wordRestSpec)

/-- ITS FALSE NEIGHBOUR: 'it returns false'. Refute it at one input. -/
def wordRestWrong : ChangeSpec := { name := "wordRest", fn := fun _ => fun
  | [d1, d2, d3] => { results := [.lit (.bool false)], args := [d1, d2, d3] }
  | _ => none }
def WordRestWrongFalsely : Prop := wordRestRow.holds Try.pinned (OpenSpec.ofChange wordRestWrong)

/-- 'evermorekeep.MullerOther': WHATEVER THE INPUT: true; the input reads as it did. -/
def mullerOtherSpec : ChangeSpec := { name := "mullerOther", fn := fun _ => fun
  | [d1, d2] => { results := [.lit (.bool true)], args := [d1, d2] }
  | _ => none }
def mullerOtherRow : OpenClaim := { program := "ytjabncedfjjbjaa", sum := "cd27cf4c7f8c65913da72e154e9d63331220647207bbf239006a414f42921ae7", func := "evermore/evermorekeep.MullerOther", spec := "mullerOther", unfollowed := true, recurses := true, plainKeys := false, apart := false }
def MullerOtherSaid : Prop := mullerOtherRow.holds Try.pinned (OpenSpec.ofChange mullerOtherSpec)

/-- ITS FALSE NEIGHBOUR: 'it returns false'. Refute it at one input. -/
def mullerOtherWrong : ChangeSpec := { name := "mullerOther", fn := fun _ => fun
  | [d1, d2] => { results := [.lit (.bool false)], args := [d1, d2] }
  | _ => none }
def MullerOtherWrongFalsely : Prop := mullerOtherRow.holds Try.pinned (OpenSpec.ofChange mullerOtherWrong)

/-- 'evermorekeep.EhrenEven': WHATEVER THE INPUT: true; the input reads as it did. -/
def ehrenEvenSpec : ChangeSpec := { name := "ehrenEven", fn := fun _ => fun
  | [d1, d2, d3, d4] => { results := [.lit (.bool true)], args := [d1, d2, d3, d4] }
  | _ => none }
def ehrenEvenRow : OpenClaim := { program := "ytjabncedfjjbjaa", sum := "cd27cf4c7f8c65913da72e154e9d63331220647207bbf239006a414f42921ae7", func := "evermore/evermorekeep.EhrenEven", spec := "ehrenEven", recurses := true, plainKeys := false, apart := false }
def EhrenEvenSaid : Prop := ehrenEvenRow.holds Try.pinned (OpenSpec.ofChange ehrenEvenSpec)

/-- ITS FALSE NEIGHBOUR: 'it returns false'. Refute it at one input. -/
def ehrenEvenWrong : ChangeSpec := { name := "ehrenEven", fn := fun _ => fun
  | [d1, d2, d3, d4] => { results := [.lit (.bool false)], args := [d1, d2, d3, d4] }
  | _ => none }
def EhrenEvenWrongFalsely : Prop := ehrenEvenRow.holds Try.pinned (OpenSpec.ofChange ehrenEvenWrong)

/-- 'evermorekeep.LyndonPower': WHATEVER THE INPUT: true; the input reads as it did. -/
def lyndonPowerSpec : ChangeSpec := { name := "lyndonPower", fn := fun _ => fun
  | [d1, d2] => { results := [.lit (.bool true)], args := [d1, d2] }
  | _ => none }
def lyndonPowerRow : OpenClaim := { program := "ytjabncedfjjbjaa", sum := "cd27cf4c7f8c65913da72e154e9d63331220647207bbf239006a414f42921ae7", func := "evermore/evermorekeep.LyndonPower", spec := "lyndonPower", plainKeys := false, apart := false }
def LyndonPowerSaid : Prop := lyndonPowerRow.holds Try.pinned (OpenSpec.ofChange lyndonPowerSpec)

/-- ITS FALSE NEIGHBOUR: 'it returns false'. Refute it at one input. -/
def lyndonPowerWrong : ChangeSpec := { name := "lyndonPower", fn := fun _ => fun
  | [d1, d2] => { results := [.lit (.bool false)], args := [d1, d2] }
  | _ => none }
def LyndonPowerWrongFalsely : Prop := lyndonPowerRow.holds Try.pinned (OpenSpec.ofChange lyndonPowerWrong)

/-- 'evermorekeep.StackGoes': WHATEVER THE INPUT: true; the input reads as it did. -/
def stackGoesSpec : ChangeSpec := { name := "stackGoes", fn := fun _ => fun
  | [d1, d2, d3, d4] => { results := [.lit (.bool true)], args := [d1, d2, d3, d4] }
  | _ => none }
def stackGoesRow : OpenClaim := { program := "ytjabncedfjjbjaa", sum := "cd27cf4c7f8c65913da72e154e9d63331220647207bbf239006a414f42921ae7", func := "evermore/evermorekeep.StackGoes", spec := "stackGoes", unfollowed := true, recurses := true, plainKeys := false, apart := false }
def StackGoesSaid : Prop := stackGoesRow.holds Try.pinned (OpenSpec.ofChange stackGoesSpec)

/-- ITS FALSE NEIGHBOUR: 'it returns false'. Refute it at one input. -/
def stackGoesWrong : ChangeSpec := { name := "stackGoes", fn := fun _ => fun
  | [d1, d2, d3, d4] => { results := [.lit (.bool false)], args := [d1, d2, d3, d4] }
  | _ => none }
def StackGoesWrongFalsely : Prop := stackGoesRow.holds Try.pinned (OpenSpec.ofChange stackGoesWrong)

/-- 'evermorekeep.SeqsGoes': WHATEVER THE INPUT: true; the input reads as it did. -/
def seqsGoesSpec : ChangeSpec := { name := "seqsGoes", fn := fun _ => fun
  | [d1, d2] => { results := [.lit (.bool true)], args := [d1, d2] }
  | _ => none }
def seqsGoesRow : OpenClaim := { program := "ytjabncedfjjbjaa", sum := "cd27cf4c7f8c65913da72e154e9d63331220647207bbf239006a414f42921ae7", func := "evermore/evermorekeep.SeqsGoes", spec := "seqsGoes", unfollowed := true, recurses := true, plainKeys := false, apart := false }
def SeqsGoesSaid : Prop := seqsGoesRow.holds Try.pinned (OpenSpec.ofChange seqsGoesSpec)

/-- ITS FALSE NEIGHBOUR: 'it returns false'. Refute it at one input. -/
def seqsGoesWrong : ChangeSpec := { name := "seqsGoes", fn := fun _ => fun
  | [d1, d2] => { results := [.lit (.bool false)], args := [d1, d2] }
  | _ => none }
def SeqsGoesWrongFalsely : Prop := seqsGoesRow.holds Try.pinned (OpenSpec.ofChange seqsGoesWrong)

/-- 'evermorekeep.AlterTwice': WHATEVER THE INPUT: true; the input reads as it did. -/
def alterTwiceSpec : ChangeSpec := { name := "alterTwice", fn := fun _ => fun
  | [d] => { results := [.lit (.bool true)], args := [d] }
  | _ => none }
def alterTwiceRow : OpenClaim := { program := "ytjabncedfjjbjaa", sum := "cd27cf4c7f8c65913da72e154e9d63331220647207bbf239006a414f42921ae7", func := "evermore/evermorekeep.AlterTwice", spec := "alterTwice", unfollowed := true, recurses := true, plainKeys := false, apart := false }
def AlterTwiceSaid : Prop := alterTwiceRow.holds Try.pinned (OpenSpec.ofChange alterTwiceSpec)

/-- ITS FALSE NEIGHBOUR: 'it returns false'. Refute it at one input. -/
def alterTwiceWrong : ChangeSpec := { name := "alterTwice", fn := fun _ => fun
  | [d] => { results := [.lit (.bool false)], args := [d] }
  | _ => none }
def AlterTwiceWrongFalsely : Prop := alterTwiceRow.holds Try.pinned (OpenSpec.ofChange alterTwiceWrong)

/-- 'evermorekeep.CoverGrows': WHATEVER THE INPUT: true; the input reads as it did. -/
def coverGrowsSpec : ChangeSpec := { name := "coverGrows", fn := fun _ => fun
  | [d1, d2, d3, d4] => { results := [.lit (.bool true)], args := [d1, d2, d3, d4] }
  | _ => none }
def coverGrowsRow : OpenClaim := { program := "ytjabncedfjjbjaa", sum := "cd27cf4c7f8c65913da72e154e9d63331220647207bbf239006a414f42921ae7", func := "evermore/evermorekeep.CoverGrows", spec := "coverGrows", unfollowed := true, recurses := true, plainKeys := false, apart := false }
def CoverGrowsSaid : Prop := coverGrowsRow.holds Try.pinned (OpenSpec.ofChange coverGrowsSpec)

/-- ITS FALSE NEIGHBOUR: 'it returns false'. Refute it at one input. -/
def coverGrowsWrong : ChangeSpec := { name := "coverGrows", fn := fun _ => fun
  | [d1, d2, d3, d4] => { results := [.lit (.bool false)], args := [d1, d2, d3, d4] }
  | _ => none }
def CoverGrowsWrongFalsely : Prop := coverGrowsRow.holds Try.pinned (OpenSpec.ofChange coverGrowsWrong)

/-- 'evermoretop.TopWithin': WHATEVER THE INPUT: true; the input reads as it did. -/
def topWithinSpec : ChangeSpec := { name := "topWithin", fn := fun _ => fun
  | [d] => { results := [.lit (.bool true)], args := [d] }
  | _ => none }
def topWithinRow : OpenClaim := { program := "ytjabncedfjjbjaa", sum := "cd27cf4c7f8c65913da72e154e9d63331220647207bbf239006a414f42921ae7", func := "evermore/evermoretop.TopWithin", spec := "topWithin", unfollowed := true, recurses := true, plainKeys := false, apart := false }
def TopWithinSaid : Prop := topWithinRow.holds Try.pinned (OpenSpec.ofChange topWithinSpec)

/-- ITS FALSE NEIGHBOUR: 'it returns false'. Refute it at one input. -/
def topWithinWrong : ChangeSpec := { name := "topWithin", fn := fun _ => fun
  | [d] => { results := [.lit (.bool false)], args := [d] }
  | _ => none }
def TopWithinWrongFalsely : Prop := topWithinRow.holds Try.pinned (OpenSpec.ofChange topWithinWrong)

/-- 'evermorekeep.RewriteOnce': WHATEVER THE INPUT: true; the input reads as it did. -/
def rewriteOnceSpec : ChangeSpec := { name := "rewriteOnce", fn := fun _ => fun
  | [d1, d2, d3, d4] => { results := [.lit (.bool true)], args := [d1, d2, d3, d4] }
  | _ => none }
def rewriteOnceRow : OpenClaim := { program := "ytjabncedfjjbjaa", sum := "cd27cf4c7f8c65913da72e154e9d63331220647207bbf239006a414f42921ae7", func := "evermore/evermorekeep.RewriteOnce", spec := "rewriteOnce", unfollowed := true, recurses := true, plainKeys := false, apart := false }
def RewriteOnceSaid : Prop := rewriteOnceRow.holds Try.pinned (OpenSpec.ofChange rewriteOnceSpec)

/-- ITS FALSE NEIGHBOUR: 'it returns false'. Refute it at one input. -/
def rewriteOnceWrong : ChangeSpec := { name := "rewriteOnce", fn := fun _ => fun
  | [d1, d2, d3, d4] => { results := [.lit (.bool false)], args := [d1, d2, d3, d4] }
  | _ => none }
def RewriteOnceWrongFalsely : Prop := rewriteOnceRow.holds Try.pinned (OpenSpec.ofChange rewriteOnceWrong)

/-- 'evermorekeep.SameOrder': WHATEVER THE INPUT: true; the input reads as it did. -/
def sameOrderSpec : ChangeSpec := { name := "sameOrder", fn := fun _ => fun
  | [d] => { results := [.lit (.bool true)], args := [d] }
  | _ => none }
def sameOrderRow : OpenClaim := { program := "ytjabncedfjjbjaa", sum := "cd27cf4c7f8c65913da72e154e9d63331220647207bbf239006a414f42921ae7", func := "evermore/evermorekeep.SameOrder", spec := "sameOrder", unfollowed := true, recurses := true, plainKeys := false, apart := false }
def SameOrderSaid : Prop := sameOrderRow.holds Try.pinned (OpenSpec.ofChange sameOrderSpec)

/-- ITS FALSE NEIGHBOUR: 'it returns false'. Refute it at one input. -/
def sameOrderWrong : ChangeSpec := { name := "sameOrder", fn := fun _ => fun
  | [d] => { results := [.lit (.bool false)], args := [d] }
  | _ => none }
def SameOrderWrongFalsely : Prop := sameOrderRow.holds Try.pinned (OpenSpec.ofChange sameOrderWrong)

/- THE SECOND FORM. 'bulk': how many values and letters a reading holds, each counted each time it is reached (what is shared counts as often as it is met; a slice's spare places count too). A statement '..UptoSaid' is the law's where the arguments, and the package variables that the reading takes, are together of bulk at most 1048576: NARROWER than '..Said'. Prove '..Said' where nothing that the law and all that it calls make is longer than what came in: it says more and counts as full. Else prove '..UptoSaid'. A law counts once. -/
mutual
def uptoBulk {H : Type} : DataW H → Nat
  | .lit (.string bytes) => bytes.length + 1
  | .lit _ => 1
  | .nil => 1
  | .ptr d => uptoBulk d + 1
  | .slice elems spare => uptoBulkAll elems + uptoBulkAll spare + 1
  | .agg parts => uptoBulkAll parts + 1
  | .iface _ d => uptoBulk d + 1
  | .map entries => uptoBulkEntries entries + 1
  | .held _ => 1
def uptoBulkAll {H : Type} : List (DataW H) → Nat
  | [] => 0
  | d :: r => uptoBulk d + uptoBulkAll r
def uptoBulkEntries {H : Type} : List (Lit × DataW H) → Nat
  | [] => 0
  | x :: r => uptoBulkEntry x + uptoBulkEntries r
def uptoBulkEntry {H : Type} : Lit × DataW H → Nat
  | (.string bytes, d) => bytes.length + uptoBulk d + 1
  | (_, d) => uptoBulk d + 1
 end
def uptoSmall : (H : Type) → List (DataW H) → Bool := fun _ ds => decide (uptoBulkAll ds ≤ 1048576)
def OpenSpec.upto (s : _root_.Go.ChangeSpec) : _root_.Go.OpenSpec := { _root_.Go.OpenSpec.ofChange s with cond := some uptoSmall }

/-- 'evermorekeep.TimedMore', WHERE WHAT IT READS IS OF BULK AT MOST 1048576: true; the input reads as it did. -/
def timedMoreUptoRow : OpenClaim := { program := "ytjabncedfjjbjaa", sum := "cd27cf4c7f8c65913da72e154e9d63331220647207bbf239006a414f42921ae7", func := "evermore/evermorekeep.TimedMore", spec := "timedMore", unfollowed := true, recurses := true, plainKeys := false, apart := false, narrowed := true }
def TimedMoreUptoSaid : Prop := timedMoreUptoRow.holds Try.pinned (OpenSpec.upto timedMoreSpec)

/-- 'evermorekeep.WordRest', WHERE WHAT IT READS IS OF BULK AT MOST 1048576: true; the input reads as it did. -/
def wordRestUptoRow : OpenClaim := { program := "ytjabncedfjjbjaa", sum := "cd27cf4c7f8c65913da72e154e9d63331220647207bbf239006a414f42921ae7", func := "evermore/evermorekeep.WordRest", spec := "wordRest", plainKeys := false, apart := false, narrowed := true }
def WordRestUptoSaid : Prop := wordRestUptoRow.holds Try.pinned (OpenSpec.upto wordRestSpec)

/-- 'evermorekeep.MullerOther', WHERE WHAT IT READS IS OF BULK AT MOST 1048576: true; the input reads as it did. -/
def mullerOtherUptoRow : OpenClaim := { program := "ytjabncedfjjbjaa", sum := "cd27cf4c7f8c65913da72e154e9d63331220647207bbf239006a414f42921ae7", func := "evermore/evermorekeep.MullerOther", spec := "mullerOther", unfollowed := true, recurses := true, plainKeys := false, apart := false, narrowed := true }
def MullerOtherUptoSaid : Prop := mullerOtherUptoRow.holds Try.pinned (OpenSpec.upto mullerOtherSpec)

/-- 'evermorekeep.EhrenEven', WHERE WHAT IT READS IS OF BULK AT MOST 1048576: true; the input reads as it did. -/
def ehrenEvenUptoRow : OpenClaim := { program := "ytjabncedfjjbjaa", sum := "cd27cf4c7f8c65913da72e154e9d63331220647207bbf239006a414f42921ae7", func := "evermore/evermorekeep.EhrenEven", spec := "ehrenEven", recurses := true, plainKeys := false, apart := false, narrowed := true }
def EhrenEvenUptoSaid : Prop := ehrenEvenUptoRow.holds Try.pinned (OpenSpec.upto ehrenEvenSpec)

/-- 'evermorekeep.LyndonPower', WHERE WHAT IT READS IS OF BULK AT MOST 1048576: true; the input reads as it did. -/
def lyndonPowerUptoRow : OpenClaim := { program := "ytjabncedfjjbjaa", sum := "cd27cf4c7f8c65913da72e154e9d63331220647207bbf239006a414f42921ae7", func := "evermore/evermorekeep.LyndonPower", spec := "lyndonPower", plainKeys := false, apart := false, narrowed := true }
def LyndonPowerUptoSaid : Prop := lyndonPowerUptoRow.holds Try.pinned (OpenSpec.upto lyndonPowerSpec)

/-- 'evermorekeep.StackGoes', WHERE WHAT IT READS IS OF BULK AT MOST 1048576: true; the input reads as it did. -/
def stackGoesUptoRow : OpenClaim := { program := "ytjabncedfjjbjaa", sum := "cd27cf4c7f8c65913da72e154e9d63331220647207bbf239006a414f42921ae7", func := "evermore/evermorekeep.StackGoes", spec := "stackGoes", unfollowed := true, recurses := true, plainKeys := false, apart := false, narrowed := true }
def StackGoesUptoSaid : Prop := stackGoesUptoRow.holds Try.pinned (OpenSpec.upto stackGoesSpec)

/-- 'evermorekeep.SeqsGoes', WHERE WHAT IT READS IS OF BULK AT MOST 1048576: true; the input reads as it did. -/
def seqsGoesUptoRow : OpenClaim := { program := "ytjabncedfjjbjaa", sum := "cd27cf4c7f8c65913da72e154e9d63331220647207bbf239006a414f42921ae7", func := "evermore/evermorekeep.SeqsGoes", spec := "seqsGoes", unfollowed := true, recurses := true, plainKeys := false, apart := false, narrowed := true }
def SeqsGoesUptoSaid : Prop := seqsGoesUptoRow.holds Try.pinned (OpenSpec.upto seqsGoesSpec)

/-- 'evermorekeep.AlterTwice', WHERE WHAT IT READS IS OF BULK AT MOST 1048576: true; the input reads as it did. -/
def alterTwiceUptoRow : OpenClaim := { program := "ytjabncedfjjbjaa", sum := "cd27cf4c7f8c65913da72e154e9d63331220647207bbf239006a414f42921ae7", func := "evermore/evermorekeep.AlterTwice", spec := "alterTwice", unfollowed := true, recurses := true, plainKeys := false, apart := false, narrowed := true }
def AlterTwiceUptoSaid : Prop := alterTwiceUptoRow.holds Try.pinned (OpenSpec.upto alterTwiceSpec)

/-- 'evermorekeep.CoverGrows', WHERE WHAT IT READS IS OF BULK AT MOST 1048576: true; the input reads as it did. -/
def coverGrowsUptoRow : OpenClaim := { program := "ytjabncedfjjbjaa", sum := "cd27cf4c7f8c65913da72e154e9d63331220647207bbf239006a414f42921ae7", func := "evermore/evermorekeep.CoverGrows", spec := "coverGrows", unfollowed := true, recurses := true, plainKeys := false, apart := false, narrowed := true }
def CoverGrowsUptoSaid : Prop := coverGrowsUptoRow.holds Try.pinned (OpenSpec.upto coverGrowsSpec)

/-- 'evermoretop.TopWithin', WHERE WHAT IT READS IS OF BULK AT MOST 1048576: true; the input reads as it did. -/
def topWithinUptoRow : OpenClaim := { program := "ytjabncedfjjbjaa", sum := "cd27cf4c7f8c65913da72e154e9d63331220647207bbf239006a414f42921ae7", func := "evermore/evermoretop.TopWithin", spec := "topWithin", unfollowed := true, recurses := true, plainKeys := false, apart := false, narrowed := true }
def TopWithinUptoSaid : Prop := topWithinUptoRow.holds Try.pinned (OpenSpec.upto topWithinSpec)

/-- 'evermorekeep.RewriteOnce', WHERE WHAT IT READS IS OF BULK AT MOST 1048576: true; the input reads as it did. -/
def rewriteOnceUptoRow : OpenClaim := { program := "ytjabncedfjjbjaa", sum := "cd27cf4c7f8c65913da72e154e9d63331220647207bbf239006a414f42921ae7", func := "evermore/evermorekeep.RewriteOnce", spec := "rewriteOnce", unfollowed := true, recurses := true, plainKeys := false, apart := false, narrowed := true }
def RewriteOnceUptoSaid : Prop := rewriteOnceUptoRow.holds Try.pinned (OpenSpec.upto rewriteOnceSpec)

/-- 'evermorekeep.SameOrder', WHERE WHAT IT READS IS OF BULK AT MOST 1048576: true; the input reads as it did. -/
def sameOrderUptoRow : OpenClaim := { program := "ytjabncedfjjbjaa", sum := "cd27cf4c7f8c65913da72e154e9d63331220647207bbf239006a414f42921ae7", func := "evermore/evermorekeep.SameOrder", spec := "sameOrder", unfollowed := true, recurses := true, plainKeys := false, apart := false, narrowed := true }
def SameOrderUptoSaid : Prop := sameOrderUptoRow.holds Try.pinned (OpenSpec.upto sameOrderSpec)

end Rows
end Go.Proofs.Ytjabncedfjjbjaa
