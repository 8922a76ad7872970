/-
  No cell of these rows narrows 'for every input' (looked for: loops, veiled, ifaces, maps, wideKeys, modest, calm, conditions, laid).
  DERIVED. THE GIVEN ROWS OF THIS SEAT. 7 by the template 'for every input the law returns true; each argument reads behind the call as it read before'; 0 by the template 'total and deterministic' (their statements: YthmpmgknnibljaaGreatTotals.lean).
  GIVEN WITH THE SEED: the statements are not yours to turn. If you find one false, say at which input.
  Laid BY PROGRAM, IN A SANDBOX (cutbox-rows.mjs): the forced cells as the released guide's own fill.sh prints them over the translation 9a71576871a3b916… (all of the seat's roots in one cut). By AI agents, Wed Nov 11 2026. No macro, syntax, notation, axiom, sorry.
-/
import Derived.Test.YthmpmgknnibljaaGreatChecked
import GoSem.Claim
import GoSem.ClaimJoined
import GoSem.ClaimMapViews
import Derived.JoinedTies
import Derived.KernelRfl
namespace Go.Proofs.YthmpmgknnibljaaGreat
/- THE CELL 'sum', in the pinned program and in every row, IS THE sha256 OF THE DUMP (.gsa) THAT YthmpmgknnibljaaGreatProg.lean LOADS. Nothing in Lean hashes anything: it is a label: what it is worth is what the hold of that sum in a sandbox is worth. -/
noncomputable def Tryz.pinned : Pinned := { name := "ythmpmgknnibljaagreat", sum := "9a71576871a3b91634ee79d9dfc83812c76d166659e89e9e0ca311ddcc123ec5", checked := Tryz.checked }
namespace Rows
def none {H : Type} : Left H := { results := [], args := [] }

/-- 'outriderlaw12.ZabRounds': WHATEVER THE INPUT: true; the input reads as it did. -/
def zabRoundsSpec : ChangeSpec := { name := "zabRounds", fn := fun _ => fun
  | [d1, d2] => { results := [.lit (.bool true)], args := [d1, d2] }
  | _ => none }
def zabRoundsRow : OpenClaim := { program := "ythmpmgknnibljaagreat", sum := "9a71576871a3b91634ee79d9dfc83812c76d166659e89e9e0ca311ddcc123ec5", func := "outrider/outriderlaw12.ZabRounds", spec := "zabRounds", unfollowed := true, recurses := true, apart := false }
def ZabRoundsSaid : Prop := zabRoundsRow.holds Tryz.pinned (OpenSpec.ofChange zabRoundsSpec)

/-- ITS FALSE NEIGHBOUR: 'it returns false'. Refute it at one input. -/
def zabRoundsWrong : ChangeSpec := { name := "zabRounds", fn := fun _ => fun
  | [d1, d2] => { results := [.lit (.bool false)], args := [d1, d2] }
  | _ => none }
def ZabRoundsWrongFalsely : Prop := zabRoundsRow.holds Tryz.pinned (OpenSpec.ofChange zabRoundsWrong)

/-- 'outriderlaw12.ZabTwice': WHATEVER THE INPUT: true; the input reads as it did. -/
def zabTwiceSpec : ChangeSpec := { name := "zabTwice", fn := fun _ => fun
  | [d1, d2, d3] => { results := [.lit (.bool true)], args := [d1, d2, d3] }
  | _ => none }
def zabTwiceRow : OpenClaim := { program := "ythmpmgknnibljaagreat", sum := "9a71576871a3b91634ee79d9dfc83812c76d166659e89e9e0ca311ddcc123ec5", func := "outrider/outriderlaw12.ZabTwice", spec := "zabTwice", unfollowed := true, recurses := true, apart := false }
def ZabTwiceSaid : Prop := zabTwiceRow.holds Tryz.pinned (OpenSpec.ofChange zabTwiceSpec)

/-- ITS FALSE NEIGHBOUR: 'it returns false'. Refute it at one input. -/
def zabTwiceWrong : ChangeSpec := { name := "zabTwice", fn := fun _ => fun
  | [d1, d2, d3] => { results := [.lit (.bool false)], args := [d1, d2, d3] }
  | _ => none }
def ZabTwiceWrongFalsely : Prop := zabTwiceRow.holds Tryz.pinned (OpenSpec.ofChange zabTwiceWrong)

/-- 'outriderlaw12.ZabKnown': WHATEVER THE INPUT: true; the input reads as it did. -/
def zabKnownSpec : ChangeSpec := { name := "zabKnown", fn := fun _ => fun
  | [] => { results := [.lit (.bool true)], args := [] }
  | _ => none }
def zabKnownRow : OpenClaim := { program := "ythmpmgknnibljaagreat", sum := "9a71576871a3b91634ee79d9dfc83812c76d166659e89e9e0ca311ddcc123ec5", func := "outrider/outriderlaw12.ZabKnown", spec := "zabKnown", unfollowed := true, recurses := true, apart := false }
def ZabKnownSaid : Prop := zabKnownRow.holds Tryz.pinned (OpenSpec.ofChange zabKnownSpec)

/-- ITS FALSE NEIGHBOUR: 'it returns false'. Refute it at one input. -/
def zabKnownWrong : ChangeSpec := { name := "zabKnown", fn := fun _ => fun
  | [] => { results := [.lit (.bool false)], args := [] }
  | _ => none }
def ZabKnownWrongFalsely : Prop := zabKnownRow.holds Tryz.pinned (OpenSpec.ofChange zabKnownWrong)

/-- 'outriderlaw12.ZabOld': WHATEVER THE INPUT: true; the input reads as it did. -/
def zabOldSpec : ChangeSpec := { name := "zabOld", fn := fun _ => fun
  | [d1, d2, d3, d4] => { results := [.lit (.bool true)], args := [d1, d2, d3, d4] }
  | _ => none }
def zabOldRow : OpenClaim := { program := "ythmpmgknnibljaagreat", sum := "9a71576871a3b91634ee79d9dfc83812c76d166659e89e9e0ca311ddcc123ec5", func := "outrider/outriderlaw12.ZabOld", spec := "zabOld", unfollowed := true, recurses := true, apart := false }
def ZabOldSaid : Prop := zabOldRow.holds Tryz.pinned (OpenSpec.ofChange zabOldSpec)

/-- ITS FALSE NEIGHBOUR: 'it returns false'. Refute it at one input. -/
def zabOldWrong : ChangeSpec := { name := "zabOld", fn := fun _ => fun
  | [d1, d2, d3, d4] => { results := [.lit (.bool false)], args := [d1, d2, d3, d4] }
  | _ => none }
def ZabOldWrongFalsely : Prop := zabOldRow.holds Tryz.pinned (OpenSpec.ofChange zabOldWrong)

/-- 'outriderlaw12.ZabNil': WHATEVER THE INPUT: true; the input reads as it did. -/
def zabNilSpec : ChangeSpec := { name := "zabNil", fn := fun _ => fun
  | [d1, d2] => { results := [.lit (.bool true)], args := [d1, d2] }
  | _ => none }
def zabNilRow : OpenClaim := { program := "ythmpmgknnibljaagreat", sum := "9a71576871a3b91634ee79d9dfc83812c76d166659e89e9e0ca311ddcc123ec5", func := "outrider/outriderlaw12.ZabNil", spec := "zabNil", unfollowed := true, recurses := true, apart := false }
def ZabNilSaid : Prop := zabNilRow.holds Tryz.pinned (OpenSpec.ofChange zabNilSpec)

/-- ITS FALSE NEIGHBOUR: 'it returns false'. Refute it at one input. -/
def zabNilWrong : ChangeSpec := { name := "zabNil", fn := fun _ => fun
  | [d1, d2] => { results := [.lit (.bool false)], args := [d1, d2] }
  | _ => none }
def ZabNilWrongFalsely : Prop := zabNilRow.holds Tryz.pinned (OpenSpec.ofChange zabNilWrong)

/-- 'outriderlaw12.ZabPlays': WHATEVER THE INPUT: true; the input reads as it did. -/
def zabPlaysSpec : ChangeSpec := { name := "zabPlays", fn := fun _ => fun
  | [d1, d2, d3] => { results := [.lit (.bool true)], args := [d1, d2, d3] }
  | _ => none }
def zabPlaysRow : OpenClaim := { program := "ythmpmgknnibljaagreat", sum := "9a71576871a3b91634ee79d9dfc83812c76d166659e89e9e0ca311ddcc123ec5", func := "outrider/outriderlaw12.ZabPlays", spec := "zabPlays", unfollowed := true, recurses := true, apart := false }
def ZabPlaysSaid : Prop := zabPlaysRow.holds Tryz.pinned (OpenSpec.ofChange zabPlaysSpec)

/-- ITS FALSE NEIGHBOUR: 'it returns false'. Refute it at one input. -/
def zabPlaysWrong : ChangeSpec := { name := "zabPlays", fn := fun _ => fun
  | [d1, d2, d3] => { results := [.lit (.bool false)], args := [d1, d2, d3] }
  | _ => none }
def ZabPlaysWrongFalsely : Prop := zabPlaysRow.holds Tryz.pinned (OpenSpec.ofChange zabPlaysWrong)

/-- 'outriderlaw12.ZabRises': WHATEVER THE INPUT: true; the input reads as it did. -/
def zabRisesSpec : ChangeSpec := { name := "zabRises", fn := fun _ => fun
  | [d1, d2, d3] => { results := [.lit (.bool true)], args := [d1, d2, d3] }
  | _ => none }
def zabRisesRow : OpenClaim := { program := "ythmpmgknnibljaagreat", sum := "9a71576871a3b91634ee79d9dfc83812c76d166659e89e9e0ca311ddcc123ec5", func := "outrider/outriderlaw12.ZabRises", spec := "zabRises", unfollowed := true, recurses := true, apart := false }
def ZabRisesSaid : Prop := zabRisesRow.holds Tryz.pinned (OpenSpec.ofChange zabRisesSpec)

/-- ITS FALSE NEIGHBOUR: 'it returns false'. Refute it at one input. -/
def zabRisesWrong : ChangeSpec := { name := "zabRises", fn := fun _ => fun
  | [d1, d2, d3] => { results := [.lit (.bool false)], args := [d1, d2, d3] }
  | _ => none }
def ZabRisesWrongFalsely : Prop := zabRisesRow.holds Tryz.pinned (OpenSpec.ofChange zabRisesWrong)

/- THE SECOND FORM. 'bulk': how many values and letters a reading holds, each counted each time it is reached (what is shared counts as often as it is met; a slice's spare places count too). A statement '..UptoSaid' is the law's where the arguments, and the package variables that the reading takes, are together of bulk at most 1048576: NARROWER than '..Said'. Prove '..Said' where nothing that the law and all that it calls make is longer than what came in: it says more and counts as full. Else prove '..UptoSaid'. A law counts once. -/
mutual
def uptoBulk {H : Type} : DataW H → Nat
  | .lit (.string bytes) => bytes.length + 1
  | .lit _ => 1
  | .nil => 1
  | .ptr d => uptoBulk d + 1
  | .slice elems spare => uptoBulkAll elems + uptoBulkAll spare + 1
  | .agg parts => uptoBulkAll parts + 1
  | .iface _ d => uptoBulk d + 1
  | .map entries => uptoBulkEntries entries + 1
  | .held _ => 1
def uptoBulkAll {H : Type} : List (DataW H) → Nat
  | [] => 0
  | d :: r => uptoBulk d + uptoBulkAll r
def uptoBulkEntries {H : Type} : List (Lit × DataW H) → Nat
  | [] => 0
  | x :: r => uptoBulkEntry x + uptoBulkEntries r
def uptoBulkEntry {H : Type} : Lit × DataW H → Nat
  | (.string bytes, d) => bytes.length + uptoBulk d + 1
  | (_, d) => uptoBulk d + 1
 end
def uptoSmall : (H : Type) → List (DataW H) → Bool := fun _ ds => decide (uptoBulkAll ds ≤ 1048576)
def OpenSpec.upto (s : _root_.Go.ChangeSpec) : _root_.Go.OpenSpec := { _root_.Go.OpenSpec.ofChange s with cond := some uptoSmall }

/-- 'outriderlaw12.ZabRounds', WHERE WHAT IT READS IS OF BULK AT MOST 1048576: true; the input reads as it did. -/
def zabRoundsUptoRow : OpenClaim := { program := "ythmpmgknnibljaagreat", sum := "9a71576871a3b91634ee79d9dfc83812c76d166659e89e9e0ca311ddcc123ec5", func := "outrider/outriderlaw12.ZabRounds", spec := "zabRounds", unfollowed := true, recurses := true, apart := false, narrowed := true }
def ZabRoundsUptoSaid : Prop := zabRoundsUptoRow.holds Tryz.pinned (OpenSpec.upto zabRoundsSpec)

/-- 'outriderlaw12.ZabTwice', WHERE WHAT IT READS IS OF BULK AT MOST 1048576: true; the input reads as it did. -/
def zabTwiceUptoRow : OpenClaim := { program := "ythmpmgknnibljaagreat", sum := "9a71576871a3b91634ee79d9dfc83812c76d166659e89e9e0ca311ddcc123ec5", func := "outrider/outriderlaw12.ZabTwice", spec := "zabTwice", unfollowed := true, recurses := true, apart := false, narrowed := true }
def ZabTwiceUptoSaid : Prop := zabTwiceUptoRow.holds Tryz.pinned (OpenSpec.upto zabTwiceSpec)

/-- 'outriderlaw12.ZabKnown', WHERE WHAT IT READS IS OF BULK AT MOST 1048576: true; the input reads as it did. -/
def zabKnownUptoRow : OpenClaim := { program := "ythmpmgknnibljaagreat", sum := "9a71576871a3b91634ee79d9dfc83812c76d166659e89e9e0ca311ddcc123ec5", func := "outrider/outriderlaw12.ZabKnown", spec := "zabKnown", unfollowed := true, recurses := true, apart := false, narrowed := true }
def ZabKnownUptoSaid : Prop := zabKnownUptoRow.holds Tryz.pinned (OpenSpec.upto zabKnownSpec)

/-- 'outriderlaw12.ZabOld', WHERE WHAT IT READS IS OF BULK AT MOST 1048576: true; the input reads as it did. -/
def zabOldUptoRow : OpenClaim := { program := "ythmpmgknnibljaagreat", sum := "9a71576871a3b91634ee79d9dfc83812c76d166659e89e9e0ca311ddcc123ec5", func := "outrider/outriderlaw12.ZabOld", spec := "zabOld", unfollowed := true, recurses := true, apart := false, narrowed := true }
def ZabOldUptoSaid : Prop := zabOldUptoRow.holds Tryz.pinned (OpenSpec.upto zabOldSpec)

/-- 'outriderlaw12.ZabNil', WHERE WHAT IT READS IS OF BULK AT MOST 1048576: true; the input reads as it did. -/
def zabNilUptoRow : OpenClaim := { program := "ythmpmgknnibljaagreat", sum := "9a71576871a3b91634ee79d9dfc83812c76d166659e89e9e0ca311ddcc123ec5", func := "outrider/outriderlaw12.ZabNil", spec := "zabNil", unfollowed := true, recurses := true, apart := false, narrowed := true }
def ZabNilUptoSaid : Prop := zabNilUptoRow.holds Tryz.pinned (OpenSpec.upto zabNilSpec)

/-- 'outriderlaw12.ZabPlays', WHERE WHAT IT READS IS OF BULK AT MOST 1048576: true; the input reads as it did. -/
def zabPlaysUptoRow : OpenClaim := { program := "ythmpmgknnibljaagreat", sum := "9a71576871a3b91634ee79d9dfc83812c76d166659e89e9e0ca311ddcc123ec5", func := "outrider/outriderlaw12.ZabPlays", spec := "zabPlays", unfollowed := true, recurses := true, apart := false, narrowed := true }
def ZabPlaysUptoSaid : Prop := zabPlaysUptoRow.holds Tryz.pinned (OpenSpec.upto zabPlaysSpec)

/-- 'outriderlaw12.ZabRises', WHERE WHAT IT READS IS OF BULK AT MOST 1048576: true; the input reads as it did. -/
def zabRisesUptoRow : OpenClaim := { program := "ythmpmgknnibljaagreat", sum := "9a71576871a3b91634ee79d9dfc83812c76d166659e89e9e0ca311ddcc123ec5", func := "outrider/outriderlaw12.ZabRises", spec := "zabRises", unfollowed := true, recurses := true, apart := false, narrowed := true }
def ZabRisesUptoSaid : Prop := zabRisesUptoRow.holds Tryz.pinned (OpenSpec.upto zabRisesSpec)

end Rows
end Go.Proofs.YthmpmgknnibljaaGreat
