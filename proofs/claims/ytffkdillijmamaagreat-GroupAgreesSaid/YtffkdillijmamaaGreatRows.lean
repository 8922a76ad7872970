/-
  No cell of these rows narrows 'for every input' (looked for: loops, veiled, ifaces, maps, wideKeys, modest, calm, conditions, laid).
  DERIVED. THE GIVEN ROWS OF THIS SEAT. 6 by the template 'for every input the law returns true; each argument reads behind the call as it read before'; 0 by the template 'total and deterministic' (their statements: YtffkdillijmamaaGreatTotals.lean).
  GIVEN WITH THE SEED: the statements are not yours to turn. If you find one false, say at which input.
  Laid BY PROGRAM, IN A SANDBOX (cutbox-rows.mjs): the forced cells as the released guide's own fill.sh prints them over the translation ad32333b60bf4f28… (all of the seat's roots in one cut). By AI agents, Wed Nov 11 2026. No macro, syntax, notation, axiom, sorry.
-/
import Derived.Test.YtffkdillijmamaaGreatChecked
import GoSem.Claim
import GoSem.ClaimJoined
import GoSem.ClaimMapViews
import Derived.JoinedTies
import Derived.KernelRfl
namespace Go.Proofs.YtffkdillijmamaaGreat
/- THE CELL 'sum', in the pinned program and in every row, IS THE sha256 OF THE DUMP (.gsa) THAT YtffkdillijmamaaGreatProg.lean LOADS. Nothing in Lean hashes anything: it is a label: what it is worth is what the hold of that sum in a sandbox is worth. -/
noncomputable def Tryz.pinned : Pinned := { name := "ytffkdillijmamaagreat", sum := "ad32333b60bf4f2858fb058a66f9cbcf7211f8158ff2626125cf21d390731325", checked := Tryz.checked }
namespace Rows
def none {H : Type} : Left H := { results := [], args := [] }

/-- 'outriderlaw14.GroupKnown': WHATEVER THE INPUT: true; the input reads as it did. -/
def groupKnownSpec : ChangeSpec := { name := "groupKnown", fn := fun _ => fun
  | [] => { results := [.lit (.bool true)], args := [] }
  | _ => none }
def groupKnownRow : OpenClaim := { program := "ytffkdillijmamaagreat", sum := "ad32333b60bf4f2858fb058a66f9cbcf7211f8158ff2626125cf21d390731325", func := "outrider/outriderlaw14.GroupKnown", spec := "groupKnown", unfollowed := true, recurses := true, plainKeys := false, apart := false }
def GroupKnownSaid : Prop := groupKnownRow.holds Tryz.pinned (OpenSpec.ofChange groupKnownSpec)

/-- ITS FALSE NEIGHBOUR: 'it returns false'. Refute it at one input. -/
def groupKnownWrong : ChangeSpec := { name := "groupKnown", fn := fun _ => fun
  | [] => { results := [.lit (.bool false)], args := [] }
  | _ => none }
def GroupKnownWrongFalsely : Prop := groupKnownRow.holds Tryz.pinned (OpenSpec.ofChange groupKnownWrong)

/-- 'outriderlaw14.GroupAgrees': WHATEVER THE INPUT: true; the input reads as it did. -/
def groupAgreesSpec : ChangeSpec := { name := "groupAgrees", fn := fun _ => fun
  | [d1, d2, d3] => { results := [.lit (.bool true)], args := [d1, d2, d3] }
  | _ => none }
def groupAgreesRow : OpenClaim := { program := "ytffkdillijmamaagreat", sum := "ad32333b60bf4f2858fb058a66f9cbcf7211f8158ff2626125cf21d390731325", func := "outrider/outriderlaw14.GroupAgrees", spec := "groupAgrees", unfollowed := true, recurses := true, plainKeys := false, apart := false }
def GroupAgreesSaid : Prop := groupAgreesRow.holds Tryz.pinned (OpenSpec.ofChange groupAgreesSpec)

/-- ITS FALSE NEIGHBOUR: 'it returns false'. Refute it at one input. -/
def groupAgreesWrong : ChangeSpec := { name := "groupAgrees", fn := fun _ => fun
  | [d1, d2, d3] => { results := [.lit (.bool false)], args := [d1, d2, d3] }
  | _ => none }
def GroupAgreesWrongFalsely : Prop := groupAgreesRow.holds Tryz.pinned (OpenSpec.ofChange groupAgreesWrong)

/-- 'outriderlaw14.GroupMinority': WHATEVER THE INPUT: true; the input reads as it did. -/
def groupMinoritySpec : ChangeSpec := { name := "groupMinority", fn := fun _ => fun
  | [d] => { results := [.lit (.bool true)], args := [d] }
  | _ => none }
def groupMinorityRow : OpenClaim := { program := "ytffkdillijmamaagreat", sum := "ad32333b60bf4f2858fb058a66f9cbcf7211f8158ff2626125cf21d390731325", func := "outrider/outriderlaw14.GroupMinority", spec := "groupMinority", unfollowed := true, recurses := true, plainKeys := false, apart := false }
def GroupMinoritySaid : Prop := groupMinorityRow.holds Tryz.pinned (OpenSpec.ofChange groupMinoritySpec)

/-- ITS FALSE NEIGHBOUR: 'it returns false'. Refute it at one input. -/
def groupMinorityWrong : ChangeSpec := { name := "groupMinority", fn := fun _ => fun
  | [d] => { results := [.lit (.bool false)], args := [d] }
  | _ => none }
def GroupMinorityWrongFalsely : Prop := groupMinorityRow.holds Tryz.pinned (OpenSpec.ofChange groupMinorityWrong)

/-- 'outriderlaw14.GroupPlays': WHATEVER THE INPUT: true; the input reads as it did. -/
def groupPlaysSpec : ChangeSpec := { name := "groupPlays", fn := fun _ => fun
  | [d1, d2] => { results := [.lit (.bool true)], args := [d1, d2] }
  | _ => none }
def groupPlaysRow : OpenClaim := { program := "ytffkdillijmamaagreat", sum := "ad32333b60bf4f2858fb058a66f9cbcf7211f8158ff2626125cf21d390731325", func := "outrider/outriderlaw14.GroupPlays", spec := "groupPlays", unfollowed := true, recurses := true, plainKeys := false, apart := false }
def GroupPlaysSaid : Prop := groupPlaysRow.holds Tryz.pinned (OpenSpec.ofChange groupPlaysSpec)

/-- ITS FALSE NEIGHBOUR: 'it returns false'. Refute it at one input. -/
def groupPlaysWrong : ChangeSpec := { name := "groupPlays", fn := fun _ => fun
  | [d1, d2] => { results := [.lit (.bool false)], args := [d1, d2] }
  | _ => none }
def GroupPlaysWrongFalsely : Prop := groupPlaysRow.holds Tryz.pinned (OpenSpec.ofChange groupPlaysWrong)

/-- 'outriderlaw14.GroupLives': WHATEVER THE INPUT: true; the input reads as it did. -/
def groupLivesSpec : ChangeSpec := { name := "groupLives", fn := fun _ => fun
  | [d1, d2] => { results := [.lit (.bool true)], args := [d1, d2] }
  | _ => none }
def groupLivesRow : OpenClaim := { program := "ytffkdillijmamaagreat", sum := "ad32333b60bf4f2858fb058a66f9cbcf7211f8158ff2626125cf21d390731325", func := "outrider/outriderlaw14.GroupLives", spec := "groupLives", unfollowed := true, recurses := true, plainKeys := false, apart := false }
def GroupLivesSaid : Prop := groupLivesRow.holds Tryz.pinned (OpenSpec.ofChange groupLivesSpec)

/-- ITS FALSE NEIGHBOUR: 'it returns false'. Refute it at one input. -/
def groupLivesWrong : ChangeSpec := { name := "groupLives", fn := fun _ => fun
  | [d1, d2] => { results := [.lit (.bool false)], args := [d1, d2] }
  | _ => none }
def GroupLivesWrongFalsely : Prop := groupLivesRow.holds Tryz.pinned (OpenSpec.ofChange groupLivesWrong)

/-- 'outriderlaw14.GroupNil': WHATEVER THE INPUT: true; the input reads as it did. -/
def groupNilSpec : ChangeSpec := { name := "groupNil", fn := fun _ => fun
  | [d1, d2, d3] => { results := [.lit (.bool true)], args := [d1, d2, d3] }
  | _ => none }
def groupNilRow : OpenClaim := { program := "ytffkdillijmamaagreat", sum := "ad32333b60bf4f2858fb058a66f9cbcf7211f8158ff2626125cf21d390731325", func := "outrider/outriderlaw14.GroupNil", spec := "groupNil", unfollowed := true, recurses := true, plainKeys := false, apart := false }
def GroupNilSaid : Prop := groupNilRow.holds Tryz.pinned (OpenSpec.ofChange groupNilSpec)

/-- ITS FALSE NEIGHBOUR: 'it returns false'. Refute it at one input. -/
def groupNilWrong : ChangeSpec := { name := "groupNil", fn := fun _ => fun
  | [d1, d2, d3] => { results := [.lit (.bool false)], args := [d1, d2, d3] }
  | _ => none }
def GroupNilWrongFalsely : Prop := groupNilRow.holds Tryz.pinned (OpenSpec.ofChange groupNilWrong)

/- THE SECOND FORM. 'bulk': how many values and letters a reading holds, each counted each time it is reached (what is shared counts as often as it is met; a slice's spare places count too). A statement '..UptoSaid' is the law's where the arguments, and the package variables that the reading takes, are together of bulk at most 1048576: NARROWER than '..Said'. Prove '..Said' where nothing that the law and all that it calls make is longer than what came in: it says more and counts as full. Else prove '..UptoSaid'. A law counts once. -/
mutual
def uptoBulk {H : Type} : DataW H → Nat
  | .lit (.string bytes) => bytes.length + 1
  | .lit _ => 1
  | .nil => 1
  | .ptr d => uptoBulk d + 1
  | .slice elems spare => uptoBulkAll elems + uptoBulkAll spare + 1
  | .agg parts => uptoBulkAll parts + 1
  | .iface _ d => uptoBulk d + 1
  | .map entries => uptoBulkEntries entries + 1
  | .held _ => 1
def uptoBulkAll {H : Type} : List (DataW H) → Nat
  | [] => 0
  | d :: r => uptoBulk d + uptoBulkAll r
def uptoBulkEntries {H : Type} : List (Lit × DataW H) → Nat
  | [] => 0
  | x :: r => uptoBulkEntry x + uptoBulkEntries r
def uptoBulkEntry {H : Type} : Lit × DataW H → Nat
  | (.string bytes, d) => bytes.length + uptoBulk d + 1
  | (_, d) => uptoBulk d + 1
 end
def uptoSmall : (H : Type) → List (DataW H) → Bool := fun _ ds => decide (uptoBulkAll ds ≤ 1048576)
def OpenSpec.upto (s : _root_.Go.ChangeSpec) : _root_.Go.OpenSpec := { _root_.Go.OpenSpec.ofChange s with cond := some uptoSmall }

/-- 'outriderlaw14.GroupKnown', WHERE WHAT IT READS IS OF BULK AT MOST 1048576: true; the input reads as it did. -/
def groupKnownUptoRow : OpenClaim := { program := "ytffkdillijmamaagreat", sum := "ad32333b60bf4f2858fb058a66f9cbcf7211f8158ff2626125cf21d390731325", func := "outrider/outriderlaw14.GroupKnown", spec := "groupKnown", unfollowed := true, recurses := true, plainKeys := false, apart := false, narrowed := true }
def GroupKnownUptoSaid : Prop := groupKnownUptoRow.holds Tryz.pinned (OpenSpec.upto groupKnownSpec)

/-- 'outriderlaw14.GroupAgrees', WHERE WHAT IT READS IS OF BULK AT MOST 1048576: true; the input reads as it did. -/
def groupAgreesUptoRow : OpenClaim := { program := "ytffkdillijmamaagreat", sum := "ad32333b60bf4f2858fb058a66f9cbcf7211f8158ff2626125cf21d390731325", func := "outrider/outriderlaw14.GroupAgrees", spec := "groupAgrees", unfollowed := true, recurses := true, plainKeys := false, apart := false, narrowed := true }
def GroupAgreesUptoSaid : Prop := groupAgreesUptoRow.holds Tryz.pinned (OpenSpec.upto groupAgreesSpec)

/-- 'outriderlaw14.GroupMinority', WHERE WHAT IT READS IS OF BULK AT MOST 1048576: true; the input reads as it did. -/
def groupMinorityUptoRow : OpenClaim := { program := "ytffkdillijmamaagreat", sum := "ad32333b60bf4f2858fb058a66f9cbcf7211f8158ff2626125cf21d390731325", func := "outrider/outriderlaw14.GroupMinority", spec := "groupMinority", unfollowed := true, recurses := true, plainKeys := false, apart := false, narrowed := true }
def GroupMinorityUptoSaid : Prop := groupMinorityUptoRow.holds Tryz.pinned (OpenSpec.upto groupMinoritySpec)

/-- 'outriderlaw14.GroupPlays', WHERE WHAT IT READS IS OF BULK AT MOST 1048576: true; the input reads as it did. -/
def groupPlaysUptoRow : OpenClaim := { program := "ytffkdillijmamaagreat", sum := "ad32333b60bf4f2858fb058a66f9cbcf7211f8158ff2626125cf21d390731325", func := "outrider/outriderlaw14.GroupPlays", spec := "groupPlays", unfollowed := true, recurses := true, plainKeys := false, apart := false, narrowed := true }
def GroupPlaysUptoSaid : Prop := groupPlaysUptoRow.holds Tryz.pinned (OpenSpec.upto groupPlaysSpec)

/-- 'outriderlaw14.GroupLives', WHERE WHAT IT READS IS OF BULK AT MOST 1048576: true; the input reads as it did. -/
def groupLivesUptoRow : OpenClaim := { program := "ytffkdillijmamaagreat", sum := "ad32333b60bf4f2858fb058a66f9cbcf7211f8158ff2626125cf21d390731325", func := "outrider/outriderlaw14.GroupLives", spec := "groupLives", unfollowed := true, recurses := true, plainKeys := false, apart := false, narrowed := true }
def GroupLivesUptoSaid : Prop := groupLivesUptoRow.holds Tryz.pinned (OpenSpec.upto groupLivesSpec)

/-- 'outriderlaw14.GroupNil', WHERE WHAT IT READS IS OF BULK AT MOST 1048576: true; the input reads as it did. -/
def groupNilUptoRow : OpenClaim := { program := "ytffkdillijmamaagreat", sum := "ad32333b60bf4f2858fb058a66f9cbcf7211f8158ff2626125cf21d390731325", func := "outrider/outriderlaw14.GroupNil", spec := "groupNil", unfollowed := true, recurses := true, plainKeys := false, apart := false, narrowed := true }
def GroupNilUptoSaid : Prop := groupNilUptoRow.holds Tryz.pinned (OpenSpec.upto groupNilSpec)

end Rows
end Go.Proofs.YtffkdillijmamaaGreat
