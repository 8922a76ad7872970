/-
  No cell of these rows narrows 'for every input' (looked for: loops, veiled, ifaces, maps, wideKeys, modest, calm, conditions, laid).
  DERIVED. THE GIVEN ROWS OF THIS SEAT. 17 by the template 'for every input the law returns true; each argument reads behind the call as it read before'; 0 by the template 'total and deterministic' (their statements: YtfgggkheadfiaaaRTotals.lean).
  GIVEN WITH THE SEED: the statements are not yours to turn. If you find one false, say at which input.
  Laid BY PROGRAM, IN A SANDBOX (cutbox-rows.mjs): the forced cells as the released guide's own fill.sh prints them over the translation cbf323f8f65ae82b… (all of the seat's roots in one cut). By AI agents, Wed Nov 11 2026. No macro, syntax, notation, axiom, sorry.
-/
import Derived.Test.YtfgggkheadfiaaaRChecked
import GoSem.Claim
import GoSem.ClaimJoined
import GoSem.ClaimMapViews
import Derived.JoinedTies
import Derived.KernelRfl
namespace Go.Proofs.YtfgggkheadfiaaaR
/- THE CELL 'sum', in the pinned program and in every row, IS THE sha256 OF THE DUMP (.gsa) THAT YtfgggkheadfiaaaRProg.lean LOADS. Nothing in Lean hashes anything: it is a label: what it is worth is what the hold of that sum in a sandbox is worth. -/
noncomputable def Try.pinned : Pinned := { name := "ytfgggkheadfiaaar", sum := "cbf323f8f65ae82bd372114cfc7f21f8a504e0e16caf561ae58369f42cc6b866", checked := Try.checked }
namespace Rows
def none {H : Type} : Left H := { results := [], args := [] }

/-- 'outriderlaw07.DiskKnown': WHATEVER THE INPUT: true; the input reads as it did. -/
def diskKnownSpec : ChangeSpec := { name := "diskKnown", fn := fun _ => fun
  | [] => { results := [.lit (.bool true)], args := [] }
  | _ => none }
def diskKnownRow : OpenClaim := { program := "ytfgggkheadfiaaar", sum := "cbf323f8f65ae82bd372114cfc7f21f8a504e0e16caf561ae58369f42cc6b866", func := "outrider/outriderlaw07.DiskKnown", spec := "diskKnown", unfollowed := true, recurses := true, apart := false }
def DiskKnownSaid : Prop := diskKnownRow.holds Try.pinned (OpenSpec.ofChange diskKnownSpec)

/-- ITS FALSE NEIGHBOUR: 'it returns false'. Refute it at one input. -/
def diskKnownWrong : ChangeSpec := { name := "diskKnown", fn := fun _ => fun
  | [] => { results := [.lit (.bool false)], args := [] }
  | _ => none }
def DiskKnownWrongFalsely : Prop := diskKnownRow.holds Try.pinned (OpenSpec.ofChange diskKnownWrong)

/-- 'outriderlaw07.DiskCountdown': WHATEVER THE INPUT: true; the input reads as it did. -/
def diskCountdownSpec : ChangeSpec := { name := "diskCountdown", fn := fun _ => fun
  | [d1, d2] => { results := [.lit (.bool true)], args := [d1, d2] }
  | _ => none }
def diskCountdownRow : OpenClaim := { program := "ytfgggkheadfiaaar", sum := "cbf323f8f65ae82bd372114cfc7f21f8a504e0e16caf561ae58369f42cc6b866", func := "outrider/outriderlaw07.DiskCountdown", spec := "diskCountdown", unfollowed := true, recurses := true, apart := false }
def DiskCountdownSaid : Prop := diskCountdownRow.holds Try.pinned (OpenSpec.ofChange diskCountdownSpec)

/-- ITS FALSE NEIGHBOUR: 'it returns false'. Refute it at one input. -/
def diskCountdownWrong : ChangeSpec := { name := "diskCountdown", fn := fun _ => fun
  | [d1, d2] => { results := [.lit (.bool false)], args := [d1, d2] }
  | _ => none }
def DiskCountdownWrongFalsely : Prop := diskCountdownRow.holds Try.pinned (OpenSpec.ofChange diskCountdownWrong)

/-- 'outriderlaw07.DiskSynced': WHATEVER THE INPUT: true; the input reads as it did. -/
def diskSyncedSpec : ChangeSpec := { name := "diskSynced", fn := fun _ => fun
  | [d1, d2] => { results := [.lit (.bool true)], args := [d1, d2] }
  | _ => none }
def diskSyncedRow : OpenClaim := { program := "ytfgggkheadfiaaar", sum := "cbf323f8f65ae82bd372114cfc7f21f8a504e0e16caf561ae58369f42cc6b866", func := "outrider/outriderlaw07.DiskSynced", spec := "diskSynced", unfollowed := true, recurses := true, apart := false }
def DiskSyncedSaid : Prop := diskSyncedRow.holds Try.pinned (OpenSpec.ofChange diskSyncedSpec)

/-- ITS FALSE NEIGHBOUR: 'it returns false'. Refute it at one input. -/
def diskSyncedWrong : ChangeSpec := { name := "diskSynced", fn := fun _ => fun
  | [d1, d2] => { results := [.lit (.bool false)], args := [d1, d2] }
  | _ => none }
def DiskSyncedWrongFalsely : Prop := diskSyncedRow.holds Try.pinned (OpenSpec.ofChange diskSyncedWrong)

/-- 'outriderlaw07.DiskRow': WHATEVER THE INPUT: true; the input reads as it did. -/
def diskRowSpec : ChangeSpec := { name := "diskRow", fn := fun _ => fun
  | [d1, d2] => { results := [.lit (.bool true)], args := [d1, d2] }
  | _ => none }
def diskRowRow : OpenClaim := { program := "ytfgggkheadfiaaar", sum := "cbf323f8f65ae82bd372114cfc7f21f8a504e0e16caf561ae58369f42cc6b866", func := "outrider/outriderlaw07.DiskRow", spec := "diskRow", unfollowed := true, recurses := true, apart := false }
def DiskRowSaid : Prop := diskRowRow.holds Try.pinned (OpenSpec.ofChange diskRowSpec)

/-- ITS FALSE NEIGHBOUR: 'it returns false'. Refute it at one input. -/
def diskRowWrong : ChangeSpec := { name := "diskRow", fn := fun _ => fun
  | [d1, d2] => { results := [.lit (.bool false)], args := [d1, d2] }
  | _ => none }
def DiskRowWrongFalsely : Prop := diskRowRow.holds Try.pinned (OpenSpec.ofChange diskRowWrong)

/-- 'outriderlaw07.DiskNil': WHATEVER THE INPUT: true; the input reads as it did. -/
def diskNilSpec : ChangeSpec := { name := "diskNil", fn := fun _ => fun
  | [d] => { results := [.lit (.bool true)], args := [d] }
  | _ => none }
def diskNilRow : OpenClaim := { program := "ytfgggkheadfiaaar", sum := "cbf323f8f65ae82bd372114cfc7f21f8a504e0e16caf561ae58369f42cc6b866", func := "outrider/outriderlaw07.DiskNil", spec := "diskNil", unfollowed := true, recurses := true, apart := false }
def DiskNilSaid : Prop := diskNilRow.holds Try.pinned (OpenSpec.ofChange diskNilSpec)

/-- ITS FALSE NEIGHBOUR: 'it returns false'. Refute it at one input. -/
def diskNilWrong : ChangeSpec := { name := "diskNil", fn := fun _ => fun
  | [d] => { results := [.lit (.bool false)], args := [d] }
  | _ => none }
def DiskNilWrongFalsely : Prop := diskNilRow.holds Try.pinned (OpenSpec.ofChange diskNilWrong)

/-- 'outriderlaw08.LogPages': WHATEVER THE INPUT: true; the input reads as it did. -/
def logPagesSpec : ChangeSpec := { name := "logPages", fn := fun _ => fun
  | [d1, d2, d3] => { results := [.lit (.bool true)], args := [d1, d2, d3] }
  | _ => none }
def logPagesRow : OpenClaim := { program := "ytfgggkheadfiaaar", sum := "cbf323f8f65ae82bd372114cfc7f21f8a504e0e16caf561ae58369f42cc6b866", func := "outrider/outriderlaw08.LogPages", spec := "logPages", unfollowed := true, recurses := true, apart := false }
def LogPagesSaid : Prop := logPagesRow.holds Try.pinned (OpenSpec.ofChange logPagesSpec)

/-- ITS FALSE NEIGHBOUR: 'it returns false'. Refute it at one input. -/
def logPagesWrong : ChangeSpec := { name := "logPages", fn := fun _ => fun
  | [d1, d2, d3] => { results := [.lit (.bool false)], args := [d1, d2, d3] }
  | _ => none }
def LogPagesWrongFalsely : Prop := logPagesRow.holds Try.pinned (OpenSpec.ofChange logPagesWrong)

/-- 'outriderlaw08.LogRoom': WHATEVER THE INPUT: true; the input reads as it did. -/
def logRoomSpec : ChangeSpec := { name := "logRoom", fn := fun _ => fun
  | [d1, d2] => { results := [.lit (.bool true)], args := [d1, d2] }
  | _ => none }
def logRoomRow : OpenClaim := { program := "ytfgggkheadfiaaar", sum := "cbf323f8f65ae82bd372114cfc7f21f8a504e0e16caf561ae58369f42cc6b866", func := "outrider/outriderlaw08.LogRoom", spec := "logRoom", unfollowed := true, recurses := true, apart := false }
def LogRoomSaid : Prop := logRoomRow.holds Try.pinned (OpenSpec.ofChange logRoomSpec)

/-- ITS FALSE NEIGHBOUR: 'it returns false'. Refute it at one input. -/
def logRoomWrong : ChangeSpec := { name := "logRoom", fn := fun _ => fun
  | [d1, d2] => { results := [.lit (.bool false)], args := [d1, d2] }
  | _ => none }
def LogRoomWrongFalsely : Prop := logRoomRow.holds Try.pinned (OpenSpec.ofChange logRoomWrong)

/-- 'outriderlaw08.LogParts': WHATEVER THE INPUT: true; the input reads as it did. -/
def logPartsSpec : ChangeSpec := { name := "logParts", fn := fun _ => fun
  | [d1, d2] => { results := [.lit (.bool true)], args := [d1, d2] }
  | _ => none }
def logPartsRow : OpenClaim := { program := "ytfgggkheadfiaaar", sum := "cbf323f8f65ae82bd372114cfc7f21f8a504e0e16caf561ae58369f42cc6b866", func := "outrider/outriderlaw08.LogParts", spec := "logParts", unfollowed := true, recurses := true, apart := false }
def LogPartsSaid : Prop := logPartsRow.holds Try.pinned (OpenSpec.ofChange logPartsSpec)

/-- ITS FALSE NEIGHBOUR: 'it returns false'. Refute it at one input. -/
def logPartsWrong : ChangeSpec := { name := "logParts", fn := fun _ => fun
  | [d1, d2] => { results := [.lit (.bool false)], args := [d1, d2] }
  | _ => none }
def LogPartsWrongFalsely : Prop := logPartsRow.holds Try.pinned (OpenSpec.ofChange logPartsWrong)

/-- 'outriderlaw08.LogKnown': WHATEVER THE INPUT: true; the input reads as it did. -/
def logKnownSpec : ChangeSpec := { name := "logKnown", fn := fun _ => fun
  | [] => { results := [.lit (.bool true)], args := [] }
  | _ => none }
def logKnownRow : OpenClaim := { program := "ytfgggkheadfiaaar", sum := "cbf323f8f65ae82bd372114cfc7f21f8a504e0e16caf561ae58369f42cc6b866", func := "outrider/outriderlaw08.LogKnown", spec := "logKnown", unfollowed := true, recurses := true, apart := false }
def LogKnownSaid : Prop := logKnownRow.holds Try.pinned (OpenSpec.ofChange logKnownSpec)

/-- ITS FALSE NEIGHBOUR: 'it returns false'. Refute it at one input. -/
def logKnownWrong : ChangeSpec := { name := "logKnown", fn := fun _ => fun
  | [] => { results := [.lit (.bool false)], args := [] }
  | _ => none }
def LogKnownWrongFalsely : Prop := logKnownRow.holds Try.pinned (OpenSpec.ofChange logKnownWrong)

/-- 'outriderlaw08.LogNil': WHATEVER THE INPUT: true; the input reads as it did. -/
def logNilSpec : ChangeSpec := { name := "logNil", fn := fun _ => fun
  | [d] => { results := [.lit (.bool true)], args := [d] }
  | _ => none }
def logNilRow : OpenClaim := { program := "ytfgggkheadfiaaar", sum := "cbf323f8f65ae82bd372114cfc7f21f8a504e0e16caf561ae58369f42cc6b866", func := "outrider/outriderlaw08.LogNil", spec := "logNil", unfollowed := true, recurses := true, apart := false }
def LogNilSaid : Prop := logNilRow.holds Try.pinned (OpenSpec.ofChange logNilSpec)

/-- ITS FALSE NEIGHBOUR: 'it returns false'. Refute it at one input. -/
def logNilWrong : ChangeSpec := { name := "logNil", fn := fun _ => fun
  | [d] => { results := [.lit (.bool false)], args := [d] }
  | _ => none }
def LogNilWrongFalsely : Prop := logNilRow.holds Try.pinned (OpenSpec.ofChange logNilWrong)

/-- 'outriderlaw08.LogPower': WHATEVER THE INPUT: true; the input reads as it did. -/
def logPowerSpec : ChangeSpec := { name := "logPower", fn := fun _ => fun
  | [d1, d2, d3] => { results := [.lit (.bool true)], args := [d1, d2, d3] }
  | _ => none }
def logPowerRow : OpenClaim := { program := "ytfgggkheadfiaaar", sum := "cbf323f8f65ae82bd372114cfc7f21f8a504e0e16caf561ae58369f42cc6b866", func := "outrider/outriderlaw08.LogPower", spec := "logPower", unfollowed := true, recurses := true, apart := false }
def LogPowerSaid : Prop := logPowerRow.holds Try.pinned (OpenSpec.ofChange logPowerSpec)

/-- ITS FALSE NEIGHBOUR: 'it returns false'. Refute it at one input. -/
def logPowerWrong : ChangeSpec := { name := "logPower", fn := fun _ => fun
  | [d1, d2, d3] => { results := [.lit (.bool false)], args := [d1, d2, d3] }
  | _ => none }
def LogPowerWrongFalsely : Prop := logPowerRow.holds Try.pinned (OpenSpec.ofChange logPowerWrong)

/-- 'outriderlaw09.StorePlays': WHATEVER THE INPUT: true; the input reads as it did. -/
def storePlaysSpec : ChangeSpec := { name := "storePlays", fn := fun _ => fun
  | [d1, d2] => { results := [.lit (.bool true)], args := [d1, d2] }
  | _ => none }
def storePlaysRow : OpenClaim := { program := "ytfgggkheadfiaaar", sum := "cbf323f8f65ae82bd372114cfc7f21f8a504e0e16caf561ae58369f42cc6b866", func := "outrider/outriderlaw09.StorePlays", spec := "storePlays", unfollowed := true, recurses := true, apart := false }
def StorePlaysSaid : Prop := storePlaysRow.holds Try.pinned (OpenSpec.ofChange storePlaysSpec)

/-- ITS FALSE NEIGHBOUR: 'it returns false'. Refute it at one input. -/
def storePlaysWrong : ChangeSpec := { name := "storePlays", fn := fun _ => fun
  | [d1, d2] => { results := [.lit (.bool false)], args := [d1, d2] }
  | _ => none }
def StorePlaysWrongFalsely : Prop := storePlaysRow.holds Try.pinned (OpenSpec.ofChange storePlaysWrong)

/-- 'outriderlaw09.StoreRoom': WHATEVER THE INPUT: true; the input reads as it did. -/
def storeRoomSpec : ChangeSpec := { name := "storeRoom", fn := fun _ => fun
  | [d1, d2, d3] => { results := [.lit (.bool true)], args := [d1, d2, d3] }
  | _ => none }
def storeRoomRow : OpenClaim := { program := "ytfgggkheadfiaaar", sum := "cbf323f8f65ae82bd372114cfc7f21f8a504e0e16caf561ae58369f42cc6b866", func := "outrider/outriderlaw09.StoreRoom", spec := "storeRoom", unfollowed := true, recurses := true, apart := false }
def StoreRoomSaid : Prop := storeRoomRow.holds Try.pinned (OpenSpec.ofChange storeRoomSpec)

/-- ITS FALSE NEIGHBOUR: 'it returns false'. Refute it at one input. -/
def storeRoomWrong : ChangeSpec := { name := "storeRoom", fn := fun _ => fun
  | [d1, d2, d3] => { results := [.lit (.bool false)], args := [d1, d2, d3] }
  | _ => none }
def StoreRoomWrongFalsely : Prop := storeRoomRow.holds Try.pinned (OpenSpec.ofChange storeRoomWrong)

/-- 'outriderlaw09.StoreNil': WHATEVER THE INPUT: true; the input reads as it did. -/
def storeNilSpec : ChangeSpec := { name := "storeNil", fn := fun _ => fun
  | [d1, d2] => { results := [.lit (.bool true)], args := [d1, d2] }
  | _ => none }
def storeNilRow : OpenClaim := { program := "ytfgggkheadfiaaar", sum := "cbf323f8f65ae82bd372114cfc7f21f8a504e0e16caf561ae58369f42cc6b866", func := "outrider/outriderlaw09.StoreNil", spec := "storeNil", unfollowed := true, recurses := true, apart := false }
def StoreNilSaid : Prop := storeNilRow.holds Try.pinned (OpenSpec.ofChange storeNilSpec)

/-- ITS FALSE NEIGHBOUR: 'it returns false'. Refute it at one input. -/
def storeNilWrong : ChangeSpec := { name := "storeNil", fn := fun _ => fun
  | [d1, d2] => { results := [.lit (.bool false)], args := [d1, d2] }
  | _ => none }
def StoreNilWrongFalsely : Prop := storeNilRow.holds Try.pinned (OpenSpec.ofChange storeNilWrong)

/-- 'outriderlaw09.StoreKnown': WHATEVER THE INPUT: true; the input reads as it did. -/
def storeKnownSpec : ChangeSpec := { name := "storeKnown", fn := fun _ => fun
  | [] => { results := [.lit (.bool true)], args := [] }
  | _ => none }
def storeKnownRow : OpenClaim := { program := "ytfgggkheadfiaaar", sum := "cbf323f8f65ae82bd372114cfc7f21f8a504e0e16caf561ae58369f42cc6b866", func := "outrider/outriderlaw09.StoreKnown", spec := "storeKnown", unfollowed := true, recurses := true, apart := false }
def StoreKnownSaid : Prop := storeKnownRow.holds Try.pinned (OpenSpec.ofChange storeKnownSpec)

/-- ITS FALSE NEIGHBOUR: 'it returns false'. Refute it at one input. -/
def storeKnownWrong : ChangeSpec := { name := "storeKnown", fn := fun _ => fun
  | [] => { results := [.lit (.bool false)], args := [] }
  | _ => none }
def StoreKnownWrongFalsely : Prop := storeKnownRow.holds Try.pinned (OpenSpec.ofChange storeKnownWrong)

/-- 'outriderlaw09.StoreKeeps': WHATEVER THE INPUT: true; the input reads as it did. -/
def storeKeepsSpec : ChangeSpec := { name := "storeKeeps", fn := fun _ => fun
  | [d1, d2] => { results := [.lit (.bool true)], args := [d1, d2] }
  | _ => none }
def storeKeepsRow : OpenClaim := { program := "ytfgggkheadfiaaar", sum := "cbf323f8f65ae82bd372114cfc7f21f8a504e0e16caf561ae58369f42cc6b866", func := "outrider/outriderlaw09.StoreKeeps", spec := "storeKeeps", unfollowed := true, recurses := true, apart := false }
def StoreKeepsSaid : Prop := storeKeepsRow.holds Try.pinned (OpenSpec.ofChange storeKeepsSpec)

/-- ITS FALSE NEIGHBOUR: 'it returns false'. Refute it at one input. -/
def storeKeepsWrong : ChangeSpec := { name := "storeKeeps", fn := fun _ => fun
  | [d1, d2] => { results := [.lit (.bool false)], args := [d1, d2] }
  | _ => none }
def StoreKeepsWrongFalsely : Prop := storeKeepsRow.holds Try.pinned (OpenSpec.ofChange storeKeepsWrong)

/-- 'outriderlaw09.StoreAgain': WHATEVER THE INPUT: true; the input reads as it did. -/
def storeAgainSpec : ChangeSpec := { name := "storeAgain", fn := fun _ => fun
  | [d1, d2] => { results := [.lit (.bool true)], args := [d1, d2] }
  | _ => none }
def storeAgainRow : OpenClaim := { program := "ytfgggkheadfiaaar", sum := "cbf323f8f65ae82bd372114cfc7f21f8a504e0e16caf561ae58369f42cc6b866", func := "outrider/outriderlaw09.StoreAgain", spec := "storeAgain", unfollowed := true, recurses := true, apart := false }
def StoreAgainSaid : Prop := storeAgainRow.holds Try.pinned (OpenSpec.ofChange storeAgainSpec)

/-- ITS FALSE NEIGHBOUR: 'it returns false'. Refute it at one input. -/
def storeAgainWrong : ChangeSpec := { name := "storeAgain", fn := fun _ => fun
  | [d1, d2] => { results := [.lit (.bool false)], args := [d1, d2] }
  | _ => none }
def StoreAgainWrongFalsely : Prop := storeAgainRow.holds Try.pinned (OpenSpec.ofChange storeAgainWrong)

/- THE SECOND FORM. 'bulk': how many values and letters a reading holds, each counted each time it is reached (what is shared counts as often as it is met; a slice's spare places count too). A statement '..UptoSaid' is the law's where the arguments, and the package variables that the reading takes, are together of bulk at most 1048576: NARROWER than '..Said'. Prove '..Said' where nothing that the law and all that it calls make is longer than what came in: it says more and counts as full. Else prove '..UptoSaid'. A law counts once. -/
mutual
def uptoBulk {H : Type} : DataW H → Nat
  | .lit (.string bytes) => bytes.length + 1
  | .lit _ => 1
  | .nil => 1
  | .ptr d => uptoBulk d + 1
  | .slice elems spare => uptoBulkAll elems + uptoBulkAll spare + 1
  | .agg parts => uptoBulkAll parts + 1
  | .iface _ d => uptoBulk d + 1
  | .map entries => uptoBulkEntries entries + 1
  | .held _ => 1
def uptoBulkAll {H : Type} : List (DataW H) → Nat
  | [] => 0
  | d :: r => uptoBulk d + uptoBulkAll r
def uptoBulkEntries {H : Type} : List (Lit × DataW H) → Nat
  | [] => 0
  | x :: r => uptoBulkEntry x + uptoBulkEntries r
def uptoBulkEntry {H : Type} : Lit × DataW H → Nat
  | (.string bytes, d) => bytes.length + uptoBulk d + 1
  | (_, d) => uptoBulk d + 1
 end
def uptoSmall : (H : Type) → List (DataW H) → Bool := fun _ ds => decide (uptoBulkAll ds ≤ 1048576)
def OpenSpec.upto (s : _root_.Go.ChangeSpec) : _root_.Go.OpenSpec := { _root_.Go.OpenSpec.ofChange s with cond := some uptoSmall }

/-- 'outriderlaw07.DiskKnown', WHERE WHAT IT READS IS OF BULK AT MOST 1048576: true; the input reads as it did. -/
def diskKnownUptoRow : OpenClaim := { program := "ytfgggkheadfiaaar", sum := "cbf323f8f65ae82bd372114cfc7f21f8a504e0e16caf561ae58369f42cc6b866", func := "outrider/outriderlaw07.DiskKnown", spec := "diskKnown", unfollowed := true, recurses := true, apart := false, narrowed := true }
def DiskKnownUptoSaid : Prop := diskKnownUptoRow.holds Try.pinned (OpenSpec.upto diskKnownSpec)

/-- 'outriderlaw07.DiskCountdown', WHERE WHAT IT READS IS OF BULK AT MOST 1048576: true; the input reads as it did. -/
def diskCountdownUptoRow : OpenClaim := { program := "ytfgggkheadfiaaar", sum := "cbf323f8f65ae82bd372114cfc7f21f8a504e0e16caf561ae58369f42cc6b866", func := "outrider/outriderlaw07.DiskCountdown", spec := "diskCountdown", unfollowed := true, recurses := true, apart := false, narrowed := true }
def DiskCountdownUptoSaid : Prop := diskCountdownUptoRow.holds Try.pinned (OpenSpec.upto diskCountdownSpec)

/-- 'outriderlaw07.DiskSynced', WHERE WHAT IT READS IS OF BULK AT MOST 1048576: true; the input reads as it did. -/
def diskSyncedUptoRow : OpenClaim := { program := "ytfgggkheadfiaaar", sum := "cbf323f8f65ae82bd372114cfc7f21f8a504e0e16caf561ae58369f42cc6b866", func := "outrider/outriderlaw07.DiskSynced", spec := "diskSynced", unfollowed := true, recurses := true, apart := false, narrowed := true }
def DiskSyncedUptoSaid : Prop := diskSyncedUptoRow.holds Try.pinned (OpenSpec.upto diskSyncedSpec)

/-- 'outriderlaw07.DiskRow', WHERE WHAT IT READS IS OF BULK AT MOST 1048576: true; the input reads as it did. -/
def diskRowUptoRow : OpenClaim := { program := "ytfgggkheadfiaaar", sum := "cbf323f8f65ae82bd372114cfc7f21f8a504e0e16caf561ae58369f42cc6b866", func := "outrider/outriderlaw07.DiskRow", spec := "diskRow", unfollowed := true, recurses := true, apart := false, narrowed := true }
def DiskRowUptoSaid : Prop := diskRowUptoRow.holds Try.pinned (OpenSpec.upto diskRowSpec)

/-- 'outriderlaw07.DiskNil', WHERE WHAT IT READS IS OF BULK AT MOST 1048576: true; the input reads as it did. -/
def diskNilUptoRow : OpenClaim := { program := "ytfgggkheadfiaaar", sum := "cbf323f8f65ae82bd372114cfc7f21f8a504e0e16caf561ae58369f42cc6b866", func := "outrider/outriderlaw07.DiskNil", spec := "diskNil", unfollowed := true, recurses := true, apart := false, narrowed := true }
def DiskNilUptoSaid : Prop := diskNilUptoRow.holds Try.pinned (OpenSpec.upto diskNilSpec)

/-- 'outriderlaw08.LogPages', WHERE WHAT IT READS IS OF BULK AT MOST 1048576: true; the input reads as it did. -/
def logPagesUptoRow : OpenClaim := { program := "ytfgggkheadfiaaar", sum := "cbf323f8f65ae82bd372114cfc7f21f8a504e0e16caf561ae58369f42cc6b866", func := "outrider/outriderlaw08.LogPages", spec := "logPages", unfollowed := true, recurses := true, apart := false, narrowed := true }
def LogPagesUptoSaid : Prop := logPagesUptoRow.holds Try.pinned (OpenSpec.upto logPagesSpec)

/-- 'outriderlaw08.LogRoom', WHERE WHAT IT READS IS OF BULK AT MOST 1048576: true; the input reads as it did. -/
def logRoomUptoRow : OpenClaim := { program := "ytfgggkheadfiaaar", sum := "cbf323f8f65ae82bd372114cfc7f21f8a504e0e16caf561ae58369f42cc6b866", func := "outrider/outriderlaw08.LogRoom", spec := "logRoom", unfollowed := true, recurses := true, apart := false, narrowed := true }
def LogRoomUptoSaid : Prop := logRoomUptoRow.holds Try.pinned (OpenSpec.upto logRoomSpec)

/-- 'outriderlaw08.LogParts', WHERE WHAT IT READS IS OF BULK AT MOST 1048576: true; the input reads as it did. -/
def logPartsUptoRow : OpenClaim := { program := "ytfgggkheadfiaaar", sum := "cbf323f8f65ae82bd372114cfc7f21f8a504e0e16caf561ae58369f42cc6b866", func := "outrider/outriderlaw08.LogParts", spec := "logParts", unfollowed := true, recurses := true, apart := false, narrowed := true }
def LogPartsUptoSaid : Prop := logPartsUptoRow.holds Try.pinned (OpenSpec.upto logPartsSpec)

/-- 'outriderlaw08.LogKnown', WHERE WHAT IT READS IS OF BULK AT MOST 1048576: true; the input reads as it did. -/
def logKnownUptoRow : OpenClaim := { program := "ytfgggkheadfiaaar", sum := "cbf323f8f65ae82bd372114cfc7f21f8a504e0e16caf561ae58369f42cc6b866", func := "outrider/outriderlaw08.LogKnown", spec := "logKnown", unfollowed := true, recurses := true, apart := false, narrowed := true }
def LogKnownUptoSaid : Prop := logKnownUptoRow.holds Try.pinned (OpenSpec.upto logKnownSpec)

/-- 'outriderlaw08.LogNil', WHERE WHAT IT READS IS OF BULK AT MOST 1048576: true; the input reads as it did. -/
def logNilUptoRow : OpenClaim := { program := "ytfgggkheadfiaaar", sum := "cbf323f8f65ae82bd372114cfc7f21f8a504e0e16caf561ae58369f42cc6b866", func := "outrider/outriderlaw08.LogNil", spec := "logNil", unfollowed := true, recurses := true, apart := false, narrowed := true }
def LogNilUptoSaid : Prop := logNilUptoRow.holds Try.pinned (OpenSpec.upto logNilSpec)

/-- 'outriderlaw08.LogPower', WHERE WHAT IT READS IS OF BULK AT MOST 1048576: true; the input reads as it did. -/
def logPowerUptoRow : OpenClaim := { program := "ytfgggkheadfiaaar", sum := "cbf323f8f65ae82bd372114cfc7f21f8a504e0e16caf561ae58369f42cc6b866", func := "outrider/outriderlaw08.LogPower", spec := "logPower", unfollowed := true, recurses := true, apart := false, narrowed := true }
def LogPowerUptoSaid : Prop := logPowerUptoRow.holds Try.pinned (OpenSpec.upto logPowerSpec)

/-- 'outriderlaw09.StorePlays', WHERE WHAT IT READS IS OF BULK AT MOST 1048576: true; the input reads as it did. -/
def storePlaysUptoRow : OpenClaim := { program := "ytfgggkheadfiaaar", sum := "cbf323f8f65ae82bd372114cfc7f21f8a504e0e16caf561ae58369f42cc6b866", func := "outrider/outriderlaw09.StorePlays", spec := "storePlays", unfollowed := true, recurses := true, apart := false, narrowed := true }
def StorePlaysUptoSaid : Prop := storePlaysUptoRow.holds Try.pinned (OpenSpec.upto storePlaysSpec)

/-- 'outriderlaw09.StoreRoom', WHERE WHAT IT READS IS OF BULK AT MOST 1048576: true; the input reads as it did. -/
def storeRoomUptoRow : OpenClaim := { program := "ytfgggkheadfiaaar", sum := "cbf323f8f65ae82bd372114cfc7f21f8a504e0e16caf561ae58369f42cc6b866", func := "outrider/outriderlaw09.StoreRoom", spec := "storeRoom", unfollowed := true, recurses := true, apart := false, narrowed := true }
def StoreRoomUptoSaid : Prop := storeRoomUptoRow.holds Try.pinned (OpenSpec.upto storeRoomSpec)

/-- 'outriderlaw09.StoreNil', WHERE WHAT IT READS IS OF BULK AT MOST 1048576: true; the input reads as it did. -/
def storeNilUptoRow : OpenClaim := { program := "ytfgggkheadfiaaar", sum := "cbf323f8f65ae82bd372114cfc7f21f8a504e0e16caf561ae58369f42cc6b866", func := "outrider/outriderlaw09.StoreNil", spec := "storeNil", unfollowed := true, recurses := true, apart := false, narrowed := true }
def StoreNilUptoSaid : Prop := storeNilUptoRow.holds Try.pinned (OpenSpec.upto storeNilSpec)

/-- 'outriderlaw09.StoreKnown', WHERE WHAT IT READS IS OF BULK AT MOST 1048576: true; the input reads as it did. -/
def storeKnownUptoRow : OpenClaim := { program := "ytfgggkheadfiaaar", sum := "cbf323f8f65ae82bd372114cfc7f21f8a504e0e16caf561ae58369f42cc6b866", func := "outrider/outriderlaw09.StoreKnown", spec := "storeKnown", unfollowed := true, recurses := true, apart := false, narrowed := true }
def StoreKnownUptoSaid : Prop := storeKnownUptoRow.holds Try.pinned (OpenSpec.upto storeKnownSpec)

/-- 'outriderlaw09.StoreKeeps', WHERE WHAT IT READS IS OF BULK AT MOST 1048576: true; the input reads as it did. -/
def storeKeepsUptoRow : OpenClaim := { program := "ytfgggkheadfiaaar", sum := "cbf323f8f65ae82bd372114cfc7f21f8a504e0e16caf561ae58369f42cc6b866", func := "outrider/outriderlaw09.StoreKeeps", spec := "storeKeeps", unfollowed := true, recurses := true, apart := false, narrowed := true }
def StoreKeepsUptoSaid : Prop := storeKeepsUptoRow.holds Try.pinned (OpenSpec.upto storeKeepsSpec)

/-- 'outriderlaw09.StoreAgain', WHERE WHAT IT READS IS OF BULK AT MOST 1048576: true; the input reads as it did. -/
def storeAgainUptoRow : OpenClaim := { program := "ytfgggkheadfiaaar", sum := "cbf323f8f65ae82bd372114cfc7f21f8a504e0e16caf561ae58369f42cc6b866", func := "outrider/outriderlaw09.StoreAgain", spec := "storeAgain", unfollowed := true, recurses := true, apart := false, narrowed := true }
def StoreAgainUptoSaid : Prop := storeAgainUptoRow.holds Try.pinned (OpenSpec.upto storeAgainSpec)

end Rows
end Go.Proofs.YtfgggkheadfiaaaR
