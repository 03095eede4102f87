/-
  No cell of these rows narrows 'for every input' (looked for: loops, veiled, ifaces, maps, wideKeys, modest, calm, conditions, laid).
  DERIVED. THE GIVEN ROWS OF THIS SEAT. 10 by the template 'for every input the law returns true; each argument reads behind the call as it read before'; 0 by the template 'total and deterministic' (their statements: YtihedeofkhapiaaTotals.lean).
  GIVEN WITH THE SEED: the statements are not yours to turn. If you find one false, say at which input.
  Laid BY PROGRAM, IN A SANDBOX (cutbox-rows.mjs): the forced cells as the released guide's own fill.sh prints them over the translation 15e87c65cf5f90d0… (all of the seat's roots in one cut). By AI agents, Wed Nov 11 2026. No macro, syntax, notation, axiom, sorry.
-/
import Derived.Test.YtihedeofkhapiaaChecked
import GoSem.Claim
import GoSem.ClaimJoined
import GoSem.ClaimMapViews
import Derived.JoinedTies
import Derived.KernelRfl
namespace Go.Proofs.Ytihedeofkhapiaa
/- THE CELL 'sum', in the pinned program and in every row, IS THE sha256 OF THE DUMP (.gsa) THAT YtihedeofkhapiaaProg.lean LOADS. Nothing in Lean hashes anything: it is a label: what it is worth is what the hold of that sum in a sandbox is worth. -/
noncomputable def Try.pinned : Pinned := { name := "ytihedeofkhapiaa", sum := "15e87c65cf5f90d049ca62ffc441e83e3b76fd5dbc6ffb418c29afa0a6aec7d8", checked := Try.checked }
namespace Rows
def none {H : Type} : Left H := { results := [], args := [] }

/-- 'cippuslaw01.SightPrints': WHATEVER THE INPUT: true; the input reads as it did. -/
def sightPrintsSpec : ChangeSpec := { name := "sightPrints", fn := fun _ => fun
  | [d1, d2, d3, d4] => { results := [.lit (.bool true)], args := [d1, d2, d3, d4] }
  | _ => none }
def sightPrintsRow : OpenClaim := { program := "ytihedeofkhapiaa", sum := "15e87c65cf5f90d049ca62ffc441e83e3b76fd5dbc6ffb418c29afa0a6aec7d8", func := "cippus/cippuslaw01.SightPrints", spec := "sightPrints", unfollowed := true, recurses := true, apart := false }
def SightPrintsSaid : Prop := sightPrintsRow.holds Try.pinned (OpenSpec.ofChange sightPrintsSpec)

/-- ITS FALSE NEIGHBOUR: 'it returns false'. Refute it at one input. -/
def sightPrintsWrong : ChangeSpec := { name := "sightPrints", fn := fun _ => fun
  | [d1, d2, d3, d4] => { results := [.lit (.bool false)], args := [d1, d2, d3, d4] }
  | _ => none }
def SightPrintsWrongFalsely : Prop := sightPrintsRow.holds Try.pinned (OpenSpec.ofChange sightPrintsWrong)

/-- 'cippuslaw01.SightSure': WHATEVER THE INPUT: true; the input reads as it did. -/
def sightSureSpec : ChangeSpec := { name := "sightSure", fn := fun _ => fun
  | [d] => { results := [.lit (.bool true)], args := [d] }
  | _ => none }
def sightSureRow : OpenClaim := { program := "ytihedeofkhapiaa", sum := "15e87c65cf5f90d049ca62ffc441e83e3b76fd5dbc6ffb418c29afa0a6aec7d8", func := "cippus/cippuslaw01.SightSure", spec := "sightSure", unfollowed := true, recurses := true, apart := false }
def SightSureSaid : Prop := sightSureRow.holds Try.pinned (OpenSpec.ofChange sightSureSpec)

/-- ITS FALSE NEIGHBOUR: 'it returns false'. Refute it at one input. -/
def sightSureWrong : ChangeSpec := { name := "sightSure", fn := fun _ => fun
  | [d] => { results := [.lit (.bool false)], args := [d] }
  | _ => none }
def SightSureWrongFalsely : Prop := sightSureRow.holds Try.pinned (OpenSpec.ofChange sightSureWrong)

/-- 'cippuslaw01.SightAll': WHATEVER THE INPUT: true; the input reads as it did. -/
def sightAllSpec : ChangeSpec := { name := "sightAll", fn := fun _ => fun
  | [d] => { results := [.lit (.bool true)], args := [d] }
  | _ => none }
def sightAllRow : OpenClaim := { program := "ytihedeofkhapiaa", sum := "15e87c65cf5f90d049ca62ffc441e83e3b76fd5dbc6ffb418c29afa0a6aec7d8", func := "cippus/cippuslaw01.SightAll", spec := "sightAll", unfollowed := true, recurses := true, apart := false }
def SightAllSaid : Prop := sightAllRow.holds Try.pinned (OpenSpec.ofChange sightAllSpec)

/-- ITS FALSE NEIGHBOUR: 'it returns false'. Refute it at one input. -/
def sightAllWrong : ChangeSpec := { name := "sightAll", fn := fun _ => fun
  | [d] => { results := [.lit (.bool false)], args := [d] }
  | _ => none }
def SightAllWrongFalsely : Prop := sightAllRow.holds Try.pinned (OpenSpec.ofChange sightAllWrong)

/-- 'cippuslaw01.SightEither': WHATEVER THE INPUT: true; the input reads as it did. -/
def sightEitherSpec : ChangeSpec := { name := "sightEither", fn := fun _ => fun
  | [d] => { results := [.lit (.bool true)], args := [d] }
  | _ => none }
def sightEitherRow : OpenClaim := { program := "ytihedeofkhapiaa", sum := "15e87c65cf5f90d049ca62ffc441e83e3b76fd5dbc6ffb418c29afa0a6aec7d8", func := "cippus/cippuslaw01.SightEither", spec := "sightEither", unfollowed := true, recurses := true, apart := false }
def SightEitherSaid : Prop := sightEitherRow.holds Try.pinned (OpenSpec.ofChange sightEitherSpec)

/-- ITS FALSE NEIGHBOUR: 'it returns false'. Refute it at one input. -/
def sightEitherWrong : ChangeSpec := { name := "sightEither", fn := fun _ => fun
  | [d] => { results := [.lit (.bool false)], args := [d] }
  | _ => none }
def SightEitherWrongFalsely : Prop := sightEitherRow.holds Try.pinned (OpenSpec.ofChange sightEitherWrong)

/-- 'cippuslaw01.SightEnough': WHATEVER THE INPUT: true; the input reads as it did. -/
def sightEnoughSpec : ChangeSpec := { name := "sightEnough", fn := fun _ => fun
  | [d] => { results := [.lit (.bool true)], args := [d] }
  | _ => none }
def sightEnoughRow : OpenClaim := { program := "ytihedeofkhapiaa", sum := "15e87c65cf5f90d049ca62ffc441e83e3b76fd5dbc6ffb418c29afa0a6aec7d8", func := "cippus/cippuslaw01.SightEnough", spec := "sightEnough", unfollowed := true, recurses := true, apart := false }
def SightEnoughSaid : Prop := sightEnoughRow.holds Try.pinned (OpenSpec.ofChange sightEnoughSpec)

/-- ITS FALSE NEIGHBOUR: 'it returns false'. Refute it at one input. -/
def sightEnoughWrong : ChangeSpec := { name := "sightEnough", fn := fun _ => fun
  | [d] => { results := [.lit (.bool false)], args := [d] }
  | _ => none }
def SightEnoughWrongFalsely : Prop := sightEnoughRow.holds Try.pinned (OpenSpec.ofChange sightEnoughWrong)

/-- 'cippuslaw01.SightMore': WHATEVER THE INPUT: true; the input reads as it did. -/
def sightMoreSpec : ChangeSpec := { name := "sightMore", fn := fun _ => fun
  | [d] => { results := [.lit (.bool true)], args := [d] }
  | _ => none }
def sightMoreRow : OpenClaim := { program := "ytihedeofkhapiaa", sum := "15e87c65cf5f90d049ca62ffc441e83e3b76fd5dbc6ffb418c29afa0a6aec7d8", func := "cippus/cippuslaw01.SightMore", spec := "sightMore", unfollowed := true, recurses := true, apart := false }
def SightMoreSaid : Prop := sightMoreRow.holds Try.pinned (OpenSpec.ofChange sightMoreSpec)

/-- ITS FALSE NEIGHBOUR: 'it returns false'. Refute it at one input. -/
def sightMoreWrong : ChangeSpec := { name := "sightMore", fn := fun _ => fun
  | [d] => { results := [.lit (.bool false)], args := [d] }
  | _ => none }
def SightMoreWrongFalsely : Prop := sightMoreRow.holds Try.pinned (OpenSpec.ofChange sightMoreWrong)

/-- 'cippuslaw01.SightFits': WHATEVER THE INPUT: true; the input reads as it did. -/
def sightFitsSpec : ChangeSpec := { name := "sightFits", fn := fun _ => fun
  | [d1, d2, d3, d4] => { results := [.lit (.bool true)], args := [d1, d2, d3, d4] }
  | _ => none }
def sightFitsRow : OpenClaim := { program := "ytihedeofkhapiaa", sum := "15e87c65cf5f90d049ca62ffc441e83e3b76fd5dbc6ffb418c29afa0a6aec7d8", func := "cippus/cippuslaw01.SightFits", spec := "sightFits", unfollowed := true, recurses := true, apart := false }
def SightFitsSaid : Prop := sightFitsRow.holds Try.pinned (OpenSpec.ofChange sightFitsSpec)

/-- ITS FALSE NEIGHBOUR: 'it returns false'. Refute it at one input. -/
def sightFitsWrong : ChangeSpec := { name := "sightFits", fn := fun _ => fun
  | [d1, d2, d3, d4] => { results := [.lit (.bool false)], args := [d1, d2, d3, d4] }
  | _ => none }
def SightFitsWrongFalsely : Prop := sightFitsRow.holds Try.pinned (OpenSpec.ofChange sightFitsWrong)

/-- 'cippuslaw01.SightTrue': WHATEVER THE INPUT: true; the input reads as it did. -/
def sightTrueSpec : ChangeSpec := { name := "sightTrue", fn := fun _ => fun
  | [d] => { results := [.lit (.bool true)], args := [d] }
  | _ => none }
def sightTrueRow : OpenClaim := { program := "ytihedeofkhapiaa", sum := "15e87c65cf5f90d049ca62ffc441e83e3b76fd5dbc6ffb418c29afa0a6aec7d8", func := "cippus/cippuslaw01.SightTrue", spec := "sightTrue", unfollowed := true, recurses := true, apart := false }
def SightTrueSaid : Prop := sightTrueRow.holds Try.pinned (OpenSpec.ofChange sightTrueSpec)

/-- ITS FALSE NEIGHBOUR: 'it returns false'. Refute it at one input. -/
def sightTrueWrong : ChangeSpec := { name := "sightTrue", fn := fun _ => fun
  | [d] => { results := [.lit (.bool false)], args := [d] }
  | _ => none }
def SightTrueWrongFalsely : Prop := sightTrueRow.holds Try.pinned (OpenSpec.ofChange sightTrueWrong)

/-- 'cippuslaw01.SightLooks': WHATEVER THE INPUT: true; the input reads as it did. -/
def sightLooksSpec : ChangeSpec := { name := "sightLooks", fn := fun _ => fun
  | [d1, d2] => { results := [.lit (.bool true)], args := [d1, d2] }
  | _ => none }
def sightLooksRow : OpenClaim := { program := "ytihedeofkhapiaa", sum := "15e87c65cf5f90d049ca62ffc441e83e3b76fd5dbc6ffb418c29afa0a6aec7d8", func := "cippus/cippuslaw01.SightLooks", spec := "sightLooks", unfollowed := true, recurses := true, apart := false }
def SightLooksSaid : Prop := sightLooksRow.holds Try.pinned (OpenSpec.ofChange sightLooksSpec)

/-- ITS FALSE NEIGHBOUR: 'it returns false'. Refute it at one input. -/
def sightLooksWrong : ChangeSpec := { name := "sightLooks", fn := fun _ => fun
  | [d1, d2] => { results := [.lit (.bool false)], args := [d1, d2] }
  | _ => none }
def SightLooksWrongFalsely : Prop := sightLooksRow.holds Try.pinned (OpenSpec.ofChange sightLooksWrong)

/-- 'cippuslaw01.SightLooked': WHATEVER THE INPUT: true; the input reads as it did. -/
def sightLookedSpec : ChangeSpec := { name := "sightLooked", fn := fun _ => fun
  | [d] => { results := [.lit (.bool true)], args := [d] }
  | _ => none }
def sightLookedRow : OpenClaim := { program := "ytihedeofkhapiaa", sum := "15e87c65cf5f90d049ca62ffc441e83e3b76fd5dbc6ffb418c29afa0a6aec7d8", func := "cippus/cippuslaw01.SightLooked", spec := "sightLooked", unfollowed := true, recurses := true, apart := false }
def SightLookedSaid : Prop := sightLookedRow.holds Try.pinned (OpenSpec.ofChange sightLookedSpec)

/-- ITS FALSE NEIGHBOUR: 'it returns false'. Refute it at one input. -/
def sightLookedWrong : ChangeSpec := { name := "sightLooked", fn := fun _ => fun
  | [d] => { results := [.lit (.bool false)], args := [d] }
  | _ => none }
def SightLookedWrongFalsely : Prop := sightLookedRow.holds Try.pinned (OpenSpec.ofChange sightLookedWrong)

/- THE SECOND FORM. 'bulk': how many values and letters a reading holds, each counted each time it is reached (what is shared counts as often as it is met; a slice's spare places count too). A statement '..UptoSaid' is the law's where the arguments, and the package variables that the reading takes, are together of bulk at most 1048576: NARROWER than '..Said'. Prove '..Said' where nothing that the law and all that it calls make is longer than what came in: it says more and counts as full. Else prove '..UptoSaid'. A law counts once. -/
mutual
def uptoBulk {H : Type} : DataW H → Nat
  | .lit (.string bytes) => bytes.length + 1
  | .lit _ => 1
  | .nil => 1
  | .ptr d => uptoBulk d + 1
  | .slice elems spare => uptoBulkAll elems + uptoBulkAll spare + 1
  | .agg parts => uptoBulkAll parts + 1
  | .iface _ d => uptoBulk d + 1
  | .map entries => uptoBulkEntries entries + 1
  | .held _ => 1
def uptoBulkAll {H : Type} : List (DataW H) → Nat
  | [] => 0
  | d :: r => uptoBulk d + uptoBulkAll r
def uptoBulkEntries {H : Type} : List (Lit × DataW H) → Nat
  | [] => 0
  | x :: r => uptoBulkEntry x + uptoBulkEntries r
def uptoBulkEntry {H : Type} : Lit × DataW H → Nat
  | (.string bytes, d) => bytes.length + uptoBulk d + 1
  | (_, d) => uptoBulk d + 1
 end
def uptoSmall : (H : Type) → List (DataW H) → Bool := fun _ ds => decide (uptoBulkAll ds ≤ 1048576)
def OpenSpec.upto (s : _root_.Go.ChangeSpec) : _root_.Go.OpenSpec := { _root_.Go.OpenSpec.ofChange s with cond := some uptoSmall }

/-- 'cippuslaw01.SightPrints', WHERE WHAT IT READS IS OF BULK AT MOST 1048576: true; the input reads as it did. -/
def sightPrintsUptoRow : OpenClaim := { program := "ytihedeofkhapiaa", sum := "15e87c65cf5f90d049ca62ffc441e83e3b76fd5dbc6ffb418c29afa0a6aec7d8", func := "cippus/cippuslaw01.SightPrints", spec := "sightPrints", unfollowed := true, recurses := true, apart := false, narrowed := true }
def SightPrintsUptoSaid : Prop := sightPrintsUptoRow.holds Try.pinned (OpenSpec.upto sightPrintsSpec)

/-- 'cippuslaw01.SightSure', WHERE WHAT IT READS IS OF BULK AT MOST 1048576: true; the input reads as it did. -/
def sightSureUptoRow : OpenClaim := { program := "ytihedeofkhapiaa", sum := "15e87c65cf5f90d049ca62ffc441e83e3b76fd5dbc6ffb418c29afa0a6aec7d8", func := "cippus/cippuslaw01.SightSure", spec := "sightSure", unfollowed := true, recurses := true, apart := false, narrowed := true }
def SightSureUptoSaid : Prop := sightSureUptoRow.holds Try.pinned (OpenSpec.upto sightSureSpec)

/-- 'cippuslaw01.SightAll', WHERE WHAT IT READS IS OF BULK AT MOST 1048576: true; the input reads as it did. -/
def sightAllUptoRow : OpenClaim := { program := "ytihedeofkhapiaa", sum := "15e87c65cf5f90d049ca62ffc441e83e3b76fd5dbc6ffb418c29afa0a6aec7d8", func := "cippus/cippuslaw01.SightAll", spec := "sightAll", unfollowed := true, recurses := true, apart := false, narrowed := true }
def SightAllUptoSaid : Prop := sightAllUptoRow.holds Try.pinned (OpenSpec.upto sightAllSpec)

/-- 'cippuslaw01.SightEither', WHERE WHAT IT READS IS OF BULK AT MOST 1048576: true; the input reads as it did. -/
def sightEitherUptoRow : OpenClaim := { program := "ytihedeofkhapiaa", sum := "15e87c65cf5f90d049ca62ffc441e83e3b76fd5dbc6ffb418c29afa0a6aec7d8", func := "cippus/cippuslaw01.SightEither", spec := "sightEither", unfollowed := true, recurses := true, apart := false, narrowed := true }
def SightEitherUptoSaid : Prop := sightEitherUptoRow.holds Try.pinned (OpenSpec.upto sightEitherSpec)

/-- 'cippuslaw01.SightEnough', WHERE WHAT IT READS IS OF BULK AT MOST 1048576: true; the input reads as it did. -/
def sightEnoughUptoRow : OpenClaim := { program := "ytihedeofkhapiaa", sum := "15e87c65cf5f90d049ca62ffc441e83e3b76fd5dbc6ffb418c29afa0a6aec7d8", func := "cippus/cippuslaw01.SightEnough", spec := "sightEnough", unfollowed := true, recurses := true, apart := false, narrowed := true }
def SightEnoughUptoSaid : Prop := sightEnoughUptoRow.holds Try.pinned (OpenSpec.upto sightEnoughSpec)

/-- 'cippuslaw01.SightMore', WHERE WHAT IT READS IS OF BULK AT MOST 1048576: true; the input reads as it did. -/
def sightMoreUptoRow : OpenClaim := { program := "ytihedeofkhapiaa", sum := "15e87c65cf5f90d049ca62ffc441e83e3b76fd5dbc6ffb418c29afa0a6aec7d8", func := "cippus/cippuslaw01.SightMore", spec := "sightMore", unfollowed := true, recurses := true, apart := false, narrowed := true }
def SightMoreUptoSaid : Prop := sightMoreUptoRow.holds Try.pinned (OpenSpec.upto sightMoreSpec)

/-- 'cippuslaw01.SightFits', WHERE WHAT IT READS IS OF BULK AT MOST 1048576: true; the input reads as it did. -/
def sightFitsUptoRow : OpenClaim := { program := "ytihedeofkhapiaa", sum := "15e87c65cf5f90d049ca62ffc441e83e3b76fd5dbc6ffb418c29afa0a6aec7d8", func := "cippus/cippuslaw01.SightFits", spec := "sightFits", unfollowed := true, recurses := true, apart := false, narrowed := true }
def SightFitsUptoSaid : Prop := sightFitsUptoRow.holds Try.pinned (OpenSpec.upto sightFitsSpec)

/-- 'cippuslaw01.SightTrue', WHERE WHAT IT READS IS OF BULK AT MOST 1048576: true; the input reads as it did. -/
def sightTrueUptoRow : OpenClaim := { program := "ytihedeofkhapiaa", sum := "15e87c65cf5f90d049ca62ffc441e83e3b76fd5dbc6ffb418c29afa0a6aec7d8", func := "cippus/cippuslaw01.SightTrue", spec := "sightTrue", unfollowed := true, recurses := true, apart := false, narrowed := true }
def SightTrueUptoSaid : Prop := sightTrueUptoRow.holds Try.pinned (OpenSpec.upto sightTrueSpec)

/-- 'cippuslaw01.SightLooks', WHERE WHAT IT READS IS OF BULK AT MOST 1048576: true; the input reads as it did. -/
def sightLooksUptoRow : OpenClaim := { program := "ytihedeofkhapiaa", sum := "15e87c65cf5f90d049ca62ffc441e83e3b76fd5dbc6ffb418c29afa0a6aec7d8", func := "cippus/cippuslaw01.SightLooks", spec := "sightLooks", unfollowed := true, recurses := true, apart := false, narrowed := true }
def SightLooksUptoSaid : Prop := sightLooksUptoRow.holds Try.pinned (OpenSpec.upto sightLooksSpec)

/-- 'cippuslaw01.SightLooked', WHERE WHAT IT READS IS OF BULK AT MOST 1048576: true; the input reads as it did. -/
def sightLookedUptoRow : OpenClaim := { program := "ytihedeofkhapiaa", sum := "15e87c65cf5f90d049ca62ffc441e83e3b76fd5dbc6ffb418c29afa0a6aec7d8", func := "cippus/cippuslaw01.SightLooked", spec := "sightLooked", unfollowed := true, recurses := true, apart := false, narrowed := true }
def SightLookedUptoSaid : Prop := sightLookedUptoRow.holds Try.pinned (OpenSpec.upto sightLookedSpec)

end Rows
end Go.Proofs.Ytihedeofkhapiaa
