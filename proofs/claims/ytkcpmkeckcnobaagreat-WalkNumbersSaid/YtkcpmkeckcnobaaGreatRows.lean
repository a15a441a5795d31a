/-
  No cell of these rows narrows 'for every input' (looked for: loops, veiled, ifaces, maps, wideKeys, modest, calm, conditions, laid).
  DERIVED. THE GIVEN ROWS OF THIS SEAT. 4 by the template 'for every input the law returns true; each argument reads behind the call as it read before'; 0 by the template 'total and deterministic' (their statements: YtkcpmkeckcnobaaGreatTotals.lean).
  GIVEN WITH THE SEED: the statements are not yours to turn. If you find one false, say at which input.
  Laid BY PROGRAM, IN A SANDBOX (cutbox-rows.mjs): the forced cells as the released guide's own fill.sh prints them over the translation 04201d7a26a79f7d… (all of the seat's roots in one cut). By AI agents, Wed Nov 11 2026. No macro, syntax, notation, axiom, sorry.
-/
import Derived.Test.YtkcpmkeckcnobaaGreatChecked
import GoSem.Claim
import GoSem.ClaimJoined
import GoSem.ClaimMapViews
import Derived.JoinedTies
import Derived.KernelRfl
namespace Go.Proofs.YtkcpmkeckcnobaaGreat
/- THE CELL 'sum', in the pinned program and in every row, IS THE sha256 OF THE DUMP (.gsa) THAT YtkcpmkeckcnobaaGreatProg.lean LOADS. Nothing in Lean hashes anything: it is a label: what it is worth is what the hold of that sum in a sandbox is worth. -/
noncomputable def Tryz.pinned : Pinned := { name := "ytkcpmkeckcnobaagreat", sum := "04201d7a26a79f7df90b6dae84c997373c74fe4031b07e87ffffea8dc6e4f49c", checked := Tryz.checked }
namespace Rows
def none {H : Type} : Left H := { results := [], args := [] }

/-- 'peatbanklaw15.NodeNumbers': WHATEVER THE INPUT: true; the input reads as it did. -/
def nodeNumbersSpec : ChangeSpec := { name := "nodeNumbers", fn := fun _ => fun
  | [] => { results := [.lit (.bool true)], args := [] }
  | _ => none }
def nodeNumbersRow : OpenClaim := { program := "ytkcpmkeckcnobaagreat", sum := "04201d7a26a79f7df90b6dae84c997373c74fe4031b07e87ffffea8dc6e4f49c", func := "peatbank/peatbanklaw15.NodeNumbers", spec := "nodeNumbers", inPlace := ["internal/bytealg.Compare", "sync/atomic.LoadUint32", "(*internal/sync.Mutex).Lock", "internal/race.Disable", "sync/atomic.CompareAndSwapInt32", "internal/race.Enable", "internal/race.Acquire", "(*internal/sync.Mutex).lockSlow", "internal/sync.runtime_canSpin", "internal/sync.runtime_doSpin", "internal/sync.throw", "internal/sync.runtime_nanotime", "internal/sync.runtime_SemacquireMutex", "sync/atomic.AddInt32", "(*internal/sync.Mutex).Unlock", "internal/race.ReleaseMerge", "(*internal/sync.Mutex).unlockSlow", "internal/sync.fatal", "internal/sync.runtime_Semrelease", "sync/atomic.StoreUint32"], unfollowed := true, recurses := true, apart := false }
def NodeNumbersSaid : Prop := nodeNumbersRow.holds Tryz.pinned (OpenSpec.ofChange nodeNumbersSpec)

/-- ITS FALSE NEIGHBOUR: 'it returns false'. Refute it at one input. -/
def nodeNumbersWrong : ChangeSpec := { name := "nodeNumbers", fn := fun _ => fun
  | [] => { results := [.lit (.bool false)], args := [] }
  | _ => none }
def NodeNumbersWrongFalsely : Prop := nodeNumbersRow.holds Tryz.pinned (OpenSpec.ofChange nodeNumbersWrong)

/-- 'peatbanklaw17.WalkAll': WHATEVER THE INPUT: true; the input reads as it did. -/
def walkAllSpec : ChangeSpec := { name := "walkAll", fn := fun _ => fun
  | [d] => { results := [.lit (.bool true)], args := [d] }
  | _ => none }
def walkAllRow : OpenClaim := { program := "ytkcpmkeckcnobaagreat", sum := "04201d7a26a79f7df90b6dae84c997373c74fe4031b07e87ffffea8dc6e4f49c", func := "peatbank/peatbanklaw17.WalkAll", spec := "walkAll", inPlace := ["internal/bytealg.Compare", "slices.overlaps[peatbank/api.Entry]", "slices.overlaps[peatbank/api.TreeKey]", "slices.overlaps[peatbank/tree.part]"], unfollowed := true, recurses := true, apart := false }
def WalkAllSaid : Prop := walkAllRow.holds Tryz.pinned (OpenSpec.ofChange walkAllSpec)

/-- ITS FALSE NEIGHBOUR: 'it returns false'. Refute it at one input. -/
def walkAllWrong : ChangeSpec := { name := "walkAll", fn := fun _ => fun
  | [d] => { results := [.lit (.bool false)], args := [d] }
  | _ => none }
def WalkAllWrongFalsely : Prop := walkAllRow.holds Tryz.pinned (OpenSpec.ofChange walkAllWrong)

/-- 'peatbanklaw17.WalkNumbers': WHATEVER THE INPUT: true; the input reads as it did. -/
def walkNumbersSpec : ChangeSpec := { name := "walkNumbers", fn := fun _ => fun
  | [] => { results := [.lit (.bool true)], args := [] }
  | _ => none }
def walkNumbersRow : OpenClaim := { program := "ytkcpmkeckcnobaagreat", sum := "04201d7a26a79f7df90b6dae84c997373c74fe4031b07e87ffffea8dc6e4f49c", func := "peatbank/peatbanklaw17.WalkNumbers", spec := "walkNumbers", inPlace := ["internal/bytealg.Compare", "slices.overlaps[peatbank/api.Entry]", "slices.overlaps[peatbank/api.TreeKey]", "slices.overlaps[peatbank/tree.part]"], unfollowed := true, recurses := true, apart := false }
def WalkNumbersSaid : Prop := walkNumbersRow.holds Tryz.pinned (OpenSpec.ofChange walkNumbersSpec)

/-- ITS FALSE NEIGHBOUR: 'it returns false'. Refute it at one input. -/
def walkNumbersWrong : ChangeSpec := { name := "walkNumbers", fn := fun _ => fun
  | [] => { results := [.lit (.bool false)], args := [] }
  | _ => none }
def WalkNumbersWrongFalsely : Prop := walkNumbersRow.holds Tryz.pinned (OpenSpec.ofChange walkNumbersWrong)

/-- 'peatbanklaw16.TreeApart': WHATEVER THE INPUT: true; the input reads as it did. -/
def treeApartSpec : ChangeSpec := { name := "treeApart", fn := fun _ => fun
  | [d] => { results := [.lit (.bool true)], args := [d] }
  | _ => none }
def treeApartRow : OpenClaim := { program := "ytkcpmkeckcnobaagreat", sum := "04201d7a26a79f7df90b6dae84c997373c74fe4031b07e87ffffea8dc6e4f49c", func := "peatbank/peatbanklaw16.TreeApart", spec := "treeApart", inPlace := ["internal/bytealg.Compare", "slices.overlaps[peatbank/api.Entry]", "slices.overlaps[peatbank/api.TreeKey]", "slices.overlaps[peatbank/tree.part]"], unfollowed := true, recurses := true, apart := false }
def TreeApartSaid : Prop := treeApartRow.holds Tryz.pinned (OpenSpec.ofChange treeApartSpec)

/-- ITS FALSE NEIGHBOUR: 'it returns false'. Refute it at one input. -/
def treeApartWrong : ChangeSpec := { name := "treeApart", fn := fun _ => fun
  | [d] => { results := [.lit (.bool false)], args := [d] }
  | _ => none }
def TreeApartWrongFalsely : Prop := treeApartRow.holds Tryz.pinned (OpenSpec.ofChange treeApartWrong)

/- THE SECOND FORM. 'bulk': how many values and letters a reading holds, each counted each time it is reached (what is shared counts as often as it is met; a slice's spare places count too). A statement '..UptoSaid' is the law's where the arguments, and the package variables that the reading takes, are together of bulk at most 1048576: NARROWER than '..Said'. Prove '..Said' where nothing that the law and all that it calls make is longer than what came in: it says more and counts as full. Else prove '..UptoSaid'. A law counts once. -/
mutual
def uptoBulk {H : Type} : DataW H → Nat
  | .lit (.string bytes) => bytes.length + 1
  | .lit _ => 1
  | .nil => 1
  | .ptr d => uptoBulk d + 1
  | .slice elems spare => uptoBulkAll elems + uptoBulkAll spare + 1
  | .agg parts => uptoBulkAll parts + 1
  | .iface _ d => uptoBulk d + 1
  | .map entries => uptoBulkEntries entries + 1
  | .held _ => 1
def uptoBulkAll {H : Type} : List (DataW H) → Nat
  | [] => 0
  | d :: r => uptoBulk d + uptoBulkAll r
def uptoBulkEntries {H : Type} : List (Lit × DataW H) → Nat
  | [] => 0
  | x :: r => uptoBulkEntry x + uptoBulkEntries r
def uptoBulkEntry {H : Type} : Lit × DataW H → Nat
  | (.string bytes, d) => bytes.length + uptoBulk d + 1
  | (_, d) => uptoBulk d + 1
 end
def uptoSmall : (H : Type) → List (DataW H) → Bool := fun _ ds => decide (uptoBulkAll ds ≤ 1048576)
def OpenSpec.upto (s : _root_.Go.ChangeSpec) : _root_.Go.OpenSpec := { _root_.Go.OpenSpec.ofChange s with cond := some uptoSmall }

/-- 'peatbanklaw15.NodeNumbers', WHERE WHAT IT READS IS OF BULK AT MOST 1048576: true; the input reads as it did. -/
def nodeNumbersUptoRow : OpenClaim := { program := "ytkcpmkeckcnobaagreat", sum := "04201d7a26a79f7df90b6dae84c997373c74fe4031b07e87ffffea8dc6e4f49c", func := "peatbank/peatbanklaw15.NodeNumbers", spec := "nodeNumbers", inPlace := ["internal/bytealg.Compare", "sync/atomic.LoadUint32", "(*internal/sync.Mutex).Lock", "internal/race.Disable", "sync/atomic.CompareAndSwapInt32", "internal/race.Enable", "internal/race.Acquire", "(*internal/sync.Mutex).lockSlow", "internal/sync.runtime_canSpin", "internal/sync.runtime_doSpin", "internal/sync.throw", "internal/sync.runtime_nanotime", "internal/sync.runtime_SemacquireMutex", "sync/atomic.AddInt32", "(*internal/sync.Mutex).Unlock", "internal/race.ReleaseMerge", "(*internal/sync.Mutex).unlockSlow", "internal/sync.fatal", "internal/sync.runtime_Semrelease", "sync/atomic.StoreUint32"], unfollowed := true, recurses := true, apart := false, narrowed := true }
def NodeNumbersUptoSaid : Prop := nodeNumbersUptoRow.holds Tryz.pinned (OpenSpec.upto nodeNumbersSpec)

/-- 'peatbanklaw17.WalkAll', WHERE WHAT IT READS IS OF BULK AT MOST 1048576: true; the input reads as it did. -/
def walkAllUptoRow : OpenClaim := { program := "ytkcpmkeckcnobaagreat", sum := "04201d7a26a79f7df90b6dae84c997373c74fe4031b07e87ffffea8dc6e4f49c", func := "peatbank/peatbanklaw17.WalkAll", spec := "walkAll", inPlace := ["internal/bytealg.Compare", "slices.overlaps[peatbank/api.Entry]", "slices.overlaps[peatbank/api.TreeKey]", "slices.overlaps[peatbank/tree.part]"], unfollowed := true, recurses := true, apart := false, narrowed := true }
def WalkAllUptoSaid : Prop := walkAllUptoRow.holds Tryz.pinned (OpenSpec.upto walkAllSpec)

/-- 'peatbanklaw17.WalkNumbers', WHERE WHAT IT READS IS OF BULK AT MOST 1048576: true; the input reads as it did. -/
def walkNumbersUptoRow : OpenClaim := { program := "ytkcpmkeckcnobaagreat", sum := "04201d7a26a79f7df90b6dae84c997373c74fe4031b07e87ffffea8dc6e4f49c", func := "peatbank/peatbanklaw17.WalkNumbers", spec := "walkNumbers", inPlace := ["internal/bytealg.Compare", "slices.overlaps[peatbank/api.Entry]", "slices.overlaps[peatbank/api.TreeKey]", "slices.overlaps[peatbank/tree.part]"], unfollowed := true, recurses := true, apart := false, narrowed := true }
def WalkNumbersUptoSaid : Prop := walkNumbersUptoRow.holds Tryz.pinned (OpenSpec.upto walkNumbersSpec)

/-- 'peatbanklaw16.TreeApart', WHERE WHAT IT READS IS OF BULK AT MOST 1048576: true; the input reads as it did. -/
def treeApartUptoRow : OpenClaim := { program := "ytkcpmkeckcnobaagreat", sum := "04201d7a26a79f7df90b6dae84c997373c74fe4031b07e87ffffea8dc6e4f49c", func := "peatbank/peatbanklaw16.TreeApart", spec := "treeApart", inPlace := ["internal/bytealg.Compare", "slices.overlaps[peatbank/api.Entry]", "slices.overlaps[peatbank/api.TreeKey]", "slices.overlaps[peatbank/tree.part]"], unfollowed := true, recurses := true, apart := false, narrowed := true }
def TreeApartUptoSaid : Prop := treeApartUptoRow.holds Tryz.pinned (OpenSpec.upto treeApartSpec)

end Rows
end Go.Proofs.YtkcpmkeckcnobaaGreat
