/-
  No cell of these rows narrows 'for every input' (looked for: loops, veiled, ifaces, maps, wideKeys, modest, calm, conditions, laid).
  DERIVED. THE GIVEN ROWS OF THIS SEAT. 14 by the template 'for every input the law returns true; each argument reads behind the call as it read before'; 0 by the template 'total and deterministic' (their statements: YtfdiedcleggfnaaTotals.lean).
  GIVEN WITH THE SEED: the statements are not yours to turn. If you find one false, say at which input.
  Laid BY PROGRAM, IN A SANDBOX (cutbox-rows.mjs): the forced cells as the released guide's own fill.sh prints them over the translation 8fa7a0e7dae4849a… (all of the seat's roots in one cut). By AI agents, Wed Nov 11 2026. No macro, syntax, notation, axiom, sorry.
-/
import Derived.Test.YtfdiedcleggfnaaChecked
import GoSem.Claim
import GoSem.ClaimJoined
import GoSem.ClaimMapViews
import Derived.JoinedTies
import Derived.KernelRfl
namespace Go.Proofs.Ytfdiedcleggfnaa
/- THE CELL 'sum', in the pinned program and in every row, IS THE sha256 OF THE DUMP (.gsa) THAT YtfdiedcleggfnaaProg.lean LOADS. Nothing in Lean hashes anything: it is a label: what it is worth is what the hold of that sum in a sandbox is worth. -/
noncomputable def Try.pinned : Pinned := { name := "ytfdiedcleggfnaa", sum := "8fa7a0e7dae4849a7b131637ab18de9b0970a0e3c5f75fe125dd85ff0c76cd5e", checked := Try.checked }
namespace Rows
def none {H : Type} : Left H := { results := [], args := [] }

/-- 'concordlaw11.DvvBytes': WHATEVER THE INPUT: true; the input reads as it did. -/
def dvvBytesSpec : ChangeSpec := { name := "dvvBytes", fn := fun _ => fun
  | [d1, d2] => { results := [.lit (.bool true)], args := [d1, d2] }
  | _ => none }
def dvvBytesRow : OpenClaim := { program := "ytfdiedcleggfnaa", sum := "8fa7a0e7dae4849a7b131637ab18de9b0970a0e3c5f75fe125dd85ff0c76cd5e", func := "concord/concordlaw11.DvvBytes", spec := "dvvBytes", unfollowed := true, recurses := true, apart := false }
def DvvBytesSaid : Prop := dvvBytesRow.holds Try.pinned (OpenSpec.ofChange dvvBytesSpec)

/-- ITS FALSE NEIGHBOUR: 'it returns false'. Refute it at one input. -/
def dvvBytesWrong : ChangeSpec := { name := "dvvBytes", fn := fun _ => fun
  | [d1, d2] => { results := [.lit (.bool false)], args := [d1, d2] }
  | _ => none }
def DvvBytesWrongFalsely : Prop := dvvBytesRow.holds Try.pinned (OpenSpec.ofChange dvvBytesWrong)

/-- 'concordlaw13.ObjectPuts': WHATEVER THE INPUT: true; the input reads as it did. -/
def objectPutsSpec : ChangeSpec := { name := "objectPuts", fn := fun _ => fun
  | [d1, d2] => { results := [.lit (.bool true)], args := [d1, d2] }
  | _ => none }
def objectPutsRow : OpenClaim := { program := "ytfdiedcleggfnaa", sum := "8fa7a0e7dae4849a7b131637ab18de9b0970a0e3c5f75fe125dd85ff0c76cd5e", func := "concord/concordlaw13.ObjectPuts", spec := "objectPuts", unfollowed := true, recurses := true, apart := false }
def ObjectPutsSaid : Prop := objectPutsRow.holds Try.pinned (OpenSpec.ofChange objectPutsSpec)

/-- ITS FALSE NEIGHBOUR: 'it returns false'. Refute it at one input. -/
def objectPutsWrong : ChangeSpec := { name := "objectPuts", fn := fun _ => fun
  | [d1, d2] => { results := [.lit (.bool false)], args := [d1, d2] }
  | _ => none }
def ObjectPutsWrongFalsely : Prop := objectPutsRow.holds Try.pinned (OpenSpec.ofChange objectPutsWrong)

/-- 'concordlaw13.ObjectCells': WHATEVER THE INPUT: true; the input reads as it did. -/
def objectCellsSpec : ChangeSpec := { name := "objectCells", fn := fun _ => fun
  | [d] => { results := [.lit (.bool true)], args := [d] }
  | _ => none }
def objectCellsRow : OpenClaim := { program := "ytfdiedcleggfnaa", sum := "8fa7a0e7dae4849a7b131637ab18de9b0970a0e3c5f75fe125dd85ff0c76cd5e", func := "concord/concordlaw13.ObjectCells", spec := "objectCells", unfollowed := true, recurses := true, apart := false }
def ObjectCellsSaid : Prop := objectCellsRow.holds Try.pinned (OpenSpec.ofChange objectCellsSpec)

/-- ITS FALSE NEIGHBOUR: 'it returns false'. Refute it at one input. -/
def objectCellsWrong : ChangeSpec := { name := "objectCells", fn := fun _ => fun
  | [d] => { results := [.lit (.bool false)], args := [d] }
  | _ => none }
def ObjectCellsWrongFalsely : Prop := objectCellsRow.holds Try.pinned (OpenSpec.ofChange objectCellsWrong)

/-- 'concordlaw13.ObjectAsks': WHATEVER THE INPUT: true; the input reads as it did. -/
def objectAsksSpec : ChangeSpec := { name := "objectAsks", fn := fun _ => fun
  | [d1, d2, d3] => { results := [.lit (.bool true)], args := [d1, d2, d3] }
  | _ => none }
def objectAsksRow : OpenClaim := { program := "ytfdiedcleggfnaa", sum := "8fa7a0e7dae4849a7b131637ab18de9b0970a0e3c5f75fe125dd85ff0c76cd5e", func := "concord/concordlaw13.ObjectAsks", spec := "objectAsks", unfollowed := true, recurses := true, apart := false }
def ObjectAsksSaid : Prop := objectAsksRow.holds Try.pinned (OpenSpec.ofChange objectAsksSpec)

/-- ITS FALSE NEIGHBOUR: 'it returns false'. Refute it at one input. -/
def objectAsksWrong : ChangeSpec := { name := "objectAsks", fn := fun _ => fun
  | [d1, d2, d3] => { results := [.lit (.bool false)], args := [d1, d2, d3] }
  | _ => none }
def ObjectAsksWrongFalsely : Prop := objectAsksRow.holds Try.pinned (OpenSpec.ofChange objectAsksWrong)

/-- 'concordlaw15.TreeEach': WHATEVER THE INPUT: true; the input reads as it did. -/
def treeEachSpec : ChangeSpec := { name := "treeEach", fn := fun _ => fun
  | [d1, d2, d3] => { results := [.lit (.bool true)], args := [d1, d2, d3] }
  | _ => none }
def treeEachRow : OpenClaim := { program := "ytfdiedcleggfnaa", sum := "8fa7a0e7dae4849a7b131637ab18de9b0970a0e3c5f75fe125dd85ff0c76cd5e", func := "concord/concordlaw15.TreeEach", spec := "treeEach", unfollowed := true, recurses := true, apart := false }
def TreeEachSaid : Prop := treeEachRow.holds Try.pinned (OpenSpec.ofChange treeEachSpec)

/-- ITS FALSE NEIGHBOUR: 'it returns false'. Refute it at one input. -/
def treeEachWrong : ChangeSpec := { name := "treeEach", fn := fun _ => fun
  | [d1, d2, d3] => { results := [.lit (.bool false)], args := [d1, d2, d3] }
  | _ => none }
def TreeEachWrongFalsely : Prop := treeEachRow.holds Try.pinned (OpenSpec.ofChange treeEachWrong)

/-- 'concordlaw15.TreeDiffers': WHATEVER THE INPUT: true; the input reads as it did. -/
def treeDiffersSpec : ChangeSpec := { name := "treeDiffers", fn := fun _ => fun
  | [d1, d2, d3] => { results := [.lit (.bool true)], args := [d1, d2, d3] }
  | _ => none }
def treeDiffersRow : OpenClaim := { program := "ytfdiedcleggfnaa", sum := "8fa7a0e7dae4849a7b131637ab18de9b0970a0e3c5f75fe125dd85ff0c76cd5e", func := "concord/concordlaw15.TreeDiffers", spec := "treeDiffers", unfollowed := true, recurses := true, apart := false }
def TreeDiffersSaid : Prop := treeDiffersRow.holds Try.pinned (OpenSpec.ofChange treeDiffersSpec)

/-- ITS FALSE NEIGHBOUR: 'it returns false'. Refute it at one input. -/
def treeDiffersWrong : ChangeSpec := { name := "treeDiffers", fn := fun _ => fun
  | [d1, d2, d3] => { results := [.lit (.bool false)], args := [d1, d2, d3] }
  | _ => none }
def TreeDiffersWrongFalsely : Prop := treeDiffersRow.holds Try.pinned (OpenSpec.ofChange treeDiffersWrong)

/-- 'concordlaw15.TreeSums': WHATEVER THE INPUT: true; the input reads as it did. -/
def treeSumsSpec : ChangeSpec := { name := "treeSums", fn := fun _ => fun
  | [d1, d2, d3] => { results := [.lit (.bool true)], args := [d1, d2, d3] }
  | _ => none }
def treeSumsRow : OpenClaim := { program := "ytfdiedcleggfnaa", sum := "8fa7a0e7dae4849a7b131637ab18de9b0970a0e3c5f75fe125dd85ff0c76cd5e", func := "concord/concordlaw15.TreeSums", spec := "treeSums", unfollowed := true, recurses := true, apart := false }
def TreeSumsSaid : Prop := treeSumsRow.holds Try.pinned (OpenSpec.ofChange treeSumsSpec)

/-- ITS FALSE NEIGHBOUR: 'it returns false'. Refute it at one input. -/
def treeSumsWrong : ChangeSpec := { name := "treeSums", fn := fun _ => fun
  | [d1, d2, d3] => { results := [.lit (.bool false)], args := [d1, d2, d3] }
  | _ => none }
def TreeSumsWrongFalsely : Prop := treeSumsRow.holds Try.pinned (OpenSpec.ofChange treeSumsWrong)

/-- 'concordlaw15.TreeClash': WHATEVER THE INPUT: true; the input reads as it did. -/
def treeClashSpec : ChangeSpec := { name := "treeClash", fn := fun _ => fun
  | [d1, d2, d3] => { results := [.lit (.bool true)], args := [d1, d2, d3] }
  | _ => none }
def treeClashRow : OpenClaim := { program := "ytfdiedcleggfnaa", sum := "8fa7a0e7dae4849a7b131637ab18de9b0970a0e3c5f75fe125dd85ff0c76cd5e", func := "concord/concordlaw15.TreeClash", spec := "treeClash", unfollowed := true, recurses := true, apart := false }
def TreeClashSaid : Prop := treeClashRow.holds Try.pinned (OpenSpec.ofChange treeClashSpec)

/-- ITS FALSE NEIGHBOUR: 'it returns false'. Refute it at one input. -/
def treeClashWrong : ChangeSpec := { name := "treeClash", fn := fun _ => fun
  | [d1, d2, d3] => { results := [.lit (.bool false)], args := [d1, d2, d3] }
  | _ => none }
def TreeClashWrongFalsely : Prop := treeClashRow.holds Try.pinned (OpenSpec.ofChange treeClashWrong)

/-- 'concordlaw31.WitnessJoins': WHATEVER THE INPUT: true; the input reads as it did. -/
def witnessJoinsSpec : ChangeSpec := { name := "witnessJoins", fn := fun _ => fun
  | [d1, d2] => { results := [.lit (.bool true)], args := [d1, d2] }
  | _ => none }
def witnessJoinsRow : OpenClaim := { program := "ytfdiedcleggfnaa", sum := "8fa7a0e7dae4849a7b131637ab18de9b0970a0e3c5f75fe125dd85ff0c76cd5e", func := "concord/concordlaw31.WitnessJoins", spec := "witnessJoins", inPlace := ["internal/bytealg.abigen_runtime_cmpstring"], unfollowed := true, recurses := true, apart := false }
def WitnessJoinsSaid : Prop := witnessJoinsRow.holds Try.pinned (OpenSpec.ofChange witnessJoinsSpec)

/-- ITS FALSE NEIGHBOUR: 'it returns false'. Refute it at one input. -/
def witnessJoinsWrong : ChangeSpec := { name := "witnessJoins", fn := fun _ => fun
  | [d1, d2] => { results := [.lit (.bool false)], args := [d1, d2] }
  | _ => none }
def WitnessJoinsWrongFalsely : Prop := witnessJoinsRow.holds Try.pinned (OpenSpec.ofChange witnessJoinsWrong)

/-- 'concordlaw15.TreeBuilds': WHATEVER THE INPUT: true; the input reads as it did. -/
def treeBuildsSpec : ChangeSpec := { name := "treeBuilds", fn := fun _ => fun
  | [d1, d2, d3] => { results := [.lit (.bool true)], args := [d1, d2, d3] }
  | _ => none }
def treeBuildsRow : OpenClaim := { program := "ytfdiedcleggfnaa", sum := "8fa7a0e7dae4849a7b131637ab18de9b0970a0e3c5f75fe125dd85ff0c76cd5e", func := "concord/concordlaw15.TreeBuilds", spec := "treeBuilds", unfollowed := true, recurses := true, apart := false }
def TreeBuildsSaid : Prop := treeBuildsRow.holds Try.pinned (OpenSpec.ofChange treeBuildsSpec)

/-- ITS FALSE NEIGHBOUR: 'it returns false'. Refute it at one input. -/
def treeBuildsWrong : ChangeSpec := { name := "treeBuilds", fn := fun _ => fun
  | [d1, d2, d3] => { results := [.lit (.bool false)], args := [d1, d2, d3] }
  | _ => none }
def TreeBuildsWrongFalsely : Prop := treeBuildsRow.holds Try.pinned (OpenSpec.ofChange treeBuildsWrong)

/-- 'concordlaw15.TreeBack': WHATEVER THE INPUT: true; the input reads as it did. -/
def treeBackSpec : ChangeSpec := { name := "treeBack", fn := fun _ => fun
  | [d1, d2, d3] => { results := [.lit (.bool true)], args := [d1, d2, d3] }
  | _ => none }
def treeBackRow : OpenClaim := { program := "ytfdiedcleggfnaa", sum := "8fa7a0e7dae4849a7b131637ab18de9b0970a0e3c5f75fe125dd85ff0c76cd5e", func := "concord/concordlaw15.TreeBack", spec := "treeBack", unfollowed := true, recurses := true, apart := false }
def TreeBackSaid : Prop := treeBackRow.holds Try.pinned (OpenSpec.ofChange treeBackSpec)

/-- ITS FALSE NEIGHBOUR: 'it returns false'. Refute it at one input. -/
def treeBackWrong : ChangeSpec := { name := "treeBack", fn := fun _ => fun
  | [d1, d2, d3] => { results := [.lit (.bool false)], args := [d1, d2, d3] }
  | _ => none }
def TreeBackWrongFalsely : Prop := treeBackRow.holds Try.pinned (OpenSpec.ofChange treeBackWrong)

/-- 'concordlaw13.ObjectOrder': WHATEVER THE INPUT: true; the input reads as it did. -/
def objectOrderSpec : ChangeSpec := { name := "objectOrder", fn := fun _ => fun
  | [d1, d2] => { results := [.lit (.bool true)], args := [d1, d2] }
  | _ => none }
def objectOrderRow : OpenClaim := { program := "ytfdiedcleggfnaa", sum := "8fa7a0e7dae4849a7b131637ab18de9b0970a0e3c5f75fe125dd85ff0c76cd5e", func := "concord/concordlaw13.ObjectOrder", spec := "objectOrder", unfollowed := true, recurses := true, apart := false }
def ObjectOrderSaid : Prop := objectOrderRow.holds Try.pinned (OpenSpec.ofChange objectOrderSpec)

/-- ITS FALSE NEIGHBOUR: 'it returns false'. Refute it at one input. -/
def objectOrderWrong : ChangeSpec := { name := "objectOrder", fn := fun _ => fun
  | [d1, d2] => { results := [.lit (.bool false)], args := [d1, d2] }
  | _ => none }
def ObjectOrderWrongFalsely : Prop := objectOrderRow.holds Try.pinned (OpenSpec.ofChange objectOrderWrong)

/-- 'concordlaw13.ObjectBack': WHATEVER THE INPUT: true; the input reads as it did. -/
def objectBackSpec : ChangeSpec := { name := "objectBack", fn := fun _ => fun
  | [d1, d2] => { results := [.lit (.bool true)], args := [d1, d2] }
  | _ => none }
def objectBackRow : OpenClaim := { program := "ytfdiedcleggfnaa", sum := "8fa7a0e7dae4849a7b131637ab18de9b0970a0e3c5f75fe125dd85ff0c76cd5e", func := "concord/concordlaw13.ObjectBack", spec := "objectBack", unfollowed := true, recurses := true, apart := false }
def ObjectBackSaid : Prop := objectBackRow.holds Try.pinned (OpenSpec.ofChange objectBackSpec)

/-- ITS FALSE NEIGHBOUR: 'it returns false'. Refute it at one input. -/
def objectBackWrong : ChangeSpec := { name := "objectBack", fn := fun _ => fun
  | [d1, d2] => { results := [.lit (.bool false)], args := [d1, d2] }
  | _ => none }
def ObjectBackWrongFalsely : Prop := objectBackRow.holds Try.pinned (OpenSpec.ofChange objectBackWrong)

/-- 'concordlaw16.SketchOne': WHATEVER THE INPUT: true; the input reads as it did. -/
def sketchOneSpec : ChangeSpec := { name := "sketchOne", fn := fun _ => fun
  | [d1, d2, d3] => { results := [.lit (.bool true)], args := [d1, d2, d3] }
  | _ => none }
def sketchOneRow : OpenClaim := { program := "ytfdiedcleggfnaa", sum := "8fa7a0e7dae4849a7b131637ab18de9b0970a0e3c5f75fe125dd85ff0c76cd5e", func := "concord/concordlaw16.SketchOne", spec := "sketchOne", recurses := true, apart := false }
def SketchOneSaid : Prop := sketchOneRow.holds Try.pinned (OpenSpec.ofChange sketchOneSpec)

/-- ITS FALSE NEIGHBOUR: 'it returns false'. Refute it at one input. -/
def sketchOneWrong : ChangeSpec := { name := "sketchOne", fn := fun _ => fun
  | [d1, d2, d3] => { results := [.lit (.bool false)], args := [d1, d2, d3] }
  | _ => none }
def SketchOneWrongFalsely : Prop := sketchOneRow.holds Try.pinned (OpenSpec.ofChange sketchOneWrong)

/- THE SECOND FORM. 'bulk': how many values and letters a reading holds, each counted each time it is reached (what is shared counts as often as it is met; a slice's spare places count too). A statement '..UptoSaid' is the law's where the arguments, and the package variables that the reading takes, are together of bulk at most 1048576: NARROWER than '..Said'. Prove '..Said' where nothing that the law and all that it calls make is longer than what came in: it says more and counts as full. Else prove '..UptoSaid'. A law counts once. -/
mutual
def uptoBulk {H : Type} : DataW H → Nat
  | .lit (.string bytes) => bytes.length + 1
  | .lit _ => 1
  | .nil => 1
  | .ptr d => uptoBulk d + 1
  | .slice elems spare => uptoBulkAll elems + uptoBulkAll spare + 1
  | .agg parts => uptoBulkAll parts + 1
  | .iface _ d => uptoBulk d + 1
  | .map entries => uptoBulkEntries entries + 1
  | .held _ => 1
def uptoBulkAll {H : Type} : List (DataW H) → Nat
  | [] => 0
  | d :: r => uptoBulk d + uptoBulkAll r
def uptoBulkEntries {H : Type} : List (Lit × DataW H) → Nat
  | [] => 0
  | x :: r => uptoBulkEntry x + uptoBulkEntries r
def uptoBulkEntry {H : Type} : Lit × DataW H → Nat
  | (.string bytes, d) => bytes.length + uptoBulk d + 1
  | (_, d) => uptoBulk d + 1
 end
def uptoSmall : (H : Type) → List (DataW H) → Bool := fun _ ds => decide (uptoBulkAll ds ≤ 1048576)
def OpenSpec.upto (s : _root_.Go.ChangeSpec) : _root_.Go.OpenSpec := { _root_.Go.OpenSpec.ofChange s with cond := some uptoSmall }

/-- 'concordlaw11.DvvBytes', WHERE WHAT IT READS IS OF BULK AT MOST 1048576: true; the input reads as it did. -/
def dvvBytesUptoRow : OpenClaim := { program := "ytfdiedcleggfnaa", sum := "8fa7a0e7dae4849a7b131637ab18de9b0970a0e3c5f75fe125dd85ff0c76cd5e", func := "concord/concordlaw11.DvvBytes", spec := "dvvBytes", unfollowed := true, recurses := true, apart := false, narrowed := true }
def DvvBytesUptoSaid : Prop := dvvBytesUptoRow.holds Try.pinned (OpenSpec.upto dvvBytesSpec)

/-- 'concordlaw13.ObjectPuts', WHERE WHAT IT READS IS OF BULK AT MOST 1048576: true; the input reads as it did. -/
def objectPutsUptoRow : OpenClaim := { program := "ytfdiedcleggfnaa", sum := "8fa7a0e7dae4849a7b131637ab18de9b0970a0e3c5f75fe125dd85ff0c76cd5e", func := "concord/concordlaw13.ObjectPuts", spec := "objectPuts", unfollowed := true, recurses := true, apart := false, narrowed := true }
def ObjectPutsUptoSaid : Prop := objectPutsUptoRow.holds Try.pinned (OpenSpec.upto objectPutsSpec)

/-- 'concordlaw13.ObjectCells', WHERE WHAT IT READS IS OF BULK AT MOST 1048576: true; the input reads as it did. -/
def objectCellsUptoRow : OpenClaim := { program := "ytfdiedcleggfnaa", sum := "8fa7a0e7dae4849a7b131637ab18de9b0970a0e3c5f75fe125dd85ff0c76cd5e", func := "concord/concordlaw13.ObjectCells", spec := "objectCells", unfollowed := true, recurses := true, apart := false, narrowed := true }
def ObjectCellsUptoSaid : Prop := objectCellsUptoRow.holds Try.pinned (OpenSpec.upto objectCellsSpec)

/-- 'concordlaw13.ObjectAsks', WHERE WHAT IT READS IS OF BULK AT MOST 1048576: true; the input reads as it did. -/
def objectAsksUptoRow : OpenClaim := { program := "ytfdiedcleggfnaa", sum := "8fa7a0e7dae4849a7b131637ab18de9b0970a0e3c5f75fe125dd85ff0c76cd5e", func := "concord/concordlaw13.ObjectAsks", spec := "objectAsks", unfollowed := true, recurses := true, apart := false, narrowed := true }
def ObjectAsksUptoSaid : Prop := objectAsksUptoRow.holds Try.pinned (OpenSpec.upto objectAsksSpec)

/-- 'concordlaw15.TreeEach', WHERE WHAT IT READS IS OF BULK AT MOST 1048576: true; the input reads as it did. -/
def treeEachUptoRow : OpenClaim := { program := "ytfdiedcleggfnaa", sum := "8fa7a0e7dae4849a7b131637ab18de9b0970a0e3c5f75fe125dd85ff0c76cd5e", func := "concord/concordlaw15.TreeEach", spec := "treeEach", unfollowed := true, recurses := true, apart := false, narrowed := true }
def TreeEachUptoSaid : Prop := treeEachUptoRow.holds Try.pinned (OpenSpec.upto treeEachSpec)

/-- 'concordlaw15.TreeDiffers', WHERE WHAT IT READS IS OF BULK AT MOST 1048576: true; the input reads as it did. -/
def treeDiffersUptoRow : OpenClaim := { program := "ytfdiedcleggfnaa", sum := "8fa7a0e7dae4849a7b131637ab18de9b0970a0e3c5f75fe125dd85ff0c76cd5e", func := "concord/concordlaw15.TreeDiffers", spec := "treeDiffers", unfollowed := true, recurses := true, apart := false, narrowed := true }
def TreeDiffersUptoSaid : Prop := treeDiffersUptoRow.holds Try.pinned (OpenSpec.upto treeDiffersSpec)

/-- 'concordlaw15.TreeSums', WHERE WHAT IT READS IS OF BULK AT MOST 1048576: true; the input reads as it did. -/
def treeSumsUptoRow : OpenClaim := { program := "ytfdiedcleggfnaa", sum := "8fa7a0e7dae4849a7b131637ab18de9b0970a0e3c5f75fe125dd85ff0c76cd5e", func := "concord/concordlaw15.TreeSums", spec := "treeSums", unfollowed := true, recurses := true, apart := false, narrowed := true }
def TreeSumsUptoSaid : Prop := treeSumsUptoRow.holds Try.pinned (OpenSpec.upto treeSumsSpec)

/-- 'concordlaw15.TreeClash', WHERE WHAT IT READS IS OF BULK AT MOST 1048576: true; the input reads as it did. -/
def treeClashUptoRow : OpenClaim := { program := "ytfdiedcleggfnaa", sum := "8fa7a0e7dae4849a7b131637ab18de9b0970a0e3c5f75fe125dd85ff0c76cd5e", func := "concord/concordlaw15.TreeClash", spec := "treeClash", unfollowed := true, recurses := true, apart := false, narrowed := true }
def TreeClashUptoSaid : Prop := treeClashUptoRow.holds Try.pinned (OpenSpec.upto treeClashSpec)

/-- 'concordlaw31.WitnessJoins', WHERE WHAT IT READS IS OF BULK AT MOST 1048576: true; the input reads as it did. -/
def witnessJoinsUptoRow : OpenClaim := { program := "ytfdiedcleggfnaa", sum := "8fa7a0e7dae4849a7b131637ab18de9b0970a0e3c5f75fe125dd85ff0c76cd5e", func := "concord/concordlaw31.WitnessJoins", spec := "witnessJoins", inPlace := ["internal/bytealg.abigen_runtime_cmpstring"], unfollowed := true, recurses := true, apart := false, narrowed := true }
def WitnessJoinsUptoSaid : Prop := witnessJoinsUptoRow.holds Try.pinned (OpenSpec.upto witnessJoinsSpec)

/-- 'concordlaw15.TreeBuilds', WHERE WHAT IT READS IS OF BULK AT MOST 1048576: true; the input reads as it did. -/
def treeBuildsUptoRow : OpenClaim := { program := "ytfdiedcleggfnaa", sum := "8fa7a0e7dae4849a7b131637ab18de9b0970a0e3c5f75fe125dd85ff0c76cd5e", func := "concord/concordlaw15.TreeBuilds", spec := "treeBuilds", unfollowed := true, recurses := true, apart := false, narrowed := true }
def TreeBuildsUptoSaid : Prop := treeBuildsUptoRow.holds Try.pinned (OpenSpec.upto treeBuildsSpec)

/-- 'concordlaw15.TreeBack', WHERE WHAT IT READS IS OF BULK AT MOST 1048576: true; the input reads as it did. -/
def treeBackUptoRow : OpenClaim := { program := "ytfdiedcleggfnaa", sum := "8fa7a0e7dae4849a7b131637ab18de9b0970a0e3c5f75fe125dd85ff0c76cd5e", func := "concord/concordlaw15.TreeBack", spec := "treeBack", unfollowed := true, recurses := true, apart := false, narrowed := true }
def TreeBackUptoSaid : Prop := treeBackUptoRow.holds Try.pinned (OpenSpec.upto treeBackSpec)

/-- 'concordlaw13.ObjectOrder', WHERE WHAT IT READS IS OF BULK AT MOST 1048576: true; the input reads as it did. -/
def objectOrderUptoRow : OpenClaim := { program := "ytfdiedcleggfnaa", sum := "8fa7a0e7dae4849a7b131637ab18de9b0970a0e3c5f75fe125dd85ff0c76cd5e", func := "concord/concordlaw13.ObjectOrder", spec := "objectOrder", unfollowed := true, recurses := true, apart := false, narrowed := true }
def ObjectOrderUptoSaid : Prop := objectOrderUptoRow.holds Try.pinned (OpenSpec.upto objectOrderSpec)

/-- 'concordlaw13.ObjectBack', WHERE WHAT IT READS IS OF BULK AT MOST 1048576: true; the input reads as it did. -/
def objectBackUptoRow : OpenClaim := { program := "ytfdiedcleggfnaa", sum := "8fa7a0e7dae4849a7b131637ab18de9b0970a0e3c5f75fe125dd85ff0c76cd5e", func := "concord/concordlaw13.ObjectBack", spec := "objectBack", unfollowed := true, recurses := true, apart := false, narrowed := true }
def ObjectBackUptoSaid : Prop := objectBackUptoRow.holds Try.pinned (OpenSpec.upto objectBackSpec)

/-- 'concordlaw16.SketchOne', WHERE WHAT IT READS IS OF BULK AT MOST 1048576: true; the input reads as it did. -/
def sketchOneUptoRow : OpenClaim := { program := "ytfdiedcleggfnaa", sum := "8fa7a0e7dae4849a7b131637ab18de9b0970a0e3c5f75fe125dd85ff0c76cd5e", func := "concord/concordlaw16.SketchOne", spec := "sketchOne", recurses := true, apart := false, narrowed := true }
def SketchOneUptoSaid : Prop := sketchOneUptoRow.holds Try.pinned (OpenSpec.upto sketchOneSpec)

end Rows
end Go.Proofs.Ytfdiedcleggfnaa
