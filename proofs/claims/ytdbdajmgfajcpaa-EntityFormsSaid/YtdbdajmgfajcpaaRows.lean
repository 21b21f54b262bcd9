/-
  No cell of these rows narrows 'for every input' (looked for: loops, veiled, ifaces, maps, wideKeys, modest, calm, conditions, laid).
  DERIVED. THE GIVEN ROWS OF THIS SEAT. 8 by the template 'for every input the law returns true; each argument reads behind the call as it read before'; 0 by the template 'total and deterministic' (their statements: YtdbdajmgfajcpaaTotals.lean).
  GIVEN WITH THE SEED: the statements are not yours to turn. If you find one false, say at which input.
  Laid BY PROGRAM, IN A SANDBOX (cutbox-rows.mjs): the forced cells as the released guide's own fill.sh prints them over the translation a7d5171fc04616f4… (all of the seat's roots in one cut). By AI agents, Wed Nov 11 2026. No macro, syntax, notation, axiom, sorry.
-/
import Derived.Test.YtdbdajmgfajcpaaChecked
import GoSem.Claim
import GoSem.ClaimJoined
import GoSem.ClaimMapViews
import Derived.JoinedTies
import Derived.KernelRfl
namespace Go.Proofs.Ytdbdajmgfajcpaa
/- THE CELL 'sum', in the pinned program and in every row, IS THE sha256 OF THE DUMP (.gsa) THAT YtdbdajmgfajcpaaProg.lean LOADS. Nothing in Lean hashes anything: it is a label: what it is worth is what the hold of that sum in a sandbox is worth. -/
noncomputable def Try.pinned : Pinned := { name := "ytdbdajmgfajcpaa", sum := "a7d5171fc04616f46275f94e78523396a5a6aa5221a472a36d94a137e3a025f5", checked := Try.checked }
namespace Rows
def none {H : Type} : Left H := { results := [], args := [] }

/-- 'conductorlaw15.EntityIndexes': WHATEVER THE INPUT: true; the input reads as it did. -/
def entityIndexesSpec : ChangeSpec := { name := "entityIndexes", fn := fun _ => fun
  | [d1, d2, d3, d4] => { results := [.lit (.bool true)], args := [d1, d2, d3, d4] }
  | _ => none }
def entityIndexesRow : OpenClaim := { program := "ytdbdajmgfajcpaa", sum := "a7d5171fc04616f46275f94e78523396a5a6aa5221a472a36d94a137e3a025f5", func := "conductor/conductorlaw15.EntityIndexes", spec := "entityIndexes", apart := false }
def EntityIndexesSaid : Prop := entityIndexesRow.holds Try.pinned (OpenSpec.ofChange entityIndexesSpec)

/-- ITS FALSE NEIGHBOUR: 'it returns false'. Refute it at one input. -/
def entityIndexesWrong : ChangeSpec := { name := "entityIndexes", fn := fun _ => fun
  | [d1, d2, d3, d4] => { results := [.lit (.bool false)], args := [d1, d2, d3, d4] }
  | _ => none }
def EntityIndexesWrongFalsely : Prop := entityIndexesRow.holds Try.pinned (OpenSpec.ofChange entityIndexesWrong)

/-- 'conductorlaw15.EntityUnder': WHATEVER THE INPUT: true; the input reads as it did. -/
def entityUnderSpec : ChangeSpec := { name := "entityUnder", fn := fun _ => fun
  | [d1, d2, d3] => { results := [.lit (.bool true)], args := [d1, d2, d3] }
  | _ => none }
def entityUnderRow : OpenClaim := { program := "ytdbdajmgfajcpaa", sum := "a7d5171fc04616f46275f94e78523396a5a6aa5221a472a36d94a137e3a025f5", func := "conductor/conductorlaw15.EntityUnder", spec := "entityUnder", apart := false }
def EntityUnderSaid : Prop := entityUnderRow.holds Try.pinned (OpenSpec.ofChange entityUnderSpec)

/-- ITS FALSE NEIGHBOUR: 'it returns false'. Refute it at one input. -/
def entityUnderWrong : ChangeSpec := { name := "entityUnder", fn := fun _ => fun
  | [d1, d2, d3] => { results := [.lit (.bool false)], args := [d1, d2, d3] }
  | _ => none }
def EntityUnderWrongFalsely : Prop := entityUnderRow.holds Try.pinned (OpenSpec.ofChange entityUnderWrong)

/-- 'conductorlaw15.EntityIndex': WHATEVER THE INPUT: true; the input reads as it did. -/
def entityIndexSpec : ChangeSpec := { name := "entityIndex", fn := fun _ => fun
  | [d1, d2, d3, d4, d5, d6, d7, d8] => { results := [.lit (.bool true)], args := [d1, d2, d3, d4, d5, d6, d7, d8] }
  | _ => none }
def entityIndexRow : OpenClaim := { program := "ytdbdajmgfajcpaa", sum := "a7d5171fc04616f46275f94e78523396a5a6aa5221a472a36d94a137e3a025f5", func := "conductor/conductorlaw15.EntityIndex", spec := "entityIndex", apart := false }
def EntityIndexSaid : Prop := entityIndexRow.holds Try.pinned (OpenSpec.ofChange entityIndexSpec)

/-- ITS FALSE NEIGHBOUR: 'it returns false'. Refute it at one input. -/
def entityIndexWrong : ChangeSpec := { name := "entityIndex", fn := fun _ => fun
  | [d1, d2, d3, d4, d5, d6, d7, d8] => { results := [.lit (.bool false)], args := [d1, d2, d3, d4, d5, d6, d7, d8] }
  | _ => none }
def EntityIndexWrongFalsely : Prop := entityIndexRow.holds Try.pinned (OpenSpec.ofChange entityIndexWrong)

/-- 'conductorlaw15.EntityBack': WHATEVER THE INPUT: true; the input reads as it did. -/
def entityBackSpec : ChangeSpec := { name := "entityBack", fn := fun _ => fun
  | [d1, d2] => { results := [.lit (.bool true)], args := [d1, d2] }
  | _ => none }
def entityBackRow : OpenClaim := { program := "ytdbdajmgfajcpaa", sum := "a7d5171fc04616f46275f94e78523396a5a6aa5221a472a36d94a137e3a025f5", func := "conductor/conductorlaw15.EntityBack", spec := "entityBack", apart := false }
def EntityBackSaid : Prop := entityBackRow.holds Try.pinned (OpenSpec.ofChange entityBackSpec)

/-- ITS FALSE NEIGHBOUR: 'it returns false'. Refute it at one input. -/
def entityBackWrong : ChangeSpec := { name := "entityBack", fn := fun _ => fun
  | [d1, d2] => { results := [.lit (.bool false)], args := [d1, d2] }
  | _ => none }
def EntityBackWrongFalsely : Prop := entityBackRow.holds Try.pinned (OpenSpec.ofChange entityBackWrong)

/-- 'conductorlaw15.EntityKeys': WHATEVER THE INPUT: true; the input reads as it did. -/
def entityKeysSpec : ChangeSpec := { name := "entityKeys", fn := fun _ => fun
  | [d1, d2, d3] => { results := [.lit (.bool true)], args := [d1, d2, d3] }
  | _ => none }
def entityKeysRow : OpenClaim := { program := "ytdbdajmgfajcpaa", sum := "a7d5171fc04616f46275f94e78523396a5a6aa5221a472a36d94a137e3a025f5", func := "conductor/conductorlaw15.EntityKeys", spec := "entityKeys", recurses := true, apart := false }
def EntityKeysSaid : Prop := entityKeysRow.holds Try.pinned (OpenSpec.ofChange entityKeysSpec)

/-- ITS FALSE NEIGHBOUR: 'it returns false'. Refute it at one input. -/
def entityKeysWrong : ChangeSpec := { name := "entityKeys", fn := fun _ => fun
  | [d1, d2, d3] => { results := [.lit (.bool false)], args := [d1, d2, d3] }
  | _ => none }
def EntityKeysWrongFalsely : Prop := entityKeysRow.holds Try.pinned (OpenSpec.ofChange entityKeysWrong)

/-- 'conductorlaw15.EntityPuts': WHATEVER THE INPUT: true; the input reads as it did. -/
def entityPutsSpec : ChangeSpec := { name := "entityPuts", fn := fun _ => fun
  | [d1, d2, d3, d4, d5] => { results := [.lit (.bool true)], args := [d1, d2, d3, d4, d5] }
  | _ => none }
def entityPutsRow : OpenClaim := { program := "ytdbdajmgfajcpaa", sum := "a7d5171fc04616f46275f94e78523396a5a6aa5221a472a36d94a137e3a025f5", func := "conductor/conductorlaw15.EntityPuts", spec := "entityPuts", recurses := true, apart := false }
def EntityPutsSaid : Prop := entityPutsRow.holds Try.pinned (OpenSpec.ofChange entityPutsSpec)

/-- ITS FALSE NEIGHBOUR: 'it returns false'. Refute it at one input. -/
def entityPutsWrong : ChangeSpec := { name := "entityPuts", fn := fun _ => fun
  | [d1, d2, d3, d4, d5] => { results := [.lit (.bool false)], args := [d1, d2, d3, d4, d5] }
  | _ => none }
def EntityPutsWrongFalsely : Prop := entityPutsRow.holds Try.pinned (OpenSpec.ofChange entityPutsWrong)

/-- 'conductorlaw15.EntityTakes': WHATEVER THE INPUT: true; the input reads as it did. -/
def entityTakesSpec : ChangeSpec := { name := "entityTakes", fn := fun _ => fun
  | [d] => { results := [.lit (.bool true)], args := [d] }
  | _ => none }
def entityTakesRow : OpenClaim := { program := "ytdbdajmgfajcpaa", sum := "a7d5171fc04616f46275f94e78523396a5a6aa5221a472a36d94a137e3a025f5", func := "conductor/conductorlaw15.EntityTakes", spec := "entityTakes", unfollowed := true, recurses := true, apart := false }
def EntityTakesSaid : Prop := entityTakesRow.holds Try.pinned (OpenSpec.ofChange entityTakesSpec)

/-- ITS FALSE NEIGHBOUR: 'it returns false'. Refute it at one input. -/
def entityTakesWrong : ChangeSpec := { name := "entityTakes", fn := fun _ => fun
  | [d] => { results := [.lit (.bool false)], args := [d] }
  | _ => none }
def EntityTakesWrongFalsely : Prop := entityTakesRow.holds Try.pinned (OpenSpec.ofChange entityTakesWrong)

/-- 'conductorlaw15.EntityForms': WHATEVER THE INPUT: true; the input reads as it did. -/
def entityFormsSpec : ChangeSpec := { name := "entityForms", fn := fun _ => fun
  | [d1, d2, d3, d4] => { results := [.lit (.bool true)], args := [d1, d2, d3, d4] }
  | _ => none }
def entityFormsRow : OpenClaim := { program := "ytdbdajmgfajcpaa", sum := "a7d5171fc04616f46275f94e78523396a5a6aa5221a472a36d94a137e3a025f5", func := "conductor/conductorlaw15.EntityForms", spec := "entityForms", unfollowed := true, recurses := true, apart := false }
def EntityFormsSaid : Prop := entityFormsRow.holds Try.pinned (OpenSpec.ofChange entityFormsSpec)

/-- ITS FALSE NEIGHBOUR: 'it returns false'. Refute it at one input. -/
def entityFormsWrong : ChangeSpec := { name := "entityForms", fn := fun _ => fun
  | [d1, d2, d3, d4] => { results := [.lit (.bool false)], args := [d1, d2, d3, d4] }
  | _ => none }
def EntityFormsWrongFalsely : Prop := entityFormsRow.holds Try.pinned (OpenSpec.ofChange entityFormsWrong)

/- THE SECOND FORM. 'bulk': how many values and letters a reading holds, each counted each time it is reached (what is shared counts as often as it is met; a slice's spare places count too). A statement '..UptoSaid' is the law's where the arguments, and the package variables that the reading takes, are together of bulk at most 1048576: NARROWER than '..Said'. Prove '..Said' where nothing that the law and all that it calls make is longer than what came in: it says more and counts as full. Else prove '..UptoSaid'. A law counts once. -/
mutual
def uptoBulk {H : Type} : DataW H → Nat
  | .lit (.string bytes) => bytes.length + 1
  | .lit _ => 1
  | .nil => 1
  | .ptr d => uptoBulk d + 1
  | .slice elems spare => uptoBulkAll elems + uptoBulkAll spare + 1
  | .agg parts => uptoBulkAll parts + 1
  | .iface _ d => uptoBulk d + 1
  | .map entries => uptoBulkEntries entries + 1
  | .held _ => 1
def uptoBulkAll {H : Type} : List (DataW H) → Nat
  | [] => 0
  | d :: r => uptoBulk d + uptoBulkAll r
def uptoBulkEntries {H : Type} : List (Lit × DataW H) → Nat
  | [] => 0
  | x :: r => uptoBulkEntry x + uptoBulkEntries r
def uptoBulkEntry {H : Type} : Lit × DataW H → Nat
  | (.string bytes, d) => bytes.length + uptoBulk d + 1
  | (_, d) => uptoBulk d + 1
 end
def uptoSmall : (H : Type) → List (DataW H) → Bool := fun _ ds => decide (uptoBulkAll ds ≤ 1048576)
def OpenSpec.upto (s : _root_.Go.ChangeSpec) : _root_.Go.OpenSpec := { _root_.Go.OpenSpec.ofChange s with cond := some uptoSmall }

/-- 'conductorlaw15.EntityIndexes', WHERE WHAT IT READS IS OF BULK AT MOST 1048576: true; the input reads as it did. -/
def entityIndexesUptoRow : OpenClaim := { program := "ytdbdajmgfajcpaa", sum := "a7d5171fc04616f46275f94e78523396a5a6aa5221a472a36d94a137e3a025f5", func := "conductor/conductorlaw15.EntityIndexes", spec := "entityIndexes", apart := false, narrowed := true }
def EntityIndexesUptoSaid : Prop := entityIndexesUptoRow.holds Try.pinned (OpenSpec.upto entityIndexesSpec)

/-- 'conductorlaw15.EntityUnder', WHERE WHAT IT READS IS OF BULK AT MOST 1048576: true; the input reads as it did. -/
def entityUnderUptoRow : OpenClaim := { program := "ytdbdajmgfajcpaa", sum := "a7d5171fc04616f46275f94e78523396a5a6aa5221a472a36d94a137e3a025f5", func := "conductor/conductorlaw15.EntityUnder", spec := "entityUnder", apart := false, narrowed := true }
def EntityUnderUptoSaid : Prop := entityUnderUptoRow.holds Try.pinned (OpenSpec.upto entityUnderSpec)

/-- 'conductorlaw15.EntityIndex', WHERE WHAT IT READS IS OF BULK AT MOST 1048576: true; the input reads as it did. -/
def entityIndexUptoRow : OpenClaim := { program := "ytdbdajmgfajcpaa", sum := "a7d5171fc04616f46275f94e78523396a5a6aa5221a472a36d94a137e3a025f5", func := "conductor/conductorlaw15.EntityIndex", spec := "entityIndex", apart := false, narrowed := true }
def EntityIndexUptoSaid : Prop := entityIndexUptoRow.holds Try.pinned (OpenSpec.upto entityIndexSpec)

/-- 'conductorlaw15.EntityBack', WHERE WHAT IT READS IS OF BULK AT MOST 1048576: true; the input reads as it did. -/
def entityBackUptoRow : OpenClaim := { program := "ytdbdajmgfajcpaa", sum := "a7d5171fc04616f46275f94e78523396a5a6aa5221a472a36d94a137e3a025f5", func := "conductor/conductorlaw15.EntityBack", spec := "entityBack", apart := false, narrowed := true }
def EntityBackUptoSaid : Prop := entityBackUptoRow.holds Try.pinned (OpenSpec.upto entityBackSpec)

/-- 'conductorlaw15.EntityKeys', WHERE WHAT IT READS IS OF BULK AT MOST 1048576: true; the input reads as it did. -/
def entityKeysUptoRow : OpenClaim := { program := "ytdbdajmgfajcpaa", sum := "a7d5171fc04616f46275f94e78523396a5a6aa5221a472a36d94a137e3a025f5", func := "conductor/conductorlaw15.EntityKeys", spec := "entityKeys", recurses := true, apart := false, narrowed := true }
def EntityKeysUptoSaid : Prop := entityKeysUptoRow.holds Try.pinned (OpenSpec.upto entityKeysSpec)

/-- 'conductorlaw15.EntityPuts', WHERE WHAT IT READS IS OF BULK AT MOST 1048576: true; the input reads as it did. -/
def entityPutsUptoRow : OpenClaim := { program := "ytdbdajmgfajcpaa", sum := "a7d5171fc04616f46275f94e78523396a5a6aa5221a472a36d94a137e3a025f5", func := "conductor/conductorlaw15.EntityPuts", spec := "entityPuts", recurses := true, apart := false, narrowed := true }
def EntityPutsUptoSaid : Prop := entityPutsUptoRow.holds Try.pinned (OpenSpec.upto entityPutsSpec)

/-- 'conductorlaw15.EntityTakes', WHERE WHAT IT READS IS OF BULK AT MOST 1048576: true; the input reads as it did. -/
def entityTakesUptoRow : OpenClaim := { program := "ytdbdajmgfajcpaa", sum := "a7d5171fc04616f46275f94e78523396a5a6aa5221a472a36d94a137e3a025f5", func := "conductor/conductorlaw15.EntityTakes", spec := "entityTakes", unfollowed := true, recurses := true, apart := false, narrowed := true }
def EntityTakesUptoSaid : Prop := entityTakesUptoRow.holds Try.pinned (OpenSpec.upto entityTakesSpec)

/-- 'conductorlaw15.EntityForms', WHERE WHAT IT READS IS OF BULK AT MOST 1048576: true; the input reads as it did. -/
def entityFormsUptoRow : OpenClaim := { program := "ytdbdajmgfajcpaa", sum := "a7d5171fc04616f46275f94e78523396a5a6aa5221a472a36d94a137e3a025f5", func := "conductor/conductorlaw15.EntityForms", spec := "entityForms", unfollowed := true, recurses := true, apart := false, narrowed := true }
def EntityFormsUptoSaid : Prop := entityFormsUptoRow.holds Try.pinned (OpenSpec.upto entityFormsSpec)

end Rows
end Go.Proofs.Ytdbdajmgfajcpaa
