/-
  NARROWER THAN 'FOR EVERY INPUT', by the rows' own cells (each row's printed sentence says how): WordfmtJoins: loops · UnquoteAssigns: loops · UnquoteTells: loops · UnquoteText: loops · PartTells: loops · PartJoins: loops.
  DERIVED. THE GIVEN ROWS OF THIS SEAT. 15 by the template 'for every input the law returns true; each argument reads behind the call as it read before'; 0 by the template 'total and deterministic' (their statements: YtcbonfgkfiapaaaTotals.lean).
  GIVEN WITH THE SEED: the statements are not yours to turn. If you find one false, say at which input.
  Laid BY PROGRAM, IN A SANDBOX (cutbox-rows.mjs): the forced cells as the released guide's own fill.sh prints them over the translation 367e8f5fcf0823e3… (all of the seat's roots in one cut). By AI agents, Wed Nov 11 2026. No macro, syntax, notation, axiom, sorry.
-/
import Derived.Test.YtcbonfgkfiapaaaChecked
import GoSem.Claim
import GoSem.ClaimJoined
import GoSem.ClaimMapViews
import Derived.JoinedTies
import Derived.KernelRfl
namespace Go.Proofs.Ytcbonfgkfiapaaa
/- THE CELL 'sum', in the pinned program and in every row, IS THE sha256 OF THE DUMP (.gsa) THAT YtcbonfgkfiapaaaProg.lean LOADS. Nothing in Lean hashes anything: it is a label: what it is worth is what the hold of that sum in a sandbox is worth. -/
noncomputable def Try.pinned : Pinned := { name := "ytcbonfgkfiapaaa", sum := "367e8f5fcf0823e35e785a55306b6f58a6afe2bbbae077f62882d715609572ca", checked := Try.checked }
namespace Rows
def none {H : Type} : Left H := { results := [], args := [] }

/-- 'conchlaw01.CharTells': WHATEVER THE INPUT: true; the input reads as it did. -/
def charTellsSpec : ChangeSpec := { name := "charTells", fn := fun _ => fun
  | [d1, d2] => { results := [.lit (.bool true)], args := [d1, d2] }
  | _ => none }
def charTellsRow : OpenClaim := { program := "ytcbonfgkfiapaaa", sum := "367e8f5fcf0823e35e785a55306b6f58a6afe2bbbae077f62882d715609572ca", func := "conch/conchlaw01.CharTells", spec := "charTells", inPlace := ["internal/bytealg.IndexByteString"], unfollowed := true, recurses := true, apart := false }
def CharTellsSaid : Prop := charTellsRow.holds Try.pinned (OpenSpec.ofChange charTellsSpec)

/-- ITS FALSE NEIGHBOUR: 'it returns false'. Refute it at one input. -/
def charTellsWrong : ChangeSpec := { name := "charTells", fn := fun _ => fun
  | [d1, d2] => { results := [.lit (.bool false)], args := [d1, d2] }
  | _ => none }
def CharTellsWrongFalsely : Prop := charTellsRow.holds Try.pinned (OpenSpec.ofChange charTellsWrong)

/-- 'conchlaw01.CharJoins': WHATEVER THE INPUT: true; the input reads as it did. -/
def charJoinsSpec : ChangeSpec := { name := "charJoins", fn := fun _ => fun
  | [d1, d2, d3] => { results := [.lit (.bool true)], args := [d1, d2, d3] }
  | _ => none }
def charJoinsRow : OpenClaim := { program := "ytcbonfgkfiapaaa", sum := "367e8f5fcf0823e35e785a55306b6f58a6afe2bbbae077f62882d715609572ca", func := "conch/conchlaw01.CharJoins", spec := "charJoins", inPlace := ["internal/bytealg.IndexByteString"], unfollowed := true, recurses := true, apart := false }
def CharJoinsSaid : Prop := charJoinsRow.holds Try.pinned (OpenSpec.ofChange charJoinsSpec)

/-- ITS FALSE NEIGHBOUR: 'it returns false'. Refute it at one input. -/
def charJoinsWrong : ChangeSpec := { name := "charJoins", fn := fun _ => fun
  | [d1, d2, d3] => { results := [.lit (.bool false)], args := [d1, d2, d3] }
  | _ => none }
def CharJoinsWrongFalsely : Prop := charJoinsRow.holds Try.pinned (OpenSpec.ofChange charJoinsWrong)

/-- 'conchlaw01.CharAssigns': WHATEVER THE INPUT: true; the input reads as it did. -/
def charAssignsSpec : ChangeSpec := { name := "charAssigns", fn := fun _ => fun
  | [d1, d2] => { results := [.lit (.bool true)], args := [d1, d2] }
  | _ => none }
def charAssignsRow : OpenClaim := { program := "ytcbonfgkfiapaaa", sum := "367e8f5fcf0823e35e785a55306b6f58a6afe2bbbae077f62882d715609572ca", func := "conch/conchlaw01.CharAssigns", spec := "charAssigns", inPlace := ["internal/bytealg.IndexByteString"], unfollowed := true, recurses := true, apart := false }
def CharAssignsSaid : Prop := charAssignsRow.holds Try.pinned (OpenSpec.ofChange charAssignsSpec)

/-- ITS FALSE NEIGHBOUR: 'it returns false'. Refute it at one input. -/
def charAssignsWrong : ChangeSpec := { name := "charAssigns", fn := fun _ => fun
  | [d1, d2] => { results := [.lit (.bool false)], args := [d1, d2] }
  | _ => none }
def CharAssignsWrongFalsely : Prop := charAssignsRow.holds Try.pinned (OpenSpec.ofChange charAssignsWrong)

/-- 'conchlaw25.WordfmtJoins': WHATEVER THE INPUT: true; the input reads as it did. -/
def wordfmtJoinsSpec : ChangeSpec := { name := "wordfmtJoins", fn := fun _ => fun
  | [d1, d2] => { results := [.lit (.bool true)], args := [d1, d2] }
  | _ => none }
def wordfmtJoinsRow : OpenClaim := { program := "ytcbonfgkfiapaaa", sum := "367e8f5fcf0823e35e785a55306b6f58a6afe2bbbae077f62882d715609572ca", func := "conch/conchlaw25.WordfmtJoins", spec := "wordfmtJoins", unfollowed := true, recurses := true, loops := true, apart := false }
def WordfmtJoinsSaid : Prop := wordfmtJoinsRow.holds Try.pinned (OpenSpec.ofChange wordfmtJoinsSpec)

/-- ITS FALSE NEIGHBOUR: 'it returns false'. Refute it at one input. -/
def wordfmtJoinsWrong : ChangeSpec := { name := "wordfmtJoins", fn := fun _ => fun
  | [d1, d2] => { results := [.lit (.bool false)], args := [d1, d2] }
  | _ => none }
def WordfmtJoinsWrongFalsely : Prop := wordfmtJoinsRow.holds Try.pinned (OpenSpec.ofChange wordfmtJoinsWrong)

/-- 'conchlaw27.UnquoteAssigns': WHATEVER THE INPUT: true; the input reads as it did. -/
def unquoteAssignsSpec : ChangeSpec := { name := "unquoteAssigns", fn := fun _ => fun
  | [d1, d2] => { results := [.lit (.bool true)], args := [d1, d2] }
  | _ => none }
def unquoteAssignsRow : OpenClaim := { program := "ytcbonfgkfiapaaa", sum := "367e8f5fcf0823e35e785a55306b6f58a6afe2bbbae077f62882d715609572ca", func := "conch/conchlaw27.UnquoteAssigns", spec := "unquoteAssigns", inPlace := ["internal/abi.NoEscape", "internal/bytealg.IndexByteString", "slices.overlaps[conch/api.Part]"], unfollowed := true, recurses := true, loops := true, apart := false }
def UnquoteAssignsSaid : Prop := unquoteAssignsRow.holds Try.pinned (OpenSpec.ofChange unquoteAssignsSpec)

/-- ITS FALSE NEIGHBOUR: 'it returns false'. Refute it at one input. -/
def unquoteAssignsWrong : ChangeSpec := { name := "unquoteAssigns", fn := fun _ => fun
  | [d1, d2] => { results := [.lit (.bool false)], args := [d1, d2] }
  | _ => none }
def UnquoteAssignsWrongFalsely : Prop := unquoteAssignsRow.holds Try.pinned (OpenSpec.ofChange unquoteAssignsWrong)

/-- 'conchlaw27.UnquoteTells': WHATEVER THE INPUT: true; the input reads as it did. -/
def unquoteTellsSpec : ChangeSpec := { name := "unquoteTells", fn := fun _ => fun
  | [d] => { results := [.lit (.bool true)], args := [d] }
  | _ => none }
def unquoteTellsRow : OpenClaim := { program := "ytcbonfgkfiapaaa", sum := "367e8f5fcf0823e35e785a55306b6f58a6afe2bbbae077f62882d715609572ca", func := "conch/conchlaw27.UnquoteTells", spec := "unquoteTells", inPlace := ["internal/abi.NoEscape", "internal/bytealg.IndexByteString", "slices.overlaps[conch/api.Part]"], unfollowed := true, recurses := true, loops := true, apart := false }
def UnquoteTellsSaid : Prop := unquoteTellsRow.holds Try.pinned (OpenSpec.ofChange unquoteTellsSpec)

/-- ITS FALSE NEIGHBOUR: 'it returns false'. Refute it at one input. -/
def unquoteTellsWrong : ChangeSpec := { name := "unquoteTells", fn := fun _ => fun
  | [d] => { results := [.lit (.bool false)], args := [d] }
  | _ => none }
def UnquoteTellsWrongFalsely : Prop := unquoteTellsRow.holds Try.pinned (OpenSpec.ofChange unquoteTellsWrong)

/-- 'conchlaw27.UnquoteText': WHATEVER THE INPUT: true; the input reads as it did. -/
def unquoteTextSpec : ChangeSpec := { name := "unquoteText", fn := fun _ => fun
  | [d] => { results := [.lit (.bool true)], args := [d] }
  | _ => none }
def unquoteTextRow : OpenClaim := { program := "ytcbonfgkfiapaaa", sum := "367e8f5fcf0823e35e785a55306b6f58a6afe2bbbae077f62882d715609572ca", func := "conch/conchlaw27.UnquoteText", spec := "unquoteText", inPlace := ["internal/abi.NoEscape", "internal/bytealg.IndexByteString", "slices.overlaps[conch/api.Part]"], unfollowed := true, recurses := true, loops := true, apart := false }
def UnquoteTextSaid : Prop := unquoteTextRow.holds Try.pinned (OpenSpec.ofChange unquoteTextSpec)

/-- ITS FALSE NEIGHBOUR: 'it returns false'. Refute it at one input. -/
def unquoteTextWrong : ChangeSpec := { name := "unquoteText", fn := fun _ => fun
  | [d] => { results := [.lit (.bool false)], args := [d] }
  | _ => none }
def UnquoteTextWrongFalsely : Prop := unquoteTextRow.holds Try.pinned (OpenSpec.ofChange unquoteTextWrong)

/-- 'conchlaw28.HereBack': WHATEVER THE INPUT: true; the input reads as it did. -/
def hereBackSpec : ChangeSpec := { name := "hereBack", fn := fun _ => fun
  | [d1, d2] => { results := [.lit (.bool true)], args := [d1, d2] }
  | _ => none }
def hereBackRow : OpenClaim := { program := "ytcbonfgkfiapaaa", sum := "367e8f5fcf0823e35e785a55306b6f58a6afe2bbbae077f62882d715609572ca", func := "conch/conchlaw28.HereBack", spec := "hereBack", inPlace := ["internal/bytealg.IndexByteString", "internal/bytealg.IndexString", "internal/abi.NoEscape", "internal/bytealg.MakeNoZero"], named := ["internal/bytealg.MaxLen"], apart := false }
def HereBackSaid : Prop := hereBackRow.holds Try.pinned (OpenSpec.ofChange hereBackSpec)

/-- ITS FALSE NEIGHBOUR: 'it returns false'. Refute it at one input. -/
def hereBackWrong : ChangeSpec := { name := "hereBack", fn := fun _ => fun
  | [d1, d2] => { results := [.lit (.bool false)], args := [d1, d2] }
  | _ => none }
def HereBackWrongFalsely : Prop := hereBackRow.holds Try.pinned (OpenSpec.ofChange hereBackWrong)

/-- 'conchlaw28.HereNone': WHATEVER THE INPUT: true; the input reads as it did. -/
def hereNoneSpec : ChangeSpec := { name := "hereNone", fn := fun _ => fun
  | [d] => { results := [.lit (.bool true)], args := [d] }
  | _ => none }
def hereNoneRow : OpenClaim := { program := "ytcbonfgkfiapaaa", sum := "367e8f5fcf0823e35e785a55306b6f58a6afe2bbbae077f62882d715609572ca", func := "conch/conchlaw28.HereNone", spec := "hereNone", inPlace := ["internal/abi.NoEscape", "internal/bytealg.MakeNoZero", "internal/bytealg.IndexByteString", "internal/bytealg.IndexString"], named := ["internal/bytealg.MaxLen"], apart := false }
def HereNoneSaid : Prop := hereNoneRow.holds Try.pinned (OpenSpec.ofChange hereNoneSpec)

/-- ITS FALSE NEIGHBOUR: 'it returns false'. Refute it at one input. -/
def hereNoneWrong : ChangeSpec := { name := "hereNone", fn := fun _ => fun
  | [d] => { results := [.lit (.bool false)], args := [d] }
  | _ => none }
def HereNoneWrongFalsely : Prop := hereNoneRow.holds Try.pinned (OpenSpec.ofChange hereNoneWrong)

/-- 'conchlaw24.PartTells': WHATEVER THE INPUT: true; the input reads as it did. -/
def partTellsSpec : ChangeSpec := { name := "partTells", fn := fun _ => fun
  | [d] => { results := [.lit (.bool true)], args := [d] }
  | _ => none }
def partTellsRow : OpenClaim := { program := "ytcbonfgkfiapaaa", sum := "367e8f5fcf0823e35e785a55306b6f58a6afe2bbbae077f62882d715609572ca", func := "conch/conchlaw24.PartTells", spec := "partTells", inPlace := ["internal/bytealg.IndexByteString", "internal/bytealg.IndexString"], unfollowed := true, recurses := true, named := ["internal/bytealg.MaxLen"], loops := true, apart := false }
def PartTellsSaid : Prop := partTellsRow.holds Try.pinned (OpenSpec.ofChange partTellsSpec)

/-- ITS FALSE NEIGHBOUR: 'it returns false'. Refute it at one input. -/
def partTellsWrong : ChangeSpec := { name := "partTells", fn := fun _ => fun
  | [d] => { results := [.lit (.bool false)], args := [d] }
  | _ => none }
def PartTellsWrongFalsely : Prop := partTellsRow.holds Try.pinned (OpenSpec.ofChange partTellsWrong)

/-- 'conchlaw24.PartJoins': WHATEVER THE INPUT: true; the input reads as it did. -/
def partJoinsSpec : ChangeSpec := { name := "partJoins", fn := fun _ => fun
  | [d1, d2] => { results := [.lit (.bool true)], args := [d1, d2] }
  | _ => none }
def partJoinsRow : OpenClaim := { program := "ytcbonfgkfiapaaa", sum := "367e8f5fcf0823e35e785a55306b6f58a6afe2bbbae077f62882d715609572ca", func := "conch/conchlaw24.PartJoins", spec := "partJoins", inPlace := ["internal/bytealg.IndexByteString", "internal/bytealg.IndexString"], unfollowed := true, recurses := true, named := ["internal/bytealg.MaxLen"], loops := true, apart := false }
def PartJoinsSaid : Prop := partJoinsRow.holds Try.pinned (OpenSpec.ofChange partJoinsSpec)

/-- ITS FALSE NEIGHBOUR: 'it returns false'. Refute it at one input. -/
def partJoinsWrong : ChangeSpec := { name := "partJoins", fn := fun _ => fun
  | [d1, d2] => { results := [.lit (.bool false)], args := [d1, d2] }
  | _ => none }
def PartJoinsWrongFalsely : Prop := partJoinsRow.holds Try.pinned (OpenSpec.ofChange partJoinsWrong)

/-- 'conchlaw36.AliasDoes': WHATEVER THE INPUT: true; the input reads as it did. -/
def aliasDoesSpec : ChangeSpec := { name := "aliasDoes", fn := fun _ => fun
  | [d] => { results := [.lit (.bool true)], args := [d] }
  | _ => none }
def aliasDoesRow : OpenClaim := { program := "ytcbonfgkfiapaaa", sum := "367e8f5fcf0823e35e785a55306b6f58a6afe2bbbae077f62882d715609572ca", func := "conch/conchlaw36.AliasDoes", spec := "aliasDoes", inPlace := ["internal/bytealg.IndexByteString", "internal/bytealg.IndexString"], unfollowed := true, recurses := true, named := ["internal/bytealg.MaxLen"], apart := false }
def AliasDoesSaid : Prop := aliasDoesRow.holds Try.pinned (OpenSpec.ofChange aliasDoesSpec)

/-- ITS FALSE NEIGHBOUR: 'it returns false'. Refute it at one input. -/
def aliasDoesWrong : ChangeSpec := { name := "aliasDoes", fn := fun _ => fun
  | [d] => { results := [.lit (.bool false)], args := [d] }
  | _ => none }
def AliasDoesWrongFalsely : Prop := aliasDoesRow.holds Try.pinned (OpenSpec.ofChange aliasDoesWrong)

/-- 'conchlaw36.AliasMany': WHATEVER THE INPUT: true; the input reads as it did. -/
def aliasManySpec : ChangeSpec := { name := "aliasMany", fn := fun _ => fun
  | [d1, d2] => { results := [.lit (.bool true)], args := [d1, d2] }
  | _ => none }
def aliasManyRow : OpenClaim := { program := "ytcbonfgkfiapaaa", sum := "367e8f5fcf0823e35e785a55306b6f58a6afe2bbbae077f62882d715609572ca", func := "conch/conchlaw36.AliasMany", spec := "aliasMany", inPlace := ["internal/bytealg.IndexByteString", "internal/bytealg.IndexString"], unfollowed := true, recurses := true, named := ["internal/bytealg.MaxLen"], apart := false }
def AliasManySaid : Prop := aliasManyRow.holds Try.pinned (OpenSpec.ofChange aliasManySpec)

/-- ITS FALSE NEIGHBOUR: 'it returns false'. Refute it at one input. -/
def aliasManyWrong : ChangeSpec := { name := "aliasMany", fn := fun _ => fun
  | [d1, d2] => { results := [.lit (.bool false)], args := [d1, d2] }
  | _ => none }
def AliasManyWrongFalsely : Prop := aliasManyRow.holds Try.pinned (OpenSpec.ofChange aliasManyWrong)

/-- 'conchlaw36.AliasTwins': WHATEVER THE INPUT: true; the input reads as it did. -/
def aliasTwinsSpec : ChangeSpec := { name := "aliasTwins", fn := fun _ => fun
  | [d1, d2] => { results := [.lit (.bool true)], args := [d1, d2] }
  | _ => none }
def aliasTwinsRow : OpenClaim := { program := "ytcbonfgkfiapaaa", sum := "367e8f5fcf0823e35e785a55306b6f58a6afe2bbbae077f62882d715609572ca", func := "conch/conchlaw36.AliasTwins", spec := "aliasTwins", inPlace := ["internal/bytealg.IndexByteString", "internal/bytealg.IndexString", "maps.clone"], unfollowed := true, recurses := true, named := ["internal/bytealg.MaxLen"], apart := false }
def AliasTwinsSaid : Prop := aliasTwinsRow.holds Try.pinned (OpenSpec.ofChange aliasTwinsSpec)

/-- ITS FALSE NEIGHBOUR: 'it returns false'. Refute it at one input. -/
def aliasTwinsWrong : ChangeSpec := { name := "aliasTwins", fn := fun _ => fun
  | [d1, d2] => { results := [.lit (.bool false)], args := [d1, d2] }
  | _ => none }
def AliasTwinsWrongFalsely : Prop := aliasTwinsRow.holds Try.pinned (OpenSpec.ofChange aliasTwinsWrong)

/-- 'conchlaw36.AliasNone': WHATEVER THE INPUT: true; the input reads as it did. -/
def aliasNoneSpec : ChangeSpec := { name := "aliasNone", fn := fun _ => fun
  | [d1, d2] => { results := [.lit (.bool true)], args := [d1, d2] }
  | _ => none }
def aliasNoneRow : OpenClaim := { program := "ytcbonfgkfiapaaa", sum := "367e8f5fcf0823e35e785a55306b6f58a6afe2bbbae077f62882d715609572ca", func := "conch/conchlaw36.AliasNone", spec := "aliasNone", inPlace := ["internal/bytealg.IndexByteString", "internal/bytealg.IndexString", "maps.clone"], unfollowed := true, recurses := true, named := ["internal/bytealg.MaxLen"], apart := false }
def AliasNoneSaid : Prop := aliasNoneRow.holds Try.pinned (OpenSpec.ofChange aliasNoneSpec)

/-- ITS FALSE NEIGHBOUR: 'it returns false'. Refute it at one input. -/
def aliasNoneWrong : ChangeSpec := { name := "aliasNone", fn := fun _ => fun
  | [d1, d2] => { results := [.lit (.bool false)], args := [d1, d2] }
  | _ => none }
def AliasNoneWrongFalsely : Prop := aliasNoneRow.holds Try.pinned (OpenSpec.ofChange aliasNoneWrong)

/- THE SECOND FORM. 'bulk': how many values and letters a reading holds, each counted each time it is reached (what is shared counts as often as it is met; a slice's spare places count too). A statement '..UptoSaid' is the law's where the arguments, and the package variables that the reading takes, are together of bulk at most 1048576: NARROWER than '..Said'. Prove '..Said' where nothing that the law and all that it calls make is longer than what came in: it says more and counts as full. Else prove '..UptoSaid'. A law counts once. -/
mutual
def uptoBulk {H : Type} : DataW H → Nat
  | .lit (.string bytes) => bytes.length + 1
  | .lit _ => 1
  | .nil => 1
  | .ptr d => uptoBulk d + 1
  | .slice elems spare => uptoBulkAll elems + uptoBulkAll spare + 1
  | .agg parts => uptoBulkAll parts + 1
  | .iface _ d => uptoBulk d + 1
  | .map entries => uptoBulkEntries entries + 1
  | .held _ => 1
def uptoBulkAll {H : Type} : List (DataW H) → Nat
  | [] => 0
  | d :: r => uptoBulk d + uptoBulkAll r
def uptoBulkEntries {H : Type} : List (Lit × DataW H) → Nat
  | [] => 0
  | x :: r => uptoBulkEntry x + uptoBulkEntries r
def uptoBulkEntry {H : Type} : Lit × DataW H → Nat
  | (.string bytes, d) => bytes.length + uptoBulk d + 1
  | (_, d) => uptoBulk d + 1
 end
def uptoSmall : (H : Type) → List (DataW H) → Bool := fun _ ds => decide (uptoBulkAll ds ≤ 1048576)
def OpenSpec.upto (s : _root_.Go.ChangeSpec) : _root_.Go.OpenSpec := { _root_.Go.OpenSpec.ofChange s with cond := some uptoSmall }

/-- 'conchlaw01.CharTells', WHERE WHAT IT READS IS OF BULK AT MOST 1048576: true; the input reads as it did. -/
def charTellsUptoRow : OpenClaim := { program := "ytcbonfgkfiapaaa", sum := "367e8f5fcf0823e35e785a55306b6f58a6afe2bbbae077f62882d715609572ca", func := "conch/conchlaw01.CharTells", spec := "charTells", inPlace := ["internal/bytealg.IndexByteString"], unfollowed := true, recurses := true, apart := false, narrowed := true }
def CharTellsUptoSaid : Prop := charTellsUptoRow.holds Try.pinned (OpenSpec.upto charTellsSpec)

/-- 'conchlaw01.CharJoins', WHERE WHAT IT READS IS OF BULK AT MOST 1048576: true; the input reads as it did. -/
def charJoinsUptoRow : OpenClaim := { program := "ytcbonfgkfiapaaa", sum := "367e8f5fcf0823e35e785a55306b6f58a6afe2bbbae077f62882d715609572ca", func := "conch/conchlaw01.CharJoins", spec := "charJoins", inPlace := ["internal/bytealg.IndexByteString"], unfollowed := true, recurses := true, apart := false, narrowed := true }
def CharJoinsUptoSaid : Prop := charJoinsUptoRow.holds Try.pinned (OpenSpec.upto charJoinsSpec)

/-- 'conchlaw01.CharAssigns', WHERE WHAT IT READS IS OF BULK AT MOST 1048576: true; the input reads as it did. -/
def charAssignsUptoRow : OpenClaim := { program := "ytcbonfgkfiapaaa", sum := "367e8f5fcf0823e35e785a55306b6f58a6afe2bbbae077f62882d715609572ca", func := "conch/conchlaw01.CharAssigns", spec := "charAssigns", inPlace := ["internal/bytealg.IndexByteString"], unfollowed := true, recurses := true, apart := false, narrowed := true }
def CharAssignsUptoSaid : Prop := charAssignsUptoRow.holds Try.pinned (OpenSpec.upto charAssignsSpec)

/-- 'conchlaw25.WordfmtJoins', WHERE WHAT IT READS IS OF BULK AT MOST 1048576: true; the input reads as it did. -/
def wordfmtJoinsUptoRow : OpenClaim := { program := "ytcbonfgkfiapaaa", sum := "367e8f5fcf0823e35e785a55306b6f58a6afe2bbbae077f62882d715609572ca", func := "conch/conchlaw25.WordfmtJoins", spec := "wordfmtJoins", unfollowed := true, recurses := true, loops := true, apart := false, narrowed := true }
def WordfmtJoinsUptoSaid : Prop := wordfmtJoinsUptoRow.holds Try.pinned (OpenSpec.upto wordfmtJoinsSpec)

/-- 'conchlaw27.UnquoteAssigns', WHERE WHAT IT READS IS OF BULK AT MOST 1048576: true; the input reads as it did. -/
def unquoteAssignsUptoRow : OpenClaim := { program := "ytcbonfgkfiapaaa", sum := "367e8f5fcf0823e35e785a55306b6f58a6afe2bbbae077f62882d715609572ca", func := "conch/conchlaw27.UnquoteAssigns", spec := "unquoteAssigns", inPlace := ["internal/abi.NoEscape", "internal/bytealg.IndexByteString", "slices.overlaps[conch/api.Part]"], unfollowed := true, recurses := true, loops := true, apart := false, narrowed := true }
def UnquoteAssignsUptoSaid : Prop := unquoteAssignsUptoRow.holds Try.pinned (OpenSpec.upto unquoteAssignsSpec)

/-- 'conchlaw27.UnquoteTells', WHERE WHAT IT READS IS OF BULK AT MOST 1048576: true; the input reads as it did. -/
def unquoteTellsUptoRow : OpenClaim := { program := "ytcbonfgkfiapaaa", sum := "367e8f5fcf0823e35e785a55306b6f58a6afe2bbbae077f62882d715609572ca", func := "conch/conchlaw27.UnquoteTells", spec := "unquoteTells", inPlace := ["internal/abi.NoEscape", "internal/bytealg.IndexByteString", "slices.overlaps[conch/api.Part]"], unfollowed := true, recurses := true, loops := true, apart := false, narrowed := true }
def UnquoteTellsUptoSaid : Prop := unquoteTellsUptoRow.holds Try.pinned (OpenSpec.upto unquoteTellsSpec)

/-- 'conchlaw27.UnquoteText', WHERE WHAT IT READS IS OF BULK AT MOST 1048576: true; the input reads as it did. -/
def unquoteTextUptoRow : OpenClaim := { program := "ytcbonfgkfiapaaa", sum := "367e8f5fcf0823e35e785a55306b6f58a6afe2bbbae077f62882d715609572ca", func := "conch/conchlaw27.UnquoteText", spec := "unquoteText", inPlace := ["internal/abi.NoEscape", "internal/bytealg.IndexByteString", "slices.overlaps[conch/api.Part]"], unfollowed := true, recurses := true, loops := true, apart := false, narrowed := true }
def UnquoteTextUptoSaid : Prop := unquoteTextUptoRow.holds Try.pinned (OpenSpec.upto unquoteTextSpec)

/-- 'conchlaw28.HereBack', WHERE WHAT IT READS IS OF BULK AT MOST 1048576: true; the input reads as it did. -/
def hereBackUptoRow : OpenClaim := { program := "ytcbonfgkfiapaaa", sum := "367e8f5fcf0823e35e785a55306b6f58a6afe2bbbae077f62882d715609572ca", func := "conch/conchlaw28.HereBack", spec := "hereBack", inPlace := ["internal/bytealg.IndexByteString", "internal/bytealg.IndexString", "internal/abi.NoEscape", "internal/bytealg.MakeNoZero"], named := ["internal/bytealg.MaxLen"], apart := false, narrowed := true }
def HereBackUptoSaid : Prop := hereBackUptoRow.holds Try.pinned (OpenSpec.upto hereBackSpec)

/-- 'conchlaw28.HereNone', WHERE WHAT IT READS IS OF BULK AT MOST 1048576: true; the input reads as it did. -/
def hereNoneUptoRow : OpenClaim := { program := "ytcbonfgkfiapaaa", sum := "367e8f5fcf0823e35e785a55306b6f58a6afe2bbbae077f62882d715609572ca", func := "conch/conchlaw28.HereNone", spec := "hereNone", inPlace := ["internal/abi.NoEscape", "internal/bytealg.MakeNoZero", "internal/bytealg.IndexByteString", "internal/bytealg.IndexString"], named := ["internal/bytealg.MaxLen"], apart := false, narrowed := true }
def HereNoneUptoSaid : Prop := hereNoneUptoRow.holds Try.pinned (OpenSpec.upto hereNoneSpec)

/-- 'conchlaw24.PartTells', WHERE WHAT IT READS IS OF BULK AT MOST 1048576: true; the input reads as it did. -/
def partTellsUptoRow : OpenClaim := { program := "ytcbonfgkfiapaaa", sum := "367e8f5fcf0823e35e785a55306b6f58a6afe2bbbae077f62882d715609572ca", func := "conch/conchlaw24.PartTells", spec := "partTells", inPlace := ["internal/bytealg.IndexByteString", "internal/bytealg.IndexString"], unfollowed := true, recurses := true, named := ["internal/bytealg.MaxLen"], loops := true, apart := false, narrowed := true }
def PartTellsUptoSaid : Prop := partTellsUptoRow.holds Try.pinned (OpenSpec.upto partTellsSpec)

/-- 'conchlaw24.PartJoins', WHERE WHAT IT READS IS OF BULK AT MOST 1048576: true; the input reads as it did. -/
def partJoinsUptoRow : OpenClaim := { program := "ytcbonfgkfiapaaa", sum := "367e8f5fcf0823e35e785a55306b6f58a6afe2bbbae077f62882d715609572ca", func := "conch/conchlaw24.PartJoins", spec := "partJoins", inPlace := ["internal/bytealg.IndexByteString", "internal/bytealg.IndexString"], unfollowed := true, recurses := true, named := ["internal/bytealg.MaxLen"], loops := true, apart := false, narrowed := true }
def PartJoinsUptoSaid : Prop := partJoinsUptoRow.holds Try.pinned (OpenSpec.upto partJoinsSpec)

/-- 'conchlaw36.AliasDoes', WHERE WHAT IT READS IS OF BULK AT MOST 1048576: true; the input reads as it did. -/
def aliasDoesUptoRow : OpenClaim := { program := "ytcbonfgkfiapaaa", sum := "367e8f5fcf0823e35e785a55306b6f58a6afe2bbbae077f62882d715609572ca", func := "conch/conchlaw36.AliasDoes", spec := "aliasDoes", inPlace := ["internal/bytealg.IndexByteString", "internal/bytealg.IndexString"], unfollowed := true, recurses := true, named := ["internal/bytealg.MaxLen"], apart := false, narrowed := true }
def AliasDoesUptoSaid : Prop := aliasDoesUptoRow.holds Try.pinned (OpenSpec.upto aliasDoesSpec)

/-- 'conchlaw36.AliasMany', WHERE WHAT IT READS IS OF BULK AT MOST 1048576: true; the input reads as it did. -/
def aliasManyUptoRow : OpenClaim := { program := "ytcbonfgkfiapaaa", sum := "367e8f5fcf0823e35e785a55306b6f58a6afe2bbbae077f62882d715609572ca", func := "conch/conchlaw36.AliasMany", spec := "aliasMany", inPlace := ["internal/bytealg.IndexByteString", "internal/bytealg.IndexString"], unfollowed := true, recurses := true, named := ["internal/bytealg.MaxLen"], apart := false, narrowed := true }
def AliasManyUptoSaid : Prop := aliasManyUptoRow.holds Try.pinned (OpenSpec.upto aliasManySpec)

/-- 'conchlaw36.AliasTwins', WHERE WHAT IT READS IS OF BULK AT MOST 1048576: true; the input reads as it did. -/
def aliasTwinsUptoRow : OpenClaim := { program := "ytcbonfgkfiapaaa", sum := "367e8f5fcf0823e35e785a55306b6f58a6afe2bbbae077f62882d715609572ca", func := "conch/conchlaw36.AliasTwins", spec := "aliasTwins", inPlace := ["internal/bytealg.IndexByteString", "internal/bytealg.IndexString", "maps.clone"], unfollowed := true, recurses := true, named := ["internal/bytealg.MaxLen"], apart := false, narrowed := true }
def AliasTwinsUptoSaid : Prop := aliasTwinsUptoRow.holds Try.pinned (OpenSpec.upto aliasTwinsSpec)

/-- 'conchlaw36.AliasNone', WHERE WHAT IT READS IS OF BULK AT MOST 1048576: true; the input reads as it did. -/
def aliasNoneUptoRow : OpenClaim := { program := "ytcbonfgkfiapaaa", sum := "367e8f5fcf0823e35e785a55306b6f58a6afe2bbbae077f62882d715609572ca", func := "conch/conchlaw36.AliasNone", spec := "aliasNone", inPlace := ["internal/bytealg.IndexByteString", "internal/bytealg.IndexString", "maps.clone"], unfollowed := true, recurses := true, named := ["internal/bytealg.MaxLen"], apart := false, narrowed := true }
def AliasNoneUptoSaid : Prop := aliasNoneUptoRow.holds Try.pinned (OpenSpec.upto aliasNoneSpec)

end Rows
end Go.Proofs.Ytcbonfgkfiapaaa
