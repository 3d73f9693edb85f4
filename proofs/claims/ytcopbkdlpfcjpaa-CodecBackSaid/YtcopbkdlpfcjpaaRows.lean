/-
  No cell of these rows narrows 'for every input' (looked for: loops, veiled, ifaces, maps, wideKeys, modest, calm, conditions, laid).
  DERIVED. THE GIVEN ROWS OF THIS SEAT. 18 by the template 'for every input the law returns true; each argument reads behind the call as it read before'; 0 by the template 'total and deterministic' (their statements: YtcopbkdlpfcjpaaTotals.lean).
  GIVEN WITH THE SEED: the statements are not yours to turn. If you find one false, say at which input.
  Laid BY PROGRAM, IN A SANDBOX (cutbox-rows.mjs): the forced cells as the released guide's own fill.sh prints them over the translation 3993bf16862a3782… (all of the seat's roots in one cut). By AI agents, Wed Nov 11 2026. No macro, syntax, notation, axiom, sorry.
-/
import Derived.Test.YtcopbkdlpfcjpaaChecked
import GoSem.Claim
import GoSem.ClaimJoined
import GoSem.ClaimMapViews
import Derived.JoinedTies
import Derived.KernelRfl
namespace Go.Proofs.Ytcopbkdlpfcjpaa
/- THE CELL 'sum', in the pinned program and in every row, IS THE sha256 OF THE DUMP (.gsa) THAT YtcopbkdlpfcjpaaProg.lean LOADS. Nothing in Lean hashes anything: it is a label: what it is worth is what the hold of that sum in a sandbox is worth. -/
noncomputable def Try.pinned : Pinned := { name := "ytcopbkdlpfcjpaa", sum := "3993bf16862a37829e82baae3a56edab65b0074b99921de52eb72bc5a7ed8904", checked := Try.checked }
namespace Rows
def none {H : Type} : Left H := { results := [], args := [] }

/-- 'skerrylaw01.CodecZigs': WHATEVER THE INPUT: true; the input reads as it did. -/
def codecZigsSpec : ChangeSpec := { name := "codecZigs", fn := fun _ => fun
  | [d1, d2] => { results := [.lit (.bool true)], args := [d1, d2] }
  | _ => none }
def codecZigsRow : OpenClaim := { program := "ytcopbkdlpfcjpaa", sum := "3993bf16862a37829e82baae3a56edab65b0074b99921de52eb72bc5a7ed8904", func := "skerry/skerrylaw01.CodecZigs", spec := "codecZigs", apart := false }
def CodecZigsSaid : Prop := codecZigsRow.holds Try.pinned (OpenSpec.ofChange codecZigsSpec)

/-- ITS FALSE NEIGHBOUR: 'it returns false'. Refute it at one input. -/
def codecZigsWrong : ChangeSpec := { name := "codecZigs", fn := fun _ => fun
  | [d1, d2] => { results := [.lit (.bool false)], args := [d1, d2] }
  | _ => none }
def CodecZigsWrongFalsely : Prop := codecZigsRow.holds Try.pinned (OpenSpec.ofChange codecZigsWrong)

/-- 'skerrylaw01.CodecShort': WHATEVER THE INPUT: true; the input reads as it did. -/
def codecShortSpec : ChangeSpec := { name := "codecShort", fn := fun _ => fun
  | [d] => { results := [.lit (.bool true)], args := [d] }
  | _ => none }
def codecShortRow : OpenClaim := { program := "ytcopbkdlpfcjpaa", sum := "3993bf16862a37829e82baae3a56edab65b0074b99921de52eb72bc5a7ed8904", func := "skerry/skerrylaw01.CodecShort", spec := "codecShort", apart := false }
def CodecShortSaid : Prop := codecShortRow.holds Try.pinned (OpenSpec.ofChange codecShortSpec)

/-- ITS FALSE NEIGHBOUR: 'it returns false'. Refute it at one input. -/
def codecShortWrong : ChangeSpec := { name := "codecShort", fn := fun _ => fun
  | [d] => { results := [.lit (.bool false)], args := [d] }
  | _ => none }
def CodecShortWrongFalsely : Prop := codecShortRow.holds Try.pinned (OpenSpec.ofChange codecShortWrong)

/-- 'skerrylaw01.CodecNumbers': WHATEVER THE INPUT: true; the input reads as it did. -/
def codecNumbersSpec : ChangeSpec := { name := "codecNumbers", fn := fun _ => fun
  | [d1, d2, d3] => { results := [.lit (.bool true)], args := [d1, d2, d3] }
  | _ => none }
def codecNumbersRow : OpenClaim := { program := "ytcopbkdlpfcjpaa", sum := "3993bf16862a37829e82baae3a56edab65b0074b99921de52eb72bc5a7ed8904", func := "skerry/skerrylaw01.CodecNumbers", spec := "codecNumbers", apart := false }
def CodecNumbersSaid : Prop := codecNumbersRow.holds Try.pinned (OpenSpec.ofChange codecNumbersSpec)

/-- ITS FALSE NEIGHBOUR: 'it returns false'. Refute it at one input. -/
def codecNumbersWrong : ChangeSpec := { name := "codecNumbers", fn := fun _ => fun
  | [d1, d2, d3] => { results := [.lit (.bool false)], args := [d1, d2, d3] }
  | _ => none }
def CodecNumbersWrongFalsely : Prop := codecNumbersRow.holds Try.pinned (OpenSpec.ofChange codecNumbersWrong)

/-- 'skerrylaw01.CodecTexts': WHATEVER THE INPUT: true; the input reads as it did. -/
def codecTextsSpec : ChangeSpec := { name := "codecTexts", fn := fun _ => fun
  | [d1, d2] => { results := [.lit (.bool true)], args := [d1, d2] }
  | _ => none }
def codecTextsRow : OpenClaim := { program := "ytcopbkdlpfcjpaa", sum := "3993bf16862a37829e82baae3a56edab65b0074b99921de52eb72bc5a7ed8904", func := "skerry/skerrylaw01.CodecTexts", spec := "codecTexts", apart := false }
def CodecTextsSaid : Prop := codecTextsRow.holds Try.pinned (OpenSpec.ofChange codecTextsSpec)

/-- ITS FALSE NEIGHBOUR: 'it returns false'. Refute it at one input. -/
def codecTextsWrong : ChangeSpec := { name := "codecTexts", fn := fun _ => fun
  | [d1, d2] => { results := [.lit (.bool false)], args := [d1, d2] }
  | _ => none }
def CodecTextsWrongFalsely : Prop := codecTextsRow.holds Try.pinned (OpenSpec.ofChange codecTextsWrong)

/-- 'skerrylaw08.BloomReads': WHATEVER THE INPUT: true; the input reads as it did. -/
def bloomReadsSpec : ChangeSpec := { name := "bloomReads", fn := fun _ => fun
  | [d1, d2] => { results := [.lit (.bool true)], args := [d1, d2] }
  | _ => none }
def bloomReadsRow : OpenClaim := { program := "ytcopbkdlpfcjpaa", sum := "3993bf16862a37829e82baae3a56edab65b0074b99921de52eb72bc5a7ed8904", func := "skerry/skerrylaw08.BloomReads", spec := "bloomReads", unfollowed := true, recurses := true, apart := false }
def BloomReadsSaid : Prop := bloomReadsRow.holds Try.pinned (OpenSpec.ofChange bloomReadsSpec)

/-- ITS FALSE NEIGHBOUR: 'it returns false'. Refute it at one input. -/
def bloomReadsWrong : ChangeSpec := { name := "bloomReads", fn := fun _ => fun
  | [d1, d2] => { results := [.lit (.bool false)], args := [d1, d2] }
  | _ => none }
def BloomReadsWrongFalsely : Prop := bloomReadsRow.holds Try.pinned (OpenSpec.ofChange bloomReadsWrong)

/-- 'skerrylaw01.CodecFrames': WHATEVER THE INPUT: true; the input reads as it did. -/
def codecFramesSpec : ChangeSpec := { name := "codecFrames", fn := fun _ => fun
  | [d] => { results := [.lit (.bool true)], args := [d] }
  | _ => none }
def codecFramesRow : OpenClaim := { program := "ytcopbkdlpfcjpaa", sum := "3993bf16862a37829e82baae3a56edab65b0074b99921de52eb72bc5a7ed8904", func := "skerry/skerrylaw01.CodecFrames", spec := "codecFrames", apart := false }
def CodecFramesSaid : Prop := codecFramesRow.holds Try.pinned (OpenSpec.ofChange codecFramesSpec)

/-- ITS FALSE NEIGHBOUR: 'it returns false'. Refute it at one input. -/
def codecFramesWrong : ChangeSpec := { name := "codecFrames", fn := fun _ => fun
  | [d] => { results := [.lit (.bool false)], args := [d] }
  | _ => none }
def CodecFramesWrongFalsely : Prop := codecFramesRow.holds Try.pinned (OpenSpec.ofChange codecFramesWrong)

/-- 'skerrylaw08.BloomNever': WHATEVER THE INPUT: true; the input reads as it did. -/
def bloomNeverSpec : ChangeSpec := { name := "bloomNever", fn := fun _ => fun
  | [d1, d2, d3] => { results := [.lit (.bool true)], args := [d1, d2, d3] }
  | _ => none }
def bloomNeverRow : OpenClaim := { program := "ytcopbkdlpfcjpaa", sum := "3993bf16862a37829e82baae3a56edab65b0074b99921de52eb72bc5a7ed8904", func := "skerry/skerrylaw08.BloomNever", spec := "bloomNever", unfollowed := true, recurses := true, apart := false }
def BloomNeverSaid : Prop := bloomNeverRow.holds Try.pinned (OpenSpec.ofChange bloomNeverSpec)

/-- ITS FALSE NEIGHBOUR: 'it returns false'. Refute it at one input. -/
def bloomNeverWrong : ChangeSpec := { name := "bloomNever", fn := fun _ => fun
  | [d1, d2, d3] => { results := [.lit (.bool false)], args := [d1, d2, d3] }
  | _ => none }
def BloomNeverWrongFalsely : Prop := bloomNeverRow.holds Try.pinned (OpenSpec.ofChange bloomNeverWrong)

/-- 'skerrylaw01.CodecTells': WHATEVER THE INPUT: true; the input reads as it did. -/
def codecTellsSpec : ChangeSpec := { name := "codecTells", fn := fun _ => fun
  | [d1, d2, d3] => { results := [.lit (.bool true)], args := [d1, d2, d3] }
  | _ => none }
def codecTellsRow : OpenClaim := { program := "ytcopbkdlpfcjpaa", sum := "3993bf16862a37829e82baae3a56edab65b0074b99921de52eb72bc5a7ed8904", func := "skerry/skerrylaw01.CodecTells", spec := "codecTells", apart := false }
def CodecTellsSaid : Prop := codecTellsRow.holds Try.pinned (OpenSpec.ofChange codecTellsSpec)

/-- ITS FALSE NEIGHBOUR: 'it returns false'. Refute it at one input. -/
def codecTellsWrong : ChangeSpec := { name := "codecTells", fn := fun _ => fun
  | [d1, d2, d3] => { results := [.lit (.bool false)], args := [d1, d2, d3] }
  | _ => none }
def CodecTellsWrongFalsely : Prop := codecTellsRow.holds Try.pinned (OpenSpec.ofChange codecTellsWrong)

/-- 'skerrylaw02.MurmurSums': WHATEVER THE INPUT: true; the input reads as it did. -/
def murmurSumsSpec : ChangeSpec := { name := "murmurSums", fn := fun _ => fun
  | [d1, d2] => { results := [.lit (.bool true)], args := [d1, d2] }
  | _ => none }
def murmurSumsRow : OpenClaim := { program := "ytcopbkdlpfcjpaa", sum := "3993bf16862a37829e82baae3a56edab65b0074b99921de52eb72bc5a7ed8904", func := "skerry/skerrylaw02.MurmurSums", spec := "murmurSums", unfollowed := true, recurses := true, apart := false }
def MurmurSumsSaid : Prop := murmurSumsRow.holds Try.pinned (OpenSpec.ofChange murmurSumsSpec)

/-- ITS FALSE NEIGHBOUR: 'it returns false'. Refute it at one input. -/
def murmurSumsWrong : ChangeSpec := { name := "murmurSums", fn := fun _ => fun
  | [d1, d2] => { results := [.lit (.bool false)], args := [d1, d2] }
  | _ => none }
def MurmurSumsWrongFalsely : Prop := murmurSumsRow.holds Try.pinned (OpenSpec.ofChange murmurSumsWrong)

/-- 'skerrylaw02.MurmurMixes': WHATEVER THE INPUT: true; the input reads as it did. -/
def murmurMixesSpec : ChangeSpec := { name := "murmurMixes", fn := fun _ => fun
  | [d1, d2] => { results := [.lit (.bool true)], args := [d1, d2] }
  | _ => none }
def murmurMixesRow : OpenClaim := { program := "ytcopbkdlpfcjpaa", sum := "3993bf16862a37829e82baae3a56edab65b0074b99921de52eb72bc5a7ed8904", func := "skerry/skerrylaw02.MurmurMixes", spec := "murmurMixes", unfollowed := true, recurses := true, apart := false }
def MurmurMixesSaid : Prop := murmurMixesRow.holds Try.pinned (OpenSpec.ofChange murmurMixesSpec)

/-- ITS FALSE NEIGHBOUR: 'it returns false'. Refute it at one input. -/
def murmurMixesWrong : ChangeSpec := { name := "murmurMixes", fn := fun _ => fun
  | [d1, d2] => { results := [.lit (.bool false)], args := [d1, d2] }
  | _ => none }
def MurmurMixesWrongFalsely : Prop := murmurMixesRow.holds Try.pinned (OpenSpec.ofChange murmurMixesWrong)

/-- 'skerrylaw02.MurmurNothing': WHATEVER THE INPUT: true; the input reads as it did. -/
def murmurNothingSpec : ChangeSpec := { name := "murmurNothing", fn := fun _ => fun
  | [d] => { results := [.lit (.bool true)], args := [d] }
  | _ => none }
def murmurNothingRow : OpenClaim := { program := "ytcopbkdlpfcjpaa", sum := "3993bf16862a37829e82baae3a56edab65b0074b99921de52eb72bc5a7ed8904", func := "skerry/skerrylaw02.MurmurNothing", spec := "murmurNothing", unfollowed := true, recurses := true, apart := false }
def MurmurNothingSaid : Prop := murmurNothingRow.holds Try.pinned (OpenSpec.ofChange murmurNothingSpec)

/-- ITS FALSE NEIGHBOUR: 'it returns false'. Refute it at one input. -/
def murmurNothingWrong : ChangeSpec := { name := "murmurNothing", fn := fun _ => fun
  | [d] => { results := [.lit (.bool false)], args := [d] }
  | _ => none }
def MurmurNothingWrongFalsely : Prop := murmurNothingRow.holds Try.pinned (OpenSpec.ofChange murmurNothingWrong)

/-- 'skerrylaw02.MurmurTokens': WHATEVER THE INPUT: true; the input reads as it did. -/
def murmurTokensSpec : ChangeSpec := { name := "murmurTokens", fn := fun _ => fun
  | [d1, d2] => { results := [.lit (.bool true)], args := [d1, d2] }
  | _ => none }
def murmurTokensRow : OpenClaim := { program := "ytcopbkdlpfcjpaa", sum := "3993bf16862a37829e82baae3a56edab65b0074b99921de52eb72bc5a7ed8904", func := "skerry/skerrylaw02.MurmurTokens", spec := "murmurTokens", unfollowed := true, recurses := true, apart := false }
def MurmurTokensSaid : Prop := murmurTokensRow.holds Try.pinned (OpenSpec.ofChange murmurTokensSpec)

/-- ITS FALSE NEIGHBOUR: 'it returns false'. Refute it at one input. -/
def murmurTokensWrong : ChangeSpec := { name := "murmurTokens", fn := fun _ => fun
  | [d1, d2] => { results := [.lit (.bool false)], args := [d1, d2] }
  | _ => none }
def MurmurTokensWrongFalsely : Prop := murmurTokensRow.holds Try.pinned (OpenSpec.ofChange murmurTokensWrong)

/-- 'skerrylaw02.MurmurHalves': WHATEVER THE INPUT: true; the input reads as it did. -/
def murmurHalvesSpec : ChangeSpec := { name := "murmurHalves", fn := fun _ => fun
  | [d] => { results := [.lit (.bool true)], args := [d] }
  | _ => none }
def murmurHalvesRow : OpenClaim := { program := "ytcopbkdlpfcjpaa", sum := "3993bf16862a37829e82baae3a56edab65b0074b99921de52eb72bc5a7ed8904", func := "skerry/skerrylaw02.MurmurHalves", spec := "murmurHalves", unfollowed := true, recurses := true, apart := false }
def MurmurHalvesSaid : Prop := murmurHalvesRow.holds Try.pinned (OpenSpec.ofChange murmurHalvesSpec)

/-- ITS FALSE NEIGHBOUR: 'it returns false'. Refute it at one input. -/
def murmurHalvesWrong : ChangeSpec := { name := "murmurHalves", fn := fun _ => fun
  | [d] => { results := [.lit (.bool false)], args := [d] }
  | _ => none }
def MurmurHalvesWrongFalsely : Prop := murmurHalvesRow.holds Try.pinned (OpenSpec.ofChange murmurHalvesWrong)

/-- 'skerrylaw08.BloomGrows': WHATEVER THE INPUT: true; the input reads as it did. -/
def bloomGrowsSpec : ChangeSpec := { name := "bloomGrows", fn := fun _ => fun
  | [d1, d2, d3] => { results := [.lit (.bool true)], args := [d1, d2, d3] }
  | _ => none }
def bloomGrowsRow : OpenClaim := { program := "ytcopbkdlpfcjpaa", sum := "3993bf16862a37829e82baae3a56edab65b0074b99921de52eb72bc5a7ed8904", func := "skerry/skerrylaw08.BloomGrows", spec := "bloomGrows", unfollowed := true, recurses := true, apart := false }
def BloomGrowsSaid : Prop := bloomGrowsRow.holds Try.pinned (OpenSpec.ofChange bloomGrowsSpec)

/-- ITS FALSE NEIGHBOUR: 'it returns false'. Refute it at one input. -/
def bloomGrowsWrong : ChangeSpec := { name := "bloomGrows", fn := fun _ => fun
  | [d1, d2, d3] => { results := [.lit (.bool false)], args := [d1, d2, d3] }
  | _ => none }
def BloomGrowsWrongFalsely : Prop := bloomGrowsRow.holds Try.pinned (OpenSpec.ofChange bloomGrowsWrong)

/-- 'skerrylaw08.BloomActs': WHATEVER THE INPUT: true; the input reads as it did. -/
def bloomActsSpec : ChangeSpec := { name := "bloomActs", fn := fun _ => fun
  | [d1, d2, d3] => { results := [.lit (.bool true)], args := [d1, d2, d3] }
  | _ => none }
def bloomActsRow : OpenClaim := { program := "ytcopbkdlpfcjpaa", sum := "3993bf16862a37829e82baae3a56edab65b0074b99921de52eb72bc5a7ed8904", func := "skerry/skerrylaw08.BloomActs", spec := "bloomActs", unfollowed := true, recurses := true, apart := false }
def BloomActsSaid : Prop := bloomActsRow.holds Try.pinned (OpenSpec.ofChange bloomActsSpec)

/-- ITS FALSE NEIGHBOUR: 'it returns false'. Refute it at one input. -/
def bloomActsWrong : ChangeSpec := { name := "bloomActs", fn := fun _ => fun
  | [d1, d2, d3] => { results := [.lit (.bool false)], args := [d1, d2, d3] }
  | _ => none }
def BloomActsWrongFalsely : Prop := bloomActsRow.holds Try.pinned (OpenSpec.ofChange bloomActsWrong)

/-- 'skerrylaw08.BloomNone': WHATEVER THE INPUT: true; the input reads as it did. -/
def bloomNoneSpec : ChangeSpec := { name := "bloomNone", fn := fun _ => fun
  | [d] => { results := [.lit (.bool true)], args := [d] }
  | _ => none }
def bloomNoneRow : OpenClaim := { program := "ytcopbkdlpfcjpaa", sum := "3993bf16862a37829e82baae3a56edab65b0074b99921de52eb72bc5a7ed8904", func := "skerry/skerrylaw08.BloomNone", spec := "bloomNone", unfollowed := true, recurses := true, apart := false }
def BloomNoneSaid : Prop := bloomNoneRow.holds Try.pinned (OpenSpec.ofChange bloomNoneSpec)

/-- ITS FALSE NEIGHBOUR: 'it returns false'. Refute it at one input. -/
def bloomNoneWrong : ChangeSpec := { name := "bloomNone", fn := fun _ => fun
  | [d] => { results := [.lit (.bool false)], args := [d] }
  | _ => none }
def BloomNoneWrongFalsely : Prop := bloomNoneRow.holds Try.pinned (OpenSpec.ofChange bloomNoneWrong)

/-- 'skerrylaw01.CodecCells': WHATEVER THE INPUT: true; the input reads as it did. -/
def codecCellsSpec : ChangeSpec := { name := "codecCells", fn := fun _ => fun
  | [d1, d2] => { results := [.lit (.bool true)], args := [d1, d2] }
  | _ => none }
def codecCellsRow : OpenClaim := { program := "ytcopbkdlpfcjpaa", sum := "3993bf16862a37829e82baae3a56edab65b0074b99921de52eb72bc5a7ed8904", func := "skerry/skerrylaw01.CodecCells", spec := "codecCells", unfollowed := true, recurses := true, apart := false }
def CodecCellsSaid : Prop := codecCellsRow.holds Try.pinned (OpenSpec.ofChange codecCellsSpec)

/-- ITS FALSE NEIGHBOUR: 'it returns false'. Refute it at one input. -/
def codecCellsWrong : ChangeSpec := { name := "codecCells", fn := fun _ => fun
  | [d1, d2] => { results := [.lit (.bool false)], args := [d1, d2] }
  | _ => none }
def CodecCellsWrongFalsely : Prop := codecCellsRow.holds Try.pinned (OpenSpec.ofChange codecCellsWrong)

/-- 'skerrylaw01.CodecBack': WHATEVER THE INPUT: true; the input reads as it did. -/
def codecBackSpec : ChangeSpec := { name := "codecBack", fn := fun _ => fun
  | [d1, d2, d3] => { results := [.lit (.bool true)], args := [d1, d2, d3] }
  | _ => none }
def codecBackRow : OpenClaim := { program := "ytcopbkdlpfcjpaa", sum := "3993bf16862a37829e82baae3a56edab65b0074b99921de52eb72bc5a7ed8904", func := "skerry/skerrylaw01.CodecBack", spec := "codecBack", unfollowed := true, recurses := true, apart := false }
def CodecBackSaid : Prop := codecBackRow.holds Try.pinned (OpenSpec.ofChange codecBackSpec)

/-- ITS FALSE NEIGHBOUR: 'it returns false'. Refute it at one input. -/
def codecBackWrong : ChangeSpec := { name := "codecBack", fn := fun _ => fun
  | [d1, d2, d3] => { results := [.lit (.bool false)], args := [d1, d2, d3] }
  | _ => none }
def CodecBackWrongFalsely : Prop := codecBackRow.holds Try.pinned (OpenSpec.ofChange codecBackWrong)

/- THE SECOND FORM. 'bulk': how many values and letters a reading holds, each counted each time it is reached (what is shared counts as often as it is met; a slice's spare places count too). A statement '..UptoSaid' is the law's where the arguments, and the package variables that the reading takes, are together of bulk at most 1048576: NARROWER than '..Said'. Prove '..Said' where nothing that the law and all that it calls make is longer than what came in: it says more and counts as full. Else prove '..UptoSaid'. A law counts once. -/
mutual
def uptoBulk {H : Type} : DataW H → Nat
  | .lit (.string bytes) => bytes.length + 1
  | .lit _ => 1
  | .nil => 1
  | .ptr d => uptoBulk d + 1
  | .slice elems spare => uptoBulkAll elems + uptoBulkAll spare + 1
  | .agg parts => uptoBulkAll parts + 1
  | .iface _ d => uptoBulk d + 1
  | .map entries => uptoBulkEntries entries + 1
  | .held _ => 1
def uptoBulkAll {H : Type} : List (DataW H) → Nat
  | [] => 0
  | d :: r => uptoBulk d + uptoBulkAll r
def uptoBulkEntries {H : Type} : List (Lit × DataW H) → Nat
  | [] => 0
  | x :: r => uptoBulkEntry x + uptoBulkEntries r
def uptoBulkEntry {H : Type} : Lit × DataW H → Nat
  | (.string bytes, d) => bytes.length + uptoBulk d + 1
  | (_, d) => uptoBulk d + 1
 end
def uptoSmall : (H : Type) → List (DataW H) → Bool := fun _ ds => decide (uptoBulkAll ds ≤ 1048576)
def OpenSpec.upto (s : _root_.Go.ChangeSpec) : _root_.Go.OpenSpec := { _root_.Go.OpenSpec.ofChange s with cond := some uptoSmall }

/-- 'skerrylaw01.CodecZigs', WHERE WHAT IT READS IS OF BULK AT MOST 1048576: true; the input reads as it did. -/
def codecZigsUptoRow : OpenClaim := { program := "ytcopbkdlpfcjpaa", sum := "3993bf16862a37829e82baae3a56edab65b0074b99921de52eb72bc5a7ed8904", func := "skerry/skerrylaw01.CodecZigs", spec := "codecZigs", apart := false, narrowed := true }
def CodecZigsUptoSaid : Prop := codecZigsUptoRow.holds Try.pinned (OpenSpec.upto codecZigsSpec)

/-- 'skerrylaw01.CodecShort', WHERE WHAT IT READS IS OF BULK AT MOST 1048576: true; the input reads as it did. -/
def codecShortUptoRow : OpenClaim := { program := "ytcopbkdlpfcjpaa", sum := "3993bf16862a37829e82baae3a56edab65b0074b99921de52eb72bc5a7ed8904", func := "skerry/skerrylaw01.CodecShort", spec := "codecShort", apart := false, narrowed := true }
def CodecShortUptoSaid : Prop := codecShortUptoRow.holds Try.pinned (OpenSpec.upto codecShortSpec)

/-- 'skerrylaw01.CodecNumbers', WHERE WHAT IT READS IS OF BULK AT MOST 1048576: true; the input reads as it did. -/
def codecNumbersUptoRow : OpenClaim := { program := "ytcopbkdlpfcjpaa", sum := "3993bf16862a37829e82baae3a56edab65b0074b99921de52eb72bc5a7ed8904", func := "skerry/skerrylaw01.CodecNumbers", spec := "codecNumbers", apart := false, narrowed := true }
def CodecNumbersUptoSaid : Prop := codecNumbersUptoRow.holds Try.pinned (OpenSpec.upto codecNumbersSpec)

/-- 'skerrylaw01.CodecTexts', WHERE WHAT IT READS IS OF BULK AT MOST 1048576: true; the input reads as it did. -/
def codecTextsUptoRow : OpenClaim := { program := "ytcopbkdlpfcjpaa", sum := "3993bf16862a37829e82baae3a56edab65b0074b99921de52eb72bc5a7ed8904", func := "skerry/skerrylaw01.CodecTexts", spec := "codecTexts", apart := false, narrowed := true }
def CodecTextsUptoSaid : Prop := codecTextsUptoRow.holds Try.pinned (OpenSpec.upto codecTextsSpec)

/-- 'skerrylaw08.BloomReads', WHERE WHAT IT READS IS OF BULK AT MOST 1048576: true; the input reads as it did. -/
def bloomReadsUptoRow : OpenClaim := { program := "ytcopbkdlpfcjpaa", sum := "3993bf16862a37829e82baae3a56edab65b0074b99921de52eb72bc5a7ed8904", func := "skerry/skerrylaw08.BloomReads", spec := "bloomReads", unfollowed := true, recurses := true, apart := false, narrowed := true }
def BloomReadsUptoSaid : Prop := bloomReadsUptoRow.holds Try.pinned (OpenSpec.upto bloomReadsSpec)

/-- 'skerrylaw01.CodecFrames', WHERE WHAT IT READS IS OF BULK AT MOST 1048576: true; the input reads as it did. -/
def codecFramesUptoRow : OpenClaim := { program := "ytcopbkdlpfcjpaa", sum := "3993bf16862a37829e82baae3a56edab65b0074b99921de52eb72bc5a7ed8904", func := "skerry/skerrylaw01.CodecFrames", spec := "codecFrames", apart := false, narrowed := true }
def CodecFramesUptoSaid : Prop := codecFramesUptoRow.holds Try.pinned (OpenSpec.upto codecFramesSpec)

/-- 'skerrylaw08.BloomNever', WHERE WHAT IT READS IS OF BULK AT MOST 1048576: true; the input reads as it did. -/
def bloomNeverUptoRow : OpenClaim := { program := "ytcopbkdlpfcjpaa", sum := "3993bf16862a37829e82baae3a56edab65b0074b99921de52eb72bc5a7ed8904", func := "skerry/skerrylaw08.BloomNever", spec := "bloomNever", unfollowed := true, recurses := true, apart := false, narrowed := true }
def BloomNeverUptoSaid : Prop := bloomNeverUptoRow.holds Try.pinned (OpenSpec.upto bloomNeverSpec)

/-- 'skerrylaw01.CodecTells', WHERE WHAT IT READS IS OF BULK AT MOST 1048576: true; the input reads as it did. -/
def codecTellsUptoRow : OpenClaim := { program := "ytcopbkdlpfcjpaa", sum := "3993bf16862a37829e82baae3a56edab65b0074b99921de52eb72bc5a7ed8904", func := "skerry/skerrylaw01.CodecTells", spec := "codecTells", apart := false, narrowed := true }
def CodecTellsUptoSaid : Prop := codecTellsUptoRow.holds Try.pinned (OpenSpec.upto codecTellsSpec)

/-- 'skerrylaw02.MurmurSums', WHERE WHAT IT READS IS OF BULK AT MOST 1048576: true; the input reads as it did. -/
def murmurSumsUptoRow : OpenClaim := { program := "ytcopbkdlpfcjpaa", sum := "3993bf16862a37829e82baae3a56edab65b0074b99921de52eb72bc5a7ed8904", func := "skerry/skerrylaw02.MurmurSums", spec := "murmurSums", unfollowed := true, recurses := true, apart := false, narrowed := true }
def MurmurSumsUptoSaid : Prop := murmurSumsUptoRow.holds Try.pinned (OpenSpec.upto murmurSumsSpec)

/-- 'skerrylaw02.MurmurMixes', WHERE WHAT IT READS IS OF BULK AT MOST 1048576: true; the input reads as it did. -/
def murmurMixesUptoRow : OpenClaim := { program := "ytcopbkdlpfcjpaa", sum := "3993bf16862a37829e82baae3a56edab65b0074b99921de52eb72bc5a7ed8904", func := "skerry/skerrylaw02.MurmurMixes", spec := "murmurMixes", unfollowed := true, recurses := true, apart := false, narrowed := true }
def MurmurMixesUptoSaid : Prop := murmurMixesUptoRow.holds Try.pinned (OpenSpec.upto murmurMixesSpec)

/-- 'skerrylaw02.MurmurNothing', WHERE WHAT IT READS IS OF BULK AT MOST 1048576: true; the input reads as it did. -/
def murmurNothingUptoRow : OpenClaim := { program := "ytcopbkdlpfcjpaa", sum := "3993bf16862a37829e82baae3a56edab65b0074b99921de52eb72bc5a7ed8904", func := "skerry/skerrylaw02.MurmurNothing", spec := "murmurNothing", unfollowed := true, recurses := true, apart := false, narrowed := true }
def MurmurNothingUptoSaid : Prop := murmurNothingUptoRow.holds Try.pinned (OpenSpec.upto murmurNothingSpec)

/-- 'skerrylaw02.MurmurTokens', WHERE WHAT IT READS IS OF BULK AT MOST 1048576: true; the input reads as it did. -/
def murmurTokensUptoRow : OpenClaim := { program := "ytcopbkdlpfcjpaa", sum := "3993bf16862a37829e82baae3a56edab65b0074b99921de52eb72bc5a7ed8904", func := "skerry/skerrylaw02.MurmurTokens", spec := "murmurTokens", unfollowed := true, recurses := true, apart := false, narrowed := true }
def MurmurTokensUptoSaid : Prop := murmurTokensUptoRow.holds Try.pinned (OpenSpec.upto murmurTokensSpec)

/-- 'skerrylaw02.MurmurHalves', WHERE WHAT IT READS IS OF BULK AT MOST 1048576: true; the input reads as it did. -/
def murmurHalvesUptoRow : OpenClaim := { program := "ytcopbkdlpfcjpaa", sum := "3993bf16862a37829e82baae3a56edab65b0074b99921de52eb72bc5a7ed8904", func := "skerry/skerrylaw02.MurmurHalves", spec := "murmurHalves", unfollowed := true, recurses := true, apart := false, narrowed := true }
def MurmurHalvesUptoSaid : Prop := murmurHalvesUptoRow.holds Try.pinned (OpenSpec.upto murmurHalvesSpec)

/-- 'skerrylaw08.BloomGrows', WHERE WHAT IT READS IS OF BULK AT MOST 1048576: true; the input reads as it did. -/
def bloomGrowsUptoRow : OpenClaim := { program := "ytcopbkdlpfcjpaa", sum := "3993bf16862a37829e82baae3a56edab65b0074b99921de52eb72bc5a7ed8904", func := "skerry/skerrylaw08.BloomGrows", spec := "bloomGrows", unfollowed := true, recurses := true, apart := false, narrowed := true }
def BloomGrowsUptoSaid : Prop := bloomGrowsUptoRow.holds Try.pinned (OpenSpec.upto bloomGrowsSpec)

/-- 'skerrylaw08.BloomActs', WHERE WHAT IT READS IS OF BULK AT MOST 1048576: true; the input reads as it did. -/
def bloomActsUptoRow : OpenClaim := { program := "ytcopbkdlpfcjpaa", sum := "3993bf16862a37829e82baae3a56edab65b0074b99921de52eb72bc5a7ed8904", func := "skerry/skerrylaw08.BloomActs", spec := "bloomActs", unfollowed := true, recurses := true, apart := false, narrowed := true }
def BloomActsUptoSaid : Prop := bloomActsUptoRow.holds Try.pinned (OpenSpec.upto bloomActsSpec)

/-- 'skerrylaw08.BloomNone', WHERE WHAT IT READS IS OF BULK AT MOST 1048576: true; the input reads as it did. -/
def bloomNoneUptoRow : OpenClaim := { program := "ytcopbkdlpfcjpaa", sum := "3993bf16862a37829e82baae3a56edab65b0074b99921de52eb72bc5a7ed8904", func := "skerry/skerrylaw08.BloomNone", spec := "bloomNone", unfollowed := true, recurses := true, apart := false, narrowed := true }
def BloomNoneUptoSaid : Prop := bloomNoneUptoRow.holds Try.pinned (OpenSpec.upto bloomNoneSpec)

/-- 'skerrylaw01.CodecCells', WHERE WHAT IT READS IS OF BULK AT MOST 1048576: true; the input reads as it did. -/
def codecCellsUptoRow : OpenClaim := { program := "ytcopbkdlpfcjpaa", sum := "3993bf16862a37829e82baae3a56edab65b0074b99921de52eb72bc5a7ed8904", func := "skerry/skerrylaw01.CodecCells", spec := "codecCells", unfollowed := true, recurses := true, apart := false, narrowed := true }
def CodecCellsUptoSaid : Prop := codecCellsUptoRow.holds Try.pinned (OpenSpec.upto codecCellsSpec)

/-- 'skerrylaw01.CodecBack', WHERE WHAT IT READS IS OF BULK AT MOST 1048576: true; the input reads as it did. -/
def codecBackUptoRow : OpenClaim := { program := "ytcopbkdlpfcjpaa", sum := "3993bf16862a37829e82baae3a56edab65b0074b99921de52eb72bc5a7ed8904", func := "skerry/skerrylaw01.CodecBack", spec := "codecBack", unfollowed := true, recurses := true, apart := false, narrowed := true }
def CodecBackUptoSaid : Prop := codecBackUptoRow.holds Try.pinned (OpenSpec.upto codecBackSpec)

end Rows
end Go.Proofs.Ytcopbkdlpfcjpaa
