/-
  NARROWER THAN 'FOR EVERY INPUT', by the rows' own cells (each row's printed sentence says how): ValueLays: loops, laid · ValueOf: loops, laid · ValueKeys: laid · ValueQuotes: laid · ValueDeep: laid · ValueGets: loops, laid · ValueParts: loops, laid · BlobsScript: laid · BlobsLoads: laid · BlobsNone: laid · BlobsOrder: laid.
  DERIVED. THE GIVEN ROWS OF THIS SEAT. 11 by the template 'for every input the law returns true; each argument reads behind the call as it read before'; 0 by the template 'total and deterministic' (their statements: YtbnoihpooeombaaDoorTotals.lean).
  GIVEN WITH THE SEED: the statements are not yours to turn. If you find one false, say at which input.
  Laid BY PROGRAM, IN A SANDBOX (cutbox-rows.mjs): the forced cells as the released guide's own fill.sh prints them over the translation 0a909cb554af7b52… (all of the seat's roots in one cut). By AI agents, Wed Nov 11 2026. No macro, syntax, notation, axiom, sorry.
-/
import Derived.Test.YtbnoihpooeombaaDoorChecked
import GoSem.Claim
import GoSem.ClaimJoined
import GoSem.ClaimMapViews
import Derived.JoinedTies
import Derived.KernelRfl
namespace Go.Proofs.YtbnoihpooeombaaDoor
/- THE CELL 'sum', in the pinned program and in every row, IS THE sha256 OF THE DUMP (.gsa) THAT YtbnoihpooeombaaDoorProg.lean LOADS. Nothing in Lean hashes anything: it is a label: what it is worth is what the hold of that sum in a sandbox is worth. -/
noncomputable def Tryd.pinned : Pinned := { name := "ytbnoihpooeombaadoor", sum := "0a909cb554af7b52631f706630f24176db89043e1ab34c14be869473c4416d95", checked := Tryd.checked }
namespace Rows
def none {H : Type} : Left H := { results := [], args := [] }

/- WHAT THE LISTED PACKAGE-LEVEL VARIABLES READ AS WHEN THE CALL BEGINS. Each datum BY PROGRAM (the guide's laid-datum.mjs) off the statement by which the dump's own 'gosem.cut.vars' lays the variable. In a bare row this is a premise. The card (YtbnoihpooeombaaDoorCards.lean) ties it to the program's text. -/
def laid_math_bits_deBruijn32tab {H : Type} : DataW H := .agg [.lit (.int .u8 0), .lit (.int .u8 1), .lit (.int .u8 28), .lit (.int .u8 2), .lit (.int .u8 29), .lit (.int .u8 14), .lit (.int .u8 24), .lit (.int .u8 3), .lit (.int .u8 30), .lit (.int .u8 22), .lit (.int .u8 20), .lit (.int .u8 15), .lit (.int .u8 25), .lit (.int .u8 17), .lit (.int .u8 4), .lit (.int .u8 8), .lit (.int .u8 31), .lit (.int .u8 27), .lit (.int .u8 13), .lit (.int .u8 23), .lit (.int .u8 21), .lit (.int .u8 19), .lit (.int .u8 16), .lit (.int .u8 7), .lit (.int .u8 26), .lit (.int .u8 12), .lit (.int .u8 18), .lit (.int .u8 6), .lit (.int .u8 11), .lit (.int .u8 5), .lit (.int .u8 10), .lit (.int .u8 9)]
def laid_math_bits_deBruijn64tab {H : Type} : DataW H := .agg [.lit (.int .u8 0), .lit (.int .u8 1), .lit (.int .u8 56), .lit (.int .u8 2), .lit (.int .u8 57), .lit (.int .u8 49), .lit (.int .u8 28), .lit (.int .u8 3), .lit (.int .u8 61), .lit (.int .u8 58), .lit (.int .u8 42), .lit (.int .u8 50), .lit (.int .u8 38), .lit (.int .u8 29), .lit (.int .u8 17), .lit (.int .u8 4), .lit (.int .u8 62), .lit (.int .u8 47), .lit (.int .u8 59), .lit (.int .u8 36), .lit (.int .u8 45), .lit (.int .u8 43), .lit (.int .u8 51), .lit (.int .u8 22), .lit (.int .u8 53), .lit (.int .u8 39), .lit (.int .u8 33), .lit (.int .u8 30), .lit (.int .u8 24), .lit (.int .u8 18), .lit (.int .u8 12), .lit (.int .u8 5), .lit (.int .u8 63), .lit (.int .u8 55), .lit (.int .u8 48), .lit (.int .u8 27), .lit (.int .u8 60), .lit (.int .u8 41), .lit (.int .u8 37), .lit (.int .u8 16), .lit (.int .u8 46), .lit (.int .u8 35), .lit (.int .u8 44), .lit (.int .u8 21), .lit (.int .u8 52), .lit (.int .u8 32), .lit (.int .u8 23), .lit (.int .u8 11), .lit (.int .u8 54), .lit (.int .u8 26), .lit (.int .u8 40), .lit (.int .u8 15), .lit (.int .u8 34), .lit (.int .u8 20), .lit (.int .u8 31), .lit (.int .u8 10), .lit (.int .u8 25), .lit (.int .u8 14), .lit (.int .u8 19), .lit (.int .u8 9), .lit (.int .u8 13), .lit (.int .u8 8), .lit (.int .u8 7), .lit (.int .u8 6)]
def laid_internal_strconv_uint64pow10 {H : Type} : DataW H := .agg [.lit (.int .u64 1), .lit (.int .u64 10), .lit (.int .u64 100), .lit (.int .u64 1000), .lit (.int .u64 10000), .lit (.int .u64 100000), .lit (.int .u64 1000000), .lit (.int .u64 10000000), .lit (.int .u64 100000000), .lit (.int .u64 1000000000), .lit (.int .u64 10000000000), .lit (.int .u64 100000000000), .lit (.int .u64 1000000000000), .lit (.int .u64 10000000000000), .lit (.int .u64 100000000000000), .lit (.int .u64 1000000000000000), .lit (.int .u64 10000000000000000), .lit (.int .u64 100000000000000000), .lit (.int .u64 1000000000000000000), .lit (.int .u64 10000000000000000000)]

/-- 'hogsheadlaw15.ValueLays': WHATEVER THE INPUT: true; the input reads as it did. -/
def valueLaysSpec : ChangeSpec := { name := "valueLays", fn := fun _ => fun
  | [d1, d2, d3] => { results := [.lit (.bool true)], args := [d1, d2, d3] }
  | _ => none }
def valueLaysRow : OpenClaim := { program := "ytbnoihpooeombaadoor", sum := "0a909cb554af7b52631f706630f24176db89043e1ab34c14be869473c4416d95", func := "hogshead/hogsheadlaw15.ValueLays", spec := "valueLays", inPlace := ["slices.overlaps[string]", "slices.overlaps[hogshead/api.Value]", "internal/abi.NoEscape", "internal/bytealg.MakeNoZero"], unfollowed := true, recurses := true, named := ["internal/strconv.uint64pow10", "math/bits.deBruijn32tab", "math/bits.deBruijn64tab"], loops := true, apart := false, laid := [("math/bits.deBruijn32tab", laid_math_bits_deBruijn32tab), ("math/bits.deBruijn64tab", laid_math_bits_deBruijn64tab), ("internal/strconv.uint64pow10", laid_internal_strconv_uint64pow10)] }
def ValueLaysSaid : Prop := valueLaysRow.holds Tryd.pinned (OpenSpec.ofChange valueLaysSpec)

/-- ITS FALSE NEIGHBOUR: 'it returns false'. Refute it at one input. -/
def valueLaysWrong : ChangeSpec := { name := "valueLays", fn := fun _ => fun
  | [d1, d2, d3] => { results := [.lit (.bool false)], args := [d1, d2, d3] }
  | _ => none }
def ValueLaysWrongFalsely : Prop := valueLaysRow.holds Tryd.pinned (OpenSpec.ofChange valueLaysWrong)

/-- 'hogsheadlaw15.ValueOf': WHATEVER THE INPUT: true; the input reads as it did. -/
def valueOfSpec : ChangeSpec := { name := "valueOf", fn := fun _ => fun
  | [d1, d2] => { results := [.lit (.bool true)], args := [d1, d2] }
  | _ => none }
def valueOfRow : OpenClaim := { program := "ytbnoihpooeombaadoor", sum := "0a909cb554af7b52631f706630f24176db89043e1ab34c14be869473c4416d95", func := "hogshead/hogsheadlaw15.ValueOf", spec := "valueOf", inPlace := ["slices.overlaps[string]", "slices.overlaps[hogshead/api.Value]", "internal/abi.NoEscape", "internal/bytealg.MakeNoZero"], unfollowed := true, recurses := true, named := ["internal/strconv.uint64pow10", "math/bits.deBruijn32tab", "math/bits.deBruijn64tab"], loops := true, apart := false, laid := [("math/bits.deBruijn32tab", laid_math_bits_deBruijn32tab), ("math/bits.deBruijn64tab", laid_math_bits_deBruijn64tab), ("internal/strconv.uint64pow10", laid_internal_strconv_uint64pow10)] }
def ValueOfSaid : Prop := valueOfRow.holds Tryd.pinned (OpenSpec.ofChange valueOfSpec)

/-- ITS FALSE NEIGHBOUR: 'it returns false'. Refute it at one input. -/
def valueOfWrong : ChangeSpec := { name := "valueOf", fn := fun _ => fun
  | [d1, d2] => { results := [.lit (.bool false)], args := [d1, d2] }
  | _ => none }
def ValueOfWrongFalsely : Prop := valueOfRow.holds Tryd.pinned (OpenSpec.ofChange valueOfWrong)

/-- 'hogsheadlaw15.ValueKeys': WHATEVER THE INPUT: true; the input reads as it did. -/
def valueKeysSpec : ChangeSpec := { name := "valueKeys", fn := fun _ => fun
  | [d1, d2] => { results := [.lit (.bool true)], args := [d1, d2] }
  | _ => none }
def valueKeysRow : OpenClaim := { program := "ytbnoihpooeombaadoor", sum := "0a909cb554af7b52631f706630f24176db89043e1ab34c14be869473c4416d95", func := "hogshead/hogsheadlaw15.ValueKeys", spec := "valueKeys", inPlace := ["slices.overlaps[string]", "slices.overlaps[hogshead/api.Value]", "internal/abi.NoEscape", "internal/bytealg.MakeNoZero"], unfollowed := true, recurses := true, named := ["internal/strconv.uint64pow10", "math/bits.deBruijn32tab", "math/bits.deBruijn64tab"], apart := false, laid := [("math/bits.deBruijn32tab", laid_math_bits_deBruijn32tab), ("math/bits.deBruijn64tab", laid_math_bits_deBruijn64tab), ("internal/strconv.uint64pow10", laid_internal_strconv_uint64pow10)] }
def ValueKeysSaid : Prop := valueKeysRow.holds Tryd.pinned (OpenSpec.ofChange valueKeysSpec)

/-- ITS FALSE NEIGHBOUR: 'it returns false'. Refute it at one input. -/
def valueKeysWrong : ChangeSpec := { name := "valueKeys", fn := fun _ => fun
  | [d1, d2] => { results := [.lit (.bool false)], args := [d1, d2] }
  | _ => none }
def ValueKeysWrongFalsely : Prop := valueKeysRow.holds Tryd.pinned (OpenSpec.ofChange valueKeysWrong)

/-- 'hogsheadlaw15.ValueQuotes': WHATEVER THE INPUT: true; the input reads as it did. -/
def valueQuotesSpec : ChangeSpec := { name := "valueQuotes", fn := fun _ => fun
  | [d1, d2] => { results := [.lit (.bool true)], args := [d1, d2] }
  | _ => none }
def valueQuotesRow : OpenClaim := { program := "ytbnoihpooeombaadoor", sum := "0a909cb554af7b52631f706630f24176db89043e1ab34c14be869473c4416d95", func := "hogshead/hogsheadlaw15.ValueQuotes", spec := "valueQuotes", inPlace := ["slices.overlaps[string]", "slices.overlaps[hogshead/api.Value]", "internal/abi.NoEscape", "internal/bytealg.MakeNoZero"], unfollowed := true, recurses := true, named := ["internal/strconv.uint64pow10", "math/bits.deBruijn32tab", "math/bits.deBruijn64tab"], apart := false, laid := [("math/bits.deBruijn32tab", laid_math_bits_deBruijn32tab), ("math/bits.deBruijn64tab", laid_math_bits_deBruijn64tab), ("internal/strconv.uint64pow10", laid_internal_strconv_uint64pow10)] }
def ValueQuotesSaid : Prop := valueQuotesRow.holds Tryd.pinned (OpenSpec.ofChange valueQuotesSpec)

/-- ITS FALSE NEIGHBOUR: 'it returns false'. Refute it at one input. -/
def valueQuotesWrong : ChangeSpec := { name := "valueQuotes", fn := fun _ => fun
  | [d1, d2] => { results := [.lit (.bool false)], args := [d1, d2] }
  | _ => none }
def ValueQuotesWrongFalsely : Prop := valueQuotesRow.holds Tryd.pinned (OpenSpec.ofChange valueQuotesWrong)

/-- 'hogsheadlaw15.ValueDeep': WHATEVER THE INPUT: true; the input reads as it did. -/
def valueDeepSpec : ChangeSpec := { name := "valueDeep", fn := fun _ => fun
  | [d1, d2] => { results := [.lit (.bool true)], args := [d1, d2] }
  | _ => none }
def valueDeepRow : OpenClaim := { program := "ytbnoihpooeombaadoor", sum := "0a909cb554af7b52631f706630f24176db89043e1ab34c14be869473c4416d95", func := "hogshead/hogsheadlaw15.ValueDeep", spec := "valueDeep", inPlace := ["internal/abi.NoEscape", "internal/bytealg.MakeNoZero", "slices.overlaps[string]", "slices.overlaps[hogshead/api.Value]"], unfollowed := true, recurses := true, named := ["internal/strconv.uint64pow10", "math/bits.deBruijn32tab", "math/bits.deBruijn64tab"], apart := false, laid := [("math/bits.deBruijn32tab", laid_math_bits_deBruijn32tab), ("math/bits.deBruijn64tab", laid_math_bits_deBruijn64tab), ("internal/strconv.uint64pow10", laid_internal_strconv_uint64pow10)] }
def ValueDeepSaid : Prop := valueDeepRow.holds Tryd.pinned (OpenSpec.ofChange valueDeepSpec)

/-- ITS FALSE NEIGHBOUR: 'it returns false'. Refute it at one input. -/
def valueDeepWrong : ChangeSpec := { name := "valueDeep", fn := fun _ => fun
  | [d1, d2] => { results := [.lit (.bool false)], args := [d1, d2] }
  | _ => none }
def ValueDeepWrongFalsely : Prop := valueDeepRow.holds Tryd.pinned (OpenSpec.ofChange valueDeepWrong)

/-- 'hogsheadlaw15.ValueGets': WHATEVER THE INPUT: true; the input reads as it did. -/
def valueGetsSpec : ChangeSpec := { name := "valueGets", fn := fun _ => fun
  | [d1, d2, d3] => { results := [.lit (.bool true)], args := [d1, d2, d3] }
  | _ => none }
def valueGetsRow : OpenClaim := { program := "ytbnoihpooeombaadoor", sum := "0a909cb554af7b52631f706630f24176db89043e1ab34c14be869473c4416d95", func := "hogshead/hogsheadlaw15.ValueGets", spec := "valueGets", inPlace := ["slices.overlaps[string]", "slices.overlaps[hogshead/api.Value]", "internal/abi.NoEscape", "internal/bytealg.MakeNoZero"], unfollowed := true, recurses := true, named := ["internal/strconv.uint64pow10", "math/bits.deBruijn32tab", "math/bits.deBruijn64tab"], loops := true, apart := false, laid := [("math/bits.deBruijn32tab", laid_math_bits_deBruijn32tab), ("math/bits.deBruijn64tab", laid_math_bits_deBruijn64tab), ("internal/strconv.uint64pow10", laid_internal_strconv_uint64pow10)] }
def ValueGetsSaid : Prop := valueGetsRow.holds Tryd.pinned (OpenSpec.ofChange valueGetsSpec)

/-- ITS FALSE NEIGHBOUR: 'it returns false'. Refute it at one input. -/
def valueGetsWrong : ChangeSpec := { name := "valueGets", fn := fun _ => fun
  | [d1, d2, d3] => { results := [.lit (.bool false)], args := [d1, d2, d3] }
  | _ => none }
def ValueGetsWrongFalsely : Prop := valueGetsRow.holds Tryd.pinned (OpenSpec.ofChange valueGetsWrong)

/-- 'hogsheadlaw15.ValueParts': WHATEVER THE INPUT: true; the input reads as it did. -/
def valuePartsSpec : ChangeSpec := { name := "valueParts", fn := fun _ => fun
  | [d] => { results := [.lit (.bool true)], args := [d] }
  | _ => none }
def valuePartsRow : OpenClaim := { program := "ytbnoihpooeombaadoor", sum := "0a909cb554af7b52631f706630f24176db89043e1ab34c14be869473c4416d95", func := "hogshead/hogsheadlaw15.ValueParts", spec := "valueParts", inPlace := ["slices.overlaps[string]", "slices.overlaps[hogshead/api.Value]", "internal/abi.NoEscape", "internal/bytealg.MakeNoZero"], unfollowed := true, recurses := true, named := ["internal/strconv.uint64pow10", "math/bits.deBruijn32tab", "math/bits.deBruijn64tab"], loops := true, apart := false, laid := [("math/bits.deBruijn32tab", laid_math_bits_deBruijn32tab), ("math/bits.deBruijn64tab", laid_math_bits_deBruijn64tab), ("internal/strconv.uint64pow10", laid_internal_strconv_uint64pow10)] }
def ValuePartsSaid : Prop := valuePartsRow.holds Tryd.pinned (OpenSpec.ofChange valuePartsSpec)

/-- ITS FALSE NEIGHBOUR: 'it returns false'. Refute it at one input. -/
def valuePartsWrong : ChangeSpec := { name := "valueParts", fn := fun _ => fun
  | [d] => { results := [.lit (.bool false)], args := [d] }
  | _ => none }
def ValuePartsWrongFalsely : Prop := valuePartsRow.holds Tryd.pinned (OpenSpec.ofChange valuePartsWrong)

/-- 'hogsheadlaw23.BlobsScript': WHATEVER THE INPUT: true; the input reads as it did. -/
def blobsScriptSpec : ChangeSpec := { name := "blobsScript", fn := fun _ => fun
  | [d1, d2] => { results := [.lit (.bool true)], args := [d1, d2] }
  | _ => none }
def blobsScriptRow : OpenClaim := { program := "ytbnoihpooeombaadoor", sum := "0a909cb554af7b52631f706630f24176db89043e1ab34c14be869473c4416d95", func := "hogshead/hogsheadlaw23.BlobsScript", spec := "blobsScript", inPlace := ["internal/abi.NoEscape", "internal/bytealg.MakeNoZero", "slices.overlaps[hogshead/api.Blob]"], unfollowed := true, recurses := true, named := ["internal/strconv.uint64pow10", "math/bits.deBruijn32tab", "math/bits.deBruijn64tab"], apart := false, laid := [("math/bits.deBruijn32tab", laid_math_bits_deBruijn32tab), ("math/bits.deBruijn64tab", laid_math_bits_deBruijn64tab), ("internal/strconv.uint64pow10", laid_internal_strconv_uint64pow10)] }
def BlobsScriptSaid : Prop := blobsScriptRow.holds Tryd.pinned (OpenSpec.ofChange blobsScriptSpec)

/-- ITS FALSE NEIGHBOUR: 'it returns false'. Refute it at one input. -/
def blobsScriptWrong : ChangeSpec := { name := "blobsScript", fn := fun _ => fun
  | [d1, d2] => { results := [.lit (.bool false)], args := [d1, d2] }
  | _ => none }
def BlobsScriptWrongFalsely : Prop := blobsScriptRow.holds Tryd.pinned (OpenSpec.ofChange blobsScriptWrong)

/-- 'hogsheadlaw23.BlobsLoads': WHATEVER THE INPUT: true; the input reads as it did. -/
def blobsLoadsSpec : ChangeSpec := { name := "blobsLoads", fn := fun _ => fun
  | [d1, d2, d3] => { results := [.lit (.bool true)], args := [d1, d2, d3] }
  | _ => none }
def blobsLoadsRow : OpenClaim := { program := "ytbnoihpooeombaadoor", sum := "0a909cb554af7b52631f706630f24176db89043e1ab34c14be869473c4416d95", func := "hogshead/hogsheadlaw23.BlobsLoads", spec := "blobsLoads", inPlace := ["internal/abi.NoEscape", "internal/bytealg.MakeNoZero", "slices.overlaps[hogshead/api.Blob]"], unfollowed := true, recurses := true, named := ["internal/strconv.uint64pow10", "math/bits.deBruijn32tab", "math/bits.deBruijn64tab"], apart := false, laid := [("math/bits.deBruijn32tab", laid_math_bits_deBruijn32tab), ("math/bits.deBruijn64tab", laid_math_bits_deBruijn64tab), ("internal/strconv.uint64pow10", laid_internal_strconv_uint64pow10)] }
def BlobsLoadsSaid : Prop := blobsLoadsRow.holds Tryd.pinned (OpenSpec.ofChange blobsLoadsSpec)

/-- ITS FALSE NEIGHBOUR: 'it returns false'. Refute it at one input. -/
def blobsLoadsWrong : ChangeSpec := { name := "blobsLoads", fn := fun _ => fun
  | [d1, d2, d3] => { results := [.lit (.bool false)], args := [d1, d2, d3] }
  | _ => none }
def BlobsLoadsWrongFalsely : Prop := blobsLoadsRow.holds Tryd.pinned (OpenSpec.ofChange blobsLoadsWrong)

/-- 'hogsheadlaw23.BlobsNone': WHATEVER THE INPUT: true; the input reads as it did. -/
def blobsNoneSpec : ChangeSpec := { name := "blobsNone", fn := fun _ => fun
  | [d] => { results := [.lit (.bool true)], args := [d] }
  | _ => none }
def blobsNoneRow : OpenClaim := { program := "ytbnoihpooeombaadoor", sum := "0a909cb554af7b52631f706630f24176db89043e1ab34c14be869473c4416d95", func := "hogshead/hogsheadlaw23.BlobsNone", spec := "blobsNone", inPlace := ["internal/abi.NoEscape", "internal/bytealg.MakeNoZero", "slices.overlaps[hogshead/api.Blob]"], unfollowed := true, recurses := true, named := ["internal/strconv.uint64pow10", "math/bits.deBruijn32tab", "math/bits.deBruijn64tab"], apart := false, laid := [("math/bits.deBruijn32tab", laid_math_bits_deBruijn32tab), ("math/bits.deBruijn64tab", laid_math_bits_deBruijn64tab), ("internal/strconv.uint64pow10", laid_internal_strconv_uint64pow10)] }
def BlobsNoneSaid : Prop := blobsNoneRow.holds Tryd.pinned (OpenSpec.ofChange blobsNoneSpec)

/-- ITS FALSE NEIGHBOUR: 'it returns false'. Refute it at one input. -/
def blobsNoneWrong : ChangeSpec := { name := "blobsNone", fn := fun _ => fun
  | [d] => { results := [.lit (.bool false)], args := [d] }
  | _ => none }
def BlobsNoneWrongFalsely : Prop := blobsNoneRow.holds Tryd.pinned (OpenSpec.ofChange blobsNoneWrong)

/-- 'hogsheadlaw23.BlobsOrder': WHATEVER THE INPUT: true; the input reads as it did. -/
def blobsOrderSpec : ChangeSpec := { name := "blobsOrder", fn := fun _ => fun
  | [d1, d2] => { results := [.lit (.bool true)], args := [d1, d2] }
  | _ => none }
def blobsOrderRow : OpenClaim := { program := "ytbnoihpooeombaadoor", sum := "0a909cb554af7b52631f706630f24176db89043e1ab34c14be869473c4416d95", func := "hogshead/hogsheadlaw23.BlobsOrder", spec := "blobsOrder", inPlace := ["internal/abi.NoEscape", "internal/bytealg.MakeNoZero", "slices.overlaps[hogshead/api.Blob]"], unfollowed := true, recurses := true, named := ["internal/strconv.uint64pow10", "math/bits.deBruijn32tab", "math/bits.deBruijn64tab"], apart := false, laid := [("math/bits.deBruijn32tab", laid_math_bits_deBruijn32tab), ("math/bits.deBruijn64tab", laid_math_bits_deBruijn64tab), ("internal/strconv.uint64pow10", laid_internal_strconv_uint64pow10)] }
def BlobsOrderSaid : Prop := blobsOrderRow.holds Tryd.pinned (OpenSpec.ofChange blobsOrderSpec)

/-- ITS FALSE NEIGHBOUR: 'it returns false'. Refute it at one input. -/
def blobsOrderWrong : ChangeSpec := { name := "blobsOrder", fn := fun _ => fun
  | [d1, d2] => { results := [.lit (.bool false)], args := [d1, d2] }
  | _ => none }
def BlobsOrderWrongFalsely : Prop := blobsOrderRow.holds Tryd.pinned (OpenSpec.ofChange blobsOrderWrong)

/- THE SECOND FORM. 'bulk': how many values and letters a reading holds, each counted each time it is reached (what is shared counts as often as it is met; a slice's spare places count too). A statement '..UptoSaid' is the law's where the arguments, and the package variables that the reading takes, are together of bulk at most 1048576: NARROWER than '..Said'. Prove '..Said' where nothing that the law and all that it calls make is longer than what came in: it says more and counts as full. Else prove '..UptoSaid'. A law counts once. -/
mutual
def uptoBulk {H : Type} : DataW H → Nat
  | .lit (.string bytes) => bytes.length + 1
  | .lit _ => 1
  | .nil => 1
  | .ptr d => uptoBulk d + 1
  | .slice elems spare => uptoBulkAll elems + uptoBulkAll spare + 1
  | .agg parts => uptoBulkAll parts + 1
  | .iface _ d => uptoBulk d + 1
  | .map entries => uptoBulkEntries entries + 1
  | .held _ => 1
def uptoBulkAll {H : Type} : List (DataW H) → Nat
  | [] => 0
  | d :: r => uptoBulk d + uptoBulkAll r
def uptoBulkEntries {H : Type} : List (Lit × DataW H) → Nat
  | [] => 0
  | x :: r => uptoBulkEntry x + uptoBulkEntries r
def uptoBulkEntry {H : Type} : Lit × DataW H → Nat
  | (.string bytes, d) => bytes.length + uptoBulk d + 1
  | (_, d) => uptoBulk d + 1
 end
def uptoSmall : (H : Type) → List (DataW H) → Bool := fun _ ds => decide (uptoBulkAll ds ≤ 1048576)
def OpenSpec.upto (s : _root_.Go.ChangeSpec) : _root_.Go.OpenSpec := { _root_.Go.OpenSpec.ofChange s with cond := some uptoSmall }

/-- 'hogsheadlaw15.ValueLays', WHERE WHAT IT READS IS OF BULK AT MOST 1048576: true; the input reads as it did. -/
def valueLaysUptoRow : OpenClaim := { program := "ytbnoihpooeombaadoor", sum := "0a909cb554af7b52631f706630f24176db89043e1ab34c14be869473c4416d95", func := "hogshead/hogsheadlaw15.ValueLays", spec := "valueLays", inPlace := ["slices.overlaps[string]", "slices.overlaps[hogshead/api.Value]", "internal/abi.NoEscape", "internal/bytealg.MakeNoZero"], unfollowed := true, recurses := true, named := ["internal/strconv.uint64pow10", "math/bits.deBruijn32tab", "math/bits.deBruijn64tab"], loops := true, apart := false, laid := [("math/bits.deBruijn32tab", laid_math_bits_deBruijn32tab), ("math/bits.deBruijn64tab", laid_math_bits_deBruijn64tab), ("internal/strconv.uint64pow10", laid_internal_strconv_uint64pow10)], narrowed := true }
def ValueLaysUptoSaid : Prop := valueLaysUptoRow.holds Tryd.pinned (OpenSpec.upto valueLaysSpec)

/-- 'hogsheadlaw15.ValueOf', WHERE WHAT IT READS IS OF BULK AT MOST 1048576: true; the input reads as it did. -/
def valueOfUptoRow : OpenClaim := { program := "ytbnoihpooeombaadoor", sum := "0a909cb554af7b52631f706630f24176db89043e1ab34c14be869473c4416d95", func := "hogshead/hogsheadlaw15.ValueOf", spec := "valueOf", inPlace := ["slices.overlaps[string]", "slices.overlaps[hogshead/api.Value]", "internal/abi.NoEscape", "internal/bytealg.MakeNoZero"], unfollowed := true, recurses := true, named := ["internal/strconv.uint64pow10", "math/bits.deBruijn32tab", "math/bits.deBruijn64tab"], loops := true, apart := false, laid := [("math/bits.deBruijn32tab", laid_math_bits_deBruijn32tab), ("math/bits.deBruijn64tab", laid_math_bits_deBruijn64tab), ("internal/strconv.uint64pow10", laid_internal_strconv_uint64pow10)], narrowed := true }
def ValueOfUptoSaid : Prop := valueOfUptoRow.holds Tryd.pinned (OpenSpec.upto valueOfSpec)

/-- 'hogsheadlaw15.ValueKeys', WHERE WHAT IT READS IS OF BULK AT MOST 1048576: true; the input reads as it did. -/
def valueKeysUptoRow : OpenClaim := { program := "ytbnoihpooeombaadoor", sum := "0a909cb554af7b52631f706630f24176db89043e1ab34c14be869473c4416d95", func := "hogshead/hogsheadlaw15.ValueKeys", spec := "valueKeys", inPlace := ["slices.overlaps[string]", "slices.overlaps[hogshead/api.Value]", "internal/abi.NoEscape", "internal/bytealg.MakeNoZero"], unfollowed := true, recurses := true, named := ["internal/strconv.uint64pow10", "math/bits.deBruijn32tab", "math/bits.deBruijn64tab"], apart := false, laid := [("math/bits.deBruijn32tab", laid_math_bits_deBruijn32tab), ("math/bits.deBruijn64tab", laid_math_bits_deBruijn64tab), ("internal/strconv.uint64pow10", laid_internal_strconv_uint64pow10)], narrowed := true }
def ValueKeysUptoSaid : Prop := valueKeysUptoRow.holds Tryd.pinned (OpenSpec.upto valueKeysSpec)

/-- 'hogsheadlaw15.ValueQuotes', WHERE WHAT IT READS IS OF BULK AT MOST 1048576: true; the input reads as it did. -/
def valueQuotesUptoRow : OpenClaim := { program := "ytbnoihpooeombaadoor", sum := "0a909cb554af7b52631f706630f24176db89043e1ab34c14be869473c4416d95", func := "hogshead/hogsheadlaw15.ValueQuotes", spec := "valueQuotes", inPlace := ["slices.overlaps[string]", "slices.overlaps[hogshead/api.Value]", "internal/abi.NoEscape", "internal/bytealg.MakeNoZero"], unfollowed := true, recurses := true, named := ["internal/strconv.uint64pow10", "math/bits.deBruijn32tab", "math/bits.deBruijn64tab"], apart := false, laid := [("math/bits.deBruijn32tab", laid_math_bits_deBruijn32tab), ("math/bits.deBruijn64tab", laid_math_bits_deBruijn64tab), ("internal/strconv.uint64pow10", laid_internal_strconv_uint64pow10)], narrowed := true }
def ValueQuotesUptoSaid : Prop := valueQuotesUptoRow.holds Tryd.pinned (OpenSpec.upto valueQuotesSpec)

/-- 'hogsheadlaw15.ValueDeep', WHERE WHAT IT READS IS OF BULK AT MOST 1048576: true; the input reads as it did. -/
def valueDeepUptoRow : OpenClaim := { program := "ytbnoihpooeombaadoor", sum := "0a909cb554af7b52631f706630f24176db89043e1ab34c14be869473c4416d95", func := "hogshead/hogsheadlaw15.ValueDeep", spec := "valueDeep", inPlace := ["internal/abi.NoEscape", "internal/bytealg.MakeNoZero", "slices.overlaps[string]", "slices.overlaps[hogshead/api.Value]"], unfollowed := true, recurses := true, named := ["internal/strconv.uint64pow10", "math/bits.deBruijn32tab", "math/bits.deBruijn64tab"], apart := false, laid := [("math/bits.deBruijn32tab", laid_math_bits_deBruijn32tab), ("math/bits.deBruijn64tab", laid_math_bits_deBruijn64tab), ("internal/strconv.uint64pow10", laid_internal_strconv_uint64pow10)], narrowed := true }
def ValueDeepUptoSaid : Prop := valueDeepUptoRow.holds Tryd.pinned (OpenSpec.upto valueDeepSpec)

/-- 'hogsheadlaw15.ValueGets', WHERE WHAT IT READS IS OF BULK AT MOST 1048576: true; the input reads as it did. -/
def valueGetsUptoRow : OpenClaim := { program := "ytbnoihpooeombaadoor", sum := "0a909cb554af7b52631f706630f24176db89043e1ab34c14be869473c4416d95", func := "hogshead/hogsheadlaw15.ValueGets", spec := "valueGets", inPlace := ["slices.overlaps[string]", "slices.overlaps[hogshead/api.Value]", "internal/abi.NoEscape", "internal/bytealg.MakeNoZero"], unfollowed := true, recurses := true, named := ["internal/strconv.uint64pow10", "math/bits.deBruijn32tab", "math/bits.deBruijn64tab"], loops := true, apart := false, laid := [("math/bits.deBruijn32tab", laid_math_bits_deBruijn32tab), ("math/bits.deBruijn64tab", laid_math_bits_deBruijn64tab), ("internal/strconv.uint64pow10", laid_internal_strconv_uint64pow10)], narrowed := true }
def ValueGetsUptoSaid : Prop := valueGetsUptoRow.holds Tryd.pinned (OpenSpec.upto valueGetsSpec)

/-- 'hogsheadlaw15.ValueParts', WHERE WHAT IT READS IS OF BULK AT MOST 1048576: true; the input reads as it did. -/
def valuePartsUptoRow : OpenClaim := { program := "ytbnoihpooeombaadoor", sum := "0a909cb554af7b52631f706630f24176db89043e1ab34c14be869473c4416d95", func := "hogshead/hogsheadlaw15.ValueParts", spec := "valueParts", inPlace := ["slices.overlaps[string]", "slices.overlaps[hogshead/api.Value]", "internal/abi.NoEscape", "internal/bytealg.MakeNoZero"], unfollowed := true, recurses := true, named := ["internal/strconv.uint64pow10", "math/bits.deBruijn32tab", "math/bits.deBruijn64tab"], loops := true, apart := false, laid := [("math/bits.deBruijn32tab", laid_math_bits_deBruijn32tab), ("math/bits.deBruijn64tab", laid_math_bits_deBruijn64tab), ("internal/strconv.uint64pow10", laid_internal_strconv_uint64pow10)], narrowed := true }
def ValuePartsUptoSaid : Prop := valuePartsUptoRow.holds Tryd.pinned (OpenSpec.upto valuePartsSpec)

/-- 'hogsheadlaw23.BlobsScript', WHERE WHAT IT READS IS OF BULK AT MOST 1048576: true; the input reads as it did. -/
def blobsScriptUptoRow : OpenClaim := { program := "ytbnoihpooeombaadoor", sum := "0a909cb554af7b52631f706630f24176db89043e1ab34c14be869473c4416d95", func := "hogshead/hogsheadlaw23.BlobsScript", spec := "blobsScript", inPlace := ["internal/abi.NoEscape", "internal/bytealg.MakeNoZero", "slices.overlaps[hogshead/api.Blob]"], unfollowed := true, recurses := true, named := ["internal/strconv.uint64pow10", "math/bits.deBruijn32tab", "math/bits.deBruijn64tab"], apart := false, laid := [("math/bits.deBruijn32tab", laid_math_bits_deBruijn32tab), ("math/bits.deBruijn64tab", laid_math_bits_deBruijn64tab), ("internal/strconv.uint64pow10", laid_internal_strconv_uint64pow10)], narrowed := true }
def BlobsScriptUptoSaid : Prop := blobsScriptUptoRow.holds Tryd.pinned (OpenSpec.upto blobsScriptSpec)

/-- 'hogsheadlaw23.BlobsLoads', WHERE WHAT IT READS IS OF BULK AT MOST 1048576: true; the input reads as it did. -/
def blobsLoadsUptoRow : OpenClaim := { program := "ytbnoihpooeombaadoor", sum := "0a909cb554af7b52631f706630f24176db89043e1ab34c14be869473c4416d95", func := "hogshead/hogsheadlaw23.BlobsLoads", spec := "blobsLoads", inPlace := ["internal/abi.NoEscape", "internal/bytealg.MakeNoZero", "slices.overlaps[hogshead/api.Blob]"], unfollowed := true, recurses := true, named := ["internal/strconv.uint64pow10", "math/bits.deBruijn32tab", "math/bits.deBruijn64tab"], apart := false, laid := [("math/bits.deBruijn32tab", laid_math_bits_deBruijn32tab), ("math/bits.deBruijn64tab", laid_math_bits_deBruijn64tab), ("internal/strconv.uint64pow10", laid_internal_strconv_uint64pow10)], narrowed := true }
def BlobsLoadsUptoSaid : Prop := blobsLoadsUptoRow.holds Tryd.pinned (OpenSpec.upto blobsLoadsSpec)

/-- 'hogsheadlaw23.BlobsNone', WHERE WHAT IT READS IS OF BULK AT MOST 1048576: true; the input reads as it did. -/
def blobsNoneUptoRow : OpenClaim := { program := "ytbnoihpooeombaadoor", sum := "0a909cb554af7b52631f706630f24176db89043e1ab34c14be869473c4416d95", func := "hogshead/hogsheadlaw23.BlobsNone", spec := "blobsNone", inPlace := ["internal/abi.NoEscape", "internal/bytealg.MakeNoZero", "slices.overlaps[hogshead/api.Blob]"], unfollowed := true, recurses := true, named := ["internal/strconv.uint64pow10", "math/bits.deBruijn32tab", "math/bits.deBruijn64tab"], apart := false, laid := [("math/bits.deBruijn32tab", laid_math_bits_deBruijn32tab), ("math/bits.deBruijn64tab", laid_math_bits_deBruijn64tab), ("internal/strconv.uint64pow10", laid_internal_strconv_uint64pow10)], narrowed := true }
def BlobsNoneUptoSaid : Prop := blobsNoneUptoRow.holds Tryd.pinned (OpenSpec.upto blobsNoneSpec)

/-- 'hogsheadlaw23.BlobsOrder', WHERE WHAT IT READS IS OF BULK AT MOST 1048576: true; the input reads as it did. -/
def blobsOrderUptoRow : OpenClaim := { program := "ytbnoihpooeombaadoor", sum := "0a909cb554af7b52631f706630f24176db89043e1ab34c14be869473c4416d95", func := "hogshead/hogsheadlaw23.BlobsOrder", spec := "blobsOrder", inPlace := ["internal/abi.NoEscape", "internal/bytealg.MakeNoZero", "slices.overlaps[hogshead/api.Blob]"], unfollowed := true, recurses := true, named := ["internal/strconv.uint64pow10", "math/bits.deBruijn32tab", "math/bits.deBruijn64tab"], apart := false, laid := [("math/bits.deBruijn32tab", laid_math_bits_deBruijn32tab), ("math/bits.deBruijn64tab", laid_math_bits_deBruijn64tab), ("internal/strconv.uint64pow10", laid_internal_strconv_uint64pow10)], narrowed := true }
def BlobsOrderUptoSaid : Prop := blobsOrderUptoRow.holds Tryd.pinned (OpenSpec.upto blobsOrderSpec)

end Rows
end Go.Proofs.YtbnoihpooeombaaDoor
