/-
  No cell of these rows narrows 'for every input' (looked for: loops, veiled, ifaces, maps, wideKeys, modest, calm, conditions, laid).
  DERIVED. THE GIVEN ROWS OF THIS SEAT. 17 by the template 'for every input the law returns true; each argument reads behind the call as it read before'; 0 by the template 'total and deterministic' (their statements: YtlpkkcodmoklaaaTotals.lean).
  GIVEN WITH THE SEED: the statements are not yours to turn. If you find one false, say at which input.
  Laid BY PROGRAM, IN A SANDBOX (cutbox-rows.mjs): the forced cells as the released guide's own fill.sh prints them over the translation 639c70dfb6695f34… (all of the seat's roots in one cut). By AI agents, Wed Nov 11 2026. No macro, syntax, notation, axiom, sorry.
-/
import Derived.Test.YtlpkkcodmoklaaaChecked
import GoSem.Claim
import GoSem.ClaimJoined
import GoSem.ClaimMapViews
import Derived.JoinedTies
import Derived.KernelRfl
namespace Go.Proofs.Ytlpkkcodmoklaaa
/- THE CELL 'sum', in the pinned program and in every row, IS THE sha256 OF THE DUMP (.gsa) THAT YtlpkkcodmoklaaaProg.lean LOADS. Nothing in Lean hashes anything: it is a label: what it is worth is what the hold of that sum in a sandbox is worth. -/
noncomputable def Try.pinned : Pinned := { name := "ytlpkkcodmoklaaa", sum := "639c70dfb6695f3467cb84edeaccf87f23fd4a2761b43e7b73608e648606cf7c", checked := Try.checked }
namespace Rows
def none {H : Type} : Left H := { results := [], args := [] }

/-- 'signallinglaw04.CrcSums': WHATEVER THE INPUT: true; the input reads as it did. -/
def crcSumsSpec : ChangeSpec := { name := "crcSums", fn := fun _ => fun
  | [d] => { results := [.lit (.bool true)], args := [d] }
  | _ => none }
def crcSumsRow : OpenClaim := { program := "ytlpkkcodmoklaaa", sum := "639c70dfb6695f3467cb84edeaccf87f23fd4a2761b43e7b73608e648606cf7c", func := "signalling/signallinglaw04.CrcSums", spec := "crcSums", apart := false }
def CrcSumsSaid : Prop := crcSumsRow.holds Try.pinned (OpenSpec.ofChange crcSumsSpec)

/-- ITS FALSE NEIGHBOUR: 'it returns false'. Refute it at one input. -/
def crcSumsWrong : ChangeSpec := { name := "crcSums", fn := fun _ => fun
  | [d] => { results := [.lit (.bool false)], args := [d] }
  | _ => none }
def CrcSumsWrongFalsely : Prop := crcSumsRow.holds Try.pinned (OpenSpec.ofChange crcSumsWrong)

/-- 'signallinglaw04.CrcOpens': WHATEVER THE INPUT: true; the input reads as it did. -/
def crcOpensSpec : ChangeSpec := { name := "crcOpens", fn := fun _ => fun
  | [d] => { results := [.lit (.bool true)], args := [d] }
  | _ => none }
def crcOpensRow : OpenClaim := { program := "ytlpkkcodmoklaaa", sum := "639c70dfb6695f3467cb84edeaccf87f23fd4a2761b43e7b73608e648606cf7c", func := "signalling/signallinglaw04.CrcOpens", spec := "crcOpens", apart := false }
def CrcOpensSaid : Prop := crcOpensRow.holds Try.pinned (OpenSpec.ofChange crcOpensSpec)

/-- ITS FALSE NEIGHBOUR: 'it returns false'. Refute it at one input. -/
def crcOpensWrong : ChangeSpec := { name := "crcOpens", fn := fun _ => fun
  | [d] => { results := [.lit (.bool false)], args := [d] }
  | _ => none }
def CrcOpensWrongFalsely : Prop := crcOpensRow.holds Try.pinned (OpenSpec.ofChange crcOpensWrong)

/-- 'signallinglaw04.CrcDetects': WHATEVER THE INPUT: true; the input reads as it did. -/
def crcDetectsSpec : ChangeSpec := { name := "crcDetects", fn := fun _ => fun
  | [d1, d2, d3] => { results := [.lit (.bool true)], args := [d1, d2, d3] }
  | _ => none }
def crcDetectsRow : OpenClaim := { program := "ytlpkkcodmoklaaa", sum := "639c70dfb6695f3467cb84edeaccf87f23fd4a2761b43e7b73608e648606cf7c", func := "signalling/signallinglaw04.CrcDetects", spec := "crcDetects", apart := false }
def CrcDetectsSaid : Prop := crcDetectsRow.holds Try.pinned (OpenSpec.ofChange crcDetectsSpec)

/-- ITS FALSE NEIGHBOUR: 'it returns false'. Refute it at one input. -/
def crcDetectsWrong : ChangeSpec := { name := "crcDetects", fn := fun _ => fun
  | [d1, d2, d3] => { results := [.lit (.bool false)], args := [d1, d2, d3] }
  | _ => none }
def CrcDetectsWrongFalsely : Prop := crcDetectsRow.holds Try.pinned (OpenSpec.ofChange crcDetectsWrong)

/-- 'signallinglaw04.CrcAdds': WHATEVER THE INPUT: true; the input reads as it did. -/
def crcAddsSpec : ChangeSpec := { name := "crcAdds", fn := fun _ => fun
  | [d1, d2, d3] => { results := [.lit (.bool true)], args := [d1, d2, d3] }
  | _ => none }
def crcAddsRow : OpenClaim := { program := "ytlpkkcodmoklaaa", sum := "639c70dfb6695f3467cb84edeaccf87f23fd4a2761b43e7b73608e648606cf7c", func := "signalling/signallinglaw04.CrcAdds", spec := "crcAdds", apart := false }
def CrcAddsSaid : Prop := crcAddsRow.holds Try.pinned (OpenSpec.ofChange crcAddsSpec)

/-- ITS FALSE NEIGHBOUR: 'it returns false'. Refute it at one input. -/
def crcAddsWrong : ChangeSpec := { name := "crcAdds", fn := fun _ => fun
  | [d1, d2, d3] => { results := [.lit (.bool false)], args := [d1, d2, d3] }
  | _ => none }
def CrcAddsWrongFalsely : Prop := crcAddsRow.holds Try.pinned (OpenSpec.ofChange crcAddsWrong)

/-- 'signallinglaw04.CrcChains': WHATEVER THE INPUT: true; the input reads as it did. -/
def crcChainsSpec : ChangeSpec := { name := "crcChains", fn := fun _ => fun
  | [d1, d2] => { results := [.lit (.bool true)], args := [d1, d2] }
  | _ => none }
def crcChainsRow : OpenClaim := { program := "ytlpkkcodmoklaaa", sum := "639c70dfb6695f3467cb84edeaccf87f23fd4a2761b43e7b73608e648606cf7c", func := "signalling/signallinglaw04.CrcChains", spec := "crcChains", apart := false }
def CrcChainsSaid : Prop := crcChainsRow.holds Try.pinned (OpenSpec.ofChange crcChainsSpec)

/-- ITS FALSE NEIGHBOUR: 'it returns false'. Refute it at one input. -/
def crcChainsWrong : ChangeSpec := { name := "crcChains", fn := fun _ => fun
  | [d1, d2] => { results := [.lit (.bool false)], args := [d1, d2] }
  | _ => none }
def CrcChainsWrongFalsely : Prop := crcChainsRow.holds Try.pinned (OpenSpec.ofChange crcChainsWrong)

/-- 'signallinglaw03.WireLists': WHATEVER THE INPUT: true; the input reads as it did. -/
def wireListsSpec : ChangeSpec := { name := "wireLists", fn := fun _ => fun
  | [d1, d2, d3] => { results := [.lit (.bool true)], args := [d1, d2, d3] }
  | _ => none }
def wireListsRow : OpenClaim := { program := "ytlpkkcodmoklaaa", sum := "639c70dfb6695f3467cb84edeaccf87f23fd4a2761b43e7b73608e648606cf7c", func := "signalling/signallinglaw03.WireLists", spec := "wireLists", apart := false }
def WireListsSaid : Prop := wireListsRow.holds Try.pinned (OpenSpec.ofChange wireListsSpec)

/-- ITS FALSE NEIGHBOUR: 'it returns false'. Refute it at one input. -/
def wireListsWrong : ChangeSpec := { name := "wireLists", fn := fun _ => fun
  | [d1, d2, d3] => { results := [.lit (.bool false)], args := [d1, d2, d3] }
  | _ => none }
def WireListsWrongFalsely : Prop := wireListsRow.holds Try.pinned (OpenSpec.ofChange wireListsWrong)

/-- 'signallinglaw03.WireLengths': WHATEVER THE INPUT: true; the input reads as it did. -/
def wireLengthsSpec : ChangeSpec := { name := "wireLengths", fn := fun _ => fun
  | [d1, d2] => { results := [.lit (.bool true)], args := [d1, d2] }
  | _ => none }
def wireLengthsRow : OpenClaim := { program := "ytlpkkcodmoklaaa", sum := "639c70dfb6695f3467cb84edeaccf87f23fd4a2761b43e7b73608e648606cf7c", func := "signalling/signallinglaw03.WireLengths", spec := "wireLengths", apart := false }
def WireLengthsSaid : Prop := wireLengthsRow.holds Try.pinned (OpenSpec.ofChange wireLengthsSpec)

/-- ITS FALSE NEIGHBOUR: 'it returns false'. Refute it at one input. -/
def wireLengthsWrong : ChangeSpec := { name := "wireLengths", fn := fun _ => fun
  | [d1, d2] => { results := [.lit (.bool false)], args := [d1, d2] }
  | _ => none }
def WireLengthsWrongFalsely : Prop := wireLengthsRow.holds Try.pinned (OpenSpec.ofChange wireLengthsWrong)

/-- 'signallinglaw03.WireCuts': WHATEVER THE INPUT: true; the input reads as it did. -/
def wireCutsSpec : ChangeSpec := { name := "wireCuts", fn := fun _ => fun
  | [d1, d2] => { results := [.lit (.bool true)], args := [d1, d2] }
  | _ => none }
def wireCutsRow : OpenClaim := { program := "ytlpkkcodmoklaaa", sum := "639c70dfb6695f3467cb84edeaccf87f23fd4a2761b43e7b73608e648606cf7c", func := "signalling/signallinglaw03.WireCuts", spec := "wireCuts", apart := false }
def WireCutsSaid : Prop := wireCutsRow.holds Try.pinned (OpenSpec.ofChange wireCutsSpec)

/-- ITS FALSE NEIGHBOUR: 'it returns false'. Refute it at one input. -/
def wireCutsWrong : ChangeSpec := { name := "wireCuts", fn := fun _ => fun
  | [d1, d2] => { results := [.lit (.bool false)], args := [d1, d2] }
  | _ => none }
def WireCutsWrongFalsely : Prop := wireCutsRow.holds Try.pinned (OpenSpec.ofChange wireCutsWrong)

/-- 'signallinglaw03.WireTakes': WHATEVER THE INPUT: true; the input reads as it did. -/
def wireTakesSpec : ChangeSpec := { name := "wireTakes", fn := fun _ => fun
  | [d1, d2] => { results := [.lit (.bool true)], args := [d1, d2] }
  | _ => none }
def wireTakesRow : OpenClaim := { program := "ytlpkkcodmoklaaa", sum := "639c70dfb6695f3467cb84edeaccf87f23fd4a2761b43e7b73608e648606cf7c", func := "signalling/signallinglaw03.WireTakes", spec := "wireTakes", apart := false }
def WireTakesSaid : Prop := wireTakesRow.holds Try.pinned (OpenSpec.ofChange wireTakesSpec)

/-- ITS FALSE NEIGHBOUR: 'it returns false'. Refute it at one input. -/
def wireTakesWrong : ChangeSpec := { name := "wireTakes", fn := fun _ => fun
  | [d1, d2] => { results := [.lit (.bool false)], args := [d1, d2] }
  | _ => none }
def WireTakesWrongFalsely : Prop := wireTakesRow.holds Try.pinned (OpenSpec.ofChange wireTakesWrong)

/-- 'signallinglaw03.WireEncodes': WHATEVER THE INPUT: true; the input reads as it did. -/
def wireEncodesSpec : ChangeSpec := { name := "wireEncodes", fn := fun _ => fun
  | [d] => { results := [.lit (.bool true)], args := [d] }
  | _ => none }
def wireEncodesRow : OpenClaim := { program := "ytlpkkcodmoklaaa", sum := "639c70dfb6695f3467cb84edeaccf87f23fd4a2761b43e7b73608e648606cf7c", func := "signalling/signallinglaw03.WireEncodes", spec := "wireEncodes", apart := false }
def WireEncodesSaid : Prop := wireEncodesRow.holds Try.pinned (OpenSpec.ofChange wireEncodesSpec)

/-- ITS FALSE NEIGHBOUR: 'it returns false'. Refute it at one input. -/
def wireEncodesWrong : ChangeSpec := { name := "wireEncodes", fn := fun _ => fun
  | [d] => { results := [.lit (.bool false)], args := [d] }
  | _ => none }
def WireEncodesWrongFalsely : Prop := wireEncodesRow.holds Try.pinned (OpenSpec.ofChange wireEncodesWrong)

/-- 'signallinglaw03.WireRoundTrips': WHATEVER THE INPUT: true; the input reads as it did. -/
def wireRoundTripsSpec : ChangeSpec := { name := "wireRoundTrips", fn := fun _ => fun
  | [d1, d2, d3] => { results := [.lit (.bool true)], args := [d1, d2, d3] }
  | _ => none }
def wireRoundTripsRow : OpenClaim := { program := "ytlpkkcodmoklaaa", sum := "639c70dfb6695f3467cb84edeaccf87f23fd4a2761b43e7b73608e648606cf7c", func := "signalling/signallinglaw03.WireRoundTrips", spec := "wireRoundTrips", apart := false }
def WireRoundTripsSaid : Prop := wireRoundTripsRow.holds Try.pinned (OpenSpec.ofChange wireRoundTripsSpec)

/-- ITS FALSE NEIGHBOUR: 'it returns false'. Refute it at one input. -/
def wireRoundTripsWrong : ChangeSpec := { name := "wireRoundTrips", fn := fun _ => fun
  | [d1, d2, d3] => { results := [.lit (.bool false)], args := [d1, d2, d3] }
  | _ => none }
def WireRoundTripsWrongFalsely : Prop := wireRoundTripsRow.holds Try.pinned (OpenSpec.ofChange wireRoundTripsWrong)

/-- 'signallinglaw03.WireExact': WHATEVER THE INPUT: true; the input reads as it did. -/
def wireExactSpec : ChangeSpec := { name := "wireExact", fn := fun _ => fun
  | [d1, d2, d3] => { results := [.lit (.bool true)], args := [d1, d2, d3] }
  | _ => none }
def wireExactRow : OpenClaim := { program := "ytlpkkcodmoklaaa", sum := "639c70dfb6695f3467cb84edeaccf87f23fd4a2761b43e7b73608e648606cf7c", func := "signalling/signallinglaw03.WireExact", spec := "wireExact", apart := false }
def WireExactSaid : Prop := wireExactRow.holds Try.pinned (OpenSpec.ofChange wireExactSpec)

/-- ITS FALSE NEIGHBOUR: 'it returns false'. Refute it at one input. -/
def wireExactWrong : ChangeSpec := { name := "wireExact", fn := fun _ => fun
  | [d1, d2, d3] => { results := [.lit (.bool false)], args := [d1, d2, d3] }
  | _ => none }
def WireExactWrongFalsely : Prop := wireExactRow.holds Try.pinned (OpenSpec.ofChange wireExactWrong)

/-- 'signallinglaw37.MessageEncodes': WHATEVER THE INPUT: true; the input reads as it did. -/
def messageEncodesSpec : ChangeSpec := { name := "messageEncodes", fn := fun _ => fun
  | [d1, d2] => { results := [.lit (.bool true)], args := [d1, d2] }
  | _ => none }
def messageEncodesRow : OpenClaim := { program := "ytlpkkcodmoklaaa", sum := "639c70dfb6695f3467cb84edeaccf87f23fd4a2761b43e7b73608e648606cf7c", func := "signalling/signallinglaw37.MessageEncodes", spec := "messageEncodes", inPlace := ["internal/abi.NoEscape"], unfollowed := true, recurses := true, apart := false }
def MessageEncodesSaid : Prop := messageEncodesRow.holds Try.pinned (OpenSpec.ofChange messageEncodesSpec)

/-- ITS FALSE NEIGHBOUR: 'it returns false'. Refute it at one input. -/
def messageEncodesWrong : ChangeSpec := { name := "messageEncodes", fn := fun _ => fun
  | [d1, d2] => { results := [.lit (.bool false)], args := [d1, d2] }
  | _ => none }
def MessageEncodesWrongFalsely : Prop := messageEncodesRow.holds Try.pinned (OpenSpec.ofChange messageEncodesWrong)

/-- 'signallinglaw37.MessageDecodes': WHATEVER THE INPUT: true; the input reads as it did. -/
def messageDecodesSpec : ChangeSpec := { name := "messageDecodes", fn := fun _ => fun
  | [d] => { results := [.lit (.bool true)], args := [d] }
  | _ => none }
def messageDecodesRow : OpenClaim := { program := "ytlpkkcodmoklaaa", sum := "639c70dfb6695f3467cb84edeaccf87f23fd4a2761b43e7b73608e648606cf7c", func := "signalling/signallinglaw37.MessageDecodes", spec := "messageDecodes", inPlace := ["internal/abi.NoEscape"], unfollowed := true, recurses := true, apart := false }
def MessageDecodesSaid : Prop := messageDecodesRow.holds Try.pinned (OpenSpec.ofChange messageDecodesSpec)

/-- ITS FALSE NEIGHBOUR: 'it returns false'. Refute it at one input. -/
def messageDecodesWrong : ChangeSpec := { name := "messageDecodes", fn := fun _ => fun
  | [d] => { results := [.lit (.bool false)], args := [d] }
  | _ => none }
def MessageDecodesWrongFalsely : Prop := messageDecodesRow.holds Try.pinned (OpenSpec.ofChange messageDecodesWrong)

/-- 'signallinglaw37.MessageReturns': WHATEVER THE INPUT: true; the input reads as it did. -/
def messageReturnsSpec : ChangeSpec := { name := "messageReturns", fn := fun _ => fun
  | [d1, d2] => { results := [.lit (.bool true)], args := [d1, d2] }
  | _ => none }
def messageReturnsRow : OpenClaim := { program := "ytlpkkcodmoklaaa", sum := "639c70dfb6695f3467cb84edeaccf87f23fd4a2761b43e7b73608e648606cf7c", func := "signalling/signallinglaw37.MessageReturns", spec := "messageReturns", inPlace := ["internal/abi.NoEscape"], unfollowed := true, recurses := true, apart := false }
def MessageReturnsSaid : Prop := messageReturnsRow.holds Try.pinned (OpenSpec.ofChange messageReturnsSpec)

/-- ITS FALSE NEIGHBOUR: 'it returns false'. Refute it at one input. -/
def messageReturnsWrong : ChangeSpec := { name := "messageReturns", fn := fun _ => fun
  | [d1, d2] => { results := [.lit (.bool false)], args := [d1, d2] }
  | _ => none }
def MessageReturnsWrongFalsely : Prop := messageReturnsRow.holds Try.pinned (OpenSpec.ofChange messageReturnsWrong)

/-- 'signallinglaw37.MessageDetects': WHATEVER THE INPUT: true; the input reads as it did. -/
def messageDetectsSpec : ChangeSpec := { name := "messageDetects", fn := fun _ => fun
  | [d1, d2, d3] => { results := [.lit (.bool true)], args := [d1, d2, d3] }
  | _ => none }
def messageDetectsRow : OpenClaim := { program := "ytlpkkcodmoklaaa", sum := "639c70dfb6695f3467cb84edeaccf87f23fd4a2761b43e7b73608e648606cf7c", func := "signalling/signallinglaw37.MessageDetects", spec := "messageDetects", inPlace := ["internal/abi.NoEscape"], unfollowed := true, recurses := true, apart := false }
def MessageDetectsSaid : Prop := messageDetectsRow.holds Try.pinned (OpenSpec.ofChange messageDetectsSpec)

/-- ITS FALSE NEIGHBOUR: 'it returns false'. Refute it at one input. -/
def messageDetectsWrong : ChangeSpec := { name := "messageDetects", fn := fun _ => fun
  | [d1, d2, d3] => { results := [.lit (.bool false)], args := [d1, d2, d3] }
  | _ => none }
def MessageDetectsWrongFalsely : Prop := messageDetectsRow.holds Try.pinned (OpenSpec.ofChange messageDetectsWrong)

/-- 'signallinglaw37.MessageCuts': WHATEVER THE INPUT: true; the input reads as it did. -/
def messageCutsSpec : ChangeSpec := { name := "messageCuts", fn := fun _ => fun
  | [d1, d2] => { results := [.lit (.bool true)], args := [d1, d2] }
  | _ => none }
def messageCutsRow : OpenClaim := { program := "ytlpkkcodmoklaaa", sum := "639c70dfb6695f3467cb84edeaccf87f23fd4a2761b43e7b73608e648606cf7c", func := "signalling/signallinglaw37.MessageCuts", spec := "messageCuts", inPlace := ["internal/abi.NoEscape"], unfollowed := true, recurses := true, apart := false }
def MessageCutsSaid : Prop := messageCutsRow.holds Try.pinned (OpenSpec.ofChange messageCutsSpec)

/-- ITS FALSE NEIGHBOUR: 'it returns false'. Refute it at one input. -/
def messageCutsWrong : ChangeSpec := { name := "messageCuts", fn := fun _ => fun
  | [d1, d2] => { results := [.lit (.bool false)], args := [d1, d2] }
  | _ => none }
def MessageCutsWrongFalsely : Prop := messageCutsRow.holds Try.pinned (OpenSpec.ofChange messageCutsWrong)

/- THE SECOND FORM. 'bulk': how many values and letters a reading holds, each counted each time it is reached (what is shared counts as often as it is met; a slice's spare places count too). A statement '..UptoSaid' is the law's where the arguments, and the package variables that the reading takes, are together of bulk at most 1048576: NARROWER than '..Said'. Prove '..Said' where nothing that the law and all that it calls make is longer than what came in: it says more and counts as full. Else prove '..UptoSaid'. A law counts once. -/
mutual
def uptoBulk {H : Type} : DataW H → Nat
  | .lit (.string bytes) => bytes.length + 1
  | .lit _ => 1
  | .nil => 1
  | .ptr d => uptoBulk d + 1
  | .slice elems spare => uptoBulkAll elems + uptoBulkAll spare + 1
  | .agg parts => uptoBulkAll parts + 1
  | .iface _ d => uptoBulk d + 1
  | .map entries => uptoBulkEntries entries + 1
  | .held _ => 1
def uptoBulkAll {H : Type} : List (DataW H) → Nat
  | [] => 0
  | d :: r => uptoBulk d + uptoBulkAll r
def uptoBulkEntries {H : Type} : List (Lit × DataW H) → Nat
  | [] => 0
  | x :: r => uptoBulkEntry x + uptoBulkEntries r
def uptoBulkEntry {H : Type} : Lit × DataW H → Nat
  | (.string bytes, d) => bytes.length + uptoBulk d + 1
  | (_, d) => uptoBulk d + 1
 end
def uptoSmall : (H : Type) → List (DataW H) → Bool := fun _ ds => decide (uptoBulkAll ds ≤ 1048576)
def OpenSpec.upto (s : _root_.Go.ChangeSpec) : _root_.Go.OpenSpec := { _root_.Go.OpenSpec.ofChange s with cond := some uptoSmall }

/-- 'signallinglaw04.CrcSums', WHERE WHAT IT READS IS OF BULK AT MOST 1048576: true; the input reads as it did. -/
def crcSumsUptoRow : OpenClaim := { program := "ytlpkkcodmoklaaa", sum := "639c70dfb6695f3467cb84edeaccf87f23fd4a2761b43e7b73608e648606cf7c", func := "signalling/signallinglaw04.CrcSums", spec := "crcSums", apart := false, narrowed := true }
def CrcSumsUptoSaid : Prop := crcSumsUptoRow.holds Try.pinned (OpenSpec.upto crcSumsSpec)

/-- 'signallinglaw04.CrcOpens', WHERE WHAT IT READS IS OF BULK AT MOST 1048576: true; the input reads as it did. -/
def crcOpensUptoRow : OpenClaim := { program := "ytlpkkcodmoklaaa", sum := "639c70dfb6695f3467cb84edeaccf87f23fd4a2761b43e7b73608e648606cf7c", func := "signalling/signallinglaw04.CrcOpens", spec := "crcOpens", apart := false, narrowed := true }
def CrcOpensUptoSaid : Prop := crcOpensUptoRow.holds Try.pinned (OpenSpec.upto crcOpensSpec)

/-- 'signallinglaw04.CrcDetects', WHERE WHAT IT READS IS OF BULK AT MOST 1048576: true; the input reads as it did. -/
def crcDetectsUptoRow : OpenClaim := { program := "ytlpkkcodmoklaaa", sum := "639c70dfb6695f3467cb84edeaccf87f23fd4a2761b43e7b73608e648606cf7c", func := "signalling/signallinglaw04.CrcDetects", spec := "crcDetects", apart := false, narrowed := true }
def CrcDetectsUptoSaid : Prop := crcDetectsUptoRow.holds Try.pinned (OpenSpec.upto crcDetectsSpec)

/-- 'signallinglaw04.CrcAdds', WHERE WHAT IT READS IS OF BULK AT MOST 1048576: true; the input reads as it did. -/
def crcAddsUptoRow : OpenClaim := { program := "ytlpkkcodmoklaaa", sum := "639c70dfb6695f3467cb84edeaccf87f23fd4a2761b43e7b73608e648606cf7c", func := "signalling/signallinglaw04.CrcAdds", spec := "crcAdds", apart := false, narrowed := true }
def CrcAddsUptoSaid : Prop := crcAddsUptoRow.holds Try.pinned (OpenSpec.upto crcAddsSpec)

/-- 'signallinglaw04.CrcChains', WHERE WHAT IT READS IS OF BULK AT MOST 1048576: true; the input reads as it did. -/
def crcChainsUptoRow : OpenClaim := { program := "ytlpkkcodmoklaaa", sum := "639c70dfb6695f3467cb84edeaccf87f23fd4a2761b43e7b73608e648606cf7c", func := "signalling/signallinglaw04.CrcChains", spec := "crcChains", apart := false, narrowed := true }
def CrcChainsUptoSaid : Prop := crcChainsUptoRow.holds Try.pinned (OpenSpec.upto crcChainsSpec)

/-- 'signallinglaw03.WireLists', WHERE WHAT IT READS IS OF BULK AT MOST 1048576: true; the input reads as it did. -/
def wireListsUptoRow : OpenClaim := { program := "ytlpkkcodmoklaaa", sum := "639c70dfb6695f3467cb84edeaccf87f23fd4a2761b43e7b73608e648606cf7c", func := "signalling/signallinglaw03.WireLists", spec := "wireLists", apart := false, narrowed := true }
def WireListsUptoSaid : Prop := wireListsUptoRow.holds Try.pinned (OpenSpec.upto wireListsSpec)

/-- 'signallinglaw03.WireLengths', WHERE WHAT IT READS IS OF BULK AT MOST 1048576: true; the input reads as it did. -/
def wireLengthsUptoRow : OpenClaim := { program := "ytlpkkcodmoklaaa", sum := "639c70dfb6695f3467cb84edeaccf87f23fd4a2761b43e7b73608e648606cf7c", func := "signalling/signallinglaw03.WireLengths", spec := "wireLengths", apart := false, narrowed := true }
def WireLengthsUptoSaid : Prop := wireLengthsUptoRow.holds Try.pinned (OpenSpec.upto wireLengthsSpec)

/-- 'signallinglaw03.WireCuts', WHERE WHAT IT READS IS OF BULK AT MOST 1048576: true; the input reads as it did. -/
def wireCutsUptoRow : OpenClaim := { program := "ytlpkkcodmoklaaa", sum := "639c70dfb6695f3467cb84edeaccf87f23fd4a2761b43e7b73608e648606cf7c", func := "signalling/signallinglaw03.WireCuts", spec := "wireCuts", apart := false, narrowed := true }
def WireCutsUptoSaid : Prop := wireCutsUptoRow.holds Try.pinned (OpenSpec.upto wireCutsSpec)

/-- 'signallinglaw03.WireTakes', WHERE WHAT IT READS IS OF BULK AT MOST 1048576: true; the input reads as it did. -/
def wireTakesUptoRow : OpenClaim := { program := "ytlpkkcodmoklaaa", sum := "639c70dfb6695f3467cb84edeaccf87f23fd4a2761b43e7b73608e648606cf7c", func := "signalling/signallinglaw03.WireTakes", spec := "wireTakes", apart := false, narrowed := true }
def WireTakesUptoSaid : Prop := wireTakesUptoRow.holds Try.pinned (OpenSpec.upto wireTakesSpec)

/-- 'signallinglaw03.WireEncodes', WHERE WHAT IT READS IS OF BULK AT MOST 1048576: true; the input reads as it did. -/
def wireEncodesUptoRow : OpenClaim := { program := "ytlpkkcodmoklaaa", sum := "639c70dfb6695f3467cb84edeaccf87f23fd4a2761b43e7b73608e648606cf7c", func := "signalling/signallinglaw03.WireEncodes", spec := "wireEncodes", apart := false, narrowed := true }
def WireEncodesUptoSaid : Prop := wireEncodesUptoRow.holds Try.pinned (OpenSpec.upto wireEncodesSpec)

/-- 'signallinglaw03.WireRoundTrips', WHERE WHAT IT READS IS OF BULK AT MOST 1048576: true; the input reads as it did. -/
def wireRoundTripsUptoRow : OpenClaim := { program := "ytlpkkcodmoklaaa", sum := "639c70dfb6695f3467cb84edeaccf87f23fd4a2761b43e7b73608e648606cf7c", func := "signalling/signallinglaw03.WireRoundTrips", spec := "wireRoundTrips", apart := false, narrowed := true }
def WireRoundTripsUptoSaid : Prop := wireRoundTripsUptoRow.holds Try.pinned (OpenSpec.upto wireRoundTripsSpec)

/-- 'signallinglaw03.WireExact', WHERE WHAT IT READS IS OF BULK AT MOST 1048576: true; the input reads as it did. -/
def wireExactUptoRow : OpenClaim := { program := "ytlpkkcodmoklaaa", sum := "639c70dfb6695f3467cb84edeaccf87f23fd4a2761b43e7b73608e648606cf7c", func := "signalling/signallinglaw03.WireExact", spec := "wireExact", apart := false, narrowed := true }
def WireExactUptoSaid : Prop := wireExactUptoRow.holds Try.pinned (OpenSpec.upto wireExactSpec)

/-- 'signallinglaw37.MessageEncodes', WHERE WHAT IT READS IS OF BULK AT MOST 1048576: true; the input reads as it did. -/
def messageEncodesUptoRow : OpenClaim := { program := "ytlpkkcodmoklaaa", sum := "639c70dfb6695f3467cb84edeaccf87f23fd4a2761b43e7b73608e648606cf7c", func := "signalling/signallinglaw37.MessageEncodes", spec := "messageEncodes", inPlace := ["internal/abi.NoEscape"], unfollowed := true, recurses := true, apart := false, narrowed := true }
def MessageEncodesUptoSaid : Prop := messageEncodesUptoRow.holds Try.pinned (OpenSpec.upto messageEncodesSpec)

/-- 'signallinglaw37.MessageDecodes', WHERE WHAT IT READS IS OF BULK AT MOST 1048576: true; the input reads as it did. -/
def messageDecodesUptoRow : OpenClaim := { program := "ytlpkkcodmoklaaa", sum := "639c70dfb6695f3467cb84edeaccf87f23fd4a2761b43e7b73608e648606cf7c", func := "signalling/signallinglaw37.MessageDecodes", spec := "messageDecodes", inPlace := ["internal/abi.NoEscape"], unfollowed := true, recurses := true, apart := false, narrowed := true }
def MessageDecodesUptoSaid : Prop := messageDecodesUptoRow.holds Try.pinned (OpenSpec.upto messageDecodesSpec)

/-- 'signallinglaw37.MessageReturns', WHERE WHAT IT READS IS OF BULK AT MOST 1048576: true; the input reads as it did. -/
def messageReturnsUptoRow : OpenClaim := { program := "ytlpkkcodmoklaaa", sum := "639c70dfb6695f3467cb84edeaccf87f23fd4a2761b43e7b73608e648606cf7c", func := "signalling/signallinglaw37.MessageReturns", spec := "messageReturns", inPlace := ["internal/abi.NoEscape"], unfollowed := true, recurses := true, apart := false, narrowed := true }
def MessageReturnsUptoSaid : Prop := messageReturnsUptoRow.holds Try.pinned (OpenSpec.upto messageReturnsSpec)

/-- 'signallinglaw37.MessageDetects', WHERE WHAT IT READS IS OF BULK AT MOST 1048576: true; the input reads as it did. -/
def messageDetectsUptoRow : OpenClaim := { program := "ytlpkkcodmoklaaa", sum := "639c70dfb6695f3467cb84edeaccf87f23fd4a2761b43e7b73608e648606cf7c", func := "signalling/signallinglaw37.MessageDetects", spec := "messageDetects", inPlace := ["internal/abi.NoEscape"], unfollowed := true, recurses := true, apart := false, narrowed := true }
def MessageDetectsUptoSaid : Prop := messageDetectsUptoRow.holds Try.pinned (OpenSpec.upto messageDetectsSpec)

/-- 'signallinglaw37.MessageCuts', WHERE WHAT IT READS IS OF BULK AT MOST 1048576: true; the input reads as it did. -/
def messageCutsUptoRow : OpenClaim := { program := "ytlpkkcodmoklaaa", sum := "639c70dfb6695f3467cb84edeaccf87f23fd4a2761b43e7b73608e648606cf7c", func := "signalling/signallinglaw37.MessageCuts", spec := "messageCuts", inPlace := ["internal/abi.NoEscape"], unfollowed := true, recurses := true, apart := false, narrowed := true }
def MessageCutsUptoSaid : Prop := messageCutsUptoRow.holds Try.pinned (OpenSpec.upto messageCutsSpec)

end Rows
end Go.Proofs.Ytlpkkcodmoklaaa
