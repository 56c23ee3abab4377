/-
  No cell of these rows narrows 'for every input' (looked for: loops, veiled, ifaces, maps, wideKeys, modest, calm, conditions, laid).
  DERIVED. THE GIVEN ROWS OF THIS SEAT. 16 by the template 'for every input the law returns true; each argument reads behind the call as it read before'; 0 by the template 'total and deterministic' (their statements: YtcljgphipdbckaaTotals.lean).
  GIVEN WITH THE SEED: the statements are not yours to turn. If you find one false, say at which input.
  Laid BY PROGRAM, IN A SANDBOX (cutbox-rows.mjs): the forced cells as the released guide's own fill.sh prints them over the translation d13becda0bdfa108… (all of the seat's roots in one cut). By AI agents, Wed Nov 11 2026. No macro, syntax, notation, axiom, sorry.
-/
import Derived.Test.YtcljgphipdbckaaChecked
import GoSem.Claim
import GoSem.ClaimJoined
import GoSem.ClaimMapViews
import Derived.JoinedTies
import Derived.KernelRfl
namespace Go.Proofs.Ytcljgphipdbckaa
/- THE CELL 'sum', in the pinned program and in every row, IS THE sha256 OF THE DUMP (.gsa) THAT YtcljgphipdbckaaProg.lean LOADS. Nothing in Lean hashes anything: it is a label: what it is worth is what the hold of that sum in a sandbox is worth. -/
noncomputable def Try.pinned : Pinned := { name := "ytcljgphipdbckaa", sum := "d13becda0bdfa10864476fa3003b6ef02977d62976f95cf2fe9b77590ae79593", checked := Try.checked }
namespace Rows
def none {H : Type} : Left H := { results := [], args := [] }

/-- 'triforiumlaw01.WordParts': WHATEVER THE INPUT: true; the input reads as it did. -/
def wordPartsSpec : ChangeSpec := { name := "wordParts", fn := fun _ => fun
  | [d1, d2, d3, d4] => { results := [.lit (.bool true)], args := [d1, d2, d3, d4] }
  | _ => none }
def wordPartsRow : OpenClaim := { program := "ytcljgphipdbckaa", sum := "d13becda0bdfa10864476fa3003b6ef02977d62976f95cf2fe9b77590ae79593", func := "triforium/triforiumlaw01.WordParts", spec := "wordParts", unfollowed := true, recurses := true, apart := false }
def WordPartsSaid : Prop := wordPartsRow.holds Try.pinned (OpenSpec.ofChange wordPartsSpec)

/-- ITS FALSE NEIGHBOUR: 'it returns false'. Refute it at one input. -/
def wordPartsWrong : ChangeSpec := { name := "wordParts", fn := fun _ => fun
  | [d1, d2, d3, d4] => { results := [.lit (.bool false)], args := [d1, d2, d3, d4] }
  | _ => none }
def WordPartsWrongFalsely : Prop := wordPartsRow.holds Try.pinned (OpenSpec.ofChange wordPartsWrong)

/-- 'triforiumlaw01.WordBits': WHATEVER THE INPUT: true; the input reads as it did. -/
def wordBitsSpec : ChangeSpec := { name := "wordBits", fn := fun _ => fun
  | [d1, d2] => { results := [.lit (.bool true)], args := [d1, d2] }
  | _ => none }
def wordBitsRow : OpenClaim := { program := "ytcljgphipdbckaa", sum := "d13becda0bdfa10864476fa3003b6ef02977d62976f95cf2fe9b77590ae79593", func := "triforium/triforiumlaw01.WordBits", spec := "wordBits", unfollowed := true, recurses := true, apart := false }
def WordBitsSaid : Prop := wordBitsRow.holds Try.pinned (OpenSpec.ofChange wordBitsSpec)

/-- ITS FALSE NEIGHBOUR: 'it returns false'. Refute it at one input. -/
def wordBitsWrong : ChangeSpec := { name := "wordBits", fn := fun _ => fun
  | [d1, d2] => { results := [.lit (.bool false)], args := [d1, d2] }
  | _ => none }
def WordBitsWrongFalsely : Prop := wordBitsRow.holds Try.pinned (OpenSpec.ofChange wordBitsWrong)

/-- 'triforiumlaw01.WordBack': WHATEVER THE INPUT: true; the input reads as it did. -/
def wordBackSpec : ChangeSpec := { name := "wordBack", fn := fun _ => fun
  | [d1, d2, d3, d4, d5, d6] => { results := [.lit (.bool true)], args := [d1, d2, d3, d4, d5, d6] }
  | _ => none }
def wordBackRow : OpenClaim := { program := "ytcljgphipdbckaa", sum := "d13becda0bdfa10864476fa3003b6ef02977d62976f95cf2fe9b77590ae79593", func := "triforium/triforiumlaw01.WordBack", spec := "wordBack", unfollowed := true, recurses := true, apart := false }
def WordBackSaid : Prop := wordBackRow.holds Try.pinned (OpenSpec.ofChange wordBackSpec)

/-- ITS FALSE NEIGHBOUR: 'it returns false'. Refute it at one input. -/
def wordBackWrong : ChangeSpec := { name := "wordBack", fn := fun _ => fun
  | [d1, d2, d3, d4, d5, d6] => { results := [.lit (.bool false)], args := [d1, d2, d3, d4, d5, d6] }
  | _ => none }
def WordBackWrongFalsely : Prop := wordBackRow.holds Try.pinned (OpenSpec.ofChange wordBackWrong)

/-- 'triforiumlaw02.ArenaPlays': WHATEVER THE INPUT: true; the input reads as it did. -/
def arenaPlaysSpec : ChangeSpec := { name := "arenaPlays", fn := fun _ => fun
  | [d1, d2] => { results := [.lit (.bool true)], args := [d1, d2] }
  | _ => none }
def arenaPlaysRow : OpenClaim := { program := "ytcljgphipdbckaa", sum := "d13becda0bdfa10864476fa3003b6ef02977d62976f95cf2fe9b77590ae79593", func := "triforium/triforiumlaw02.ArenaPlays", spec := "arenaPlays", apart := false }
def ArenaPlaysSaid : Prop := arenaPlaysRow.holds Try.pinned (OpenSpec.ofChange arenaPlaysSpec)

/-- ITS FALSE NEIGHBOUR: 'it returns false'. Refute it at one input. -/
def arenaPlaysWrong : ChangeSpec := { name := "arenaPlays", fn := fun _ => fun
  | [d1, d2] => { results := [.lit (.bool false)], args := [d1, d2] }
  | _ => none }
def ArenaPlaysWrongFalsely : Prop := arenaPlaysRow.holds Try.pinned (OpenSpec.ofChange arenaPlaysWrong)

/-- 'triforiumlaw02.ArenaMakes': WHATEVER THE INPUT: true; the input reads as it did. -/
def arenaMakesSpec : ChangeSpec := { name := "arenaMakes", fn := fun _ => fun
  | [d1, d2] => { results := [.lit (.bool true)], args := [d1, d2] }
  | _ => none }
def arenaMakesRow : OpenClaim := { program := "ytcljgphipdbckaa", sum := "d13becda0bdfa10864476fa3003b6ef02977d62976f95cf2fe9b77590ae79593", func := "triforium/triforiumlaw02.ArenaMakes", spec := "arenaMakes", apart := false }
def ArenaMakesSaid : Prop := arenaMakesRow.holds Try.pinned (OpenSpec.ofChange arenaMakesSpec)

/-- ITS FALSE NEIGHBOUR: 'it returns false'. Refute it at one input. -/
def arenaMakesWrong : ChangeSpec := { name := "arenaMakes", fn := fun _ => fun
  | [d1, d2] => { results := [.lit (.bool false)], args := [d1, d2] }
  | _ => none }
def ArenaMakesWrongFalsely : Prop := arenaMakesRow.holds Try.pinned (OpenSpec.ofChange arenaMakesWrong)

/-- 'triforiumlaw02.ArenaNobody': WHATEVER THE INPUT: true; the input reads as it did. -/
def arenaNobodySpec : ChangeSpec := { name := "arenaNobody", fn := fun _ => fun
  | [d1, d2, d3] => { results := [.lit (.bool true)], args := [d1, d2, d3] }
  | _ => none }
def arenaNobodyRow : OpenClaim := { program := "ytcljgphipdbckaa", sum := "d13becda0bdfa10864476fa3003b6ef02977d62976f95cf2fe9b77590ae79593", func := "triforium/triforiumlaw02.ArenaNobody", spec := "arenaNobody", apart := false }
def ArenaNobodySaid : Prop := arenaNobodyRow.holds Try.pinned (OpenSpec.ofChange arenaNobodySpec)

/-- ITS FALSE NEIGHBOUR: 'it returns false'. Refute it at one input. -/
def arenaNobodyWrong : ChangeSpec := { name := "arenaNobody", fn := fun _ => fun
  | [d1, d2, d3] => { results := [.lit (.bool false)], args := [d1, d2, d3] }
  | _ => none }
def ArenaNobodyWrongFalsely : Prop := arenaNobodyRow.holds Try.pinned (OpenSpec.ofChange arenaNobodyWrong)

/-- 'triforiumlaw07.HeadWords': WHATEVER THE INPUT: true; the input reads as it did. -/
def headWordsSpec : ChangeSpec := { name := "headWords", fn := fun _ => fun
  | [d1, d2, d3] => { results := [.lit (.bool true)], args := [d1, d2, d3] }
  | _ => none }
def headWordsRow : OpenClaim := { program := "ytcljgphipdbckaa", sum := "d13becda0bdfa10864476fa3003b6ef02977d62976f95cf2fe9b77590ae79593", func := "triforium/triforiumlaw07.HeadWords", spec := "headWords", apart := false }
def HeadWordsSaid : Prop := headWordsRow.holds Try.pinned (OpenSpec.ofChange headWordsSpec)

/-- ITS FALSE NEIGHBOUR: 'it returns false'. Refute it at one input. -/
def headWordsWrong : ChangeSpec := { name := "headWords", fn := fun _ => fun
  | [d1, d2, d3] => { results := [.lit (.bool false)], args := [d1, d2, d3] }
  | _ => none }
def HeadWordsWrongFalsely : Prop := headWordsRow.holds Try.pinned (OpenSpec.ofChange headWordsWrong)

/-- 'triforiumlaw07.HeadBack': WHATEVER THE INPUT: true; the input reads as it did. -/
def headBackSpec : ChangeSpec := { name := "headBack", fn := fun _ => fun
  | [d1, d2, d3] => { results := [.lit (.bool true)], args := [d1, d2, d3] }
  | _ => none }
def headBackRow : OpenClaim := { program := "ytcljgphipdbckaa", sum := "d13becda0bdfa10864476fa3003b6ef02977d62976f95cf2fe9b77590ae79593", func := "triforium/triforiumlaw07.HeadBack", spec := "headBack", apart := false }
def HeadBackSaid : Prop := headBackRow.holds Try.pinned (OpenSpec.ofChange headBackSpec)

/-- ITS FALSE NEIGHBOUR: 'it returns false'. Refute it at one input. -/
def headBackWrong : ChangeSpec := { name := "headBack", fn := fun _ => fun
  | [d1, d2, d3] => { results := [.lit (.bool false)], args := [d1, d2, d3] }
  | _ => none }
def HeadBackWrongFalsely : Prop := headBackRow.holds Try.pinned (OpenSpec.ofChange headBackWrong)

/-- 'triforiumlaw07.HeadApart': WHATEVER THE INPUT: true; the input reads as it did. -/
def headApartSpec : ChangeSpec := { name := "headApart", fn := fun _ => fun
  | [d] => { results := [.lit (.bool true)], args := [d] }
  | _ => none }
def headApartRow : OpenClaim := { program := "ytcljgphipdbckaa", sum := "d13becda0bdfa10864476fa3003b6ef02977d62976f95cf2fe9b77590ae79593", func := "triforium/triforiumlaw07.HeadApart", spec := "headApart", apart := false }
def HeadApartSaid : Prop := headApartRow.holds Try.pinned (OpenSpec.ofChange headApartSpec)

/-- ITS FALSE NEIGHBOUR: 'it returns false'. Refute it at one input. -/
def headApartWrong : ChangeSpec := { name := "headApart", fn := fun _ => fun
  | [d] => { results := [.lit (.bool false)], args := [d] }
  | _ => none }
def HeadApartWrongFalsely : Prop := headApartRow.holds Try.pinned (OpenSpec.ofChange headApartWrong)

/-- 'triforiumlaw14.RootsMoves': WHATEVER THE INPUT: true; the input reads as it did. -/
def rootsMovesSpec : ChangeSpec := { name := "rootsMoves", fn := fun _ => fun
  | [d1, d2, d3] => { results := [.lit (.bool true)], args := [d1, d2, d3] }
  | _ => none }
def rootsMovesRow : OpenClaim := { program := "ytcljgphipdbckaa", sum := "d13becda0bdfa10864476fa3003b6ef02977d62976f95cf2fe9b77590ae79593", func := "triforium/triforiumlaw14.RootsMoves", spec := "rootsMoves", unfollowed := true, recurses := true, apart := false }
def RootsMovesSaid : Prop := rootsMovesRow.holds Try.pinned (OpenSpec.ofChange rootsMovesSpec)

/-- ITS FALSE NEIGHBOUR: 'it returns false'. Refute it at one input. -/
def rootsMovesWrong : ChangeSpec := { name := "rootsMoves", fn := fun _ => fun
  | [d1, d2, d3] => { results := [.lit (.bool false)], args := [d1, d2, d3] }
  | _ => none }
def RootsMovesWrongFalsely : Prop := rootsMovesRow.holds Try.pinned (OpenSpec.ofChange rootsMovesWrong)

/-- 'triforiumlaw14.RootsTells': WHATEVER THE INPUT: true; the input reads as it did. -/
def rootsTellsSpec : ChangeSpec := { name := "rootsTells", fn := fun _ => fun
  | [d1, d2] => { results := [.lit (.bool true)], args := [d1, d2] }
  | _ => none }
def rootsTellsRow : OpenClaim := { program := "ytcljgphipdbckaa", sum := "d13becda0bdfa10864476fa3003b6ef02977d62976f95cf2fe9b77590ae79593", func := "triforium/triforiumlaw14.RootsTells", spec := "rootsTells", unfollowed := true, recurses := true, apart := false }
def RootsTellsSaid : Prop := rootsTellsRow.holds Try.pinned (OpenSpec.ofChange rootsTellsSpec)

/-- ITS FALSE NEIGHBOUR: 'it returns false'. Refute it at one input. -/
def rootsTellsWrong : ChangeSpec := { name := "rootsTells", fn := fun _ => fun
  | [d1, d2] => { results := [.lit (.bool false)], args := [d1, d2] }
  | _ => none }
def RootsTellsWrongFalsely : Prop := rootsTellsRow.holds Try.pinned (OpenSpec.ofChange rootsTellsWrong)

/-- 'triforiumlaw14.RootsOnce': WHATEVER THE INPUT: true; the input reads as it did. -/
def rootsOnceSpec : ChangeSpec := { name := "rootsOnce", fn := fun _ => fun
  | [d1, d2] => { results := [.lit (.bool true)], args := [d1, d2] }
  | _ => none }
def rootsOnceRow : OpenClaim := { program := "ytcljgphipdbckaa", sum := "d13becda0bdfa10864476fa3003b6ef02977d62976f95cf2fe9b77590ae79593", func := "triforium/triforiumlaw14.RootsOnce", spec := "rootsOnce", unfollowed := true, recurses := true, apart := false }
def RootsOnceSaid : Prop := rootsOnceRow.holds Try.pinned (OpenSpec.ofChange rootsOnceSpec)

/-- ITS FALSE NEIGHBOUR: 'it returns false'. Refute it at one input. -/
def rootsOnceWrong : ChangeSpec := { name := "rootsOnce", fn := fun _ => fun
  | [d1, d2] => { results := [.lit (.bool false)], args := [d1, d2] }
  | _ => none }
def RootsOnceWrongFalsely : Prop := rootsOnceRow.holds Try.pinned (OpenSpec.ofChange rootsOnceWrong)

/-- 'triforiumlaw08.ObjectNobody': WHATEVER THE INPUT: true; the input reads as it did. -/
def objectNobodySpec : ChangeSpec := { name := "objectNobody", fn := fun _ => fun
  | [d1, d2, d3, d4] => { results := [.lit (.bool true)], args := [d1, d2, d3, d4] }
  | _ => none }
def objectNobodyRow : OpenClaim := { program := "ytcljgphipdbckaa", sum := "d13becda0bdfa10864476fa3003b6ef02977d62976f95cf2fe9b77590ae79593", func := "triforium/triforiumlaw08.ObjectNobody", spec := "objectNobody", apart := false }
def ObjectNobodySaid : Prop := objectNobodyRow.holds Try.pinned (OpenSpec.ofChange objectNobodySpec)

/-- ITS FALSE NEIGHBOUR: 'it returns false'. Refute it at one input. -/
def objectNobodyWrong : ChangeSpec := { name := "objectNobody", fn := fun _ => fun
  | [d1, d2, d3, d4] => { results := [.lit (.bool false)], args := [d1, d2, d3, d4] }
  | _ => none }
def ObjectNobodyWrongFalsely : Prop := objectNobodyRow.holds Try.pinned (OpenSpec.ofChange objectNobodyWrong)

/-- 'triforiumlaw12.ThreadBack': WHATEVER THE INPUT: true; the input reads as it did. -/
def threadBackSpec : ChangeSpec := { name := "threadBack", fn := fun _ => fun
  | [d1, d2] => { results := [.lit (.bool true)], args := [d1, d2] }
  | _ => none }
def threadBackRow : OpenClaim := { program := "ytcljgphipdbckaa", sum := "d13becda0bdfa10864476fa3003b6ef02977d62976f95cf2fe9b77590ae79593", func := "triforium/triforiumlaw12.ThreadBack", spec := "threadBack", unfollowed := true, recurses := true, apart := false }
def ThreadBackSaid : Prop := threadBackRow.holds Try.pinned (OpenSpec.ofChange threadBackSpec)

/-- ITS FALSE NEIGHBOUR: 'it returns false'. Refute it at one input. -/
def threadBackWrong : ChangeSpec := { name := "threadBack", fn := fun _ => fun
  | [d1, d2] => { results := [.lit (.bool false)], args := [d1, d2] }
  | _ => none }
def ThreadBackWrongFalsely : Prop := threadBackRow.holds Try.pinned (OpenSpec.ofChange threadBackWrong)

/-- 'triforiumlaw08.ObjectPlays': WHATEVER THE INPUT: true; the input reads as it did. -/
def objectPlaysSpec : ChangeSpec := { name := "objectPlays", fn := fun _ => fun
  | [d1, d2] => { results := [.lit (.bool true)], args := [d1, d2] }
  | _ => none }
def objectPlaysRow : OpenClaim := { program := "ytcljgphipdbckaa", sum := "d13becda0bdfa10864476fa3003b6ef02977d62976f95cf2fe9b77590ae79593", func := "triforium/triforiumlaw08.ObjectPlays", spec := "objectPlays", apart := false }
def ObjectPlaysSaid : Prop := objectPlaysRow.holds Try.pinned (OpenSpec.ofChange objectPlaysSpec)

/-- ITS FALSE NEIGHBOUR: 'it returns false'. Refute it at one input. -/
def objectPlaysWrong : ChangeSpec := { name := "objectPlays", fn := fun _ => fun
  | [d1, d2] => { results := [.lit (.bool false)], args := [d1, d2] }
  | _ => none }
def ObjectPlaysWrongFalsely : Prop := objectPlaysRow.holds Try.pinned (OpenSpec.ofChange objectPlaysWrong)

/-- 'triforiumlaw08.ObjectAlone': WHATEVER THE INPUT: true; the input reads as it did. -/
def objectAloneSpec : ChangeSpec := { name := "objectAlone", fn := fun _ => fun
  | [d1, d2, d3, d4, d5] => { results := [.lit (.bool true)], args := [d1, d2, d3, d4, d5] }
  | _ => none }
def objectAloneRow : OpenClaim := { program := "ytcljgphipdbckaa", sum := "d13becda0bdfa10864476fa3003b6ef02977d62976f95cf2fe9b77590ae79593", func := "triforium/triforiumlaw08.ObjectAlone", spec := "objectAlone", apart := false }
def ObjectAloneSaid : Prop := objectAloneRow.holds Try.pinned (OpenSpec.ofChange objectAloneSpec)

/-- ITS FALSE NEIGHBOUR: 'it returns false'. Refute it at one input. -/
def objectAloneWrong : ChangeSpec := { name := "objectAlone", fn := fun _ => fun
  | [d1, d2, d3, d4, d5] => { results := [.lit (.bool false)], args := [d1, d2, d3, d4, d5] }
  | _ => none }
def ObjectAloneWrongFalsely : Prop := objectAloneRow.holds Try.pinned (OpenSpec.ofChange objectAloneWrong)

/- THE SECOND FORM. 'bulk': how many values and letters a reading holds, each counted each time it is reached (what is shared counts as often as it is met; a slice's spare places count too). A statement '..UptoSaid' is the law's where the arguments, and the package variables that the reading takes, are together of bulk at most 1048576: NARROWER than '..Said'. Prove '..Said' where nothing that the law and all that it calls make is longer than what came in: it says more and counts as full. Else prove '..UptoSaid'. A law counts once. -/
mutual
def uptoBulk {H : Type} : DataW H → Nat
  | .lit (.string bytes) => bytes.length + 1
  | .lit _ => 1
  | .nil => 1
  | .ptr d => uptoBulk d + 1
  | .slice elems spare => uptoBulkAll elems + uptoBulkAll spare + 1
  | .agg parts => uptoBulkAll parts + 1
  | .iface _ d => uptoBulk d + 1
  | .map entries => uptoBulkEntries entries + 1
  | .held _ => 1
def uptoBulkAll {H : Type} : List (DataW H) → Nat
  | [] => 0
  | d :: r => uptoBulk d + uptoBulkAll r
def uptoBulkEntries {H : Type} : List (Lit × DataW H) → Nat
  | [] => 0
  | x :: r => uptoBulkEntry x + uptoBulkEntries r
def uptoBulkEntry {H : Type} : Lit × DataW H → Nat
  | (.string bytes, d) => bytes.length + uptoBulk d + 1
  | (_, d) => uptoBulk d + 1
 end
def uptoSmall : (H : Type) → List (DataW H) → Bool := fun _ ds => decide (uptoBulkAll ds ≤ 1048576)
def OpenSpec.upto (s : _root_.Go.ChangeSpec) : _root_.Go.OpenSpec := { _root_.Go.OpenSpec.ofChange s with cond := some uptoSmall }

/-- 'triforiumlaw01.WordParts', WHERE WHAT IT READS IS OF BULK AT MOST 1048576: true; the input reads as it did. -/
def wordPartsUptoRow : OpenClaim := { program := "ytcljgphipdbckaa", sum := "d13becda0bdfa10864476fa3003b6ef02977d62976f95cf2fe9b77590ae79593", func := "triforium/triforiumlaw01.WordParts", spec := "wordParts", unfollowed := true, recurses := true, apart := false, narrowed := true }
def WordPartsUptoSaid : Prop := wordPartsUptoRow.holds Try.pinned (OpenSpec.upto wordPartsSpec)

/-- 'triforiumlaw01.WordBits', WHERE WHAT IT READS IS OF BULK AT MOST 1048576: true; the input reads as it did. -/
def wordBitsUptoRow : OpenClaim := { program := "ytcljgphipdbckaa", sum := "d13becda0bdfa10864476fa3003b6ef02977d62976f95cf2fe9b77590ae79593", func := "triforium/triforiumlaw01.WordBits", spec := "wordBits", unfollowed := true, recurses := true, apart := false, narrowed := true }
def WordBitsUptoSaid : Prop := wordBitsUptoRow.holds Try.pinned (OpenSpec.upto wordBitsSpec)

/-- 'triforiumlaw01.WordBack', WHERE WHAT IT READS IS OF BULK AT MOST 1048576: true; the input reads as it did. -/
def wordBackUptoRow : OpenClaim := { program := "ytcljgphipdbckaa", sum := "d13becda0bdfa10864476fa3003b6ef02977d62976f95cf2fe9b77590ae79593", func := "triforium/triforiumlaw01.WordBack", spec := "wordBack", unfollowed := true, recurses := true, apart := false, narrowed := true }
def WordBackUptoSaid : Prop := wordBackUptoRow.holds Try.pinned (OpenSpec.upto wordBackSpec)

/-- 'triforiumlaw02.ArenaPlays', WHERE WHAT IT READS IS OF BULK AT MOST 1048576: true; the input reads as it did. -/
def arenaPlaysUptoRow : OpenClaim := { program := "ytcljgphipdbckaa", sum := "d13becda0bdfa10864476fa3003b6ef02977d62976f95cf2fe9b77590ae79593", func := "triforium/triforiumlaw02.ArenaPlays", spec := "arenaPlays", apart := false, narrowed := true }
def ArenaPlaysUptoSaid : Prop := arenaPlaysUptoRow.holds Try.pinned (OpenSpec.upto arenaPlaysSpec)

/-- 'triforiumlaw02.ArenaMakes', WHERE WHAT IT READS IS OF BULK AT MOST 1048576: true; the input reads as it did. -/
def arenaMakesUptoRow : OpenClaim := { program := "ytcljgphipdbckaa", sum := "d13becda0bdfa10864476fa3003b6ef02977d62976f95cf2fe9b77590ae79593", func := "triforium/triforiumlaw02.ArenaMakes", spec := "arenaMakes", apart := false, narrowed := true }
def ArenaMakesUptoSaid : Prop := arenaMakesUptoRow.holds Try.pinned (OpenSpec.upto arenaMakesSpec)

/-- 'triforiumlaw02.ArenaNobody', WHERE WHAT IT READS IS OF BULK AT MOST 1048576: true; the input reads as it did. -/
def arenaNobodyUptoRow : OpenClaim := { program := "ytcljgphipdbckaa", sum := "d13becda0bdfa10864476fa3003b6ef02977d62976f95cf2fe9b77590ae79593", func := "triforium/triforiumlaw02.ArenaNobody", spec := "arenaNobody", apart := false, narrowed := true }
def ArenaNobodyUptoSaid : Prop := arenaNobodyUptoRow.holds Try.pinned (OpenSpec.upto arenaNobodySpec)

/-- 'triforiumlaw07.HeadWords', WHERE WHAT IT READS IS OF BULK AT MOST 1048576: true; the input reads as it did. -/
def headWordsUptoRow : OpenClaim := { program := "ytcljgphipdbckaa", sum := "d13becda0bdfa10864476fa3003b6ef02977d62976f95cf2fe9b77590ae79593", func := "triforium/triforiumlaw07.HeadWords", spec := "headWords", apart := false, narrowed := true }
def HeadWordsUptoSaid : Prop := headWordsUptoRow.holds Try.pinned (OpenSpec.upto headWordsSpec)

/-- 'triforiumlaw07.HeadBack', WHERE WHAT IT READS IS OF BULK AT MOST 1048576: true; the input reads as it did. -/
def headBackUptoRow : OpenClaim := { program := "ytcljgphipdbckaa", sum := "d13becda0bdfa10864476fa3003b6ef02977d62976f95cf2fe9b77590ae79593", func := "triforium/triforiumlaw07.HeadBack", spec := "headBack", apart := false, narrowed := true }
def HeadBackUptoSaid : Prop := headBackUptoRow.holds Try.pinned (OpenSpec.upto headBackSpec)

/-- 'triforiumlaw07.HeadApart', WHERE WHAT IT READS IS OF BULK AT MOST 1048576: true; the input reads as it did. -/
def headApartUptoRow : OpenClaim := { program := "ytcljgphipdbckaa", sum := "d13becda0bdfa10864476fa3003b6ef02977d62976f95cf2fe9b77590ae79593", func := "triforium/triforiumlaw07.HeadApart", spec := "headApart", apart := false, narrowed := true }
def HeadApartUptoSaid : Prop := headApartUptoRow.holds Try.pinned (OpenSpec.upto headApartSpec)

/-- 'triforiumlaw14.RootsMoves', WHERE WHAT IT READS IS OF BULK AT MOST 1048576: true; the input reads as it did. -/
def rootsMovesUptoRow : OpenClaim := { program := "ytcljgphipdbckaa", sum := "d13becda0bdfa10864476fa3003b6ef02977d62976f95cf2fe9b77590ae79593", func := "triforium/triforiumlaw14.RootsMoves", spec := "rootsMoves", unfollowed := true, recurses := true, apart := false, narrowed := true }
def RootsMovesUptoSaid : Prop := rootsMovesUptoRow.holds Try.pinned (OpenSpec.upto rootsMovesSpec)

/-- 'triforiumlaw14.RootsTells', WHERE WHAT IT READS IS OF BULK AT MOST 1048576: true; the input reads as it did. -/
def rootsTellsUptoRow : OpenClaim := { program := "ytcljgphipdbckaa", sum := "d13becda0bdfa10864476fa3003b6ef02977d62976f95cf2fe9b77590ae79593", func := "triforium/triforiumlaw14.RootsTells", spec := "rootsTells", unfollowed := true, recurses := true, apart := false, narrowed := true }
def RootsTellsUptoSaid : Prop := rootsTellsUptoRow.holds Try.pinned (OpenSpec.upto rootsTellsSpec)

/-- 'triforiumlaw14.RootsOnce', WHERE WHAT IT READS IS OF BULK AT MOST 1048576: true; the input reads as it did. -/
def rootsOnceUptoRow : OpenClaim := { program := "ytcljgphipdbckaa", sum := "d13becda0bdfa10864476fa3003b6ef02977d62976f95cf2fe9b77590ae79593", func := "triforium/triforiumlaw14.RootsOnce", spec := "rootsOnce", unfollowed := true, recurses := true, apart := false, narrowed := true }
def RootsOnceUptoSaid : Prop := rootsOnceUptoRow.holds Try.pinned (OpenSpec.upto rootsOnceSpec)

/-- 'triforiumlaw08.ObjectNobody', WHERE WHAT IT READS IS OF BULK AT MOST 1048576: true; the input reads as it did. -/
def objectNobodyUptoRow : OpenClaim := { program := "ytcljgphipdbckaa", sum := "d13becda0bdfa10864476fa3003b6ef02977d62976f95cf2fe9b77590ae79593", func := "triforium/triforiumlaw08.ObjectNobody", spec := "objectNobody", apart := false, narrowed := true }
def ObjectNobodyUptoSaid : Prop := objectNobodyUptoRow.holds Try.pinned (OpenSpec.upto objectNobodySpec)

/-- 'triforiumlaw12.ThreadBack', WHERE WHAT IT READS IS OF BULK AT MOST 1048576: true; the input reads as it did. -/
def threadBackUptoRow : OpenClaim := { program := "ytcljgphipdbckaa", sum := "d13becda0bdfa10864476fa3003b6ef02977d62976f95cf2fe9b77590ae79593", func := "triforium/triforiumlaw12.ThreadBack", spec := "threadBack", unfollowed := true, recurses := true, apart := false, narrowed := true }
def ThreadBackUptoSaid : Prop := threadBackUptoRow.holds Try.pinned (OpenSpec.upto threadBackSpec)

/-- 'triforiumlaw08.ObjectPlays', WHERE WHAT IT READS IS OF BULK AT MOST 1048576: true; the input reads as it did. -/
def objectPlaysUptoRow : OpenClaim := { program := "ytcljgphipdbckaa", sum := "d13becda0bdfa10864476fa3003b6ef02977d62976f95cf2fe9b77590ae79593", func := "triforium/triforiumlaw08.ObjectPlays", spec := "objectPlays", apart := false, narrowed := true }
def ObjectPlaysUptoSaid : Prop := objectPlaysUptoRow.holds Try.pinned (OpenSpec.upto objectPlaysSpec)

/-- 'triforiumlaw08.ObjectAlone', WHERE WHAT IT READS IS OF BULK AT MOST 1048576: true; the input reads as it did. -/
def objectAloneUptoRow : OpenClaim := { program := "ytcljgphipdbckaa", sum := "d13becda0bdfa10864476fa3003b6ef02977d62976f95cf2fe9b77590ae79593", func := "triforium/triforiumlaw08.ObjectAlone", spec := "objectAlone", apart := false, narrowed := true }
def ObjectAloneUptoSaid : Prop := objectAloneUptoRow.holds Try.pinned (OpenSpec.upto objectAloneSpec)

end Rows
end Go.Proofs.Ytcljgphipdbckaa
