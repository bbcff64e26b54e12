/-
  No cell of these rows narrows 'for every input' (looked for: loops, veiled, ifaces, maps, wideKeys, modest, calm, conditions, laid).
  DERIVED. THE GIVEN ROWS OF THIS SEAT. 26 by the template 'for every input the law returns true; each argument reads behind the call as it read before'; 0 by the template 'total and deterministic' (their statements: YteeamlidmkpohaaTotals.lean).
  GIVEN WITH THE SEED: the statements are not yours to turn. If you find one false, say at which input.
  Laid BY PROGRAM, IN A SANDBOX (cutbox-rows.mjs): the forced cells as the released guide's own fill.sh prints them over the translation 5d420fcf96e62d12… (all of the seat's roots in one cut). By AI agents, Wed Nov 11 2026. No macro, syntax, notation, axiom, sorry.
-/
import Derived.Test.YteeamlidmkpohaaChecked
import GoSem.Claim
import GoSem.ClaimJoined
import GoSem.ClaimMapViews
import Derived.JoinedTies
import Derived.KernelRfl
namespace Go.Proofs.Yteeamlidmkpohaa
/- THE CELL 'sum', in the pinned program and in every row, IS THE sha256 OF THE DUMP (.gsa) THAT YteeamlidmkpohaaProg.lean LOADS. Nothing in Lean hashes anything: it is a label: what it is worth is what the hold of that sum in a sandbox is worth. -/
noncomputable def Try.pinned : Pinned := { name := "yteeamlidmkpohaa", sum := "5d420fcf96e62d12676f1eaa42f44a45d12a98d49ee2596895bf8ed53074c829", checked := Try.checked }
namespace Rows
def none {H : Type} : Left H := { results := [], args := [] }

/-- 'peatbanklaw11.LayoutFields': WHATEVER THE INPUT: true; the input reads as it did. -/
def layoutFieldsSpec : ChangeSpec := { name := "layoutFields", fn := fun _ => fun
  | [d1, d2] => { results := [.lit (.bool true)], args := [d1, d2] }
  | _ => none }
def layoutFieldsRow : OpenClaim := { program := "yteeamlidmkpohaa", sum := "5d420fcf96e62d12676f1eaa42f44a45d12a98d49ee2596895bf8ed53074c829", func := "peatbank/peatbanklaw11.LayoutFields", spec := "layoutFields", unfollowed := true, recurses := true, apart := false }
def LayoutFieldsSaid : Prop := layoutFieldsRow.holds Try.pinned (OpenSpec.ofChange layoutFieldsSpec)

/-- ITS FALSE NEIGHBOUR: 'it returns false'. Refute it at one input. -/
def layoutFieldsWrong : ChangeSpec := { name := "layoutFields", fn := fun _ => fun
  | [d1, d2] => { results := [.lit (.bool false)], args := [d1, d2] }
  | _ => none }
def LayoutFieldsWrongFalsely : Prop := layoutFieldsRow.holds Try.pinned (OpenSpec.ofChange layoutFieldsWrong)

/-- 'peatbanklaw11.LayoutIn': WHATEVER THE INPUT: true; the input reads as it did. -/
def layoutInSpec : ChangeSpec := { name := "layoutIn", fn := fun _ => fun
  | [d1, d2, d3] => { results := [.lit (.bool true)], args := [d1, d2, d3] }
  | _ => none }
def layoutInRow : OpenClaim := { program := "yteeamlidmkpohaa", sum := "5d420fcf96e62d12676f1eaa42f44a45d12a98d49ee2596895bf8ed53074c829", func := "peatbank/peatbanklaw11.LayoutIn", spec := "layoutIn", unfollowed := true, recurses := true, apart := false }
def LayoutInSaid : Prop := layoutInRow.holds Try.pinned (OpenSpec.ofChange layoutInSpec)

/-- ITS FALSE NEIGHBOUR: 'it returns false'. Refute it at one input. -/
def layoutInWrong : ChangeSpec := { name := "layoutIn", fn := fun _ => fun
  | [d1, d2, d3] => { results := [.lit (.bool false)], args := [d1, d2, d3] }
  | _ => none }
def LayoutInWrongFalsely : Prop := layoutInRow.holds Try.pinned (OpenSpec.ofChange layoutInWrong)

/-- 'peatbanklaw11.LayoutPlaces': WHATEVER THE INPUT: true; the input reads as it did. -/
def layoutPlacesSpec : ChangeSpec := { name := "layoutPlaces", fn := fun _ => fun
  | [d1, d2, d3] => { results := [.lit (.bool true)], args := [d1, d2, d3] }
  | _ => none }
def layoutPlacesRow : OpenClaim := { program := "yteeamlidmkpohaa", sum := "5d420fcf96e62d12676f1eaa42f44a45d12a98d49ee2596895bf8ed53074c829", func := "peatbank/peatbanklaw11.LayoutPlaces", spec := "layoutPlaces", unfollowed := true, recurses := true, apart := false }
def LayoutPlacesSaid : Prop := layoutPlacesRow.holds Try.pinned (OpenSpec.ofChange layoutPlacesSpec)

/-- ITS FALSE NEIGHBOUR: 'it returns false'. Refute it at one input. -/
def layoutPlacesWrong : ChangeSpec := { name := "layoutPlaces", fn := fun _ => fun
  | [d1, d2, d3] => { results := [.lit (.bool false)], args := [d1, d2, d3] }
  | _ => none }
def LayoutPlacesWrongFalsely : Prop := layoutPlacesRow.holds Try.pinned (OpenSpec.ofChange layoutPlacesWrong)

/-- 'peatbanklaw11.LayoutApart': WHATEVER THE INPUT: true; the input reads as it did. -/
def layoutApartSpec : ChangeSpec := { name := "layoutApart", fn := fun _ => fun
  | [d] => { results := [.lit (.bool true)], args := [d] }
  | _ => none }
def layoutApartRow : OpenClaim := { program := "yteeamlidmkpohaa", sum := "5d420fcf96e62d12676f1eaa42f44a45d12a98d49ee2596895bf8ed53074c829", func := "peatbank/peatbanklaw11.LayoutApart", spec := "layoutApart", unfollowed := true, recurses := true, apart := false }
def LayoutApartSaid : Prop := layoutApartRow.holds Try.pinned (OpenSpec.ofChange layoutApartSpec)

/-- ITS FALSE NEIGHBOUR: 'it returns false'. Refute it at one input. -/
def layoutApartWrong : ChangeSpec := { name := "layoutApart", fn := fun _ => fun
  | [d] => { results := [.lit (.bool false)], args := [d] }
  | _ => none }
def LayoutApartWrongFalsely : Prop := layoutApartRow.holds Try.pinned (OpenSpec.ofChange layoutApartWrong)

/-- 'peatbanklaw08.DevWhole': WHATEVER THE INPUT: true; the input reads as it did. -/
def devWholeSpec : ChangeSpec := { name := "devWhole", fn := fun _ => fun
  | [d1, d2] => { results := [.lit (.bool true)], args := [d1, d2] }
  | _ => none }
def devWholeRow : OpenClaim := { program := "yteeamlidmkpohaa", sum := "5d420fcf96e62d12676f1eaa42f44a45d12a98d49ee2596895bf8ed53074c829", func := "peatbank/peatbanklaw08.DevWhole", spec := "devWhole", apart := false }
def DevWholeSaid : Prop := devWholeRow.holds Try.pinned (OpenSpec.ofChange devWholeSpec)

/-- ITS FALSE NEIGHBOUR: 'it returns false'. Refute it at one input. -/
def devWholeWrong : ChangeSpec := { name := "devWhole", fn := fun _ => fun
  | [d1, d2] => { results := [.lit (.bool false)], args := [d1, d2] }
  | _ => none }
def DevWholeWrongFalsely : Prop := devWholeRow.holds Try.pinned (OpenSpec.ofChange devWholeWrong)

/-- 'peatbanklaw08.DevNumbers': WHATEVER THE INPUT: true; the input reads as it did. -/
def devNumbersSpec : ChangeSpec := { name := "devNumbers", fn := fun _ => fun
  | [] => { results := [.lit (.bool true)], args := [] }
  | _ => none }
def devNumbersRow : OpenClaim := { program := "yteeamlidmkpohaa", sum := "5d420fcf96e62d12676f1eaa42f44a45d12a98d49ee2596895bf8ed53074c829", func := "peatbank/peatbanklaw08.DevNumbers", spec := "devNumbers", apart := false }
def DevNumbersSaid : Prop := devNumbersRow.holds Try.pinned (OpenSpec.ofChange devNumbersSpec)

/-- ITS FALSE NEIGHBOUR: 'it returns false'. Refute it at one input. -/
def devNumbersWrong : ChangeSpec := { name := "devNumbers", fn := fun _ => fun
  | [] => { results := [.lit (.bool false)], args := [] }
  | _ => none }
def DevNumbersWrongFalsely : Prop := devNumbersRow.holds Try.pinned (OpenSpec.ofChange devNumbersWrong)

/-- 'peatbanklaw21.JournalReads': WHATEVER THE INPUT: true; the input reads as it did. -/
def journalReadsSpec : ChangeSpec := { name := "journalReads", fn := fun _ => fun
  | [d1, d2, d3] => { results := [.lit (.bool true)], args := [d1, d2, d3] }
  | _ => none }
def journalReadsRow : OpenClaim := { program := "yteeamlidmkpohaa", sum := "5d420fcf96e62d12676f1eaa42f44a45d12a98d49ee2596895bf8ed53074c829", func := "peatbank/peatbanklaw21.JournalReads", spec := "journalReads", inPlace := ["sync/atomic.AddInt64", "sync/atomic.LoadUint32", "(*internal/sync.Mutex).Lock", "internal/race.Disable", "sync/atomic.CompareAndSwapInt32", "internal/race.Enable", "internal/race.Acquire", "(*internal/sync.Mutex).lockSlow", "internal/sync.runtime_canSpin", "internal/sync.runtime_doSpin", "internal/sync.throw", "internal/sync.runtime_nanotime", "internal/sync.runtime_SemacquireMutex", "sync/atomic.AddInt32", "(*internal/sync.Mutex).Unlock", "internal/race.ReleaseMerge", "(*internal/sync.Mutex).unlockSlow", "internal/sync.fatal", "internal/sync.runtime_Semrelease", "sync/atomic.StoreUint32"], unfollowed := true, recurses := true, apart := false }
def JournalReadsSaid : Prop := journalReadsRow.holds Try.pinned (OpenSpec.ofChange journalReadsSpec)

/-- ITS FALSE NEIGHBOUR: 'it returns false'. Refute it at one input. -/
def journalReadsWrong : ChangeSpec := { name := "journalReads", fn := fun _ => fun
  | [d1, d2, d3] => { results := [.lit (.bool false)], args := [d1, d2, d3] }
  | _ => none }
def JournalReadsWrongFalsely : Prop := journalReadsRow.holds Try.pinned (OpenSpec.ofChange journalReadsWrong)

/-- 'peatbanklaw08.DevArmed': WHATEVER THE INPUT: true; the input reads as it did. -/
def devArmedSpec : ChangeSpec := { name := "devArmed", fn := fun _ => fun
  | [d1, d2] => { results := [.lit (.bool true)], args := [d1, d2] }
  | _ => none }
def devArmedRow : OpenClaim := { program := "yteeamlidmkpohaa", sum := "5d420fcf96e62d12676f1eaa42f44a45d12a98d49ee2596895bf8ed53074c829", func := "peatbank/peatbanklaw08.DevArmed", spec := "devArmed", apart := false }
def DevArmedSaid : Prop := devArmedRow.holds Try.pinned (OpenSpec.ofChange devArmedSpec)

/-- ITS FALSE NEIGHBOUR: 'it returns false'. Refute it at one input. -/
def devArmedWrong : ChangeSpec := { name := "devArmed", fn := fun _ => fun
  | [d1, d2] => { results := [.lit (.bool false)], args := [d1, d2] }
  | _ => none }
def DevArmedWrongFalsely : Prop := devArmedRow.holds Try.pinned (OpenSpec.ofChange devArmedWrong)

/-- 'peatbanklaw08.DevLives': WHATEVER THE INPUT: true; the input reads as it did. -/
def devLivesSpec : ChangeSpec := { name := "devLives", fn := fun _ => fun
  | [d1, d2] => { results := [.lit (.bool true)], args := [d1, d2] }
  | _ => none }
def devLivesRow : OpenClaim := { program := "yteeamlidmkpohaa", sum := "5d420fcf96e62d12676f1eaa42f44a45d12a98d49ee2596895bf8ed53074c829", func := "peatbank/peatbanklaw08.DevLives", spec := "devLives", apart := false }
def DevLivesSaid : Prop := devLivesRow.holds Try.pinned (OpenSpec.ofChange devLivesSpec)

/-- ITS FALSE NEIGHBOUR: 'it returns false'. Refute it at one input. -/
def devLivesWrong : ChangeSpec := { name := "devLives", fn := fun _ => fun
  | [d1, d2] => { results := [.lit (.bool false)], args := [d1, d2] }
  | _ => none }
def DevLivesWrongFalsely : Prop := devLivesRow.holds Try.pinned (OpenSpec.ofChange devLivesWrong)

/-- 'peatbanklaw08.DevOf': WHATEVER THE INPUT: true; the input reads as it did. -/
def devOfSpec : ChangeSpec := { name := "devOf", fn := fun _ => fun
  | [d1, d2] => { results := [.lit (.bool true)], args := [d1, d2] }
  | _ => none }
def devOfRow : OpenClaim := { program := "yteeamlidmkpohaa", sum := "5d420fcf96e62d12676f1eaa42f44a45d12a98d49ee2596895bf8ed53074c829", func := "peatbank/peatbanklaw08.DevOf", spec := "devOf", apart := false }
def DevOfSaid : Prop := devOfRow.holds Try.pinned (OpenSpec.ofChange devOfSpec)

/-- ITS FALSE NEIGHBOUR: 'it returns false'. Refute it at one input. -/
def devOfWrong : ChangeSpec := { name := "devOf", fn := fun _ => fun
  | [d1, d2] => { results := [.lit (.bool false)], args := [d1, d2] }
  | _ => none }
def DevOfWrongFalsely : Prop := devOfRow.holds Try.pinned (OpenSpec.ofChange devOfWrong)

/-- 'peatbanklaw08.DevCopies': WHATEVER THE INPUT: true; the input reads as it did. -/
def devCopiesSpec : ChangeSpec := { name := "devCopies", fn := fun _ => fun
  | [d1, d2, d3] => { results := [.lit (.bool true)], args := [d1, d2, d3] }
  | _ => none }
def devCopiesRow : OpenClaim := { program := "yteeamlidmkpohaa", sum := "5d420fcf96e62d12676f1eaa42f44a45d12a98d49ee2596895bf8ed53074c829", func := "peatbank/peatbanklaw08.DevCopies", spec := "devCopies", apart := false }
def DevCopiesSaid : Prop := devCopiesRow.holds Try.pinned (OpenSpec.ofChange devCopiesSpec)

/-- ITS FALSE NEIGHBOUR: 'it returns false'. Refute it at one input. -/
def devCopiesWrong : ChangeSpec := { name := "devCopies", fn := fun _ => fun
  | [d1, d2, d3] => { results := [.lit (.bool false)], args := [d1, d2, d3] }
  | _ => none }
def DevCopiesWrongFalsely : Prop := devCopiesRow.holds Try.pinned (OpenSpec.ofChange devCopiesWrong)

/-- 'peatbanklaw08.DevNil': WHATEVER THE INPUT: true; the input reads as it did. -/
def devNilSpec : ChangeSpec := { name := "devNil", fn := fun _ => fun
  | [d] => { results := [.lit (.bool true)], args := [d] }
  | _ => none }
def devNilRow : OpenClaim := { program := "yteeamlidmkpohaa", sum := "5d420fcf96e62d12676f1eaa42f44a45d12a98d49ee2596895bf8ed53074c829", func := "peatbank/peatbanklaw08.DevNil", spec := "devNil", apart := false }
def DevNilSaid : Prop := devNilRow.holds Try.pinned (OpenSpec.ofChange devNilSpec)

/-- ITS FALSE NEIGHBOUR: 'it returns false'. Refute it at one input. -/
def devNilWrong : ChangeSpec := { name := "devNil", fn := fun _ => fun
  | [d] => { results := [.lit (.bool false)], args := [d] }
  | _ => none }
def DevNilWrongFalsely : Prop := devNilRow.holds Try.pinned (OpenSpec.ofChange devNilWrong)

/-- 'peatbanklaw19.SpaceApart': WHATEVER THE INPUT: true; the input reads as it did. -/
def spaceApartSpec : ChangeSpec := { name := "spaceApart", fn := fun _ => fun
  | [d1, d2, d3] => { results := [.lit (.bool true)], args := [d1, d2, d3] }
  | _ => none }
def spaceApartRow : OpenClaim := { program := "yteeamlidmkpohaa", sum := "5d420fcf96e62d12676f1eaa42f44a45d12a98d49ee2596895bf8ed53074c829", func := "peatbank/peatbanklaw19.SpaceApart", spec := "spaceApart", unfollowed := true, recurses := true, apart := false }
def SpaceApartSaid : Prop := spaceApartRow.holds Try.pinned (OpenSpec.ofChange spaceApartSpec)

/-- ITS FALSE NEIGHBOUR: 'it returns false'. Refute it at one input. -/
def spaceApartWrong : ChangeSpec := { name := "spaceApart", fn := fun _ => fun
  | [d1, d2, d3] => { results := [.lit (.bool false)], args := [d1, d2, d3] }
  | _ => none }
def SpaceApartWrongFalsely : Prop := spaceApartRow.holds Try.pinned (OpenSpec.ofChange spaceApartWrong)

/-- 'peatbanklaw19.SpaceBack': WHATEVER THE INPUT: true; the input reads as it did. -/
def spaceBackSpec : ChangeSpec := { name := "spaceBack", fn := fun _ => fun
  | [d1, d2, d3, d4] => { results := [.lit (.bool true)], args := [d1, d2, d3, d4] }
  | _ => none }
def spaceBackRow : OpenClaim := { program := "yteeamlidmkpohaa", sum := "5d420fcf96e62d12676f1eaa42f44a45d12a98d49ee2596895bf8ed53074c829", func := "peatbank/peatbanklaw19.SpaceBack", spec := "spaceBack", unfollowed := true, recurses := true, apart := false }
def SpaceBackSaid : Prop := spaceBackRow.holds Try.pinned (OpenSpec.ofChange spaceBackSpec)

/-- ITS FALSE NEIGHBOUR: 'it returns false'. Refute it at one input. -/
def spaceBackWrong : ChangeSpec := { name := "spaceBack", fn := fun _ => fun
  | [d1, d2, d3, d4] => { results := [.lit (.bool false)], args := [d1, d2, d3, d4] }
  | _ => none }
def SpaceBackWrongFalsely : Prop := spaceBackRow.holds Try.pinned (OpenSpec.ofChange spaceBackWrong)

/-- 'peatbanklaw19.SpaceDoes': WHATEVER THE INPUT: true; the input reads as it did. -/
def spaceDoesSpec : ChangeSpec := { name := "spaceDoes", fn := fun _ => fun
  | [d1, d2, d3] => { results := [.lit (.bool true)], args := [d1, d2, d3] }
  | _ => none }
def spaceDoesRow : OpenClaim := { program := "yteeamlidmkpohaa", sum := "5d420fcf96e62d12676f1eaa42f44a45d12a98d49ee2596895bf8ed53074c829", func := "peatbank/peatbanklaw19.SpaceDoes", spec := "spaceDoes", unfollowed := true, recurses := true, apart := false }
def SpaceDoesSaid : Prop := spaceDoesRow.holds Try.pinned (OpenSpec.ofChange spaceDoesSpec)

/-- ITS FALSE NEIGHBOUR: 'it returns false'. Refute it at one input. -/
def spaceDoesWrong : ChangeSpec := { name := "spaceDoes", fn := fun _ => fun
  | [d1, d2, d3] => { results := [.lit (.bool false)], args := [d1, d2, d3] }
  | _ => none }
def SpaceDoesWrongFalsely : Prop := spaceDoesRow.holds Try.pinned (OpenSpec.ofChange spaceDoesWrong)

/-- 'peatbanklaw19.SpaceNone': WHATEVER THE INPUT: true; the input reads as it did. -/
def spaceNoneSpec : ChangeSpec := { name := "spaceNone", fn := fun _ => fun
  | [d] => { results := [.lit (.bool true)], args := [d] }
  | _ => none }
def spaceNoneRow : OpenClaim := { program := "yteeamlidmkpohaa", sum := "5d420fcf96e62d12676f1eaa42f44a45d12a98d49ee2596895bf8ed53074c829", func := "peatbank/peatbanklaw19.SpaceNone", spec := "spaceNone", unfollowed := true, recurses := true, apart := false }
def SpaceNoneSaid : Prop := spaceNoneRow.holds Try.pinned (OpenSpec.ofChange spaceNoneSpec)

/-- ITS FALSE NEIGHBOUR: 'it returns false'. Refute it at one input. -/
def spaceNoneWrong : ChangeSpec := { name := "spaceNone", fn := fun _ => fun
  | [d] => { results := [.lit (.bool false)], args := [d] }
  | _ => none }
def SpaceNoneWrongFalsely : Prop := spaceNoneRow.holds Try.pinned (OpenSpec.ofChange spaceNoneWrong)

/-- 'peatbanklaw09.CacheNil': WHATEVER THE INPUT: true; the input reads as it did. -/
def cacheNilSpec : ChangeSpec := { name := "cacheNil", fn := fun _ => fun
  | [d] => { results := [.lit (.bool true)], args := [d] }
  | _ => none }
def cacheNilRow : OpenClaim := { program := "yteeamlidmkpohaa", sum := "5d420fcf96e62d12676f1eaa42f44a45d12a98d49ee2596895bf8ed53074c829", func := "peatbank/peatbanklaw09.CacheNil", spec := "cacheNil", inPlace := ["sync/atomic.AddInt64", "sync/atomic.LoadInt64"], apart := false }
def CacheNilSaid : Prop := cacheNilRow.holds Try.pinned (OpenSpec.ofChange cacheNilSpec)

/-- ITS FALSE NEIGHBOUR: 'it returns false'. Refute it at one input. -/
def cacheNilWrong : ChangeSpec := { name := "cacheNil", fn := fun _ => fun
  | [d] => { results := [.lit (.bool false)], args := [d] }
  | _ => none }
def CacheNilWrongFalsely : Prop := cacheNilRow.holds Try.pinned (OpenSpec.ofChange cacheNilWrong)

/-- 'peatbanklaw09.CacheLives': WHATEVER THE INPUT: true; the input reads as it did. -/
def cacheLivesSpec : ChangeSpec := { name := "cacheLives", fn := fun _ => fun
  | [d1, d2, d3] => { results := [.lit (.bool true)], args := [d1, d2, d3] }
  | _ => none }
def cacheLivesRow : OpenClaim := { program := "yteeamlidmkpohaa", sum := "5d420fcf96e62d12676f1eaa42f44a45d12a98d49ee2596895bf8ed53074c829", func := "peatbank/peatbanklaw09.CacheLives", spec := "cacheLives", inPlace := ["sync/atomic.AddInt64", "sync/atomic.LoadInt64"], apart := false }
def CacheLivesSaid : Prop := cacheLivesRow.holds Try.pinned (OpenSpec.ofChange cacheLivesSpec)

/-- ITS FALSE NEIGHBOUR: 'it returns false'. Refute it at one input. -/
def cacheLivesWrong : ChangeSpec := { name := "cacheLives", fn := fun _ => fun
  | [d1, d2, d3] => { results := [.lit (.bool false)], args := [d1, d2, d3] }
  | _ => none }
def CacheLivesWrongFalsely : Prop := cacheLivesRow.holds Try.pinned (OpenSpec.ofChange cacheLivesWrong)

/-- 'peatbanklaw09.CacheNumbers': WHATEVER THE INPUT: true; the input reads as it did. -/
def cacheNumbersSpec : ChangeSpec := { name := "cacheNumbers", fn := fun _ => fun
  | [] => { results := [.lit (.bool true)], args := [] }
  | _ => none }
def cacheNumbersRow : OpenClaim := { program := "yteeamlidmkpohaa", sum := "5d420fcf96e62d12676f1eaa42f44a45d12a98d49ee2596895bf8ed53074c829", func := "peatbank/peatbanklaw09.CacheNumbers", spec := "cacheNumbers", inPlace := ["sync/atomic.AddInt64", "sync/atomic.LoadInt64"], apart := false }
def CacheNumbersSaid : Prop := cacheNumbersRow.holds Try.pinned (OpenSpec.ofChange cacheNumbersSpec)

/-- ITS FALSE NEIGHBOUR: 'it returns false'. Refute it at one input. -/
def cacheNumbersWrong : ChangeSpec := { name := "cacheNumbers", fn := fun _ => fun
  | [] => { results := [.lit (.bool false)], args := [] }
  | _ => none }
def CacheNumbersWrongFalsely : Prop := cacheNumbersRow.holds Try.pinned (OpenSpec.ofChange cacheNumbersWrong)

/-- 'peatbanklaw20.BlobNil': WHATEVER THE INPUT: true; the input reads as it did. -/
def blobNilSpec : ChangeSpec := { name := "blobNil", fn := fun _ => fun
  | [d1, d2, d3] => { results := [.lit (.bool true)], args := [d1, d2, d3] }
  | _ => none }
def blobNilRow : OpenClaim := { program := "yteeamlidmkpohaa", sum := "5d420fcf96e62d12676f1eaa42f44a45d12a98d49ee2596895bf8ed53074c829", func := "peatbank/peatbanklaw20.BlobNil", spec := "blobNil", inPlace := ["sync/atomic.AddInt64"], unfollowed := true, recurses := true, apart := false }
def BlobNilSaid : Prop := blobNilRow.holds Try.pinned (OpenSpec.ofChange blobNilSpec)

/-- ITS FALSE NEIGHBOUR: 'it returns false'. Refute it at one input. -/
def blobNilWrong : ChangeSpec := { name := "blobNil", fn := fun _ => fun
  | [d1, d2, d3] => { results := [.lit (.bool false)], args := [d1, d2, d3] }
  | _ => none }
def BlobNilWrongFalsely : Prop := blobNilRow.holds Try.pinned (OpenSpec.ofChange blobNilWrong)

/-- 'peatbanklaw09.CacheAlike': WHATEVER THE INPUT: true; the input reads as it did. -/
def cacheAlikeSpec : ChangeSpec := { name := "cacheAlike", fn := fun _ => fun
  | [d1, d2, d3, d4] => { results := [.lit (.bool true)], args := [d1, d2, d3, d4] }
  | _ => none }
def cacheAlikeRow : OpenClaim := { program := "yteeamlidmkpohaa", sum := "5d420fcf96e62d12676f1eaa42f44a45d12a98d49ee2596895bf8ed53074c829", func := "peatbank/peatbanklaw09.CacheAlike", spec := "cacheAlike", inPlace := ["sync/atomic.AddInt64", "sync/atomic.LoadInt64"], apart := false }
def CacheAlikeSaid : Prop := cacheAlikeRow.holds Try.pinned (OpenSpec.ofChange cacheAlikeSpec)

/-- ITS FALSE NEIGHBOUR: 'it returns false'. Refute it at one input. -/
def cacheAlikeWrong : ChangeSpec := { name := "cacheAlike", fn := fun _ => fun
  | [d1, d2, d3, d4] => { results := [.lit (.bool false)], args := [d1, d2, d3, d4] }
  | _ => none }
def CacheAlikeWrongFalsely : Prop := cacheAlikeRow.holds Try.pinned (OpenSpec.ofChange cacheAlikeWrong)

/-- 'peatbanklaw20.BlobLives': WHATEVER THE INPUT: true; the input reads as it did. -/
def blobLivesSpec : ChangeSpec := { name := "blobLives", fn := fun _ => fun
  | [d1, d2, d3] => { results := [.lit (.bool true)], args := [d1, d2, d3] }
  | _ => none }
def blobLivesRow : OpenClaim := { program := "yteeamlidmkpohaa", sum := "5d420fcf96e62d12676f1eaa42f44a45d12a98d49ee2596895bf8ed53074c829", func := "peatbank/peatbanklaw20.BlobLives", spec := "blobLives", inPlace := ["sync/atomic.AddInt64"], unfollowed := true, recurses := true, apart := false }
def BlobLivesSaid : Prop := blobLivesRow.holds Try.pinned (OpenSpec.ofChange blobLivesSpec)

/-- ITS FALSE NEIGHBOUR: 'it returns false'. Refute it at one input. -/
def blobLivesWrong : ChangeSpec := { name := "blobLives", fn := fun _ => fun
  | [d1, d2, d3] => { results := [.lit (.bool false)], args := [d1, d2, d3] }
  | _ => none }
def BlobLivesWrongFalsely : Prop := blobLivesRow.holds Try.pinned (OpenSpec.ofChange blobLivesWrong)

/-- 'peatbanklaw20.BlobNumbers': WHATEVER THE INPUT: true; the input reads as it did. -/
def blobNumbersSpec : ChangeSpec := { name := "blobNumbers", fn := fun _ => fun
  | [] => { results := [.lit (.bool true)], args := [] }
  | _ => none }
def blobNumbersRow : OpenClaim := { program := "yteeamlidmkpohaa", sum := "5d420fcf96e62d12676f1eaa42f44a45d12a98d49ee2596895bf8ed53074c829", func := "peatbank/peatbanklaw20.BlobNumbers", spec := "blobNumbers", inPlace := ["sync/atomic.AddInt64"], unfollowed := true, recurses := true, apart := false }
def BlobNumbersSaid : Prop := blobNumbersRow.holds Try.pinned (OpenSpec.ofChange blobNumbersSpec)

/-- ITS FALSE NEIGHBOUR: 'it returns false'. Refute it at one input. -/
def blobNumbersWrong : ChangeSpec := { name := "blobNumbers", fn := fun _ => fun
  | [] => { results := [.lit (.bool false)], args := [] }
  | _ => none }
def BlobNumbersWrongFalsely : Prop := blobNumbersRow.holds Try.pinned (OpenSpec.ofChange blobNumbersWrong)

/-- 'peatbanklaw20.BlobBack': WHATEVER THE INPUT: true; the input reads as it did. -/
def blobBackSpec : ChangeSpec := { name := "blobBack", fn := fun _ => fun
  | [d1, d2, d3, d4, d5] => { results := [.lit (.bool true)], args := [d1, d2, d3, d4, d5] }
  | _ => none }
def blobBackRow : OpenClaim := { program := "yteeamlidmkpohaa", sum := "5d420fcf96e62d12676f1eaa42f44a45d12a98d49ee2596895bf8ed53074c829", func := "peatbank/peatbanklaw20.BlobBack", spec := "blobBack", inPlace := ["sync/atomic.AddInt64"], unfollowed := true, recurses := true, apart := false }
def BlobBackSaid : Prop := blobBackRow.holds Try.pinned (OpenSpec.ofChange blobBackSpec)

/-- ITS FALSE NEIGHBOUR: 'it returns false'. Refute it at one input. -/
def blobBackWrong : ChangeSpec := { name := "blobBack", fn := fun _ => fun
  | [d1, d2, d3, d4, d5] => { results := [.lit (.bool false)], args := [d1, d2, d3, d4, d5] }
  | _ => none }
def BlobBackWrongFalsely : Prop := blobBackRow.holds Try.pinned (OpenSpec.ofChange blobBackWrong)

/-- 'peatbanklaw21.JournalOn': WHATEVER THE INPUT: true; the input reads as it did. -/
def journalOnSpec : ChangeSpec := { name := "journalOn", fn := fun _ => fun
  | [d1, d2, d3, d4] => { results := [.lit (.bool true)], args := [d1, d2, d3, d4] }
  | _ => none }
def journalOnRow : OpenClaim := { program := "yteeamlidmkpohaa", sum := "5d420fcf96e62d12676f1eaa42f44a45d12a98d49ee2596895bf8ed53074c829", func := "peatbank/peatbanklaw21.JournalOn", spec := "journalOn", inPlace := ["sync/atomic.AddInt64", "sync/atomic.LoadUint32", "(*internal/sync.Mutex).Lock", "internal/race.Disable", "sync/atomic.CompareAndSwapInt32", "internal/race.Enable", "internal/race.Acquire", "(*internal/sync.Mutex).lockSlow", "internal/sync.runtime_canSpin", "internal/sync.runtime_doSpin", "internal/sync.throw", "internal/sync.runtime_nanotime", "internal/sync.runtime_SemacquireMutex", "sync/atomic.AddInt32", "(*internal/sync.Mutex).Unlock", "internal/race.ReleaseMerge", "(*internal/sync.Mutex).unlockSlow", "internal/sync.fatal", "internal/sync.runtime_Semrelease", "sync/atomic.StoreUint32"], unfollowed := true, recurses := true, apart := false }
def JournalOnSaid : Prop := journalOnRow.holds Try.pinned (OpenSpec.ofChange journalOnSpec)

/-- ITS FALSE NEIGHBOUR: 'it returns false'. Refute it at one input. -/
def journalOnWrong : ChangeSpec := { name := "journalOn", fn := fun _ => fun
  | [d1, d2, d3, d4] => { results := [.lit (.bool false)], args := [d1, d2, d3, d4] }
  | _ => none }
def JournalOnWrongFalsely : Prop := journalOnRow.holds Try.pinned (OpenSpec.ofChange journalOnWrong)

/-- 'peatbanklaw21.JournalNone': WHATEVER THE INPUT: true; the input reads as it did. -/
def journalNoneSpec : ChangeSpec := { name := "journalNone", fn := fun _ => fun
  | [d1, d2, d3, d4] => { results := [.lit (.bool true)], args := [d1, d2, d3, d4] }
  | _ => none }
def journalNoneRow : OpenClaim := { program := "yteeamlidmkpohaa", sum := "5d420fcf96e62d12676f1eaa42f44a45d12a98d49ee2596895bf8ed53074c829", func := "peatbank/peatbanklaw21.JournalNone", spec := "journalNone", inPlace := ["sync/atomic.AddInt64", "sync/atomic.LoadUint32", "(*internal/sync.Mutex).Lock", "internal/race.Disable", "sync/atomic.CompareAndSwapInt32", "internal/race.Enable", "internal/race.Acquire", "(*internal/sync.Mutex).lockSlow", "internal/sync.runtime_canSpin", "internal/sync.runtime_doSpin", "internal/sync.throw", "internal/sync.runtime_nanotime", "internal/sync.runtime_SemacquireMutex", "sync/atomic.AddInt32", "(*internal/sync.Mutex).Unlock", "internal/race.ReleaseMerge", "(*internal/sync.Mutex).unlockSlow", "internal/sync.fatal", "internal/sync.runtime_Semrelease", "sync/atomic.StoreUint32"], unfollowed := true, recurses := true, apart := false }
def JournalNoneSaid : Prop := journalNoneRow.holds Try.pinned (OpenSpec.ofChange journalNoneSpec)

/-- ITS FALSE NEIGHBOUR: 'it returns false'. Refute it at one input. -/
def journalNoneWrong : ChangeSpec := { name := "journalNone", fn := fun _ => fun
  | [d1, d2, d3, d4] => { results := [.lit (.bool false)], args := [d1, d2, d3, d4] }
  | _ => none }
def JournalNoneWrongFalsely : Prop := journalNoneRow.holds Try.pinned (OpenSpec.ofChange journalNoneWrong)

/- THE SECOND FORM. 'bulk': how many values and letters a reading holds, each counted each time it is reached (what is shared counts as often as it is met; a slice's spare places count too). A statement '..UptoSaid' is the law's where the arguments, and the package variables that the reading takes, are together of bulk at most 1048576: NARROWER than '..Said'. Prove '..Said' where nothing that the law and all that it calls make is longer than what came in: it says more and counts as full. Else prove '..UptoSaid'. A law counts once. -/
mutual
def uptoBulk {H : Type} : DataW H → Nat
  | .lit (.string bytes) => bytes.length + 1
  | .lit _ => 1
  | .nil => 1
  | .ptr d => uptoBulk d + 1
  | .slice elems spare => uptoBulkAll elems + uptoBulkAll spare + 1
  | .agg parts => uptoBulkAll parts + 1
  | .iface _ d => uptoBulk d + 1
  | .map entries => uptoBulkEntries entries + 1
  | .held _ => 1
def uptoBulkAll {H : Type} : List (DataW H) → Nat
  | [] => 0
  | d :: r => uptoBulk d + uptoBulkAll r
def uptoBulkEntries {H : Type} : List (Lit × DataW H) → Nat
  | [] => 0
  | x :: r => uptoBulkEntry x + uptoBulkEntries r
def uptoBulkEntry {H : Type} : Lit × DataW H → Nat
  | (.string bytes, d) => bytes.length + uptoBulk d + 1
  | (_, d) => uptoBulk d + 1
 end
def uptoSmall : (H : Type) → List (DataW H) → Bool := fun _ ds => decide (uptoBulkAll ds ≤ 1048576)
def OpenSpec.upto (s : _root_.Go.ChangeSpec) : _root_.Go.OpenSpec := { _root_.Go.OpenSpec.ofChange s with cond := some uptoSmall }

/-- 'peatbanklaw11.LayoutFields', WHERE WHAT IT READS IS OF BULK AT MOST 1048576: true; the input reads as it did. -/
def layoutFieldsUptoRow : OpenClaim := { program := "yteeamlidmkpohaa", sum := "5d420fcf96e62d12676f1eaa42f44a45d12a98d49ee2596895bf8ed53074c829", func := "peatbank/peatbanklaw11.LayoutFields", spec := "layoutFields", unfollowed := true, recurses := true, apart := false, narrowed := true }
def LayoutFieldsUptoSaid : Prop := layoutFieldsUptoRow.holds Try.pinned (OpenSpec.upto layoutFieldsSpec)

/-- 'peatbanklaw11.LayoutIn', WHERE WHAT IT READS IS OF BULK AT MOST 1048576: true; the input reads as it did. -/
def layoutInUptoRow : OpenClaim := { program := "yteeamlidmkpohaa", sum := "5d420fcf96e62d12676f1eaa42f44a45d12a98d49ee2596895bf8ed53074c829", func := "peatbank/peatbanklaw11.LayoutIn", spec := "layoutIn", unfollowed := true, recurses := true, apart := false, narrowed := true }
def LayoutInUptoSaid : Prop := layoutInUptoRow.holds Try.pinned (OpenSpec.upto layoutInSpec)

/-- 'peatbanklaw11.LayoutPlaces', WHERE WHAT IT READS IS OF BULK AT MOST 1048576: true; the input reads as it did. -/
def layoutPlacesUptoRow : OpenClaim := { program := "yteeamlidmkpohaa", sum := "5d420fcf96e62d12676f1eaa42f44a45d12a98d49ee2596895bf8ed53074c829", func := "peatbank/peatbanklaw11.LayoutPlaces", spec := "layoutPlaces", unfollowed := true, recurses := true, apart := false, narrowed := true }
def LayoutPlacesUptoSaid : Prop := layoutPlacesUptoRow.holds Try.pinned (OpenSpec.upto layoutPlacesSpec)

/-- 'peatbanklaw11.LayoutApart', WHERE WHAT IT READS IS OF BULK AT MOST 1048576: true; the input reads as it did. -/
def layoutApartUptoRow : OpenClaim := { program := "yteeamlidmkpohaa", sum := "5d420fcf96e62d12676f1eaa42f44a45d12a98d49ee2596895bf8ed53074c829", func := "peatbank/peatbanklaw11.LayoutApart", spec := "layoutApart", unfollowed := true, recurses := true, apart := false, narrowed := true }
def LayoutApartUptoSaid : Prop := layoutApartUptoRow.holds Try.pinned (OpenSpec.upto layoutApartSpec)

/-- 'peatbanklaw08.DevWhole', WHERE WHAT IT READS IS OF BULK AT MOST 1048576: true; the input reads as it did. -/
def devWholeUptoRow : OpenClaim := { program := "yteeamlidmkpohaa", sum := "5d420fcf96e62d12676f1eaa42f44a45d12a98d49ee2596895bf8ed53074c829", func := "peatbank/peatbanklaw08.DevWhole", spec := "devWhole", apart := false, narrowed := true }
def DevWholeUptoSaid : Prop := devWholeUptoRow.holds Try.pinned (OpenSpec.upto devWholeSpec)

/-- 'peatbanklaw08.DevNumbers', WHERE WHAT IT READS IS OF BULK AT MOST 1048576: true; the input reads as it did. -/
def devNumbersUptoRow : OpenClaim := { program := "yteeamlidmkpohaa", sum := "5d420fcf96e62d12676f1eaa42f44a45d12a98d49ee2596895bf8ed53074c829", func := "peatbank/peatbanklaw08.DevNumbers", spec := "devNumbers", apart := false, narrowed := true }
def DevNumbersUptoSaid : Prop := devNumbersUptoRow.holds Try.pinned (OpenSpec.upto devNumbersSpec)

/-- 'peatbanklaw21.JournalReads', WHERE WHAT IT READS IS OF BULK AT MOST 1048576: true; the input reads as it did. -/
def journalReadsUptoRow : OpenClaim := { program := "yteeamlidmkpohaa", sum := "5d420fcf96e62d12676f1eaa42f44a45d12a98d49ee2596895bf8ed53074c829", func := "peatbank/peatbanklaw21.JournalReads", spec := "journalReads", inPlace := ["sync/atomic.AddInt64", "sync/atomic.LoadUint32", "(*internal/sync.Mutex).Lock", "internal/race.Disable", "sync/atomic.CompareAndSwapInt32", "internal/race.Enable", "internal/race.Acquire", "(*internal/sync.Mutex).lockSlow", "internal/sync.runtime_canSpin", "internal/sync.runtime_doSpin", "internal/sync.throw", "internal/sync.runtime_nanotime", "internal/sync.runtime_SemacquireMutex", "sync/atomic.AddInt32", "(*internal/sync.Mutex).Unlock", "internal/race.ReleaseMerge", "(*internal/sync.Mutex).unlockSlow", "internal/sync.fatal", "internal/sync.runtime_Semrelease", "sync/atomic.StoreUint32"], unfollowed := true, recurses := true, apart := false, narrowed := true }
def JournalReadsUptoSaid : Prop := journalReadsUptoRow.holds Try.pinned (OpenSpec.upto journalReadsSpec)

/-- 'peatbanklaw08.DevArmed', WHERE WHAT IT READS IS OF BULK AT MOST 1048576: true; the input reads as it did. -/
def devArmedUptoRow : OpenClaim := { program := "yteeamlidmkpohaa", sum := "5d420fcf96e62d12676f1eaa42f44a45d12a98d49ee2596895bf8ed53074c829", func := "peatbank/peatbanklaw08.DevArmed", spec := "devArmed", apart := false, narrowed := true }
def DevArmedUptoSaid : Prop := devArmedUptoRow.holds Try.pinned (OpenSpec.upto devArmedSpec)

/-- 'peatbanklaw08.DevLives', WHERE WHAT IT READS IS OF BULK AT MOST 1048576: true; the input reads as it did. -/
def devLivesUptoRow : OpenClaim := { program := "yteeamlidmkpohaa", sum := "5d420fcf96e62d12676f1eaa42f44a45d12a98d49ee2596895bf8ed53074c829", func := "peatbank/peatbanklaw08.DevLives", spec := "devLives", apart := false, narrowed := true }
def DevLivesUptoSaid : Prop := devLivesUptoRow.holds Try.pinned (OpenSpec.upto devLivesSpec)

/-- 'peatbanklaw08.DevOf', WHERE WHAT IT READS IS OF BULK AT MOST 1048576: true; the input reads as it did. -/
def devOfUptoRow : OpenClaim := { program := "yteeamlidmkpohaa", sum := "5d420fcf96e62d12676f1eaa42f44a45d12a98d49ee2596895bf8ed53074c829", func := "peatbank/peatbanklaw08.DevOf", spec := "devOf", apart := false, narrowed := true }
def DevOfUptoSaid : Prop := devOfUptoRow.holds Try.pinned (OpenSpec.upto devOfSpec)

/-- 'peatbanklaw08.DevCopies', WHERE WHAT IT READS IS OF BULK AT MOST 1048576: true; the input reads as it did. -/
def devCopiesUptoRow : OpenClaim := { program := "yteeamlidmkpohaa", sum := "5d420fcf96e62d12676f1eaa42f44a45d12a98d49ee2596895bf8ed53074c829", func := "peatbank/peatbanklaw08.DevCopies", spec := "devCopies", apart := false, narrowed := true }
def DevCopiesUptoSaid : Prop := devCopiesUptoRow.holds Try.pinned (OpenSpec.upto devCopiesSpec)

/-- 'peatbanklaw08.DevNil', WHERE WHAT IT READS IS OF BULK AT MOST 1048576: true; the input reads as it did. -/
def devNilUptoRow : OpenClaim := { program := "yteeamlidmkpohaa", sum := "5d420fcf96e62d12676f1eaa42f44a45d12a98d49ee2596895bf8ed53074c829", func := "peatbank/peatbanklaw08.DevNil", spec := "devNil", apart := false, narrowed := true }
def DevNilUptoSaid : Prop := devNilUptoRow.holds Try.pinned (OpenSpec.upto devNilSpec)

/-- 'peatbanklaw19.SpaceApart', WHERE WHAT IT READS IS OF BULK AT MOST 1048576: true; the input reads as it did. -/
def spaceApartUptoRow : OpenClaim := { program := "yteeamlidmkpohaa", sum := "5d420fcf96e62d12676f1eaa42f44a45d12a98d49ee2596895bf8ed53074c829", func := "peatbank/peatbanklaw19.SpaceApart", spec := "spaceApart", unfollowed := true, recurses := true, apart := false, narrowed := true }
def SpaceApartUptoSaid : Prop := spaceApartUptoRow.holds Try.pinned (OpenSpec.upto spaceApartSpec)

/-- 'peatbanklaw19.SpaceBack', WHERE WHAT IT READS IS OF BULK AT MOST 1048576: true; the input reads as it did. -/
def spaceBackUptoRow : OpenClaim := { program := "yteeamlidmkpohaa", sum := "5d420fcf96e62d12676f1eaa42f44a45d12a98d49ee2596895bf8ed53074c829", func := "peatbank/peatbanklaw19.SpaceBack", spec := "spaceBack", unfollowed := true, recurses := true, apart := false, narrowed := true }
def SpaceBackUptoSaid : Prop := spaceBackUptoRow.holds Try.pinned (OpenSpec.upto spaceBackSpec)

/-- 'peatbanklaw19.SpaceDoes', WHERE WHAT IT READS IS OF BULK AT MOST 1048576: true; the input reads as it did. -/
def spaceDoesUptoRow : OpenClaim := { program := "yteeamlidmkpohaa", sum := "5d420fcf96e62d12676f1eaa42f44a45d12a98d49ee2596895bf8ed53074c829", func := "peatbank/peatbanklaw19.SpaceDoes", spec := "spaceDoes", unfollowed := true, recurses := true, apart := false, narrowed := true }
def SpaceDoesUptoSaid : Prop := spaceDoesUptoRow.holds Try.pinned (OpenSpec.upto spaceDoesSpec)

/-- 'peatbanklaw19.SpaceNone', WHERE WHAT IT READS IS OF BULK AT MOST 1048576: true; the input reads as it did. -/
def spaceNoneUptoRow : OpenClaim := { program := "yteeamlidmkpohaa", sum := "5d420fcf96e62d12676f1eaa42f44a45d12a98d49ee2596895bf8ed53074c829", func := "peatbank/peatbanklaw19.SpaceNone", spec := "spaceNone", unfollowed := true, recurses := true, apart := false, narrowed := true }
def SpaceNoneUptoSaid : Prop := spaceNoneUptoRow.holds Try.pinned (OpenSpec.upto spaceNoneSpec)

/-- 'peatbanklaw09.CacheNil', WHERE WHAT IT READS IS OF BULK AT MOST 1048576: true; the input reads as it did. -/
def cacheNilUptoRow : OpenClaim := { program := "yteeamlidmkpohaa", sum := "5d420fcf96e62d12676f1eaa42f44a45d12a98d49ee2596895bf8ed53074c829", func := "peatbank/peatbanklaw09.CacheNil", spec := "cacheNil", inPlace := ["sync/atomic.AddInt64", "sync/atomic.LoadInt64"], apart := false, narrowed := true }
def CacheNilUptoSaid : Prop := cacheNilUptoRow.holds Try.pinned (OpenSpec.upto cacheNilSpec)

/-- 'peatbanklaw09.CacheLives', WHERE WHAT IT READS IS OF BULK AT MOST 1048576: true; the input reads as it did. -/
def cacheLivesUptoRow : OpenClaim := { program := "yteeamlidmkpohaa", sum := "5d420fcf96e62d12676f1eaa42f44a45d12a98d49ee2596895bf8ed53074c829", func := "peatbank/peatbanklaw09.CacheLives", spec := "cacheLives", inPlace := ["sync/atomic.AddInt64", "sync/atomic.LoadInt64"], apart := false, narrowed := true }
def CacheLivesUptoSaid : Prop := cacheLivesUptoRow.holds Try.pinned (OpenSpec.upto cacheLivesSpec)

/-- 'peatbanklaw09.CacheNumbers', WHERE WHAT IT READS IS OF BULK AT MOST 1048576: true; the input reads as it did. -/
def cacheNumbersUptoRow : OpenClaim := { program := "yteeamlidmkpohaa", sum := "5d420fcf96e62d12676f1eaa42f44a45d12a98d49ee2596895bf8ed53074c829", func := "peatbank/peatbanklaw09.CacheNumbers", spec := "cacheNumbers", inPlace := ["sync/atomic.AddInt64", "sync/atomic.LoadInt64"], apart := false, narrowed := true }
def CacheNumbersUptoSaid : Prop := cacheNumbersUptoRow.holds Try.pinned (OpenSpec.upto cacheNumbersSpec)

/-- 'peatbanklaw20.BlobNil', WHERE WHAT IT READS IS OF BULK AT MOST 1048576: true; the input reads as it did. -/
def blobNilUptoRow : OpenClaim := { program := "yteeamlidmkpohaa", sum := "5d420fcf96e62d12676f1eaa42f44a45d12a98d49ee2596895bf8ed53074c829", func := "peatbank/peatbanklaw20.BlobNil", spec := "blobNil", inPlace := ["sync/atomic.AddInt64"], unfollowed := true, recurses := true, apart := false, narrowed := true }
def BlobNilUptoSaid : Prop := blobNilUptoRow.holds Try.pinned (OpenSpec.upto blobNilSpec)

/-- 'peatbanklaw09.CacheAlike', WHERE WHAT IT READS IS OF BULK AT MOST 1048576: true; the input reads as it did. -/
def cacheAlikeUptoRow : OpenClaim := { program := "yteeamlidmkpohaa", sum := "5d420fcf96e62d12676f1eaa42f44a45d12a98d49ee2596895bf8ed53074c829", func := "peatbank/peatbanklaw09.CacheAlike", spec := "cacheAlike", inPlace := ["sync/atomic.AddInt64", "sync/atomic.LoadInt64"], apart := false, narrowed := true }
def CacheAlikeUptoSaid : Prop := cacheAlikeUptoRow.holds Try.pinned (OpenSpec.upto cacheAlikeSpec)

/-- 'peatbanklaw20.BlobLives', WHERE WHAT IT READS IS OF BULK AT MOST 1048576: true; the input reads as it did. -/
def blobLivesUptoRow : OpenClaim := { program := "yteeamlidmkpohaa", sum := "5d420fcf96e62d12676f1eaa42f44a45d12a98d49ee2596895bf8ed53074c829", func := "peatbank/peatbanklaw20.BlobLives", spec := "blobLives", inPlace := ["sync/atomic.AddInt64"], unfollowed := true, recurses := true, apart := false, narrowed := true }
def BlobLivesUptoSaid : Prop := blobLivesUptoRow.holds Try.pinned (OpenSpec.upto blobLivesSpec)

/-- 'peatbanklaw20.BlobNumbers', WHERE WHAT IT READS IS OF BULK AT MOST 1048576: true; the input reads as it did. -/
def blobNumbersUptoRow : OpenClaim := { program := "yteeamlidmkpohaa", sum := "5d420fcf96e62d12676f1eaa42f44a45d12a98d49ee2596895bf8ed53074c829", func := "peatbank/peatbanklaw20.BlobNumbers", spec := "blobNumbers", inPlace := ["sync/atomic.AddInt64"], unfollowed := true, recurses := true, apart := false, narrowed := true }
def BlobNumbersUptoSaid : Prop := blobNumbersUptoRow.holds Try.pinned (OpenSpec.upto blobNumbersSpec)

/-- 'peatbanklaw20.BlobBack', WHERE WHAT IT READS IS OF BULK AT MOST 1048576: true; the input reads as it did. -/
def blobBackUptoRow : OpenClaim := { program := "yteeamlidmkpohaa", sum := "5d420fcf96e62d12676f1eaa42f44a45d12a98d49ee2596895bf8ed53074c829", func := "peatbank/peatbanklaw20.BlobBack", spec := "blobBack", inPlace := ["sync/atomic.AddInt64"], unfollowed := true, recurses := true, apart := false, narrowed := true }
def BlobBackUptoSaid : Prop := blobBackUptoRow.holds Try.pinned (OpenSpec.upto blobBackSpec)

/-- 'peatbanklaw21.JournalOn', WHERE WHAT IT READS IS OF BULK AT MOST 1048576: true; the input reads as it did. -/
def journalOnUptoRow : OpenClaim := { program := "yteeamlidmkpohaa", sum := "5d420fcf96e62d12676f1eaa42f44a45d12a98d49ee2596895bf8ed53074c829", func := "peatbank/peatbanklaw21.JournalOn", spec := "journalOn", inPlace := ["sync/atomic.AddInt64", "sync/atomic.LoadUint32", "(*internal/sync.Mutex).Lock", "internal/race.Disable", "sync/atomic.CompareAndSwapInt32", "internal/race.Enable", "internal/race.Acquire", "(*internal/sync.Mutex).lockSlow", "internal/sync.runtime_canSpin", "internal/sync.runtime_doSpin", "internal/sync.throw", "internal/sync.runtime_nanotime", "internal/sync.runtime_SemacquireMutex", "sync/atomic.AddInt32", "(*internal/sync.Mutex).Unlock", "internal/race.ReleaseMerge", "(*internal/sync.Mutex).unlockSlow", "internal/sync.fatal", "internal/sync.runtime_Semrelease", "sync/atomic.StoreUint32"], unfollowed := true, recurses := true, apart := false, narrowed := true }
def JournalOnUptoSaid : Prop := journalOnUptoRow.holds Try.pinned (OpenSpec.upto journalOnSpec)

/-- 'peatbanklaw21.JournalNone', WHERE WHAT IT READS IS OF BULK AT MOST 1048576: true; the input reads as it did. -/
def journalNoneUptoRow : OpenClaim := { program := "yteeamlidmkpohaa", sum := "5d420fcf96e62d12676f1eaa42f44a45d12a98d49ee2596895bf8ed53074c829", func := "peatbank/peatbanklaw21.JournalNone", spec := "journalNone", inPlace := ["sync/atomic.AddInt64", "sync/atomic.LoadUint32", "(*internal/sync.Mutex).Lock", "internal/race.Disable", "sync/atomic.CompareAndSwapInt32", "internal/race.Enable", "internal/race.Acquire", "(*internal/sync.Mutex).lockSlow", "internal/sync.runtime_canSpin", "internal/sync.runtime_doSpin", "internal/sync.throw", "internal/sync.runtime_nanotime", "internal/sync.runtime_SemacquireMutex", "sync/atomic.AddInt32", "(*internal/sync.Mutex).Unlock", "internal/race.ReleaseMerge", "(*internal/sync.Mutex).unlockSlow", "internal/sync.fatal", "internal/sync.runtime_Semrelease", "sync/atomic.StoreUint32"], unfollowed := true, recurses := true, apart := false, narrowed := true }
def JournalNoneUptoSaid : Prop := journalNoneUptoRow.holds Try.pinned (OpenSpec.upto journalNoneSpec)

end Rows
end Go.Proofs.Yteeamlidmkpohaa
