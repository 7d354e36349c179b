/-
  No cell of these rows narrows 'for every input' (looked for: loops, veiled, ifaces, maps, wideKeys, modest, calm, conditions, laid).
  DERIVED. THE GIVEN ROWS OF THIS SEAT. 7 by the template 'for every input the law returns true; each argument reads behind the call as it read before'; 0 by the template 'total and deterministic' (their statements: YtfoenaleboodpaaTotals.lean).
  GIVEN WITH THE SEED: the statements are not yours to turn. If you find one false, say at which input.
  Laid BY PROGRAM, IN A SANDBOX (cutbox-rows.mjs): the forced cells as the released guide's own fill.sh prints them over the translation e74f2a1b1e44bf6e… (all of the seat's roots in one cut). By AI agents, Wed Nov 11 2026. No macro, syntax, notation, axiom, sorry.
-/
import Derived.Test.YtfoenaleboodpaaChecked
import GoSem.Claim
import GoSem.ClaimJoined
import GoSem.ClaimMapViews
import Derived.JoinedTies
import Derived.KernelRfl
namespace Go.Proofs.Ytfoenaleboodpaa
/- THE CELL 'sum', in the pinned program and in every row, IS THE sha256 OF THE DUMP (.gsa) THAT YtfoenaleboodpaaProg.lean LOADS. Nothing in Lean hashes anything: it is a label: what it is worth is what the hold of that sum in a sandbox is worth. -/
noncomputable def Try.pinned : Pinned := { name := "ytfoenaleboodpaa", sum := "e74f2a1b1e44bf6e7be211a6bd54a65c09ff958fbe655c6123756d2157d0bc05", checked := Try.checked }
namespace Rows
def none {H : Type} : Left H := { results := [], args := [] }

/-- 'bursarylaw10.GhashField': WHATEVER THE INPUT: true; the input reads as it did. -/
def ghashFieldSpec : ChangeSpec := { name := "ghashField", fn := fun _ => fun
  | [d1, d2, d3] => { results := [.lit (.bool true)], args := [d1, d2, d3] }
  | _ => none }
def ghashFieldRow : OpenClaim := { program := "ytfoenaleboodpaa", sum := "e74f2a1b1e44bf6e7be211a6bd54a65c09ff958fbe655c6123756d2157d0bc05", func := "bursary/bursarylaw10.GhashField", spec := "ghashField", apart := false }
def GhashFieldSaid : Prop := ghashFieldRow.holds Try.pinned (OpenSpec.ofChange ghashFieldSpec)

/-- ITS FALSE NEIGHBOUR: 'it returns false'. Refute it at one input. -/
def ghashFieldWrong : ChangeSpec := { name := "ghashField", fn := fun _ => fun
  | [d1, d2, d3] => { results := [.lit (.bool false)], args := [d1, d2, d3] }
  | _ => none }
def GhashFieldWrongFalsely : Prop := ghashFieldRow.holds Try.pinned (OpenSpec.ofChange ghashFieldWrong)

/-- 'bursarylaw10.GhashExact': WHATEVER THE INPUT: true; the input reads as it did. -/
def ghashExactSpec : ChangeSpec := { name := "ghashExact", fn := fun _ => fun
  | [d1, d2, d3] => { results := [.lit (.bool true)], args := [d1, d2, d3] }
  | _ => none }
def ghashExactRow : OpenClaim := { program := "ytfoenaleboodpaa", sum := "e74f2a1b1e44bf6e7be211a6bd54a65c09ff958fbe655c6123756d2157d0bc05", func := "bursary/bursarylaw10.GhashExact", spec := "ghashExact", apart := false }
def GhashExactSaid : Prop := ghashExactRow.holds Try.pinned (OpenSpec.ofChange ghashExactSpec)

/-- ITS FALSE NEIGHBOUR: 'it returns false'. Refute it at one input. -/
def ghashExactWrong : ChangeSpec := { name := "ghashExact", fn := fun _ => fun
  | [d1, d2, d3] => { results := [.lit (.bool false)], args := [d1, d2, d3] }
  | _ => none }
def GhashExactWrongFalsely : Prop := ghashExactRow.holds Try.pinned (OpenSpec.ofChange ghashExactWrong)

/-- 'bursarylaw10.GhashLinear': WHATEVER THE INPUT: true; the input reads as it did. -/
def ghashLinearSpec : ChangeSpec := { name := "ghashLinear", fn := fun _ => fun
  | [d1, d2, d3] => { results := [.lit (.bool true)], args := [d1, d2, d3] }
  | _ => none }
def ghashLinearRow : OpenClaim := { program := "ytfoenaleboodpaa", sum := "e74f2a1b1e44bf6e7be211a6bd54a65c09ff958fbe655c6123756d2157d0bc05", func := "bursary/bursarylaw10.GhashLinear", spec := "ghashLinear", apart := false }
def GhashLinearSaid : Prop := ghashLinearRow.holds Try.pinned (OpenSpec.ofChange ghashLinearSpec)

/-- ITS FALSE NEIGHBOUR: 'it returns false'. Refute it at one input. -/
def ghashLinearWrong : ChangeSpec := { name := "ghashLinear", fn := fun _ => fun
  | [d1, d2, d3] => { results := [.lit (.bool false)], args := [d1, d2, d3] }
  | _ => none }
def GhashLinearWrongFalsely : Prop := ghashLinearRow.holds Try.pinned (OpenSpec.ofChange ghashLinearWrong)

/-- 'bursarylaw08.SboxExact': WHATEVER THE INPUT: true; the input reads as it did. -/
def sboxExactSpec : ChangeSpec := { name := "sboxExact", fn := fun _ => fun
  | [d1, d2] => { results := [.lit (.bool true)], args := [d1, d2] }
  | _ => none }
def sboxExactRow : OpenClaim := { program := "ytfoenaleboodpaa", sum := "e74f2a1b1e44bf6e7be211a6bd54a65c09ff958fbe655c6123756d2157d0bc05", func := "bursary/bursarylaw08.SboxExact", spec := "sboxExact", inPlace := ["sync/atomic.LoadUint32", "(*internal/sync.Mutex).Lock", "internal/race.Disable", "sync/atomic.CompareAndSwapInt32", "internal/race.Enable", "internal/race.Acquire", "(*internal/sync.Mutex).lockSlow", "internal/sync.runtime_canSpin", "internal/sync.runtime_doSpin", "internal/sync.throw", "internal/sync.runtime_nanotime", "internal/sync.runtime_SemacquireMutex", "sync/atomic.AddInt32", "(*internal/sync.Mutex).Unlock", "internal/race.ReleaseMerge", "(*internal/sync.Mutex).unlockSlow", "internal/sync.fatal", "internal/sync.runtime_Semrelease", "sync/atomic.StoreUint32"], unfollowed := true, recurses := true, apart := false }
def SboxExactSaid : Prop := sboxExactRow.holds Try.pinned (OpenSpec.ofChange sboxExactSpec)

/-- ITS FALSE NEIGHBOUR: 'it returns false'. Refute it at one input. -/
def sboxExactWrong : ChangeSpec := { name := "sboxExact", fn := fun _ => fun
  | [d1, d2] => { results := [.lit (.bool false)], args := [d1, d2] }
  | _ => none }
def SboxExactWrongFalsely : Prop := sboxExactRow.holds Try.pinned (OpenSpec.ofChange sboxExactWrong)

/-- 'bursarylaw08.SboxOnce': WHATEVER THE INPUT: true; the input reads as it did. -/
def sboxOnceSpec : ChangeSpec := { name := "sboxOnce", fn := fun _ => fun
  | [d1, d2] => { results := [.lit (.bool true)], args := [d1, d2] }
  | _ => none }
def sboxOnceRow : OpenClaim := { program := "ytfoenaleboodpaa", sum := "e74f2a1b1e44bf6e7be211a6bd54a65c09ff958fbe655c6123756d2157d0bc05", func := "bursary/bursarylaw08.SboxOnce", spec := "sboxOnce", inPlace := ["sync/atomic.LoadUint32", "(*internal/sync.Mutex).Lock", "internal/race.Disable", "sync/atomic.CompareAndSwapInt32", "internal/race.Enable", "internal/race.Acquire", "(*internal/sync.Mutex).lockSlow", "internal/sync.runtime_canSpin", "internal/sync.runtime_doSpin", "internal/sync.throw", "internal/sync.runtime_nanotime", "internal/sync.runtime_SemacquireMutex", "sync/atomic.AddInt32", "(*internal/sync.Mutex).Unlock", "internal/race.ReleaseMerge", "(*internal/sync.Mutex).unlockSlow", "internal/sync.fatal", "internal/sync.runtime_Semrelease", "sync/atomic.StoreUint32"], unfollowed := true, recurses := true, apart := false }
def SboxOnceSaid : Prop := sboxOnceRow.holds Try.pinned (OpenSpec.ofChange sboxOnceSpec)

/-- ITS FALSE NEIGHBOUR: 'it returns false'. Refute it at one input. -/
def sboxOnceWrong : ChangeSpec := { name := "sboxOnce", fn := fun _ => fun
  | [d1, d2] => { results := [.lit (.bool false)], args := [d1, d2] }
  | _ => none }
def SboxOnceWrongFalsely : Prop := sboxOnceRow.holds Try.pinned (OpenSpec.ofChange sboxOnceWrong)

/-- 'bursarylaw09.AesApart': WHATEVER THE INPUT: true; the input reads as it did. -/
def aesApartSpec : ChangeSpec := { name := "aesApart", fn := fun _ => fun
  | [d1, d2, d3] => { results := [.lit (.bool true)], args := [d1, d2, d3] }
  | _ => none }
def aesApartRow : OpenClaim := { program := "ytfoenaleboodpaa", sum := "e74f2a1b1e44bf6e7be211a6bd54a65c09ff958fbe655c6123756d2157d0bc05", func := "bursary/bursarylaw09.AesApart", spec := "aesApart", inPlace := ["sync/atomic.LoadUint32", "(*internal/sync.Mutex).Lock", "internal/race.Disable", "sync/atomic.CompareAndSwapInt32", "internal/race.Enable", "internal/race.Acquire", "(*internal/sync.Mutex).lockSlow", "internal/sync.runtime_canSpin", "internal/sync.runtime_doSpin", "internal/sync.throw", "internal/sync.runtime_nanotime", "internal/sync.runtime_SemacquireMutex", "sync/atomic.AddInt32", "(*internal/sync.Mutex).Unlock", "internal/race.ReleaseMerge", "(*internal/sync.Mutex).unlockSlow", "internal/sync.fatal", "internal/sync.runtime_Semrelease", "sync/atomic.StoreUint32"], unfollowed := true, recurses := true, apart := false }
def AesApartSaid : Prop := aesApartRow.holds Try.pinned (OpenSpec.ofChange aesApartSpec)

/-- ITS FALSE NEIGHBOUR: 'it returns false'. Refute it at one input. -/
def aesApartWrong : ChangeSpec := { name := "aesApart", fn := fun _ => fun
  | [d1, d2, d3] => { results := [.lit (.bool false)], args := [d1, d2, d3] }
  | _ => none }
def AesApartWrongFalsely : Prop := aesApartRow.holds Try.pinned (OpenSpec.ofChange aesApartWrong)

/-- 'bursarylaw09.AesWords': WHATEVER THE INPUT: true; the input reads as it did. -/
def aesWordsSpec : ChangeSpec := { name := "aesWords", fn := fun _ => fun
  | [d1, d2] => { results := [.lit (.bool true)], args := [d1, d2] }
  | _ => none }
def aesWordsRow : OpenClaim := { program := "ytfoenaleboodpaa", sum := "e74f2a1b1e44bf6e7be211a6bd54a65c09ff958fbe655c6123756d2157d0bc05", func := "bursary/bursarylaw09.AesWords", spec := "aesWords", inPlace := ["sync/atomic.LoadUint32", "(*internal/sync.Mutex).Lock", "internal/race.Disable", "sync/atomic.CompareAndSwapInt32", "internal/race.Enable", "internal/race.Acquire", "(*internal/sync.Mutex).lockSlow", "internal/sync.runtime_canSpin", "internal/sync.runtime_doSpin", "internal/sync.throw", "internal/sync.runtime_nanotime", "internal/sync.runtime_SemacquireMutex", "sync/atomic.AddInt32", "(*internal/sync.Mutex).Unlock", "internal/race.ReleaseMerge", "(*internal/sync.Mutex).unlockSlow", "internal/sync.fatal", "internal/sync.runtime_Semrelease", "sync/atomic.StoreUint32"], unfollowed := true, recurses := true, apart := false }
def AesWordsSaid : Prop := aesWordsRow.holds Try.pinned (OpenSpec.ofChange aesWordsSpec)

/-- ITS FALSE NEIGHBOUR: 'it returns false'. Refute it at one input. -/
def aesWordsWrong : ChangeSpec := { name := "aesWords", fn := fun _ => fun
  | [d1, d2] => { results := [.lit (.bool false)], args := [d1, d2] }
  | _ => none }
def AesWordsWrongFalsely : Prop := aesWordsRow.holds Try.pinned (OpenSpec.ofChange aesWordsWrong)

/- THE SECOND FORM. 'bulk': how many values and letters a reading holds, each counted each time it is reached (what is shared counts as often as it is met; a slice's spare places count too). A statement '..UptoSaid' is the law's where the arguments, and the package variables that the reading takes, are together of bulk at most 1048576: NARROWER than '..Said'. Prove '..Said' where nothing that the law and all that it calls make is longer than what came in: it says more and counts as full. Else prove '..UptoSaid'. A law counts once. -/
mutual
def uptoBulk {H : Type} : DataW H → Nat
  | .lit (.string bytes) => bytes.length + 1
  | .lit _ => 1
  | .nil => 1
  | .ptr d => uptoBulk d + 1
  | .slice elems spare => uptoBulkAll elems + uptoBulkAll spare + 1
  | .agg parts => uptoBulkAll parts + 1
  | .iface _ d => uptoBulk d + 1
  | .map entries => uptoBulkEntries entries + 1
  | .held _ => 1
def uptoBulkAll {H : Type} : List (DataW H) → Nat
  | [] => 0
  | d :: r => uptoBulk d + uptoBulkAll r
def uptoBulkEntries {H : Type} : List (Lit × DataW H) → Nat
  | [] => 0
  | x :: r => uptoBulkEntry x + uptoBulkEntries r
def uptoBulkEntry {H : Type} : Lit × DataW H → Nat
  | (.string bytes, d) => bytes.length + uptoBulk d + 1
  | (_, d) => uptoBulk d + 1
 end
def uptoSmall : (H : Type) → List (DataW H) → Bool := fun _ ds => decide (uptoBulkAll ds ≤ 1048576)
def OpenSpec.upto (s : _root_.Go.ChangeSpec) : _root_.Go.OpenSpec := { _root_.Go.OpenSpec.ofChange s with cond := some uptoSmall }

/-- 'bursarylaw10.GhashField', WHERE WHAT IT READS IS OF BULK AT MOST 1048576: true; the input reads as it did. -/
def ghashFieldUptoRow : OpenClaim := { program := "ytfoenaleboodpaa", sum := "e74f2a1b1e44bf6e7be211a6bd54a65c09ff958fbe655c6123756d2157d0bc05", func := "bursary/bursarylaw10.GhashField", spec := "ghashField", apart := false, narrowed := true }
def GhashFieldUptoSaid : Prop := ghashFieldUptoRow.holds Try.pinned (OpenSpec.upto ghashFieldSpec)

/-- 'bursarylaw10.GhashExact', WHERE WHAT IT READS IS OF BULK AT MOST 1048576: true; the input reads as it did. -/
def ghashExactUptoRow : OpenClaim := { program := "ytfoenaleboodpaa", sum := "e74f2a1b1e44bf6e7be211a6bd54a65c09ff958fbe655c6123756d2157d0bc05", func := "bursary/bursarylaw10.GhashExact", spec := "ghashExact", apart := false, narrowed := true }
def GhashExactUptoSaid : Prop := ghashExactUptoRow.holds Try.pinned (OpenSpec.upto ghashExactSpec)

/-- 'bursarylaw10.GhashLinear', WHERE WHAT IT READS IS OF BULK AT MOST 1048576: true; the input reads as it did. -/
def ghashLinearUptoRow : OpenClaim := { program := "ytfoenaleboodpaa", sum := "e74f2a1b1e44bf6e7be211a6bd54a65c09ff958fbe655c6123756d2157d0bc05", func := "bursary/bursarylaw10.GhashLinear", spec := "ghashLinear", apart := false, narrowed := true }
def GhashLinearUptoSaid : Prop := ghashLinearUptoRow.holds Try.pinned (OpenSpec.upto ghashLinearSpec)

/-- 'bursarylaw08.SboxExact', WHERE WHAT IT READS IS OF BULK AT MOST 1048576: true; the input reads as it did. -/
def sboxExactUptoRow : OpenClaim := { program := "ytfoenaleboodpaa", sum := "e74f2a1b1e44bf6e7be211a6bd54a65c09ff958fbe655c6123756d2157d0bc05", func := "bursary/bursarylaw08.SboxExact", spec := "sboxExact", inPlace := ["sync/atomic.LoadUint32", "(*internal/sync.Mutex).Lock", "internal/race.Disable", "sync/atomic.CompareAndSwapInt32", "internal/race.Enable", "internal/race.Acquire", "(*internal/sync.Mutex).lockSlow", "internal/sync.runtime_canSpin", "internal/sync.runtime_doSpin", "internal/sync.throw", "internal/sync.runtime_nanotime", "internal/sync.runtime_SemacquireMutex", "sync/atomic.AddInt32", "(*internal/sync.Mutex).Unlock", "internal/race.ReleaseMerge", "(*internal/sync.Mutex).unlockSlow", "internal/sync.fatal", "internal/sync.runtime_Semrelease", "sync/atomic.StoreUint32"], unfollowed := true, recurses := true, apart := false, narrowed := true }
def SboxExactUptoSaid : Prop := sboxExactUptoRow.holds Try.pinned (OpenSpec.upto sboxExactSpec)

/-- 'bursarylaw08.SboxOnce', WHERE WHAT IT READS IS OF BULK AT MOST 1048576: true; the input reads as it did. -/
def sboxOnceUptoRow : OpenClaim := { program := "ytfoenaleboodpaa", sum := "e74f2a1b1e44bf6e7be211a6bd54a65c09ff958fbe655c6123756d2157d0bc05", func := "bursary/bursarylaw08.SboxOnce", spec := "sboxOnce", inPlace := ["sync/atomic.LoadUint32", "(*internal/sync.Mutex).Lock", "internal/race.Disable", "sync/atomic.CompareAndSwapInt32", "internal/race.Enable", "internal/race.Acquire", "(*internal/sync.Mutex).lockSlow", "internal/sync.runtime_canSpin", "internal/sync.runtime_doSpin", "internal/sync.throw", "internal/sync.runtime_nanotime", "internal/sync.runtime_SemacquireMutex", "sync/atomic.AddInt32", "(*internal/sync.Mutex).Unlock", "internal/race.ReleaseMerge", "(*internal/sync.Mutex).unlockSlow", "internal/sync.fatal", "internal/sync.runtime_Semrelease", "sync/atomic.StoreUint32"], unfollowed := true, recurses := true, apart := false, narrowed := true }
def SboxOnceUptoSaid : Prop := sboxOnceUptoRow.holds Try.pinned (OpenSpec.upto sboxOnceSpec)

/-- 'bursarylaw09.AesApart', WHERE WHAT IT READS IS OF BULK AT MOST 1048576: true; the input reads as it did. -/
def aesApartUptoRow : OpenClaim := { program := "ytfoenaleboodpaa", sum := "e74f2a1b1e44bf6e7be211a6bd54a65c09ff958fbe655c6123756d2157d0bc05", func := "bursary/bursarylaw09.AesApart", spec := "aesApart", inPlace := ["sync/atomic.LoadUint32", "(*internal/sync.Mutex).Lock", "internal/race.Disable", "sync/atomic.CompareAndSwapInt32", "internal/race.Enable", "internal/race.Acquire", "(*internal/sync.Mutex).lockSlow", "internal/sync.runtime_canSpin", "internal/sync.runtime_doSpin", "internal/sync.throw", "internal/sync.runtime_nanotime", "internal/sync.runtime_SemacquireMutex", "sync/atomic.AddInt32", "(*internal/sync.Mutex).Unlock", "internal/race.ReleaseMerge", "(*internal/sync.Mutex).unlockSlow", "internal/sync.fatal", "internal/sync.runtime_Semrelease", "sync/atomic.StoreUint32"], unfollowed := true, recurses := true, apart := false, narrowed := true }
def AesApartUptoSaid : Prop := aesApartUptoRow.holds Try.pinned (OpenSpec.upto aesApartSpec)

/-- 'bursarylaw09.AesWords', WHERE WHAT IT READS IS OF BULK AT MOST 1048576: true; the input reads as it did. -/
def aesWordsUptoRow : OpenClaim := { program := "ytfoenaleboodpaa", sum := "e74f2a1b1e44bf6e7be211a6bd54a65c09ff958fbe655c6123756d2157d0bc05", func := "bursary/bursarylaw09.AesWords", spec := "aesWords", inPlace := ["sync/atomic.LoadUint32", "(*internal/sync.Mutex).Lock", "internal/race.Disable", "sync/atomic.CompareAndSwapInt32", "internal/race.Enable", "internal/race.Acquire", "(*internal/sync.Mutex).lockSlow", "internal/sync.runtime_canSpin", "internal/sync.runtime_doSpin", "internal/sync.throw", "internal/sync.runtime_nanotime", "internal/sync.runtime_SemacquireMutex", "sync/atomic.AddInt32", "(*internal/sync.Mutex).Unlock", "internal/race.ReleaseMerge", "(*internal/sync.Mutex).unlockSlow", "internal/sync.fatal", "internal/sync.runtime_Semrelease", "sync/atomic.StoreUint32"], unfollowed := true, recurses := true, apart := false, narrowed := true }
def AesWordsUptoSaid : Prop := aesWordsUptoRow.holds Try.pinned (OpenSpec.upto aesWordsSpec)

end Rows
end Go.Proofs.Ytfoenaleboodpaa
