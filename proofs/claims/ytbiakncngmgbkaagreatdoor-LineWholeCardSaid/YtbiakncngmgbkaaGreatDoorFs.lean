/- A Feeder in memory. -/
import Derived.Test.YtbiakncngmgbkaaGreatDoorFm
import Derived.Test.YtbiakncngmgbkaaGreatDoorGl
namespace Go.Proofs.YtbiakncngmgbkaaGreatDoor
open Go.RowKit

/-- the state's function, bound to the Feeder -/
def modeFn (fb : Nat) : Sp.Mode → Value
  | .inLine => .func (.func 28) #[.pointer (some ⟨fb, 0, none⟩)] #[]
  | .passing => .func (.func 94) #[.pointer (some ⟨fb, 0, none⟩)] #[]
  | .inBlock => .func (.func 79) #[.pointer (some ⟨fb, 0, none⟩)] #[]
  | .over => .func (.func 93) #[.pointer (some ⟨fb, 0, none⟩)] #[]

def feedCells (fb lim : Nat) (s : Sp.FeedV) (ov ln dv kv mv : Value) : Array Value :=
  #[.int .i64 lim, modeFn fb s.mode, ov, .int .i64 s.taken, .int .i64 s.frm, .int .i64 s.held, .bool s.ended, ln, .bool s.long,
    .int .i64 s.step.cmd.verb, kv, .int .u64 s.step.cmd.flags, .int .i64 s.step.cmd.exptime, .int .u64 s.step.cmd.token, .int .u64 s.step.cmd.delta, nilRow, .bool s.step.cmd.noreply, .bool s.step.cmd.large, mv, str s.step.cmd.what,
    .int .i64 s.step.wrong.kind, str s.step.wrong.text, .int .i64 s.step.wrong.pass, .int .i64 s.step.frm, .int .i64 s.step.to,
    dv, .int .i64 s.need, .int .i64 s.got, .bool s.good]

def ownList (T : List Nat) (ov ln dv kv mv : Value) : List Nat := T ++ (rowBlock ov ++ (rowBlock ln ++ (rowBlock kv ++ (rowBlock dv ++ rowBlock mv))))

/-- the Feeder in block fb is in this state; T: the blocks of what it has told and not yet handed out -/
structure FeedAt (w : World) (fb lim : Nat) (s : Sp.FeedV) (ov ln dv kv mv : Value) (tc : List Value) (T : List Nat) : Prop where
  blk : Blk w fb 75 (feedCells fb lim s ov ln dv kv mv)
  out : w.ownsRow 0 61 16 ov s.out.length tc
  told : StepsMem w s.out tc T
  line : w.ownsRow 0 5 1 ln s.line.length (bytesV s.line)
  data : w.ownsRow 0 5 1 dv s.data.length (bytesV s.data)
  keys : w.ownsRow 0 9 1 kv s.step.cmd.keys.length (s.step.cmd.keys.map str)
  metas : w.ownsRow 0 118 3 mv s.step.cmd.metas.length (flagsCells s.step.cmd.metas)
  nodup : (fb :: ownList T ov ln dv kv mv).Nodup
  low : ∀ k ∈ fb :: ownList T ov ln dv kv mv, 8 ≤ k
  bare : s.step.cmd.data = []
end Go.Proofs.YtbiakncngmgbkaaGreatDoor
