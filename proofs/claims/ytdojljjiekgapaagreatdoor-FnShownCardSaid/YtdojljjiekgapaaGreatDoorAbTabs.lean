/- Which package-level variables the functions that are told by contract read: the variable's block, and its cells: strconv's powers of ten. -/
import Derived.Test.YtdojljjiekgapaaGreatDoorAbDef
import Derived.Lib.ItoaNum
namespace Go.Ab
def tabs : List (Nat × List Value) := [(1, Lib.pow10Tab.map fun z => Value.int .u64 z)]
/-- Types whose blocks of one's own are whole: they lie alone in the machine's block, from its first cell on (strings.Builder). -/
def wholes : List Nat := [58]
def noW (e : Nat) : Bool := !wholes.contains e
end Go.Ab
