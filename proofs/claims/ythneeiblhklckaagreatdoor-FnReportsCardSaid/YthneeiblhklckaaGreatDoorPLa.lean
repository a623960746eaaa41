/-
Plain laws of numerals. No condition.
-/
import Derived.Lib.ItoaMem
import Derived.Lib.ItoaLen
import Derived.Lib.AtoiAll
import Derived.Lib.Join
import Derived.Lib.Bytealg
namespace Go.Vi
set_option linter.all false
open Go.Lib
def i64(n:Int):Prop:= -9223372036854775808≤n∧n≤9223372036854775807
instance (n:Int):Decidable (i64 n):=by unfold i64; infer_instance
def N4(n:Int):Option (List UInt8):=if i64 n then some (itoa n) else none
def N5(l:List (List UInt8))(sep:List UInt8):Option (List UInt8):=if l.length≤140737488355328∧(join l sep).length≤140737488355328 then some (join l sep) else none
def val(l:List UInt8):Nat:=l.foldl (fun a c=>a*10+(c.toNat - 48)) 0
theorem IS{n:Int}(h:i64 n):(itoa n).length≤21:=itoa_length_le n h.1 h.2
end Go.Vi
