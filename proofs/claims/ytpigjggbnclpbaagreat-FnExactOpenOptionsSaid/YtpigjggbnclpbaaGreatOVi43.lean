/-
The value level. No condition.
-/
import Derived.Test.YtpigjggbnclpbaaGreatOVi42
import Derived.MapKept
namespace Go.Vi
set_option linter.all false
open Go.MapKept
open Bool renaming false → T
open Option renaming some → F
section
variable {P : Program} {mt kt et : TypeId}
end
section
variable {P : Program} {A : Ar} {B : Nat} {w0 : Base} {w w' : World} {nm : Ad} {σ τ : St} {a : Act} {ops : Array Oper} {o : Oper} {rest : List Oper} {Q : Exit → Act → World → Prop} {g : Option (Nat × Bool)}
def Dg(P:Program)(ops:Array Oper)(d:Nat)(o:Oper)(ao:AOp)(g:Option (Nat × Bool)):Prop:=o.dst=F d∧Ae P d o=F ao∧FO ops o.guard=F g
def FG(ops:Array Oper)(d:Option Nat)(o:Oper)(x:Op)(g:Option (Nat × Bool)):Prop:=o.dst=d∧o.op=x∧FO ops o.guard=F g
end
structure TideOps (P:Program) (nt:Nat) (ops:Array Oper) (mt kt et:TypeId):Prop where
 hm:P.underlying mt=F (.map kt et)
 hk:P.underlying kt=F .string
 hz:∀w,(zeroValue et).run P w= .ok (.int .i64 0) w
 hl:ops.toList= [ops[0]!,ops[1]!,ops[2]!,ops[3]!,ops[4]!,ops[5]!,ops[6]!,ops[7]!,ops[8]!,ops[9]!,ops[10]!,ops[11]!,ops[12]!,ops[13]!,ops[14]!,ops[15]!,ops[16]!]
 h14:Dg P ops 14 ops[0]! (.mv 14 (.t 6)) none
 h15:Dg P ops 15 ops[1]! (.un 15 .not (.t 14)) none
 h16:Dg P ops 16 ops[2]! (.mv 16 (.t 15)) none
 h17:Dg P ops 17 ops[3]! (.mv 17 (.t 5)) (F (16,T))
 h18:Dg P ops 18 ops[4]! (.len 18 (.t 17)) (F (16,T))
 h19:FG ops (F 19) ops[5]! (.makeMap mt none) (F (16,T))
 hi1:FG ops none ops[6]! (.insert mt (.tmp 19) (.const (.string ⟨([109,101,97,110]:List UInt8).toArray⟩)) (.const (.int .i64 1))) (F (16,T))
 hi2:FG ops none ops[7]! (.insert mt (.tmp 19) (.const (.string ⟨([119,97,118,101]:List UInt8).toArray⟩)) (.const (.int .i64 3))) (F (16,T))
 hi3:FG ops none ops[8]! (.insert mt (.tmp 19) (.const (.string ⟨([115,117,114,103,101]:List UInt8).toArray⟩)) (.const (.int .i64 2))) (F (16,T))
 hi4:FG ops none ops[9]! (.insert mt (.tmp 19) (.const (.string ⟨([103,97,112]:List UInt8).toArray⟩)) (.const (.int .i64 1))) (F (16,T))
 h20:FG ops (F 20) ops[10]! (.move (.tmp 19)) (F (16,T))
 h21:Dg P ops 21 ops[11]! (.mv 21 (.t 1)) (F (16,T))
 h22:Dg P ops 22 ops[12]! (.iaddr 22 (.t 21) (.c (.v (.sc (.dat (.int .i64 0))))) 1) (F (16,T))
 h23:Dg P ops 23 ops[13]! (.load 23 (.t 22) T 1) (F (16,T))
 h24:FG ops (F 24) ops[14]! (.lookup mt (.tmp 20) (.tmp 23) T) (F (16,T))
 h25:Dg P ops 25 ops[15]! (.bin 25 .neq (.t 18) (.t 24)) (F (16,T))
 h26:Dg P ops 26 ops[16]! (.pick 26 (.t 16) (.c (.v (.sc (.dat (.bool true))))) (.t 25)) none
 hnt:26<nt
section
variable {P : Program} {σ : St} {ops : Array Oper} {id mt kt et nt : Nat} {C : Code}
end
end Go.Vi
