/-
Plain laws of numerals. No condition.
-/
import Derived.Lib.ItoaMem
import Derived.Lib.ItoaLen
import Derived.Lib.AtoiAll
import Derived.Lib.Join
import Derived.Lib.Bytealg
namespace Go.Vi
set_option linter.all false
open Go.Lib
open _root_ renaming List → T, UInt8 → F
def i64(n:Int):Prop:= -9223372036854775808≤n∧n≤9223372036854775807
instance (n:Int):Decidable (i64 n):=by unfold i64; infer_instance
def ND(n:Int):Option (T F):=if i64 n then some (itoa n) else none
def Cn(s:T F):Int × Bool:=match atoiAll s with
 | .ok v=>if itoa v=s then(v,true) else(0,false)
 | _=>(0,false)
def MU(s:T F):Option (Int × Bool):=if s.length≤281474976710656 then some (Cn s) else none
def NF(l:T (T F))(sep:T F):Option (T F):=if l.length≤140737488355328∧(join l sep).length≤140737488355328 then some (join l sep) else none
def NE(s:T F)(c:Int):Option Int:=some (indexByte s c.toNat.toUInt8)
def Gs(c:F):Bool:=decide (48≤c.toNat∧c.toNat≤57)
def val(l:T F):Nat:=l.foldl (fun a c=>a*10+(c.toNat - 48)) 0
theorem Jj{i:Nat}(h:i<10):(UInt8.ofNat (48+i)).toNat=48+i:=by
 rw[UInt8.toNat_ofNat']; omega
theorem Q4{u:Nat}(h:¬u<10):decDigits u=decDigits (u / 10)++ [UInt8.ofNat (48+u % 10)]:=by rw[decDigits,dif_neg h]
theorem ZM(u:Nat):∀c∈decDigits u,Gs c=true:=by
 induction u using Nat.strongRecOn with
 | _ u ih=>
  intro c hc;by_cases h:u<10
  ·rw[decDigits_one h] at hc
   simp only[List.mem_singleton] at hc
   subst hc;simp only[Gs,Jj h,decide_eq_true_eq]; omega
  ·rw[Q4 h,List.mem_append,List.mem_singleton] at hc
   rcases hc with hc|hc
   ·exact ih (u / 10) (by omega) c hc
   ·subst hc;have h10:u % 10<10:=by omega
    simp only[Gs,Jj h10,decide_eq_true_eq]; omega
theorem Q5(u:Nat):decDigits u≠ []:=by
 intro h;have:=decDigits_length u;rw[h] at this
 have:=nDigits_pos u;simp at *
 omega
theorem ZN(u:Nat):∃c r,decDigits u=c::r∧Gs c=true:=by
 cases hd:decDigits u with
 | nil=>exact absurd hd (Q5 u)
 | cons c r=>exact⟨c,r,rfl,ZM u c (by rw[hd]; simp)⟩
theorem Sx(r:T F):∀(l:T F) (acc:Nat),parseUint10 acc (l++r)=match parseUint10 acc l with | .ok a=>parseUint10 a r | e=>e
 | [],acc=>by simp[parseUint10]
 | c::l,acc=>by
  simp only[List.cons_append,parseUint10];split
  ·split
   ·rfl
   ·split
    ·rfl
    ·exact Sx r l _
  ·rfl
theorem jb(u:Nat)(h:u<18446744073709551616):parseUint10 0 (decDigits u)= .ok u:=by
 induction u using Nat.strongRecOn with
 | _ u ih=>
  by_cases h9:u<10
  ·rw[decDigits_one h9];have e:=Jj h9;simp only[parseUint10,e];rw[if_pos (by omega),if_neg (by omega),if_neg (by omega)];congr 1; omega
  ·rw[Q4 h9,Sx,ih (u / 10) (by omega) (by omega)];have e:=Jj (show u % 10<10 by omega);simp only[parseUint10,e];rw[if_pos (by omega),if_neg (by omega),if_neg (by omega)];congr 1; omega
theorem ZO{c:F}(h:Gs c=true):c.toNat≠45∧c.toNat≠43:=by
 simp only[Gs,decide_eq_true_eq] at h; omega
theorem Sw(u:Nat)(h:u<18446744073709551616):parseMag (decDigits u)= .ok u:=by
 unfold parseMag; rw[if_neg (Q5 u),jb u h]
theorem Xy{n:Int}(h:i64 n):atoiAll (itoa n)= .ok n:=by
 obtain⟨h1,h2⟩:=h;unfold itoa;by_cases hn:n<0
 ·rw[if_pos hn];have e:(45:F).toNat=45:=rfl;simp only[atoiAll,e];rw[if_pos (Or.inr trivial),Sw _ (by omega)];simp only[not_true,false_and,if_false,true_and];rw[if_neg (by omega)];simp only[if_true];congr 1; omega
 ·rw[if_neg hn];obtain⟨c,r,hc,hd⟩:=ZN n.toNat;have hm:=Sw n.toNat (by omega);obtain⟨a,b⟩:=ZO hd;rw[hc] at hm ⊢
  simp only[atoiAll];rw[if_neg (by omega),hm];simp only[a,not_false_iff,true_and,false_and,if_false];rw[if_neg (by omega)];congr 1; omega
theorem PG{s:T F}{v:Int}(h:atoiAll s= .ok v):i64 v:=by
 cases s with
 | nil=>simp[atoiAll] at h
 | cons c r=>
  cases hu:parseMag (if c.toNat=43∨c.toNat=45 then r else c::r) with
  | ok u=>
   have hlt:=parseMag_lt hu;simp only[atoiAll,hu] at h;by_cases hn:c.toNat=45
   ·simp only[hn,not_true,false_and,if_false,true_and,if_true] at h;split at h
    ·cases h
    ·cases h; exact⟨by omega,by omega⟩
   ·simp only[hn,not_false_iff,false_and,if_false,true_and] at h;split at h
    ·cases h
    ·cases h; exact⟨by omega,by omega⟩
  | _=>simp[atoiAll,hu] at h
theorem jZ{n:Int}(h:i64 n):Cn (itoa n)=(n,true):=by simp[Cn,Xy h]
theorem ja{s:T F}(h:∀n,i64 n→itoa n≠s):Cn s=(0,false):=by
 unfold Cn;split
 ·rename_i v hv
  rw[if_neg (h v (PG hv))]
 ·rfl
theorem jX(s:T F):(∃n,i64 n∧itoa n=s∧Cn s=(n,true))∨((∀n,i64 n→itoa n≠s)∧Cn s=(0,false)):=by
 by_cases h:∃n,i64 n∧itoa n=s
 ·obtain⟨n,h1,h2⟩:=h;exact .inl ⟨n,h1,h2,by rw[← h2]; exact jZ h1⟩
 ·have h':∀n,i64 n→itoa n≠s:=fun n h1 h2=>h ⟨n,h1,h2⟩
  exact .inr ⟨h',ja h'⟩
theorem jY(s:T F):i64 (Cn s).1:=by
 rcases jX s with ⟨n,h1,_,h⟩|⟨_,h⟩<;>rw[h]
 ·exact h1
 ·exact⟨by decide,by decide⟩
theorem gJ{n:Int}(h:i64 n):(itoa n).length≤21:=itoa_length_le n h.1 h.2
end Go.Vi
