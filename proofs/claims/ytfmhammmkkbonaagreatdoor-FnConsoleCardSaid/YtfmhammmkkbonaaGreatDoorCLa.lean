/-
Plain laws of numerals. No condition.
-/
import Derived.Lib.ItoaMem
import Derived.Lib.ItoaLen
import Derived.Lib.AtoiAll
import Derived.Lib.Join
import Derived.Lib.Bytealg
namespace Go.Vi
set_option linter.all false
open Go.Lib
open _root_ renaming List → T, UInt8 → F
def i64(n:Int):Prop:= -9223372036854775808≤n∧n≤9223372036854775807
instance (n:Int):Decidable (i64 n):=by unfold i64; infer_instance
def Ow(n:Int):Option (T F):=if i64 n then some (itoa n) else none
def D9(s:T F):Int × Bool:=match atoiAll s with
 | .ok v=>if itoa v=s then(v,true) else(0,false)
 | _=>(0,false)
def Fi(s:T F):Option (Int × Bool):=if s.length≤281474976710656 then some (D9 s) else none
def Oy(l:T (T F))(sep:T F):Option (T F):=if l.length≤140737488355328∧(join l sep).length≤140737488355328 then some (join l sep) else none
def Ox(s:T F)(c:Int):Option Int:=some (indexByte s c.toNat.toUInt8)
def JY(c:F):Bool:=decide (48≤c.toNat∧c.toNat≤57)
def val(l:T F):Nat:=l.foldl (fun a c=>a*10+(c.toNat - 48)) 0
theorem NN{i:Nat}(h:i<10):(UInt8.ofNat (48+i)).toNat=48+i:=by
 rw[UInt8.toNat_ofNat']; omega
theorem U9{u:Nat}(h:¬u<10):decDigits u=decDigits (u / 10)++ [UInt8.ofNat (48+u % 10)]:=by rw[decDigits,dif_neg h]
theorem ij(u:Nat):∀c∈decDigits u,JY c=true:=by
 induction u using Nat.strongRecOn with
 | _ u ih=>
  intro c hc;by_cases h:u<10
  ·rw[decDigits_one h] at hc
   simp only[List.mem_singleton] at hc
   subst hc;simp only[JY,NN h,decide_eq_true_eq]; omega
  ·rw[U9 h,List.mem_append,List.mem_singleton] at hc
   rcases hc with hc|hc
   ·exact ih (u / 10) (by omega) c hc
   ·subst hc;have h10:u % 10<10:=by omega
    simp only[JY,NN h10,decide_eq_true_eq]; omega
theorem Ua(u:Nat):decDigits u≠ []:=by
 intro h;have:=decDigits_length u;rw[h] at this
 have:=nDigits_pos u;simp at *
 omega
theorem ik(u:Nat):∃c r,decDigits u=c::r∧JY c=true:=by
 cases hd:decDigits u with
 | nil=>exact absurd hd (Ua u)
 | cons c r=>exact⟨c,r,rfl,ij u c (by rw[hd]; simp)⟩
theorem WL(r:T F):∀(l:T F) (acc:Nat),parseUint10 acc (l++r)=match parseUint10 acc l with | .ok a=>parseUint10 a r | e=>e
 | [],acc=>by simp[parseUint10]
 | c::l,acc=>by
  simp only[List.cons_append,parseUint10];split
  ·split
   ·rfl
   ·split
    ·rfl
    ·exact WL r l _
  ·rfl
theorem tv(u:Nat)(h:u<18446744073709551616):parseUint10 0 (decDigits u)= .ok u:=by
 induction u using Nat.strongRecOn with
 | _ u ih=>
  by_cases h9:u<10
  ·rw[decDigits_one h9];have e:=NN h9;simp only[parseUint10,e];rw[if_pos (by omega),if_neg (by omega),if_neg (by omega)];congr 1; omega
  ·rw[U9 h9,WL,ih (u / 10) (by omega) (by omega)];have e:=NN (show u % 10<10 by omega);simp only[parseUint10,e];rw[if_pos (by omega),if_neg (by omega),if_neg (by omega)];congr 1; omega
theorem iq{c:F}(h:JY c=true):c.toNat≠45∧c.toNat≠43:=by
 simp only[JY,decide_eq_true_eq] at h; omega
theorem WK(u:Nat)(h:u<18446744073709551616):parseMag (decDigits u)= .ok u:=by
 unfold parseMag; rw[if_neg (Ua u),tv u h]
theorem dn{n:Int}(h:i64 n):atoiAll (itoa n)= .ok n:=by
 obtain⟨h1,h2⟩:=h;unfold itoa;by_cases hn:n<0
 ·rw[if_pos hn];have e:(45:F).toNat=45:=rfl;simp only[atoiAll,e];rw[if_pos (Or.inr trivial),WK _ (by omega)];simp only[not_true,false_and,if_false,true_and];rw[if_neg (by omega)];simp only[if_true];congr 1; omega
 ·rw[if_neg hn];obtain⟨c,r,hc,hd⟩:=ik n.toNat;have hm:=WK n.toNat (by omega);obtain⟨a,b⟩:=iq hd;rw[hc] at hm ⊢
  simp only[atoiAll];rw[if_neg (by omega),hm];simp only[a,not_false_iff,true_and,false_and,if_false];rw[if_neg (by omega)];congr 1; omega
theorem Tx{s:T F}{v:Int}(h:atoiAll s= .ok v):i64 v:=by
 cases s with
 | nil=>simp[atoiAll] at h
 | cons c r=>
  cases hu:parseMag (if c.toNat=43∨c.toNat=45 then r else c::r) with
  | ok u=>
   have hlt:=parseMag_lt hu;simp only[atoiAll,hu] at h;by_cases hn:c.toNat=45
   ·simp only[hn,not_true,false_and,if_false,true_and,if_true] at h;split at h
    ·cases h
    ·cases h; exact⟨by omega,by omega⟩
   ·simp only[hn,not_false_iff,false_and,if_false,true_and] at h;split at h
    ·cases h
    ·cases h; exact⟨by omega,by omega⟩
  | _=>simp[atoiAll,hu] at h
theorem tr{n:Int}(h:i64 n):D9 (itoa n)=(n,true):=by simp[D9,dn h]
theorem tu{s:T F}(h:∀n,i64 n→itoa n≠s):D9 s=(0,false):=by
 unfold D9;split
 ·rename_i v hv
  rw[if_neg (h v (Tx hv))]
 ·rfl
theorem tm(s:T F):(∃n,i64 n∧itoa n=s∧D9 s=(n,true))∨((∀n,i64 n→itoa n≠s)∧D9 s=(0,false)):=by
 by_cases h:∃n,i64 n∧itoa n=s
 ·obtain⟨n,h1,h2⟩:=h;exact .inl ⟨n,h1,h2,by rw[← h2]; exact tr h1⟩
 ·have h':∀n,i64 n→itoa n≠s:=fun n h1 h2=>h ⟨n,h1,h2⟩
  exact .inr ⟨h',tu h'⟩
theorem tn(s:T F):i64 (D9 s).1:=by
 rcases tm s with ⟨n,h1,_,h⟩|⟨_,h⟩<;>rw[h]
 ·exact h1
 ·exact⟨by decide,by decide⟩
theorem GB{n:Int}(h:i64 n):(itoa n).length≤21:=itoa_length_le n h.1 h.2
end Go.Vi
