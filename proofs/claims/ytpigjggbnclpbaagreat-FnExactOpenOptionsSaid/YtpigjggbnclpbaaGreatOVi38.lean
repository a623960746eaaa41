/-
The value level. No condition.
-/
import Derived.Test.YtpigjggbnclpbaaGreatOVi37
namespace Go.Vi
set_option linter.all false
section
variable {P : Program} {k : List Fr} {Q : Xg → St → Prop} {σ : St} {its : List AItem}
theorem L5{d:Nat}{x i:Opd}{len id:Nat}{kd:IntKind}{n:Int}(hx:σ.val x= .v (.sc (.pb id 0)))(hi:σ.val i= .v (.sc (.dat (.int kd n))))(h:(decide (0≤n)&&decide (n<(len:Int)))=true)
  (H:go P (.ops its::k) Q .normal (some (σ.set d (.v (.sc (.pb id n.toNat)))))):go P (.ops ((none,.aaddr d x i len 1)::its)::k) Q .normal (some σ):=by
 simp only[Bool.and_eq_true,decide_eq_true_eq] at h;rw[en,hx,hi];simp only[J7,h,and_self,if_true,Nat.zero_add,Nat.mul_one];exact H
end
theorem DN{n:Int}{m:Nat}(h:(decide (0≤n)&&decide (n<(m:Int)))=true):n.toNat<m:=by
 simp only[Bool.and_eq_true,decide_eq_true_eq] at h;omega
theorem Oh{cs:List AC}{n:Nat}(h:n<cs.length):BJ cs (n+1)=true:=by
 rw[Lj];exact decide_eq_true h
theorem Oi{c:AC}{cs:List AC}{n:Nat}(h:n<(c::cs).length):BJ cs n=true:=by
 rw[Lj];exact decide_eq_true (Nat.le_of_lt_succ h)
theorem QZ{bs:List Bool}{n:Nat}{b:Bool}(h:bs[n]?=some b):(bs.map fun b=>AC.dat (.bool b))[n]?=some (.dat (.bool b)):=by simp[h]
end Go.Vi
