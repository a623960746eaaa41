/-
The value level. No condition.
-/
import Derived.Test.YtfmhammmkkbonaaGreatDoorCVi37
namespace Go.Vi
set_option linter.all false
section
variable {P : Program} {k : List Fr} {Q : Xn → St → Prop} {σ : St} {its : List AItem}
theorem Mi{d:Nat}{x i:Opd}{len id:Nat}{kd:IntKind}{n:Int}(hx:σ.val x= .v (.sc (.pb id 0)))(hi:σ.val i= .v (.sc (.dat (.int kd n))))(h:(decide (0≤n)&&decide (n<(len:Int)))=true)
  (H:go P (.ops its::k) Q .normal (some (σ.set d (.v (.sc (.pb id n.toNat)))))):go P (.ops ((none,.aaddr d x i len 1)::its)::k) Q .normal (some σ):=by
 simp only[Bool.and_eq_true,decide_eq_true_eq] at h;rw[nM,hx,hi];simp only[Kz,h,and_self,if_true,Nat.zero_add,Nat.mul_one];exact H
end
theorem F4{n:Int}{m:Nat}(h:(decide (0≤n)&&decide (n<(m:Int)))=true):n.toNat<m:=by
 simp only[Bool.and_eq_true,decide_eq_true_eq] at h;omega
theorem Qe{cs:List AC}{n:Nat}(h:n<cs.length):C3 cs (n+1)=true:=by
 rw[MH];exact decide_eq_true h
theorem Qf{c:AC}{cs:List AC}{n:Nat}(h:n<(c::cs).length):C3 cs n=true:=by
 rw[MH];exact decide_eq_true (Nat.le_of_lt_succ h)
theorem Tt{bs:List Bool}{n:Nat}{b:Bool}(h:bs[n]?=some b):(bs.map fun b=>AC.dat (.bool b))[n]?=some (.dat (.bool b)):=by simp[h]
end Go.Vi
