/-
Plain laws. No condition.
-/
import Derived.Test.YtpfcgapakfcllaaGreatDoorCVi32
namespace Go.Vi
set_option linter.all false
theorem gM{α:Type}(l:List α)(i:Nat):ix l (i:Int)=l[i]?:=by simp[ix]
theorem RZ{α:Type}{l:List α}{i:Nat}(h:i<l.length):ix l (i:Int)=some l[i]:=by rw[gM,List.getElem?_eq_getElem h]
theorem Q6(i n:Nat):decide ((i:Int)<(n:Int))=decide (i<n):=by simp[Int.ofNat_lt]
theorem Ua{i n:Nat}(h:i<n)(hn:n≤maxLen):IntKind.i64.wrap ((i:Int)+1)=((i+1:Nat):Int):=pU h hn
theorem Mf:bigN=1208925819614629174706176:=by unfold bigN; rfl
theorem Lv:maxLen=9223372036854775807:=rfl
theorem Sa{n:Nat}(h:n≤maxLen):n<bigN:=by rw[Mf]; rw[Lv] at h; omega
end Go.Vi
