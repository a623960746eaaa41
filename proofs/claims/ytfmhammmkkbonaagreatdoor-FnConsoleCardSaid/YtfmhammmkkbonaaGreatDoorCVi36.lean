/-
The value level. No condition.
-/
import Derived.Test.YtfmhammmkkbonaaGreatDoorCVi35
namespace Go.Vi
set_option linter.all false
open Option renaming some → T
mutual
theorem Rep.toS{h:A3}:∀{d v},Rep h d v→RepS h d v
 | _,_,.int a b=> .int a b
 | _,_,.bool=> .bool
 | _,_,.str a=> .str a
 | _,_,.nil=> .nil
 | _,_,.sl a z b c d e=> .sl a z (RepRows.toS b) c d e
 | _,_,.pd a b=> .pd a (Reps.toS b)
 | _,_,.clo a b=> .clo (Reps.toS a) b
 | _,_,.ifc a=> .ifc (Rep.toS a)
 | _,_,.ifs a b=> .ifs (Reps.toS a) b
 | _,_,.noi=> .noi
theorem Reps.toS{h:A3}:∀{d v},Reps h d v→RepSs h d v
 | _,_,.nil=> .nil
 | _,_,.cons a b=> .cons (Rep.toS a) (Reps.toS b)
theorem RepRows.toS{h:A3}:∀{sz d v},RepRows h sz d v→RepSRows h sz d v
 | _,_,_,.nil=> .nil
 | _,_,_,.cons a b c=> .cons a (Reps.toS b) (RepRows.toS c)
end
mutual
theorem RepS.move{h h':A3}(hh:∀b C,h b C→∃C',h' b C'∧ShL C C'):∀{d v v'},RepS h d v→ShV v v'→RepS h' d v'
 | _,_,_,.int a b,.int p q=> .int p q
 | _,_,_,.int a b,.same=> .int a b
 | _,_,_,.bool,.bool=> .bool
 | _,_,_,.bool,.same=> .bool
 | _,_,_,.str a,.str p=> .str p
 | _,_,_,.str a,.same=> .str a
 | _,_,_,.nil,.same=> .nil
 | _,_,_,.sl a z b c d e,.same=>by
  obtain⟨C',k1,k2⟩:=hh _ _ a;exact .sl k1 z (RepSRows.move hh b (k2.drop _)) c d e
 | _,_,_,.pd a b,.same=>by
  obtain⟨C',k1,k2⟩:=hh _ _ a;exact .pd k1 (RepSs.move hh b (k2.drop _))
 | _,_,_,.clo a b,.same=> .clo (RepSs.move hh a (.refl _)) b
 | _,_,_,.ifc a,.same=> .ifc (RepS.move hh a .same)
 | _,_,_,.ifs a b,.same=> .ifs (RepSs.move hh a (.refl _)) b
 | _,_,_,.noi,.same=> .noi
theorem RepSs.move{h h':A3}(hh:∀b C,h b C→∃C',h' b C'∧ShL C C'):∀{d v v'},RepSs h d v→ShL v v'→RepSs h' d v'
 | _,_,_,.nil,_=> .nil
 | _,_,_,.cons a b,.cons k l=> .cons (RepS.move hh a k) (RepSs.move hh b l)
theorem RepSRows.move{h h':A3}(hh:∀b C,h b C→∃C',h' b C'∧ShL C C'):∀{sz d v v'},RepSRows h sz d v→ShL v v'→RepSRows h' sz d v'
 | _,_,_,_,.nil,_=> .nil
 | _,_,_,_,.cons a b c,k=> .cons a (RepSs.move hh b k) (RepSRows.move hh c (k.drop _))
end
section
variable {P : Program}
end
section
variable {P : Program} {A : Ar} {B : Nat} {w0 : Base} {w : World} {nm : Ab} {σ : St} {tmps : Array Value}
theorem Rel.behind0(R:Rel A B w0 nm σ tmps w){d:Nat}{rs:List R1}{w':World}{v:Value}{bs:List (Option Nat)}(hf:σ.fresh d=true)(h64:(rs.flatMap R1.cells).length≤64){A':B5}
  (hA:(∀b fr,A' b fr→(∀i,nm i≠T b)∧A b fr)∨CD rs)
  (hb:RowKit.Below w.heap.size w w') (hr:RRel (Al (fun b fr=>T b∉bs∧((w.heap.size≤b∧fr=(0,0))∨A' b fr)) w') w' rs v bs) (hn:∀b,T b∈bs→w.heap.size≤b∧b<w'.heap.size)
  (hdis:∀(i j b:Nat),bs[i]?=T (T b)→bs[j]?=T (T b)→i=j):∃nm',Rel A B w0 nm' {σ with rows:=Ba σ.rows (BH d rs)} tmps w'∧VRel (cx A nm' {σ with rows:=Ba σ.rows (BH d rs)} w') (By d rs) v:=by
 let inst:Ab:=fun n=>if n % 2=1 then(bs[(n / 2) % 64]?).join else none
 have hinst:∀n b,inst n=T b→n % 2=1∧bs[(n / 2) % 64]?=T (T b):=by
  intro n b h;simp only[inst] at h;split at h
  ·rename_i h1
   refine⟨h1,?_⟩;cases hq:bs[(n / 2) % 64]? with
   | none=>rw[hq] at h; cases h
   | some q=>rw[hq] at h; simp at h; rw[h]
  ·cases h
 have hl:=hr.len
 have R1:=R.grow hf hb inst (Ba σ.rows (BH d rs)) (fun n b _ h=>hn b (List.mem_of_getElem? (hinst n b h).2)) (fun n m b h1 h2 h3 h4=>by
   obtain⟨k1,k2⟩:=hinst n b h3;obtain⟨k3,k4⟩:=hinst m b h4;have:=hdis _ _ _ k2 k4;unfold BS at h1 h2
   omega) (fun id hid=>OA _ _ _ _ _ (by omega) hid)
 have hview:∀b C,Al (fun b fr=>T b∉bs∧((w.heap.size≤b∧fr=(0,0))∨((∀i,nm i≠T b)∧A b fr))) w' b C→Ad A (AJ d inst nm) w' b C:=by
  rintro b C ⟨cc,tt,fr,⟨h1,h2⟩,h3⟩
  refine⟨fun i=> ?_,cc,tt,fr,?_,h3⟩
  ·unfold AJ;split
   ·intro e; exact h1 (List.mem_of_getElem? (hinst i b e).2)
   ·intro e;rcases h2 with h2|h2
    ·have:=R.names i b e; omega
    ·exact h2.1 i e
  ·rcases h2 with h2|h2
   ·obtain⟨h2,rfl⟩:=h2;exact R.all.all b (.inl (Nat.le_trans R.size h2))
   ·exact h2.2
 have hr2:RRel (Ad A (AJ d inst nm) w') w' rs v bs:=by
  refine hr.conv fun c hc=> ?_
  rcases hA with hA|hA
  ·left
   rintro b C ⟨cc,tt,fr,⟨h1,h2⟩,h3⟩
   exact hview b C ⟨cc,tt,fr,⟨h1,h2.imp id (hA b fr)⟩,h3⟩
  ·exact .inr (hA c hc)
 have hv:VRel (cx A (AJ d inst nm) {σ with rows:=Ba σ.rows (BH d rs)} w') (By d rs) v:=by
  refine Rq hr2 fun i=>⟨fun sz es e=> ?_,fun b e=> ?_⟩
  ·exact Oz _ _ _ _ _ _ _ e
  ·have hi:i<64:=by have:=(List.getElem?_eq_some_iff.1 e).1; omega
   show AJ d inst nm (2*(d*64+(0+i))+1)=b
   unfold AJ;rw[if_pos (.inr (by omega))];simp only[inst];rw[if_pos (by omega),show(2*(d*64+(0+i))+1) / 2 % 64=i by omega,e];rfl
 exact⟨_,R1,hv⟩
def St.toDL(σ:St):List AV→Option (List DV)
 | []=>T []
 | x::xs=>match σ.toDV x,σ.toDL xs with
  | some d,T ds=>T (d::ds)
  | _,_=>none
theorem YM(R:Rel A B w0 nm σ tmps w):∀{avs:List AV} {vs:List Value} {ds:List DV},VsRel (cx A nm σ w) avs vs→σ.toDL avs=T ds→DVRels (AZ w) ds vs
 | [],vs,ds,H,h=>by
  obtain rfl:vs= []:=List.length_eq_zero_iff.1 H.1.symm;simp[St.toDL] at h;subst h;exact .nil
 | x::avs,vs,ds,H,h=>by
  unfold St.toDL at h;split at h
  ·rename_i d ds' h1 h2
   cases h;cases vs with
   | nil=>have:=H.1; simp at this
   | cons v vs=>
    exact .cons (Sm (a:=⟨tmps,[]⟩) R (H.2 0 x v rfl rfl) h1) (YM R ⟨by have:=H.1; simpa using this,fun i u v hu hv=>H.2 (i+1) u v (by simpa using hu) (by simpa using hv)⟩ h2)
  ·cases h
theorem FCf.callC{f:FuncId}{ds:List DV}{rs:List R1}(H:FCf P f ds rs){d:Nat}{avs:List AV}(hx:σ.toDL avs=T ds)(hfr:σ.fresh d=true)(h64:(rs.flatMap R1.cells).length≤64) :
  DX P f avs σ {σ with rows:=Ba σ.rows (BH d rs)} (By d rs):=by
 intro A B w0 w nm tmps vs R hvs;refine(H w (fun _ _=>True) vs (R.good w R.below) ((YM R hvs hx).mono fun _ _ h=>Z6 h)).mono fun e w' h=> ?_
 obtain⟨v,bs,rfl,h2,h3,h4,h5⟩:=h;obtain⟨nm',R',hv⟩:=R.behind0 hfr h64 (A':=fun _ _=>False) (.inl fun _ _ h=>h.elim) h2 h3 h4 h5;exact⟨v,nm',rfl,R',hv⟩
end
end Go.Vi
