/-
The value level. No condition.
-/
import Derived.Test.YtpigjggbnclpbaaGreatOVi21
namespace Go.Vi
set_option linter.all false
open List renaming mem_range' → W, mem_cons → Z, range' → C, getElem?_eq_some_iff → I, nodup_cons → zA
open Bool renaming and_eq_true → zB, true → T, false → L
open Nat renaming le_of_not_lt → zC
open Option renaming some → O
open _root_ renaming List → U, Nat → V
theorem kn{σ:St}{N:U V}{id:V}{x:V × U (U D)}(h:A1 (σ.less N).rows id=O x):id / 64∉N∧A1 σ.rows id=O x:=by
 cases N with
 | nil=>exact⟨by simp,h⟩
 | cons n N=>
  obtain⟨h1,h2⟩:=L2 (p:=fun k=> !(n::N).contains (k / 64)) h;exact⟨by simpa using h1,h2⟩
theorem ki{σ:St}{N:U V}{id:V}{x:U AC}(h:A1 (σ.less N).bx id=O x):id∉N∧A1 σ.bx id=O x:=by
 cases N with
 | nil=>exact⟨by simp,h⟩
 | cons n N=>
  obtain⟨h1,h2⟩:=L2 (p:=fun k=> !(n::N).contains k) h;exact⟨by simpa using h1,h2⟩
theorem kj{σ:St}{N:U V}(k:V):(σ.less N).get k=σ.get k:=by cases N<;>rfl
section
variable {P : Program} {nt : V} {ops : Array Oper} {its : U AItem} {ds : U AO} {Q : Exit → Act → World → Prop} {A : Ar} {B : V} {w0 : Base} {df : U Deferred} {σ0 : St} {E : V → Eff} {s : V}
def Fact(P:Program)(ds:U AO)(σ0:St)(E:V→Eff)(s i:V):Prop:=
 ∃N it σi,ds[i]?=O (O N,it)∧Mt σ0 E (fun j=>s≤j∧j<i) σi∧Ev P N σi it (E i)
theorem Fact.parts(H:DrawOk P nt ops its ds){i:V}(F:Fact P ds σ0 E s i):∃it,its[i]?=O it∧it.2.gentle=T∧it.2.dst=O (E i).d∧(E i).Grouped∧((E i).bx≠ []∨(E i).rows≠ []→it.2.maker=T):=by
 obtain⟨N,it,σi,h1,_,h3⟩:=F;obtain⟨_,_,hit,_,_⟩:=H.at h1;exact⟨it,hit,(H.gentle h1).1,h3.dst,h3.grouped,fun h=>(h3.maker h).1⟩
theorem Fact.ne(H:DrawOk P nt ops its ds){i j:V}(F:Fact P ds σ0 E s i)(G:Fact P ds σ0 E s j)(hij:i≠j):(E i).d≠(E j).d:=by
 obtain⟨it,h1,h2,h3,_⟩:=F.parts H;obtain⟨jt,k1,k2,k3,_⟩:=G.parts H;intro e;exact H.dist i j it jt _ h1 k1 hij h2 k2 h3 (e▸k3)
theorem Uy(H:DrawOk P nt ops its ds){k i:V}(F:∀j,s≤j→j<k→Fact P ds σ0 E s j)(hfr:Cj (ds.drop s) σ0=T){M:U V}(hM:∀x∈M,s≤x∧x<k){listed:Array Bool}
  (hL:∀j,Ah listed j↔j<s∨j∈M) (hcl:Cg ops (Ah listed)) (hs:s≤i) (hk:i<k) (hi:i∉M) (hw:∀o,ops[i]?=O o→∀j∈waits o,Ah listed j) {σ:St} (m:Mt σ0 E (· ∈M) σ) :
  ∃o g ao,ops[i]?=O o∧LW P nt ops o (g,ao)∧its[i]?=O (g,ao)∧∀K:St→Prop,K (σ.add (E i))→AA g σ (AN P ao K σ) (match ao.dst with | some d=>K (σ.set d .no) | none=>False):=by
 obtain⟨N,it,σi,hx,mi,ev⟩:=F i hs hk;obtain⟨o,ho,hit,hc,_⟩:=H.at hx;obtain⟨hg,hinc⟩:=H.gentle hx
 have comp_lt:∀j,s≤j→j<i→Bh (B6 ops.toList []) i j=L→j∈M:=by
  intro j hsj hji hc;rcases H3 hc (by omega) with h|h
  ·have:=(hL j).1 (EG hcl hw h);rcases this with h2|h2
   ·omega
   ·exact h2
  ·have:=FJ H h;omega
 have comp_M:∀j∈M,Bh (B6 ops.toList []) i j=L→j<i:=by
  intro j hj hc;have hne:i≠j:=fun e=>hi (e▸hj)
  rcases H3 hc hne with h|h
  ·exact FJ H h
  ·exfalso
   have hLj:Ah listed j:=(hL j).2 (.inr hj);have hLi:Ah listed i:=EG hcl (fun o' ho' x hx=>hcl j o' ho' hLj x hx) h;rcases(hL i).1 hLi with h2|h2
   ·omega
   ·exact hi h2
 have dst_in:∀j,s≤j→j<k→Bh (B6 ops.toList []) i j=T→(E j).d∉it.slots∧((E j).bx≠ []∨(E j).rows≠ []→(E j).d∈N):=by
  intro j hsj hjk hc;obtain⟨jt,k1,k2,k3,k4,k5⟩:=(F j hsj hjk).parts H;obtain⟨e2,e3⟩:=hinc j jt k1 hc _ k3;exact⟨e2,fun h=>e3 (k5 h)⟩
 obtain⟨g,ao⟩:=it;refine⟨o,g,ao,ho,hc,hit,fun K hK=>ev.move ?_ ?_ hK⟩
 ·refine⟨fun q hq=> ?_,fun id cs hcs=> ?_,fun id r hr=> ?_⟩
  ·rw[kj];by_cases h:∃j,s≤j∧j<i∧(E j).d=q
   ·obtain⟨j,h1,h2,rfl⟩:=h
    have hc':Bh (B6 ops.toList []) i j=L:=by
     cases hb:Bh (B6 ops.toList []) i j with
     | false=>rfl
     | true=>exact absurd hq (dst_in j h1 (by omega) hb).1
    rw[m.hit j (comp_lt j h1 h2 hc'),mi.hit j ⟨h1,h2⟩]
   ·rw[mi.miss q fun j hj e=>h ⟨j,hj.1,hj.2,e⟩];refine m.miss q fun j hj e=> ?_
    obtain⟨hsj,hjk⟩:=hM j hj;cases hb:Bh (B6 ops.toList []) i j with
    | false=>exact h ⟨j,hsj,comp_M j hj hb,e⟩
    | true=>exact(dst_in j hsj hjk hb).1 (e▸hq)
  ·obtain⟨hN,hf⟩:=ki hcs;rw[← hf];by_cases h:∃j,s≤j∧j<i∧(E j).bx≠ []∧(E j).d=id
   ·obtain⟨j,h1,h2,hb,e⟩:=h
    have hc':Bh (B6 ops.toList []) i j=L:=by
     cases hb2:Bh (B6 ops.toList []) i j with
     | false=>rfl
     | true=>exact absurd (e▸(dst_in j h1 (by omega) hb2).2 (.inl hb)) hN
    rw[m.bhit j id (comp_lt j h1 h2 hc') hb e,mi.bhit j id ⟨h1,h2⟩ hb e]
   ·rw[mi.bmiss id fun j hj hb e=>h ⟨j,hj.1,hj.2,hb,e⟩];refine m.bmiss id fun j hj hb e=> ?_
    obtain⟨hsj,hjk⟩:=hM j hj;cases hb2:Bh (B6 ops.toList []) i j with
    | false=>exact h ⟨j,hsj,comp_M j hj hb2,hb,e⟩
    | true=>exact hN (e▸(dst_in j hsj hjk hb2).2 (.inl hb))
  ·obtain⟨hN,hf⟩:=kn hr;rw[← hf];by_cases h:∃j,s≤j∧j<i∧(E j).rows≠ []∧(E j).d=id / 64
   ·obtain⟨j,h1,h2,hb,e⟩:=h
    have hc':Bh (B6 ops.toList []) i j=L:=by
     cases hb2:Bh (B6 ops.toList []) i j with
     | false=>rfl
     | true=>exact absurd (e▸(dst_in j h1 (by omega) hb2).2 (.inr hb)) hN
    rw[m.rhit j id (comp_lt j h1 h2 hc') hb e,mi.rhit j id ⟨h1,h2⟩ hb e]
   ·rw[mi.rmiss id fun j hj hb e=>h ⟨j,hj.1,hj.2,hb,e⟩];refine m.rmiss id fun j hj hb e=> ?_
    obtain⟨hsj,hjk⟩:=hM j hj;cases hb2:Bh (B6 ops.toList []) i j with
    | false=>exact h ⟨j,hsj,comp_M j hj hb2,hb,e⟩
    | true=>exact hN (e▸(dst_in j hsj hjk hb2).2 (.inr hb))
 ·intro hmk hfi;have hd:ao.dst=O (E i).d:=ev.dst;refine m.frs _ ?_ fun j hj=> ?_
  ·have hmem:(O N,g,ao)∈ds.drop s:=by
    have:(ds.drop s)[i - s]?=O (O N,g,ao):=by rw[List.getElem?_drop,show s+(i - s)=i by omega]; exact hx
    exact List.mem_of_getElem? this
   have:=List.all_eq_true.1 hfr _ hmem;simp only[hmk,hd] at this
   exact this
  ·obtain⟨hsj,hjk⟩:=hM j hj;have hne:i≠j:=fun e=>hi (e▸hj)
   have hdne:=Fact.ne H (F i hs hk) (F j hsj hjk) hne;cases hb:Bh (B6 ops.toList []) i j with
   | false=>
    have hji:=comp_M j hj hb;obtain⟨_,_,_,_,hgr,_⟩:=(F j hsj hjk).parts H;simp only[Eff.avoids,zB,List.all_eq_true];refine⟨fun c hc=> ?_,fun p hp=> ?_⟩
    ·have:=St.fresh_uses hfi (c:=c) (.inl ⟨(E j).d,by rw[mi.hit j ⟨hsj,hji⟩]; exact hc⟩);simp[this]
    ·rcases hgr.one with h0|⟨cs,h0⟩
     ·rw[h0] at hp; simp at hp
     ·rw[h0] at hp
      simp only[List.mem_singleton] at hp
      subst hp;refine⟨by simpa using fun e=>hdne e.symm,fun c hc=> ?_⟩
      have hfind:A1 σi.bx (E j).d=O cs:=by
       rw[mi.bhit j _ ⟨hsj,hji⟩ (by simp[h0]) rfl,h0];exact B9 _ _ _
      have:=St.fresh_uses hfi (c:=c) (.inr ⟨_,_,hfind,hc⟩);simp[this]
   | true=>
    obtain⟨N',it',σj,hxj,mj,evj⟩:=F j hsj hjk;obtain⟨e2,e3⟩:=(H.gentle hxj).2 i (g,ao) hit (iM hb) _ hd;exact evj.avoid (e3 hmk) hdne
theorem OB(H:DrawOk P nt ops its ds){k:V}(hkn:k≤ops.size)(F:∀j,s≤j→j<k→Fact P ds σ0 E s j)(hfr:Cj (ds.drop s) σ0=T)(hsk:s≤k){σk:St}(mk:Mt σ0 E (fun j=>s≤j∧j<k) σk)
  (X:V→Prop) (hafter:∀i,k≤i→i<ops.size→∀listed:Array Bool,Cg ops (Ah listed)→(∀o,ops[i]?=O o→∀j∈waits o,Ah listed j)→∀j,s≤j→j<k→(∀x,Ah listed x→x<k)→Ah listed j∨X i)
  (esc:∀(i f:V) (M:U V) (listed:Array Bool) (a:Act) (w:World) (nm:Ad) (σ:St),X i→¬Ah listed i→(∀o,ops[i]?=O o→∀j∈waits o,Ah listed j)→(∃j0,s≤j0∧j0<k∧j0∉M)→M.Nodup→(∀x∈M,s≤x∧x<k)→listed.size=ops.size→
   (∀j,Ah listed j↔j<s∨j∈M)→f+1+s+M.length=ops.size→Cg ops (Ah listed)→Mt σ0 E (· ∈M) σ→Rel A B w0 nm σ a.tmps w→a.tmps.size=nt→a.defers=df→wpOp P ops Q i (wpAny P .any ops Q f (listed.setIfInBounds i T)) a w)
  (fin:∀fuel listed a w nm,fuel+k=ops.size→listed.size=ops.size→(∀i,Ah listed i↔i<k)→Cg ops (Ah listed)→Rel A B w0 nm σk a.tmps w→a.tmps.size=nt→a.defers=df→wpAny P .any ops Q fuel listed a w) :
  ∀(fuel:V) (M:U V) (listed:Array Bool) (a:Act) (w:World) (nm:Ad) (σ:St),M.Nodup→(∀x∈M,s≤x∧x<k)→listed.size=ops.size→(∀j,Ah listed j↔j<s∨j∈M)→fuel+s+M.length=ops.size→Cg ops (Ah listed)→
   Mt σ0 E (· ∈M) σ→Rel A B w0 nm σ a.tmps w→a.tmps.size=nt→a.defers=df→wpAny P .any ops Q fuel listed a w:=by
 intro fuel
 induction fuel with
 | zero=>
  intro M listed a w nm σ hnd hM hsz hL hfuel hcl m R hnt hdf;have hle:M.length≤(C s (k - s)).length:=Er hnd fun x hx=>by have:=hM x hx; simp[W]; exact⟨x - s,by omega,by omega⟩
  simp at hle
  have hall:∀j,s≤j→j<k→j∈M:=by
   intro j h1 h2;refine Classical.byContradiction fun hj=> ?_
   have:(j::M).length≤(C s (k - s)).length:=Er (zA.2 ⟨hj,hnd⟩) fun x hx=>by
    rcases Z.1 hx with rfl|hx
    ·simp[W]; exact⟨x - s,by omega,by omega⟩
    ·have:=hM x hx; simp[W]; exact⟨x - s,by omega,by omega⟩
   simp at this
   omega
  have mm:Mt σ0 E (fun j=>s≤j∧j<k) σ:=m.congr (fun i=>⟨hM i,fun h=>hall i h.1 h.2⟩) (fun _ _=>rfl);refine fin 0 listed a w nm (by omega) hsz (fun i=> ?_) hcl (R.same (mm.same mk)) hnt hdf;rw[hL i];constructor
  ·rintro(h|h)
   ·omega
   ·exact(hM i h).2
  ·intro h;by_cases his:i<s
   ·exact .inl his
   ·exact .inr (hall i (by omega) h)
 | succ f ih=>
  intro M listed a w nm σ hnd hM hsz hL hfuel hcl m R hnt hdf;by_cases hfull:∀j,s≤j→j<k→j∈M
  ·have mm:Mt σ0 E (fun j=>s≤j∧j<k) σ:=m.congr (fun i=>⟨hM i,fun h=>hfull i h.1 h.2⟩) (fun _ _=>rfl);have hle:M.length≤(C s (k - s)).length:=Er hnd fun x hx=>by have:=hM x hx; simp[W]; exact⟨x - s,by omega,by omega⟩
   have hge:(C s (k - s)).length≤M.length:=Er List.nodup_range' fun x hx=>by simp[W] at hx; obtain⟨y,hy,rfl⟩:=hx; exact hfull _ (by omega) (by omega)
   simp at hle hge
   refine fin (f+1) listed a w nm (by omega) hsz (fun i=> ?_) hcl (R.same (mm.same mk)) hnt hdf;rw[hL i];constructor
   ·rintro(h|h)
    ·omega
    ·exact(hM i h).2
   ·intro h;by_cases his:i<s
    ·exact .inl his
    ·exact .inr (hfull i (by omega) h)
  ·obtain⟨j0,hj0⟩:=Classical.not_forall.1 hfull;obtain⟨h1,hj0⟩:=Classical.not_imp.1 hj0;obtain⟨h2,h3⟩:=Classical.not_imp.1 hj0
   have hlt:∀x,Ah listed x→x<k:=by
    intro x hx;rcases(hL x).1 hx with h|h
    ·omega
    ·exact(hM x h).2
   refine⟨fun hr=> ?_,fun i hi=> ?_⟩
   ·exfalso
    have hn0:¬Ah listed j0:=fun h=>by
     rcases(hL j0).1 h with h|h
     ·omega
     ·exact h3 h
    obtain⟨mi,hmi,hmn,hmall⟩:=Pr (p:=Ah listed) hn0;have:mi∈Region.ready .any ops listed:=DC.2 ⟨by omega,(DB (by omega)).2 hmn,fun o ho j hj=>hmall j (H.back mi o ho j hj)⟩;rw[hr] at this
    simp at this
   ·obtain⟨hin,hun,hw⟩:=DC.1 hi;have hun':=(DB (by omega)).1 hun
    have hsi:s≤i:=by
     refine zC fun h=>hun' ((hL i).2 (.inl h))
    have hiM:i∉M:=fun h=>hun' ((hL i).2 (.inr h))
    by_cases hik:i<k
    rotate_left
    ·rcases hafter i (by omega) hin listed hcl hw j0 h1 h2 hlt with h|h
     ·exfalso
      rcases(hL j0).1 h with h|h
      ·omega
      ·exact h3 h
     ·exact esc i f M listed a w nm σ h hun' hw ⟨j0,h1,h2,h3⟩ hnd hM hsz hL hfuel hcl m R hnt hdf
    obtain⟨o,g,ao,ho,hc,_,hrun⟩:=Uy H F hfr hM hL hcl hsi hik hiM hw m
    have:=Nh (Q:=Q) (K:=wpAny P .any ops Q f (listed.setIfInBounds i T)) (K':=fun σ'=>σ'=σ.add (E i)) R hnt hc (hrun _ rfl) (fun nm' σ' a' w' hσ R' hs' hd'=>by
     subst hσ;obtain⟨_,_,_,_,hgr,_⟩:=(F i hsi hik).parts H;have m':Mt σ0 E (fun j=>j∈M∨j=i) (σ.add (E i)):=m.add (fun j hj=>Fact.ne H (F j (hM j hj).1 (hM j hj).2) (F i hsi hik) fun e=>hiM (e▸hj)) hgr;refine ih (i::M) _ a' w' nm' _ (zA.2 ⟨hiM,hnd⟩) ?_ (by simpa using hsz) (fun j=> ?_) (by simp; omega) ?_ (m'.congr (fun j=>by simp[or_comm]) (fun _ _=>rfl)) R' hs' (hd'.trans hdf)
     ·intro x hx;rcases Z.1 hx with rfl|hx
      ·exact⟨hsi,hik⟩
      ·exact hM x hx
     ·rw[Fp (by omega),hL j];simp only[Z];constructor
      ·rintro((h|h)|h)
       ·exact .inl h
       ·exact .inr (.inr h)
       ·exact .inr (.inl h)
      ·rintro(h|h|h)
       ·exact .inl (.inl h)
       ·exact .inr h
       ·exact .inl (.inr h)
     ·intro x o' ho' hx j hj;rw[Fp (by omega)] at hx ⊢
      rcases hx with hx|rfl
      ·exact .inl (hcl x o' ho' hx j hj)
      ·exact .inl (hw o' ho' j hj))
    unfold wpOp;rw[ho];exact this
theorem V8{σ σ2:St}{n:V}{X Y:AV}(h:σ.storeV n X Y=O σ2)(e:U (V × AV)):({σ with env:=e}:St).storeV n X Y=O {σ2 with env:=e}∧σ2.env=σ.env:=by
 unfold St.storeV at h ⊢
 split at h
 ·split at h
  ·rename_i cs hcs
   split at h
   ·rename_i hc
    cases h;simp only[hcs];rw[if_pos hc];exact⟨rfl,⟨⟩⟩
   ·cases h
  ·cases h
 ·split at h
  ·rename_i sz es hes
   split at h
   ·rename_i d ds h1 h2
    split at h
    ·rename_i hc
     cases h;simp only[hes,h1,h2];rw[if_pos hc];exact⟨rfl,⟨⟩⟩
    ·cases h
   ·cases h
  ·cases h
 ·rename_i c cs d
  cases hc:(n==1&&IF c d) with
  | false=>rw[hc] at h; cases h
  | true=>rw[hc] at h; cases h; exact⟨by simp[hc],rfl⟩
 ·cases h
theorem VA{σ τ:St}{x:Opd}(h:∀q∈x.slots,τ.get q=σ.get q):τ.val x=σ.val x:=by
 cases x with
 | t q=>exact h q (by simp[Opd.slots])
 | c v=>rfl
theorem mc{o:AOp}(he:o.envOnly=T){e:U (V × AV)}{b b':U (V × U AC)}{r r':Rows}:(St.mk e b r).pure o=(St.mk e b' r').pure o:=by
 cases o<;>first | rfl | (simp[AOp.envOnly] at he; done) | (simp only[St.pure]; (repeat' (rename_i x; cases x))<;>rfl)
theorem YP{o:AOp}(he:o.envOnly=T){K:St→Prop}{σ:St}:AN P o K σ=(match σ.pure o with | some (d,v)=>K (σ.set d v) | none=>False):=by
 cases o<;>first | (simp[AOp.envOnly] at he; done) | (simp only[AN,St.step]; cases σ.pure _ with | none=>simp[St.made] | some p=>rfl)
theorem dC{o:AOp}(he:o.envOnly=T){g:Option (V × Bool)}{e e1:U (V × AV)}{b b1 b':U (V × U AC)}{r r1 r':Rows}
  (h:AA g ⟨e,b,r⟩ (AN P o (fun τ=>τ=⟨e1,b1,r1⟩) ⟨e,b,r⟩) (match o.dst with | some d=>(St.mk e b r).set d .no=⟨e1,b1,r1⟩ | none=>False)) :
  AA g ⟨e,b',r'⟩ (AN P o (fun τ=>τ=⟨e1,b',r'⟩) ⟨e,b',r'⟩) (match o.dst with | some d=>(St.mk e b' r').set d .no=⟨e1,b',r'⟩ | none=>False):=by
 have hy:AN P o (fun τ=>τ=⟨e1,b1,r1⟩) ⟨e,b,r⟩→AN P o (fun τ=>τ=⟨e1,b',r'⟩) ⟨e,b',r'⟩:=by
  intro h;rw[YP he] at h ⊢
  rw[mc he (b':=b) (r':=r)];cases hp:(St.mk e b r).pure o with
  | none=>simp[hp] at h
  | some p=>
   simp only[hp] at h ⊢
   have:=congrArg St.env h;simp only[St.set] at this ⊢
   rw[this]
 have hn:(match o.dst with | some d=>(St.mk e b r).set d .no=⟨e1,b1,r1⟩ | none=>False)→(match o.dst with | some d=>(St.mk e b' r').set d .no=⟨e1,b',r'⟩ | none=>False):=by
  intro h;cases hd:o.dst with
  | none=>simp[hd] at h
  | some d=>
   simp only[hd] at h ⊢
   have:=congrArg St.env h;simp only[St.set] at this ⊢
   rw[this]
 rcases Oc h with ⟨hw,h⟩|⟨t,want,rfl,hd,h⟩
 ·exact Hy (σ:=⟨e,b',r'⟩) (by cases g<;>exact hw) (hy h)
 ·exact Ob (σ:=⟨e,b',r'⟩) hd (hn h)
theorem jv(H:DrawOk P nt ops its ds){k:V}(hkn:k<ops.size){J:U V}{σk σ2:St}(F:∀i,s≤i→i<k→Fact P ds σ0 E s i)(hfr:Cj (ds.drop s) σ0=T)(mk:Mt σ0 E (fun j=>s≤j∧j<k) σk)
  (hJ:∀j∈J,j<k∧∃jt,its[j]?=O jt∧jt.2.envOnly=T) (hlater:∀l,k<l→l<ops.size→∀j∈J,j∈(B6 ops.toList []).getD l []) (h2e:σ2.env=σk.env)
  (cont:∀(f:V) (listed:Array Bool) (a:Act) (w:World) (nm:Ad),f+(k+1)=ops.size→listed.size=ops.size→(∀i,Ah listed i↔i<k+1)→Cg ops (Ah listed)→Rel A B w0 nm σ2 a.tmps w→a.tmps.size=nt→a.defers=df→wpAny P .any ops Q f listed a w) :
  ∀(f:V) (M:U V) (l0 listed:Array Bool) (a:Act) (w:World) (nm:Ad) (σ:St),M.Nodup→(∀x∈M,s≤x∧x<k)→(∀l,s≤l→l<k→l∉J→l∈M)→(∀j,Ah l0 j↔j<s∨j∈M)→Cg ops (Ah l0)→
   listed.size=ops.size→l0.size=ops.size→(∀j,Ah listed j↔Ah l0 j∨j=k)→Cg ops (Ah listed)→s≤k→f+(s+M.length+1)=ops.size→Mt σ0 E (· ∈M) σ→Rel A B w0 nm ⟨σ.env,σ2.bx,σ2.rows⟩ a.tmps w→a.tmps.size=nt→a.defers=df→wpAny P .any ops Q f listed a w:=by
 intro f
 induction f with
 | zero=>
  intro M l0 listed a w nm σ hnd hM hall hL0 hcl0 hsz hsz0 hL hcl hsk hfuel m R hnt hdf;have hle:M.length≤(C s (k - s)).length:=Er hnd fun x hx=>by have:=hM x hx; simp[W]; exact⟨x - s,by omega,by omega⟩
  simp at hle
  have hfull:∀j,s≤j→j<k→j∈M:=by
   intro j h1 h2;refine Classical.byContradiction fun hj=> ?_
   have:(j::M).length≤(C s (k - s)).length:=Er (zA.2 ⟨hj,hnd⟩) fun x hx=>by
    rcases Z.1 hx with rfl|hx
    ·simp[W]; exact⟨x - s,by omega,by omega⟩
    ·have:=hM x hx; simp[W]; exact⟨x - s,by omega,by omega⟩
   simp at this
   omega
  have sm:Same σ σk:=(m.congr (fun i=>⟨hM i,fun h=>hfull i h.1 h.2⟩) (fun _ _=>rfl)).same mk;refine cont 0 listed a w nm (by omega) hsz (fun i=> ?_) hcl (R.same ⟨fun q=> ?_,fun _=>rfl,fun _=>rfl⟩) hnt hdf
  ·rw[hL,hL0];constructor
   ·rintro((h|h)|h)
    ·omega
    ·have:=hM i h; omega
    ·omega
   ·intro h;by_cases h1:i=k
    ·exact .inr h1
    by_cases h2:i<s
    ·exact .inl (.inl h2)
    ·exact .inl (.inr (hfull i (by omega) (by omega)))
  ·have:σ2.get q=σk.get q:=by unfold St.get; rw[h2e]
   rw[this];exact sm.get q
 | succ f ih=>
  intro M l0 listed a w nm σ hnd hM hall hL0 hcl0 hsz hsz0 hL hcl hsk hfuel m R hnt hdf;by_cases hfull:∀j,s≤j→j<k→j∈M
  ·have hle:M.length≤(C s (k - s)).length:=Er hnd fun x hx=>by have:=hM x hx; simp[W]; exact⟨x - s,by omega,by omega⟩
   have hge:(C s (k - s)).length≤M.length:=Er List.nodup_range' fun x hx=>by simp[W] at hx; obtain⟨y,hy,rfl⟩:=hx; exact hfull _ (by omega) (by omega)
   simp at hle hge
   have sm:Same σ σk:=(m.congr (fun i=>⟨hM i,fun h=>hfull i h.1 h.2⟩) (fun _ _=>rfl)).same mk;refine cont (f+1) listed a w nm (by omega) hsz (fun i=> ?_) hcl (R.same ⟨fun q=> ?_,fun _=>rfl,fun _=>rfl⟩) hnt hdf
   ·rw[hL,hL0];constructor
    ·rintro((h|h)|h)
     ·omega
     ·have:=hM i h; omega
     ·omega
    ·intro h;by_cases h1:i=k
     ·exact .inr h1
     by_cases h2:i<s
     ·exact .inl (.inl h2)
     ·exact .inl (.inr (hfull i (by omega) (by omega)))
   ·have:σ2.get q=σk.get q:=by unfold St.get; rw[h2e]
    rw[this];exact sm.get q
  ·obtain⟨j0,hj0⟩:=Classical.not_forall.1 hfull;obtain⟨h1,hj0⟩:=Classical.not_imp.1 hj0;obtain⟨h2,h3⟩:=Classical.not_imp.1 hj0
   have hn0:¬Ah listed j0:=fun h=>by
    rcases(hL j0).1 h with h|h
    ·rcases(hL0 j0).1 h with h|h
     ·omega
     ·exact h3 h
    ·omega
   refine⟨fun hr=> ?_,fun i hi=> ?_⟩
   ·exfalso
    obtain⟨mi,hmi,hmn,hmall⟩:=Pr (p:=Ah listed) hn0;have:mi∈Region.ready .any ops listed:=DC.2 ⟨by omega,(DB (by omega)).2 hmn,fun o ho j hj=>hmall j (H.back mi o ho j hj)⟩;rw[hr] at this
    simp at this
   ·obtain⟨hin,hun,hw⟩:=DC.1 hi;have hun':=(DB (by omega)).1 hun
    have hik:i<k:=by
     refine Nat.lt_of_not_le fun h=> ?_
     have hne:i≠k:=fun e=>hun' ((hL i).2 (.inr e))
     have hj0J:j0∈J:=Classical.byContradiction fun hn=>h3 (hall j0 h1 h2 hn)
     exact hn0 (EG hcl hw (hlater i (by omega) hin j0 hj0J))
    have hsi:s≤i:=zC fun h=>hun' ((hL i).2 (.inl ((hL0 i).2 (.inl h))))
    have hiM:i∉M:=fun h=>hun' ((hL i).2 (.inl ((hL0 i).2 (.inr h))))
    have hiJ:i∈J:=Classical.byContradiction fun hn=>hiM (hall i hsi hik hn)
    have hw0:∀o,ops[i]?=O o→∀j∈waits o,Ah l0 j:=by
     intro o ho j hj;have:=H.back i o ho j hj;rcases(hL j).1 (hw o ho j hj) with h|h
     ·exact h
     ·omega
    obtain⟨o,g,ao,ho,hc,hit,hrun⟩:=Uy H F hfr hM hL0 hcl0 hsi hik hiM hw0 m;obtain⟨_,jt,hjt,he⟩:=hJ i hiJ;rw[hit] at hjt
    cases hjt;have hstep:=dC (P:=P) he (b':=σ2.bx) (r':=σ2.rows) (hrun (fun τ=>τ=σ.add (E i)) rfl)
    have:=Nh (Q:=Q) (K:=wpAny P .any ops Q f (listed.setIfInBounds i T)) (K':=fun σ'=>σ'=⟨(σ.add (E i)).env,σ2.bx,σ2.rows⟩) R hnt hc hstep (fun nm' σ' a' w' hσ R' hs' hd'=>by
     subst hσ;obtain⟨_,_,_,_,hgr,_⟩:=(F i hsi hik).parts H;have m':Mt σ0 E (fun j=>j∈M∨j=i) (σ.add (E i)):=m.add (fun j hj=>Fact.ne H (F j (hM j hj).1 (hM j hj).2) (F i hsi hik) fun e=>hiM (e▸hj)) hgr;have hL2:∀q,Ah (listed.setIfInBounds i T) q↔(Ah listed q∨q=i):=fun q=>Fp (by omega) q
     have hL3:∀q,Ah (l0.setIfInBounds i T) q↔(Ah l0 q∨q=i):=fun q=>Fp (by omega) q
     refine ih (i::M) (l0.setIfInBounds i T) _ a' w' nm' _ (zA.2 ⟨hiM,hnd⟩) ?_ (fun l g1 g2 g3=>Z.2 (.inr (hall l g1 g2 g3))) (fun j=> ?_) ?_ (by simpa using hsz) (by simpa using hsz0) (fun j=> ?_) ?_ hsk (by simp; omega)
      (m'.congr (fun j=>by simp[or_comm]) (fun _ _=>rfl)) R' hs' (hd'.trans hdf)
     ·intro x hx;rcases Z.1 hx with rfl|hx
      ·exact⟨hsi,hik⟩
      ·exact hM x hx
     ·rw[hL3,hL0 j];simp only[Z];constructor
      ·rintro((h|h)|h)
       ·exact .inl h
       ·exact .inr (.inr h)
       ·exact .inr (.inl h)
      ·rintro(h|h|h)
       ·exact .inl (.inl h)
       ·exact .inr h
       ·exact .inl (.inr h)
     ·intro x o' ho' hx j hj;rw[hL3] at hx ⊢
      rcases hx with hx|rfl
      ·exact .inl (hcl0 x o' ho' hx j hj)
      ·exact .inl (hw0 o' ho' j hj)
     ·rw[hL2,hL3,hL];constructor
      ·rintro((h|h)|h)
       ·exact .inl (.inl h)
       ·exact .inr h
       ·exact .inl (.inr h)
      ·rintro((h|h)|h)
       ·exact .inl (.inl h)
       ·exact .inr h
       ·exact .inl (.inr h)
     ·intro x o' ho' hx j hj;rw[hL2] at hx ⊢
      rcases hx with hx|rfl
      ·exact .inl (hcl x o' ho' hx j hj)
      ·exact .inl (hw o' ho' j hj))
    unfold wpOp;rw[ho];exact this
theorem ju(H:DrawOk P nt ops its ds){k:V}{it:AItem}{J:U V}{σk:St}(hsk:s≤k)(F:∀i,s≤i→i<k→Fact P ds σ0 E s i)(hfr:Cj (ds.drop s) σ0=T)(mk:Mt σ0 E (fun j=>s≤j∧j<k) σk)
  (hJ:∀j∈J,j<k∧∃jt,its[j]?=O jt∧IE jt it=T) (hx:ds[k]?=O (none,it)) (hcomp:∀l,l<ops.size→l∉J→Bh (B6 ops.toList []) k l=L)
  (hlater:∀l,k<l→l<ops.size→∀j∈J,j∈(B6 ops.toList []).getD l []) {K:St→Prop} (h:AA it.1 σk (AN P it.2 K σk) (match it.2.dst with | some d=>K (σk.set d .no) | none=>False))
  (cont:∀(σ2:St) (f:V) (listed:Array Bool) (a:Act) (w:World) (nm:Ad),K σ2→f+(k+1)=ops.size→listed.size=ops.size→(∀i,Ah listed i↔i<k+1)→Cg ops (Ah listed)→Rel A B w0 nm σ2 a.tmps w→a.tmps.size=nt→a.defers=df→wpAny P .any ops Q f listed a w)
  (f:V) (M:U V) (listed:Array Bool) (a:Act) (w:World) (nm:Ad) (σ:St) (hnl:¬Ah listed k) (hw:∀o,ops[k]?=O o→∀j∈waits o,Ah listed j) (hex:∃j0,s≤j0∧j0<k∧j0∉M) (hnd:M.Nodup)
  (hM:∀x∈M,s≤x∧x<k) (hsz:listed.size=ops.size) (hL:∀j,Ah listed j↔j<s∨j∈M) (hfuel:f+1+s+M.length=ops.size) (hcl:Cg ops (Ah listed)) (m:Mt σ0 E (· ∈M) σ) (R:Rel A B w0 nm σ a.tmps w) (hnt:a.tmps.size=nt) (hdf:a.defers=df) :
  wpOp P ops Q k (wpAny P .any ops Q f (listed.setIfInBounds k T)) a w:=by
 have hkn:k<ops.size:=by
  have:=(I.1 hx).1;have:=H.sizes.2;omega
 have hall:∀l,s≤l→l<k→l∉J→l∈M:=by
  intro l h1 h2 h3;rcases H3 (hcomp l (by omega) h3) (by omega) with h4|h4
  ·rcases(hL l).1 (EG hcl hw h4) with h5|h5
   ·omega
   ·exact h5
  ·have:=FJ H h4;omega
 obtain⟨j0,hj1,hj2,hj3⟩:=hex;have hj0J:j0∈J:=Classical.byContradiction fun hn=>hj3 (hall j0 hj1 hj2 hn)
 obtain⟨x,y,n,rfl⟩:∃x y n,it=(none,AOp.store x y n):=by
  obtain⟨_,jt,_,hp⟩:=hJ j0 hj0J;unfold IE at hp
  simp only[zB] at hp
  obtain⟨_,hp⟩:=hp;split at hp
  ·exact⟨_,_,_,rfl⟩
  ·cases hp
 have hJs:∀j∈J,∀jt,its[j]?=O jt→jt.2.envOnly=T∧∀d,jt.2.dst=O d→d∉x.slots∧d∉y.slots:=by
  intro j hj jt hjt;obtain⟨_,jt',hjt',hp⟩:=hJ j hj;rw[hjt] at hjt'
  cases hjt';unfold IE at hp
  simp only[zB] at hp
  refine⟨hp.1,fun d hd=> ?_⟩;have:=hp.2;simp only[hd,Bool.not_eq_true',List.contains_eq_mem,decide_eq_false_iff_not,List.mem_append,not_or] at this
  exact this
 obtain⟨σ2,hst,hK⟩:∃σ2,σk.storeV n (σk.val x) (σk.val y)=O σ2∧K σ2:=by
  simp only[AA,AN,St.step] at h;split at h
  ·rename_i σ2 h2
   exact⟨σ2,h2,h⟩
  ·exact h.elim
 have light:∀i,s≤i→i<k→i∉M→(E i).bx= []∧(E i).rows= []∧(E i).d∉x.slots∧(E i).d∉y.slots:=by
  intro i h1 h2 h3;have hiJ:i∈J:=Classical.byContradiction fun hn=>h3 (hall i h1 h2 hn)
  obtain⟨jt,hjt,_,hd,_,hmk⟩:=(F i h1 h2).parts H;obtain⟨he,hds⟩:=hJs i hiJ jt hjt
  have hno:jt.2.maker=L:=by
   cases hjo:jt.2<;>first | rfl | (rw[hjo] at he; simp[AOp.envOnly] at he; done)
  have hb:¬((E i).bx≠ []∨(E i).rows≠ []):=fun h=>by rw[hmk h] at hno; cases hno
  refine⟨Classical.byContradiction fun h=>hb (.inl h),Classical.byContradiction fun h=>hb (.inr h),(hds _ hd).1,(hds _ hd).2⟩
 have sτ:Same σ ⟨σ.env,σk.bx,σk.rows⟩:=by
  refine⟨fun q=>rfl,fun id=> ?_,fun id=> ?_⟩
  ·show A1 σk.bx id=A1 σ.bx id
   by_cases h:∃i,i∈M∧(E i).bx≠ []∧(E i).d=id
   ·obtain⟨i,h1,h2,h3⟩:=h;rw[mk.bhit i id (hM i h1) h2 h3,m.bhit i id h1 h2 h3]
   ·rw[mk.bmiss id fun i hi hb e=> ?_,m.bmiss id fun i hi hb e=>h ⟨i,hi,hb,e⟩];by_cases hiM:i∈M
    ·exact h ⟨i,hiM,hb,e⟩
    ·exact hb (light i hi.1 hi.2 hiM).1
  ·show A1 σk.rows id=A1 σ.rows id
   by_cases h:∃i,i∈M∧(E i).rows≠ []∧(E i).d=id / 64
   ·obtain⟨i,h1,h2,h3⟩:=h;rw[mk.rhit i id (hM i h1) h2 h3,m.rhit i id h1 h2 h3]
   ·rw[mk.rmiss id fun i hi hb e=> ?_,m.rmiss id fun i hi hb e=>h ⟨i,hi,hb,e⟩];by_cases hiM:i∈M
    ·exact h ⟨i,hiM,hb,e⟩
    ·exact hb (light i hi.1 hi.2 hiM).2.1
 have gq:∀q,(q∈x.slots∨q∈y.slots)→σ.get q=σk.get q:=by
  intro q hq;by_cases h:∃i,i∈M∧(E i).d=q
  ·obtain⟨i,h1,rfl⟩:=h;rw[m.hit i h1,mk.hit i (hM i h1)]
  ·rw[m.miss q fun i hi e=>h ⟨i,hi,e⟩,mk.miss q fun i hi e=> ?_];by_cases hiM:i∈M
   ·exact h ⟨i,hiM,e⟩
   ·have:=(light i hi.1 hi.2 hiM).2.2;rw[e] at this
    rcases hq with hq|hq
    ·exact this.1 hq
    ·exact this.2 hq
 have Rτ:=R.same sτ;have vx:(St.mk σ.env σk.bx σk.rows).val x=σk.val x:=VA fun q hq=>gq q (.inl hq)
 have vy:(St.mk σ.env σk.bx σk.rows).val y=σk.val y:=VA fun q hq=>gq q (.inr hq)
 have hst':(St.mk σ.env σk.bx σk.rows).storeV n ((St.mk σ.env σk.bx σk.rows).val x) ((St.mk σ.env σk.bx σk.rows).val y)=O ⟨σ.env,σ2.bx,σ2.rows⟩:=by
  rw[vx,vy];exact(V8 hst σ.env).1
 have henv:=(V8 hst []).2;obtain⟨opk,hopk,hitk,hck,_⟩:=H.at hx;have hL2:∀q,Ah (listed.setIfInBounds k T) q↔(Ah listed q∨q=k):=fun q=>Fp (by omega) q
 have:=Nh (Q:=Q) (K:=wpAny P .any ops Q f (listed.setIfInBounds k T)) (K':=fun σ'=>σ'=⟨σ.env,σ2.bx,σ2.rows⟩) Rτ hnt hck (by
  simp only[AA,AN,St.step,hst']) (fun nm' σ' a' w' hσ R' hs' hd'=>by
  subst hσ;refine jv H hkn F hfr mk (fun j hj=>⟨(hJ j hj).1,by obtain⟨_,jt,hjt,_⟩:=hJ j hj; exact⟨jt,hjt,(hJs j hj jt hjt).1⟩⟩) hlater henv (fun f' l' a2 w2 nm2=>cont σ2 f' l' a2 w2 nm2 hK) f M listed _ a' w' nm' σ hnd hM hall hL hcl (by simpa using hsz) hsz hL2 ?_ hsk (by omega) m R' hs' (hd'.trans hdf);intro q o' ho' hq z hz;rw[hL2] at hq ⊢
  rcases hq with hq|rfl
  ·exact .inl (hcl q o' ho' hq z hz)
  ·exact .inl (hw o' ho' z hz))
 unfold wpOp;rw[hopk];exact this
theorem OD(H:DrawOk P nt ops its ds){K':St→Prop}(hQ:∀nm' σ' a' w',K' σ'→Rel A B w0 nm' σ' a'.tmps w'→a'.tmps.size=nt→a'.defers=df→Q .normal a' w') :
  ∀(r:U AO) (k s:V) (σ0:St) (E:V→Eff) (σk:St),ds.drop k=r→k≤ops.size→s≤k→Mt σ0 E (fun j=>s≤j∧j<k) σk→(∀i,s≤i→i<k→Fact P ds σ0 E s i)→Cj (ds.drop s) σ0=T→BR P r K' σk→
   ∀(fuel:V) (M:U V) (listed:Array Bool) (a:Act) (w:World) (nm:Ad) (σ:St),M.Nodup→(∀x∈M,s≤x∧x<k)→listed.size=ops.size→(∀j,Ah listed j↔j<s∨j∈M)→fuel+s+M.length=ops.size→Cg ops (Ah listed)→
    Mt σ0 E (· ∈M) σ→Rel A B w0 nm σ a.tmps w→a.tmps.size=nt→a.defers=df→wpAny P .any ops Q fuel listed a w
 | [],k,s,σ0,E,σk,hr,hkn,hsk,mk,F,hfr,h=>by
  have hlen:=H.sizes.2
  have hk:k=ops.size:=by
   have:=congrArg List.length hr;simp at this
   omega
  refine OB H hkn F hfr hsk mk (fun _=>False) (fun i h1 h2=>by omega) (fun _ _ _ _ _ _ _ _ h=>h.elim) (fun fuel listed a w nm h1 h2 h3 h4 R hnt hdf=> ?_)
  have hready:Region.ready .any ops listed= []:=by
   refine List.eq_nil_iff_forall_not_mem.2 fun i hi=> ?_
   obtain⟨h5,h6,_⟩:=DC.1 hi;exact(DB (by omega)).1 h6 ((h3 i).2 (by omega))
  obtain rfl:fuel=0:=by omega
  exact⟨hready,hQ nm σk a w h R hnt hdf⟩
 | (O N,g,o)::r,k,s,σ0,E,σk,hr,hkn,hsk,mk,F,hfr,h=>by
  have hlen:=H.sizes.2
  have hx:ds[k]?=O (O N,g,o):=by
   have:(ds.drop k)[0]?=O (O N,g,o):=by rw[hr]; rfl
   simpa using this
  have hk:k<ops.size:=by have:=(I.1 hx).1; omega
  have hr':ds.drop (k+1)=r:=by rw[← List.drop_drop,hr]; rfl
  obtain⟨e,hev,hK⟩:=di h;let E':V→Eff:=fun i=>if i=k then e else E i
  have eE:∀i,i≠k→E' i=E i:=fun i hi=>by simp[E',hi]
  have ek:E' k=e:=by simp[E']
  have mk':Mt σ0 E' (fun j=>s≤j∧j<k) σk:=mk.congr (fun _=>Iff.rfl) fun i hi=>eE i (by have:=hi.2; omega)
  have Fk:Fact P ds σ0 E' s k:=⟨N,(g,o),σk,hx,mk',by rw[ek]; exact hev⟩
  have F':∀i,s≤i→i<k+1→Fact P ds σ0 E' s i:=by
   intro i h1 h2;by_cases hik:i=k
   ·subst hik; exact Fk
   ·obtain⟨N',it',σi,hx',m',ev'⟩:=F i h1 (by omega);exact⟨N',it',σi,hx',m'.congr (fun _=>Iff.rfl) fun j hj=>eE j (by have:=hj.2; omega),by rw[eE i hik]; exact ev'⟩
  have m2:Mt σ0 E' (fun j=>s≤j∧j<k+1) (σk.add e):=by
   have:=mk'.add (i:=k) (fun j hj=>Fact.ne H (F' j hj.1 (by have:=hj.2; omega)) Fk (by have:=hj.2; omega)) (by rw[ek]; exact hev.grouped);rw[ek] at this
   refine this.congr (fun j=> ?_) (fun _ _=>rfl);constructor
   ·rintro(h|h)
    ·exact⟨h.1,by have:=h.2; omega⟩
    ·exact⟨by omega,by omega⟩
   ·rintro⟨h1,h2⟩
    by_cases hjk:j=k
    ·exact .inr hjk
    ·exact .inl ⟨h1,by omega⟩
  intro fuel M listed a w nm σ hnd hM hsz hL hfuel hcl m R hnt hdf
  exact OD H hQ r (k+1) s σ0 E' (σk.add e) hr' (by omega) (by omega) m2 F' hfr hK fuel M listed a w nm σ hnd (fun x hx=>⟨(hM x hx).1,by have:=(hM x hx).2; omega⟩) hsz hL hfuel hcl
   (m.congr (fun _=>Iff.rfl) fun i hi=>eE i (by have:=(hM i hi).2; omega)) R hnt hdf
 | (none,g,o)::r,k,s,σ0,E,σk,hr,hkn,hsk,mk,F,hfr,h=>by
  have hlen:=H.sizes.2
  have hx:ds[k]?=O (none,g,o):=by
   have:(ds.drop k)[0]?=O (none,g,o):=by rw[hr]; rfl
   simpa using this
  have hk:k<ops.size:=by have:=(I.1 hx).1; omega
  have hr':ds.drop (k+1)=r:=by rw[← List.drop_drop,hr]; rfl
  obtain⟨op,hop,hit,hc,_⟩:=H.at hx
  have cont:∀(σ2:St) (f:V) (listed:Array Bool) (a:Act) (w:World) (nm:Ad),(Cj r σ2=T∧BR P r K' σ2)→f+(k+1)=ops.size→listed.size=ops.size→(∀i,Ah listed i↔i<k+1)→Cg ops (Ah listed)→Rel A B w0 nm σ2 a.tmps w→a.tmps.size=nt→a.defers=df→wpAny P .any ops Q f listed a w:=by
   intro σ2 f listed a w nm hσ h1 h2 h3 h4 R hnt hdf
   exact OD H hQ r (k+1) (k+1) σ2 E σ2 hr' (by omega) (Nat.le_refl _) (Mt.none fun j hj=>by have:=hj.1; have:=hj.2; omega) (fun j h5 h6=>by omega) (by rw[hr']; exact hσ.1) hσ.2 f [] listed a w nm σ2 List.nodup_nil (fun x hx=>by simp at hx) h2
    (fun j=>by rw[h3 j]; simp) (by simp; omega) h4 (Mt.none fun j hj=>by simp at hj) R hnt hdf
  have fin:(∀l,k≤l→l<ops.size→Bh (B6 ops.toList []) k l=L)→∀(fuel:V) (listed:Array Bool) (a:Act) (w:World) (nm:Ad),fuel+k=ops.size→listed.size=ops.size→(∀i,Ah listed i↔i<k)→Cg ops (Ah listed)→Rel A B w0 nm σk a.tmps w→a.tmps.size=nt→a.defers=df→wpAny P .any ops Q fuel listed a w:=by
   intro hbar fuel listed a w nm h1 h2 h3 h4 R hnt hdf;obtain⟨f,rfl⟩:∃f,fuel=f+1:=⟨fuel - 1,by omega⟩;have hunk:¬Ah listed k:=fun h=>by have:=(h3 k).1 h; omega
   refine⟨fun hrd=> ?_,fun i hi=> ?_⟩
   ·exfalso
    have:k∈Region.ready .any ops listed:=DC.2 ⟨hk,(DB (by omega)).2 hunk,fun o' ho' j hj=>(h3 j).2 (H.back k o' ho' j hj)⟩;rw[hrd] at this
    simp at this
   ·obtain⟨hin,hun,hw⟩:=DC.1 hi;have hun':=(DB (by omega)).1 hun
    have hik:i=k:=by
     have hki:k≤i:=zC fun h=>hun' ((h3 i).2 h)
     refine Classical.byContradiction fun hne=> ?_
     rcases H3 (hbar i hki hin) (by omega) with h|h
     ·have:=FJ H h; omega
     ·exact hunk (EG h4 hw h)
    subst hik
    have:=Nh (Q:=Q) (K:=wpAny P .any ops Q f (listed.setIfInBounds i T)) (K':=fun σ'=>Cj r σ'=T∧BR P r K' σ') R hnt hc h (fun nm' σ' a' w' hσ R' hs' hd'=>by
     refine cont σ' f _ a' w' nm' hσ (by omega) (by simpa using h2) (fun j=> ?_) ?_ R' hs' (hd'.trans hdf)
     ·rw[Fp (by omega),h3 j];omega
     ·intro x o' ho' hx j hj;rw[Fp (by omega)] at hx ⊢
      rcases hx with hx|rfl
      ·exact .inl (h4 x o' ho' hx j hj)
      ·exact .inl (hw o' ho' j hj))
    unfold wpOp;rw[hop];exact this
  have plain:(∀l,s≤l→l<ops.size→Bh (B6 ops.toList []) k l=L)→_:=fun hbar=>OB H hkn F hfr hsk mk (fun _=>False) (fun i h1 h2 listed hcl hw j h3 h4 hlt=>by
   left
   by_cases hik:i=k
   ·subst hik;rcases H3 (hbar j h3 (by omega)) (by omega) with h|h
    ·exact EG hcl hw h
    ·have:=FJ H h; omega
   ·rcases H3 (hbar i (by omega) h2) (by omega) with h|h
    ·have:=FJ H h; omega
    ·have hLk:=EG hcl hw h;have:=hlt k hLk;omega) (fun _ _ _ _ _ _ _ _ h=>h.elim) (fin fun l h1 h2=>hbar l (by omega) h2)
  obtain⟨J,hJ,hcomp,hlater⟩:=H.bar hx;by_cases hJs:∀j∈J,j<s
  ·exact plain fun l h1 hl=>hcomp l hl fun h=>by have:=hJs l h; omega
  ·refine OB H hkn F hfr hsk mk (fun i=>i=k) (fun i h1 h2 listed hcl hw l h3 h4 hlt=> ?_) (fun i f M listed a w nm σ hX=> ?_) (fin fun l h1 h2=>hcomp l h2 fun h=>by have:=(hJ l h).1; omega)
   ·by_cases hik:i=k
    ·exact .inr hik
    ·left
     rcases H3 (hcomp i h2 fun h=>by have:=(hJ i h).1; omega) (by omega) with h|h
     ·have:=FJ H h; omega
     ·have hLk:=EG hcl hw h;have:=hlt k hLk;omega
   ·subst hX;exact ju H hsk F hfr mk hJ hx hcomp hlater h cont f M listed a w nm σ
theorem bf(hm:P.follows .mixedOrders=T){id:V}{K':St→Prop}{nm:Ad}{σ:St}{a:Act}{w:World}(R:Rel A B w0 nm σ a.tmps w)(hnt:a.tmps.size=nt)(hc:Jk P nt ops=O ds)(h0:Cj ds σ=T)(h:BR P ds K' σ)
  (hQ:∀nm' σ' a' w',K' σ'→Rel A B w0 nm' σ' a'.tmps w'→a'.tmps.size=nt→a'.defers=a.defers→Q .normal a' w'):(Code.region id ops T).wp P Q a w:=by
 obtain⟨its,H⟩:=be hc
 have hno:∀j,¬Ah (Array.replicate ops.size L) j:=by
  intro j;unfold Ah;rw[Array.getD_eq_getD_getElem?,Array.getElem?_replicate];split<;>simp
 refine wp_region_any hm ?_
 refine OD (df:=a.defers) H hQ ds 0 0 σ (fun _=>⟨0,.undef,[],[]⟩) σ (by simp) (Nat.zero_le _) (Nat.le_refl _) (Mt.none fun j hj=>by have:=hj.2; omega) (fun i h1 h2=>by omega) (by simpa using h0) h ops.size [] _ a _ nm σ List.nodup_nil (fun x hx=>by simp at hx) (by simp)
  (fun j=> ?_) (by simp) (fun i o ho hi=>absurd hi (hno i)) (Mt.none fun j hj=>by simp at hj) (R.drawn _) hnt rfl
 constructor
 ·intro h; exact absurd h (hno j)
 ·rintro(h|h)
  ·omega
  ·simp at h
end
end Go.Vi
