/-
The value level. No condition.
-/
import Derived.Test.YtpigjggbnclpbaaGreatOVi9
import Derived.Great.BuildSlice
import Derived.Laws.MakeOwn
namespace Go.Vi
set_option linter.all false
open List renaming drop_append_of_le_length → E, append_assoc → G, length_cons → O
open Option.some renaming injEq → L
open Nat renaming add_mul → N
open Option renaming some → T
open _root_ renaming List → F
section
variable {P : Program} {A : Ar} {B : Nat} {w0 : Base} {w : World} {nm : Ad} {σ : St} {a : Act}
theorem Qf(w:World)(o:Obj):RowKit.Below w.heap.size w (w.alloc o):=(RowKit.Below.refl _ _).alloc (Nat.le_refl _) o
theorem Rel.newBox(R:Rel A B w0 nm σ a.tmps w){d:Nat}{cs:F AC}{C:Array Value}{t:TypeId}(hd:d<a.tmps.size)(hf:σ.fresh d=true)(hC:CRels (cx A nm σ w) cs C.toList)(hu:∀c∈cs,c.uses d=false) :
  ∃nm',Rel A B w0 nm' {(σ.set d (.v (.sc (.pb d 0)))) with bx:=Vi.put σ.bx d cs} (a.put (T d) (.pointer (T ⟨w.heap.size,0,none⟩))).tmps (w.alloc (.cells C t)):=by
 let inst:Ad:=fun n=>if n=2*d then T w.heap.size else none
 have hi:∀n b,BF d n→inst n=T b→w.heap.size≤b∧b<(w.alloc (.cells C t)).heap.size:=by
  intro n b _ hb;simp only[inst] at hb
  split at hb
  ·cases hb; exact⟨Nat.le_refl _,by simp⟩
  ·cases hb
 have hinj:∀n m b,BF d n→BF d m→inst n=T b→inst m=T b→n=m:=by
  intro n m b _ _ h1 h2;simp only[inst] at h1 h2
  split at h1<;>split at h2<;>simp_all
 have R1:=R.grow hf (Qf w _) inst σ.rows hi hinj (fun _ _=>rfl)
 have hnm:AF d inst nm (2*d)=T w.heap.size:=by
  unfold AF;rw[if_pos (.inl rfl)];simp[inst]
 have hbox:BoxRel (cx A (AF d inst nm) {σ with rows:=σ.rows} (w.alloc (.cells C t))) d cs:=by
  refine⟨w.heap.size,C,t,hnm,heap_alloc_new _ _,?_⟩;exact hC.to fun c v hc hr=>R.growCell (Qf w _) inst σ.rows hi (fun _ _=>rfl) (hu c hc) hr rfl
 have R2:=R1.bput hbox;have R3:=R2.put (d:=d) (av:= .v (.sc (.pb d 0))) (v:= .pointer (T ⟨w.heap.size,0,none⟩)) hd (Be (.pb hnm));exact⟨_,R3⟩
theorem eF{rows:Rows}{g:Nat}{x:Nat × F (F D)}(id:Nat)(h:id / 64≠g):A1 (Vi.put rows (g*64) x) id=A1 rows id:=
 Bb _ _ (by omega)
theorem Rel.newRow(R:Rel A B w0 nm σ a.tmps w){d sz len cap:Nat}{es:F (F D)}{C:Array Value}{t:TypeId}(hd:d<a.tmps.size)(hf:σ.fresh d=true)(hpos:0<sz)(hC:C.size=cap*sz)(hcap:cap≤maxLen)
  (hlen:len=es.length) (hle:es.length≤cap) (hrows:RepRows (Ab A nm w) sz es C.toList) :
  ∃nm',Rel A B w0 nm' {(σ.set d (.v (.sc (.own (d*64))))) with rows:=Vi.put σ.rows (d*64) (sz,es)} (a.put (T d) (.slice (T ⟨w.heap.size,0,none⟩) len cap)).tmps (w.alloc (.cells C t)):=by
 let inst:Ad:=fun n=>if n=2*(d*64)+1 then T w.heap.size else none
 have hi:∀n b,BF d n→inst n=T b→w.heap.size≤b∧b<(w.alloc (.cells C t)).heap.size:=by
  intro n b _ hb;simp only[inst] at hb
  split at hb
  ·cases hb; exact⟨Nat.le_refl _,by simp⟩
  ·cases hb
 have hinj:∀n m b,BF d n→BF d m→inst n=T b→inst m=T b→n=m:=by
  intro n m b _ _ h1 h2;simp only[inst] at h1 h2
  split at h1<;>split at h2<;>simp_all
 have R1:=R.grow hf (Qf w _) inst (Vi.put σ.rows (d*64) (sz,es)) hi hinj (fun id h=>eF id h)
 have hnm:AF d inst nm (2*(d*64)+1)=T w.heap.size:=by
  unfold AF;rw[if_pos (.inr (by omega))];simp[inst]
 have hmono:∀b C',Ab A nm w b C'→Ab A (AF d inst nm) (w.alloc (.cells C t)) b C':=Cf fun b hb2 hn=>⟨fun i=>by
  unfold AF;split
  ·rename_i hg; intro e; have:=hi i b hg e; omega
  ·exact hn i,heap_alloc_old _ _ _ hb2⟩
 have hv:VRel (cx A (AF d inst nm) {σ with rows:=Vi.put σ.rows (d*64) (sz,es)} (w.alloc (.cells C t))) (.v (.sc (.own (d*64)))) (.slice (T ⟨w.heap.size,0,none⟩) len cap):=
  Be (.own (B9 _ _ _) hnm ⟨hpos,hle,hcap,C,t,heap_alloc_new _ _,hC,hrows.mono hmono⟩ hlen)
 exact⟨_,R1.put hd hv⟩
theorem qD{A:AY}{nm:Ad}{w:World}{b:Nat}{C:F Value}(h:Ab A nm w b C):AS w b C:=by
 obtain⟨_,c,t,fr,_,h1,h2⟩:=h;exact⟨c,t,fr,h1,h2⟩
theorem PG{X:Cx}{b sz cap:Nat}{es:F (F D)}(hh:∀b C,X.h b C→AS X.w b C)(H:OwnB X.h X.w b sz cap es) :
  ∃C:F Value,AS X.w b C∧RepRows (AS X.w) sz es C:=by
 obtain⟨_,_,_,C,t,h4,_,h6⟩:=H;exact⟨C.toList,⟨C,t,_,h4,rfl⟩,h6.mono hh⟩
theorem pT{X:Cx}(hh:∀b C,X.h b C→AS X.w b C){c:AC}{v:Value}{d:D}(H:CRel X c v)(hd:toD0 X.rs c=T d):Rep (AS X.w) d v:=by
 cases c with
 | dat d'=>
  simp only[toD0,L] at hd
  subst hd;exact H.inv_dat.mono hh
 | own id=>
  simp only[toD0] at hd
  split at hd
  ·rename_i sz es hf
   cases hd;rcases H.inv_own hf with ⟨rfl,_,a0,rfl⟩|⟨b,cap,_,own,rfl⟩
   ·exact .nil
   ·obtain⟨C,hC,hr⟩:=PG hh own;exact .sl hC own.pos (by simpa using hr) rfl own.room own.small
  ·cases hd
 | osub id lo hi=>
  simp only[toD0] at hd
  split at hd
  ·rename_i sz es hf
   cases hd;rcases H.inv_osub hf with ⟨rfl,rfl,rfl,_,a0,rfl⟩|⟨b,cap,cap',off,_,own,h1,h2,⟨h3,_⟩,h4,h5,rfl⟩
   ·simpa using .nil
   ·obtain⟨C,hC,hr⟩:=PG hh own;by_cases hlt:lo<hi
    ·rw[h3 hlt];have hr2:=(hr.dropRows lo).takeRows (hi - lo);exact .sl hC own.pos hr2 (by simp; omega) h4 h5
    ·rw[show hi - lo=0 by omega];simpa using .nil
  ·cases hd
 | nil=>
  simp only[toD0,L] at hd
  subst hd;cases H;exact .nil
 | _=>simp[toD0] at hd
theorem Hk{X:Cx}(hh:∀b C,X.h b C→AS X.w b C)(ho:∀b C,X.o b C→AS X.w b C){c:AC}{v:Value}{d:D}(H:CRel X c v)(hd:toD1 X.rs c=T d):Rep (AS X.w) d v:=by
 unfold toD1 at hd
 split at hd
 ·cases hd;cases H with | old _ H=>exact H.mono ho
 ·cases hd;cases H with | mix H=>exact H.mono fun b C h=>h.elim (ho b C) (hh b C)
 ·exact pT hh H hd
theorem PU{X:Cx}(hh:∀b C,X.h b C→AS X.w b C)(ho:∀b C,X.o b C→AS X.w b C):∀{cs:F AC} {vs:F Value} {ds:F D},CPre X cs vs→toD0s X.rs cs=T ds→Reps (AS X.w) ds vs∧ds.length=cs.length
 | [],vs,ds,_,hd=>by simp[toD0s] at hd; subst hd; exact⟨.nil,rfl⟩
 | c::cs,_,ds,.cons a b,hd=>by
  simp only[toD0s] at hd
  split at hd
  ·rename_i d ds' h1 h2
   cases hd;obtain⟨h3,h4⟩:=PU hh ho b h2;exact⟨.cons (Hk hh ho a h1) h3,by simp[h4]⟩
  ·cases hd
theorem Vj{X:Cx}{c:AC}{v:Value}{d:D}(H:CRel X c v)(hd:DK c=T d):Rep X.h d v:=by
 cases c with
 | dat d'=>
  simp only[DK,L] at hd
  subst hd;exact H.inv_dat
 | nil=>
  simp only[DK,L] at hd
  subst hd;cases H;exact .nil
 | _=>simp[DK] at hd
theorem IX{X:Cx}:∀{cs:F AC} {vs:F Value} {ds:F D},CRels X cs vs→Cn cs=T ds→Reps X.h ds vs∧ds.length=cs.length
 | [],vs,ds,_,hd=>by simp[Cn] at hd; subst hd; exact⟨.nil,rfl⟩
 | c::cs,_,ds,.cons a b,hd=>by
  simp only[Cn] at hd
  split at hd
  ·rename_i d ds' h1 h2
   cases hd;obtain⟨h3,h4⟩:=IX b h2;exact⟨.cons (Vj a h1) h3,by simp[h4]⟩
  ·cases hd
theorem Reps.append{h:A6}:∀{ds vs ds' vs'},Reps h ds vs→ds.length=vs.length→Reps h ds' vs'→Reps h (ds++ds') (vs++vs')
 | [],vs,_,_,_,hl,H=>by
  obtain rfl:vs= []:=List.length_eq_zero_iff.1 (by simpa using hl.symm);simpa using H
 | _,_,_,_,.cons a b,hl,H=>by simp at hl; exact .cons a (b.append hl H)
theorem Reps.take{h:A6}:∀(n:Nat) {ds vs},Reps h ds vs→Reps h (ds.take n) (vs.take n)
 | 0,_,_,_=>by simpa using .nil
 | n+1,_,_,.nil=>by simpa using .nil
 | n+1,_,_,.cons a b=>by simpa using .cons a (b.take n)
theorem Reps.cut{h:A6}:∀{ds vs n},Reps h ds vs→ds.length≤n→Reps h ds (vs.take n)
 | _,_,_,.nil,_=> .nil
 | _,_,0,.cons _ _,hn=>by simp at hn
 | _,_,n+1,.cons a b,hn=>by simp at hn; simpa using .cons a (b.cut hn)
theorem Reps.more{h:A6}:∀{ds vs} (us:F Value),Reps h ds vs→Reps h ds (vs++us)
 | _,_,_,.nil=> .nil
 | _,_,us,.cons a b=> .cons a (b.more us)
theorem RepRows.len{h:A6}{sz:Nat}:∀{es:F (F D)} {vs:F Value},RepRows h sz es vs→es.length*sz≤vs.length
 | _,_,.nil=>by simp
 | _,_,.cons a b c=>by
  have h1:=c.len;have h2:=b.le;simp only[List.length_drop,O,N,Nat.one_mul] at h1 ⊢
  omega
theorem RepRows.set{h:A6}{sz:Nat}:∀{es:F (F D)} {vs:F Value} {i:Nat} {d:F D} {us:F Value},RepRows h sz es vs→i<es.length→d.length=sz→us.length=sz→Reps h d us→
  RepRows h sz (es.set i d) (vs.take (i*sz)++us++vs.drop (i*sz+sz))
 | _,_,_,_,_,.nil,hi,_,_,_=>by simp at hi
 | _,vs,0,d,us,.cons a b c,_,hd,hu,hr=>by
  simp only[Nat.zero_mul,List.take_zero,List.nil_append,List.set_cons_zero,Nat.zero_add];refine .cons hd (hr.more _) ?_;rw[← hu,List.drop_left,hu];exact c
 | _,vs,i+1,d,us,.cons a b c,hi,hd,hu,hr=>by
  have h2:=c.len;have h3:=b.le;simp only[List.set_cons_succ];have ih:=c.set (i:=i) (by simpa using hi) hd hu hr;have hsz:sz≤vs.length:=by omega
  have e:vs.take ((i+1)*sz)=vs.take sz++(vs.drop sz).take (i*sz):=by
   rw[show(i+1)*sz=sz+i*sz by rw[N]; omega,List.take_add]
  refine .cons a ?_ ?_
  ·rw[e,G,G];exact(b.cut (by omega)).more _
  ·rw[e,G,G];have hl:(vs.take sz).length=sz:=by simp; omega
   rw[E (by omega),List.drop_of_length_le (by omega),List.nil_append];rw[List.drop_drop] at ih
   rw[show(i+1)*sz+sz=sz+(i*sz+sz) by rw[N]; omega];simpa[G] using ih
theorem RepRows.append{h:A6}{sz:Nat}:∀{es es':F (F D)} {vs us:F Value},RepRows h sz es vs→vs.length=es.length*sz→RepRows h sz es' us→RepRows h sz (es++es') (vs++us)
 | [],_,vs,_,_,hl,H=>by
  obtain rfl:vs= []:=List.length_eq_zero_iff.1 (by simpa using hl);simpa using H
 | d::es,es',vs,us,.cons a b c,hl,H=>by
  simp only[O,N,Nat.one_mul] at hl
  refine .cons a (b.more _) ?_;rw[E (by omega)];exact c.append (by simp; omega) H
theorem RepRows.cut{h:A6}{sz:Nat}:∀{es:F (F D)} {vs:F Value} {n:Nat},RepRows h sz es vs→es.length*sz≤n→RepRows h sz es (vs.take n)
 | _,_,_,.nil,_=> .nil
 | _,_,n,.cons a b c,hn=>by
  simp only[O,N,Nat.one_mul] at hn
  refine .cons a (b.cut (by omega)) ?_;rw[List.drop_take];exact c.cut (by omega)
theorem RepRows.more{h:A6}{sz:Nat}:∀{es:F (F D)} {vs:F Value} (us:F Value),RepRows h sz es vs→RepRows h sz es (vs++us)
 | _,_,_,.nil=> .nil
 | _,vs,us,.cons a b c=>by
  have h1:=b.le;refine .cons a (b.more _) ?_;rw[E (by omega)];exact c.more us
theorem RepRows.replicate{h:A6}{sz:Nat}{d:F D}{us:F Value}(hd:d.length=sz)(hu:us.length=sz)(hr:Reps h d us):∀n:Nat,RepRows h sz (List.replicate n d) (List.replicate n us).flatten
 | 0=> .nil
 | n+1=>by
  simp only[List.replicate_succ,List.flatten_cons];refine .cons hd (hr.more _) ?_;rw[← hu,List.drop_left,hu];exact RepRows.replicate hd hu hr n
end
end Go.Vi
