/-
The value level. No condition.
-/
import Derived.Test.YtpigjggbnclpbaaGreatOVi24
namespace Go.Vi
set_option linter.all false
def AB(P:Program)(f:FuncId):Option (Xd × List RV × Nat):=
 match P.funcs[f]? with
 | some fn=>match fn.body,CW P fn.results.toList with
  | some C,some ts=>(B0 P fn.ntmps C).map fun c=>(c,ts,fn.ntmps)
  | _,_=>none
 | none=>none
theorem Wo{P:Program}(hm:P.follows .mixedOrders=true){f:FuncId}{c:Xd}{ts:List RV}{nt:Nat}{ds:List DV}{rs:List R1}(he:AB P f=some (c.strip,ts,nt))(hl:ds.length≤nt)(h:AT P c (Ac ts rs) (St.init ds)):FC P f ds rs:=by
 unfold AB at he
 split at he
 ·rename_i fn hf
  split at he
  ·rename_i C ts' hb hr
   simp only[Option.map_eq_some_iff] at he
   obtain⟨c',hc,e⟩:=he;cases e;exact Wr hm hf hb hc hr hl h
  ·cases he
 ·cases he
theorem WB{P:Program}(hm:P.follows .mixedOrders=true){f:FuncId}{c:Xd}{ts:List RV}{nt:Nat}{xs:List XV}{R0 R1:Ai}{r:D}{ps:List (Nat × Nat)}(he:AB P f=some (c.strip,ts,nt))(hl:xs.length≤nt)(hlen:R1.length=R0.length)(hrf:r.flat=true)(hR1:CM R1)
  (h:AT P c (Ch ts r R1 ps) (St.initX xs R0)):FCx P f xs R0 R1 r:=by
 unfold AB at he
 split at he
 ·rename_i fn hf
  split at he
  ·rename_i C ts' hb hr
   simp only[Option.map_eq_some_iff] at he
   obtain⟨c',hc,e⟩:=he;cases e;exact WC hm hf hb hc hr hl hlen hrf hR1 h
  ·cases he
 ·cases he
section
variable {P : Program} {Q : Xg → St → Prop} {σ : St} {K : St → Prop} {r : List AItem}
theorem Oa{g:Option (Nat × Bool)}{y y' n n':Prop}(h1:y→y')(h2:n→n')(h:AA g σ y n):AA g σ y' n':=by
 rcases Oc h with ⟨hw,h⟩|⟨t,want,rfl,hd,h⟩
 ·exact Hy hw (h1 h)
 ·exact Ob hd (h2 h)
theorem Of{o:AOp}{K K':St→Prop}(hk:∀σ,K σ→K' σ)(h:AN P o K σ):AN P o K' σ:=by
 have plain:(match σ.step o with | some σ'=>K σ' | none=>False)→(match σ.step o with | some σ'=>K' σ' | none=>False):=by
  intro h;split at h
  ·exact hk _ h
  ·exact h.elim
 cases o<;>first
  | exact plain h
  | skip
 case call=>
  rcases h with ⟨ds,rs,h1,h2,h3,h4,h5⟩|⟨ids,xs,R0,R1,r,h1,h2,h3⟩|⟨S,h1,h2⟩
  ·exact .inl ⟨ds,rs,h1,h2,h3,h4,hk _ h5⟩
  ·exact .inr (.inl ⟨ids,xs,R0,R1,r,h1,h2,hk _ h3⟩)
  ·exact .inr (.inr ⟨S,h1,fun σ' r hs=>hk _ (h2 σ' r hs)⟩)
 case callv=>
  rcases h with ⟨f,caps,ds,rs,h1,h0,h2,h3,h4,h5⟩|⟨f,ids,σ',r,h1,h0,h2,h3⟩
  ·exact .inl ⟨f,caps,ds,rs,h1,h0,h2,h3,h4,hk _ h5⟩
  ·exact .inr ⟨f,ids,σ',r,h1,h0,h2,hk _ h3⟩
theorem YJ{N:List Nat}{o:AOp}{K K':St→Prop}(hk:∀σ,K σ→K' σ)(h:ED P N o K σ):ED P N o K' σ:=by
 have plain:(match (σ.less N).pure o with
   | some (d,v)=>v.avoids N=true∧K (σ.set d v)
   | none=>match (σ.less N).made o with
    | some m=>(match m with | .box _ cs=>cs.all (·.avoids N) | _=>true)=true∧(match σ.make m with
     | some σ'=>K σ'
     | none=>False)
    | none=>False)→(match (σ.less N).pure o with
   | some (d,v)=>v.avoids N=true∧K' (σ.set d v)
   | none=>match (σ.less N).made o with
    | some m=>(match m with | .box _ cs=>cs.all (·.avoids N) | _=>true)=true∧(match σ.make m with
     | some σ'=>K' σ'
     | none=>False)
    | none=>False):=by
  intro h;split at h
  ·exact⟨h.1,hk _ h.2⟩
  ·split at h
   ·refine⟨h.1,?_⟩;have h2:=h.2;split at h2
    ·exact hk _ h2
    ·exact h2.elim
   ·exact h.elim
 cases o<;>first
  | exact plain h
  | skip
 case call=>
  obtain⟨ds,rs,h1,h2,h3,h4,h5⟩:=h;exact⟨ds,rs,h1,h2,h3,h4,hk _ h5⟩
 case callv=>
  obtain⟨f,caps,ds,rs,h1,h0,h2,h3,h4,h5⟩:=h;exact⟨f,caps,ds,rs,h1,h0,h2,h3,h4,hk _ h5⟩
theorem Ja{K K':St→Prop}(hk:∀σ,K σ→K' σ):∀{its:List AItem} {σ:St},B8 P its K σ→B8 P its K' σ
 | [],_,h=>hk _ h
 | (g,o)::r,σ,h=>by
  refine Oa (Of fun σ h=>Ja hk h) (fun h=> ?_) h;split at h
  ·exact Ja hk h
  ·exact h
theorem J8{K K':St→Prop}(hk:∀σ,K σ→K' σ):∀{its:List AO} {σ:St},BR P its K σ→BR P its K' σ
 | [],_,h=>hk _ h
 | (none,g,o)::r,σ,h=>by
  refine Oa (Of fun σ h=>⟨h.1,J8 hk h.2⟩) (fun h=> ?_) h;split at h
  ·exact⟨h.1,J8 hk h.2⟩
  ·exact h
 | (some N,g,o)::r,σ,h=>by
  refine Oa (YJ fun σ h=>J8 hk h) (fun h=> ?_) h;split at h
  ·exact J8 hk h
  ·exact h
theorem R6:∀(c:Xd) {Q Q':Xg→St→Prop} {σ:St},(∀e σ,Q e σ→Q' e σ)→AT P c Q σ→AT P c Q' σ:=by
 intro c
 induction c with
 | skip=>exact fun hq h=>hq _ _ h
 | reg its=>exact fun hq h=>Ja (fun σ=>hq _ σ) h
 | drw its=>exact fun hq h=>⟨h.1,J8 (fun σ=>hq _ σ) h.2⟩
 | any its=>exact fun hq ⟨ks,bs,rs,τ,h1,h2⟩=>⟨ks,bs,rs,τ,h1,hq _ _ h2⟩
 | hook nt C=>exact fun hq ⟨τ,h1,h2⟩=>⟨τ,h1,hq _ _ h2⟩
 | seq x y ihx ihy=>
  intro Q Q' σ hq h;refine ihx (fun e σ' h=> ?_) h;cases e with
  | normal=>exact ihy hq h
  | exit id=>exact hq _ _ h
  | ret=>exact hq _ _ h
  | pan d=>exact hq _ _ h
 | cond c x y ihx ihy=>
  intro Q Q' σ hq h;simp only[AT] at h ⊢
  split
  ·rename_i b hb
   rw[hb] at h;simp only at h;split
   ·rename_i e; rw[if_pos e] at h; exact ihx hq h
   ·rename_i e; rw[if_neg e] at h; exact ihy hq h
  ·rename_i hne
   split at h
   ·rename_i b hb; exact(hne b hb).elim
   ·exact h
 | block id c ih=>
  intro Q Q' σ hq h;refine ih (fun e σ' h=> ?_) h;cases e with
  | normal=>exact hq _ _ h
  | ret=>exact hq _ _ h
  | pan d=>exact hq _ _ h
  | exit i=>
   change (if i=id then Q .normal σ' else Q (.exit i) σ') at h
   change (if i=id then Q' .normal σ' else Q' (.exit i) σ')
   split
   ·rename_i e; rw[if_pos e] at h; exact hq _ _ h
   ·rename_i e; rw[if_neg e] at h; exact hq _ _ h
 | loop c ih=>
  intro Q Q' σ hq h;intro X hX;refine h X fun σ' h'=>hX σ' (ih (fun e σ'' h=> ?_) h')
  cases e with
  | normal=>exact h
  | exit id=>exact hq _ _ h
  | ret=>exact hq _ _ h
  | pan d=>exact hq _ _ h
 | pan its x=>exact fun hq h=>Ja (fun σ ⟨d,h1,h2,h3,h4⟩=>⟨d,h1,h2,h3,hq _ _ h4⟩) h
 | cal its d f args=>exact fun hq h=>Ja (fun σ h=>h.imp (fun h=>Of (fun σ=>hq _ σ) h) fun⟨ds,pd,h1,h2,h3⟩=>⟨ds,pd,h1,h2,hq _ _ h3⟩) h
 | exit id=>exact fun hq h=>hq _ _ h
 | ret=>exact fun hq h=>hq _ _ h
end
end Go.Vi
