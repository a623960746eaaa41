/-
The value level. No condition.
-/
import Derived.Test.YtfmhammmkkbonaaGreatDoorCVi24
namespace Go.Vi
set_option linter.all false
def AG(P:Program)(f:FuncId):Option (Xg × List RV × Nat):=
 match P.funcs[f]? with
 | some fn=>match fn.body,DD P fn.results.toList with
  | some C,some ts=>(B7 P fn.ntmps C).map fun c=>(c,ts,fn.ntmps)
  | _,_=>none
 | none=>none
theorem ZT{P:Program}(hm:P.follows .mixedOrders=true){f:FuncId}{c:Xg}{ts:List RV}{nt:Nat}{ds:List DV}{rs:List R1}(he:AG P f=some (c.strip,ts,nt))(hl:ds.length≤nt)(h:B4 P c (A6 ts rs) (St.init ds)):FC P f ds rs:=by
 unfold AG at he
 split at he
 ·rename_i fn hf
  split at he
  ·rename_i C ts' hb hr
   simp only[Option.map_eq_some_iff] at he
   obtain⟨c',hc,e⟩:=he;cases e;exact ZW hm hf hb hc hr hl h
  ·cases he
 ·cases he
section
variable {P : Program} {Q : Xn → St → Prop} {σ : St} {K : St → Prop} {r : List AItem}
theorem Q4{g:Option (Nat × Bool)}{y y' n n':Prop}(h1:y→y')(h2:n→n')(h:AB g σ y n):AB g σ y' n':=by
 rcases Q6 h with ⟨hw,h⟩|⟨t,want,rfl,hd,h⟩
 ·exact IP hw (h1 h)
 ·exact Q5 hd (h2 h)
theorem Q9{o:AOp}{K K':St→Prop}(hk:∀σ,K σ→K' σ)(h:AO P o K σ):AO P o K' σ:=by
 have plain:(match σ.step o with | some σ'=>K σ' | none=>False)→(match σ.step o with | some σ'=>K' σ' | none=>False):=by
  intro h;split at h
  ·exact hk _ h
  ·exact h.elim
 cases o<;>first
  | exact plain h
  | skip
 case call=>
  rcases h with ⟨ds,rs,h1,h2,h3,h4,h5⟩|⟨ids,xs,R0,R1,r,h1,h2,h3⟩|⟨σ',r,h1,h2⟩
  ·exact .inl ⟨ds,rs,h1,h2,h3,h4,hk _ h5⟩
  ·exact .inr (.inl ⟨ids,xs,R0,R1,r,h1,h2,hk _ h3⟩)
  ·exact .inr (.inr ⟨σ',r,h1,hk _ h2⟩)
 case callv=>
  rcases h with ⟨f,caps,ds,rs,h1,h0,h2,h3,h4,h5⟩|⟨f,ids,σ',r,h1,h0,h2,h3⟩
  ·exact .inl ⟨f,caps,ds,rs,h1,h0,h2,h3,h4,hk _ h5⟩
  ·exact .inr ⟨f,ids,σ',r,h1,h0,h2,hk _ h3⟩
theorem dJ{N:List Nat}{o:AOp}{K K':St→Prop}(hk:∀σ,K σ→K' σ)(h:FY P N o K σ):FY P N o K' σ:=by
 have plain:(match (σ.less N).pure o with
   | some (d,v)=>v.avoids N=true∧K (σ.set d v)
   | none=>match (σ.less N).made o with
    | some m=>(match m with | .box _ cs=>cs.all (·.avoids N) | _=>true)=true∧(match σ.make m with
     | some σ'=>K σ'
     | none=>False)
    | none=>False)→(match (σ.less N).pure o with
   | some (d,v)=>v.avoids N=true∧K' (σ.set d v)
   | none=>match (σ.less N).made o with
    | some m=>(match m with | .box _ cs=>cs.all (·.avoids N) | _=>true)=true∧(match σ.make m with
     | some σ'=>K' σ'
     | none=>False)
    | none=>False):=by
  intro h;split at h
  ·exact⟨h.1,hk _ h.2⟩
  ·split at h
   ·refine⟨h.1,?_⟩;have h2:=h.2;split at h2
    ·exact hk _ h2
    ·exact h2.elim
   ·exact h.elim
 cases o<;>first
  | exact plain h
  | skip
 case call=>
  obtain⟨ds,rs,h1,h2,h3,h4,h5⟩:=h;exact⟨ds,rs,h1,h2,h3,h4,hk _ h5⟩
 case callv=>
  obtain⟨f,caps,ds,rs,h1,h0,h2,h3,h4,h5⟩:=h;exact⟨f,caps,ds,rs,h1,h0,h2,h3,h4,hk _ h5⟩
theorem KF{K K':St→Prop}(hk:∀σ,K σ→K' σ):∀{its:List AItem} {σ:St},B6 P its K σ→B6 P its K' σ
 | [],_,h=>hk _ h
 | (g,o)::r,σ,h=>by
  refine Q4 (Q9 fun σ h=>KF hk h) (fun h=> ?_) h;split at h
  ·exact KF hk h
  ·exact h
theorem KA{K K':St→Prop}(hk:∀σ,K σ→K' σ):∀{its:List AT} {σ:St},Cb P its K σ→Cb P its K' σ
 | [],_,h=>hk _ h
 | (none,g,o)::r,σ,h=>by
  refine Q4 (Q9 fun σ h=>⟨h.1,KA hk h.2⟩) (fun h=> ?_) h;split at h
  ·exact⟨h.1,KA hk h.2⟩
  ·exact h
 | (some N,g,o)::r,σ,h=>by
  refine Q4 (dJ fun σ h=>KA hk h) (fun h=> ?_) h;split at h
  ·exact KA hk h
  ·exact h
theorem Tz:∀(c:Xg) {Q Q':Xn→St→Prop} {σ:St},(∀e σ,Q e σ→Q' e σ)→B4 P c Q σ→B4 P c Q' σ:=by
 intro c
 induction c with
 | skip=>exact fun hq h=>hq _ _ h
 | reg its=>exact fun hq h=>KF (fun σ=>hq _ σ) h
 | drw its=>exact fun hq h=>⟨h.1,KA (fun σ=>hq _ σ) h.2⟩
 | any its=>exact fun hq ⟨ks,bs,rs,τ,h1,h2⟩=>⟨ks,bs,rs,τ,h1,hq _ _ h2⟩
 | hook nt C=>exact fun hq ⟨τ,h1,h2⟩=>⟨τ,h1,hq _ _ h2⟩
 | seq x y ihx ihy=>
  intro Q Q' σ hq h;refine ihx (fun e σ' h=> ?_) h;cases e with
  | normal=>exact ihy hq h
  | exit id=>exact hq _ _ h
  | ret=>exact hq _ _ h
  | pan d=>exact hq _ _ h
 | cond c x y ihx ihy=>
  intro Q Q' σ hq h;simp only[B4] at h ⊢
  split
  ·rename_i b hb
   rw[hb] at h;simp only at h;split
   ·rename_i e; rw[if_pos e] at h; exact ihx hq h
   ·rename_i e; rw[if_neg e] at h; exact ihy hq h
  ·rename_i hne
   split at h
   ·rename_i b hb; exact(hne b hb).elim
   ·exact h
 | block id c ih=>
  intro Q Q' σ hq h;refine ih (fun e σ' h=> ?_) h;cases e with
  | normal=>exact hq _ _ h
  | ret=>exact hq _ _ h
  | pan d=>exact hq _ _ h
  | exit i=>
   change (if i=id then Q .normal σ' else Q (.exit i) σ') at h
   change (if i=id then Q' .normal σ' else Q' (.exit i) σ')
   split
   ·rename_i e; rw[if_pos e] at h; exact hq _ _ h
   ·rename_i e; rw[if_neg e] at h; exact hq _ _ h
 | loop c ih=>
  intro Q Q' σ hq h;intro X hX;refine h X fun σ' h'=>hX σ' (ih (fun e σ'' h=> ?_) h')
  cases e with
  | normal=>exact h
  | exit id=>exact hq _ _ h
  | ret=>exact hq _ _ h
  | pan d=>exact hq _ _ h
 | pan its x=>exact fun hq h=>KF (fun σ ⟨d,h1,h2,h3,h4⟩=>⟨d,h1,h2,h3,hq _ _ h4⟩) h
 | cal its d f args=>exact fun hq h=>KF (fun σ h=>h.imp (fun h=>Q9 (fun σ=>hq _ σ) h) fun⟨ds,pd,h1,h2,h3⟩=>⟨ds,pd,h1,h2,hq _ _ h3⟩) h
 | exit id=>exact fun hq h=>hq _ _ h
 | ret=>exact fun hq h=>hq _ _ h
end
end Go.Vi
