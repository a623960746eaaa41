/-
The closure of FirstGrounding at its two entries. No condition.
-/
import Derived.Test.YtmgfndipofbbaaaGreatAFd
namespace Go.Vi
set_option linter.all false
open Go.Proofs Go.RowKit
set_option maxRecDepth 100000
theorem D1o(w:World):(Instr.typeAssert .nilIface 20 179 true).run Tryz.prog w= .ok (.tuple #[.agg #[.int .i64 0,.int .i64 0],.bool false]) w:=by
 simp[Instr.typeAssert,go_sem]
theorem D08(n m:Int)(w:World):(Instr.typeAssert (.iface 179 (.agg #[.int .i64 n,.int .i64 m])) 20 179 true).run Tryz.prog w= .ok (.tuple #[.agg #[.int .i64 n,.int .i64 m],.bool true]) w:=by
 simp[Instr.typeAssert,go_sem]
theorem C6w:C88 Tryz.prog 112:=by
 intro p q w
 refine callsD_of_wpS Tryz.func112 rfl fun c₀ cs hu=> ?_
 apply wpS_seq
 apply wpS_region
 simp[wpOpsS,go_sem,recoverD,hu,Tryz.ntmps112,Exit.thenS,D1o]
 apply wpS_seq
 apply wpS_region
 simp[wpOpsS,go_sem,Exit.thenS]
 refine wpS_cond (t:=false) (by simp[Act.eval,Array.replicate]) ?_
 simp only[Bool.false_eq_true,if_false]
 refine wpS_of_wp (wp_skip ?_)
 cases c₀
 simp_all[bodyPostS,results,Tryz.results112]
 exact(Below.refl _ _).alloc (Nat.le_refl _) _
theorem C5s:C46 Tryz.prog 112 179:=by
 intro p q n m w x y hp hq fp fq hpq
 refine callsD_of_wpS Tryz.func112 rfl fun c₀ cs hu=> ?_
 unfold B0u at *
 apply wpS_seq
 apply wpS_region
 simp[wpOpsS,go_sem,recoverD,hu,Tryz.ntmps112,Exit.thenS,D08]
 apply wpS_seq
 apply wpS_region
 simp[wpOpsS,go_sem,Exit.thenS]
 refine wpS_cond (t:=true) (by simp[Act.eval,Array.replicate]) ?_
 simp only[if_true]
 apply wpS_of_wp
 obtain⟨u,hu⟩:∃u,w.alloc (Obj.cells #[Value.int IntKind.i64 n,Value.int IntKind.i64 m] 179)=u:=⟨_,rfl⟩
 have hb:Below w.heap.size w u:=hu▸(Below.refl _ _).alloc (Nat.le_refl _) _
 have hpl:p.block<w.heap.size:=by
  refine Nat.lt_of_not_le fun h=> ?_
  unfold World.cell? at hp
  rw[Array.getElem?_eq_none h] at hp
  cases hp
 have hql:q.block<w.heap.size:=by
  refine Nat.lt_of_not_le fun h=> ?_
  unfold World.cell? at hq
  rw[Array.getElem?_eq_none h] at hq
  cases hq
 have kp:u.cell? p=some x:=(hb.cell hpl).trans hp
 have kq:u.cell? q=some y:=(hb.cell hql).trans hq
 have gp:u.frozen? p=false:=(hb.frozen hpl).trans fp
 have gq:u.frozen? q=false:=(hb.frozen hql).trans fq
 have l0:u.cell? ⟨w.heap.size,0,none⟩=some (.int .i64 n):=by rw[← hu]; simp[go_sem]
 have l1:u.cell? ⟨w.heap.size,1,none⟩=some (.int .i64 m):=by rw[← hu]; simp[go_sem]
 rw[hu]
 generalize hk:w.heap.size=k at *
 clear hu
 have m1:p≠⟨k,0,none⟩:=fun e=>by subst e; simp at hpl
 have m2:p≠⟨k,1,none⟩:=fun e=>by subst e; simp at hpl
 have m3:p≠q:=fun e=>hpq (by rw[e])
 have j0:(u.drew.setCell p (.int .i64 n)).cell? ⟨k,1,none⟩=some (.int .i64 m):=by rw[World.cell?_setCell_other _ _ _ _ m2]; simpa using l1
 have j1:(u.drew.setCell p (.int .i64 n)).cell? q=some y:=by rw[World.cell?_setCell_other _ _ _ _ m3]; simpa using kq
 have j2:(u.drew.setCell p (.int .i64 n)).frozen? q=false:=by simpa using gq
 go_region
 all_goals exact⟨rfl,_,rfl,_,by simp[results,Tryz.results112]; rfl,⟨_,rfl⟩,rfl,u.drew,hb.drew,rfl⟩
end Go.Vi
