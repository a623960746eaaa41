/-
  Walks: what the plain definitions compute is what the functions return. By program. No condition.
-/
import Derived.Test.YtahienmgcfgclaaDoorSNf
import Derived.Test.YtahienmgcfgclaaDoorChecked
import Derived.Test.YtahienmgcfgclaaDoorSSh
import Derived.KernelRfl
namespace Go.Vi
open Go.Proofs
set_option linter.unusedSimpArgs false
set_option linter.unusedVariables false
set_option maxRecDepth 4000
set_option maxHeartbeats 2000000
open Nat (reduceMul reduceAdd reduceDiv)
attribute [local irreducible] go AWP
theorem mixed : Tryd.prog.follows .mixedOrders = true := by kernel_rfl
/- 43: laws_szPassageS -/
def cc0 : ACode := (.seq (.reg [(none,.mv 4 (K 0))]) (.seq (.reg [mv 5 1,mv 6 0,(none,.len 7 (S 6)),bn 8 .sub 5 7,mv 1 8]) (.seq (.seq (.reg [mv 9 1,(none,.bin 10 .lss (S 9) (K 0))]) (.cond (S 10) (.seq (.reg [(none,.mv 4 (K (-1)))]) .ret) .skip)) (.seq (.reg [mv 11 1,mv 4 11]) .ret))))
theorem ee1 : entry Tryd.prog 43 = some (cc0.strip,[4],12) := by kernel_rfl
theorem w_laws_szPassageS (a0 : List XPassage) (a1 : Int) (r : Int) (h : f_laws_szPassageS a0 a1 = some r) : FC Tryd.prog 43 [.sc (.sl (List.map XPassage.row a0)),.sc (.int .i64 a1)] [.sc (.v (.int .i64 r))] := by
 unfold f_laws_szPassageS at h
 refine FC_go (σ := ⟨[(0,vc (aL (List.map XPassage.row a0))),(1,vc (aI a1))],[],[]⟩) mixed ee1 rfl rfl ?_
 simp only [cc0]
 rcases Bool.eq_false_or_eq_true (decide ((IntKind.i64.wrap (a1 - (a0.length : Int))) < (0 : Int))) with hb1 | hb1
 ·rw [ite_t hb1] at h
  try simp only [hb1,Nat.reduceBEq,reduceMul,reduceAdd,reduceDiv,Int.reduceBEq,RR]
  cases h
  exact ⟨⟨rfl,trivial⟩,rfl⟩
 ·rw [ite_f hb1] at h
  try simp only [hb1,Nat.reduceBEq,reduceMul,reduceAdd,reduceDiv,Int.reduceBEq,RR]
  cases h
  exact ⟨⟨rfl,trivial⟩,rfl⟩
/- 36: laws_szOption -/
def cc2 : ACode := (.seq (.reg [(none,.box 2 (S 0)),(none,.mv 4 (K 0))]) (.seq (.reg [fa 5 2 3,ld 6 5,mv 7 1,(none,.call 8 43 [(S 6),(S 7)]),mv 1 8]) (.seq (.seq (.reg [mv 9 1,(none,.bin 10 .lss (S 9) (K 0))]) (.cond (S 10) (.seq (.reg [(none,.mv 4 (K (-1)))]) .ret) .skip)) (.seq (.reg [mv 11 1,mv 4 11]) .ret))))
theorem ee3 : entry Tryd.prog 36 = some (cc2.strip,[4],12) := by kernel_rfl
theorem w_laws_szOption (a0 : XOption) (a1 : Int) (r : Int) (h : f_laws_szOption a0 a1 = some r) : FC Tryd.prog 36 [.ag (XOption.row a0),.sc (.int .i64 a1)] [.sc (.v (.int .i64 r))] := by
 unfold f_laws_szOption at h
 refine FC_go (σ := ⟨[(0,va [aI a0.Start,aI a0.Arrival,aI a0.Cost,aL (List.map XPassage.row a0.Passages)]),(1,vc (aI a1))],[],[]⟩) mixed ee3 rfl rfl ?_
 simp only [cc2]
 try simp only [Nat.reduceBEq,reduceMul,reduceAdd,reduceDiv,Int.reduceBEq,RR]
 refine go_bx rfl rfl rfl ?_
 obtain ⟨r1,hr1,h⟩ := ob h
 try simp only [Nat.reduceBEq,reduceMul,reduceAdd,reduceDiv,Int.reduceBEq,RR]
 refine go_callI (w_laws_szPassageS _ _ _ hr1) rfl rfl (Nat.le_of_ble_eq_true rfl) ?_
 rcases Bool.eq_false_or_eq_true (decide (r1 < (0 : Int))) with hb2 | hb2
 ·rw [ite_t hb2] at h
  try simp only [hb2,Nat.reduceBEq,reduceMul,reduceAdd,reduceDiv,Int.reduceBEq,RR]
  cases h
  exact ⟨⟨rfl,trivial⟩,rfl⟩
 ·rw [ite_f hb2] at h
  try simp only [hb2,Nat.reduceBEq,reduceMul,reduceAdd,reduceDiv,Int.reduceBEq,RR]
  cases h
  exact ⟨⟨rfl,trivial⟩,rfl⟩
/- 30: laws_szOptionS -/
def cc4 : ACode := .seq (.reg [(none,.keep [0,1,5] [] [])]) (.seq (.seq (.reg [mv 12 5,mv 13 0,(none,.len 14 (S 13)),bn 15 .lss 12 14]) (.cond (S 15) .skip (.exit 0))) (.seq (.block 1 (.seq (.reg [mv 18 0,mv 19 5,(none,.iaddr 20 (S 18) (S 19) 4),(none,.load 21 (S 20) true 4),mv 22 1,(none,.call 23 36 [(S 21),(S 22)]),mv 1 23]) (.seq (.reg [mv 24 1,(none,.bin 25 .lss (S 24) (K 0))]) (.cond (S 25) (.seq (.reg [(none,.mv 4 (K (-1)))]) .ret) .skip)))) (.reg [mv 16 5,(none,.bin 17 .add (S 16) (K 1)),mv 5 17])))
def cc5 : ACode := (.seq (.reg [mv 26 1,mv 4 26]) .ret)
def cc6 : ACode := (.seq (.reg [(none,.mv 4 (K 0))]) (.seq (.reg [mv 6 1,mv 7 0,(none,.len 8 (S 7)),bn 9 .sub 6 8,mv 1 9]) (.seq (.seq (.reg [mv 10 1,(none,.bin 11 .lss (S 10) (K 0))]) (.cond (S 11) (.seq (.reg [(none,.mv 4 (K (-1)))]) .ret) .skip)) (.seq (.seq (.reg [(none,.mv 5 (K 0))]) (.block 0 (.loop cc4))) cc5))))
theorem ww7 (a0 : List XOption) : ∀ (n : Nat) (v2 : Int) (v3 : Int) (r : Int),f_laws_szOptionS_1 a0 n v2 v3 = some r → ∀ σ : St,σ.kept [0,1,5] [] [] = ⟨[(0,vc (aL (List.map XOption.row a0))),(1,vc (aI v2)),(5,vc (aI v3))],[],[]⟩ → go Tryd.prog (.code (.loop cc4) :: [.blk 0,.code cc5]) (Ret [4] [.sc (.v (.int .i64 r))]) .normal (some σ) := by
 intro n
 induction n with
 | zero => intro _ _ r h; cases h
 | succ n ih =>
  intro v2 v3 r h σ hσ
  rw [f_laws_szOptionS_1] at h
  refine go_round ?_
  rcases Bool.eq_false_or_eq_true (decide (v3 < (a0.length : Int))) with hb4 | hb4
  ·rw [ite_t hb4] at h
   obtain ⟨x5,hx5,h⟩ := ob h
   obtain ⟨r6,hr6,h⟩ := ob h
   try simp only [hσ,hb4,hx5,cc4,Nat.reduceBEq,reduceMul,reduceAdd,reduceDiv,Int.reduceBEq,RR]
   refine go_callI (w_laws_szOption _ _ _ hr6) rfl rfl (Nat.le_of_ble_eq_true rfl) ?_
   rcases Bool.eq_false_or_eq_true (decide (r6 < (0 : Int))) with hb7 | hb7
   ·rw [ite_t hb7] at h
    try simp only [hb4,hx5,hb7,Nat.reduceBEq,reduceMul,reduceAdd,reduceDiv,Int.reduceBEq,RR]
    cases h
    exact ⟨⟨rfl,trivial⟩,rfl⟩
   ·rw [ite_f hb7] at h
    try simp only [hb4,hx5,hb7,Nat.reduceBEq,reduceMul,reduceAdd,reduceDiv,Int.reduceBEq,RR]
    refine ih _ _ _ h _ ?_
    try simp only [hb4,hx5,hb7,Nat.reduceBEq,reduceMul,reduceAdd,reduceDiv,Int.reduceBEq,RR,List.map_nil]
  ·rw [ite_f hb4] at h
   try simp only [hσ,hb4,cc4,cc5,Nat.reduceBEq,reduceMul,reduceAdd,reduceDiv,Int.reduceBEq,RR]
   cases h
   exact ⟨⟨rfl,trivial⟩,rfl⟩
theorem ee8 : entry Tryd.prog 30 = some (cc6.strip,[4],27) := by kernel_rfl
theorem w_laws_szOptionS (a0 : List XOption) (a1 : Int) (r : Int) (h : f_laws_szOptionS a0 a1 = some r) : FC Tryd.prog 30 [.sc (.sl (List.map XOption.row a0)),.sc (.int .i64 a1)] [.sc (.v (.int .i64 r))] := by
 unfold f_laws_szOptionS at h
 refine FC_go (σ := ⟨[(0,vc (aL (List.map XOption.row a0))),(1,vc (aI a1))],[],[]⟩) mixed ee8 rfl rfl ?_
 simp only [cc6]
 rcases Bool.eq_false_or_eq_true (decide ((IntKind.i64.wrap (a1 - (a0.length : Int))) < (0 : Int))) with hb1 | hb1
 ·rw [ite_t hb1] at h
  try simp only [hb1,Nat.reduceBEq,reduceMul,reduceAdd,reduceDiv,Int.reduceBEq,RR]
  cases h
  exact ⟨⟨rfl,trivial⟩,rfl⟩
 ·rw [ite_f hb1] at h
  try simp only [hb1,Nat.reduceBEq,reduceMul,reduceAdd,reduceDiv,Int.reduceBEq,RR]
  refine ww7 _ _ _ _ _ h _ ?_
  try simp only [hb1,Nat.reduceBEq,reduceMul,reduceAdd,reduceDiv,Int.reduceBEq,RR,List.map_nil]
/- 23: laws_szBranch -/
def cc9 : ACode := (.seq (.reg [(none,.box 2 (S 0)),(none,.mv 4 (K 0))]) (.seq (.reg [fa 5 2 2,ld 6 5,mv 7 1,(none,.call 8 30 [(S 6),(S 7)]),mv 1 8]) (.seq (.seq (.reg [mv 9 1,(none,.bin 10 .lss (S 9) (K 0))]) (.cond (S 10) (.seq (.reg [(none,.mv 4 (K (-1)))]) .ret) .skip)) (.seq (.reg [mv 11 1,mv 4 11]) .ret))))
theorem ee10 : entry Tryd.prog 23 = some (cc9.strip,[4],12) := by kernel_rfl
theorem w_laws_szBranch (a0 : XBranch) (a1 : Int) (r : Int) (h : f_laws_szBranch a0 a1 = some r) : FC Tryd.prog 23 [.ag (XBranch.row a0),.sc (.int .i64 a1)] [.sc (.v (.int .i64 r))] := by
 unfold f_laws_szBranch at h
 refine FC_go (σ := ⟨[(0,va [aI a0.Low,aI a0.High,aL (List.map XOption.row a0.Plan)]),(1,vc (aI a1))],[],[]⟩) mixed ee10 rfl rfl ?_
 simp only [cc9]
 try simp only [Nat.reduceBEq,reduceMul,reduceAdd,reduceDiv,Int.reduceBEq,RR]
 refine go_bx rfl rfl rfl ?_
 obtain ⟨r1,hr1,h⟩ := ob h
 try simp only [Nat.reduceBEq,reduceMul,reduceAdd,reduceDiv,Int.reduceBEq,RR]
 refine go_callI (w_laws_szOptionS _ _ _ hr1) rfl rfl (Nat.le_of_ble_eq_true rfl) ?_
 rcases Bool.eq_false_or_eq_true (decide (r1 < (0 : Int))) with hb2 | hb2
 ·rw [ite_t hb2] at h
  try simp only [hb2,Nat.reduceBEq,reduceMul,reduceAdd,reduceDiv,Int.reduceBEq,RR]
  cases h
  exact ⟨⟨rfl,trivial⟩,rfl⟩
 ·rw [ite_f hb2] at h
  try simp only [hb2,Nat.reduceBEq,reduceMul,reduceAdd,reduceDiv,Int.reduceBEq,RR]
  cases h
  exact ⟨⟨rfl,trivial⟩,rfl⟩
/- 13: laws_szBranchS -/
def cc11 : ACode := .seq (.reg [(none,.keep [0,1,5] [] [])]) (.seq (.seq (.reg [mv 12 5,mv 13 0,(none,.len 14 (S 13)),bn 15 .lss 12 14]) (.cond (S 15) .skip (.exit 0))) (.seq (.block 1 (.seq (.reg [mv 18 0,mv 19 5,(none,.iaddr 20 (S 18) (S 19) 3),(none,.load 21 (S 20) true 3),mv 22 1,(none,.call 23 23 [(S 21),(S 22)]),mv 1 23]) (.seq (.reg [mv 24 1,(none,.bin 25 .lss (S 24) (K 0))]) (.cond (S 25) (.seq (.reg [(none,.mv 4 (K (-1)))]) .ret) .skip)))) (.reg [mv 16 5,(none,.bin 17 .add (S 16) (K 1)),mv 5 17])))
def cc12 : ACode := (.seq (.reg [mv 26 1,mv 4 26]) .ret)
def cc13 : ACode := (.seq (.reg [(none,.mv 4 (K 0))]) (.seq (.reg [mv 6 1,mv 7 0,(none,.len 8 (S 7)),bn 9 .sub 6 8,mv 1 9]) (.seq (.seq (.reg [mv 10 1,(none,.bin 11 .lss (S 10) (K 0))]) (.cond (S 11) (.seq (.reg [(none,.mv 4 (K (-1)))]) .ret) .skip)) (.seq (.seq (.reg [(none,.mv 5 (K 0))]) (.block 0 (.loop cc11))) cc12))))
theorem ww14 (a0 : List XBranch) : ∀ (n : Nat) (v2 : Int) (v3 : Int) (r : Int),f_laws_szBranchS_1 a0 n v2 v3 = some r → ∀ σ : St,σ.kept [0,1,5] [] [] = ⟨[(0,vc (aL (List.map XBranch.row a0))),(1,vc (aI v2)),(5,vc (aI v3))],[],[]⟩ → go Tryd.prog (.code (.loop cc11) :: [.blk 0,.code cc12]) (Ret [4] [.sc (.v (.int .i64 r))]) .normal (some σ) := by
 intro n
 induction n with
 | zero => intro _ _ r h; cases h
 | succ n ih =>
  intro v2 v3 r h σ hσ
  rw [f_laws_szBranchS_1] at h
  refine go_round ?_
  rcases Bool.eq_false_or_eq_true (decide (v3 < (a0.length : Int))) with hb4 | hb4
  ·rw [ite_t hb4] at h
   obtain ⟨x5,hx5,h⟩ := ob h
   obtain ⟨r6,hr6,h⟩ := ob h
   try simp only [hσ,hb4,hx5,cc11,Nat.reduceBEq,reduceMul,reduceAdd,reduceDiv,Int.reduceBEq,RR]
   refine go_callI (w_laws_szBranch _ _ _ hr6) rfl rfl (Nat.le_of_ble_eq_true rfl) ?_
   rcases Bool.eq_false_or_eq_true (decide (r6 < (0 : Int))) with hb7 | hb7
   ·rw [ite_t hb7] at h
    try simp only [hb4,hx5,hb7,Nat.reduceBEq,reduceMul,reduceAdd,reduceDiv,Int.reduceBEq,RR]
    cases h
    exact ⟨⟨rfl,trivial⟩,rfl⟩
   ·rw [ite_f hb7] at h
    try simp only [hb4,hx5,hb7,Nat.reduceBEq,reduceMul,reduceAdd,reduceDiv,Int.reduceBEq,RR]
    refine ih _ _ _ h _ ?_
    try simp only [hb4,hx5,hb7,Nat.reduceBEq,reduceMul,reduceAdd,reduceDiv,Int.reduceBEq,RR,List.map_nil]
  ·rw [ite_f hb4] at h
   try simp only [hσ,hb4,cc11,cc12,Nat.reduceBEq,reduceMul,reduceAdd,reduceDiv,Int.reduceBEq,RR]
   cases h
   exact ⟨⟨rfl,trivial⟩,rfl⟩
theorem ee15 : entry Tryd.prog 13 = some (cc13.strip,[4],27) := by kernel_rfl
theorem w_laws_szBranchS (a0 : List XBranch) (a1 : Int) (r : Int) (h : f_laws_szBranchS a0 a1 = some r) : FC Tryd.prog 13 [.sc (.sl (List.map XBranch.row a0)),.sc (.int .i64 a1)] [.sc (.v (.int .i64 r))] := by
 unfold f_laws_szBranchS at h
 refine FC_go (σ := ⟨[(0,vc (aL (List.map XBranch.row a0))),(1,vc (aI a1))],[],[]⟩) mixed ee15 rfl rfl ?_
 simp only [cc13]
 rcases Bool.eq_false_or_eq_true (decide ((IntKind.i64.wrap (a1 - (a0.length : Int))) < (0 : Int))) with hb1 | hb1
 ·rw [ite_t hb1] at h
  try simp only [hb1,Nat.reduceBEq,reduceMul,reduceAdd,reduceDiv,Int.reduceBEq,RR]
  cases h
  exact ⟨⟨rfl,trivial⟩,rfl⟩
 ·rw [ite_f hb1] at h
  try simp only [hb1,Nat.reduceBEq,reduceMul,reduceAdd,reduceDiv,Int.reduceBEq,RR]
  refine ww14 _ _ _ _ _ h _ ?_
  try simp only [hb1,Nat.reduceBEq,reduceMul,reduceAdd,reduceDiv,Int.reduceBEq,RR,List.map_nil]
/- 4: laws_szStrategy -/
def cc16 : ACode := (.seq (.reg [(none,.box 2 (S 0)),(none,.mv 4 (K 0))]) (.seq (.reg [fa 5 2 1,ld 6 5,mv 7 1,(none,.call 8 13 [(S 6),(S 7)]),mv 1 8]) (.seq (.seq (.reg [mv 9 1,(none,.bin 10 .lss (S 9) (K 0))]) (.cond (S 10) (.seq (.reg [(none,.mv 4 (K (-1)))]) .ret) .skip)) (.seq (.reg [mv 11 1,mv 4 11]) .ret))))
theorem ee17 : entry Tryd.prog 4 = some (cc16.strip,[4],12) := by kernel_rfl
theorem w_laws_szStrategy (a0 : XStrategy) (a1 : Int) (r : Int) (h : f_laws_szStrategy a0 a1 = some r) : FC Tryd.prog 4 [.ag (XStrategy.row a0),.sc (.int .i64 a1)] [.sc (.v (.int .i64 r))] := by
 unfold f_laws_szStrategy at h
 refine FC_go (σ := ⟨[(0,va [aI a0.Minute,aL (List.map XBranch.row a0.Branches)]),(1,vc (aI a1))],[],[]⟩) mixed ee17 rfl rfl ?_
 simp only [cc16]
 try simp only [Nat.reduceBEq,reduceMul,reduceAdd,reduceDiv,Int.reduceBEq,RR]
 refine go_bx rfl rfl rfl ?_
 obtain ⟨r1,hr1,h⟩ := ob h
 try simp only [Nat.reduceBEq,reduceMul,reduceAdd,reduceDiv,Int.reduceBEq,RR]
 refine go_callI (w_laws_szBranchS _ _ _ hr1) rfl rfl (Nat.le_of_ble_eq_true rfl) ?_
 rcases Bool.eq_false_or_eq_true (decide (r1 < (0 : Int))) with hb2 | hb2
 ·rw [ite_t hb2] at h
  try simp only [hb2,Nat.reduceBEq,reduceMul,reduceAdd,reduceDiv,Int.reduceBEq,RR]
  cases h
  exact ⟨⟨rfl,trivial⟩,rfl⟩
 ·rw [ite_f hb2] at h
  try simp only [hb2,Nat.reduceBEq,reduceMul,reduceAdd,reduceDiv,Int.reduceBEq,RR]
  cases h
  exact ⟨⟨rfl,trivial⟩,rfl⟩
/- 52: laws_toPassage -/
def cc18 : ACode := (.seq (.reg [(none,.box 1 (S 0)),(none,.alloc 2 [aI 0,aI 0,aB false,aI 0,aI 0])]) (.seq (.reg [(none,.alloc 3 [aI 0,aI 0,aB false,aI 0,aI 0])]) (.seq (.reg [fa 4 1 0,ld 5 4,fa 6 3 0,(none,.store (S 6) (S 5) 1)]) (.seq (.reg [fa 7 1 1,ld 8 7,fa 9 3 1,(none,.store (S 9) (S 8) 1)]) (.seq (.reg [fa 10 1 2,ld 11 10,fa 12 3 2,(none,.store (S 12) (S 11) 1)]) (.seq (.reg [fa 13 1 3,ld 14 13,fa 15 3 3,(none,.store (S 15) (S 14) 1)]) (.seq (.reg [fa 16 1 4,ld 17 16,fa 18 3 4,(none,.store (S 18) (S 17) 1)]) (.seq (.reg [(none,.load 19 (S 3) true 5),(none,.store (S 2) (S 19) 5)]) .ret))))))))
theorem ee19 : entry Tryd.prog 52 = some (cc18.strip,[.c 2 true 5],20) := by kernel_rfl
theorem w_laws_toPassage (a0 : XPassage) (r : XPassage) (h : f_laws_toPassage a0 = some r) : FC Tryd.prog 52 [.ag (XPassage.row a0)] [.ag [.v (.int .i64 r.Ship),.v (.int .i64 r.Segment),.v (.bool r.Toward),.v (.int .i64 r.Start),.v (.int .i64 r.End)]] := by
 unfold f_laws_toPassage at h
 refine FC_go (σ := ⟨[(0,va [aI a0.Ship,aI a0.Segment,aB a0.Toward,aI a0.Start,aI a0.End])],[],[]⟩) mixed ee19 rfl rfl ?_
 simp only [cc18]
 try simp only [Nat.reduceBEq,reduceMul,reduceAdd,reduceDiv,Int.reduceBEq,RR]
 refine go_bx rfl rfl rfl ?_
 try simp only [Nat.reduceBEq,reduceMul,reduceAdd,reduceDiv,Int.reduceBEq,RR]
 refine go_al rfl rfl ?_
 try simp only [Nat.reduceBEq,reduceMul,reduceAdd,reduceDiv,Int.reduceBEq,RR]
 refine go_al rfl rfl ?_
 try simp only [Nat.reduceBEq,reduceMul,reduceAdd,reduceDiv,Int.reduceBEq,RR]
 cases h
 try simp only [rulesR,Nat.reduceBEq,reduceMul,reduceAdd,reduceDiv,Int.reduceBEq,RR]
 exact ⟨⟨⟨rfl,rfl,rfl,rfl,rfl,trivial⟩,trivial⟩,rfl⟩
/- 44: laws_toPassageS -/
def cc20 : ACode := .seq (.reg [(none,.keep [0,3,4] [] [448])]) (.seq (.seq (.reg [mv 8 4,mv 9 0,(none,.len 10 (S 9)),bn 11 .lss 8 10]) (.cond (S 11) .skip (.exit 0))) (.seq (.block 1 (.reg [mv 14 3,mv 15 4,mv 16 0,mv 17 4,(none,.iaddr 18 (S 16) (S 17) 5),(none,.load 19 (S 18) true 5),(none,.call 20 52 [(S 19)]),(none,.iaddr 21 (S 14) (S 15) 5),(none,.store (S 21) (S 20) 5)])) (.reg [mv 12 4,(none,.bin 13 .add (S 12) (K 1)),mv 4 13])))
def cc21 : ACode := (.seq (.reg [mv 22 3,mv 2 22]) .ret)
def cc22 : ACode := (.seq (.reg [(none,.mv 2 KN)]) (.seq (.reg [mv 5 0,(none,.len 6 (S 5)),(none,.mksl 7 5 40 [.int .i64 0,.int .i64 0,.bool false,.int .i64 0,.int .i64 0] (S 6) (S 6)),mv 3 7]) (.seq (.seq (.reg [(none,.mv 4 (K 0))]) (.block 0 (.loop cc20))) cc21)))
theorem ww23 (a0 : List XPassage) : ∀ (n : Nat) (v2 : Int) (v3 : List XPassage) (r : (List XPassage)),f_laws_toPassageS_1 a0 n v2 v3 = some r → ∀ σ : St,σ.kept [0,3,4] [] [448] = ⟨[(0,vc (aL (List.map XPassage.row a0))),(3,vc (.own 448)),(4,vc (aI v2))],[],[(448,5,List.map XPassage.row v3)]⟩ → go Tryd.prog (.code (.loop cc20) :: [.blk 0,.code cc21]) (Ret [2] [.sc (.o 5 (List.map XPassage.row r))]) .normal (some σ) := by
 intro n
 induction n with
 | zero => intro _ _ r h; cases h
 | succ n ih =>
  intro v2 v3 r h σ hσ
  rw [f_laws_toPassageS_1] at h
  refine go_round ?_
  rcases Bool.eq_false_or_eq_true (decide (v2 < (a0.length : Int))) with hb4 | hb4
  ·rw [ite_t hb4] at h
   obtain ⟨x5,hx5,h⟩ := ob h
   obtain ⟨r6,hr6,h⟩ := ob h
   try simp only [hσ,hb4,hx5,cc20,Nat.reduceBEq,reduceMul,reduceAdd,reduceDiv,Int.reduceBEq,RR]
   refine go_callI (w_laws_toPassage _ _ hr6) rfl rfl (Nat.le_of_ble_eq_true rfl) ?_
   obtain ⟨x7,hx7,h⟩ := ob h
   have hx7n := ix_get hx7
   try simp only [hb4,hx5,hx7,Nat.reduceBEq,reduceMul,reduceAdd,reduceDiv,Int.reduceBEq,RR]
   refine go_stp (y := r6) rfl rfl hx7n rfl rfl rfl ?_
   try simp only [hb4,hx5,hx7,Nat.reduceBEq,reduceMul,reduceAdd,reduceDiv,Int.reduceBEq,RR]
   refine ih _ _ _ h _ ?_
   try simp only [hb4,hx5,hx7,Nat.reduceBEq,reduceMul,reduceAdd,reduceDiv,Int.reduceBEq,RR,List.map_nil]
  ·rw [ite_f hb4] at h
   try simp only [hσ,hb4,cc20,cc21,Nat.reduceBEq,reduceMul,reduceAdd,reduceDiv,Int.reduceBEq,RR]
   cases h
   exact ⟨⟨rfl,trivial⟩,rfl⟩
theorem ee24 : entry Tryd.prog 44 = some (cc22.strip,[2],23) := by kernel_rfl
theorem w_laws_toPassageS (a0 : List XPassage) (r : (List XPassage)) (h : f_laws_toPassageS a0 = some r) : FC Tryd.prog 44 [.sc (.sl (List.map XPassage.row a0))] [.sc (.o 5 (List.map XPassage.row r))] := by
 unfold f_laws_toPassageS at h
 refine FC_go (σ := ⟨[(0,vc (aL (List.map XPassage.row a0)))],[],[]⟩) mixed ee24 rfl rfl ?_
 simp only [cc22]
 obtain ⟨n1,hn1,h⟩ := ob h
 try simp only [Nat.reduceBEq,reduceMul,reduceAdd,reduceDiv,Int.reduceBEq,RR]
 refine go_mks (es := List.map XPassage.row (List.replicate n1 (⟨(0 : Int),(0 : Int),false,(0 : Int),(0 : Int)⟩ : XPassage))) rfl rfl hn1 rfl (rep_map rfl) rfl ?_
 try simp only [Nat.reduceBEq,reduceMul,reduceAdd,reduceDiv,Int.reduceBEq,RR]
 refine ww23 _ _ _ _ _ h _ ?_
 try simp only [Nat.reduceBEq,reduceMul,reduceAdd,reduceDiv,Int.reduceBEq,RR,List.map_nil]
/- 37: laws_toOption -/
def cc25 : ACode := (.seq (.reg [(none,.box 1 (S 0)),(none,.alloc 2 [aI 0,aI 0,aI 0,.nil])]) (.seq (.reg [(none,.alloc 3 [aI 0,aI 0,aI 0,.nil])]) (.seq (.reg [fa 4 1 0,ld 5 4,fa 6 3 0,(none,.store (S 6) (S 5) 1)]) (.seq (.reg [fa 7 1 1,ld 8 7,fa 9 3 1,(none,.store (S 9) (S 8) 1)]) (.seq (.reg [fa 10 1 2,ld 11 10,fa 12 3 2,(none,.store (S 12) (S 11) 1)]) (.seq (.reg [fa 13 1 3,ld 14 13,(none,.call 15 44 [(S 14)]),fa 16 3 3,(none,.store (S 16) (S 15) 1)]) (.seq (.reg [(none,.load 17 (S 3) true 4),(none,.store (S 2) (S 17) 4)]) .ret)))))))
theorem ee26 : entry Tryd.prog 37 = some (cc25.strip,[.c 2 true 4],18) := by kernel_rfl
theorem w_laws_toOption (a0 : XOption) (r : XOption) (h : f_laws_toOption a0 = some r) : FC Tryd.prog 37 [.ag (XOption.row a0)] [.ag [.v (.int .i64 r.Start),.v (.int .i64 r.Arrival),.v (.int .i64 r.Cost),.o 5 (List.map XPassage.row r.Passages)]] := by
 unfold f_laws_toOption at h
 refine FC_go (σ := ⟨[(0,va [aI a0.Start,aI a0.Arrival,aI a0.Cost,aL (List.map XPassage.row a0.Passages)])],[],[]⟩) mixed ee26 rfl rfl ?_
 simp only [cc25]
 try simp only [Nat.reduceBEq,reduceMul,reduceAdd,reduceDiv,Int.reduceBEq,RR]
 refine go_bx rfl rfl rfl ?_
 try simp only [Nat.reduceBEq,reduceMul,reduceAdd,reduceDiv,Int.reduceBEq,RR]
 refine go_al rfl rfl ?_
 try simp only [Nat.reduceBEq,reduceMul,reduceAdd,reduceDiv,Int.reduceBEq,RR]
 refine go_al rfl rfl ?_
 obtain ⟨r1,hr1,h⟩ := ob h
 try simp only [Nat.reduceBEq,reduceMul,reduceAdd,reduceDiv,Int.reduceBEq,RR]
 refine go_callI (w_laws_toPassageS _ _ hr1) rfl rfl (Nat.le_of_ble_eq_true rfl) ?_
 try simp only [Nat.reduceBEq,reduceMul,reduceAdd,reduceDiv,Int.reduceBEq,RR]
 cases h
 try simp only [rulesR,Nat.reduceBEq,reduceMul,reduceAdd,reduceDiv,Int.reduceBEq,RR]
 exact ⟨⟨⟨rfl,rfl,rfl,rfl,trivial⟩,trivial⟩,rfl⟩
/- 31: laws_toOptionS -/
def cc27 : ACode := .seq (.reg [(none,.keep [0,3,4] [] [448])]) (.seq (.seq (.reg [mv 8 4,mv 9 0,(none,.len 10 (S 9)),bn 11 .lss 8 10]) (.cond (S 11) .skip (.exit 0))) (.seq (.block 1 (.reg [mv 14 3,mv 15 4,mv 16 0,mv 17 4,(none,.iaddr 18 (S 16) (S 17) 4),(none,.load 19 (S 18) true 4),(none,.call 20 37 [(S 19)]),(none,.iaddr 21 (S 14) (S 15) 4),(none,.frz 1283),(none,.store (S 21) (S 20) 4)])) (.reg [mv 12 4,(none,.bin 13 .add (S 12) (K 1)),mv 4 13])))
def cc28 : ACode := (.seq (.reg [mv 22 3,mv 2 22]) .ret)
def cc29 : ACode := (.seq (.reg [(none,.mv 2 KN)]) (.seq (.reg [mv 5 0,(none,.len 6 (S 5)),(none,.mksl 7 4 48 [.int .i64 0,.int .i64 0,.int .i64 0,.sl []] (S 6) (S 6)),mv 3 7]) (.seq (.seq (.reg [(none,.mv 4 (K 0))]) (.block 0 (.loop cc27))) cc28)))
theorem ww30 (a0 : List XOption) : ∀ (n : Nat) (v2 : Int) (v3 : List XOption) (r : (List XOption)),f_laws_toOptionS_1 a0 n v2 v3 = some r → ∀ σ : St,σ.kept [0,3,4] [] [448] = ⟨[(0,vc (.old (.sl (List.map XOption.row a0)))),(3,vc (.own 448)),(4,vc (aI v2))],[],[(448,4,List.map XOption.row v3)]⟩ → go Tryd.prog (.code (.loop cc27) :: [.blk 0,.code cc28]) (Ret [2] [.sc (.o 4 (List.map XOption.row r))]) .normal (some σ) := by
 intro n
 induction n with
 | zero => intro _ _ r h; cases h
 | succ n ih =>
  intro v2 v3 r h σ hσ
  rw [f_laws_toOptionS_1] at h
  refine go_round ?_
  rcases Bool.eq_false_or_eq_true (decide (v2 < (a0.length : Int))) with hb4 | hb4
  ·rw [ite_t hb4] at h
   obtain ⟨x5,hx5,h⟩ := ob h
   obtain ⟨r6,hr6,h⟩ := ob h
   try simp only [hσ,hb4,hx5,cc27,Nat.reduceBEq,reduceMul,reduceAdd,reduceDiv,Int.reduceBEq,RR]
   refine go_call (w_laws_toOption _ _ hr6) rfl (flat_l rfl ⟨rfl,rfl,rfl,flat_o,trivial⟩) rfl (Nat.le_of_ble_eq_true rfl) ?_
   obtain ⟨x7,hx7,h⟩ := ob h
   have hx7n := ix_get hx7
   try simp only [hb4,hx5,hx7,Nat.reduceBEq,reduceMul,reduceAdd,reduceDiv,Int.reduceBEq,RR]
   refine go_frz' rfl ?_
   try simp only [hb4,hx5,hx7,Nat.reduceBEq,reduceMul,reduceAdd,reduceDiv,Int.reduceBEq,RR]
   refine go_stp (y := r6) rfl rfl hx7n rfl rfl rfl ?_
   try simp only [hb4,hx5,hx7,Nat.reduceBEq,reduceMul,reduceAdd,reduceDiv,Int.reduceBEq,RR]
   refine ih _ _ _ h _ ?_
   try simp only [hb4,hx5,hx7,Nat.reduceBEq,reduceMul,reduceAdd,reduceDiv,Int.reduceBEq,RR,List.map_nil]
  ·rw [ite_f hb4] at h
   try simp only [hσ,hb4,cc27,cc28,Nat.reduceBEq,reduceMul,reduceAdd,reduceDiv,Int.reduceBEq,RR]
   cases h
   exact ⟨⟨rfl,trivial⟩,rfl⟩
theorem ee31 : entry Tryd.prog 31 = some (cc29.strip,[2],23) := by kernel_rfl
theorem wf_laws_toOptionS (a0 : List XOption) (r : (List XOption)) (h : f_laws_toOptionS a0 = some r) : FCf Tryd.prog 31 [.sc (.sl (List.map XOption.row a0))] [.sc (.o 4 (List.map XOption.row r))] := by
 unfold f_laws_toOptionS at h
 refine FCf_go (σ := ⟨[(0,vc (.old (.sl (List.map XOption.row a0))))],[],[]⟩) mixed ee31 rfl rfl ?_
 simp only [cc29]
 obtain ⟨n1,hn1,h⟩ := ob h
 try simp only [Nat.reduceBEq,reduceMul,reduceAdd,reduceDiv,Int.reduceBEq,RR]
 refine go_mks (es := List.map XOption.row (List.replicate n1 (⟨(0 : Int),(0 : Int),(0 : Int),([] : List XPassage)⟩ : XOption))) rfl rfl hn1 rfl (rep_map rfl) rfl ?_
 try simp only [Nat.reduceBEq,reduceMul,reduceAdd,reduceDiv,Int.reduceBEq,RR]
 refine ww30 _ _ _ _ _ h _ ?_
 try simp only [Nat.reduceBEq,reduceMul,reduceAdd,reduceDiv,Int.reduceBEq,RR,List.map_nil]
theorem w_laws_toOptionS (a0 : List XOption) (r : (List XOption)) (h : f_laws_toOptionS a0 = some r) : FC Tryd.prog 31 [.sc (.sl (List.map XOption.row a0))] [.sc (.o 4 (List.map XOption.row r))] := (wf_laws_toOptionS a0 r h).fc
/- 24: laws_toBranch -/
def cc32 : ACode := (.seq (.reg [(none,.box 1 (S 0)),(none,.alloc 2 [aI 0,aI 0,.nil])]) (.seq (.reg [(none,.alloc 3 [aI 0,aI 0,.nil])]) (.seq (.reg [fa 4 1 0,ld 5 4,fa 6 3 0,(none,.store (S 6) (S 5) 1)]) (.seq (.reg [fa 7 1 1,ld 8 7,fa 9 3 1,(none,.store (S 9) (S 8) 1)]) (.seq (.reg [fa 10 1 2,ld 11 10,(none,.call 12 31 [(S 11)]),fa 13 3 2,(none,.store (S 13) (S 12) 1)]) (.seq (.reg [(none,.load 14 (S 3) true 3),(none,.store (S 2) (S 14) 3)]) .ret))))))
theorem ee33 : entry Tryd.prog 24 = some (cc32.strip,[.c 2 true 3],15) := by kernel_rfl
theorem wf_laws_toBranch (a0 : XBranch) (r : XBranch) (h : f_laws_toBranch a0 = some r) : FCf Tryd.prog 24 [.ag (XBranch.row a0)] [.ag [.v (.int .i64 r.Low),.v (.int .i64 r.High),.o 4 (List.map XOption.row r.Plan)]] := by
 unfold f_laws_toBranch at h
 refine FCf_go (σ := ⟨[(0,va [aI a0.Low,aI a0.High,.old (.sl (List.map XOption.row a0.Plan))])],[],[]⟩) mixed ee33 rfl rfl ?_
 simp only [cc32]
 try simp only [Nat.reduceBEq,reduceMul,reduceAdd,reduceDiv,Int.reduceBEq,RR]
 refine go_bx rfl rfl rfl ?_
 try simp only [Nat.reduceBEq,reduceMul,reduceAdd,reduceDiv,Int.reduceBEq,RR]
 refine go_al rfl rfl ?_
 try simp only [Nat.reduceBEq,reduceMul,reduceAdd,reduceDiv,Int.reduceBEq,RR]
 refine go_al rfl rfl ?_
 obtain ⟨r1,hr1,h⟩ := ob h
 try simp only [Nat.reduceBEq,reduceMul,reduceAdd,reduceDiv,Int.reduceBEq,RR]
 refine go_callf (wf_laws_toOptionS _ _ hr1) rfl rfl (Nat.le_of_ble_eq_true rfl) ?_
 try simp only [Nat.reduceBEq,reduceMul,reduceAdd,reduceDiv,Int.reduceBEq,RR]
 cases h
 try simp only [rulesR,Nat.reduceBEq,reduceMul,reduceAdd,reduceDiv,Int.reduceBEq,RR]
 exact ⟨⟨⟨rfl,rfl,rfl,trivial⟩,trivial⟩,rfl⟩
theorem w_laws_toBranch (a0 : XBranch) (r : XBranch) (h : f_laws_toBranch a0 = some r) : FC Tryd.prog 24 [.ag (XBranch.row a0)] [.ag [.v (.int .i64 r.Low),.v (.int .i64 r.High),.o 4 (List.map XOption.row r.Plan)]] := (wf_laws_toBranch a0 r h).fc
/- 16: laws_toBranchS -/
def cc34 : ACode := .seq (.reg [(none,.keep [0,3,4] [] [448])]) (.seq (.seq (.reg [mv 8 4,mv 9 0,(none,.len 10 (S 9)),bn 11 .lss 8 10]) (.cond (S 11) .skip (.exit 0))) (.seq (.block 1 (.reg [mv 14 3,mv 15 4,mv 16 0,mv 17 4,(none,.iaddr 18 (S 16) (S 17) 3),(none,.load 19 (S 18) true 3),(none,.call 20 24 [(S 19)]),(none,.iaddr 21 (S 14) (S 15) 3),(none,.frz 1282),(none,.store (S 21) (S 20) 3)])) (.reg [mv 12 4,(none,.bin 13 .add (S 12) (K 1)),mv 4 13])))
def cc35 : ACode := (.seq (.reg [mv 22 3,mv 2 22]) .ret)
def cc36 : ACode := (.seq (.reg [(none,.mv 2 KN)]) (.seq (.reg [mv 5 0,(none,.len 6 (S 5)),(none,.mksl 7 3 40 [.int .i64 0,.int .i64 0,.sl []] (S 6) (S 6)),mv 3 7]) (.seq (.seq (.reg [(none,.mv 4 (K 0))]) (.block 0 (.loop cc34))) cc35)))
theorem ww37 (a0 : List XBranch) : ∀ (n : Nat) (v2 : Int) (v3 : List XBranch) (r : (List XBranch)),f_laws_toBranchS_1 a0 n v2 v3 = some r → ∀ σ : St,σ.kept [0,3,4] [] [448] = ⟨[(0,vc (.old (.sl (List.map XBranch.row a0)))),(3,vc (.own 448)),(4,vc (aI v2))],[],[(448,3,List.map XBranch.row v3)]⟩ → go Tryd.prog (.code (.loop cc34) :: [.blk 0,.code cc35]) (Ret [2] [.sc (.o 3 (List.map XBranch.row r))]) .normal (some σ) := by
 intro n
 induction n with
 | zero => intro _ _ r h; cases h
 | succ n ih =>
  intro v2 v3 r h σ hσ
  rw [f_laws_toBranchS_1] at h
  refine go_round ?_
  rcases Bool.eq_false_or_eq_true (decide (v2 < (a0.length : Int))) with hb4 | hb4
  ·rw [ite_t hb4] at h
   obtain ⟨x5,hx5,h⟩ := ob h
   obtain ⟨r6,hr6,h⟩ := ob h
   try simp only [hσ,hb4,hx5,cc34,Nat.reduceBEq,reduceMul,reduceAdd,reduceDiv,Int.reduceBEq,RR]
   refine go_callf (wf_laws_toBranch _ _ hr6) rfl rfl (Nat.le_of_ble_eq_true rfl) ?_
   obtain ⟨x7,hx7,h⟩ := ob h
   have hx7n := ix_get hx7
   try simp only [hb4,hx5,hx7,Nat.reduceBEq,reduceMul,reduceAdd,reduceDiv,Int.reduceBEq,RR]
   refine go_frz' rfl ?_
   try simp only [hb4,hx5,hx7,Nat.reduceBEq,reduceMul,reduceAdd,reduceDiv,Int.reduceBEq,RR]
   refine go_stp (y := r6) rfl rfl hx7n rfl rfl rfl ?_
   try simp only [hb4,hx5,hx7,Nat.reduceBEq,reduceMul,reduceAdd,reduceDiv,Int.reduceBEq,RR]
   refine ih _ _ _ h _ ?_
   try simp only [hb4,hx5,hx7,Nat.reduceBEq,reduceMul,reduceAdd,reduceDiv,Int.reduceBEq,RR,List.map_nil]
  ·rw [ite_f hb4] at h
   try simp only [hσ,hb4,cc34,cc35,Nat.reduceBEq,reduceMul,reduceAdd,reduceDiv,Int.reduceBEq,RR]
   cases h
   exact ⟨⟨rfl,trivial⟩,rfl⟩
theorem ee38 : entry Tryd.prog 16 = some (cc36.strip,[2],23) := by kernel_rfl
theorem wf_laws_toBranchS (a0 : List XBranch) (r : (List XBranch)) (h : f_laws_toBranchS a0 = some r) : FCf Tryd.prog 16 [.sc (.sl (List.map XBranch.row a0))] [.sc (.o 3 (List.map XBranch.row r))] := by
 unfold f_laws_toBranchS at h
 refine FCf_go (σ := ⟨[(0,vc (.old (.sl (List.map XBranch.row a0))))],[],[]⟩) mixed ee38 rfl rfl ?_
 simp only [cc36]
 obtain ⟨n1,hn1,h⟩ := ob h
 try simp only [Nat.reduceBEq,reduceMul,reduceAdd,reduceDiv,Int.reduceBEq,RR]
 refine go_mks (es := List.map XBranch.row (List.replicate n1 (⟨(0 : Int),(0 : Int),([] : List XOption)⟩ : XBranch))) rfl rfl hn1 rfl (rep_map rfl) rfl ?_
 try simp only [Nat.reduceBEq,reduceMul,reduceAdd,reduceDiv,Int.reduceBEq,RR]
 refine ww37 _ _ _ _ _ h _ ?_
 try simp only [Nat.reduceBEq,reduceMul,reduceAdd,reduceDiv,Int.reduceBEq,RR,List.map_nil]
theorem w_laws_toBranchS (a0 : List XBranch) (r : (List XBranch)) (h : f_laws_toBranchS a0 = some r) : FC Tryd.prog 16 [.sc (.sl (List.map XBranch.row a0))] [.sc (.o 3 (List.map XBranch.row r))] := (wf_laws_toBranchS a0 r h).fc
/- 6: laws_toStrategy -/
def cc39 : ACode := (.seq (.reg [(none,.box 1 (S 0)),(none,.alloc 2 [aI 0,.nil])]) (.seq (.reg [(none,.alloc 3 [aI 0,.nil])]) (.seq (.reg [fa 4 1 0,ld 5 4,fa 6 3 0,(none,.store (S 6) (S 5) 1)]) (.seq (.reg [fa 7 1 1,ld 8 7,(none,.call 9 16 [(S 8)]),fa 10 3 1,(none,.store (S 10) (S 9) 1)]) (.seq (.reg [(none,.load 11 (S 3) true 2),(none,.store (S 2) (S 11) 2)]) .ret)))))
theorem ee40 : entry Tryd.prog 6 = some (cc39.strip,[.c 2 true 2],12) := by kernel_rfl
theorem wf_laws_toStrategy (a0 : XStrategy) (r : XStrategy) (h : f_laws_toStrategy a0 = some r) : FCf Tryd.prog 6 [.ag (XStrategy.row a0)] [.ag [.v (.int .i64 r.Minute),.o 3 (List.map XBranch.row r.Branches)]] := by
 unfold f_laws_toStrategy at h
 refine FCf_go (σ := ⟨[(0,va [aI a0.Minute,.old (.sl (List.map XBranch.row a0.Branches))])],[],[]⟩) mixed ee40 rfl rfl ?_
 simp only [cc39]
 try simp only [Nat.reduceBEq,reduceMul,reduceAdd,reduceDiv,Int.reduceBEq,RR]
 refine go_bx rfl rfl rfl ?_
 try simp only [Nat.reduceBEq,reduceMul,reduceAdd,reduceDiv,Int.reduceBEq,RR]
 refine go_al rfl rfl ?_
 try simp only [Nat.reduceBEq,reduceMul,reduceAdd,reduceDiv,Int.reduceBEq,RR]
 refine go_al rfl rfl ?_
 obtain ⟨r1,hr1,h⟩ := ob h
 try simp only [Nat.reduceBEq,reduceMul,reduceAdd,reduceDiv,Int.reduceBEq,RR]
 refine go_callf (wf_laws_toBranchS _ _ hr1) rfl rfl (Nat.le_of_ble_eq_true rfl) ?_
 try simp only [Nat.reduceBEq,reduceMul,reduceAdd,reduceDiv,Int.reduceBEq,RR]
 cases h
 try simp only [rulesR,Nat.reduceBEq,reduceMul,reduceAdd,reduceDiv,Int.reduceBEq,RR]
 exact ⟨⟨⟨rfl,rfl,trivial⟩,trivial⟩,rfl⟩
theorem w_laws_toStrategy (a0 : XStrategy) (r : XStrategy) (h : f_laws_toStrategy a0 = some r) : FC Tryd.prog 6 [.ag (XStrategy.row a0)] [.ag [.v (.int .i64 r.Minute),.o 3 (List.map XBranch.row r.Branches)]] := (wf_laws_toStrategy a0 r h).fc
/- 14: spec_FormatInt -/
def cc41 : ACode := .seq (.reg [(none,.keep [0,3] [] [])]) (.seq (.seq (.reg [mv 25 0,(none,.bin 26 .gtr (S 25) (K 9))]) (.cond (S 26) .skip (.exit 0))) (.block 1 (.seq (.reg [mv 27 0,(none,.bin 28 .rem (S 27) (K 10)),(none,.bin 29 .add (K 48) (S 28)),(none,.conv 30 .u8 (S 29)),(none,.bslice 31 1 [.int .u8 0] 1 [(0,(S 30))]),(none,.sconv 32 (S 31)),mv 33 3,bn 34 .add 32 33,mv 3 34]) (.reg [mv 35 0,(none,.bin 36 .quo (S 35) (K 10)),mv 0 36]))))
def cc42 : ACode := (.seq (.reg [mv 37 0,(none,.bin 38 .add (K 48) (S 37)),(none,.conv 39 .u8 (S 38)),(none,.bslice 40 1 [.int .u8 0] 1 [(0,(S 39))]),(none,.sconv 41 (S 40)),mv 42 3,bn 43 .add 41 42,mv 2 43]) .ret)
def cc43 : ACode := (.seq (.reg [(none,.mv 2 (KS []))]) (.seq (.seq (.reg [mv 4 0,(none,.bin 5 .lss (S 4) (K 0))]) (.cond (S 5) (.seq (.seq (.reg [mv 6 0,(none,.bin 7 .quo (S 6) (K 10)),(none,.bin 8 .eql (S 7) (K 0))]) (.cond (S 8) (.seq (.reg [mv 9 0,(none,.bin 10 .sub (K 48) (S 9)),(none,.conv 11 .u8 (S 10)),(none,.bslice 12 1 [.int .u8 0] 1 [(0,(S 11))]),(none,.sconv 13 (S 12)),(none,.bin 14 .add (KS [45]) (S 13)),mv 2 14]) .ret) .skip)) (.seq (.drw [(some [22],mv 15 0),(some [22],(none,.bin 16 .quo (S 15) (K 10))),(some [22],(none,.call 17 14 [(S 16)])),(some [17],mv 18 0),(some [17],(none,.bin 19 .rem (S 18) (K 10))),(some [17],(none,.bin 20 .sub (K 48) (S 19))),(some [17],(none,.conv 21 .u8 (S 20))),(some [17],(none,.bslice 22 1 [.int .u8 0] 1 [(0,(S 21))])),(some [17],(none,.sconv 23 (S 22))),(some [],bn 24 .add 17 23),(some [],mv 2 24)]) .ret)) .skip)) (.seq (.reg [(none,.mv 3 (KS []))]) (.seq (.block 0 (.loop cc41)) cc42))))
theorem ww44 (rec_ : Int → Option (List UInt8)) (h_rec : ∀ (a0 : Int) zr,rec_ a0 = some zr → FC Tryd.prog 14 [.sc (.int .i64 a0)] [.sc (.v (.str zr))]) : ∀ (n : Nat) (v6 : Int) (v7 : List UInt8) (r : (List UInt8)),f_spec_FormatInt_1 rec_ n v6 v7 = some r → ∀ σ : St,σ.kept [0,3] [] [] = ⟨[(0,vc (aI v6)),(3,vc (aS v7))],[],[]⟩ → go Tryd.prog (.code (.loop cc41) :: [.blk 0,.code cc42]) (Ret [2] [.sc (.v (.str r))]) .normal (some σ) := by
 intro n
 induction n with
 | zero => intro _ _ r h; cases h
 | succ n ih =>
  intro v6 v7 r h σ hσ
  rw [f_spec_FormatInt_1] at h
  refine go_round ?_
  rcases Bool.eq_false_or_eq_true (decide ((9 : Int) < v6)) with hb8 | hb8
  ·rw [ite_t hb8] at h
   try simp only [hσ,hb8,cc41,Nat.reduceBEq,reduceMul,reduceAdd,reduceDiv,Int.reduceBEq,RR]
   refine go_bsl (es := List.map r8 ([(IntKind.u8.wrap (IntKind.i64.wrap ((48 : Int) + (IntKind.i64.wrap (Int.tmod v6 (10 : Int))))))] : List Int)) rfl rfl ?_
   obtain ⟨hg9,h⟩ := of_guard h
   try simp only [hb8,hg9,Nat.reduceBEq,reduceMul,reduceAdd,reduceDiv,Int.reduceBEq,RR]
   refine ih _ _ _ h _ ?_
   try simp only [hb8,hg9,Nat.reduceBEq,reduceMul,reduceAdd,reduceDiv,Int.reduceBEq,RR,List.map_nil]
  ·rw [ite_f hb8] at h
   try simp only [hσ,hb8,cc41,cc42,Nat.reduceBEq,reduceMul,reduceAdd,reduceDiv,Int.reduceBEq,RR]
   refine go_bsl (es := List.map r8 ([(IntKind.u8.wrap (IntKind.i64.wrap ((48 : Int) + v6)))] : List Int)) rfl rfl ?_
   obtain ⟨hg10,h⟩ := of_guard h
   try simp only [hb8,hg10,Nat.reduceBEq,reduceMul,reduceAdd,reduceDiv,Int.reduceBEq,RR]
   cases h
   exact ⟨⟨rfl,trivial⟩,rfl⟩
theorem ee45 : entry Tryd.prog 14 = some (cc43.strip,[2],44) := by kernel_rfl
theorem w_spec_FormatInt_b (rec_ : Int → Option (List UInt8)) (a0 : Int) (r : (List UInt8)) (h_rec : ∀ (a0 : Int) zr,rec_ a0 = some zr → FC Tryd.prog 14 [.sc (.int .i64 a0)] [.sc (.v (.str zr))]) (h : f_spec_FormatInt_b rec_ a0 = some r) : FC Tryd.prog 14 [.sc (.int .i64 a0)] [.sc (.v (.str r))] := by
 unfold f_spec_FormatInt_b at h
 refine FC_go (σ := ⟨[(0,vc (aI a0))],[],[]⟩) mixed ee45 rfl rfl ?_
 simp only [cc43]
 rcases Bool.eq_false_or_eq_true (decide (a0 < (0 : Int))) with hb1 | hb1
 ·rw [ite_t hb1] at h
  rcases Bool.eq_false_or_eq_true ((IntKind.i64.wrap (Int.tdiv a0 (10 : Int))) == (0 : Int)) with hb2 | hb2
  ·rw [ite_t hb2] at h
   try simp only [hb1,hb2,Nat.reduceBEq,reduceMul,reduceAdd,reduceDiv,Int.reduceBEq,RR]
   refine go_bsl (es := List.map r8 ([(IntKind.u8.wrap (IntKind.i64.wrap ((48 : Int) - a0)))] : List Int)) rfl rfl ?_
   obtain ⟨hg3,h⟩ := of_guard h
   try simp only [hb1,hb2,hg3,Nat.reduceBEq,reduceMul,reduceAdd,reduceDiv,Int.reduceBEq,RR]
   cases h
   exact ⟨⟨rfl,trivial⟩,rfl⟩
  ·rw [ite_f hb2] at h
   try simp only [hb1,hb2,Nat.reduceBEq,reduceMul,reduceAdd,reduceDiv,Int.reduceBEq,RR]
   refine go_fr_of rfl ?_
   obtain ⟨r4,hr4,h⟩ := ob h
   try simp only [hb1,hb2,Nat.reduceBEq,reduceMul,reduceAdd,reduceDiv,Int.reduceBEq,RR]
   refine go_dcallI (h_rec _ _ hr4) rfl rfl (Nat.le_of_ble_eq_true rfl) ?_
   try simp only [hb1,hb2,Nat.reduceBEq,reduceMul,reduceAdd,reduceDiv,Int.reduceBEq,RR]
   refine go_mkN (m := .row 22 1 (List.map r8 ([(IntKind.u8.wrap (IntKind.i64.wrap ((48 : Int) - (IntKind.i64.wrap (Int.tmod a0 (10 : Int))))))] : List Int))) rfl rfl (make_row rfl) ?_
   obtain ⟨hg5,h⟩ := of_guard h
   try simp only [hb1,hb2,hg5,Nat.reduceBEq,reduceMul,reduceAdd,reduceDiv,Int.reduceBEq,RR]
   cases h
   exact ⟨⟨rfl,trivial⟩,rfl⟩
 ·rw [ite_f hb1] at h
  try simp only [hb1,Nat.reduceBEq,reduceMul,reduceAdd,reduceDiv,Int.reduceBEq,RR]
  refine ww44 rec_ h_rec _ _ _ _ h _ ?_
  try simp only [hb1,Nat.reduceBEq,reduceMul,reduceAdd,reduceDiv,Int.reduceBEq,RR,List.map_nil]
theorem w_spec_FormatInt_r : ∀ (n : Nat) (a0 : Int) (r : (List UInt8)),f_spec_FormatInt_r n a0 = some r → FC Tryd.prog 14 [.sc (.int .i64 a0)] [.sc (.v (.str r))] := by
 intro n
 induction n with
 | zero => intro _ r h; cases h
 | succ n ih => intro a0 r h; rw [f_spec_FormatInt_r] at h; exact w_spec_FormatInt_b (f_spec_FormatInt_r n) a0 r ih h
theorem w_spec_FormatInt (a0 : Int) (r : (List UInt8)) (h : f_spec_FormatInt a0 = some r) : FC Tryd.prog 14 [.sc (.int .i64 a0)] [.sc (.v (.str r))] := w_spec_FormatInt_r bigN a0 r h
/- 15: spec_CostOf -/
def cc46 : ACode := .seq (.reg [(none,.keep [3,6,7,8] [] [])]) (.seq (.reg [bn 9 .lss 8 7]) (.seq (.cond (S 9) .skip (.exit 0)) (.seq (.block 1 (.seq (.reg [(none,.iaddr 10 (S 6) (S 8) 4),(none,.load 11 (S 10) true 4),(none,.alloc 5 [aI 0,aI 0,aI 0,.nil]),(none,.store (S 5) (S 11) 4)]) (.reg [mv 12 3,fa 13 5 2,ld 14 13,bn 15 .add 12 14,mv 3 15]))) (.reg [(none,.bin 16 .add (S 8) (K 1)),mv 8 16]))))
def cc47 : ACode := (.seq (.reg [mv 17 3,mv 2 17]) .ret)
def cc48 : ACode := (.seq (.reg [(none,.mv 2 (K 0))]) (.seq (.reg [(none,.mv 3 (K 0))]) (.seq (.seq (.reg [mv 6 0,(none,.len 7 (S 6)),(none,.mv 8 (K 0))]) (.block 0 (.loop cc46))) cc47)))
theorem ww49 (a0 : List XOption) : ∀ (n : Nat) (v1 : Int) (v2 : Int) (r : Int),f_spec_CostOf_1 a0 n v1 v2 = some r → ∀ σ : St,σ.kept [3,6,7,8] [] [] = ⟨[(3,vc (aI v1)),(6,vc (aL (List.map XOption.row a0))),(7,vc (aI (a0.length : Int))),(8,vc (aI v2))],[],[]⟩ → go Tryd.prog (.code (.loop cc46) :: [.blk 0,.code cc47]) (Ret [2] [.sc (.v (.int .i64 r))]) .normal (some σ) := by
 intro n
 induction n with
 | zero => intro _ _ r h; cases h
 | succ n ih =>
  intro v1 v2 r h σ hσ
  rw [f_spec_CostOf_1] at h
  refine go_round ?_
  rcases Bool.eq_false_or_eq_true (decide (v2 < (a0.length : Int))) with hb3 | hb3
  ·rw [ite_t hb3] at h
   obtain ⟨x4,hx4,h⟩ := ob h
   try simp only [hσ,hb3,hx4,cc46,Nat.reduceBEq,reduceMul,reduceAdd,reduceDiv,Int.reduceBEq,RR]
   refine go_al rfl rfl ?_
   try simp only [hb3,hx4,Nat.reduceBEq,reduceMul,reduceAdd,reduceDiv,Int.reduceBEq,RR]
   refine ih _ _ _ h _ ?_
   try simp only [hb3,hx4,Nat.reduceBEq,reduceMul,reduceAdd,reduceDiv,Int.reduceBEq,RR,List.map_nil]
  ·rw [ite_f hb3] at h
   try simp only [hσ,hb3,cc46,cc47,Nat.reduceBEq,reduceMul,reduceAdd,reduceDiv,Int.reduceBEq,RR]
   cases h
   exact ⟨⟨rfl,trivial⟩,rfl⟩
theorem ee50 : entry Tryd.prog 15 = some (cc48.strip,[2],18) := by kernel_rfl
theorem w_spec_CostOf (a0 : List XOption) (r : Int) (h : f_spec_CostOf a0 = some r) : FC Tryd.prog 15 [.sc (.sl (List.map XOption.row a0))] [.sc (.v (.int .i64 r))] := by
 unfold f_spec_CostOf at h
 refine FC_go (σ := ⟨[(0,vc (aL (List.map XOption.row a0)))],[],[]⟩) mixed ee50 rfl rfl ?_
 simp only [cc48]
 try simp only [Nat.reduceBEq,reduceMul,reduceAdd,reduceDiv,Int.reduceBEq,RR]
 refine ww49 _ _ _ _ _ h _ ?_
 try simp only [Nat.reduceBEq,reduceMul,reduceAdd,reduceDiv,Int.reduceBEq,RR,List.map_nil]
/- 5: spec_StrategyLines -/
def cc51 : ACode := .seq (.reg [(none,.keep [3,8,9,10] [] [384])]) (.seq (.reg [bn 11 .lss 10 9]) (.seq (.cond (S 11) .skip (.exit 0)) (.seq (.block 1 (.seq (.reg [(none,.iaddr 12 (S 8) (S 10) 3),(none,.load 13 (S 12) true 3),(none,.alloc 5 [aI 0,aI 0,.nil]),(none,.store (S 5) (S 13) 3)]) (.drw [(some [17,21,26,27,29],mv 14 3),(some [],fa 15 5 0),(some [],ld 16 15),(some [],(none,.call 17 14 [(S 16)])),(some [21,26,27],(none,.bin 18 .add (S 17) (KS [46,46]))),(some [17],fa 19 5 1),(some [17],ld 20 19),(some [],(none,.call 21 14 [(S 20)])),(some [26,27],bn 22 .add 18 21),(some [26,27],(none,.bin 23 .add (S 22) (KS [32]))),(some [17,21],fa 24 5 2),(some [17,21],ld 25 24),(some [],(none,.call 26 15 [(S 25)])),(some [],(none,.call 27 14 [(S 26)])),(some [],bn 28 .add 23 27),(some [],(none,.bslice 29 1 [.str []] 1 [(0,(S 28))])),(none,(none,.app 30 1 16 (S 14) (S 29))),(some [],mv 3 30)]))) (.reg [(none,.bin 31 .add (S 10) (K 1)),mv 10 31]))))
def cc52 : ACode := (.seq (.reg [mv 32 3,mv 2 32]) .ret)
def cc53 : ACode := (.seq (.reg [(none,.box 1 (S 0)),(none,.mv 2 KN)]) (.seq (.reg [(none,.bslice 6 1 [.str []] 0 []),mv 3 6]) (.seq (.seq (.reg [fa 7 1 1,ld 8 7,(none,.len 9 (S 8)),(none,.mv 10 (K 0))]) (.block 0 (.loop cc51))) cc52)))
theorem ww54 (a0 : XStrategy) : ∀ (n : Nat) (v1 : Int) (v2 : List (List UInt8)) (r : (List (List UInt8))),f_spec_StrategyLines_1 a0 n v1 v2 = some r → ∀ σ : St,σ.kept [3,8,9,10] [] [384] = ⟨[(3,vc (.own 384)),(8,vc (aL (List.map XBranch.row a0.Branches))),(9,vc (aI (a0.Branches.length : Int))),(10,vc (aI v1))],[],[(384,1,List.map rS v2)]⟩ → go Tryd.prog (.code (.loop cc51) :: [.blk 0,.code cc52]) (Ret [2] [.sc (.o 1 (List.map rS r))]) .normal (some σ) := by
 intro n
 induction n with
 | zero => intro _ _ r h; cases h
 | succ n ih =>
  intro v1 v2 r h σ hσ
  rw [f_spec_StrategyLines_1] at h
  refine go_round ?_
  rcases Bool.eq_false_or_eq_true (decide (v1 < (a0.Branches.length : Int))) with hb3 | hb3
  ·rw [ite_t hb3] at h
   obtain ⟨x4,hx4,h⟩ := ob h
   try simp only [hσ,hb3,hx4,cc51,Nat.reduceBEq,reduceMul,reduceAdd,reduceDiv,Int.reduceBEq,RR]
   refine go_al rfl rfl ?_
   try simp only [hb3,hx4,Nat.reduceBEq,reduceMul,reduceAdd,reduceDiv,Int.reduceBEq,RR]
   refine go_fr_of rfl ?_
   obtain ⟨r5,hr5,h⟩ := ob h
   try simp only [hb3,hx4,Nat.reduceBEq,reduceMul,reduceAdd,reduceDiv,Int.reduceBEq,RR]
   refine go_dcallI (w_spec_FormatInt _ _ hr5) rfl rfl (Nat.le_of_ble_eq_true rfl) ?_
   obtain ⟨hg6,h⟩ := of_guard h
   obtain ⟨r7,hr7,h⟩ := ob h
   try simp only [hb3,hx4,hg6,Nat.reduceBEq,reduceMul,reduceAdd,reduceDiv,Int.reduceBEq,RR]
   refine go_dcallI (w_spec_FormatInt _ _ hr7) rfl rfl (Nat.le_of_ble_eq_true rfl) ?_
   obtain ⟨hg8,h⟩ := of_guard h
   obtain ⟨hg9,h⟩ := of_guard h
   try simp only [List.cons_append,List.nil_append] at hg9
   obtain ⟨r10,hr10,h⟩ := ob h
   try simp only [hb3,hx4,hg6,hg8,hg9,Nat.reduceBEq,reduceMul,reduceAdd,reduceDiv,Int.reduceBEq,RR]
   refine go_dcallI (w_spec_CostOf _ _ hr10) rfl rfl (Nat.le_of_ble_eq_true rfl) ?_
   obtain ⟨r11,hr11,h⟩ := ob h
   try simp only [hb3,hx4,hg6,hg8,hg9,Nat.reduceBEq,reduceMul,reduceAdd,reduceDiv,Int.reduceBEq,RR]
   refine go_dcallI (w_spec_FormatInt _ _ hr11) rfl rfl (Nat.le_of_ble_eq_true rfl) ?_
   obtain ⟨hg12,h⟩ := of_guard h
   try simp only [List.cons_append,List.nil_append] at hg12
   try simp only [hb3,hx4,hg6,hg8,hg9,hg12,Nat.reduceBEq,reduceMul,reduceAdd,reduceDiv,Int.reduceBEq,RR]
   refine go_bsl (es := List.map rS ([((((r5 ++ ([46,46] : List UInt8)) ++ r7) ++ ([32] : List UInt8)) ++ r11)] : List (List UInt8))) rfl rfl ?_
   obtain ⟨hg13,h⟩ := of_guard h
   try simp only [List.cons_append,List.nil_append] at hg13
   try simp only [hb3,hx4,hg6,hg8,hg9,hg12,hg13,Nat.reduceBEq,reduceMul,reduceAdd,reduceDiv,Int.reduceBEq,RR]
   refine go_fr_of rfl ?_
   try simp only [hb3,hx4,hg6,hg8,hg9,hg12,hg13,Nat.reduceBEq,reduceMul,reduceAdd,reduceDiv,Int.reduceBEq,RR]
   refine ih _ _ _ h _ ?_
   try simp only [hb3,hx4,hg6,hg8,hg9,hg12,hg13,Nat.reduceBEq,reduceMul,reduceAdd,reduceDiv,Int.reduceBEq,RR,List.map_nil]
  ·rw [ite_f hb3] at h
   try simp only [hσ,hb3,cc51,cc52,Nat.reduceBEq,reduceMul,reduceAdd,reduceDiv,Int.reduceBEq,RR]
   cases h
   exact ⟨⟨rfl,trivial⟩,rfl⟩
theorem ee55 : entry Tryd.prog 5 = some (cc53.strip,[2],33) := by kernel_rfl
theorem w_spec_StrategyLines (a0 : XStrategy) (r : (List (List UInt8))) (h : f_spec_StrategyLines a0 = some r) : FC Tryd.prog 5 [.ag (XStrategy.row a0)] [.sc (.o 1 (List.map rS r))] := by
 unfold f_spec_StrategyLines at h
 refine FC_go (σ := ⟨[(0,va [aI a0.Minute,aL (List.map XBranch.row a0.Branches)])],[],[]⟩) mixed ee55 rfl rfl ?_
 simp only [cc53]
 try simp only [Nat.reduceBEq,reduceMul,reduceAdd,reduceDiv,Int.reduceBEq,RR]
 refine go_bx rfl rfl rfl ?_
 try simp only [Nat.reduceBEq,reduceMul,reduceAdd,reduceDiv,Int.reduceBEq,RR]
 refine go_bsl (es := List.map rS ([] : List (List UInt8))) rfl rfl ?_
 try simp only [Nat.reduceBEq,reduceMul,reduceAdd,reduceDiv,Int.reduceBEq,RR]
 refine ww54 _ _ _ _ _ h _ ?_
 try simp only [Nat.reduceBEq,reduceMul,reduceAdd,reduceDiv,Int.reduceBEq,RR,List.map_nil]
/- 18: impl_FormatInt -/
def cc56 : ACode := (.seq (.reg [(none,.mv 2 (KS []))]) (.seq (.reg [mv 3 0,(none,.call 4 27 [(S 3)]),mv 2 4]) .ret))
theorem ee57 : entry Tryd.prog 18 = some (cc56.strip,[2],5) := by kernel_rfl
theorem w_impl_FormatInt (a0 : Int) (r : (List UInt8)) (h : f_impl_FormatInt a0 = some r) : FC Tryd.prog 18 [.sc (.int .i64 a0)] [.sc (.v (.str r))] := by
 unfold f_impl_FormatInt at h
 refine FC_go (σ := ⟨[(0,vc (aI a0))],[],[]⟩) mixed ee57 rfl rfl ?_
 simp only [cc56]
 obtain ⟨r1,hr1,h⟩ := ob h
 try simp only [Nat.reduceBEq,reduceMul,reduceAdd,reduceDiv,Int.reduceBEq,RR]
 refine go_callI (w_strconv_Itoa _ _ hr1) rfl rfl (Nat.le_of_ble_eq_true rfl) ?_
 try simp only [Nat.reduceBEq,reduceMul,reduceAdd,reduceDiv,Int.reduceBEq,RR]
 cases h
 exact ⟨⟨rfl,trivial⟩,rfl⟩
/- 19: impl_CostOf -/
def cc58 : ACode := .seq (.reg [(none,.keep [3,6,7,8] [] [])]) (.seq (.reg [bn 9 .lss 8 7]) (.seq (.cond (S 9) .skip (.exit 0)) (.seq (.block 1 (.seq (.reg [(none,.iaddr 10 (S 6) (S 8) 4),(none,.load 11 (S 10) true 4),(none,.alloc 5 [aI 0,aI 0,aI 0,.nil]),(none,.store (S 5) (S 11) 4)]) (.reg [mv 12 3,fa 13 5 2,ld 14 13,bn 15 .add 12 14,mv 3 15]))) (.reg [(none,.bin 16 .add (S 8) (K 1)),mv 8 16]))))
def cc59 : ACode := (.seq (.reg [mv 17 3,mv 2 17]) .ret)
def cc60 : ACode := (.seq (.reg [(none,.mv 2 (K 0))]) (.seq (.reg [(none,.mv 3 (K 0))]) (.seq (.seq (.reg [mv 6 0,(none,.len 7 (S 6)),(none,.mv 8 (K 0))]) (.block 0 (.loop cc58))) cc59)))
theorem ww61 (a0 : List XOption) : ∀ (n : Nat) (v1 : Int) (v2 : Int) (r : Int),f_impl_CostOf_1 a0 n v1 v2 = some r → ∀ σ : St,σ.kept [3,6,7,8] [] [] = ⟨[(3,vc (aI v1)),(6,vc (aL (List.map XOption.row a0))),(7,vc (aI (a0.length : Int))),(8,vc (aI v2))],[],[]⟩ → go Tryd.prog (.code (.loop cc58) :: [.blk 0,.code cc59]) (Ret [2] [.sc (.v (.int .i64 r))]) .normal (some σ) := by
 intro n
 induction n with
 | zero => intro _ _ r h; cases h
 | succ n ih =>
  intro v1 v2 r h σ hσ
  rw [f_impl_CostOf_1] at h
  refine go_round ?_
  rcases Bool.eq_false_or_eq_true (decide (v2 < (a0.length : Int))) with hb3 | hb3
  ·rw [ite_t hb3] at h
   obtain ⟨x4,hx4,h⟩ := ob h
   try simp only [hσ,hb3,hx4,cc58,Nat.reduceBEq,reduceMul,reduceAdd,reduceDiv,Int.reduceBEq,RR]
   refine go_al rfl rfl ?_
   try simp only [hb3,hx4,Nat.reduceBEq,reduceMul,reduceAdd,reduceDiv,Int.reduceBEq,RR]
   refine ih _ _ _ h _ ?_
   try simp only [hb3,hx4,Nat.reduceBEq,reduceMul,reduceAdd,reduceDiv,Int.reduceBEq,RR,List.map_nil]
  ·rw [ite_f hb3] at h
   try simp only [hσ,hb3,cc58,cc59,Nat.reduceBEq,reduceMul,reduceAdd,reduceDiv,Int.reduceBEq,RR]
   cases h
   exact ⟨⟨rfl,trivial⟩,rfl⟩
theorem ee62 : entry Tryd.prog 19 = some (cc60.strip,[2],18) := by kernel_rfl
theorem w_impl_CostOf (a0 : List XOption) (r : Int) (h : f_impl_CostOf a0 = some r) : FC Tryd.prog 19 [.sc (.sl (List.map XOption.row a0))] [.sc (.v (.int .i64 r))] := by
 unfold f_impl_CostOf at h
 refine FC_go (σ := ⟨[(0,vc (aL (List.map XOption.row a0)))],[],[]⟩) mixed ee62 rfl rfl ?_
 simp only [cc60]
 try simp only [Nat.reduceBEq,reduceMul,reduceAdd,reduceDiv,Int.reduceBEq,RR]
 refine ww61 _ _ _ _ _ h _ ?_
 try simp only [Nat.reduceBEq,reduceMul,reduceAdd,reduceDiv,Int.reduceBEq,RR,List.map_nil]
/- 25: impl_word -/
def cc63 : ACode := (.seq (.reg [(none,.mv 2 (KS []))]) (.seq (.seq (.reg [mv 5 0]) (.block 0 (.seq (.reg [(none,.tass 6 (S 5) 3 (aI 0)),(none,.extr 7 (S 6) 1),(none,.extr 8 (S 6) 0)]) (.cond (S 7) (.seq (.reg [mv 3 8]) (.seq (.reg [mv 9 3,(none,.call 10 18 [(S 9)]),mv 2 10]) .ret)) (.seq (.reg [(none,.tass 11 (S 5) 9 (aS [])),(none,.extr 12 (S 11) 1),(none,.extr 13 (S 11) 0)]) (.cond (S 12) (.seq (.reg [mv 4 13]) (.seq (.reg [mv 14 4,mv 2 14]) .ret)) .skip)))))) (.seq (.reg [(none,.mv 2 (KS []))]) .ret)))
theorem ee64 : entry Tryd.prog 25 = some (cc63.strip,[2],15) := by kernel_rfl
theorem w_impl_word (a0 : XAny) (r : (List UInt8)) (h : f_impl_word a0 = some r) : FC Tryd.prog 25 [.sc (anyD a0)] [.sc (.v (.str r))] := by
 unfold f_impl_word at h
 refine FC_go (σ := ⟨[(0,vc (.dat (anyD a0)))],[],[]⟩) mixed ee64 rfl rfl ?_
 simp only [cc63]
 rcases Bool.eq_false_or_eq_true a0.isS with hb1 | hb1
 ·rw [ite_t hb1] at h
  try simp only [hb1,Nat.reduceBEq,reduceMul,reduceAdd,reduceDiv,Int.reduceBEq,RR]
  cases h
  exact ⟨⟨rfl,trivial⟩,rfl⟩
 ·rw [ite_f hb1] at h
  obtain ⟨r2,hr2,h⟩ := ob h
  try simp only [hb1,Nat.reduceBEq,reduceMul,reduceAdd,reduceDiv,Int.reduceBEq,RR]
  refine go_callI (w_impl_FormatInt _ _ hr2) rfl rfl (Nat.le_of_ble_eq_true rfl) ?_
  try simp only [hb1,Nat.reduceBEq,reduceMul,reduceAdd,reduceDiv,Int.reduceBEq,RR]
  cases h
  exact ⟨⟨rfl,trivial⟩,rfl⟩
/- 26: impl_Join -/
def cc65 : ACode := (.seq (.reg [(none,.mv 4 (KS []))]) (.seq (.reg [mv 5 0,mv 6 1,(none,.call 7 32 [(S 5),(S 6)]),mv 4 7]) .ret))
theorem ee66 : entry Tryd.prog 26 = some (cc65.strip,[4],8) := by kernel_rfl
theorem w_impl_Join (a0 : List (List UInt8)) (a1 : List UInt8) (r : (List UInt8)) (h : f_impl_Join a0 a1 = some r) : FC Tryd.prog 26 [.sc (.sl (List.map rS a0)),.sc (.str a1)] [.sc (.v (.str r))] := by
 unfold f_impl_Join at h
 refine FC_go (σ := ⟨[(0,vc (aL (List.map rS a0))),(1,vc (aS a1))],[],[]⟩) mixed ee66 rfl rfl ?_
 simp only [cc65]
 obtain ⟨r1,hr1,h⟩ := ob h
 try simp only [Nat.reduceBEq,reduceMul,reduceAdd,reduceDiv,Int.reduceBEq,RR]
 refine go_callI (w_strings_Join _ _ _ hr1) rfl rfl (Nat.le_of_ble_eq_true rfl) ?_
 try simp only [Nat.reduceBEq,reduceMul,reduceAdd,reduceDiv,Int.reduceBEq,RR]
 cases h
 exact ⟨⟨rfl,trivial⟩,rfl⟩
/- 17: impl_words -/
def cc67 : ACode := .seq (.reg [(none,.keep [3,7,8,9] [] [384])]) (.seq (.reg [bn 10 .lss 9 8]) (.seq (.cond (S 10) .skip (.exit 0)) (.seq (.block 1 (.seq (.reg [(none,.iaddr 11 (S 7) (S 9) 1),ld 12 11,mv 5 12]) (.reg [mv 13 3,mv 14 5,(none,.call 15 25 [(S 14)]),(none,.bslice 16 1 [.str []] 1 [(0,(S 15))]),(none,.app 17 1 16 (S 13) (S 16)),mv 3 17]))) (.reg [(none,.bin 18 .add (S 9) (K 1)),mv 9 18]))))
def cc68 : ACode := (.seq (.reg [mv 19 3,(none,.call 20 26 [(S 19),(KS [32])]),mv 2 20]) .ret)
def cc69 : ACode := (.seq (.reg [(none,.mv 2 (KS []))]) (.seq (.reg [(none,.bslice 6 1 [.str []] 0 []),mv 3 6]) (.seq (.seq (.reg [mv 7 0,(none,.len 8 (S 7)),(none,.mv 9 (K 0))]) (.block 0 (.loop cc67))) cc68)))
theorem ww70 (a0 : List XAny) : ∀ (n : Nat) (v1 : Int) (v2 : List (List UInt8)) (r : (List UInt8)),f_impl_words_1 a0 n v1 v2 = some r → ∀ σ : St,σ.kept [3,7,8,9] [] [384] = ⟨[(3,vc (.own 384)),(7,vc (aL (List.map rA a0))),(8,vc (aI (a0.length : Int))),(9,vc (aI v1))],[],[(384,1,List.map rS v2)]⟩ → go Tryd.prog (.code (.loop cc67) :: [.blk 0,.code cc68]) (Ret [2] [.sc (.v (.str r))]) .normal (some σ) := by
 intro n
 induction n with
 | zero => intro _ _ r h; cases h
 | succ n ih =>
  intro v1 v2 r h σ hσ
  rw [f_impl_words_1] at h
  refine go_round ?_
  rcases Bool.eq_false_or_eq_true (decide (v1 < (a0.length : Int))) with hb3 | hb3
  ·rw [ite_t hb3] at h
   obtain ⟨x4,hx4,h⟩ := ob h
   obtain ⟨r5,hr5,h⟩ := ob h
   try simp only [hσ,hb3,hx4,cc67,Nat.reduceBEq,reduceMul,reduceAdd,reduceDiv,Int.reduceBEq,RR]
   refine go_callI (w_impl_word _ _ hr5) rfl rfl (Nat.le_of_ble_eq_true rfl) ?_
   try simp only [hb3,hx4,Nat.reduceBEq,reduceMul,reduceAdd,reduceDiv,Int.reduceBEq,RR]
   refine go_bsl (es := List.map rS ([r5] : List (List UInt8))) rfl rfl ?_
   obtain ⟨hg6,h⟩ := of_guard h
   try simp only [hb3,hx4,hg6,Nat.reduceBEq,reduceMul,reduceAdd,reduceDiv,Int.reduceBEq,RR]
   refine ih _ _ _ h _ ?_
   try simp only [hb3,hx4,hg6,Nat.reduceBEq,reduceMul,reduceAdd,reduceDiv,Int.reduceBEq,RR,List.map_nil]
  ·rw [ite_f hb3] at h
   obtain ⟨r7,hr7,h⟩ := ob h
   try simp only [hσ,hb3,cc67,cc68,Nat.reduceBEq,reduceMul,reduceAdd,reduceDiv,Int.reduceBEq,RR]
   refine go_call (w_impl_Join _ _ _ hr7) rfl (flat_of rfl) rfl (Nat.le_of_ble_eq_true rfl) ?_
   try simp only [hb3,Nat.reduceBEq,reduceMul,reduceAdd,reduceDiv,Int.reduceBEq,RR]
   cases h
   exact ⟨⟨rfl,trivial⟩,rfl⟩
theorem ee71 : entry Tryd.prog 17 = some (cc69.strip,[2],21) := by kernel_rfl
theorem w_impl_words (a0 : List XAny) (r : (List UInt8)) (h : f_impl_words a0 = some r) : FC Tryd.prog 17 [.sc (.sl (List.map rA a0))] [.sc (.v (.str r))] := by
 unfold f_impl_words at h
 refine FC_go (σ := ⟨[(0,vc (aL (List.map rA a0)))],[],[]⟩) mixed ee71 rfl rfl ?_
 simp only [cc69]
 try simp only [Nat.reduceBEq,reduceMul,reduceAdd,reduceDiv,Int.reduceBEq,RR]
 refine go_bsl (es := List.map rS ([] : List (List UInt8))) rfl rfl ?_
 try simp only [Nat.reduceBEq,reduceMul,reduceAdd,reduceDiv,Int.reduceBEq,RR]
 refine ww70 _ _ _ _ _ h _ ?_
 try simp only [Nat.reduceBEq,reduceMul,reduceAdd,reduceDiv,Int.reduceBEq,RR,List.map_nil]
/- 7: impl_StrategyLines -/
def cc72 : ACode := .seq (.reg [(none,.keep [3,8,9,10] [] [384])]) (.seq (.reg [bn 11 .lss 10 9]) (.seq (.cond (S 11) .skip (.exit 0)) (.seq (.block 1 (.seq (.reg [(none,.iaddr 12 (S 8) (S 10) 3),(none,.load 13 (S 12) true 3),(none,.alloc 5 [aI 0,aI 0,.nil]),(none,.store (S 5) (S 13) 3)]) (.drw [(some [17,21,26,28,29,30],mv 14 3),(some [],fa 15 5 0),(some [],ld 16 15),(some [],(none,.call 17 18 [(S 16)])),(some [21,26],(none,.bin 18 .add (S 17) (KS [46,46]))),(some [17],fa 19 5 1),(some [17],ld 20 19),(some [],(none,.call 21 18 [(S 20)])),(some [26],bn 22 .add 18 21),(some [26],(none,.mkif 23 9 (S 22))),(some [17,21],fa 24 5 2),(some [17,21],ld 25 24),(some [],(none,.call 26 19 [(S 25)])),(some [],(none,.mkif 27 3 (S 26))),(some [],(none,.bslice 28 1 [.noi] 2 [(0,(S 23)),(1,(S 27))])),(some [],(none,.call 29 17 [(S 28)])),(some [],(none,.bslice 30 1 [.str []] 1 [(0,(S 29))])),(none,(none,.app 31 1 16 (S 14) (S 30))),(some [],mv 3 31)]))) (.reg [(none,.bin 32 .add (S 10) (K 1)),mv 10 32]))))
def cc73 : ACode := (.seq (.reg [mv 33 3,mv 2 33]) .ret)
def cc74 : ACode := (.seq (.reg [(none,.box 1 (S 0)),(none,.mv 2 KN)]) (.seq (.reg [(none,.bslice 6 1 [.str []] 0 []),mv 3 6]) (.seq (.seq (.reg [fa 7 1 1,ld 8 7,(none,.len 9 (S 8)),(none,.mv 10 (K 0))]) (.block 0 (.loop cc72))) cc73)))
theorem ww75 (a0 : XStrategy) : ∀ (n : Nat) (v1 : Int) (v2 : List (List UInt8)) (r : (List (List UInt8))),f_impl_StrategyLines_1 a0 n v1 v2 = some r → ∀ σ : St,σ.kept [3,8,9,10] [] [384] = ⟨[(3,vc (.own 384)),(8,vc (aL (List.map XBranch.row a0.Branches))),(9,vc (aI (a0.Branches.length : Int))),(10,vc (aI v1))],[],[(384,1,List.map rS v2)]⟩ → go Tryd.prog (.code (.loop cc72) :: [.blk 0,.code cc73]) (Ret [2] [.sc (.o 1 (List.map rS r))]) .normal (some σ) := by
 intro n
 induction n with
 | zero => intro _ _ r h; cases h
 | succ n ih =>
  intro v1 v2 r h σ hσ
  rw [f_impl_StrategyLines_1] at h
  refine go_round ?_
  rcases Bool.eq_false_or_eq_true (decide (v1 < (a0.Branches.length : Int))) with hb3 | hb3
  ·rw [ite_t hb3] at h
   obtain ⟨x4,hx4,h⟩ := ob h
   try simp only [hσ,hb3,hx4,cc72,Nat.reduceBEq,reduceMul,reduceAdd,reduceDiv,Int.reduceBEq,RR]
   refine go_al rfl rfl ?_
   try simp only [hb3,hx4,Nat.reduceBEq,reduceMul,reduceAdd,reduceDiv,Int.reduceBEq,RR]
   refine go_fr_of rfl ?_
   obtain ⟨r5,hr5,h⟩ := ob h
   try simp only [hb3,hx4,Nat.reduceBEq,reduceMul,reduceAdd,reduceDiv,Int.reduceBEq,RR]
   refine go_dcallI (w_impl_FormatInt _ _ hr5) rfl rfl (Nat.le_of_ble_eq_true rfl) ?_
   obtain ⟨hg6,h⟩ := of_guard h
   obtain ⟨r7,hr7,h⟩ := ob h
   try simp only [hb3,hx4,hg6,Nat.reduceBEq,reduceMul,reduceAdd,reduceDiv,Int.reduceBEq,RR]
   refine go_dcallI (w_impl_FormatInt _ _ hr7) rfl rfl (Nat.le_of_ble_eq_true rfl) ?_
   obtain ⟨hg8,h⟩ := of_guard h
   obtain ⟨r9,hr9,h⟩ := ob h
   try simp only [hb3,hx4,hg6,hg8,Nat.reduceBEq,reduceMul,reduceAdd,reduceDiv,Int.reduceBEq,RR]
   refine go_dcallI (w_impl_CostOf _ _ hr9) rfl rfl (Nat.le_of_ble_eq_true rfl) ?_
   try simp only [hb3,hx4,hg6,hg8,Nat.reduceBEq,reduceMul,reduceAdd,reduceDiv,Int.reduceBEq,RR]
   refine go_bsl (es := List.map rA ([(⟨true,((r5 ++ ([46,46] : List UInt8)) ++ r7),0⟩ : XAny),(⟨false,[],r9⟩ : XAny)] : List XAny)) rfl rfl ?_
   obtain ⟨r10,hr10,h⟩ := ob h
   try simp only [hb3,hx4,hg6,hg8,Nat.reduceBEq,reduceMul,reduceAdd,reduceDiv,Int.reduceBEq,RR]
   refine go_dcall (w_impl_words _ _ hr10) (by first | rfl | kernel_rfl) (flat_of rfl) rfl (Nat.le_of_ble_eq_true rfl) ?_
   try simp only [hb3,hx4,hg6,hg8,Nat.reduceBEq,reduceMul,reduceAdd,reduceDiv,Int.reduceBEq,RR]
   refine go_bsl (es := List.map rS ([r10] : List (List UInt8))) rfl rfl ?_
   obtain ⟨hg11,h⟩ := of_guard h
   try simp only [hb3,hx4,hg6,hg8,hg11,Nat.reduceBEq,reduceMul,reduceAdd,reduceDiv,Int.reduceBEq,RR]
   refine go_fr_of rfl ?_
   try simp only [hb3,hx4,hg6,hg8,hg11,Nat.reduceBEq,reduceMul,reduceAdd,reduceDiv,Int.reduceBEq,RR]
   refine ih _ _ _ h _ ?_
   try simp only [hb3,hx4,hg6,hg8,hg11,Nat.reduceBEq,reduceMul,reduceAdd,reduceDiv,Int.reduceBEq,RR,List.map_nil]
  ·rw [ite_f hb3] at h
   try simp only [hσ,hb3,cc72,cc73,Nat.reduceBEq,reduceMul,reduceAdd,reduceDiv,Int.reduceBEq,RR]
   cases h
   exact ⟨⟨rfl,trivial⟩,rfl⟩
theorem ee76 : entry Tryd.prog 7 = some (cc74.strip,[2],34) := by kernel_rfl
theorem w_impl_StrategyLines (a0 : XStrategy) (r : (List (List UInt8))) (h : f_impl_StrategyLines a0 = some r) : FC Tryd.prog 7 [.ag (XStrategy.row a0)] [.sc (.o 1 (List.map rS r))] := by
 unfold f_impl_StrategyLines at h
 refine FC_go (σ := ⟨[(0,va [aI a0.Minute,aL (List.map XBranch.row a0.Branches)])],[],[]⟩) mixed ee76 rfl rfl ?_
 simp only [cc74]
 try simp only [Nat.reduceBEq,reduceMul,reduceAdd,reduceDiv,Int.reduceBEq,RR]
 refine go_bx rfl rfl rfl ?_
 try simp only [Nat.reduceBEq,reduceMul,reduceAdd,reduceDiv,Int.reduceBEq,RR]
 refine go_bsl (es := List.map rS ([] : List (List UInt8))) rfl rfl ?_
 try simp only [Nat.reduceBEq,reduceMul,reduceAdd,reduceDiv,Int.reduceBEq,RR]
 refine ww75 _ _ _ _ _ h _ ?_
 try simp only [Nat.reduceBEq,reduceMul,reduceAdd,reduceDiv,Int.reduceBEq,RR,List.map_nil]
/- 8: laws_eqStringS -/
def cc77 : ACode := .seq (.reg [(none,.keep [0,1,5] [] [])]) (.seq (.seq (.reg [mv 11 5,mv 12 0,(none,.len 13 (S 12)),bn 14 .lss 11 13]) (.cond (S 14) .skip (.exit 0))) (.seq (.block 1 (.seq (.drw [(some [],mv 17 0),(some [],mv 18 5),(some [],(none,.iaddr 19 (S 17) (S 18) 1)),(some [],ld 20 19),(some [],mv 21 1),(some [],mv 22 5),(some [],(none,.iaddr 23 (S 21) (S 22) 1)),(some [],ld 24 23),(some [],bn 25 .neq 20 24)]) (.cond (S 25) (.seq (.reg [(none,.mv 4 (KB false))]) .ret) .skip))) (.reg [mv 15 5,(none,.bin 16 .add (S 15) (K 1)),mv 5 16])))
def cc78 : ACode := (.seq (.reg [(none,.mv 4 (KB true))]) .ret)
def cc79 : ACode := (.seq (.reg [(none,.mv 4 (KB false))]) (.seq (.seq (.reg [mv 6 0,(none,.len 7 (S 6)),mv 8 1,(none,.len 9 (S 8)),bn 10 .neq 7 9]) (.cond (S 10) (.seq (.reg [(none,.mv 4 (KB false))]) .ret) .skip)) (.seq (.seq (.reg [(none,.mv 5 (K 0))]) (.block 0 (.loop cc77))) cc78)))
theorem ww80 (a0 : List (List UInt8)) (a1 : List (List UInt8)) : ∀ (n : Nat) (v2 : Int) (r : Bool),f_laws_eqStringS_1 a0 a1 n v2 = some r → ∀ σ : St,σ.kept [0,1,5] [] [] = ⟨[(0,vc (aL (List.map rS a0))),(1,vc (aL (List.map rS a1))),(5,vc (aI v2))],[],[]⟩ → go Tryd.prog (.code (.loop cc77) :: [.blk 0,.code cc78]) (Ret [4] [.sc (.v (.bool r))]) .normal (some σ) := by
 intro n
 induction n with
 | zero => intro _ r h; cases h
 | succ n ih =>
  intro v2 r h σ hσ
  rw [f_laws_eqStringS_1] at h
  refine go_round ?_
  rcases Bool.eq_false_or_eq_true (decide (v2 < (a0.length : Int))) with hb3 | hb3
  ·rw [ite_t hb3] at h
   try simp only [hσ,hb3,cc77,Nat.reduceBEq,reduceMul,reduceAdd,reduceDiv,Int.reduceBEq,RR]
   refine go_fr_of rfl ?_
   obtain ⟨x4,hx4,h⟩ := ob h
   obtain ⟨x5,hx5,h⟩ := ob h
   rcases Bool.eq_false_or_eq_true (x4 == x5) with hb6 | hb6
   ·rw [ite_t hb6] at h
    try simp only [hb3,hx4,hx5,hb6,Nat.reduceBEq,reduceMul,reduceAdd,reduceDiv,Int.reduceBEq,RR]
    refine ih _ _ h _ ?_
    try simp only [hb3,hx4,hx5,hb6,Nat.reduceBEq,reduceMul,reduceAdd,reduceDiv,Int.reduceBEq,RR,List.map_nil]
   ·rw [ite_f hb6] at h
    try simp only [hb3,hx4,hx5,hb6,Nat.reduceBEq,reduceMul,reduceAdd,reduceDiv,Int.reduceBEq,RR]
    cases h
    exact ⟨⟨rfl,trivial⟩,rfl⟩
  ·rw [ite_f hb3] at h
   try simp only [hσ,hb3,cc77,cc78,Nat.reduceBEq,reduceMul,reduceAdd,reduceDiv,Int.reduceBEq,RR]
   cases h
   exact ⟨⟨rfl,trivial⟩,rfl⟩
theorem ee81 : entry Tryd.prog 8 = some (cc79.strip,[4],26) := by kernel_rfl
theorem w_laws_eqStringS (a0 : List (List UInt8)) (a1 : List (List UInt8)) (r : Bool) (h : f_laws_eqStringS a0 a1 = some r) : FC Tryd.prog 8 [.sc (.sl (List.map rS a0)),.sc (.sl (List.map rS a1))] [.sc (.v (.bool r))] := by
 unfold f_laws_eqStringS at h
 refine FC_go (σ := ⟨[(0,vc (aL (List.map rS a0))),(1,vc (aL (List.map rS a1)))],[],[]⟩) mixed ee81 rfl rfl ?_
 simp only [cc79]
 rcases Bool.eq_false_or_eq_true ((a0.length : Int) != (a1.length : Int)) with hb1 | hb1
 ·rw [ite_t hb1] at h
  try simp only [hb1,Nat.reduceBEq,reduceMul,reduceAdd,reduceDiv,Int.reduceBEq,RR]
  cases h
  exact ⟨⟨rfl,trivial⟩,rfl⟩
 ·rw [ite_f hb1] at h
  try simp only [hb1,Nat.reduceBEq,reduceMul,reduceAdd,reduceDiv,Int.reduceBEq,RR]
  refine ww80 _ _ _ _ _ h _ ?_
  try simp only [hb1,Nat.reduceBEq,reduceMul,reduceAdd,reduceDiv,Int.reduceBEq,RR,List.map_nil]
/- 60: laws_eqPassage -/
def cc82 : ACode := (.seq (.reg [(none,.box 2 (S 0)),(none,.box 3 (S 1)),(none,.mv 4 (KB false))]) (.seq (.seq (.reg [fa 5 2 0,ld 6 5,fa 7 3 0,ld 8 7,bn 9 .neq 6 8]) (.cond (S 9) (.seq (.reg [(none,.mv 4 (KB false))]) .ret) .skip)) (.seq (.seq (.reg [fa 10 2 1,ld 11 10,fa 12 3 1,ld 13 12,bn 14 .neq 11 13]) (.cond (S 14) (.seq (.reg [(none,.mv 4 (KB false))]) .ret) .skip)) (.seq (.seq (.reg [fa 15 2 2,ld 16 15,fa 17 3 2,ld 18 17,(none,.beq 19 true (S 16) (S 18))]) (.cond (S 19) (.seq (.reg [(none,.mv 4 (KB false))]) .ret) .skip)) (.seq (.seq (.reg [fa 20 2 3,ld 21 20,fa 22 3 3,ld 23 22,bn 24 .neq 21 23]) (.cond (S 24) (.seq (.reg [(none,.mv 4 (KB false))]) .ret) .skip)) (.seq (.seq (.reg [fa 25 2 4,ld 26 25,fa 27 3 4,ld 28 27,bn 29 .neq 26 28]) (.cond (S 29) (.seq (.reg [(none,.mv 4 (KB false))]) .ret) .skip)) (.seq (.reg [(none,.mv 4 (KB true))]) .ret)))))))
theorem ee83 : entry Tryd.prog 60 = some (cc82.strip,[4],30) := by kernel_rfl
theorem w_laws_eqPassage (a0 : XPassage) (a1 : XPassage) (r : Bool) (h : f_laws_eqPassage a0 a1 = some r) : FC Tryd.prog 60 [.ag (XPassage.row a0),.ag (XPassage.row a1)] [.sc (.v (.bool r))] := by
 unfold f_laws_eqPassage at h
 refine FC_go (σ := ⟨[(0,va [aI a0.Ship,aI a0.Segment,aB a0.Toward,aI a0.Start,aI a0.End]),(1,va [aI a1.Ship,aI a1.Segment,aB a1.Toward,aI a1.Start,aI a1.End])],[],[]⟩) mixed ee83 rfl rfl ?_
 simp only [cc82]
 try simp only [Nat.reduceBEq,reduceMul,reduceAdd,reduceDiv,Int.reduceBEq,RR]
 refine go_bx rfl rfl rfl ?_
 try simp only [Nat.reduceBEq,reduceMul,reduceAdd,reduceDiv,Int.reduceBEq,RR]
 refine go_bx rfl rfl rfl ?_
 rcases Bool.eq_false_or_eq_true (a0.Ship != a1.Ship) with hb1 | hb1
 ·rw [ite_t hb1] at h
  try simp only [hb1,Nat.reduceBEq,reduceMul,reduceAdd,reduceDiv,Int.reduceBEq,RR]
  cases h
  exact ⟨⟨rfl,trivial⟩,rfl⟩
 ·rw [ite_f hb1] at h
  rcases Bool.eq_false_or_eq_true (a0.Segment != a1.Segment) with hb2 | hb2
  ·rw [ite_t hb2] at h
   try simp only [hb1,hb2,Nat.reduceBEq,reduceMul,reduceAdd,reduceDiv,Int.reduceBEq,RR]
   cases h
   exact ⟨⟨rfl,trivial⟩,rfl⟩
  ·rw [ite_f hb2] at h
   rcases Bool.eq_false_or_eq_true (a0.Toward == a1.Toward) with hb3 | hb3
   ·rw [ite_t hb3] at h
    rcases Bool.eq_false_or_eq_true (a0.Start != a1.Start) with hb4 | hb4
    ·rw [ite_t hb4] at h
     try simp only [hb1,hb2,hb3,hb4,Nat.reduceBEq,reduceMul,reduceAdd,reduceDiv,Int.reduceBEq,RR]
     cases h
     exact ⟨⟨rfl,trivial⟩,rfl⟩
    ·rw [ite_f hb4] at h
     rcases Bool.eq_false_or_eq_true (a0.End != a1.End) with hb5 | hb5
     ·rw [ite_t hb5] at h
      try simp only [hb1,hb2,hb3,hb4,hb5,Nat.reduceBEq,reduceMul,reduceAdd,reduceDiv,Int.reduceBEq,RR]
      cases h
      exact ⟨⟨rfl,trivial⟩,rfl⟩
     ·rw [ite_f hb5] at h
      try simp only [hb1,hb2,hb3,hb4,hb5,Nat.reduceBEq,reduceMul,reduceAdd,reduceDiv,Int.reduceBEq,RR]
      cases h
      exact ⟨⟨rfl,trivial⟩,rfl⟩
   ·rw [ite_f hb3] at h
    try simp only [hb1,hb2,hb3,Nat.reduceBEq,reduceMul,reduceAdd,reduceDiv,Int.reduceBEq,RR]
    cases h
    exact ⟨⟨rfl,trivial⟩,rfl⟩
/- 51: laws_eqPassageS -/
def cc84 : ACode := .seq (.reg [(none,.keep [0,1,5] [] [])]) (.seq (.seq (.reg [mv 11 5,mv 12 0,(none,.len 13 (S 12)),bn 14 .lss 11 13]) (.cond (S 14) .skip (.exit 0))) (.seq (.block 1 (.seq (.drw [(some [],mv 17 0),(some [],mv 18 5),(some [],(none,.iaddr 19 (S 17) (S 18) 5)),(some [],(none,.load 20 (S 19) true 5)),(some [],mv 21 1),(some [],mv 22 5),(some [],(none,.iaddr 23 (S 21) (S 22) 5)),(some [],(none,.load 24 (S 23) true 5)),(some [],(none,.call 25 60 [(S 20),(S 24)])),(some [],(none,.un 26 .not (S 25)))]) (.cond (S 26) (.seq (.reg [(none,.mv 4 (KB false))]) .ret) .skip))) (.reg [mv 15 5,(none,.bin 16 .add (S 15) (K 1)),mv 5 16])))
def cc85 : ACode := (.seq (.reg [(none,.mv 4 (KB true))]) .ret)
def cc86 : ACode := (.seq (.reg [(none,.mv 4 (KB false))]) (.seq (.seq (.reg [mv 6 0,(none,.len 7 (S 6)),mv 8 1,(none,.len 9 (S 8)),bn 10 .neq 7 9]) (.cond (S 10) (.seq (.reg [(none,.mv 4 (KB false))]) .ret) .skip)) (.seq (.seq (.reg [(none,.mv 5 (K 0))]) (.block 0 (.loop cc84))) cc85)))
theorem ww87 (a0 : List XPassage) (a1 : List XPassage) : ∀ (n : Nat) (v2 : Int) (r : Bool),f_laws_eqPassageS_1 a0 a1 n v2 = some r → ∀ σ : St,σ.kept [0,1,5] [] [] = ⟨[(0,vc (aL (List.map XPassage.row a0))),(1,vc (aL (List.map XPassage.row a1))),(5,vc (aI v2))],[],[]⟩ → go Tryd.prog (.code (.loop cc84) :: [.blk 0,.code cc85]) (Ret [4] [.sc (.v (.bool r))]) .normal (some σ) := by
 intro n
 induction n with
 | zero => intro _ r h; cases h
 | succ n ih =>
  intro v2 r h σ hσ
  rw [f_laws_eqPassageS_1] at h
  refine go_round ?_
  rcases Bool.eq_false_or_eq_true (decide (v2 < (a0.length : Int))) with hb3 | hb3
  ·rw [ite_t hb3] at h
   try simp only [hσ,hb3,cc84,Nat.reduceBEq,reduceMul,reduceAdd,reduceDiv,Int.reduceBEq,RR]
   refine go_fr_of rfl ?_
   obtain ⟨x4,hx4,h⟩ := ob h
   obtain ⟨x5,hx5,h⟩ := ob h
   obtain ⟨r6,hr6,h⟩ := ob h
   try simp only [hb3,hx4,hx5,Nat.reduceBEq,reduceMul,reduceAdd,reduceDiv,Int.reduceBEq,RR]
   refine go_dcallI (w_laws_eqPassage _ _ _ hr6) rfl rfl (Nat.le_of_ble_eq_true rfl) ?_
   rcases Bool.eq_false_or_eq_true r6 with hb7 | hb7
   ·rw [ite_t hb7] at h
    try simp only [hb3,hx4,hx5,hb7,Nat.reduceBEq,reduceMul,reduceAdd,reduceDiv,Int.reduceBEq,RR]
    refine ih _ _ h _ ?_
    try simp only [hb3,hx4,hx5,hb7,Nat.reduceBEq,reduceMul,reduceAdd,reduceDiv,Int.reduceBEq,RR,List.map_nil]
   ·rw [ite_f hb7] at h
    try simp only [hb3,hx4,hx5,hb7,Nat.reduceBEq,reduceMul,reduceAdd,reduceDiv,Int.reduceBEq,RR]
    cases h
    exact ⟨⟨rfl,trivial⟩,rfl⟩
  ·rw [ite_f hb3] at h
   try simp only [hσ,hb3,cc84,cc85,Nat.reduceBEq,reduceMul,reduceAdd,reduceDiv,Int.reduceBEq,RR]
   cases h
   exact ⟨⟨rfl,trivial⟩,rfl⟩
theorem ee88 : entry Tryd.prog 51 = some (cc86.strip,[4],27) := by kernel_rfl
theorem w_laws_eqPassageS (a0 : List XPassage) (a1 : List XPassage) (r : Bool) (h : f_laws_eqPassageS a0 a1 = some r) : FC Tryd.prog 51 [.sc (.sl (List.map XPassage.row a0)),.sc (.sl (List.map XPassage.row a1))] [.sc (.v (.bool r))] := by
 unfold f_laws_eqPassageS at h
 refine FC_go (σ := ⟨[(0,vc (aL (List.map XPassage.row a0))),(1,vc (aL (List.map XPassage.row a1)))],[],[]⟩) mixed ee88 rfl rfl ?_
 simp only [cc86]
 rcases Bool.eq_false_or_eq_true ((a0.length : Int) != (a1.length : Int)) with hb1 | hb1
 ·rw [ite_t hb1] at h
  try simp only [hb1,Nat.reduceBEq,reduceMul,reduceAdd,reduceDiv,Int.reduceBEq,RR]
  cases h
  exact ⟨⟨rfl,trivial⟩,rfl⟩
 ·rw [ite_f hb1] at h
  try simp only [hb1,Nat.reduceBEq,reduceMul,reduceAdd,reduceDiv,Int.reduceBEq,RR]
  refine ww87 _ _ _ _ _ h _ ?_
  try simp only [hb1,Nat.reduceBEq,reduceMul,reduceAdd,reduceDiv,Int.reduceBEq,RR,List.map_nil]
/- 42: laws_eqOption -/
def cc89 : ACode := (.seq (.reg [(none,.box 2 (S 0)),(none,.box 3 (S 1)),(none,.mv 4 (KB false))]) (.seq (.seq (.reg [fa 5 2 0,ld 6 5,fa 7 3 0,ld 8 7,bn 9 .neq 6 8]) (.cond (S 9) (.seq (.reg [(none,.mv 4 (KB false))]) .ret) .skip)) (.seq (.seq (.reg [fa 10 2 1,ld 11 10,fa 12 3 1,ld 13 12,bn 14 .neq 11 13]) (.cond (S 14) (.seq (.reg [(none,.mv 4 (KB false))]) .ret) .skip)) (.seq (.seq (.reg [fa 15 2 2,ld 16 15,fa 17 3 2,ld 18 17,bn 19 .neq 16 18]) (.cond (S 19) (.seq (.reg [(none,.mv 4 (KB false))]) .ret) .skip)) (.seq (.seq (.reg [fa 20 2 3,ld 21 20,fa 22 3 3,ld 23 22,(none,.call 24 51 [(S 21),(S 23)]),(none,.un 25 .not (S 24))]) (.cond (S 25) (.seq (.reg [(none,.mv 4 (KB false))]) .ret) .skip)) (.seq (.reg [(none,.mv 4 (KB true))]) .ret))))))
theorem ee90 : entry Tryd.prog 42 = some (cc89.strip,[4],26) := by kernel_rfl
theorem w_laws_eqOption (a0 : XOption) (a1 : XOption) (r : Bool) (h : f_laws_eqOption a0 a1 = some r) : FC Tryd.prog 42 [.ag (XOption.row a0),.ag (XOption.row a1)] [.sc (.v (.bool r))] := by
 unfold f_laws_eqOption at h
 refine FC_go (σ := ⟨[(0,va [aI a0.Start,aI a0.Arrival,aI a0.Cost,aL (List.map XPassage.row a0.Passages)]),(1,va [aI a1.Start,aI a1.Arrival,aI a1.Cost,aL (List.map XPassage.row a1.Passages)])],[],[]⟩) mixed ee90 rfl rfl ?_
 simp only [cc89]
 try simp only [Nat.reduceBEq,reduceMul,reduceAdd,reduceDiv,Int.reduceBEq,RR]
 refine go_bx rfl rfl rfl ?_
 try simp only [Nat.reduceBEq,reduceMul,reduceAdd,reduceDiv,Int.reduceBEq,RR]
 refine go_bx rfl rfl rfl ?_
 rcases Bool.eq_false_or_eq_true (a0.Start != a1.Start) with hb1 | hb1
 ·rw [ite_t hb1] at h
  try simp only [hb1,Nat.reduceBEq,reduceMul,reduceAdd,reduceDiv,Int.reduceBEq,RR]
  cases h
  exact ⟨⟨rfl,trivial⟩,rfl⟩
 ·rw [ite_f hb1] at h
  rcases Bool.eq_false_or_eq_true (a0.Arrival != a1.Arrival) with hb2 | hb2
  ·rw [ite_t hb2] at h
   try simp only [hb1,hb2,Nat.reduceBEq,reduceMul,reduceAdd,reduceDiv,Int.reduceBEq,RR]
   cases h
   exact ⟨⟨rfl,trivial⟩,rfl⟩
  ·rw [ite_f hb2] at h
   rcases Bool.eq_false_or_eq_true (a0.Cost != a1.Cost) with hb3 | hb3
   ·rw [ite_t hb3] at h
    try simp only [hb1,hb2,hb3,Nat.reduceBEq,reduceMul,reduceAdd,reduceDiv,Int.reduceBEq,RR]
    cases h
    exact ⟨⟨rfl,trivial⟩,rfl⟩
   ·rw [ite_f hb3] at h
    obtain ⟨r4,hr4,h⟩ := ob h
    try simp only [hb1,hb2,hb3,Nat.reduceBEq,reduceMul,reduceAdd,reduceDiv,Int.reduceBEq,RR]
    refine go_callI (w_laws_eqPassageS _ _ _ hr4) rfl rfl (Nat.le_of_ble_eq_true rfl) ?_
    rcases Bool.eq_false_or_eq_true r4 with hb5 | hb5
    ·rw [ite_t hb5] at h
     try simp only [hb1,hb2,hb3,hb5,Nat.reduceBEq,reduceMul,reduceAdd,reduceDiv,Int.reduceBEq,RR]
     cases h
     exact ⟨⟨rfl,trivial⟩,rfl⟩
    ·rw [ite_f hb5] at h
     try simp only [hb1,hb2,hb3,hb5,Nat.reduceBEq,reduceMul,reduceAdd,reduceDiv,Int.reduceBEq,RR]
     cases h
     exact ⟨⟨rfl,trivial⟩,rfl⟩
/- 34: laws_eqOptionS -/
def cc91 : ACode := .seq (.reg [(none,.keep [0,1,5] [] [])]) (.seq (.seq (.reg [mv 11 5,mv 12 0,(none,.len 13 (S 12)),bn 14 .lss 11 13]) (.cond (S 14) .skip (.exit 0))) (.seq (.block 1 (.seq (.drw [(some [],mv 17 0),(some [],mv 18 5),(some [],(none,.iaddr 19 (S 17) (S 18) 4)),(some [],(none,.load 20 (S 19) true 4)),(some [],mv 21 1),(some [],mv 22 5),(some [],(none,.iaddr 23 (S 21) (S 22) 4)),(some [],(none,.load 24 (S 23) true 4)),(some [],(none,.call 25 42 [(S 20),(S 24)])),(some [],(none,.un 26 .not (S 25)))]) (.cond (S 26) (.seq (.reg [(none,.mv 4 (KB false))]) .ret) .skip))) (.reg [mv 15 5,(none,.bin 16 .add (S 15) (K 1)),mv 5 16])))
def cc92 : ACode := (.seq (.reg [(none,.mv 4 (KB true))]) .ret)
def cc93 : ACode := (.seq (.reg [(none,.mv 4 (KB false))]) (.seq (.seq (.reg [mv 6 0,(none,.len 7 (S 6)),mv 8 1,(none,.len 9 (S 8)),bn 10 .neq 7 9]) (.cond (S 10) (.seq (.reg [(none,.mv 4 (KB false))]) .ret) .skip)) (.seq (.seq (.reg [(none,.mv 5 (K 0))]) (.block 0 (.loop cc91))) cc92)))
theorem ww94 (a0 : List XOption) (a1 : List XOption) : ∀ (n : Nat) (v2 : Int) (r : Bool),f_laws_eqOptionS_1 a0 a1 n v2 = some r → ∀ σ : St,σ.kept [0,1,5] [] [] = ⟨[(0,vc (aL (List.map XOption.row a0))),(1,vc (aL (List.map XOption.row a1))),(5,vc (aI v2))],[],[]⟩ → go Tryd.prog (.code (.loop cc91) :: [.blk 0,.code cc92]) (Ret [4] [.sc (.v (.bool r))]) .normal (some σ) := by
 intro n
 induction n with
 | zero => intro _ r h; cases h
 | succ n ih =>
  intro v2 r h σ hσ
  rw [f_laws_eqOptionS_1] at h
  refine go_round ?_
  rcases Bool.eq_false_or_eq_true (decide (v2 < (a0.length : Int))) with hb3 | hb3
  ·rw [ite_t hb3] at h
   try simp only [hσ,hb3,cc91,Nat.reduceBEq,reduceMul,reduceAdd,reduceDiv,Int.reduceBEq,RR]
   refine go_fr_of rfl ?_
   obtain ⟨x4,hx4,h⟩ := ob h
   obtain ⟨x5,hx5,h⟩ := ob h
   obtain ⟨r6,hr6,h⟩ := ob h
   try simp only [hb3,hx4,hx5,Nat.reduceBEq,reduceMul,reduceAdd,reduceDiv,Int.reduceBEq,RR]
   refine go_dcallI (w_laws_eqOption _ _ _ hr6) rfl rfl (Nat.le_of_ble_eq_true rfl) ?_
   rcases Bool.eq_false_or_eq_true r6 with hb7 | hb7
   ·rw [ite_t hb7] at h
    try simp only [hb3,hx4,hx5,hb7,Nat.reduceBEq,reduceMul,reduceAdd,reduceDiv,Int.reduceBEq,RR]
    refine ih _ _ h _ ?_
    try simp only [hb3,hx4,hx5,hb7,Nat.reduceBEq,reduceMul,reduceAdd,reduceDiv,Int.reduceBEq,RR,List.map_nil]
   ·rw [ite_f hb7] at h
    try simp only [hb3,hx4,hx5,hb7,Nat.reduceBEq,reduceMul,reduceAdd,reduceDiv,Int.reduceBEq,RR]
    cases h
    exact ⟨⟨rfl,trivial⟩,rfl⟩
  ·rw [ite_f hb3] at h
   try simp only [hσ,hb3,cc91,cc92,Nat.reduceBEq,reduceMul,reduceAdd,reduceDiv,Int.reduceBEq,RR]
   cases h
   exact ⟨⟨rfl,trivial⟩,rfl⟩
theorem ee95 : entry Tryd.prog 34 = some (cc93.strip,[4],27) := by kernel_rfl
theorem w_laws_eqOptionS (a0 : List XOption) (a1 : List XOption) (r : Bool) (h : f_laws_eqOptionS a0 a1 = some r) : FC Tryd.prog 34 [.sc (.sl (List.map XOption.row a0)),.sc (.sl (List.map XOption.row a1))] [.sc (.v (.bool r))] := by
 unfold f_laws_eqOptionS at h
 refine FC_go (σ := ⟨[(0,vc (aL (List.map XOption.row a0))),(1,vc (aL (List.map XOption.row a1)))],[],[]⟩) mixed ee95 rfl rfl ?_
 simp only [cc93]
 rcases Bool.eq_false_or_eq_true ((a0.length : Int) != (a1.length : Int)) with hb1 | hb1
 ·rw [ite_t hb1] at h
  try simp only [hb1,Nat.reduceBEq,reduceMul,reduceAdd,reduceDiv,Int.reduceBEq,RR]
  cases h
  exact ⟨⟨rfl,trivial⟩,rfl⟩
 ·rw [ite_f hb1] at h
  try simp only [hb1,Nat.reduceBEq,reduceMul,reduceAdd,reduceDiv,Int.reduceBEq,RR]
  refine ww94 _ _ _ _ _ h _ ?_
  try simp only [hb1,Nat.reduceBEq,reduceMul,reduceAdd,reduceDiv,Int.reduceBEq,RR,List.map_nil]
/- 28: laws_eqBranch -/
def cc96 : ACode := (.seq (.reg [(none,.box 2 (S 0)),(none,.box 3 (S 1)),(none,.mv 4 (KB false))]) (.seq (.seq (.reg [fa 5 2 0,ld 6 5,fa 7 3 0,ld 8 7,bn 9 .neq 6 8]) (.cond (S 9) (.seq (.reg [(none,.mv 4 (KB false))]) .ret) .skip)) (.seq (.seq (.reg [fa 10 2 1,ld 11 10,fa 12 3 1,ld 13 12,bn 14 .neq 11 13]) (.cond (S 14) (.seq (.reg [(none,.mv 4 (KB false))]) .ret) .skip)) (.seq (.seq (.reg [fa 15 2 2,ld 16 15,fa 17 3 2,ld 18 17,(none,.call 19 34 [(S 16),(S 18)]),(none,.un 20 .not (S 19))]) (.cond (S 20) (.seq (.reg [(none,.mv 4 (KB false))]) .ret) .skip)) (.seq (.reg [(none,.mv 4 (KB true))]) .ret)))))
theorem ee97 : entry Tryd.prog 28 = some (cc96.strip,[4],21) := by kernel_rfl
theorem w_laws_eqBranch (a0 : XBranch) (a1 : XBranch) (r : Bool) (h : f_laws_eqBranch a0 a1 = some r) : FC Tryd.prog 28 [.ag (XBranch.row a0),.ag (XBranch.row a1)] [.sc (.v (.bool r))] := by
 unfold f_laws_eqBranch at h
 refine FC_go (σ := ⟨[(0,va [aI a0.Low,aI a0.High,aL (List.map XOption.row a0.Plan)]),(1,va [aI a1.Low,aI a1.High,aL (List.map XOption.row a1.Plan)])],[],[]⟩) mixed ee97 rfl rfl ?_
 simp only [cc96]
 try simp only [Nat.reduceBEq,reduceMul,reduceAdd,reduceDiv,Int.reduceBEq,RR]
 refine go_bx rfl rfl rfl ?_
 try simp only [Nat.reduceBEq,reduceMul,reduceAdd,reduceDiv,Int.reduceBEq,RR]
 refine go_bx rfl rfl rfl ?_
 rcases Bool.eq_false_or_eq_true (a0.Low != a1.Low) with hb1 | hb1
 ·rw [ite_t hb1] at h
  try simp only [hb1,Nat.reduceBEq,reduceMul,reduceAdd,reduceDiv,Int.reduceBEq,RR]
  cases h
  exact ⟨⟨rfl,trivial⟩,rfl⟩
 ·rw [ite_f hb1] at h
  rcases Bool.eq_false_or_eq_true (a0.High != a1.High) with hb2 | hb2
  ·rw [ite_t hb2] at h
   try simp only [hb1,hb2,Nat.reduceBEq,reduceMul,reduceAdd,reduceDiv,Int.reduceBEq,RR]
   cases h
   exact ⟨⟨rfl,trivial⟩,rfl⟩
  ·rw [ite_f hb2] at h
   obtain ⟨r3,hr3,h⟩ := ob h
   try simp only [hb1,hb2,Nat.reduceBEq,reduceMul,reduceAdd,reduceDiv,Int.reduceBEq,RR]
   refine go_callI (w_laws_eqOptionS _ _ _ hr3) rfl rfl (Nat.le_of_ble_eq_true rfl) ?_
   rcases Bool.eq_false_or_eq_true r3 with hb4 | hb4
   ·rw [ite_t hb4] at h
    try simp only [hb1,hb2,hb4,Nat.reduceBEq,reduceMul,reduceAdd,reduceDiv,Int.reduceBEq,RR]
    cases h
    exact ⟨⟨rfl,trivial⟩,rfl⟩
   ·rw [ite_f hb4] at h
    try simp only [hb1,hb2,hb4,Nat.reduceBEq,reduceMul,reduceAdd,reduceDiv,Int.reduceBEq,RR]
    cases h
    exact ⟨⟨rfl,trivial⟩,rfl⟩
/- 20: laws_eqBranchS -/
def cc98 : ACode := .seq (.reg [(none,.keep [0,1,5] [] [])]) (.seq (.seq (.reg [mv 11 5,mv 12 0,(none,.len 13 (S 12)),bn 14 .lss 11 13]) (.cond (S 14) .skip (.exit 0))) (.seq (.block 1 (.seq (.drw [(some [],mv 17 0),(some [],mv 18 5),(some [],(none,.iaddr 19 (S 17) (S 18) 3)),(some [],(none,.load 20 (S 19) true 3)),(some [],mv 21 1),(some [],mv 22 5),(some [],(none,.iaddr 23 (S 21) (S 22) 3)),(some [],(none,.load 24 (S 23) true 3)),(some [],(none,.call 25 28 [(S 20),(S 24)])),(some [],(none,.un 26 .not (S 25)))]) (.cond (S 26) (.seq (.reg [(none,.mv 4 (KB false))]) .ret) .skip))) (.reg [mv 15 5,(none,.bin 16 .add (S 15) (K 1)),mv 5 16])))
def cc99 : ACode := (.seq (.reg [(none,.mv 4 (KB true))]) .ret)
def cc100 : ACode := (.seq (.reg [(none,.mv 4 (KB false))]) (.seq (.seq (.reg [mv 6 0,(none,.len 7 (S 6)),mv 8 1,(none,.len 9 (S 8)),bn 10 .neq 7 9]) (.cond (S 10) (.seq (.reg [(none,.mv 4 (KB false))]) .ret) .skip)) (.seq (.seq (.reg [(none,.mv 5 (K 0))]) (.block 0 (.loop cc98))) cc99)))
theorem ww101 (a0 : List XBranch) (a1 : List XBranch) : ∀ (n : Nat) (v2 : Int) (r : Bool),f_laws_eqBranchS_1 a0 a1 n v2 = some r → ∀ σ : St,σ.kept [0,1,5] [] [] = ⟨[(0,vc (aL (List.map XBranch.row a0))),(1,vc (aL (List.map XBranch.row a1))),(5,vc (aI v2))],[],[]⟩ → go Tryd.prog (.code (.loop cc98) :: [.blk 0,.code cc99]) (Ret [4] [.sc (.v (.bool r))]) .normal (some σ) := by
 intro n
 induction n with
 | zero => intro _ r h; cases h
 | succ n ih =>
  intro v2 r h σ hσ
  rw [f_laws_eqBranchS_1] at h
  refine go_round ?_
  rcases Bool.eq_false_or_eq_true (decide (v2 < (a0.length : Int))) with hb3 | hb3
  ·rw [ite_t hb3] at h
   try simp only [hσ,hb3,cc98,Nat.reduceBEq,reduceMul,reduceAdd,reduceDiv,Int.reduceBEq,RR]
   refine go_fr_of rfl ?_
   obtain ⟨x4,hx4,h⟩ := ob h
   obtain ⟨x5,hx5,h⟩ := ob h
   obtain ⟨r6,hr6,h⟩ := ob h
   try simp only [hb3,hx4,hx5,Nat.reduceBEq,reduceMul,reduceAdd,reduceDiv,Int.reduceBEq,RR]
   refine go_dcallI (w_laws_eqBranch _ _ _ hr6) rfl rfl (Nat.le_of_ble_eq_true rfl) ?_
   rcases Bool.eq_false_or_eq_true r6 with hb7 | hb7
   ·rw [ite_t hb7] at h
    try simp only [hb3,hx4,hx5,hb7,Nat.reduceBEq,reduceMul,reduceAdd,reduceDiv,Int.reduceBEq,RR]
    refine ih _ _ h _ ?_
    try simp only [hb3,hx4,hx5,hb7,Nat.reduceBEq,reduceMul,reduceAdd,reduceDiv,Int.reduceBEq,RR,List.map_nil]
   ·rw [ite_f hb7] at h
    try simp only [hb3,hx4,hx5,hb7,Nat.reduceBEq,reduceMul,reduceAdd,reduceDiv,Int.reduceBEq,RR]
    cases h
    exact ⟨⟨rfl,trivial⟩,rfl⟩
  ·rw [ite_f hb3] at h
   try simp only [hσ,hb3,cc98,cc99,Nat.reduceBEq,reduceMul,reduceAdd,reduceDiv,Int.reduceBEq,RR]
   cases h
   exact ⟨⟨rfl,trivial⟩,rfl⟩
theorem ee102 : entry Tryd.prog 20 = some (cc100.strip,[4],27) := by kernel_rfl
theorem w_laws_eqBranchS (a0 : List XBranch) (a1 : List XBranch) (r : Bool) (h : f_laws_eqBranchS a0 a1 = some r) : FC Tryd.prog 20 [.sc (.sl (List.map XBranch.row a0)),.sc (.sl (List.map XBranch.row a1))] [.sc (.v (.bool r))] := by
 unfold f_laws_eqBranchS at h
 refine FC_go (σ := ⟨[(0,vc (aL (List.map XBranch.row a0))),(1,vc (aL (List.map XBranch.row a1)))],[],[]⟩) mixed ee102 rfl rfl ?_
 simp only [cc100]
 rcases Bool.eq_false_or_eq_true ((a0.length : Int) != (a1.length : Int)) with hb1 | hb1
 ·rw [ite_t hb1] at h
  try simp only [hb1,Nat.reduceBEq,reduceMul,reduceAdd,reduceDiv,Int.reduceBEq,RR]
  cases h
  exact ⟨⟨rfl,trivial⟩,rfl⟩
 ·rw [ite_f hb1] at h
  try simp only [hb1,Nat.reduceBEq,reduceMul,reduceAdd,reduceDiv,Int.reduceBEq,RR]
  refine ww101 _ _ _ _ _ h _ ?_
  try simp only [hb1,Nat.reduceBEq,reduceMul,reduceAdd,reduceDiv,Int.reduceBEq,RR,List.map_nil]
/- 9: laws_eqStrategy -/
def cc103 : ACode := (.seq (.reg [(none,.box 2 (S 0)),(none,.box 3 (S 1)),(none,.mv 4 (KB false))]) (.seq (.seq (.reg [fa 5 2 0,ld 6 5,fa 7 3 0,ld 8 7,bn 9 .neq 6 8]) (.cond (S 9) (.seq (.reg [(none,.mv 4 (KB false))]) .ret) .skip)) (.seq (.seq (.reg [fa 10 2 1,ld 11 10,fa 12 3 1,ld 13 12,(none,.call 14 20 [(S 11),(S 13)]),(none,.un 15 .not (S 14))]) (.cond (S 15) (.seq (.reg [(none,.mv 4 (KB false))]) .ret) .skip)) (.seq (.reg [(none,.mv 4 (KB true))]) .ret))))
theorem ee104 : entry Tryd.prog 9 = some (cc103.strip,[4],16) := by kernel_rfl
theorem w_laws_eqStrategy (a0 : XStrategy) (a1 : XStrategy) (r : Bool) (h : f_laws_eqStrategy a0 a1 = some r) : FC Tryd.prog 9 [.ag (XStrategy.row a0),.ag (XStrategy.row a1)] [.sc (.v (.bool r))] := by
 unfold f_laws_eqStrategy at h
 refine FC_go (σ := ⟨[(0,va [aI a0.Minute,aL (List.map XBranch.row a0.Branches)]),(1,va [aI a1.Minute,aL (List.map XBranch.row a1.Branches)])],[],[]⟩) mixed ee104 rfl rfl ?_
 simp only [cc103]
 try simp only [Nat.reduceBEq,reduceMul,reduceAdd,reduceDiv,Int.reduceBEq,RR]
 refine go_bx rfl rfl rfl ?_
 try simp only [Nat.reduceBEq,reduceMul,reduceAdd,reduceDiv,Int.reduceBEq,RR]
 refine go_bx rfl rfl rfl ?_
 rcases Bool.eq_false_or_eq_true (a0.Minute != a1.Minute) with hb1 | hb1
 ·rw [ite_t hb1] at h
  try simp only [hb1,Nat.reduceBEq,reduceMul,reduceAdd,reduceDiv,Int.reduceBEq,RR]
  cases h
  exact ⟨⟨rfl,trivial⟩,rfl⟩
 ·rw [ite_f hb1] at h
  obtain ⟨r2,hr2,h⟩ := ob h
  try simp only [hb1,Nat.reduceBEq,reduceMul,reduceAdd,reduceDiv,Int.reduceBEq,RR]
  refine go_callI (w_laws_eqBranchS _ _ _ hr2) rfl rfl (Nat.le_of_ble_eq_true rfl) ?_
  rcases Bool.eq_false_or_eq_true r2 with hb3 | hb3
  ·rw [ite_t hb3] at h
   try simp only [hb1,hb3,Nat.reduceBEq,reduceMul,reduceAdd,reduceDiv,Int.reduceBEq,RR]
   cases h
   exact ⟨⟨rfl,trivial⟩,rfl⟩
  ·rw [ite_f hb3] at h
   try simp only [hb1,hb3,Nat.reduceBEq,reduceMul,reduceAdd,reduceDiv,Int.reduceBEq,RR]
   cases h
   exact ⟨⟨rfl,trivial⟩,rfl⟩
/- 35: laws_markPassageS_d -/
def cc105 : ACode := .seq (.reg [(none,.keep [0,1,5] [] [])]) (.seq (.seq (.reg [mv 6 5,mv 7 0,(none,.len 8 (S 7)),bn 9 .lss 6 8]) (.cond (S 9) .skip (.exit 0))) (.seq (.block 1 (.seq (.reg [mv 12 0,mv 13 5,mv 14 1,(none,.iaddr 15 (S 12) (S 13) 5),fa 16 15 0,(none,.store (S 16) (S 14) 1)]) (.seq (.reg [mv 17 1,(none,.bin 18 .add (S 17) (K 1)),mv 1 18]) (.seq (.reg [mv 19 0,mv 20 5,mv 21 1,(none,.iaddr 22 (S 19) (S 20) 5),fa 23 22 1,(none,.store (S 23) (S 21) 1)]) (.seq (.reg [mv 24 1,(none,.bin 25 .add (S 24) (K 1)),mv 1 25]) (.seq (.reg [mv 26 0,mv 27 5,mv 28 1,(none,.bin 29 .rem (S 28) (K 3)),(none,.bin 30 .eql (S 29) (K 0)),(none,.iaddr 31 (S 26) (S 27) 5),fa 32 31 2,(none,.store (S 32) (S 30) 1)]) (.seq (.reg [mv 33 1,(none,.bin 34 .add (S 33) (K 1)),mv 1 34]) (.seq (.reg [mv 35 0,mv 36 5,mv 37 1,(none,.iaddr 38 (S 35) (S 36) 5),fa 39 38 3,(none,.store (S 39) (S 37) 1)]) (.seq (.reg [mv 40 1,(none,.bin 41 .add (S 40) (K 1)),mv 1 41]) (.seq (.reg [mv 42 0,mv 43 5,mv 44 1,(none,.iaddr 45 (S 42) (S 43) 5),fa 46 45 4,(none,.store (S 46) (S 44) 1)]) (.reg [mv 47 1,(none,.bin 48 .add (S 47) (K 1)),mv 1 48]))))))))))) (.reg [mv 10 5,(none,.bin 11 .add (S 10) (K 1)),mv 5 11])))
def cc106 : ACode := (.seq (.reg [mv 49 1,mv 4 49]) .ret)
def cc107 : ACode := (.seq (.reg [(none,.mv 4 (K 0))]) (.seq (.seq (.reg [(none,.mv 5 (K 0))]) (.block 0 (.loop cc105))) cc106))
theorem ww108 (a0 : List XPassage) : ∀ (n : Nat) (v1 : Int) (v2 : Int) (r : Int),f_laws_markPassageS_d_1 a0 n v1 v2 = some r → ∀ σ : St,σ.kept [0,1,5] [] [] = ⟨[(0,vc (.vol (.sl (List.map XPassage.row a0)))),(1,vc (aI v1)),(5,vc (aI v2))],[],[]⟩ → go Tryd.prog (.code (.loop cc105) :: [.blk 0,.code cc106]) (RetV [4] (.int .i64 r)) .normal (some σ) := by
 intro n
 induction n with
 | zero => intro _ _ r h; cases h
 | succ n ih =>
  intro v1 v2 r h σ hσ
  rw [f_laws_markPassageS_d_1] at h
  refine go_round ?_
  rcases Bool.eq_false_or_eq_true (decide (v2 < (a0.length : Int))) with hb3 | hb3
  ·rw [ite_t hb3] at h
   obtain ⟨x4,hx4,h⟩ := ob h
   try simp only [hσ,hb3,hx4,cc105,Nat.reduceBEq,reduceMul,reduceAdd,reduceDiv,Int.reduceBEq,RR]
   refine ih _ _ _ h _ ?_
   try simp only [hb3,hx4,Nat.reduceBEq,reduceMul,reduceAdd,reduceDiv,Int.reduceBEq,RR,List.map_nil]
  ·rw [ite_f hb3] at h
   try simp only [hσ,hb3,cc105,cc106,Nat.reduceBEq,reduceMul,reduceAdd,reduceDiv,Int.reduceBEq,RR]
   cases h
   exact ⟨rfl,trivial⟩
theorem ee109 : entry Tryd.prog 35 = some (cc107.strip,[4],50) := by kernel_rfl
theorem w_laws_markPassageS_d (a0 : List XPassage) (a1 : Int) (r : Int) (h : f_laws_markPassageS_d a0 a1 = some r) : FCd Tryd.prog 35 [.v (.sc (.sl (List.map XPassage.row a0))),.d (.int .i64 a1)] (.int .i64 r) := by
 unfold f_laws_markPassageS_d at h
 refine FCd_go (σ := ⟨[(0,vc (.vol (.sl (List.map XPassage.row a0)))),(1,vc (aI a1))],[],[]⟩) mixed ee109 rfl rfl rfl ?_
 simp only [cc107]
 try simp only [Nat.reduceBEq,reduceMul,reduceAdd,reduceDiv,Int.reduceBEq,RR]
 refine ww108 _ _ _ _ _ h _ ?_
 try simp only [Nat.reduceBEq,reduceMul,reduceAdd,reduceDiv,Int.reduceBEq,RR,List.map_nil]
/- 29: laws_markOptionS_d -/
def cc110 : ACode := .seq (.reg [(none,.keep [0,1,5] [] [])]) (.seq (.seq (.reg [mv 6 5,mv 7 0,(none,.len 8 (S 7)),bn 9 .lss 6 8]) (.cond (S 9) .skip (.exit 0))) (.seq (.block 1 (.seq (.reg [mv 12 0,mv 13 5,mv 14 1,(none,.iaddr 15 (S 12) (S 13) 4),fa 16 15 0,(none,.store (S 16) (S 14) 1)]) (.seq (.reg [mv 17 1,(none,.bin 18 .add (S 17) (K 1)),mv 1 18]) (.seq (.reg [mv 19 0,mv 20 5,mv 21 1,(none,.iaddr 22 (S 19) (S 20) 4),fa 23 22 1,(none,.store (S 23) (S 21) 1)]) (.seq (.reg [mv 24 1,(none,.bin 25 .add (S 24) (K 1)),mv 1 25]) (.seq (.reg [mv 26 0,mv 27 5,mv 28 1,(none,.iaddr 29 (S 26) (S 27) 4),fa 30 29 2,(none,.store (S 30) (S 28) 1)]) (.seq (.reg [mv 31 1,(none,.bin 32 .add (S 31) (K 1)),mv 1 32]) (.reg [mv 33 0,mv 34 5,(none,.iaddr 35 (S 33) (S 34) 4),fa 36 35 3,ld 37 36,mv 38 1,(none,.call 39 35 [(S 37),(S 38)]),mv 1 39])))))))) (.reg [mv 10 5,(none,.bin 11 .add (S 10) (K 1)),mv 5 11])))
def cc111 : ACode := (.seq (.reg [mv 40 1,mv 4 40]) .ret)
def cc112 : ACode := (.seq (.reg [(none,.mv 4 (K 0))]) (.seq (.seq (.reg [(none,.mv 5 (K 0))]) (.block 0 (.loop cc110))) cc111))
theorem ww113 (a0 : List XOption) : ∀ (n : Nat) (v1 : Int) (v2 : Int) (r : Int),f_laws_markOptionS_d_1 a0 n v1 v2 = some r → ∀ σ : St,σ.kept [0,1,5] [] [] = ⟨[(0,vc (.vol (.sl (List.map XOption.row a0)))),(1,vc (aI v1)),(5,vc (aI v2))],[],[]⟩ → go Tryd.prog (.code (.loop cc110) :: [.blk 0,.code cc111]) (RetV [4] (.int .i64 r)) .normal (some σ) := by
 intro n
 induction n with
 | zero => intro _ _ r h; cases h
 | succ n ih =>
  intro v1 v2 r h σ hσ
  rw [f_laws_markOptionS_d_1] at h
  refine go_round ?_
  rcases Bool.eq_false_or_eq_true (decide (v2 < (a0.length : Int))) with hb3 | hb3
  ·rw [ite_t hb3] at h
   obtain ⟨x4,hx4,h⟩ := ob h
   obtain ⟨r5,hr5,h⟩ := ob h
   try simp only [hσ,hb3,hx4,cc110,Nat.reduceBEq,reduceMul,reduceAdd,reduceDiv,Int.reduceBEq,RR]
   refine go_calld (w_laws_markPassageS_d _ _ _ hr5) rfl ?_
   try simp only [hb3,hx4,Nat.reduceBEq,reduceMul,reduceAdd,reduceDiv,Int.reduceBEq,RR]
   refine ih _ _ _ h _ ?_
   try simp only [hb3,hx4,Nat.reduceBEq,reduceMul,reduceAdd,reduceDiv,Int.reduceBEq,RR,List.map_nil]
  ·rw [ite_f hb3] at h
   try simp only [hσ,hb3,cc110,cc111,Nat.reduceBEq,reduceMul,reduceAdd,reduceDiv,Int.reduceBEq,RR]
   cases h
   exact ⟨rfl,trivial⟩
theorem ee114 : entry Tryd.prog 29 = some (cc112.strip,[4],41) := by kernel_rfl
theorem w_laws_markOptionS_d (a0 : List XOption) (a1 : Int) (r : Int) (h : f_laws_markOptionS_d a0 a1 = some r) : FCd Tryd.prog 29 [.v (.sc (.sl (List.map XOption.row a0))),.d (.int .i64 a1)] (.int .i64 r) := by
 unfold f_laws_markOptionS_d at h
 refine FCd_go (σ := ⟨[(0,vc (.vol (.sl (List.map XOption.row a0)))),(1,vc (aI a1))],[],[]⟩) mixed ee114 rfl rfl rfl ?_
 simp only [cc112]
 try simp only [Nat.reduceBEq,reduceMul,reduceAdd,reduceDiv,Int.reduceBEq,RR]
 refine ww113 _ _ _ _ _ h _ ?_
 try simp only [Nat.reduceBEq,reduceMul,reduceAdd,reduceDiv,Int.reduceBEq,RR,List.map_nil]
/- 21: laws_markBranchS_d -/
def cc115 : ACode := .seq (.reg [(none,.keep [0,1,5] [] [])]) (.seq (.seq (.reg [mv 6 5,mv 7 0,(none,.len 8 (S 7)),bn 9 .lss 6 8]) (.cond (S 9) .skip (.exit 0))) (.seq (.block 1 (.seq (.reg [mv 12 0,mv 13 5,mv 14 1,(none,.iaddr 15 (S 12) (S 13) 3),fa 16 15 0,(none,.store (S 16) (S 14) 1)]) (.seq (.reg [mv 17 1,(none,.bin 18 .add (S 17) (K 1)),mv 1 18]) (.seq (.reg [mv 19 0,mv 20 5,mv 21 1,(none,.iaddr 22 (S 19) (S 20) 3),fa 23 22 1,(none,.store (S 23) (S 21) 1)]) (.seq (.reg [mv 24 1,(none,.bin 25 .add (S 24) (K 1)),mv 1 25]) (.reg [mv 26 0,mv 27 5,(none,.iaddr 28 (S 26) (S 27) 3),fa 29 28 2,ld 30 29,mv 31 1,(none,.call 32 29 [(S 30),(S 31)]),mv 1 32])))))) (.reg [mv 10 5,(none,.bin 11 .add (S 10) (K 1)),mv 5 11])))
def cc116 : ACode := (.seq (.reg [mv 33 1,mv 4 33]) .ret)
def cc117 : ACode := (.seq (.reg [(none,.mv 4 (K 0))]) (.seq (.seq (.reg [(none,.mv 5 (K 0))]) (.block 0 (.loop cc115))) cc116))
theorem ww118 (a0 : List XBranch) : ∀ (n : Nat) (v1 : Int) (v2 : Int) (r : Int),f_laws_markBranchS_d_1 a0 n v1 v2 = some r → ∀ σ : St,σ.kept [0,1,5] [] [] = ⟨[(0,vc (.vol (.sl (List.map XBranch.row a0)))),(1,vc (aI v1)),(5,vc (aI v2))],[],[]⟩ → go Tryd.prog (.code (.loop cc115) :: [.blk 0,.code cc116]) (RetV [4] (.int .i64 r)) .normal (some σ) := by
 intro n
 induction n with
 | zero => intro _ _ r h; cases h
 | succ n ih =>
  intro v1 v2 r h σ hσ
  rw [f_laws_markBranchS_d_1] at h
  refine go_round ?_
  rcases Bool.eq_false_or_eq_true (decide (v2 < (a0.length : Int))) with hb3 | hb3
  ·rw [ite_t hb3] at h
   obtain ⟨x4,hx4,h⟩ := ob h
   obtain ⟨r5,hr5,h⟩ := ob h
   try simp only [hσ,hb3,hx4,cc115,Nat.reduceBEq,reduceMul,reduceAdd,reduceDiv,Int.reduceBEq,RR]
   refine go_calld (w_laws_markOptionS_d _ _ _ hr5) rfl ?_
   try simp only [hb3,hx4,Nat.reduceBEq,reduceMul,reduceAdd,reduceDiv,Int.reduceBEq,RR]
   refine ih _ _ _ h _ ?_
   try simp only [hb3,hx4,Nat.reduceBEq,reduceMul,reduceAdd,reduceDiv,Int.reduceBEq,RR,List.map_nil]
  ·rw [ite_f hb3] at h
   try simp only [hσ,hb3,cc115,cc116,Nat.reduceBEq,reduceMul,reduceAdd,reduceDiv,Int.reduceBEq,RR]
   cases h
   exact ⟨rfl,trivial⟩
theorem ee119 : entry Tryd.prog 21 = some (cc117.strip,[4],34) := by kernel_rfl
theorem w_laws_markBranchS_d (a0 : List XBranch) (a1 : Int) (r : Int) (h : f_laws_markBranchS_d a0 a1 = some r) : FCd Tryd.prog 21 [.v (.sc (.sl (List.map XBranch.row a0))),.d (.int .i64 a1)] (.int .i64 r) := by
 unfold f_laws_markBranchS_d at h
 refine FCd_go (σ := ⟨[(0,vc (.vol (.sl (List.map XBranch.row a0)))),(1,vc (aI a1))],[],[]⟩) mixed ee119 rfl rfl rfl ?_
 simp only [cc117]
 try simp only [Nat.reduceBEq,reduceMul,reduceAdd,reduceDiv,Int.reduceBEq,RR]
 refine ww118 _ _ _ _ _ h _ ?_
 try simp only [Nat.reduceBEq,reduceMul,reduceAdd,reduceDiv,Int.reduceBEq,RR,List.map_nil]
/- 10: laws_markStrategy_d -/
def cc120 : ACode := (.seq (.reg [(none,.box 2 (S 0)),(none,.mv 4 (K 0))]) (.seq (.reg [fa 5 2 1,ld 6 5,mv 7 1,(none,.call 8 21 [(S 6),(S 7)]),mv 1 8]) (.seq (.reg [mv 9 1,mv 4 9]) .ret)))
theorem ee121 : entry Tryd.prog 10 = some (cc120.strip,[4],10) := by kernel_rfl
theorem w_laws_markStrategy_d (a0 : XStrategy) (a1 : Int) (r : Int) (h : f_laws_markStrategy_d a0 a1 = some r) : FCd Tryd.prog 10 [.v (.ag (XStrategy.row a0)),.d (.int .i64 a1)] (.int .i64 r) := by
 unfold f_laws_markStrategy_d at h
 refine FCd_go (σ := ⟨[(0,va [.vol (.int .i64 a0.Minute),.vol (.sl (List.map XBranch.row a0.Branches))]),(1,vc (aI a1))],[],[]⟩) mixed ee121 rfl rfl rfl ?_
 simp only [cc120]
 try simp only [Nat.reduceBEq,reduceMul,reduceAdd,reduceDiv,Int.reduceBEq,RR]
 refine go_bx rfl rfl rfl ?_
 obtain ⟨r1,hr1,h⟩ := ob h
 try simp only [Nat.reduceBEq,reduceMul,reduceAdd,reduceDiv,Int.reduceBEq,RR]
 refine go_calld (w_laws_markBranchS_d _ _ _ hr1) rfl ?_
 try simp only [Nat.reduceBEq,reduceMul,reduceAdd,reduceDiv,Int.reduceBEq,RR]
 cases h
 exact ⟨rfl,trivial⟩
/- 22: laws_markText -/
def cc122 : ACode := .seq (.reg [(none,.keep [0,3] [] [])]) (.seq (.seq (.reg [mv 6 0,(none,.bin 7 .gtr (S 6) (K 0))]) (.cond (S 7) .skip (.exit 0))) (.block 1 (.seq (.reg [mv 8 0,(none,.bin 9 .rem (S 8) (K 10)),(none,.bin 10 .add (K 48) (S 9)),(none,.conv 11 .u8 (S 10)),(none,.bslice 12 1 [.int .u8 0] 1 [(0,(S 11))]),(none,.sconv 13 (S 12)),mv 14 3,bn 15 .add 13 14,mv 3 15]) (.reg [mv 16 0,(none,.bin 17 .quo (S 16) (K 10)),mv 0 17]))))
def cc123 : ACode := (.seq (.reg [mv 18 3,(none,.bin 19 .add (KS [109]) (S 18)),mv 2 19]) .ret)
def cc124 : ACode := (.seq (.reg [(none,.mv 2 (KS []))]) (.seq (.seq (.reg [mv 4 0,(none,.bin 5 .leq (S 4) (K 0))]) (.cond (S 5) (.seq (.reg [(none,.mv 2 (KS [109,48]))]) .ret) .skip)) (.seq (.reg [(none,.mv 3 (KS []))]) (.seq (.block 0 (.loop cc122)) cc123))))
theorem ww125 : ∀ (n : Nat) (v2 : Int) (v3 : List UInt8) (r : (List UInt8)),f_laws_markText_1 n v2 v3 = some r → ∀ σ : St,σ.kept [0,3] [] [] = ⟨[(0,vc (aI v2)),(3,vc (aS v3))],[],[]⟩ → go Tryd.prog (.code (.loop cc122) :: [.blk 0,.code cc123]) (Ret [2] [.sc (.v (.str r))]) .normal (some σ) := by
 intro n
 induction n with
 | zero => intro _ _ r h; cases h
 | succ n ih =>
  intro v2 v3 r h σ hσ
  rw [f_laws_markText_1] at h
  refine go_round ?_
  rcases Bool.eq_false_or_eq_true (decide ((0 : Int) < v2)) with hb4 | hb4
  ·rw [ite_t hb4] at h
   try simp only [hσ,hb4,cc122,Nat.reduceBEq,reduceMul,reduceAdd,reduceDiv,Int.reduceBEq,RR]
   refine go_bsl (es := List.map r8 ([(IntKind.u8.wrap (IntKind.i64.wrap ((48 : Int) + (IntKind.i64.wrap (Int.tmod v2 (10 : Int))))))] : List Int)) rfl rfl ?_
   obtain ⟨hg5,h⟩ := of_guard h
   try simp only [hb4,hg5,Nat.reduceBEq,reduceMul,reduceAdd,reduceDiv,Int.reduceBEq,RR]
   refine ih _ _ _ h _ ?_
   try simp only [hb4,hg5,Nat.reduceBEq,reduceMul,reduceAdd,reduceDiv,Int.reduceBEq,RR,List.map_nil]
  ·rw [ite_f hb4] at h
   obtain ⟨hg6,h⟩ := of_guard h
   try simp only [hσ,hb4,hg6,cc122,cc123,Nat.reduceBEq,reduceMul,reduceAdd,reduceDiv,Int.reduceBEq,RR]
   cases h
   exact ⟨⟨rfl,trivial⟩,rfl⟩
theorem ee126 : entry Tryd.prog 22 = some (cc124.strip,[2],20) := by kernel_rfl
theorem w_laws_markText (a0 : Int) (r : (List UInt8)) (h : f_laws_markText a0 = some r) : FC Tryd.prog 22 [.sc (.int .i64 a0)] [.sc (.v (.str r))] := by
 unfold f_laws_markText at h
 refine FC_go (σ := ⟨[(0,vc (aI a0))],[],[]⟩) mixed ee126 rfl rfl ?_
 simp only [cc124]
 rcases Bool.eq_false_or_eq_true (decide (a0 ≤ (0 : Int))) with hb1 | hb1
 ·rw [ite_t hb1] at h
  try simp only [hb1,Nat.reduceBEq,reduceMul,reduceAdd,reduceDiv,Int.reduceBEq,RR]
  cases h
  exact ⟨⟨rfl,trivial⟩,rfl⟩
 ·rw [ite_f hb1] at h
  try simp only [hb1,Nat.reduceBEq,reduceMul,reduceAdd,reduceDiv,Int.reduceBEq,RR]
  refine ww125 _ _ _ _ h _ ?_
  try simp only [hb1,Nat.reduceBEq,reduceMul,reduceAdd,reduceDiv,Int.reduceBEq,RR,List.map_nil]
/- 11: laws_markStringS -/
def cc127 : ACode := .seq (.reg [(none,.keep [0,1,5] [] [1099511627776])]) (.seq (.seq (.reg [mv 6 5,mv 7 0,(none,.len 8 (S 7)),bn 9 .lss 6 8]) (.cond (S 9) .skip (.exit 0))) (.seq (.block 1 (.seq (.reg [mv 12 0,mv 13 5,mv 14 1,(none,.call 15 22 [(S 14)]),(none,.iaddr 16 (S 12) (S 13) 1),(none,.store (S 16) (S 15) 1)]) (.reg [mv 17 1,(none,.bin 18 .add (S 17) (K 1)),mv 1 18]))) (.reg [mv 10 5,(none,.bin 11 .add (S 10) (K 1)),mv 5 11])))
def cc128 : ACode := (.seq (.reg [mv 19 1,mv 4 19]) .ret)
def cc129 : ACode := (.seq (.reg [(none,.mv 4 (K 0))]) (.seq (.seq (.reg [(none,.mv 5 (K 0))]) (.block 0 (.loop cc127))) cc128))
theorem ww130 : ∀ (n : Nat) (v1 : Int) (v2 : Int) (v3 : List (List UInt8)) (r : Int × List (List UInt8)),f_laws_markStringS_1 n v1 v2 v3 = some r → ∀ σ : St,σ.kept [0,1,5] [] [1099511627776] = ⟨[(0,vc (.own 1099511627776)),(1,vc (aI v1)),(5,vc (aI v2))],[],[(1099511627776,1,List.map rS v3)]⟩ → go Tryd.prog (.code (.loop cc127) :: [.blk 0,.code cc128]) (RetX [4] (.int .i64 r.1) [(1,List.map rS r.2)] [(0,0)]) .normal (some σ) := by
 intro n
 induction n with
 | zero => intro _ _ _ r h; cases h
 | succ n ih =>
  intro v1 v2 v3 r h σ hσ
  rw [f_laws_markStringS_1] at h
  refine go_round ?_
  rcases Bool.eq_false_or_eq_true (decide (v2 < (v3.length : Int))) with hb4 | hb4
  ·rw [ite_t hb4] at h
   obtain ⟨r5,hr5,h⟩ := ob h
   try simp only [hσ,hb4,cc127,Nat.reduceBEq,reduceMul,reduceAdd,reduceDiv,Int.reduceBEq,RR]
   refine go_callI (w_laws_markText _ _ hr5) rfl rfl (Nat.le_of_ble_eq_true rfl) ?_
   obtain ⟨x6,hx6,h⟩ := ob h
   have hx6n := ix_get hx6
   try simp only [hb4,hx6,Nat.reduceBEq,reduceMul,reduceAdd,reduceDiv,Int.reduceBEq,RR]
   refine go_stp (y := r5) rfl rfl hx6n rfl rfl rfl ?_
   try simp only [hb4,hx6,Nat.reduceBEq,reduceMul,reduceAdd,reduceDiv,Int.reduceBEq,RR]
   refine ih _ _ _ _ h _ ?_
   try simp only [hb4,hx6,Nat.reduceBEq,reduceMul,reduceAdd,reduceDiv,Int.reduceBEq,RR,List.map_nil]
  ·rw [ite_f hb4] at h
   try simp only [hσ,hb4,cc127,cc128,Nat.reduceBEq,reduceMul,reduceAdd,reduceDiv,Int.reduceBEq,RR]
   cases h
   exact ⟨⟨rfl,trivial⟩,⟨⟨⟨_,rfl,rfl⟩,rfl⟩,trivial⟩⟩
theorem ee131 : entry Tryd.prog 11 = some (cc129.strip,[4],20) := by kernel_rfl
theorem l_laws_markStringS_1 : ∀ (n : Nat) (v1 : Int) (v2 : Int) (v3 : List (List UInt8)) (r : Int × List (List UInt8)),f_laws_markStringS_1 n v1 v2 v3 = some r → r.2.length = v3.length := by
 intro n
 induction n with
 | zero => intro _ _ _ r h; cases h
 | succ n ih =>
  intro v1 v2 v3 r h
  rw [f_laws_markStringS_1] at h
  rcases Bool.eq_false_or_eq_true (decide (v2 < (v3.length : Int))) with hb4 | hb4
  ·rw [ite_t hb4] at h
   obtain ⟨r5,hr5,h⟩ := ob h
   obtain ⟨x6,hx6,h⟩ := ob h
   have hl := ih _ _ _ _ h
   try simp only [List.length_set] at hl
   omega
  ·rw [ite_f hb4] at h
   cases h
   all_goals (try dsimp only); first | done | omega | (simp only [List.length_set] at *; omega) | simp_all
theorem l_laws_markStringS (a0 : List (List UInt8)) (a1 : Int) (r : Int × List (List UInt8)) (h : f_laws_markStringS a0 a1 = some r) : r.2.length = a0.length := by
 unfold f_laws_markStringS at h
 have hl := l_laws_markStringS_1 _ _ _ _ _ h
 try simp only [List.length_set] at hl
 omega
theorem w_laws_markStringS (a0 : List (List UInt8)) (a1 : Int) (r : Int × List (List UInt8)) (h : f_laws_markStringS a0 a1 = some r) : FCx Tryd.prog 11 [.sc (.r 0),.sc (.d (.int .i64 a1))] [(1,List.map rS a0)] [(1,List.map rS r.2)] (.int .i64 r.1) := by
 unfold f_laws_markStringS at h
 refine FCx_go (ps := [(0,0)]) (σ := ⟨[(0,vc (.own 1099511627776)),(1,vc (aI a1))],[],[(1099511627776,1,List.map rS a0)]⟩) mixed ee131 rfl rfl rfl (flatR_cons flatR_nil) rfl ?_
 simp only [cc129]
 try simp only [Nat.reduceBEq,reduceMul,reduceAdd,reduceDiv,Int.reduceBEq,RR]
 refine ww130 _ _ _ _ _ h _ ?_
 try simp only [Nat.reduceBEq,reduceMul,reduceAdd,reduceDiv,Int.reduceBEq,RR,List.map_nil]
/- 12: laws_heldStringS -/
def cc132 : ACode := .seq (.reg [(none,.keep [0,1,5] [] [])]) (.seq (.seq (.reg [mv 6 5,mv 7 0,(none,.len 8 (S 7)),bn 9 .lss 6 8]) (.cond (S 9) .skip (.exit 0))) (.seq (.block 1 (.seq (.seq (.drw [(some [17],mv 12 0),(some [17],mv 13 5),(some [17],(none,.iaddr 14 (S 12) (S 13) 1)),(some [17],ld 15 14),(some [],mv 16 1),(some [],(none,.call 17 22 [(S 16)])),(some [],bn 18 .neq 15 17)]) (.cond (S 18) (.seq (.reg [(none,.mv 4 (K (-1)))]) .ret) .skip)) (.reg [mv 19 1,(none,.bin 20 .add (S 19) (K 1)),mv 1 20]))) (.reg [mv 10 5,(none,.bin 11 .add (S 10) (K 1)),mv 5 11])))
def cc133 : ACode := (.seq (.reg [mv 21 1,mv 4 21]) .ret)
def cc134 : ACode := (.seq (.reg [(none,.mv 4 (K 0))]) (.seq (.seq (.reg [(none,.mv 5 (K 0))]) (.block 0 (.loop cc132))) cc133))
theorem ww135 (a0 : List (List UInt8)) : ∀ (n : Nat) (v1 : Int) (v2 : Int) (r : Int),f_laws_heldStringS_1 a0 n v1 v2 = some r → ∀ σ : St,σ.kept [0,1,5] [] [] = ⟨[(0,vc (aL (List.map rS a0))),(1,vc (aI v1)),(5,vc (aI v2))],[],[]⟩ → go Tryd.prog (.code (.loop cc132) :: [.blk 0,.code cc133]) (Ret [4] [.sc (.v (.int .i64 r))]) .normal (some σ) := by
 intro n
 induction n with
 | zero => intro _ _ r h; cases h
 | succ n ih =>
  intro v1 v2 r h σ hσ
  rw [f_laws_heldStringS_1] at h
  refine go_round ?_
  rcases Bool.eq_false_or_eq_true (decide (v2 < (a0.length : Int))) with hb3 | hb3
  ·rw [ite_t hb3] at h
   try simp only [hσ,hb3,cc132,Nat.reduceBEq,reduceMul,reduceAdd,reduceDiv,Int.reduceBEq,RR]
   refine go_fr_of rfl ?_
   obtain ⟨x4,hx4,h⟩ := ob h
   obtain ⟨r5,hr5,h⟩ := ob h
   try simp only [hb3,hx4,Nat.reduceBEq,reduceMul,reduceAdd,reduceDiv,Int.reduceBEq,RR]
   refine go_dcallI (w_laws_markText _ _ hr5) rfl rfl (Nat.le_of_ble_eq_true rfl) ?_
   rcases Bool.eq_false_or_eq_true (x4 == r5) with hb6 | hb6
   ·rw [ite_t hb6] at h
    try simp only [hb3,hx4,hb6,Nat.reduceBEq,reduceMul,reduceAdd,reduceDiv,Int.reduceBEq,RR]
    refine ih _ _ _ h _ ?_
    try simp only [hb3,hx4,hb6,Nat.reduceBEq,reduceMul,reduceAdd,reduceDiv,Int.reduceBEq,RR,List.map_nil]
   ·rw [ite_f hb6] at h
    try simp only [hb3,hx4,hb6,Nat.reduceBEq,reduceMul,reduceAdd,reduceDiv,Int.reduceBEq,RR]
    cases h
    exact ⟨⟨rfl,trivial⟩,rfl⟩
  ·rw [ite_f hb3] at h
   try simp only [hσ,hb3,cc132,cc133,Nat.reduceBEq,reduceMul,reduceAdd,reduceDiv,Int.reduceBEq,RR]
   cases h
   exact ⟨⟨rfl,trivial⟩,rfl⟩
theorem ee136 : entry Tryd.prog 12 = some (cc134.strip,[4],22) := by kernel_rfl
theorem w_laws_heldStringS (a0 : List (List UInt8)) (a1 : Int) (r : Int) (h : f_laws_heldStringS a0 a1 = some r) : FC Tryd.prog 12 [.sc (.sl (List.map rS a0)),.sc (.int .i64 a1)] [.sc (.v (.int .i64 r))] := by
 unfold f_laws_heldStringS at h
 refine FC_go (σ := ⟨[(0,vc (aL (List.map rS a0))),(1,vc (aI a1))],[],[]⟩) mixed ee136 rfl rfl ?_
 simp only [cc134]
 try simp only [Nat.reduceBEq,reduceMul,reduceAdd,reduceDiv,Int.reduceBEq,RR]
 refine ww135 _ _ _ _ _ h _ ?_
 try simp only [Nat.reduceBEq,reduceMul,reduceAdd,reduceDiv,Int.reduceBEq,RR,List.map_nil]
/- 3: laws_FnExactStrategyLines -/
def cc137 : ACode := (.seq (.reg [(none,.box 1 (S 0)),(none,.mv 2 (KB false))]) (.seq (.reg [(none,.mv 3 (K 1048576))]) (.seq (.reg [(none,.load 11 (S 1) true 2),mv 12 3,(none,.call 13 4 [(S 11),(S 12)]),mv 3 13]) (.seq (.seq (.reg [mv 14 3,(none,.bin 15 .lss (S 14) (K 0))]) (.cond (S 15) (.seq (.reg [(none,.mv 2 (KB true))]) .ret) .skip)) (.seq (.reg [(none,.load 16 (S 1) true 2),(none,.call 17 6 [(S 16)]),(none,.call 18 5 [(S 17)]),mv 4 18]) (.seq (.reg [(none,.load 19 (S 1) true 2),(none,.call 20 6 [(S 19)]),(none,.alloc 5 [aI 0,.nil]),(none,.store (S 5) (S 20) 2)]) (.seq (.reg [(none,.load 21 (S 5) true 2),(none,.call 22 7 [(S 21)]),mv 6 22]) (.seq (.seq (.reg [mv 23 6,mv 24 4,(none,.call 25 8 [(S 23),(S 24)]),(none,.un 26 .not (S 25))]) (.cond (S 26) (.seq (.reg [(none,.mv 2 (KB false))]) .ret) .skip)) (.seq (.seq (.drw [(some [29],(none,.load 27 (S 5) true 2)),(some [],(none,.load 28 (S 1) true 2)),(some [],(none,.call 29 6 [(S 28)])),(some [],(none,.call 30 9 [(S 27),(S 29)])),(some [],(none,.un 31 .not (S 30)))]) (.cond (S 31) (.seq (.reg [(none,.mv 2 (KB false))]) .ret) .skip)) (.seq (.reg [(none,.mv 7 (K 1))]) (.seq (.reg [(none,.load 32 (S 5) true 2),mv 33 7,(none,.frz 1089),(none,.frz 1281),(none,.frz 1857),(none,.call 34 10 [(S 32),(S 33)]),mv 7 34]) (.seq (.seq (.reg [mv 35 7,(none,.bin 36 .lss (S 35) (K 0)),mv 37 36,(some (37,false),.mv 38 (S 6)),(some (37,false),.mv 39 (S 4)),(some (37,false),.call 40 8 [(S 38),(S 39)]),(some (37,false),.un 41 .not (S 40)),(none,.pick 42 (S 37) (KB true) (S 41))]) (.cond (S 42) (.seq (.reg [(none,.mv 2 (KB false))]) .ret) .skip)) (.seq (.reg [(none,.mv 8 (K 1))]) (.seq (.reg [mv 43 6,mv 44 8,(none,.call 45 11 [(S 43),(S 44)]),mv 8 45]) (.seq (.reg [(none,.mv 9 (K 1))]) (.seq (.reg [mv 46 6,mv 47 9,(none,.call 48 12 [(S 46),(S 47)]),mv 9 48]) (.seq (.seq (.reg [mv 49 9,(none,.bin 50 .lss (S 49) (K 0))]) (.cond (S 50) (.seq (.reg [(none,.mv 2 (KB false))]) .ret) .skip)) (.seq (.seq (.reg [mv 51 9,mv 52 8,bn 53 .neq 51 52]) (.cond (S 53) (.seq (.reg [(none,.mv 2 (KB false))]) .ret) .skip)) (.seq (.reg [(none,.load 54 (S 1) true 2),(none,.call 55 6 [(S 54)]),(none,.call 56 7 [(S 55)]),mv 10 56]) (.seq (.seq (.reg [mv 57 10,mv 58 4,(none,.call 59 8 [(S 57),(S 58)]),(none,.un 60 .not (S 59))]) (.cond (S 60) (.seq (.reg [(none,.mv 2 (KB false))]) .ret) .skip)) (.seq (.reg [(none,.mv 9 (K 1))]) (.seq (.reg [mv 61 6,mv 62 9,(none,.call 63 12 [(S 61),(S 62)]),mv 9 63]) (.seq (.seq (.reg [mv 64 9,(none,.bin 65 .lss (S 64) (K 0))]) (.cond (S 65) (.seq (.reg [(none,.mv 2 (KB false))]) .ret) .skip)) (.seq (.seq (.reg [mv 66 9,mv 67 8,bn 68 .neq 66 67]) (.cond (S 68) (.seq (.reg [(none,.mv 2 (KB false))]) .ret) .skip)) (.seq (.reg [(none,.mv 2 (KB true))]) .ret)))))))))))))))))))))))))
theorem ee138 : entry Tryd.prog 3 = some (cc137.strip,[2],69) := by kernel_rfl
theorem wf_laws_FnExactStrategyLines (a0 : XStrategy) (r : Bool) (h : f_laws_FnExactStrategyLines a0 = some r) : FCf Tryd.prog 3 [.ag (XStrategy.row a0)] [.sc (.v (.bool r))] := by
 unfold f_laws_FnExactStrategyLines at h
 refine FCf_go (σ := ⟨[(0,va [aI a0.Minute,.old (.sl (List.map XBranch.row a0.Branches))])],[],[]⟩) mixed ee138 rfl rfl ?_
 simp only [cc137]
 try simp only [Nat.reduceBEq,reduceMul,reduceAdd,reduceDiv,Int.reduceBEq,RR]
 refine go_bx rfl rfl rfl ?_
 obtain ⟨r1,hr1,h⟩ := ob h
 try simp only [Nat.reduceBEq,reduceMul,reduceAdd,reduceDiv,Int.reduceBEq,RR]
 refine go_call (w_laws_szStrategy _ _ _ hr1) rfl (flat_of rfl) rfl (Nat.le_of_ble_eq_true rfl) ?_
 rcases Bool.eq_false_or_eq_true (decide (r1 < (0 : Int))) with hb2 | hb2
 ·rw [ite_t hb2] at h
  try simp only [hb2,Nat.reduceBEq,reduceMul,reduceAdd,reduceDiv,Int.reduceBEq,RR]
  cases h
  exact ⟨⟨rfl,trivial⟩,rfl⟩
 ·rw [ite_f hb2] at h
  obtain ⟨r3,hr3,h⟩ := ob h
  try simp only [hb2,Nat.reduceBEq,reduceMul,reduceAdd,reduceDiv,Int.reduceBEq,RR]
  refine go_callf (wf_laws_toStrategy _ _ hr3) rfl rfl (Nat.le_of_ble_eq_true rfl) ?_
  obtain ⟨r4,hr4,h⟩ := ob h
  try simp only [hb2,Nat.reduceBEq,reduceMul,reduceAdd,reduceDiv,Int.reduceBEq,RR]
  refine go_call (w_spec_StrategyLines _ _ hr4) rfl (flat_l rfl ⟨flat_o,trivial⟩) rfl (Nat.le_of_ble_eq_true rfl) ?_
  obtain ⟨r5,hr5,h⟩ := ob h
  try simp only [hb2,Nat.reduceBEq,reduceMul,reduceAdd,reduceDiv,Int.reduceBEq,RR]
  refine go_callf (wf_laws_toStrategy _ _ hr5) rfl rfl (Nat.le_of_ble_eq_true rfl) ?_
  try simp only [hb2,Nat.reduceBEq,reduceMul,reduceAdd,reduceDiv,Int.reduceBEq,RR]
  refine go_al rfl rfl ?_
  obtain ⟨r6,hr6,h⟩ := ob h
  try simp only [hb2,Nat.reduceBEq,reduceMul,reduceAdd,reduceDiv,Int.reduceBEq,RR]
  refine go_call (w_impl_StrategyLines _ _ hr6) rfl (flat_l rfl ⟨flat_o,trivial⟩) rfl (Nat.le_of_ble_eq_true rfl) ?_
  obtain ⟨r7,hr7,h⟩ := ob h
  try simp only [hb2,Nat.reduceBEq,reduceMul,reduceAdd,reduceDiv,Int.reduceBEq,RR]
  refine go_call (w_laws_eqStringS _ _ _ hr7) rfl (flat_of rfl) rfl (Nat.le_of_ble_eq_true rfl) ?_
  rcases Bool.eq_false_or_eq_true r7 with hb8 | hb8
  ·rw [ite_t hb8] at h
   try simp only [hb2,hb8,Nat.reduceBEq,reduceMul,reduceAdd,reduceDiv,Int.reduceBEq,RR]
   refine go_fr_of rfl ?_
   obtain ⟨r9,hr9,h⟩ := ob h
   try simp only [hb2,hb8,Nat.reduceBEq,reduceMul,reduceAdd,reduceDiv,Int.reduceBEq,RR]
   refine go_dcallf (wf_laws_toStrategy _ _ hr9) (by first | rfl | kernel_rfl) rfl (Nat.le_of_ble_eq_true rfl) ?_
   obtain ⟨r10,hr10,h⟩ := ob h
   try simp only [hb2,hb8,Nat.reduceBEq,reduceMul,reduceAdd,reduceDiv,Int.reduceBEq,RR]
   refine go_dcall (w_laws_eqStrategy _ _ _ hr10) (by first | rfl | kernel_rfl) (flat_of rfl) rfl (Nat.le_of_ble_eq_true rfl) ?_
   rcases Bool.eq_false_or_eq_true r10 with hb11 | hb11
   ·rw [ite_t hb11] at h
    try simp only [hb2,hb8,hb11,Nat.reduceBEq,reduceMul,reduceAdd,reduceDiv,Int.reduceBEq,RR]
    refine go_frz' rfl ?_
    try simp only [hb2,hb8,hb11,Nat.reduceBEq,reduceMul,reduceAdd,reduceDiv,Int.reduceBEq,RR]
    refine go_frz' rfl ?_
    try simp only [hb2,hb8,hb11,Nat.reduceBEq,reduceMul,reduceAdd,reduceDiv,Int.reduceBEq,RR]
    refine go_frz' rfl ?_
    obtain ⟨r12,hr12,h⟩ := ob h
    try simp only [hb2,hb8,hb11,Nat.reduceBEq,reduceMul,reduceAdd,reduceDiv,Int.reduceBEq,RR]
    refine go_callw (w_laws_markStrategy_d _ _ _ hr12) 0 rfl rfl (by first | exact flatRows_nil | (repeat (refine flatRows_cons ?_)); exact flatRows_nil) ?_
    rcases Bool.eq_false_or_eq_true (decide (r12 < (0 : Int))) with hb13 | hb13
    ·rw [ite_t hb13] at h
     try simp only [hb2,hb8,hb11,hb13,Nat.reduceBEq,reduceMul,reduceAdd,reduceDiv,Int.reduceBEq,RR]
     cases h
     exact ⟨⟨rfl,trivial⟩,rfl⟩
    ·rw [ite_f hb13] at h
     obtain ⟨r14,hr14,h⟩ := ob h
     try simp only [hb2,hb8,hb11,hb13,Nat.reduceBEq,reduceMul,reduceAdd,reduceDiv,Int.reduceBEq,RR]
     refine go_call (w_laws_eqStringS _ _ _ hr14) rfl (flat_of rfl) rfl (Nat.le_of_ble_eq_true rfl) ?_
     rcases Bool.eq_false_or_eq_true r14 with hb15 | hb15
     ·rw [ite_t hb15] at h
      obtain ⟨r16,hr16,h⟩ := ob h
      try simp only [hb2,hb8,hb11,hb13,hb15,Nat.reduceBEq,reduceMul,reduceAdd,reduceDiv,Int.reduceBEq,RR]
      have lrr16 := (l_laws_markStringS _ _ _ hr16)
      refine go_callx (ids := [1408]) (w_laws_markStringS _ _ _ hr16) rfl rfl rfl (flatR_cons flatR_nil) (sameLen_cons (l_laws_markStringS _ _ _ hr16) sameLen_nil) ?_
      obtain ⟨r17,hr17,h⟩ := ob h
      try simp only [hb2,hb8,hb11,hb13,hb15,Nat.reduceBEq,reduceMul,reduceAdd,reduceDiv,Int.reduceBEq,RR]
      refine go_call (w_laws_heldStringS _ _ _ hr17) rfl (flat_of rfl) rfl (Nat.le_of_ble_eq_true rfl) ?_
      rcases Bool.eq_false_or_eq_true (decide (r17 < (0 : Int))) with hb18 | hb18
      ·rw [ite_t hb18] at h
       try simp only [hb2,hb8,hb11,hb13,hb15,hb18,Nat.reduceBEq,reduceMul,reduceAdd,reduceDiv,Int.reduceBEq,RR]
       cases h
       exact ⟨⟨rfl,trivial⟩,rfl⟩
      ·rw [ite_f hb18] at h
       rcases Bool.eq_false_or_eq_true (r17 != r16.1) with hb19 | hb19
       ·rw [ite_t hb19] at h
        try simp only [hb2,hb8,hb11,hb13,hb15,hb18,hb19,Nat.reduceBEq,reduceMul,reduceAdd,reduceDiv,Int.reduceBEq,RR]
        cases h
        exact ⟨⟨rfl,trivial⟩,rfl⟩
       ·rw [ite_f hb19] at h
        obtain ⟨r20,hr20,h⟩ := ob h
        try simp only [hb2,hb8,hb11,hb13,hb15,hb18,hb19,Nat.reduceBEq,reduceMul,reduceAdd,reduceDiv,Int.reduceBEq,RR]
        refine go_callf (wf_laws_toStrategy _ _ hr20) rfl rfl (Nat.le_of_ble_eq_true rfl) ?_
        obtain ⟨r21,hr21,h⟩ := ob h
        try simp only [hb2,hb8,hb11,hb13,hb15,hb18,hb19,Nat.reduceBEq,reduceMul,reduceAdd,reduceDiv,Int.reduceBEq,RR]
        refine go_call (w_impl_StrategyLines _ _ hr21) rfl (flat_l rfl ⟨flat_o,trivial⟩) rfl (Nat.le_of_ble_eq_true rfl) ?_
        obtain ⟨r22,hr22,h⟩ := ob h
        try simp only [hb2,hb8,hb11,hb13,hb15,hb18,hb19,Nat.reduceBEq,reduceMul,reduceAdd,reduceDiv,Int.reduceBEq,RR]
        refine go_call (w_laws_eqStringS _ _ _ hr22) rfl (flat_of rfl) rfl (Nat.le_of_ble_eq_true rfl) ?_
        rcases Bool.eq_false_or_eq_true r22 with hb23 | hb23
        ·rw [ite_t hb23] at h
         obtain ⟨r24,hr24,h⟩ := ob h
         try simp only [hb2,hb8,hb11,hb13,hb15,hb18,hb19,hb23,Nat.reduceBEq,reduceMul,reduceAdd,reduceDiv,Int.reduceBEq,RR]
         refine go_call (w_laws_heldStringS _ _ _ hr24) rfl (flat_of rfl) rfl (Nat.le_of_ble_eq_true rfl) ?_
         rcases Bool.eq_false_or_eq_true (decide (r24 < (0 : Int))) with hb25 | hb25
         ·rw [ite_t hb25] at h
          try simp only [hb2,hb8,hb11,hb13,hb15,hb18,hb19,hb23,hb25,Nat.reduceBEq,reduceMul,reduceAdd,reduceDiv,Int.reduceBEq,RR]
          cases h
          exact ⟨⟨rfl,trivial⟩,rfl⟩
         ·rw [ite_f hb25] at h
          rcases Bool.eq_false_or_eq_true (r24 != r16.1) with hb26 | hb26
          ·rw [ite_t hb26] at h
           try simp only [hb2,hb8,hb11,hb13,hb15,hb18,hb19,hb23,hb25,hb26,Nat.reduceBEq,reduceMul,reduceAdd,reduceDiv,Int.reduceBEq,RR]
           cases h
           exact ⟨⟨rfl,trivial⟩,rfl⟩
          ·rw [ite_f hb26] at h
           try simp only [hb2,hb8,hb11,hb13,hb15,hb18,hb19,hb23,hb25,hb26,Nat.reduceBEq,reduceMul,reduceAdd,reduceDiv,Int.reduceBEq,RR]
           cases h
           exact ⟨⟨rfl,trivial⟩,rfl⟩
        ·rw [ite_f hb23] at h
         try simp only [hb2,hb8,hb11,hb13,hb15,hb18,hb19,hb23,Nat.reduceBEq,reduceMul,reduceAdd,reduceDiv,Int.reduceBEq,RR]
         cases h
         exact ⟨⟨rfl,trivial⟩,rfl⟩
     ·rw [ite_f hb15] at h
      try simp only [hb2,hb8,hb11,hb13,hb15,Nat.reduceBEq,reduceMul,reduceAdd,reduceDiv,Int.reduceBEq,RR]
      cases h
      exact ⟨⟨rfl,trivial⟩,rfl⟩
   ·rw [ite_f hb11] at h
    try simp only [hb2,hb8,hb11,Nat.reduceBEq,reduceMul,reduceAdd,reduceDiv,Int.reduceBEq,RR]
    cases h
    exact ⟨⟨rfl,trivial⟩,rfl⟩
  ·rw [ite_f hb8] at h
   try simp only [hb2,hb8,Nat.reduceBEq,reduceMul,reduceAdd,reduceDiv,Int.reduceBEq,RR]
   cases h
   exact ⟨⟨rfl,trivial⟩,rfl⟩
theorem w_laws_FnExactStrategyLines (a0 : XStrategy) (r : Bool) (h : f_laws_FnExactStrategyLines a0 = some r) : FC Tryd.prog 3 [.ag (XStrategy.row a0)] [.sc (.v (.bool r))] := (wf_laws_FnExactStrategyLines a0 r h).fc
end Go.Vi
