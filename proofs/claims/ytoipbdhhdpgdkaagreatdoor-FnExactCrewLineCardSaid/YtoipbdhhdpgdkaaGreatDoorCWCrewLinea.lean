/-
  Walks: what the plain definitions compute is what the functions return. By program. No condition.
-/
import Derived.Test.YtoipbdhhdpgdkaaGreatDoorCNf
import Derived.Test.YtoipbdhhdpgdkaaGreatDoorChecked
import Derived.Test.YtoipbdhhdpgdkaaGreatDoorCSh
import Derived.KernelRfl
namespace Go.Vi
open Go.Proofs
set_option linter.unusedSimpArgs false
set_option linter.unusedVariables false
set_option maxRecDepth 4000
set_option maxHeartbeats 2000000
open Nat (reduceMul reduceAdd reduceDiv)
attribute [local irreducible] go AWP
theorem mixed : Tryz.prog.follows .mixedOrders = true := by kernel_rfl
/- 79: laws_szPartS -/
def cc0 : ACode := (.seq (.reg [(none,.mv 4 (K 0))]) (.seq (.reg [mv 5 1,mv 6 0,(none,.len 7 (S 6)),bn 8 .sub 5 7,mv 1 8]) (.seq (.seq (.reg [mv 9 1,(none,.bin 10 .lss (S 9) (K 0))]) (.cond (S 10) (.seq (.reg [(none,.mv 4 (K (-1)))]) .ret) .skip)) (.seq (.reg [mv 11 1,mv 4 11]) .ret))))
theorem ee1 : entry Tryz.prog 79 = some (cc0.strip,[4],12) := by kernel_rfl
theorem w_laws_szPartS (a0 : List XPart) (a1 : Int) (r : Int) (h : f_laws_szPartS a0 a1 = some r) : FC Tryz.prog 79 [.sc (.sl (List.map XPart.row a0)),.sc (.int .i64 a1)] [.sc (.v (.int .i64 r))] := by
 unfold f_laws_szPartS at h
 refine FC_go (σ := ⟨[(0,vc (aL (List.map XPart.row a0))),(1,vc (aI a1))],[],[]⟩) mixed ee1 rfl rfl ?_
 simp only [cc0]
 rcases Bool.eq_false_or_eq_true (decide ((IntKind.i64.wrap (a1 - (a0.length : Int))) < (0 : Int))) with hb1 | hb1
 ·rw [ite_t hb1] at h
  try simp only [hb1,Nat.reduceBEq,reduceMul,reduceAdd,reduceDiv,Int.reduceBEq,RR]
  cases h
  exact ⟨⟨rfl,trivial⟩,rfl⟩
 ·rw [ite_f hb1] at h
  try simp only [hb1,Nat.reduceBEq,reduceMul,reduceAdd,reduceDiv,Int.reduceBEq,RR]
  cases h
  exact ⟨⟨rfl,trivial⟩,rfl⟩
/- 39: laws_szTide -/
def cc2 : ACode := (.seq (.reg [(none,.box 2 (S 0)),(none,.mv 4 (K 0))]) (.seq (.reg [fa 5 2 1,ld 6 5,mv 7 1,(none,.call 8 79 [(S 6),(S 7)]),mv 1 8]) (.seq (.seq (.reg [mv 9 1,(none,.bin 10 .lss (S 9) (K 0))]) (.cond (S 10) (.seq (.reg [(none,.mv 4 (K (-1)))]) .ret) .skip)) (.seq (.reg [mv 11 1,mv 4 11]) .ret))))
theorem ee3 : entry Tryz.prog 39 = some (cc2.strip,[4],12) := by kernel_rfl
theorem w_laws_szTide (a0 : XTide) (a1 : Int) (r : Int) (h : f_laws_szTide a0 a1 = some r) : FC Tryz.prog 39 [.ag (XTide.row a0),.sc (.int .i64 a1)] [.sc (.v (.int .i64 r))] := by
 unfold f_laws_szTide at h
 refine FC_go (σ := ⟨[(0,va [aI a0.Mean,aL (List.map XPart.row a0.Parts)]),(1,vc (aI a1))],[],[]⟩) mixed ee3 rfl rfl ?_
 simp only [cc2]
 try simp only [Nat.reduceBEq,reduceMul,reduceAdd,reduceDiv,Int.reduceBEq,RR]
 refine go_bx rfl rfl rfl ?_
 obtain ⟨r1,hr1,h⟩ := ob h
 try simp only [Nat.reduceBEq,reduceMul,reduceAdd,reduceDiv,Int.reduceBEq,RR]
 refine go_callI (w_laws_szPartS _ _ _ hr1) rfl rfl (Nat.le_of_ble_eq_true rfl) ?_
 rcases Bool.eq_false_or_eq_true (decide (r1 < (0 : Int))) with hb2 | hb2
 ·rw [ite_t hb2] at h
  try simp only [hb2,Nat.reduceBEq,reduceMul,reduceAdd,reduceDiv,Int.reduceBEq,RR]
  cases h
  exact ⟨⟨rfl,trivial⟩,rfl⟩
 ·rw [ite_f hb2] at h
  try simp only [hb2,Nat.reduceBEq,reduceMul,reduceAdd,reduceDiv,Int.reduceBEq,RR]
  cases h
  exact ⟨⟨rfl,trivial⟩,rfl⟩
/- 40: laws_szSurgeS -/
def cc4 : ACode := (.seq (.reg [(none,.mv 4 (K 0))]) (.seq (.reg [mv 5 1,mv 6 0,(none,.len 7 (S 6)),bn 8 .sub 5 7,mv 1 8]) (.seq (.seq (.reg [mv 9 1,(none,.bin 10 .lss (S 9) (K 0))]) (.cond (S 10) (.seq (.reg [(none,.mv 4 (K (-1)))]) .ret) .skip)) (.seq (.reg [mv 11 1,mv 4 11]) .ret))))
theorem ee5 : entry Tryz.prog 40 = some (cc4.strip,[4],12) := by kernel_rfl
theorem w_laws_szSurgeS (a0 : List XSurge) (a1 : Int) (r : Int) (h : f_laws_szSurgeS a0 a1 = some r) : FC Tryz.prog 40 [.sc (.sl (List.map XSurge.row a0)),.sc (.int .i64 a1)] [.sc (.v (.int .i64 r))] := by
 unfold f_laws_szSurgeS at h
 refine FC_go (σ := ⟨[(0,vc (aL (List.map XSurge.row a0))),(1,vc (aI a1))],[],[]⟩) mixed ee5 rfl rfl ?_
 simp only [cc4]
 rcases Bool.eq_false_or_eq_true (decide ((IntKind.i64.wrap (a1 - (a0.length : Int))) < (0 : Int))) with hb1 | hb1
 ·rw [ite_t hb1] at h
  try simp only [hb1,Nat.reduceBEq,reduceMul,reduceAdd,reduceDiv,Int.reduceBEq,RR]
  cases h
  exact ⟨⟨rfl,trivial⟩,rfl⟩
 ·rw [ite_f hb1] at h
  try simp only [hb1,Nat.reduceBEq,reduceMul,reduceAdd,reduceDiv,Int.reduceBEq,RR]
  cases h
  exact ⟨⟨rfl,trivial⟩,rfl⟩
/- 12: laws_szForecast -/
def cc6 : ACode := (.seq (.reg [(none,.box 2 (S 0)),(none,.mv 4 (K 0))]) (.seq (.reg [fa 5 2 0,(none,.load 6 (S 5) true 2),mv 7 1,(none,.call 8 39 [(S 6),(S 7)]),mv 1 8]) (.seq (.seq (.reg [mv 9 1,(none,.bin 10 .lss (S 9) (K 0))]) (.cond (S 10) (.seq (.reg [(none,.mv 4 (K (-1)))]) .ret) .skip)) (.seq (.reg [fa 11 2 2,ld 12 11,mv 13 1,(none,.call 14 40 [(S 12),(S 13)]),mv 1 14]) (.seq (.seq (.reg [mv 15 1,(none,.bin 16 .lss (S 15) (K 0))]) (.cond (S 16) (.seq (.reg [(none,.mv 4 (K (-1)))]) .ret) .skip)) (.seq (.reg [mv 17 1,mv 4 17]) .ret))))))
theorem ee7 : entry Tryz.prog 12 = some (cc6.strip,[4],18) := by kernel_rfl
theorem w_laws_szForecast (a0 : XForecast) (a1 : Int) (r : Int) (h : f_laws_szForecast a0 a1 = some r) : FC Tryz.prog 12 [.ag (XForecast.row a0),.sc (.int .i64 a1)] [.sc (.v (.int .i64 r))] := by
 unfold f_laws_szForecast at h
 refine FC_go (σ := ⟨[(0,va [aI a0.Tide.Mean,aL (List.map XPart.row a0.Tide.Parts),aL (List.map XSurge.row a0.Surges)]),(1,vc (aI a1))],[],[]⟩) mixed ee7 rfl rfl ?_
 simp only [cc6]
 try simp only [Nat.reduceBEq,reduceMul,reduceAdd,reduceDiv,Int.reduceBEq,RR]
 refine go_bx rfl rfl rfl ?_
 obtain ⟨r1,hr1,h⟩ := ob h
 try simp only [Nat.reduceBEq,reduceMul,reduceAdd,reduceDiv,Int.reduceBEq,RR]
 refine go_callI (w_laws_szTide _ _ _ hr1) rfl rfl (Nat.le_of_ble_eq_true rfl) ?_
 rcases Bool.eq_false_or_eq_true (decide (r1 < (0 : Int))) with hb2 | hb2
 ·rw [ite_t hb2] at h
  try simp only [hb2,Nat.reduceBEq,reduceMul,reduceAdd,reduceDiv,Int.reduceBEq,RR]
  cases h
  exact ⟨⟨rfl,trivial⟩,rfl⟩
 ·rw [ite_f hb2] at h
  obtain ⟨r3,hr3,h⟩ := ob h
  try simp only [hb2,Nat.reduceBEq,reduceMul,reduceAdd,reduceDiv,Int.reduceBEq,RR]
  refine go_callI (w_laws_szSurgeS _ _ _ hr3) rfl rfl (Nat.le_of_ble_eq_true rfl) ?_
  rcases Bool.eq_false_or_eq_true (decide (r3 < (0 : Int))) with hb4 | hb4
  ·rw [ite_t hb4] at h
   try simp only [hb2,hb4,Nat.reduceBEq,reduceMul,reduceAdd,reduceDiv,Int.reduceBEq,RR]
   cases h
   exact ⟨⟨rfl,trivial⟩,rfl⟩
  ·rw [ite_f hb4] at h
   try simp only [hb2,hb4,Nat.reduceBEq,reduceMul,reduceAdd,reduceDiv,Int.reduceBEq,RR]
   cases h
   exact ⟨⟨rfl,trivial⟩,rfl⟩
/- 80: laws_szPoint -/
def cc8 : ACode := (.seq (.reg [(none,.box 2 (S 0)),(none,.mv 4 (K 0))]) (.seq (.reg [mv 5 1,fa 6 2 0,ld 7 6,(none,.slen 8 (S 7)),bn 9 .sub 5 8,mv 1 9]) (.seq (.seq (.reg [mv 10 1,(none,.bin 11 .lss (S 10) (K 0))]) (.cond (S 11) (.seq (.reg [(none,.mv 4 (K (-1)))]) .ret) .skip)) (.seq (.reg [mv 12 1,mv 4 12]) .ret))))
theorem ee9 : entry Tryz.prog 80 = some (cc8.strip,[4],13) := by kernel_rfl
theorem w_laws_szPoint (a0 : XPoint) (a1 : Int) (r : Int) (h : f_laws_szPoint a0 a1 = some r) : FC Tryz.prog 80 [.ag (XPoint.row a0),.sc (.int .i64 a1)] [.sc (.v (.int .i64 r))] := by
 unfold f_laws_szPoint at h
 refine FC_go (σ := ⟨[(0,va [aS a0.Name,aB a0.Wait]),(1,vc (aI a1))],[],[]⟩) mixed ee9 rfl rfl ?_
 simp only [cc8]
 try simp only [Nat.reduceBEq,reduceMul,reduceAdd,reduceDiv,Int.reduceBEq,RR]
 refine go_bx rfl rfl rfl ?_
 rcases Bool.eq_false_or_eq_true (decide ((IntKind.i64.wrap (a1 - (a0.Name.length : Int))) < (0 : Int))) with hb1 | hb1
 ·rw [ite_t hb1] at h
  try simp only [hb1,Nat.reduceBEq,reduceMul,reduceAdd,reduceDiv,Int.reduceBEq,RR]
  cases h
  exact ⟨⟨rfl,trivial⟩,rfl⟩
 ·rw [ite_f hb1] at h
  try simp only [hb1,Nat.reduceBEq,reduceMul,reduceAdd,reduceDiv,Int.reduceBEq,RR]
  cases h
  exact ⟨⟨rfl,trivial⟩,rfl⟩
/- 41: laws_szPointS -/
def cc10 : ACode := .seq (.reg [(none,.keep [0,1,5] [] [])]) (.seq (.seq (.reg [mv 12 5,mv 13 0,(none,.len 14 (S 13)),bn 15 .lss 12 14]) (.cond (S 15) .skip (.exit 0))) (.seq (.block 1 (.seq (.reg [mv 18 0,mv 19 5,(none,.iaddr 20 (S 18) (S 19) 2),(none,.load 21 (S 20) true 2),mv 22 1,(none,.call 23 80 [(S 21),(S 22)]),mv 1 23]) (.seq (.reg [mv 24 1,(none,.bin 25 .lss (S 24) (K 0))]) (.cond (S 25) (.seq (.reg [(none,.mv 4 (K (-1)))]) .ret) .skip)))) (.reg [mv 16 5,(none,.bin 17 .add (S 16) (K 1)),mv 5 17])))
def cc11 : ACode := (.seq (.reg [mv 26 1,mv 4 26]) .ret)
def cc12 : ACode := (.seq (.reg [(none,.mv 4 (K 0))]) (.seq (.reg [mv 6 1,mv 7 0,(none,.len 8 (S 7)),bn 9 .sub 6 8,mv 1 9]) (.seq (.seq (.reg [mv 10 1,(none,.bin 11 .lss (S 10) (K 0))]) (.cond (S 11) (.seq (.reg [(none,.mv 4 (K (-1)))]) .ret) .skip)) (.seq (.seq (.reg [(none,.mv 5 (K 0))]) (.block 0 (.loop cc10))) cc11))))
theorem ww13 (a0 : List XPoint) : ∀ (n : Nat) (v2 : Int) (v3 : Int) (r : Int),f_laws_szPointS_1 a0 n v2 v3 = some r → ∀ σ : St,σ.kept [0,1,5] [] [] = ⟨[(0,vc (aL (List.map XPoint.row a0))),(1,vc (aI v2)),(5,vc (aI v3))],[],[]⟩ → go Tryz.prog (.code (.loop cc10) :: [.blk 0,.code cc11]) (Ret [4] [.sc (.v (.int .i64 r))]) .normal (some σ) := by
 intro n
 induction n with
 | zero => intro _ _ r h; cases h
 | succ n ih =>
  intro v2 v3 r h σ hσ
  rw [f_laws_szPointS_1] at h
  refine go_round ?_
  rcases Bool.eq_false_or_eq_true (decide (v3 < (a0.length : Int))) with hb4 | hb4
  ·rw [ite_t hb4] at h
   obtain ⟨x5,hx5,h⟩ := ob h
   obtain ⟨r6,hr6,h⟩ := ob h
   try simp only [hσ,hb4,hx5,cc10,Nat.reduceBEq,reduceMul,reduceAdd,reduceDiv,Int.reduceBEq,RR]
   refine go_callI (w_laws_szPoint _ _ _ hr6) rfl rfl (Nat.le_of_ble_eq_true rfl) ?_
   rcases Bool.eq_false_or_eq_true (decide (r6 < (0 : Int))) with hb7 | hb7
   ·rw [ite_t hb7] at h
    try simp only [hb4,hx5,hb7,Nat.reduceBEq,reduceMul,reduceAdd,reduceDiv,Int.reduceBEq,RR]
    cases h
    exact ⟨⟨rfl,trivial⟩,rfl⟩
   ·rw [ite_f hb7] at h
    try simp only [hb4,hx5,hb7,Nat.reduceBEq,reduceMul,reduceAdd,reduceDiv,Int.reduceBEq,RR]
    refine ih _ _ _ h _ ?_
    try simp only [hb4,hx5,hb7,Nat.reduceBEq,reduceMul,reduceAdd,reduceDiv,Int.reduceBEq,RR,List.map_nil]
  ·rw [ite_f hb4] at h
   try simp only [hσ,hb4,cc10,cc11,Nat.reduceBEq,reduceMul,reduceAdd,reduceDiv,Int.reduceBEq,RR]
   cases h
   exact ⟨⟨rfl,trivial⟩,rfl⟩
theorem ee14 : entry Tryz.prog 41 = some (cc12.strip,[4],27) := by kernel_rfl
theorem w_laws_szPointS (a0 : List XPoint) (a1 : Int) (r : Int) (h : f_laws_szPointS a0 a1 = some r) : FC Tryz.prog 41 [.sc (.sl (List.map XPoint.row a0)),.sc (.int .i64 a1)] [.sc (.v (.int .i64 r))] := by
 unfold f_laws_szPointS at h
 refine FC_go (σ := ⟨[(0,vc (aL (List.map XPoint.row a0))),(1,vc (aI a1))],[],[]⟩) mixed ee14 rfl rfl ?_
 simp only [cc12]
 rcases Bool.eq_false_or_eq_true (decide ((IntKind.i64.wrap (a1 - (a0.length : Int))) < (0 : Int))) with hb1 | hb1
 ·rw [ite_t hb1] at h
  try simp only [hb1,Nat.reduceBEq,reduceMul,reduceAdd,reduceDiv,Int.reduceBEq,RR]
  cases h
  exact ⟨⟨rfl,trivial⟩,rfl⟩
 ·rw [ite_f hb1] at h
  try simp only [hb1,Nat.reduceBEq,reduceMul,reduceAdd,reduceDiv,Int.reduceBEq,RR]
  refine ww13 _ _ _ _ _ h _ ?_
  try simp only [hb1,Nat.reduceBEq,reduceMul,reduceAdd,reduceDiv,Int.reduceBEq,RR,List.map_nil]
/- 42: laws_szSegmentS -/
def cc15 : ACode := (.seq (.reg [(none,.mv 4 (K 0))]) (.seq (.reg [mv 5 1,mv 6 0,(none,.len 7 (S 6)),bn 8 .sub 5 7,mv 1 8]) (.seq (.seq (.reg [mv 9 1,(none,.bin 10 .lss (S 9) (K 0))]) (.cond (S 10) (.seq (.reg [(none,.mv 4 (K (-1)))]) .ret) .skip)) (.seq (.reg [mv 11 1,mv 4 11]) .ret))))
theorem ee16 : entry Tryz.prog 42 = some (cc15.strip,[4],12) := by kernel_rfl
theorem w_laws_szSegmentS (a0 : List XSegment) (a1 : Int) (r : Int) (h : f_laws_szSegmentS a0 a1 = some r) : FC Tryz.prog 42 [.sc (.sl (List.map XSegment.row a0)),.sc (.int .i64 a1)] [.sc (.v (.int .i64 r))] := by
 unfold f_laws_szSegmentS at h
 refine FC_go (σ := ⟨[(0,vc (aL (List.map XSegment.row a0))),(1,vc (aI a1))],[],[]⟩) mixed ee16 rfl rfl ?_
 simp only [cc15]
 rcases Bool.eq_false_or_eq_true (decide ((IntKind.i64.wrap (a1 - (a0.length : Int))) < (0 : Int))) with hb1 | hb1
 ·rw [ite_t hb1] at h
  try simp only [hb1,Nat.reduceBEq,reduceMul,reduceAdd,reduceDiv,Int.reduceBEq,RR]
  cases h
  exact ⟨⟨rfl,trivial⟩,rfl⟩
 ·rw [ite_f hb1] at h
  try simp only [hb1,Nat.reduceBEq,reduceMul,reduceAdd,reduceDiv,Int.reduceBEq,RR]
  cases h
  exact ⟨⟨rfl,trivial⟩,rfl⟩
/- 13: laws_szChart -/
def cc17 : ACode := (.seq (.reg [(none,.box 2 (S 0)),(none,.mv 4 (K 0))]) (.seq (.reg [fa 5 2 0,ld 6 5,mv 7 1,(none,.call 8 41 [(S 6),(S 7)]),mv 1 8]) (.seq (.seq (.reg [mv 9 1,(none,.bin 10 .lss (S 9) (K 0))]) (.cond (S 10) (.seq (.reg [(none,.mv 4 (K (-1)))]) .ret) .skip)) (.seq (.reg [fa 11 2 1,ld 12 11,mv 13 1,(none,.call 14 42 [(S 12),(S 13)]),mv 1 14]) (.seq (.seq (.reg [mv 15 1,(none,.bin 16 .lss (S 15) (K 0))]) (.cond (S 16) (.seq (.reg [(none,.mv 4 (K (-1)))]) .ret) .skip)) (.seq (.reg [mv 17 1,mv 4 17]) .ret))))))
theorem ee18 : entry Tryz.prog 13 = some (cc17.strip,[4],18) := by kernel_rfl
theorem w_laws_szChart (a0 : XChart) (a1 : Int) (r : Int) (h : f_laws_szChart a0 a1 = some r) : FC Tryz.prog 13 [.ag (XChart.row a0),.sc (.int .i64 a1)] [.sc (.v (.int .i64 r))] := by
 unfold f_laws_szChart at h
 refine FC_go (σ := ⟨[(0,va [aL (List.map XPoint.row a0.Points),aL (List.map XSegment.row a0.Segments)]),(1,vc (aI a1))],[],[]⟩) mixed ee18 rfl rfl ?_
 simp only [cc17]
 try simp only [Nat.reduceBEq,reduceMul,reduceAdd,reduceDiv,Int.reduceBEq,RR]
 refine go_bx rfl rfl rfl ?_
 obtain ⟨r1,hr1,h⟩ := ob h
 try simp only [Nat.reduceBEq,reduceMul,reduceAdd,reduceDiv,Int.reduceBEq,RR]
 refine go_callI (w_laws_szPointS _ _ _ hr1) rfl rfl (Nat.le_of_ble_eq_true rfl) ?_
 rcases Bool.eq_false_or_eq_true (decide (r1 < (0 : Int))) with hb2 | hb2
 ·rw [ite_t hb2] at h
  try simp only [hb2,Nat.reduceBEq,reduceMul,reduceAdd,reduceDiv,Int.reduceBEq,RR]
  cases h
  exact ⟨⟨rfl,trivial⟩,rfl⟩
 ·rw [ite_f hb2] at h
  obtain ⟨r3,hr3,h⟩ := ob h
  try simp only [hb2,Nat.reduceBEq,reduceMul,reduceAdd,reduceDiv,Int.reduceBEq,RR]
  refine go_callI (w_laws_szSegmentS _ _ _ hr3) rfl rfl (Nat.le_of_ble_eq_true rfl) ?_
  rcases Bool.eq_false_or_eq_true (decide (r3 < (0 : Int))) with hb4 | hb4
  ·rw [ite_t hb4] at h
   try simp only [hb2,hb4,Nat.reduceBEq,reduceMul,reduceAdd,reduceDiv,Int.reduceBEq,RR]
   cases h
   exact ⟨⟨rfl,trivial⟩,rfl⟩
  ·rw [ite_f hb4] at h
   try simp only [hb2,hb4,Nat.reduceBEq,reduceMul,reduceAdd,reduceDiv,Int.reduceBEq,RR]
   cases h
   exact ⟨⟨rfl,trivial⟩,rfl⟩
/- 43: laws_szShip -/
def cc19 : ACode := (.seq (.reg [(none,.box 2 (S 0)),(none,.mv 4 (K 0))]) (.seq (.reg [mv 5 1,fa 6 2 0,ld 7 6,(none,.slen 8 (S 7)),bn 9 .sub 5 8,mv 1 9]) (.seq (.seq (.reg [mv 10 1,(none,.bin 11 .lss (S 10) (K 0))]) (.cond (S 11) (.seq (.reg [(none,.mv 4 (K (-1)))]) .ret) .skip)) (.seq (.reg [mv 12 1,mv 4 12]) .ret))))
theorem ee20 : entry Tryz.prog 43 = some (cc19.strip,[4],13) := by kernel_rfl
theorem w_laws_szShip (a0 : XShip) (a1 : Int) (r : Int) (h : f_laws_szShip a0 a1 = some r) : FC Tryz.prog 43 [.ag (XShip.row a0),.sc (.int .i64 a1)] [.sc (.v (.int .i64 r))] := by
 unfold f_laws_szShip at h
 refine FC_go (σ := ⟨[(0,va [aS a0.Name,aI a0.Length,aI a0.Draught,aI a0.Line,aI a0.Tugs,aB a0.Slow]),(1,vc (aI a1))],[],[]⟩) mixed ee20 rfl rfl ?_
 simp only [cc19]
 try simp only [Nat.reduceBEq,reduceMul,reduceAdd,reduceDiv,Int.reduceBEq,RR]
 refine go_bx rfl rfl rfl ?_
 rcases Bool.eq_false_or_eq_true (decide ((IntKind.i64.wrap (a1 - (a0.Name.length : Int))) < (0 : Int))) with hb1 | hb1
 ·rw [ite_t hb1] at h
  try simp only [hb1,Nat.reduceBEq,reduceMul,reduceAdd,reduceDiv,Int.reduceBEq,RR]
  cases h
  exact ⟨⟨rfl,trivial⟩,rfl⟩
 ·rw [ite_f hb1] at h
  try simp only [hb1,Nat.reduceBEq,reduceMul,reduceAdd,reduceDiv,Int.reduceBEq,RR]
  cases h
  exact ⟨⟨rfl,trivial⟩,rfl⟩
/- 14: laws_szShipS -/
def cc21 : ACode := .seq (.reg [(none,.keep [0,1,5] [] [])]) (.seq (.seq (.reg [mv 12 5,mv 13 0,(none,.len 14 (S 13)),bn 15 .lss 12 14]) (.cond (S 15) .skip (.exit 0))) (.seq (.block 1 (.seq (.reg [mv 18 0,mv 19 5,(none,.iaddr 20 (S 18) (S 19) 6),(none,.load 21 (S 20) true 6),mv 22 1,(none,.call 23 43 [(S 21),(S 22)]),mv 1 23]) (.seq (.reg [mv 24 1,(none,.bin 25 .lss (S 24) (K 0))]) (.cond (S 25) (.seq (.reg [(none,.mv 4 (K (-1)))]) .ret) .skip)))) (.reg [mv 16 5,(none,.bin 17 .add (S 16) (K 1)),mv 5 17])))
def cc22 : ACode := (.seq (.reg [mv 26 1,mv 4 26]) .ret)
def cc23 : ACode := (.seq (.reg [(none,.mv 4 (K 0))]) (.seq (.reg [mv 6 1,mv 7 0,(none,.len 8 (S 7)),bn 9 .sub 6 8,mv 1 9]) (.seq (.seq (.reg [mv 10 1,(none,.bin 11 .lss (S 10) (K 0))]) (.cond (S 11) (.seq (.reg [(none,.mv 4 (K (-1)))]) .ret) .skip)) (.seq (.seq (.reg [(none,.mv 5 (K 0))]) (.block 0 (.loop cc21))) cc22))))
theorem ww24 (a0 : List XShip) : ∀ (n : Nat) (v2 : Int) (v3 : Int) (r : Int),f_laws_szShipS_1 a0 n v2 v3 = some r → ∀ σ : St,σ.kept [0,1,5] [] [] = ⟨[(0,vc (aL (List.map XShip.row a0))),(1,vc (aI v2)),(5,vc (aI v3))],[],[]⟩ → go Tryz.prog (.code (.loop cc21) :: [.blk 0,.code cc22]) (Ret [4] [.sc (.v (.int .i64 r))]) .normal (some σ) := by
 intro n
 induction n with
 | zero => intro _ _ r h; cases h
 | succ n ih =>
  intro v2 v3 r h σ hσ
  rw [f_laws_szShipS_1] at h
  refine go_round ?_
  rcases Bool.eq_false_or_eq_true (decide (v3 < (a0.length : Int))) with hb4 | hb4
  ·rw [ite_t hb4] at h
   obtain ⟨x5,hx5,h⟩ := ob h
   obtain ⟨r6,hr6,h⟩ := ob h
   try simp only [hσ,hb4,hx5,cc21,Nat.reduceBEq,reduceMul,reduceAdd,reduceDiv,Int.reduceBEq,RR]
   refine go_callI (w_laws_szShip _ _ _ hr6) rfl rfl (Nat.le_of_ble_eq_true rfl) ?_
   rcases Bool.eq_false_or_eq_true (decide (r6 < (0 : Int))) with hb7 | hb7
   ·rw [ite_t hb7] at h
    try simp only [hb4,hx5,hb7,Nat.reduceBEq,reduceMul,reduceAdd,reduceDiv,Int.reduceBEq,RR]
    cases h
    exact ⟨⟨rfl,trivial⟩,rfl⟩
   ·rw [ite_f hb7] at h
    try simp only [hb4,hx5,hb7,Nat.reduceBEq,reduceMul,reduceAdd,reduceDiv,Int.reduceBEq,RR]
    refine ih _ _ _ h _ ?_
    try simp only [hb4,hx5,hb7,Nat.reduceBEq,reduceMul,reduceAdd,reduceDiv,Int.reduceBEq,RR,List.map_nil]
  ·rw [ite_f hb4] at h
   try simp only [hσ,hb4,cc21,cc22,Nat.reduceBEq,reduceMul,reduceAdd,reduceDiv,Int.reduceBEq,RR]
   cases h
   exact ⟨⟨rfl,trivial⟩,rfl⟩
theorem ee25 : entry Tryz.prog 14 = some (cc23.strip,[4],27) := by kernel_rfl
theorem w_laws_szShipS (a0 : List XShip) (a1 : Int) (r : Int) (h : f_laws_szShipS a0 a1 = some r) : FC Tryz.prog 14 [.sc (.sl (List.map XShip.row a0)),.sc (.int .i64 a1)] [.sc (.v (.int .i64 r))] := by
 unfold f_laws_szShipS at h
 refine FC_go (σ := ⟨[(0,vc (aL (List.map XShip.row a0))),(1,vc (aI a1))],[],[]⟩) mixed ee25 rfl rfl ?_
 simp only [cc23]
 rcases Bool.eq_false_or_eq_true (decide ((IntKind.i64.wrap (a1 - (a0.length : Int))) < (0 : Int))) with hb1 | hb1
 ·rw [ite_t hb1] at h
  try simp only [hb1,Nat.reduceBEq,reduceMul,reduceAdd,reduceDiv,Int.reduceBEq,RR]
  cases h
  exact ⟨⟨rfl,trivial⟩,rfl⟩
 ·rw [ite_f hb1] at h
  try simp only [hb1,Nat.reduceBEq,reduceMul,reduceAdd,reduceDiv,Int.reduceBEq,RR]
  refine ww24 _ _ _ _ _ h _ ?_
  try simp only [hb1,Nat.reduceBEq,reduceMul,reduceAdd,reduceDiv,Int.reduceBEq,RR,List.map_nil]
/- 44: laws_szIntS -/
def cc26 : ACode := (.seq (.reg [(none,.mv 4 (K 0))]) (.seq (.reg [mv 5 1,mv 6 0,(none,.len 7 (S 6)),bn 8 .sub 5 7,mv 1 8]) (.seq (.seq (.reg [mv 9 1,(none,.bin 10 .lss (S 9) (K 0))]) (.cond (S 10) (.seq (.reg [(none,.mv 4 (K (-1)))]) .ret) .skip)) (.seq (.reg [mv 11 1,mv 4 11]) .ret))))
theorem ee27 : entry Tryz.prog 44 = some (cc26.strip,[4],12) := by kernel_rfl
theorem w_laws_szIntS (a0 : List Int) (a1 : Int) (r : Int) (h : f_laws_szIntS a0 a1 = some r) : FC Tryz.prog 44 [.sc (.sl (List.map rI a0)),.sc (.int .i64 a1)] [.sc (.v (.int .i64 r))] := by
 unfold f_laws_szIntS at h
 refine FC_go (σ := ⟨[(0,vc (aL (List.map rI a0))),(1,vc (aI a1))],[],[]⟩) mixed ee27 rfl rfl ?_
 simp only [cc26]
 rcases Bool.eq_false_or_eq_true (decide ((IntKind.i64.wrap (a1 - (a0.length : Int))) < (0 : Int))) with hb1 | hb1
 ·rw [ite_t hb1] at h
  try simp only [hb1,Nat.reduceBEq,reduceMul,reduceAdd,reduceDiv,Int.reduceBEq,RR]
  cases h
  exact ⟨⟨rfl,trivial⟩,rfl⟩
 ·rw [ite_f hb1] at h
  try simp only [hb1,Nat.reduceBEq,reduceMul,reduceAdd,reduceDiv,Int.reduceBEq,RR]
  cases h
  exact ⟨⟨rfl,trivial⟩,rfl⟩
/- 15: laws_szCrew -/
def cc28 : ACode := (.seq (.reg [(none,.box 2 (S 0)),(none,.mv 4 (K 0))]) (.seq (.reg [fa 5 2 3,ld 6 5,mv 7 1,(none,.call 8 44 [(S 6),(S 7)]),mv 1 8]) (.seq (.seq (.reg [mv 9 1,(none,.bin 10 .lss (S 9) (K 0))]) (.cond (S 10) (.seq (.reg [(none,.mv 4 (K (-1)))]) .ret) .skip)) (.seq (.reg [mv 11 1,mv 4 11]) .ret))))
theorem ee29 : entry Tryz.prog 15 = some (cc28.strip,[4],12) := by kernel_rfl
theorem w_laws_szCrew (a0 : XCrew) (a1 : Int) (r : Int) (h : f_laws_szCrew a0 a1 = some r) : FC Tryz.prog 15 [.ag (XCrew.row a0),.sc (.int .i64 a1)] [.sc (.v (.int .i64 r))] := by
 unfold f_laws_szCrew at h
 refine FC_go (σ := ⟨[(0,va [aI a0.Tugs,aI a0.Pilots,aI a0.Rest,aL (List.map rI a0.Moves)]),(1,vc (aI a1))],[],[]⟩) mixed ee29 rfl rfl ?_
 simp only [cc28]
 try simp only [Nat.reduceBEq,reduceMul,reduceAdd,reduceDiv,Int.reduceBEq,RR]
 refine go_bx rfl rfl rfl ?_
 obtain ⟨r1,hr1,h⟩ := ob h
 try simp only [Nat.reduceBEq,reduceMul,reduceAdd,reduceDiv,Int.reduceBEq,RR]
 refine go_callI (w_laws_szIntS _ _ _ hr1) rfl rfl (Nat.le_of_ble_eq_true rfl) ?_
 rcases Bool.eq_false_or_eq_true (decide (r1 < (0 : Int))) with hb2 | hb2
 ·rw [ite_t hb2] at h
  try simp only [hb2,Nat.reduceBEq,reduceMul,reduceAdd,reduceDiv,Int.reduceBEq,RR]
  cases h
  exact ⟨⟨rfl,trivial⟩,rfl⟩
 ·rw [ite_f hb2] at h
  try simp only [hb2,Nat.reduceBEq,reduceMul,reduceAdd,reduceDiv,Int.reduceBEq,RR]
  cases h
  exact ⟨⟨rfl,trivial⟩,rfl⟩
/- 4: laws_szHarbour -/
def cc30 : ACode := (.seq (.reg [(none,.box 2 (S 0)),(none,.mv 4 (K 0))]) (.seq (.reg [fa 5 2 0,(none,.load 6 (S 5) true 3),mv 7 1,(none,.call 8 12 [(S 6),(S 7)]),mv 1 8]) (.seq (.seq (.reg [mv 9 1,(none,.bin 10 .lss (S 9) (K 0))]) (.cond (S 10) (.seq (.reg [(none,.mv 4 (K (-1)))]) .ret) .skip)) (.seq (.reg [fa 11 2 3,(none,.load 12 (S 11) true 2),mv 13 1,(none,.call 14 13 [(S 12),(S 13)]),mv 1 14]) (.seq (.seq (.reg [mv 15 1,(none,.bin 16 .lss (S 15) (K 0))]) (.cond (S 16) (.seq (.reg [(none,.mv 4 (K (-1)))]) .ret) .skip)) (.seq (.reg [fa 17 2 5,ld 18 17,mv 19 1,(none,.call 20 14 [(S 18),(S 19)]),mv 1 20]) (.seq (.seq (.reg [mv 21 1,(none,.bin 22 .lss (S 21) (K 0))]) (.cond (S 22) (.seq (.reg [(none,.mv 4 (K (-1)))]) .ret) .skip)) (.seq (.reg [fa 23 2 8,(none,.load 24 (S 23) true 4),mv 25 1,(none,.call 26 15 [(S 24),(S 25)]),mv 1 26]) (.seq (.seq (.reg [mv 27 1,(none,.bin 28 .lss (S 27) (K 0))]) (.cond (S 28) (.seq (.reg [(none,.mv 4 (K (-1)))]) .ret) .skip)) (.seq (.reg [mv 29 1,mv 4 29]) .ret))))))))))
theorem ee31 : entry Tryz.prog 4 = some (cc30.strip,[4],30) := by kernel_rfl
theorem w_laws_szHarbour (a0 : XHarbour) (a1 : Int) (r : Int) (h : f_laws_szHarbour a0 a1 = some r) : FC Tryz.prog 4 [.ag (XHarbour.row a0),.sc (.int .i64 a1)] [.sc (.v (.int .i64 r))] := by
 unfold f_laws_szHarbour at h
 refine FC_go (σ := ⟨[(0,va [aI a0.Forecast.Tide.Mean,aL (List.map XPart.row a0.Forecast.Tide.Parts),aL (List.map XSurge.row a0.Forecast.Surges),aL (List.map XPoint.row a0.Chart.Points),aL (List.map XSegment.row a0.Chart.Segments),aL (List.map XShip.row a0.Fleet),aI a0.Regime.Gap,aB a0.Regime.NoMeet,aI a0.Crew.Tugs,aI a0.Crew.Pilots,aI a0.Crew.Rest,aL (List.map rI a0.Crew.Moves)]),(1,vc (aI a1))],[],[]⟩) mixed ee31 rfl rfl ?_
 simp only [cc30]
 try simp only [Nat.reduceBEq,reduceMul,reduceAdd,reduceDiv,Int.reduceBEq,RR]
 refine go_bx rfl rfl rfl ?_
 obtain ⟨r1,hr1,h⟩ := ob h
 try simp only [Nat.reduceBEq,reduceMul,reduceAdd,reduceDiv,Int.reduceBEq,RR]
 refine go_callI (w_laws_szForecast _ _ _ hr1) rfl rfl (Nat.le_of_ble_eq_true rfl) ?_
 rcases Bool.eq_false_or_eq_true (decide (r1 < (0 : Int))) with hb2 | hb2
 ·rw [ite_t hb2] at h
  try simp only [hb2,Nat.reduceBEq,reduceMul,reduceAdd,reduceDiv,Int.reduceBEq,RR]
  cases h
  exact ⟨⟨rfl,trivial⟩,rfl⟩
 ·rw [ite_f hb2] at h
  obtain ⟨r3,hr3,h⟩ := ob h
  try simp only [hb2,Nat.reduceBEq,reduceMul,reduceAdd,reduceDiv,Int.reduceBEq,RR]
  refine go_callI (w_laws_szChart _ _ _ hr3) rfl rfl (Nat.le_of_ble_eq_true rfl) ?_
  rcases Bool.eq_false_or_eq_true (decide (r3 < (0 : Int))) with hb4 | hb4
  ·rw [ite_t hb4] at h
   try simp only [hb2,hb4,Nat.reduceBEq,reduceMul,reduceAdd,reduceDiv,Int.reduceBEq,RR]
   cases h
   exact ⟨⟨rfl,trivial⟩,rfl⟩
  ·rw [ite_f hb4] at h
   obtain ⟨r5,hr5,h⟩ := ob h
   try simp only [hb2,hb4,Nat.reduceBEq,reduceMul,reduceAdd,reduceDiv,Int.reduceBEq,RR]
   refine go_callI (w_laws_szShipS _ _ _ hr5) rfl rfl (Nat.le_of_ble_eq_true rfl) ?_
   rcases Bool.eq_false_or_eq_true (decide (r5 < (0 : Int))) with hb6 | hb6
   ·rw [ite_t hb6] at h
    try simp only [hb2,hb4,hb6,Nat.reduceBEq,reduceMul,reduceAdd,reduceDiv,Int.reduceBEq,RR]
    cases h
    exact ⟨⟨rfl,trivial⟩,rfl⟩
   ·rw [ite_f hb6] at h
    obtain ⟨r7,hr7,h⟩ := ob h
    try simp only [hb2,hb4,hb6,Nat.reduceBEq,reduceMul,reduceAdd,reduceDiv,Int.reduceBEq,RR]
    refine go_callI (w_laws_szCrew _ _ _ hr7) rfl rfl (Nat.le_of_ble_eq_true rfl) ?_
    rcases Bool.eq_false_or_eq_true (decide (r7 < (0 : Int))) with hb8 | hb8
    ·rw [ite_t hb8] at h
     try simp only [hb2,hb4,hb6,hb8,Nat.reduceBEq,reduceMul,reduceAdd,reduceDiv,Int.reduceBEq,RR]
     cases h
     exact ⟨⟨rfl,trivial⟩,rfl⟩
    ·rw [ite_f hb8] at h
     try simp only [hb2,hb4,hb6,hb8,Nat.reduceBEq,reduceMul,reduceAdd,reduceDiv,Int.reduceBEq,RR]
     cases h
     exact ⟨⟨rfl,trivial⟩,rfl⟩
/- 45: laws_szPassageS -/
def cc32 : ACode := (.seq (.reg [(none,.mv 4 (K 0))]) (.seq (.reg [mv 5 1,mv 6 0,(none,.len 7 (S 6)),bn 8 .sub 5 7,mv 1 8]) (.seq (.seq (.reg [mv 9 1,(none,.bin 10 .lss (S 9) (K 0))]) (.cond (S 10) (.seq (.reg [(none,.mv 4 (K (-1)))]) .ret) .skip)) (.seq (.reg [mv 11 1,mv 4 11]) .ret))))
theorem ee33 : entry Tryz.prog 45 = some (cc32.strip,[4],12) := by kernel_rfl
theorem w_laws_szPassageS (a0 : List XPassage) (a1 : Int) (r : Int) (h : f_laws_szPassageS a0 a1 = some r) : FC Tryz.prog 45 [.sc (.sl (List.map XPassage.row a0)),.sc (.int .i64 a1)] [.sc (.v (.int .i64 r))] := by
 unfold f_laws_szPassageS at h
 refine FC_go (σ := ⟨[(0,vc (aL (List.map XPassage.row a0))),(1,vc (aI a1))],[],[]⟩) mixed ee33 rfl rfl ?_
 simp only [cc32]
 rcases Bool.eq_false_or_eq_true (decide ((IntKind.i64.wrap (a1 - (a0.length : Int))) < (0 : Int))) with hb1 | hb1
 ·rw [ite_t hb1] at h
  try simp only [hb1,Nat.reduceBEq,reduceMul,reduceAdd,reduceDiv,Int.reduceBEq,RR]
  cases h
  exact ⟨⟨rfl,trivial⟩,rfl⟩
 ·rw [ite_f hb1] at h
  try simp only [hb1,Nat.reduceBEq,reduceMul,reduceAdd,reduceDiv,Int.reduceBEq,RR]
  cases h
  exact ⟨⟨rfl,trivial⟩,rfl⟩
/- 16: laws_szOption -/
def cc34 : ACode := (.seq (.reg [(none,.box 2 (S 0)),(none,.mv 4 (K 0))]) (.seq (.reg [fa 5 2 3,ld 6 5,mv 7 1,(none,.call 8 45 [(S 6),(S 7)]),mv 1 8]) (.seq (.seq (.reg [mv 9 1,(none,.bin 10 .lss (S 9) (K 0))]) (.cond (S 10) (.seq (.reg [(none,.mv 4 (K (-1)))]) .ret) .skip)) (.seq (.reg [mv 11 1,mv 4 11]) .ret))))
theorem ee35 : entry Tryz.prog 16 = some (cc34.strip,[4],12) := by kernel_rfl
theorem w_laws_szOption (a0 : XOption) (a1 : Int) (r : Int) (h : f_laws_szOption a0 a1 = some r) : FC Tryz.prog 16 [.ag (XOption.row a0),.sc (.int .i64 a1)] [.sc (.v (.int .i64 r))] := by
 unfold f_laws_szOption at h
 refine FC_go (σ := ⟨[(0,va [aI a0.Start,aI a0.Arrival,aI a0.Cost,aL (List.map XPassage.row a0.Passages)]),(1,vc (aI a1))],[],[]⟩) mixed ee35 rfl rfl ?_
 simp only [cc34]
 try simp only [Nat.reduceBEq,reduceMul,reduceAdd,reduceDiv,Int.reduceBEq,RR]
 refine go_bx rfl rfl rfl ?_
 obtain ⟨r1,hr1,h⟩ := ob h
 try simp only [Nat.reduceBEq,reduceMul,reduceAdd,reduceDiv,Int.reduceBEq,RR]
 refine go_callI (w_laws_szPassageS _ _ _ hr1) rfl rfl (Nat.le_of_ble_eq_true rfl) ?_
 rcases Bool.eq_false_or_eq_true (decide (r1 < (0 : Int))) with hb2 | hb2
 ·rw [ite_t hb2] at h
  try simp only [hb2,Nat.reduceBEq,reduceMul,reduceAdd,reduceDiv,Int.reduceBEq,RR]
  cases h
  exact ⟨⟨rfl,trivial⟩,rfl⟩
 ·rw [ite_f hb2] at h
  try simp only [hb2,Nat.reduceBEq,reduceMul,reduceAdd,reduceDiv,Int.reduceBEq,RR]
  cases h
  exact ⟨⟨rfl,trivial⟩,rfl⟩
/- 5: laws_szOptionS -/
def cc36 : ACode := .seq (.reg [(none,.keep [0,1,5] [] [])]) (.seq (.seq (.reg [mv 12 5,mv 13 0,(none,.len 14 (S 13)),bn 15 .lss 12 14]) (.cond (S 15) .skip (.exit 0))) (.seq (.block 1 (.seq (.reg [mv 18 0,mv 19 5,(none,.iaddr 20 (S 18) (S 19) 4),(none,.load 21 (S 20) true 4),mv 22 1,(none,.call 23 16 [(S 21),(S 22)]),mv 1 23]) (.seq (.reg [mv 24 1,(none,.bin 25 .lss (S 24) (K 0))]) (.cond (S 25) (.seq (.reg [(none,.mv 4 (K (-1)))]) .ret) .skip)))) (.reg [mv 16 5,(none,.bin 17 .add (S 16) (K 1)),mv 5 17])))
def cc37 : ACode := (.seq (.reg [mv 26 1,mv 4 26]) .ret)
def cc38 : ACode := (.seq (.reg [(none,.mv 4 (K 0))]) (.seq (.reg [mv 6 1,mv 7 0,(none,.len 8 (S 7)),bn 9 .sub 6 8,mv 1 9]) (.seq (.seq (.reg [mv 10 1,(none,.bin 11 .lss (S 10) (K 0))]) (.cond (S 11) (.seq (.reg [(none,.mv 4 (K (-1)))]) .ret) .skip)) (.seq (.seq (.reg [(none,.mv 5 (K 0))]) (.block 0 (.loop cc36))) cc37))))
theorem ww39 (a0 : List XOption) : ∀ (n : Nat) (v2 : Int) (v3 : Int) (r : Int),f_laws_szOptionS_1 a0 n v2 v3 = some r → ∀ σ : St,σ.kept [0,1,5] [] [] = ⟨[(0,vc (aL (List.map XOption.row a0))),(1,vc (aI v2)),(5,vc (aI v3))],[],[]⟩ → go Tryz.prog (.code (.loop cc36) :: [.blk 0,.code cc37]) (Ret [4] [.sc (.v (.int .i64 r))]) .normal (some σ) := by
 intro n
 induction n with
 | zero => intro _ _ r h; cases h
 | succ n ih =>
  intro v2 v3 r h σ hσ
  rw [f_laws_szOptionS_1] at h
  refine go_round ?_
  rcases Bool.eq_false_or_eq_true (decide (v3 < (a0.length : Int))) with hb4 | hb4
  ·rw [ite_t hb4] at h
   obtain ⟨x5,hx5,h⟩ := ob h
   obtain ⟨r6,hr6,h⟩ := ob h
   try simp only [hσ,hb4,hx5,cc36,Nat.reduceBEq,reduceMul,reduceAdd,reduceDiv,Int.reduceBEq,RR]
   refine go_callI (w_laws_szOption _ _ _ hr6) rfl rfl (Nat.le_of_ble_eq_true rfl) ?_
   rcases Bool.eq_false_or_eq_true (decide (r6 < (0 : Int))) with hb7 | hb7
   ·rw [ite_t hb7] at h
    try simp only [hb4,hx5,hb7,Nat.reduceBEq,reduceMul,reduceAdd,reduceDiv,Int.reduceBEq,RR]
    cases h
    exact ⟨⟨rfl,trivial⟩,rfl⟩
   ·rw [ite_f hb7] at h
    try simp only [hb4,hx5,hb7,Nat.reduceBEq,reduceMul,reduceAdd,reduceDiv,Int.reduceBEq,RR]
    refine ih _ _ _ h _ ?_
    try simp only [hb4,hx5,hb7,Nat.reduceBEq,reduceMul,reduceAdd,reduceDiv,Int.reduceBEq,RR,List.map_nil]
  ·rw [ite_f hb4] at h
   try simp only [hσ,hb4,cc36,cc37,Nat.reduceBEq,reduceMul,reduceAdd,reduceDiv,Int.reduceBEq,RR]
   cases h
   exact ⟨⟨rfl,trivial⟩,rfl⟩
theorem ee40 : entry Tryz.prog 5 = some (cc38.strip,[4],27) := by kernel_rfl
theorem w_laws_szOptionS (a0 : List XOption) (a1 : Int) (r : Int) (h : f_laws_szOptionS a0 a1 = some r) : FC Tryz.prog 5 [.sc (.sl (List.map XOption.row a0)),.sc (.int .i64 a1)] [.sc (.v (.int .i64 r))] := by
 unfold f_laws_szOptionS at h
 refine FC_go (σ := ⟨[(0,vc (aL (List.map XOption.row a0))),(1,vc (aI a1))],[],[]⟩) mixed ee40 rfl rfl ?_
 simp only [cc38]
 rcases Bool.eq_false_or_eq_true (decide ((IntKind.i64.wrap (a1 - (a0.length : Int))) < (0 : Int))) with hb1 | hb1
 ·rw [ite_t hb1] at h
  try simp only [hb1,Nat.reduceBEq,reduceMul,reduceAdd,reduceDiv,Int.reduceBEq,RR]
  cases h
  exact ⟨⟨rfl,trivial⟩,rfl⟩
 ·rw [ite_f hb1] at h
  try simp only [hb1,Nat.reduceBEq,reduceMul,reduceAdd,reduceDiv,Int.reduceBEq,RR]
  refine ww39 _ _ _ _ _ h _ ?_
  try simp only [hb1,Nat.reduceBEq,reduceMul,reduceAdd,reduceDiv,Int.reduceBEq,RR,List.map_nil]
/- 130: laws_toPart -/
def cc41 : ACode := (.seq (.reg [(none,.box 1 (S 0)),(none,.alloc 2 [aI 0,aI 0,aI 0])]) (.seq (.reg [(none,.alloc 3 [aI 0,aI 0,aI 0])]) (.seq (.reg [fa 4 1 0,ld 5 4,fa 6 3 0,(none,.store (S 6) (S 5) 1)]) (.seq (.reg [fa 7 1 1,ld 8 7,fa 9 3 1,(none,.store (S 9) (S 8) 1)]) (.seq (.reg [fa 10 1 2,ld 11 10,fa 12 3 2,(none,.store (S 12) (S 11) 1)]) (.seq (.reg [(none,.load 13 (S 3) true 3),(none,.store (S 2) (S 13) 3)]) .ret))))))
theorem ee42 : entry Tryz.prog 130 = some (cc41.strip,[.c 2 true 3],14) := by kernel_rfl
theorem w_laws_toPart (a0 : XPart) (r : XPart) (h : f_laws_toPart a0 = some r) : FC Tryz.prog 130 [.ag (XPart.row a0)] [.ag [.v (.int .i64 r.Amp),.v (.int .i64 r.Period),.v (.int .i64 r.Phase)]] := by
 unfold f_laws_toPart at h
 refine FC_go (σ := ⟨[(0,va [aI a0.Amp,aI a0.Period,aI a0.Phase])],[],[]⟩) mixed ee42 rfl rfl ?_
 simp only [cc41]
 try simp only [Nat.reduceBEq,reduceMul,reduceAdd,reduceDiv,Int.reduceBEq,RR]
 refine go_bx rfl rfl rfl ?_
 try simp only [Nat.reduceBEq,reduceMul,reduceAdd,reduceDiv,Int.reduceBEq,RR]
 refine go_al rfl rfl ?_
 try simp only [Nat.reduceBEq,reduceMul,reduceAdd,reduceDiv,Int.reduceBEq,RR]
 refine go_al rfl rfl ?_
 try simp only [Nat.reduceBEq,reduceMul,reduceAdd,reduceDiv,Int.reduceBEq,RR]
 cases h
 try simp only [rulesR,Nat.reduceBEq,reduceMul,reduceAdd,reduceDiv,Int.reduceBEq,RR]
 exact ⟨⟨⟨rfl,rfl,rfl,trivial⟩,trivial⟩,rfl⟩
/- 96: laws_toPartS -/
def cc43 : ACode := .seq (.reg [(none,.keep [0,3,4] [] [448])]) (.seq (.seq (.reg [mv 8 4,mv 9 0,(none,.len 10 (S 9)),bn 11 .lss 8 10]) (.cond (S 11) .skip (.exit 0))) (.seq (.block 1 (.reg [mv 14 3,mv 15 4,mv 16 0,mv 17 4,(none,.iaddr 18 (S 16) (S 17) 3),(none,.load 19 (S 18) true 3),(none,.call 20 130 [(S 19)]),(none,.iaddr 21 (S 14) (S 15) 3),(none,.store (S 21) (S 20) 3)])) (.reg [mv 12 4,(none,.bin 13 .add (S 12) (K 1)),mv 4 13])))
def cc44 : ACode := (.seq (.reg [mv 22 3,mv 2 22]) .ret)
def cc45 : ACode := (.seq (.reg [(none,.mv 2 KN)]) (.seq (.reg [mv 5 0,(none,.len 6 (S 5)),(none,.mksl 7 3 24 [.int .i64 0,.int .i64 0,.int .i64 0] (S 6) (S 6)),mv 3 7]) (.seq (.seq (.reg [(none,.mv 4 (K 0))]) (.block 0 (.loop cc43))) cc44)))
theorem ww46 (a0 : List XPart) : ∀ (n : Nat) (v2 : Int) (v3 : List XPart) (r : (List XPart)),f_laws_toPartS_1 a0 n v2 v3 = some r → ∀ σ : St,σ.kept [0,3,4] [] [448] = ⟨[(0,vc (aL (List.map XPart.row a0))),(3,vc (.own 448)),(4,vc (aI v2))],[],[(448,3,List.map XPart.row v3)]⟩ → go Tryz.prog (.code (.loop cc43) :: [.blk 0,.code cc44]) (Ret [2] [.sc (.o 3 (List.map XPart.row r))]) .normal (some σ) := by
 intro n
 induction n with
 | zero => intro _ _ r h; cases h
 | succ n ih =>
  intro v2 v3 r h σ hσ
  rw [f_laws_toPartS_1] at h
  refine go_round ?_
  rcases Bool.eq_false_or_eq_true (decide (v2 < (a0.length : Int))) with hb4 | hb4
  ·rw [ite_t hb4] at h
   obtain ⟨x5,hx5,h⟩ := ob h
   obtain ⟨r6,hr6,h⟩ := ob h
   try simp only [hσ,hb4,hx5,cc43,Nat.reduceBEq,reduceMul,reduceAdd,reduceDiv,Int.reduceBEq,RR]
   refine go_callI (w_laws_toPart _ _ hr6) rfl rfl (Nat.le_of_ble_eq_true rfl) ?_
   obtain ⟨x7,hx7,h⟩ := ob h
   have hx7n := ix_get hx7
   try simp only [hb4,hx5,hx7,Nat.reduceBEq,reduceMul,reduceAdd,reduceDiv,Int.reduceBEq,RR]
   refine go_stp (y := r6) rfl rfl hx7n rfl rfl rfl ?_
   try simp only [hb4,hx5,hx7,Nat.reduceBEq,reduceMul,reduceAdd,reduceDiv,Int.reduceBEq,RR]
   refine ih _ _ _ h _ ?_
   try simp only [hb4,hx5,hx7,Nat.reduceBEq,reduceMul,reduceAdd,reduceDiv,Int.reduceBEq,RR,List.map_nil]
  ·rw [ite_f hb4] at h
   try simp only [hσ,hb4,cc43,cc44,Nat.reduceBEq,reduceMul,reduceAdd,reduceDiv,Int.reduceBEq,RR]
   cases h
   exact ⟨⟨rfl,trivial⟩,rfl⟩
theorem ee47 : entry Tryz.prog 96 = some (cc45.strip,[2],23) := by kernel_rfl
theorem w_laws_toPartS (a0 : List XPart) (r : (List XPart)) (h : f_laws_toPartS a0 = some r) : FC Tryz.prog 96 [.sc (.sl (List.map XPart.row a0))] [.sc (.o 3 (List.map XPart.row r))] := by
 unfold f_laws_toPartS at h
 refine FC_go (σ := ⟨[(0,vc (aL (List.map XPart.row a0)))],[],[]⟩) mixed ee47 rfl rfl ?_
 simp only [cc45]
 obtain ⟨n1,hn1,h⟩ := ob h
 try simp only [Nat.reduceBEq,reduceMul,reduceAdd,reduceDiv,Int.reduceBEq,RR]
 refine go_mks (es := List.map XPart.row (List.replicate n1 (⟨(0 : Int),(0 : Int),(0 : Int)⟩ : XPart))) rfl rfl hn1 rfl (rep_map rfl) rfl ?_
 try simp only [Nat.reduceBEq,reduceMul,reduceAdd,reduceDiv,Int.reduceBEq,RR]
 refine ww46 _ _ _ _ _ h _ ?_
 try simp only [Nat.reduceBEq,reduceMul,reduceAdd,reduceDiv,Int.reduceBEq,RR,List.map_nil]
/- 54: laws_toTide -/
def cc48 : ACode := (.seq (.reg [(none,.box 1 (S 0)),(none,.alloc 2 [aI 0,.nil])]) (.seq (.reg [(none,.alloc 3 [aI 0,.nil])]) (.seq (.reg [fa 4 1 0,ld 5 4,fa 6 3 0,(none,.store (S 6) (S 5) 1)]) (.seq (.reg [fa 7 1 1,ld 8 7,(none,.call 9 96 [(S 8)]),fa 10 3 1,(none,.store (S 10) (S 9) 1)]) (.seq (.reg [(none,.load 11 (S 3) true 2),(none,.store (S 2) (S 11) 2)]) .ret)))))
theorem ee49 : entry Tryz.prog 54 = some (cc48.strip,[.c 2 true 2],12) := by kernel_rfl
theorem w_laws_toTide (a0 : XTide) (r : XTide) (h : f_laws_toTide a0 = some r) : FC Tryz.prog 54 [.ag (XTide.row a0)] [.ag [.v (.int .i64 r.Mean),.o 3 (List.map XPart.row r.Parts)]] := by
 unfold f_laws_toTide at h
 refine FC_go (σ := ⟨[(0,va [aI a0.Mean,aL (List.map XPart.row a0.Parts)])],[],[]⟩) mixed ee49 rfl rfl ?_
 simp only [cc48]
 try simp only [Nat.reduceBEq,reduceMul,reduceAdd,reduceDiv,Int.reduceBEq,RR]
 refine go_bx rfl rfl rfl ?_
 try simp only [Nat.reduceBEq,reduceMul,reduceAdd,reduceDiv,Int.reduceBEq,RR]
 refine go_al rfl rfl ?_
 try simp only [Nat.reduceBEq,reduceMul,reduceAdd,reduceDiv,Int.reduceBEq,RR]
 refine go_al rfl rfl ?_
 obtain ⟨r1,hr1,h⟩ := ob h
 try simp only [Nat.reduceBEq,reduceMul,reduceAdd,reduceDiv,Int.reduceBEq,RR]
 refine go_callI (w_laws_toPartS _ _ hr1) rfl rfl (Nat.le_of_ble_eq_true rfl) ?_
 try simp only [Nat.reduceBEq,reduceMul,reduceAdd,reduceDiv,Int.reduceBEq,RR]
 cases h
 try simp only [rulesR,Nat.reduceBEq,reduceMul,reduceAdd,reduceDiv,Int.reduceBEq,RR]
 exact ⟨⟨⟨rfl,rfl,trivial⟩,trivial⟩,rfl⟩
/- 97: laws_toSurge -/
def cc50 : ACode := (.seq (.reg [(none,.box 1 (S 0)),(none,.alloc 2 [aI 0,aI 0,aI 0])]) (.seq (.reg [(none,.alloc 3 [aI 0,aI 0,aI 0])]) (.seq (.reg [fa 4 1 0,ld 5 4,fa 6 3 0,(none,.store (S 6) (S 5) 1)]) (.seq (.reg [fa 7 1 1,ld 8 7,fa 9 3 1,(none,.store (S 9) (S 8) 1)]) (.seq (.reg [fa 10 1 2,ld 11 10,fa 12 3 2,(none,.store (S 12) (S 11) 1)]) (.seq (.reg [(none,.load 13 (S 3) true 3),(none,.store (S 2) (S 13) 3)]) .ret))))))
theorem ee51 : entry Tryz.prog 97 = some (cc50.strip,[.c 2 true 3],14) := by kernel_rfl
theorem w_laws_toSurge (a0 : XSurge) (r : XSurge) (h : f_laws_toSurge a0 = some r) : FC Tryz.prog 97 [.ag (XSurge.row a0)] [.ag [.v (.int .i64 r.From),.v (.int .i64 r.Low),.v (.int .i64 r.High)]] := by
 unfold f_laws_toSurge at h
 refine FC_go (σ := ⟨[(0,va [aI a0.From,aI a0.Low,aI a0.High])],[],[]⟩) mixed ee51 rfl rfl ?_
 simp only [cc50]
 try simp only [Nat.reduceBEq,reduceMul,reduceAdd,reduceDiv,Int.reduceBEq,RR]
 refine go_bx rfl rfl rfl ?_
 try simp only [Nat.reduceBEq,reduceMul,reduceAdd,reduceDiv,Int.reduceBEq,RR]
 refine go_al rfl rfl ?_
 try simp only [Nat.reduceBEq,reduceMul,reduceAdd,reduceDiv,Int.reduceBEq,RR]
 refine go_al rfl rfl ?_
 try simp only [Nat.reduceBEq,reduceMul,reduceAdd,reduceDiv,Int.reduceBEq,RR]
 cases h
 try simp only [rulesR,Nat.reduceBEq,reduceMul,reduceAdd,reduceDiv,Int.reduceBEq,RR]
 exact ⟨⟨⟨rfl,rfl,rfl,trivial⟩,trivial⟩,rfl⟩
/- 55: laws_toSurgeS -/
def cc52 : ACode := .seq (.reg [(none,.keep [0,3,4] [] [448])]) (.seq (.seq (.reg [mv 8 4,mv 9 0,(none,.len 10 (S 9)),bn 11 .lss 8 10]) (.cond (S 11) .skip (.exit 0))) (.seq (.block 1 (.reg [mv 14 3,mv 15 4,mv 16 0,mv 17 4,(none,.iaddr 18 (S 16) (S 17) 3),(none,.load 19 (S 18) true 3),(none,.call 20 97 [(S 19)]),(none,.iaddr 21 (S 14) (S 15) 3),(none,.store (S 21) (S 20) 3)])) (.reg [mv 12 4,(none,.bin 13 .add (S 12) (K 1)),mv 4 13])))
def cc53 : ACode := (.seq (.reg [mv 22 3,mv 2 22]) .ret)
def cc54 : ACode := (.seq (.reg [(none,.mv 2 KN)]) (.seq (.reg [mv 5 0,(none,.len 6 (S 5)),(none,.mksl 7 3 24 [.int .i64 0,.int .i64 0,.int .i64 0] (S 6) (S 6)),mv 3 7]) (.seq (.seq (.reg [(none,.mv 4 (K 0))]) (.block 0 (.loop cc52))) cc53)))
theorem ww55 (a0 : List XSurge) : ∀ (n : Nat) (v2 : Int) (v3 : List XSurge) (r : (List XSurge)),f_laws_toSurgeS_1 a0 n v2 v3 = some r → ∀ σ : St,σ.kept [0,3,4] [] [448] = ⟨[(0,vc (aL (List.map XSurge.row a0))),(3,vc (.own 448)),(4,vc (aI v2))],[],[(448,3,List.map XSurge.row v3)]⟩ → go Tryz.prog (.code (.loop cc52) :: [.blk 0,.code cc53]) (Ret [2] [.sc (.o 3 (List.map XSurge.row r))]) .normal (some σ) := by
 intro n
 induction n with
 | zero => intro _ _ r h; cases h
 | succ n ih =>
  intro v2 v3 r h σ hσ
  rw [f_laws_toSurgeS_1] at h
  refine go_round ?_
  rcases Bool.eq_false_or_eq_true (decide (v2 < (a0.length : Int))) with hb4 | hb4
  ·rw [ite_t hb4] at h
   obtain ⟨x5,hx5,h⟩ := ob h
   obtain ⟨r6,hr6,h⟩ := ob h
   try simp only [hσ,hb4,hx5,cc52,Nat.reduceBEq,reduceMul,reduceAdd,reduceDiv,Int.reduceBEq,RR]
   refine go_callI (w_laws_toSurge _ _ hr6) rfl rfl (Nat.le_of_ble_eq_true rfl) ?_
   obtain ⟨x7,hx7,h⟩ := ob h
   have hx7n := ix_get hx7
   try simp only [hb4,hx5,hx7,Nat.reduceBEq,reduceMul,reduceAdd,reduceDiv,Int.reduceBEq,RR]
   refine go_stp (y := r6) rfl rfl hx7n rfl rfl rfl ?_
   try simp only [hb4,hx5,hx7,Nat.reduceBEq,reduceMul,reduceAdd,reduceDiv,Int.reduceBEq,RR]
   refine ih _ _ _ h _ ?_
   try simp only [hb4,hx5,hx7,Nat.reduceBEq,reduceMul,reduceAdd,reduceDiv,Int.reduceBEq,RR,List.map_nil]
  ·rw [ite_f hb4] at h
   try simp only [hσ,hb4,cc52,cc53,Nat.reduceBEq,reduceMul,reduceAdd,reduceDiv,Int.reduceBEq,RR]
   cases h
   exact ⟨⟨rfl,trivial⟩,rfl⟩
theorem ee56 : entry Tryz.prog 55 = some (cc54.strip,[2],23) := by kernel_rfl
theorem w_laws_toSurgeS (a0 : List XSurge) (r : (List XSurge)) (h : f_laws_toSurgeS a0 = some r) : FC Tryz.prog 55 [.sc (.sl (List.map XSurge.row a0))] [.sc (.o 3 (List.map XSurge.row r))] := by
 unfold f_laws_toSurgeS at h
 refine FC_go (σ := ⟨[(0,vc (aL (List.map XSurge.row a0)))],[],[]⟩) mixed ee56 rfl rfl ?_
 simp only [cc54]
 obtain ⟨n1,hn1,h⟩ := ob h
 try simp only [Nat.reduceBEq,reduceMul,reduceAdd,reduceDiv,Int.reduceBEq,RR]
 refine go_mks (es := List.map XSurge.row (List.replicate n1 (⟨(0 : Int),(0 : Int),(0 : Int)⟩ : XSurge))) rfl rfl hn1 rfl (rep_map rfl) rfl ?_
 try simp only [Nat.reduceBEq,reduceMul,reduceAdd,reduceDiv,Int.reduceBEq,RR]
 refine ww55 _ _ _ _ _ h _ ?_
 try simp only [Nat.reduceBEq,reduceMul,reduceAdd,reduceDiv,Int.reduceBEq,RR,List.map_nil]
/- 22: laws_toForecast -/
def cc57 : ACode := (.seq (.reg [(none,.box 1 (S 0)),(none,.alloc 2 [aI 0,.nil,.nil])]) (.seq (.reg [(none,.alloc 3 [aI 0,.nil,.nil])]) (.seq (.reg [fa 4 1 0,(none,.load 5 (S 4) true 2),(none,.call 6 54 [(S 5)]),fa 7 3 0,(none,.store (S 7) (S 6) 2)]) (.seq (.reg [fa 8 1 2,ld 9 8,(none,.call 10 55 [(S 9)]),fa 11 3 2,(none,.store (S 11) (S 10) 1)]) (.seq (.reg [(none,.load 12 (S 3) true 3),(none,.store (S 2) (S 12) 3)]) .ret)))))
theorem ee58 : entry Tryz.prog 22 = some (cc57.strip,[.c 2 true 3],13) := by kernel_rfl
theorem w_laws_toForecast (a0 : XForecast) (r : XForecast) (h : f_laws_toForecast a0 = some r) : FC Tryz.prog 22 [.ag (XForecast.row a0)] [.ag [.v (.int .i64 r.Tide.Mean),.o 3 (List.map XPart.row r.Tide.Parts),.o 3 (List.map XSurge.row r.Surges)]] := by
 unfold f_laws_toForecast at h
 refine FC_go (σ := ⟨[(0,va [aI a0.Tide.Mean,aL (List.map XPart.row a0.Tide.Parts),aL (List.map XSurge.row a0.Surges)])],[],[]⟩) mixed ee58 rfl rfl ?_
 simp only [cc57]
 try simp only [Nat.reduceBEq,reduceMul,reduceAdd,reduceDiv,Int.reduceBEq,RR]
 refine go_bx rfl rfl rfl ?_
 try simp only [Nat.reduceBEq,reduceMul,reduceAdd,reduceDiv,Int.reduceBEq,RR]
 refine go_al rfl rfl ?_
 try simp only [Nat.reduceBEq,reduceMul,reduceAdd,reduceDiv,Int.reduceBEq,RR]
 refine go_al rfl rfl ?_
 obtain ⟨r1,hr1,h⟩ := ob h
 try simp only [Nat.reduceBEq,reduceMul,reduceAdd,reduceDiv,Int.reduceBEq,RR]
 refine go_callI (w_laws_toTide _ _ hr1) rfl rfl (Nat.le_of_ble_eq_true rfl) ?_
 obtain ⟨r2,hr2,h⟩ := ob h
 try simp only [Nat.reduceBEq,reduceMul,reduceAdd,reduceDiv,Int.reduceBEq,RR]
 refine go_callI (w_laws_toSurgeS _ _ hr2) rfl rfl (Nat.le_of_ble_eq_true rfl) ?_
 try simp only [Nat.reduceBEq,reduceMul,reduceAdd,reduceDiv,Int.reduceBEq,RR]
 cases h
 try simp only [rulesR,Nat.reduceBEq,reduceMul,reduceAdd,reduceDiv,Int.reduceBEq,RR]
 exact ⟨⟨⟨rfl,rfl,rfl,trivial⟩,trivial⟩,rfl⟩
/- 98: laws_toPoint -/
def cc59 : ACode := (.seq (.reg [(none,.box 1 (S 0)),(none,.alloc 2 [aS [],aB false])]) (.seq (.reg [(none,.alloc 3 [aS [],aB false])]) (.seq (.reg [fa 4 1 0,ld 5 4,fa 6 3 0,(none,.store (S 6) (S 5) 1)]) (.seq (.reg [fa 7 1 1,ld 8 7,fa 9 3 1,(none,.store (S 9) (S 8) 1)]) (.seq (.reg [(none,.load 10 (S 3) true 2),(none,.store (S 2) (S 10) 2)]) .ret)))))
theorem ee60 : entry Tryz.prog 98 = some (cc59.strip,[.c 2 true 2],11) := by kernel_rfl
theorem w_laws_toPoint (a0 : XPoint) (r : XPoint) (h : f_laws_toPoint a0 = some r) : FC Tryz.prog 98 [.ag (XPoint.row a0)] [.ag [.v (.str r.Name),.v (.bool r.Wait)]] := by
 unfold f_laws_toPoint at h
 refine FC_go (σ := ⟨[(0,va [aS a0.Name,aB a0.Wait])],[],[]⟩) mixed ee60 rfl rfl ?_
 simp only [cc59]
 try simp only [Nat.reduceBEq,reduceMul,reduceAdd,reduceDiv,Int.reduceBEq,RR]
 refine go_bx rfl rfl rfl ?_
 try simp only [Nat.reduceBEq,reduceMul,reduceAdd,reduceDiv,Int.reduceBEq,RR]
 refine go_al rfl rfl ?_
 try simp only [Nat.reduceBEq,reduceMul,reduceAdd,reduceDiv,Int.reduceBEq,RR]
 refine go_al rfl rfl ?_
 try simp only [Nat.reduceBEq,reduceMul,reduceAdd,reduceDiv,Int.reduceBEq,RR]
 cases h
 try simp only [rulesR,Nat.reduceBEq,reduceMul,reduceAdd,reduceDiv,Int.reduceBEq,RR]
 exact ⟨⟨⟨rfl,rfl,trivial⟩,trivial⟩,rfl⟩
/- 56: laws_toPointS -/
def cc61 : ACode := .seq (.reg [(none,.keep [0,3,4] [] [448])]) (.seq (.seq (.reg [mv 8 4,mv 9 0,(none,.len 10 (S 9)),bn 11 .lss 8 10]) (.cond (S 11) .skip (.exit 0))) (.seq (.block 1 (.reg [mv 14 3,mv 15 4,mv 16 0,mv 17 4,(none,.iaddr 18 (S 16) (S 17) 2),(none,.load 19 (S 18) true 2),(none,.call 20 98 [(S 19)]),(none,.iaddr 21 (S 14) (S 15) 2),(none,.store (S 21) (S 20) 2)])) (.reg [mv 12 4,(none,.bin 13 .add (S 12) (K 1)),mv 4 13])))
def cc62 : ACode := (.seq (.reg [mv 22 3,mv 2 22]) .ret)
def cc63 : ACode := (.seq (.reg [(none,.mv 2 KN)]) (.seq (.reg [mv 5 0,(none,.len 6 (S 5)),(none,.mksl 7 2 24 [.str [],.bool false] (S 6) (S 6)),mv 3 7]) (.seq (.seq (.reg [(none,.mv 4 (K 0))]) (.block 0 (.loop cc61))) cc62)))
theorem ww64 (a0 : List XPoint) : ∀ (n : Nat) (v2 : Int) (v3 : List XPoint) (r : (List XPoint)),f_laws_toPointS_1 a0 n v2 v3 = some r → ∀ σ : St,σ.kept [0,3,4] [] [448] = ⟨[(0,vc (aL (List.map XPoint.row a0))),(3,vc (.own 448)),(4,vc (aI v2))],[],[(448,2,List.map XPoint.row v3)]⟩ → go Tryz.prog (.code (.loop cc61) :: [.blk 0,.code cc62]) (Ret [2] [.sc (.o 2 (List.map XPoint.row r))]) .normal (some σ) := by
 intro n
 induction n with
 | zero => intro _ _ r h; cases h
 | succ n ih =>
  intro v2 v3 r h σ hσ
  rw [f_laws_toPointS_1] at h
  refine go_round ?_
  rcases Bool.eq_false_or_eq_true (decide (v2 < (a0.length : Int))) with hb4 | hb4
  ·rw [ite_t hb4] at h
   obtain ⟨x5,hx5,h⟩ := ob h
   obtain ⟨r6,hr6,h⟩ := ob h
   try simp only [hσ,hb4,hx5,cc61,Nat.reduceBEq,reduceMul,reduceAdd,reduceDiv,Int.reduceBEq,RR]
   refine go_callI (w_laws_toPoint _ _ hr6) rfl rfl (Nat.le_of_ble_eq_true rfl) ?_
   obtain ⟨x7,hx7,h⟩ := ob h
   have hx7n := ix_get hx7
   try simp only [hb4,hx5,hx7,Nat.reduceBEq,reduceMul,reduceAdd,reduceDiv,Int.reduceBEq,RR]
   refine go_stp (y := r6) rfl rfl hx7n rfl rfl rfl ?_
   try simp only [hb4,hx5,hx7,Nat.reduceBEq,reduceMul,reduceAdd,reduceDiv,Int.reduceBEq,RR]
   refine ih _ _ _ h _ ?_
   try simp only [hb4,hx5,hx7,Nat.reduceBEq,reduceMul,reduceAdd,reduceDiv,Int.reduceBEq,RR,List.map_nil]
  ·rw [ite_f hb4] at h
   try simp only [hσ,hb4,cc61,cc62,Nat.reduceBEq,reduceMul,reduceAdd,reduceDiv,Int.reduceBEq,RR]
   cases h
   exact ⟨⟨rfl,trivial⟩,rfl⟩
theorem ee65 : entry Tryz.prog 56 = some (cc63.strip,[2],23) := by kernel_rfl
theorem w_laws_toPointS (a0 : List XPoint) (r : (List XPoint)) (h : f_laws_toPointS a0 = some r) : FC Tryz.prog 56 [.sc (.sl (List.map XPoint.row a0))] [.sc (.o 2 (List.map XPoint.row r))] := by
 unfold f_laws_toPointS at h
 refine FC_go (σ := ⟨[(0,vc (aL (List.map XPoint.row a0)))],[],[]⟩) mixed ee65 rfl rfl ?_
 simp only [cc63]
 obtain ⟨n1,hn1,h⟩ := ob h
 try simp only [Nat.reduceBEq,reduceMul,reduceAdd,reduceDiv,Int.reduceBEq,RR]
 refine go_mks (es := List.map XPoint.row (List.replicate n1 (⟨([] : List UInt8),false⟩ : XPoint))) rfl rfl hn1 rfl (rep_map rfl) rfl ?_
 try simp only [Nat.reduceBEq,reduceMul,reduceAdd,reduceDiv,Int.reduceBEq,RR]
 refine ww64 _ _ _ _ _ h _ ?_
 try simp only [Nat.reduceBEq,reduceMul,reduceAdd,reduceDiv,Int.reduceBEq,RR,List.map_nil]
/- 99: laws_toSegment -/
def cc66 : ACode := (.seq (.reg [(none,.box 1 (S 0)),(none,.alloc 2 [aI 0,aI 0,aI 0,aI 0,aB false])]) (.seq (.reg [(none,.alloc 3 [aI 0,aI 0,aI 0,aI 0,aB false])]) (.seq (.reg [fa 4 1 0,ld 5 4,fa 6 3 0,(none,.store (S 6) (S 5) 1)]) (.seq (.reg [fa 7 1 1,ld 8 7,fa 9 3 1,(none,.store (S 9) (S 8) 1)]) (.seq (.reg [fa 10 1 2,ld 11 10,fa 12 3 2,(none,.store (S 12) (S 11) 1)]) (.seq (.reg [fa 13 1 3,ld 14 13,fa 15 3 3,(none,.store (S 15) (S 14) 1)]) (.seq (.reg [fa 16 1 4,ld 17 16,fa 18 3 4,(none,.store (S 18) (S 17) 1)]) (.seq (.reg [(none,.load 19 (S 3) true 5),(none,.store (S 2) (S 19) 5)]) .ret))))))))
theorem ee67 : entry Tryz.prog 99 = some (cc66.strip,[.c 2 true 5],20) := by kernel_rfl
theorem w_laws_toSegment (a0 : XSegment) (r : XSegment) (h : f_laws_toSegment a0 = some r) : FC Tryz.prog 99 [.ag (XSegment.row a0)] [.ag [.v (.int .i64 r.A),.v (.int .i64 r.B),.v (.int .i64 r.Depth),.v (.int .i64 r.Minutes),.v (.bool r.Meet)]] := by
 unfold f_laws_toSegment at h
 refine FC_go (σ := ⟨[(0,va [aI a0.A,aI a0.B,aI a0.Depth,aI a0.Minutes,aB a0.Meet])],[],[]⟩) mixed ee67 rfl rfl ?_
 simp only [cc66]
 try simp only [Nat.reduceBEq,reduceMul,reduceAdd,reduceDiv,Int.reduceBEq,RR]
 refine go_bx rfl rfl rfl ?_
 try simp only [Nat.reduceBEq,reduceMul,reduceAdd,reduceDiv,Int.reduceBEq,RR]
 refine go_al rfl rfl ?_
 try simp only [Nat.reduceBEq,reduceMul,reduceAdd,reduceDiv,Int.reduceBEq,RR]
 refine go_al rfl rfl ?_
 try simp only [Nat.reduceBEq,reduceMul,reduceAdd,reduceDiv,Int.reduceBEq,RR]
 cases h
 try simp only [rulesR,Nat.reduceBEq,reduceMul,reduceAdd,reduceDiv,Int.reduceBEq,RR]
 exact ⟨⟨⟨rfl,rfl,rfl,rfl,rfl,trivial⟩,trivial⟩,rfl⟩
/- 57: laws_toSegmentS -/
def cc68 : ACode := .seq (.reg [(none,.keep [0,3,4] [] [448])]) (.seq (.seq (.reg [mv 8 4,mv 9 0,(none,.len 10 (S 9)),bn 11 .lss 8 10]) (.cond (S 11) .skip (.exit 0))) (.seq (.block 1 (.reg [mv 14 3,mv 15 4,mv 16 0,mv 17 4,(none,.iaddr 18 (S 16) (S 17) 5),(none,.load 19 (S 18) true 5),(none,.call 20 99 [(S 19)]),(none,.iaddr 21 (S 14) (S 15) 5),(none,.store (S 21) (S 20) 5)])) (.reg [mv 12 4,(none,.bin 13 .add (S 12) (K 1)),mv 4 13])))
def cc69 : ACode := (.seq (.reg [mv 22 3,mv 2 22]) .ret)
def cc70 : ACode := (.seq (.reg [(none,.mv 2 KN)]) (.seq (.reg [mv 5 0,(none,.len 6 (S 5)),(none,.mksl 7 5 40 [.int .i64 0,.int .i64 0,.int .i64 0,.int .i64 0,.bool false] (S 6) (S 6)),mv 3 7]) (.seq (.seq (.reg [(none,.mv 4 (K 0))]) (.block 0 (.loop cc68))) cc69)))
theorem ww71 (a0 : List XSegment) : ∀ (n : Nat) (v2 : Int) (v3 : List XSegment) (r : (List XSegment)),f_laws_toSegmentS_1 a0 n v2 v3 = some r → ∀ σ : St,σ.kept [0,3,4] [] [448] = ⟨[(0,vc (aL (List.map XSegment.row a0))),(3,vc (.own 448)),(4,vc (aI v2))],[],[(448,5,List.map XSegment.row v3)]⟩ → go Tryz.prog (.code (.loop cc68) :: [.blk 0,.code cc69]) (Ret [2] [.sc (.o 5 (List.map XSegment.row r))]) .normal (some σ) := by
 intro n
 induction n with
 | zero => intro _ _ r h; cases h
 | succ n ih =>
  intro v2 v3 r h σ hσ
  rw [f_laws_toSegmentS_1] at h
  refine go_round ?_
  rcases Bool.eq_false_or_eq_true (decide (v2 < (a0.length : Int))) with hb4 | hb4
  ·rw [ite_t hb4] at h
   obtain ⟨x5,hx5,h⟩ := ob h
   obtain ⟨r6,hr6,h⟩ := ob h
   try simp only [hσ,hb4,hx5,cc68,Nat.reduceBEq,reduceMul,reduceAdd,reduceDiv,Int.reduceBEq,RR]
   refine go_callI (w_laws_toSegment _ _ hr6) rfl rfl (Nat.le_of_ble_eq_true rfl) ?_
   obtain ⟨x7,hx7,h⟩ := ob h
   have hx7n := ix_get hx7
   try simp only [hb4,hx5,hx7,Nat.reduceBEq,reduceMul,reduceAdd,reduceDiv,Int.reduceBEq,RR]
   refine go_stp (y := r6) rfl rfl hx7n rfl rfl rfl ?_
   try simp only [hb4,hx5,hx7,Nat.reduceBEq,reduceMul,reduceAdd,reduceDiv,Int.reduceBEq,RR]
   refine ih _ _ _ h _ ?_
   try simp only [hb4,hx5,hx7,Nat.reduceBEq,reduceMul,reduceAdd,reduceDiv,Int.reduceBEq,RR,List.map_nil]
  ·rw [ite_f hb4] at h
   try simp only [hσ,hb4,cc68,cc69,Nat.reduceBEq,reduceMul,reduceAdd,reduceDiv,Int.reduceBEq,RR]
   cases h
   exact ⟨⟨rfl,trivial⟩,rfl⟩
theorem ee72 : entry Tryz.prog 57 = some (cc70.strip,[2],23) := by kernel_rfl
theorem w_laws_toSegmentS (a0 : List XSegment) (r : (List XSegment)) (h : f_laws_toSegmentS a0 = some r) : FC Tryz.prog 57 [.sc (.sl (List.map XSegment.row a0))] [.sc (.o 5 (List.map XSegment.row r))] := by
 unfold f_laws_toSegmentS at h
 refine FC_go (σ := ⟨[(0,vc (aL (List.map XSegment.row a0)))],[],[]⟩) mixed ee72 rfl rfl ?_
 simp only [cc70]
 obtain ⟨n1,hn1,h⟩ := ob h
 try simp only [Nat.reduceBEq,reduceMul,reduceAdd,reduceDiv,Int.reduceBEq,RR]
 refine go_mks (es := List.map XSegment.row (List.replicate n1 (⟨(0 : Int),(0 : Int),(0 : Int),(0 : Int),false⟩ : XSegment))) rfl rfl hn1 rfl (rep_map rfl) rfl ?_
 try simp only [Nat.reduceBEq,reduceMul,reduceAdd,reduceDiv,Int.reduceBEq,RR]
 refine ww71 _ _ _ _ _ h _ ?_
 try simp only [Nat.reduceBEq,reduceMul,reduceAdd,reduceDiv,Int.reduceBEq,RR,List.map_nil]
/- 23: laws_toChart -/
def cc73 : ACode := (.seq (.reg [(none,.box 1 (S 0)),(none,.alloc 2 [.nil,.nil])]) (.seq (.reg [(none,.alloc 3 [.nil,.nil])]) (.seq (.reg [fa 4 1 0,ld 5 4,(none,.call 6 56 [(S 5)]),fa 7 3 0,(none,.store (S 7) (S 6) 1)]) (.seq (.reg [fa 8 1 1,ld 9 8,(none,.call 10 57 [(S 9)]),fa 11 3 1,(none,.store (S 11) (S 10) 1)]) (.seq (.reg [(none,.load 12 (S 3) true 2),(none,.store (S 2) (S 12) 2)]) .ret)))))
theorem ee74 : entry Tryz.prog 23 = some (cc73.strip,[.c 2 true 2],13) := by kernel_rfl
theorem w_laws_toChart (a0 : XChart) (r : XChart) (h : f_laws_toChart a0 = some r) : FC Tryz.prog 23 [.ag (XChart.row a0)] [.ag [.o 2 (List.map XPoint.row r.Points),.o 5 (List.map XSegment.row r.Segments)]] := by
 unfold f_laws_toChart at h
 refine FC_go (σ := ⟨[(0,va [aL (List.map XPoint.row a0.Points),aL (List.map XSegment.row a0.Segments)])],[],[]⟩) mixed ee74 rfl rfl ?_
 simp only [cc73]
 try simp only [Nat.reduceBEq,reduceMul,reduceAdd,reduceDiv,Int.reduceBEq,RR]
 refine go_bx rfl rfl rfl ?_
 try simp only [Nat.reduceBEq,reduceMul,reduceAdd,reduceDiv,Int.reduceBEq,RR]
 refine go_al rfl rfl ?_
 try simp only [Nat.reduceBEq,reduceMul,reduceAdd,reduceDiv,Int.reduceBEq,RR]
 refine go_al rfl rfl ?_
 obtain ⟨r1,hr1,h⟩ := ob h
 try simp only [Nat.reduceBEq,reduceMul,reduceAdd,reduceDiv,Int.reduceBEq,RR]
 refine go_callI (w_laws_toPointS _ _ hr1) rfl rfl (Nat.le_of_ble_eq_true rfl) ?_
 obtain ⟨r2,hr2,h⟩ := ob h
 try simp only [Nat.reduceBEq,reduceMul,reduceAdd,reduceDiv,Int.reduceBEq,RR]
 refine go_callI (w_laws_toSegmentS _ _ hr2) rfl rfl (Nat.le_of_ble_eq_true rfl) ?_
 try simp only [Nat.reduceBEq,reduceMul,reduceAdd,reduceDiv,Int.reduceBEq,RR]
 cases h
 try simp only [rulesR,Nat.reduceBEq,reduceMul,reduceAdd,reduceDiv,Int.reduceBEq,RR]
 exact ⟨⟨⟨rfl,rfl,trivial⟩,trivial⟩,rfl⟩
/- 58: laws_toShip -/
def cc75 : ACode := (.seq (.reg [(none,.box 1 (S 0)),(none,.alloc 2 [aS [],aI 0,aI 0,aI 0,aI 0,aB false])]) (.seq (.reg [(none,.alloc 3 [aS [],aI 0,aI 0,aI 0,aI 0,aB false])]) (.seq (.reg [fa 4 1 0,ld 5 4,fa 6 3 0,(none,.store (S 6) (S 5) 1)]) (.seq (.reg [fa 7 1 1,ld 8 7,fa 9 3 1,(none,.store (S 9) (S 8) 1)]) (.seq (.reg [fa 10 1 2,ld 11 10,fa 12 3 2,(none,.store (S 12) (S 11) 1)]) (.seq (.reg [fa 13 1 3,ld 14 13,fa 15 3 3,(none,.store (S 15) (S 14) 1)]) (.seq (.reg [fa 16 1 4,ld 17 16,fa 18 3 4,(none,.store (S 18) (S 17) 1)]) (.seq (.reg [fa 19 1 5,ld 20 19,fa 21 3 5,(none,.store (S 21) (S 20) 1)]) (.seq (.reg [(none,.load 22 (S 3) true 6),(none,.store (S 2) (S 22) 6)]) .ret)))))))))
theorem ee76 : entry Tryz.prog 58 = some (cc75.strip,[.c 2 true 6],23) := by kernel_rfl
theorem w_laws_toShip (a0 : XShip) (r : XShip) (h : f_laws_toShip a0 = some r) : FC Tryz.prog 58 [.ag (XShip.row a0)] [.ag [.v (.str r.Name),.v (.int .i64 r.Length),.v (.int .i64 r.Draught),.v (.int .i64 r.Line),.v (.int .i64 r.Tugs),.v (.bool r.Slow)]] := by
 unfold f_laws_toShip at h
 refine FC_go (σ := ⟨[(0,va [aS a0.Name,aI a0.Length,aI a0.Draught,aI a0.Line,aI a0.Tugs,aB a0.Slow])],[],[]⟩) mixed ee76 rfl rfl ?_
 simp only [cc75]
 try simp only [Nat.reduceBEq,reduceMul,reduceAdd,reduceDiv,Int.reduceBEq,RR]
 refine go_bx rfl rfl rfl ?_
 try simp only [Nat.reduceBEq,reduceMul,reduceAdd,reduceDiv,Int.reduceBEq,RR]
 refine go_al rfl rfl ?_
 try simp only [Nat.reduceBEq,reduceMul,reduceAdd,reduceDiv,Int.reduceBEq,RR]
 refine go_al rfl rfl ?_
 try simp only [Nat.reduceBEq,reduceMul,reduceAdd,reduceDiv,Int.reduceBEq,RR]
 cases h
 try simp only [rulesR,Nat.reduceBEq,reduceMul,reduceAdd,reduceDiv,Int.reduceBEq,RR]
 exact ⟨⟨⟨rfl,rfl,rfl,rfl,rfl,rfl,trivial⟩,trivial⟩,rfl⟩
/- 24: laws_toShipS -/
def cc77 : ACode := .seq (.reg [(none,.keep [0,3,4] [] [448])]) (.seq (.seq (.reg [mv 8 4,mv 9 0,(none,.len 10 (S 9)),bn 11 .lss 8 10]) (.cond (S 11) .skip (.exit 0))) (.seq (.block 1 (.reg [mv 14 3,mv 15 4,mv 16 0,mv 17 4,(none,.iaddr 18 (S 16) (S 17) 6),(none,.load 19 (S 18) true 6),(none,.call 20 58 [(S 19)]),(none,.iaddr 21 (S 14) (S 15) 6),(none,.store (S 21) (S 20) 6)])) (.reg [mv 12 4,(none,.bin 13 .add (S 12) (K 1)),mv 4 13])))
def cc78 : ACode := (.seq (.reg [mv 22 3,mv 2 22]) .ret)
def cc79 : ACode := (.seq (.reg [(none,.mv 2 KN)]) (.seq (.reg [mv 5 0,(none,.len 6 (S 5)),(none,.mksl 7 6 56 [.str [],.int .i64 0,.int .i64 0,.int .i64 0,.int .i64 0,.bool false] (S 6) (S 6)),mv 3 7]) (.seq (.seq (.reg [(none,.mv 4 (K 0))]) (.block 0 (.loop cc77))) cc78)))
theorem ww80 (a0 : List XShip) : ∀ (n : Nat) (v2 : Int) (v3 : List XShip) (r : (List XShip)),f_laws_toShipS_1 a0 n v2 v3 = some r → ∀ σ : St,σ.kept [0,3,4] [] [448] = ⟨[(0,vc (aL (List.map XShip.row a0))),(3,vc (.own 448)),(4,vc (aI v2))],[],[(448,6,List.map XShip.row v3)]⟩ → go Tryz.prog (.code (.loop cc77) :: [.blk 0,.code cc78]) (Ret [2] [.sc (.o 6 (List.map XShip.row r))]) .normal (some σ) := by
 intro n
 induction n with
 | zero => intro _ _ r h; cases h
 | succ n ih =>
  intro v2 v3 r h σ hσ
  rw [f_laws_toShipS_1] at h
  refine go_round ?_
  rcases Bool.eq_false_or_eq_true (decide (v2 < (a0.length : Int))) with hb4 | hb4
  ·rw [ite_t hb4] at h
   obtain ⟨x5,hx5,h⟩ := ob h
   obtain ⟨r6,hr6,h⟩ := ob h
   try simp only [hσ,hb4,hx5,cc77,Nat.reduceBEq,reduceMul,reduceAdd,reduceDiv,Int.reduceBEq,RR]
   refine go_callI (w_laws_toShip _ _ hr6) rfl rfl (Nat.le_of_ble_eq_true rfl) ?_
   obtain ⟨x7,hx7,h⟩ := ob h
   have hx7n := ix_get hx7
   try simp only [hb4,hx5,hx7,Nat.reduceBEq,reduceMul,reduceAdd,reduceDiv,Int.reduceBEq,RR]
   refine go_stp (y := r6) rfl rfl hx7n rfl rfl rfl ?_
   try simp only [hb4,hx5,hx7,Nat.reduceBEq,reduceMul,reduceAdd,reduceDiv,Int.reduceBEq,RR]
   refine ih _ _ _ h _ ?_
   try simp only [hb4,hx5,hx7,Nat.reduceBEq,reduceMul,reduceAdd,reduceDiv,Int.reduceBEq,RR,List.map_nil]
  ·rw [ite_f hb4] at h
   try simp only [hσ,hb4,cc77,cc78,Nat.reduceBEq,reduceMul,reduceAdd,reduceDiv,Int.reduceBEq,RR]
   cases h
   exact ⟨⟨rfl,trivial⟩,rfl⟩
theorem ee81 : entry Tryz.prog 24 = some (cc79.strip,[2],23) := by kernel_rfl
theorem w_laws_toShipS (a0 : List XShip) (r : (List XShip)) (h : f_laws_toShipS a0 = some r) : FC Tryz.prog 24 [.sc (.sl (List.map XShip.row a0))] [.sc (.o 6 (List.map XShip.row r))] := by
 unfold f_laws_toShipS at h
 refine FC_go (σ := ⟨[(0,vc (aL (List.map XShip.row a0)))],[],[]⟩) mixed ee81 rfl rfl ?_
 simp only [cc79]
 obtain ⟨n1,hn1,h⟩ := ob h
 try simp only [Nat.reduceBEq,reduceMul,reduceAdd,reduceDiv,Int.reduceBEq,RR]
 refine go_mks (es := List.map XShip.row (List.replicate n1 (⟨([] : List UInt8),(0 : Int),(0 : Int),(0 : Int),(0 : Int),false⟩ : XShip))) rfl rfl hn1 rfl (rep_map rfl) rfl ?_
 try simp only [Nat.reduceBEq,reduceMul,reduceAdd,reduceDiv,Int.reduceBEq,RR]
 refine ww80 _ _ _ _ _ h _ ?_
 try simp only [Nat.reduceBEq,reduceMul,reduceAdd,reduceDiv,Int.reduceBEq,RR,List.map_nil]
/- 25: laws_toRegime -/
def cc82 : ACode := (.seq (.reg [(none,.box 1 (S 0)),(none,.alloc 2 [aI 0,aB false])]) (.seq (.reg [(none,.alloc 3 [aI 0,aB false])]) (.seq (.reg [fa 4 1 0,ld 5 4,fa 6 3 0,(none,.store (S 6) (S 5) 1)]) (.seq (.reg [fa 7 1 1,ld 8 7,fa 9 3 1,(none,.store (S 9) (S 8) 1)]) (.seq (.reg [(none,.load 10 (S 3) true 2),(none,.store (S 2) (S 10) 2)]) .ret)))))
theorem ee83 : entry Tryz.prog 25 = some (cc82.strip,[.c 2 true 2],11) := by kernel_rfl
theorem w_laws_toRegime (a0 : XRegime) (r : XRegime) (h : f_laws_toRegime a0 = some r) : FC Tryz.prog 25 [.ag (XRegime.row a0)] [.ag [.v (.int .i64 r.Gap),.v (.bool r.NoMeet)]] := by
 unfold f_laws_toRegime at h
 refine FC_go (σ := ⟨[(0,va [aI a0.Gap,aB a0.NoMeet])],[],[]⟩) mixed ee83 rfl rfl ?_
 simp only [cc82]
 try simp only [Nat.reduceBEq,reduceMul,reduceAdd,reduceDiv,Int.reduceBEq,RR]
 refine go_bx rfl rfl rfl ?_
 try simp only [Nat.reduceBEq,reduceMul,reduceAdd,reduceDiv,Int.reduceBEq,RR]
 refine go_al rfl rfl ?_
 try simp only [Nat.reduceBEq,reduceMul,reduceAdd,reduceDiv,Int.reduceBEq,RR]
 refine go_al rfl rfl ?_
 try simp only [Nat.reduceBEq,reduceMul,reduceAdd,reduceDiv,Int.reduceBEq,RR]
 cases h
 try simp only [rulesR,Nat.reduceBEq,reduceMul,reduceAdd,reduceDiv,Int.reduceBEq,RR]
 exact ⟨⟨⟨rfl,rfl,trivial⟩,trivial⟩,rfl⟩
/- 59: laws_toIntS -/
def cc84 : ACode := .seq (.reg [(none,.keep [0,3,4] [] [448])]) (.seq (.seq (.reg [mv 8 4,mv 9 0,(none,.len 10 (S 9)),bn 11 .lss 8 10]) (.cond (S 11) .skip (.exit 0))) (.seq (.block 1 (.reg [mv 14 3,mv 15 4,mv 16 0,mv 17 4,(none,.iaddr 18 (S 16) (S 17) 1),ld 19 18,(none,.iaddr 20 (S 14) (S 15) 1),(none,.store (S 20) (S 19) 1)])) (.reg [mv 12 4,(none,.bin 13 .add (S 12) (K 1)),mv 4 13])))
def cc85 : ACode := (.seq (.reg [mv 21 3,mv 2 21]) .ret)
def cc86 : ACode := (.seq (.reg [(none,.mv 2 KN)]) (.seq (.reg [mv 5 0,(none,.len 6 (S 5)),(none,.mksl 7 1 8 [.int .i64 0] (S 6) (S 6)),mv 3 7]) (.seq (.seq (.reg [(none,.mv 4 (K 0))]) (.block 0 (.loop cc84))) cc85)))
theorem ww87 (a0 : List Int) : ∀ (n : Nat) (v2 : Int) (v3 : List Int) (r : (List Int)),f_laws_toIntS_1 a0 n v2 v3 = some r → ∀ σ : St,σ.kept [0,3,4] [] [448] = ⟨[(0,vc (aL (List.map rI a0))),(3,vc (.own 448)),(4,vc (aI v2))],[],[(448,1,List.map rI v3)]⟩ → go Tryz.prog (.code (.loop cc84) :: [.blk 0,.code cc85]) (Ret [2] [.sc (.o 1 (List.map rI r))]) .normal (some σ) := by
 intro n
 induction n with
 | zero => intro _ _ r h; cases h
 | succ n ih =>
  intro v2 v3 r h σ hσ
  rw [f_laws_toIntS_1] at h
  refine go_round ?_
  rcases Bool.eq_false_or_eq_true (decide (v2 < (a0.length : Int))) with hb4 | hb4
  ·rw [ite_t hb4] at h
   obtain ⟨x5,hx5,h⟩ := ob h
   obtain ⟨x6,hx6,h⟩ := ob h
   have hx6n := ix_get hx6
   try simp only [hσ,hb4,hx5,hx6,cc84,Nat.reduceBEq,reduceMul,reduceAdd,reduceDiv,Int.reduceBEq,RR]
   refine go_stp (y := x5) rfl rfl hx6n rfl rfl rfl ?_
   try simp only [hb4,hx5,hx6,Nat.reduceBEq,reduceMul,reduceAdd,reduceDiv,Int.reduceBEq,RR]
   refine ih _ _ _ h _ ?_
   try simp only [hb4,hx5,hx6,Nat.reduceBEq,reduceMul,reduceAdd,reduceDiv,Int.reduceBEq,RR,List.map_nil]
  ·rw [ite_f hb4] at h
   try simp only [hσ,hb4,cc84,cc85,Nat.reduceBEq,reduceMul,reduceAdd,reduceDiv,Int.reduceBEq,RR]
   cases h
   exact ⟨⟨rfl,trivial⟩,rfl⟩
theorem ee88 : entry Tryz.prog 59 = some (cc86.strip,[2],22) := by kernel_rfl
theorem w_laws_toIntS (a0 : List Int) (r : (List Int)) (h : f_laws_toIntS a0 = some r) : FC Tryz.prog 59 [.sc (.sl (List.map rI a0))] [.sc (.o 1 (List.map rI r))] := by
 unfold f_laws_toIntS at h
 refine FC_go (σ := ⟨[(0,vc (aL (List.map rI a0)))],[],[]⟩) mixed ee88 rfl rfl ?_
 simp only [cc86]
 obtain ⟨n1,hn1,h⟩ := ob h
 try simp only [Nat.reduceBEq,reduceMul,reduceAdd,reduceDiv,Int.reduceBEq,RR]
 refine go_mks (es := List.map rI (List.replicate n1 (0 : Int))) rfl rfl hn1 rfl (rep_map rfl) rfl ?_
 try simp only [Nat.reduceBEq,reduceMul,reduceAdd,reduceDiv,Int.reduceBEq,RR]
 refine ww87 _ _ _ _ _ h _ ?_
 try simp only [Nat.reduceBEq,reduceMul,reduceAdd,reduceDiv,Int.reduceBEq,RR,List.map_nil]
/- 26: laws_toCrew -/
def cc89 : ACode := (.seq (.reg [(none,.box 1 (S 0)),(none,.alloc 2 [aI 0,aI 0,aI 0,.nil])]) (.seq (.reg [(none,.alloc 3 [aI 0,aI 0,aI 0,.nil])]) (.seq (.reg [fa 4 1 0,ld 5 4,fa 6 3 0,(none,.store (S 6) (S 5) 1)]) (.seq (.reg [fa 7 1 1,ld 8 7,fa 9 3 1,(none,.store (S 9) (S 8) 1)]) (.seq (.reg [fa 10 1 2,ld 11 10,fa 12 3 2,(none,.store (S 12) (S 11) 1)]) (.seq (.reg [fa 13 1 3,ld 14 13,(none,.call 15 59 [(S 14)]),fa 16 3 3,(none,.store (S 16) (S 15) 1)]) (.seq (.reg [(none,.load 17 (S 3) true 4),(none,.store (S 2) (S 17) 4)]) .ret)))))))
theorem ee90 : entry Tryz.prog 26 = some (cc89.strip,[.c 2 true 4],18) := by kernel_rfl
theorem w_laws_toCrew (a0 : XCrew) (r : XCrew) (h : f_laws_toCrew a0 = some r) : FC Tryz.prog 26 [.ag (XCrew.row a0)] [.ag [.v (.int .i64 r.Tugs),.v (.int .i64 r.Pilots),.v (.int .i64 r.Rest),.o 1 (List.map rI r.Moves)]] := by
 unfold f_laws_toCrew at h
 refine FC_go (σ := ⟨[(0,va [aI a0.Tugs,aI a0.Pilots,aI a0.Rest,aL (List.map rI a0.Moves)])],[],[]⟩) mixed ee90 rfl rfl ?_
 simp only [cc89]
 try simp only [Nat.reduceBEq,reduceMul,reduceAdd,reduceDiv,Int.reduceBEq,RR]
 refine go_bx rfl rfl rfl ?_
 try simp only [Nat.reduceBEq,reduceMul,reduceAdd,reduceDiv,Int.reduceBEq,RR]
 refine go_al rfl rfl ?_
 try simp only [Nat.reduceBEq,reduceMul,reduceAdd,reduceDiv,Int.reduceBEq,RR]
 refine go_al rfl rfl ?_
 obtain ⟨r1,hr1,h⟩ := ob h
 try simp only [Nat.reduceBEq,reduceMul,reduceAdd,reduceDiv,Int.reduceBEq,RR]
 refine go_callI (w_laws_toIntS _ _ hr1) rfl rfl (Nat.le_of_ble_eq_true rfl) ?_
 try simp only [Nat.reduceBEq,reduceMul,reduceAdd,reduceDiv,Int.reduceBEq,RR]
 cases h
 try simp only [rulesR,Nat.reduceBEq,reduceMul,reduceAdd,reduceDiv,Int.reduceBEq,RR]
 exact ⟨⟨⟨rfl,rfl,rfl,rfl,trivial⟩,trivial⟩,rfl⟩
/- 7: laws_toHarbour -/
def cc91 : ACode := (.seq (.reg [(none,.box 1 (S 0)),(none,.alloc 2 [aI 0,.nil,.nil,.nil,.nil,.nil,aI 0,aB false,aI 0,aI 0,aI 0,.nil])]) (.seq (.reg [(none,.alloc 3 [aI 0,.nil,.nil,.nil,.nil,.nil,aI 0,aB false,aI 0,aI 0,aI 0,.nil])]) (.seq (.reg [fa 4 1 0,(none,.load 5 (S 4) true 3),(none,.call 6 22 [(S 5)]),fa 7 3 0,(none,.store (S 7) (S 6) 3)]) (.seq (.reg [fa 8 1 3,(none,.load 9 (S 8) true 2),(none,.call 10 23 [(S 9)]),fa 11 3 3,(none,.store (S 11) (S 10) 2)]) (.seq (.reg [fa 12 1 5,ld 13 12,(none,.call 14 24 [(S 13)]),fa 15 3 5,(none,.store (S 15) (S 14) 1)]) (.seq (.reg [fa 16 1 6,(none,.load 17 (S 16) true 2),(none,.call 18 25 [(S 17)]),fa 19 3 6,(none,.store (S 19) (S 18) 2)]) (.seq (.reg [fa 20 1 8,(none,.load 21 (S 20) true 4),(none,.call 22 26 [(S 21)]),fa 23 3 8,(none,.store (S 23) (S 22) 4)]) (.seq (.reg [(none,.load 24 (S 3) true 12),(none,.store (S 2) (S 24) 12)]) .ret))))))))
theorem ee92 : entry Tryz.prog 7 = some (cc91.strip,[.c 2 true 12],25) := by kernel_rfl
theorem w_laws_toHarbour (a0 : XHarbour) (r : XHarbour) (h : f_laws_toHarbour a0 = some r) : FC Tryz.prog 7 [.ag (XHarbour.row a0)] [.ag [.v (.int .i64 r.Forecast.Tide.Mean),.o 3 (List.map XPart.row r.Forecast.Tide.Parts),.o 3 (List.map XSurge.row r.Forecast.Surges),.o 2 (List.map XPoint.row r.Chart.Points),.o 5 (List.map XSegment.row r.Chart.Segments),.o 6 (List.map XShip.row r.Fleet),.v (.int .i64 r.Regime.Gap),.v (.bool r.Regime.NoMeet),.v (.int .i64 r.Crew.Tugs),.v (.int .i64 r.Crew.Pilots),.v (.int .i64 r.Crew.Rest),.o 1 (List.map rI r.Crew.Moves)]] := by
 unfold f_laws_toHarbour at h
 refine FC_go (σ := ⟨[(0,va [aI a0.Forecast.Tide.Mean,aL (List.map XPart.row a0.Forecast.Tide.Parts),aL (List.map XSurge.row a0.Forecast.Surges),aL (List.map XPoint.row a0.Chart.Points),aL (List.map XSegment.row a0.Chart.Segments),aL (List.map XShip.row a0.Fleet),aI a0.Regime.Gap,aB a0.Regime.NoMeet,aI a0.Crew.Tugs,aI a0.Crew.Pilots,aI a0.Crew.Rest,aL (List.map rI a0.Crew.Moves)])],[],[]⟩) mixed ee92 rfl rfl ?_
 simp only [cc91]
 try simp only [Nat.reduceBEq,reduceMul,reduceAdd,reduceDiv,Int.reduceBEq,RR]
 refine go_bx rfl rfl rfl ?_
 try simp only [Nat.reduceBEq,reduceMul,reduceAdd,reduceDiv,Int.reduceBEq,RR]
 refine go_al rfl rfl ?_
 try simp only [Nat.reduceBEq,reduceMul,reduceAdd,reduceDiv,Int.reduceBEq,RR]
 refine go_al rfl rfl ?_
 obtain ⟨r1,hr1,h⟩ := ob h
 try simp only [Nat.reduceBEq,reduceMul,reduceAdd,reduceDiv,Int.reduceBEq,RR]
 refine go_callI (w_laws_toForecast _ _ hr1) rfl rfl (Nat.le_of_ble_eq_true rfl) ?_
 obtain ⟨r2,hr2,h⟩ := ob h
 try simp only [Nat.reduceBEq,reduceMul,reduceAdd,reduceDiv,Int.reduceBEq,RR]
 refine go_callI (w_laws_toChart _ _ hr2) rfl rfl (Nat.le_of_ble_eq_true rfl) ?_
 obtain ⟨r3,hr3,h⟩ := ob h
 try simp only [Nat.reduceBEq,reduceMul,reduceAdd,reduceDiv,Int.reduceBEq,RR]
 refine go_callI (w_laws_toShipS _ _ hr3) rfl rfl (Nat.le_of_ble_eq_true rfl) ?_
 obtain ⟨r4,hr4,h⟩ := ob h
 try simp only [Nat.reduceBEq,reduceMul,reduceAdd,reduceDiv,Int.reduceBEq,RR]
 refine go_callI (w_laws_toRegime _ _ hr4) rfl rfl (Nat.le_of_ble_eq_true rfl) ?_
 obtain ⟨r5,hr5,h⟩ := ob h
 try simp only [Nat.reduceBEq,reduceMul,reduceAdd,reduceDiv,Int.reduceBEq,RR]
 refine go_callI (w_laws_toCrew _ _ hr5) rfl rfl (Nat.le_of_ble_eq_true rfl) ?_
 try simp only [Nat.reduceBEq,reduceMul,reduceAdd,reduceDiv,Int.reduceBEq,RR]
 cases h
 try simp only [rulesR,Nat.reduceBEq,reduceMul,reduceAdd,reduceDiv,Int.reduceBEq,RR]
 exact ⟨⟨⟨rfl,rfl,rfl,rfl,rfl,rfl,rfl,rfl,rfl,rfl,rfl,rfl,trivial⟩,trivial⟩,rfl⟩
/- 100: laws_toPassage -/
def cc93 : ACode := (.seq (.reg [(none,.box 1 (S 0)),(none,.alloc 2 [aI 0,aI 0,aB false,aI 0,aI 0])]) (.seq (.reg [(none,.alloc 3 [aI 0,aI 0,aB false,aI 0,aI 0])]) (.seq (.reg [fa 4 1 0,ld 5 4,fa 6 3 0,(none,.store (S 6) (S 5) 1)]) (.seq (.reg [fa 7 1 1,ld 8 7,fa 9 3 1,(none,.store (S 9) (S 8) 1)]) (.seq (.reg [fa 10 1 2,ld 11 10,fa 12 3 2,(none,.store (S 12) (S 11) 1)]) (.seq (.reg [fa 13 1 3,ld 14 13,fa 15 3 3,(none,.store (S 15) (S 14) 1)]) (.seq (.reg [fa 16 1 4,ld 17 16,fa 18 3 4,(none,.store (S 18) (S 17) 1)]) (.seq (.reg [(none,.load 19 (S 3) true 5),(none,.store (S 2) (S 19) 5)]) .ret))))))))
theorem ee94 : entry Tryz.prog 100 = some (cc93.strip,[.c 2 true 5],20) := by kernel_rfl
theorem w_laws_toPassage (a0 : XPassage) (r : XPassage) (h : f_laws_toPassage a0 = some r) : FC Tryz.prog 100 [.ag (XPassage.row a0)] [.ag [.v (.int .i64 r.Ship),.v (.int .i64 r.Segment),.v (.bool r.Toward),.v (.int .i64 r.Start),.v (.int .i64 r.End)]] := by
 unfold f_laws_toPassage at h
 refine FC_go (σ := ⟨[(0,va [aI a0.Ship,aI a0.Segment,aB a0.Toward,aI a0.Start,aI a0.End])],[],[]⟩) mixed ee94 rfl rfl ?_
 simp only [cc93]
 try simp only [Nat.reduceBEq,reduceMul,reduceAdd,reduceDiv,Int.reduceBEq,RR]
 refine go_bx rfl rfl rfl ?_
 try simp only [Nat.reduceBEq,reduceMul,reduceAdd,reduceDiv,Int.reduceBEq,RR]
 refine go_al rfl rfl ?_
 try simp only [Nat.reduceBEq,reduceMul,reduceAdd,reduceDiv,Int.reduceBEq,RR]
 refine go_al rfl rfl ?_
 try simp only [Nat.reduceBEq,reduceMul,reduceAdd,reduceDiv,Int.reduceBEq,RR]
 cases h
 try simp only [rulesR,Nat.reduceBEq,reduceMul,reduceAdd,reduceDiv,Int.reduceBEq,RR]
 exact ⟨⟨⟨rfl,rfl,rfl,rfl,rfl,trivial⟩,trivial⟩,rfl⟩
/- 60: laws_toPassageS -/
def cc95 : ACode := .seq (.reg [(none,.keep [0,3,4] [] [448])]) (.seq (.seq (.reg [mv 8 4,mv 9 0,(none,.len 10 (S 9)),bn 11 .lss 8 10]) (.cond (S 11) .skip (.exit 0))) (.seq (.block 1 (.reg [mv 14 3,mv 15 4,mv 16 0,mv 17 4,(none,.iaddr 18 (S 16) (S 17) 5),(none,.load 19 (S 18) true 5),(none,.call 20 100 [(S 19)]),(none,.iaddr 21 (S 14) (S 15) 5),(none,.store (S 21) (S 20) 5)])) (.reg [mv 12 4,(none,.bin 13 .add (S 12) (K 1)),mv 4 13])))
def cc96 : ACode := (.seq (.reg [mv 22 3,mv 2 22]) .ret)
def cc97 : ACode := (.seq (.reg [(none,.mv 2 KN)]) (.seq (.reg [mv 5 0,(none,.len 6 (S 5)),(none,.mksl 7 5 40 [.int .i64 0,.int .i64 0,.bool false,.int .i64 0,.int .i64 0] (S 6) (S 6)),mv 3 7]) (.seq (.seq (.reg [(none,.mv 4 (K 0))]) (.block 0 (.loop cc95))) cc96)))
theorem ww98 (a0 : List XPassage) : ∀ (n : Nat) (v2 : Int) (v3 : List XPassage) (r : (List XPassage)),f_laws_toPassageS_1 a0 n v2 v3 = some r → ∀ σ : St,σ.kept [0,3,4] [] [448] = ⟨[(0,vc (aL (List.map XPassage.row a0))),(3,vc (.own 448)),(4,vc (aI v2))],[],[(448,5,List.map XPassage.row v3)]⟩ → go Tryz.prog (.code (.loop cc95) :: [.blk 0,.code cc96]) (Ret [2] [.sc (.o 5 (List.map XPassage.row r))]) .normal (some σ) := by
 intro n
 induction n with
 | zero => intro _ _ r h; cases h
 | succ n ih =>
  intro v2 v3 r h σ hσ
  rw [f_laws_toPassageS_1] at h
  refine go_round ?_
  rcases Bool.eq_false_or_eq_true (decide (v2 < (a0.length : Int))) with hb4 | hb4
  ·rw [ite_t hb4] at h
   obtain ⟨x5,hx5,h⟩ := ob h
   obtain ⟨r6,hr6,h⟩ := ob h
   try simp only [hσ,hb4,hx5,cc95,Nat.reduceBEq,reduceMul,reduceAdd,reduceDiv,Int.reduceBEq,RR]
   refine go_callI (w_laws_toPassage _ _ hr6) rfl rfl (Nat.le_of_ble_eq_true rfl) ?_
   obtain ⟨x7,hx7,h⟩ := ob h
   have hx7n := ix_get hx7
   try simp only [hb4,hx5,hx7,Nat.reduceBEq,reduceMul,reduceAdd,reduceDiv,Int.reduceBEq,RR]
   refine go_stp (y := r6) rfl rfl hx7n rfl rfl rfl ?_
   try simp only [hb4,hx5,hx7,Nat.reduceBEq,reduceMul,reduceAdd,reduceDiv,Int.reduceBEq,RR]
   refine ih _ _ _ h _ ?_
   try simp only [hb4,hx5,hx7,Nat.reduceBEq,reduceMul,reduceAdd,reduceDiv,Int.reduceBEq,RR,List.map_nil]
  ·rw [ite_f hb4] at h
   try simp only [hσ,hb4,cc95,cc96,Nat.reduceBEq,reduceMul,reduceAdd,reduceDiv,Int.reduceBEq,RR]
   cases h
   exact ⟨⟨rfl,trivial⟩,rfl⟩
theorem ee99 : entry Tryz.prog 60 = some (cc97.strip,[2],23) := by kernel_rfl
theorem w_laws_toPassageS (a0 : List XPassage) (r : (List XPassage)) (h : f_laws_toPassageS a0 = some r) : FC Tryz.prog 60 [.sc (.sl (List.map XPassage.row a0))] [.sc (.o 5 (List.map XPassage.row r))] := by
 unfold f_laws_toPassageS at h
 refine FC_go (σ := ⟨[(0,vc (aL (List.map XPassage.row a0)))],[],[]⟩) mixed ee99 rfl rfl ?_
 simp only [cc97]
 obtain ⟨n1,hn1,h⟩ := ob h
 try simp only [Nat.reduceBEq,reduceMul,reduceAdd,reduceDiv,Int.reduceBEq,RR]
 refine go_mks (es := List.map XPassage.row (List.replicate n1 (⟨(0 : Int),(0 : Int),false,(0 : Int),(0 : Int)⟩ : XPassage))) rfl rfl hn1 rfl (rep_map rfl) rfl ?_
 try simp only [Nat.reduceBEq,reduceMul,reduceAdd,reduceDiv,Int.reduceBEq,RR]
 refine ww98 _ _ _ _ _ h _ ?_
 try simp only [Nat.reduceBEq,reduceMul,reduceAdd,reduceDiv,Int.reduceBEq,RR,List.map_nil]
/- 27: laws_toOption -/
def cc100 : ACode := (.seq (.reg [(none,.box 1 (S 0)),(none,.alloc 2 [aI 0,aI 0,aI 0,.nil])]) (.seq (.reg [(none,.alloc 3 [aI 0,aI 0,aI 0,.nil])]) (.seq (.reg [fa 4 1 0,ld 5 4,fa 6 3 0,(none,.store (S 6) (S 5) 1)]) (.seq (.reg [fa 7 1 1,ld 8 7,fa 9 3 1,(none,.store (S 9) (S 8) 1)]) (.seq (.reg [fa 10 1 2,ld 11 10,fa 12 3 2,(none,.store (S 12) (S 11) 1)]) (.seq (.reg [fa 13 1 3,ld 14 13,(none,.call 15 60 [(S 14)]),fa 16 3 3,(none,.store (S 16) (S 15) 1)]) (.seq (.reg [(none,.load 17 (S 3) true 4),(none,.store (S 2) (S 17) 4)]) .ret)))))))
theorem ee101 : entry Tryz.prog 27 = some (cc100.strip,[.c 2 true 4],18) := by kernel_rfl
theorem w_laws_toOption (a0 : XOption) (r : XOption) (h : f_laws_toOption a0 = some r) : FC Tryz.prog 27 [.ag (XOption.row a0)] [.ag [.v (.int .i64 r.Start),.v (.int .i64 r.Arrival),.v (.int .i64 r.Cost),.o 5 (List.map XPassage.row r.Passages)]] := by
 unfold f_laws_toOption at h
 refine FC_go (σ := ⟨[(0,va [aI a0.Start,aI a0.Arrival,aI a0.Cost,aL (List.map XPassage.row a0.Passages)])],[],[]⟩) mixed ee101 rfl rfl ?_
 simp only [cc100]
 try simp only [Nat.reduceBEq,reduceMul,reduceAdd,reduceDiv,Int.reduceBEq,RR]
 refine go_bx rfl rfl rfl ?_
 try simp only [Nat.reduceBEq,reduceMul,reduceAdd,reduceDiv,Int.reduceBEq,RR]
 refine go_al rfl rfl ?_
 try simp only [Nat.reduceBEq,reduceMul,reduceAdd,reduceDiv,Int.reduceBEq,RR]
 refine go_al rfl rfl ?_
 obtain ⟨r1,hr1,h⟩ := ob h
 try simp only [Nat.reduceBEq,reduceMul,reduceAdd,reduceDiv,Int.reduceBEq,RR]
 refine go_callI (w_laws_toPassageS _ _ hr1) rfl rfl (Nat.le_of_ble_eq_true rfl) ?_
 try simp only [Nat.reduceBEq,reduceMul,reduceAdd,reduceDiv,Int.reduceBEq,RR]
 cases h
 try simp only [rulesR,Nat.reduceBEq,reduceMul,reduceAdd,reduceDiv,Int.reduceBEq,RR]
 exact ⟨⟨⟨rfl,rfl,rfl,rfl,trivial⟩,trivial⟩,rfl⟩
/- 8: laws_toOptionS -/
def cc102 : ACode := .seq (.reg [(none,.keep [0,3,4] [] [448])]) (.seq (.seq (.reg [mv 8 4,mv 9 0,(none,.len 10 (S 9)),bn 11 .lss 8 10]) (.cond (S 11) .skip (.exit 0))) (.seq (.block 1 (.reg [mv 14 3,mv 15 4,mv 16 0,mv 17 4,(none,.iaddr 18 (S 16) (S 17) 4),(none,.load 19 (S 18) true 4),(none,.call 20 27 [(S 19)]),(none,.iaddr 21 (S 14) (S 15) 4),(none,.frz 1283),(none,.store (S 21) (S 20) 4)])) (.reg [mv 12 4,(none,.bin 13 .add (S 12) (K 1)),mv 4 13])))
def cc103 : ACode := (.seq (.reg [mv 22 3,mv 2 22]) .ret)
def cc104 : ACode := (.seq (.reg [(none,.mv 2 KN)]) (.seq (.reg [mv 5 0,(none,.len 6 (S 5)),(none,.mksl 7 4 48 [.int .i64 0,.int .i64 0,.int .i64 0,.sl []] (S 6) (S 6)),mv 3 7]) (.seq (.seq (.reg [(none,.mv 4 (K 0))]) (.block 0 (.loop cc102))) cc103)))
theorem ww105 (a0 : List XOption) : ∀ (n : Nat) (v2 : Int) (v3 : List XOption) (r : (List XOption)),f_laws_toOptionS_1 a0 n v2 v3 = some r → ∀ σ : St,σ.kept [0,3,4] [] [448] = ⟨[(0,vc (aL (List.map XOption.row a0))),(3,vc (.own 448)),(4,vc (aI v2))],[],[(448,4,List.map XOption.row v3)]⟩ → go Tryz.prog (.code (.loop cc102) :: [.blk 0,.code cc103]) (Ret [2] [.sc (.o 4 (List.map XOption.row r))]) .normal (some σ) := by
 intro n
 induction n with
 | zero => intro _ _ r h; cases h
 | succ n ih =>
  intro v2 v3 r h σ hσ
  rw [f_laws_toOptionS_1] at h
  refine go_round ?_
  rcases Bool.eq_false_or_eq_true (decide (v2 < (a0.length : Int))) with hb4 | hb4
  ·rw [ite_t hb4] at h
   obtain ⟨x5,hx5,h⟩ := ob h
   obtain ⟨r6,hr6,h⟩ := ob h
   try simp only [hσ,hb4,hx5,cc102,Nat.reduceBEq,reduceMul,reduceAdd,reduceDiv,Int.reduceBEq,RR]
   refine go_callI (w_laws_toOption _ _ hr6) rfl rfl (Nat.le_of_ble_eq_true rfl) ?_
   obtain ⟨x7,hx7,h⟩ := ob h
   have hx7n := ix_get hx7
   try simp only [hb4,hx5,hx7,Nat.reduceBEq,reduceMul,reduceAdd,reduceDiv,Int.reduceBEq,RR]
   refine go_frz' rfl ?_
   try simp only [hb4,hx5,hx7,Nat.reduceBEq,reduceMul,reduceAdd,reduceDiv,Int.reduceBEq,RR]
   refine go_stp (y := r6) rfl rfl hx7n rfl rfl rfl ?_
   try simp only [hb4,hx5,hx7,Nat.reduceBEq,reduceMul,reduceAdd,reduceDiv,Int.reduceBEq,RR]
   refine ih _ _ _ h _ ?_
   try simp only [hb4,hx5,hx7,Nat.reduceBEq,reduceMul,reduceAdd,reduceDiv,Int.reduceBEq,RR,List.map_nil]
  ·rw [ite_f hb4] at h
   try simp only [hσ,hb4,cc102,cc103,Nat.reduceBEq,reduceMul,reduceAdd,reduceDiv,Int.reduceBEq,RR]
   cases h
   exact ⟨⟨rfl,trivial⟩,rfl⟩
theorem ee106 : entry Tryz.prog 8 = some (cc104.strip,[2],23) := by kernel_rfl
theorem w_laws_toOptionS (a0 : List XOption) (r : (List XOption)) (h : f_laws_toOptionS a0 = some r) : FC Tryz.prog 8 [.sc (.sl (List.map XOption.row a0))] [.sc (.o 4 (List.map XOption.row r))] := by
 unfold f_laws_toOptionS at h
 refine FC_go (σ := ⟨[(0,vc (aL (List.map XOption.row a0)))],[],[]⟩) mixed ee106 rfl rfl ?_
 simp only [cc104]
 obtain ⟨n1,hn1,h⟩ := ob h
 try simp only [Nat.reduceBEq,reduceMul,reduceAdd,reduceDiv,Int.reduceBEq,RR]
 refine go_mks (es := List.map XOption.row (List.replicate n1 (⟨(0 : Int),(0 : Int),(0 : Int),([] : List XPassage)⟩ : XOption))) rfl rfl hn1 rfl (rep_map rfl) rfl ?_
 try simp only [Nat.reduceBEq,reduceMul,reduceAdd,reduceDiv,Int.reduceBEq,RR]
 refine ww105 _ _ _ _ _ h _ ?_
 try simp only [Nat.reduceBEq,reduceMul,reduceAdd,reduceDiv,Int.reduceBEq,RR,List.map_nil]
/- 82: spec_l01In -/
def cc107 : ACode := (.seq (.reg [(none,.mv 6 (KB false))]) (.seq (.reg [mv 7 0,mv 8 1,bn 9 .geq 7 8,mv 10 9,(some (10,true),.mv 11 (S 0)),(some (10,true),.mv 12 (S 2)),(some (10,true),.bin 13 .leq (S 11) (S 12)),(none,.pick 14 (S 10) (S 13) (KB false)),mv 6 14]) .ret))
theorem ee108 : entry Tryz.prog 82 = some (cc107.strip,[6],15) := by kernel_rfl
theorem w_spec_l01In (a0 : Int) (a1 : Int) (a2 : Int) (r : Bool) (h : f_spec_l01In a0 a1 a2 = some r) : FC Tryz.prog 82 [.sc (.int .i64 a0),.sc (.int .i64 a1),.sc (.int .i64 a2)] [.sc (.v (.bool r))] := by
 unfold f_spec_l01In at h
 refine FC_go (σ := ⟨[(0,vc (aI a0)),(1,vc (aI a1)),(2,vc (aI a2))],[],[]⟩) mixed ee108 rfl rfl ?_
 simp only [cc107]
 rcases Bool.eq_false_or_eq_true (decide (a1 ≤ a0)) with hb1 | hb1
 ·rw [ite_t hb1] at h
  try simp only [hb1,Nat.reduceBEq,reduceMul,reduceAdd,reduceDiv,Int.reduceBEq,RR]
  cases h
  exact ⟨⟨rfl,trivial⟩,rfl⟩
 ·rw [ite_f hb1] at h
  try simp only [hb1,Nat.reduceBEq,reduceMul,reduceAdd,reduceDiv,Int.reduceBEq,RR]
  cases h
  exact ⟨⟨rfl,trivial⟩,rfl⟩
/- 126: spec_PartOk -/
def cc109 : ACode := (.seq (.reg [(none,.box 1 (S 0)),(none,.mv 2 (KB false))]) (.seq (.reg [fa 3 1 0,ld 4 3,(none,.call 5 82 [(S 4),(K 0),(K 1000)]),mv 6 5,(some (6,true),.faddr 7 (S 1) 1),(some (6,true),.load 8 (S 7) false 1),(some (6,true),.call 9 82 [(S 8),(K 4),(K 2880)]),(none,.pick 10 (S 6) (S 9) (KB false)),mv 11 10,(some (11,true),.faddr 12 (S 1) 1),(some (11,true),.load 13 (S 12) false 1),(some (11,true),.bin 14 .rem (S 13) (K 4)),(some (11,true),.bin 15 .eql (S 14) (K 0)),(none,.pick 16 (S 11) (S 15) (KB false)),mv 17 16,(some (17,true),.faddr 18 (S 1) 2),(some (17,true),.load 19 (S 18) false 1),(some (17,true),.faddr 20 (S 1) 1),(some (17,true),.load 21 (S 20) false 1),(some (17,true),.bin 22 .sub (S 21) (K 1)),(some (17,true),.call 23 82 [(S 19),(K 0),(S 22)]),(none,.pick 24 (S 17) (S 23) (KB false)),mv 2 24]) .ret))
theorem ee110 : entry Tryz.prog 126 = some (cc109.strip,[2],25) := by kernel_rfl
theorem w_spec_PartOk (a0 : XPart) (r : Bool) (h : f_spec_PartOk a0 = some r) : FC Tryz.prog 126 [.ag (XPart.row a0)] [.sc (.v (.bool r))] := by
 unfold f_spec_PartOk at h
 refine FC_go (σ := ⟨[(0,va [aI a0.Amp,aI a0.Period,aI a0.Phase])],[],[]⟩) mixed ee110 rfl rfl ?_
 simp only [cc109]
 try simp only [Nat.reduceBEq,reduceMul,reduceAdd,reduceDiv,Int.reduceBEq,RR]
 refine go_bx rfl rfl rfl ?_
 obtain ⟨r1,hr1,h⟩ := ob h
 try simp only [Nat.reduceBEq,reduceMul,reduceAdd,reduceDiv,Int.reduceBEq,RR]
 refine go_callI (w_spec_l01In _ _ _ _ hr1) rfl rfl (Nat.le_of_ble_eq_true rfl) ?_
 rcases Bool.eq_false_or_eq_true r1 with hb2 | hb2
 ·rw [ite_t hb2] at h
  obtain ⟨r3,hr3,h⟩ := ob h
  try simp only [hb2,Nat.reduceBEq,reduceMul,reduceAdd,reduceDiv,Int.reduceBEq,RR]
  refine go_callI (w_spec_l01In _ _ _ _ hr3) rfl rfl (Nat.le_of_ble_eq_true rfl) ?_
  rcases Bool.eq_false_or_eq_true r3 with hb4 | hb4
  ·rw [ite_t hb4] at h
   rcases Bool.eq_false_or_eq_true ((IntKind.i64.wrap (Int.tmod a0.Period (4 : Int))) == (0 : Int)) with hb5 | hb5
   ·rw [ite_t hb5] at h
    obtain ⟨r6,hr6,h⟩ := ob h
    try simp only [hb2,hb4,hb5,Nat.reduceBEq,reduceMul,reduceAdd,reduceDiv,Int.reduceBEq,RR]
    refine go_callI (w_spec_l01In _ _ _ _ hr6) rfl rfl (Nat.le_of_ble_eq_true rfl) ?_
    try simp only [hb2,hb4,hb5,Nat.reduceBEq,reduceMul,reduceAdd,reduceDiv,Int.reduceBEq,RR]
    cases h
    exact ⟨⟨rfl,trivial⟩,rfl⟩
   ·rw [ite_f hb5] at h
    try simp only [hb2,hb4,hb5,Nat.reduceBEq,reduceMul,reduceAdd,reduceDiv,Int.reduceBEq,RR]
    cases h
    exact ⟨⟨rfl,trivial⟩,rfl⟩
  ·rw [ite_f hb4] at h
   try simp only [hb2,hb4,Nat.reduceBEq,reduceMul,reduceAdd,reduceDiv,Int.reduceBEq,RR]
   cases h
   exact ⟨⟨rfl,trivial⟩,rfl⟩
 ·rw [ite_f hb2] at h
  try simp only [hb2,Nat.reduceBEq,reduceMul,reduceAdd,reduceDiv,Int.reduceBEq,RR]
  cases h
  exact ⟨⟨rfl,trivial⟩,rfl⟩
/- 81: spec_TideOk -/
def cc111 : ACode := .seq (.reg [(none,.keep [16,17,18] [] [])]) (.seq (.reg [bn 19 .lss 18 17]) (.seq (.cond (S 19) .skip (.exit 0)) (.seq (.block 1 (.seq (.reg [(none,.iaddr 20 (S 16) (S 18) 3),(none,.load 21 (S 20) true 3),(none,.alloc 4 [aI 0,aI 0,aI 0]),(none,.store (S 4) (S 21) 3)]) (.seq (.reg [(none,.load 22 (S 4) true 3),(none,.call 23 126 [(S 22)]),(none,.un 24 .not (S 23))]) (.cond (S 24) (.seq (.reg [(none,.mv 2 (KB false))]) .ret) .skip)))) (.reg [(none,.bin 25 .add (S 18) (K 1)),mv 18 25]))))
def cc112 : ACode := (.seq (.reg [(none,.mv 2 (KB true))]) .ret)
def cc113 : ACode := (.seq (.reg [(none,.box 1 (S 0)),(none,.mv 2 (KB false))]) (.seq (.seq (.reg [fa 5 1 0,ld 6 5,(none,.call 7 82 [(S 6),(K (-1000)),(K 1000)]),(none,.un 8 .not (S 7)),mv 9 8,(some (9,false),.faddr 10 (S 1) 1),(some (9,false),.load 11 (S 10) false 1),(some (9,false),.len 12 (S 11)),(some (9,false),.bin 13 .gtr (S 12) (K 4)),(none,.pick 14 (S 9) (KB true) (S 13))]) (.cond (S 14) (.seq (.reg [(none,.mv 2 (KB false))]) .ret) .skip)) (.seq (.seq (.reg [fa 15 1 1,ld 16 15,(none,.len 17 (S 16)),(none,.mv 18 (K 0))]) (.block 0 (.loop cc111))) cc112)))
theorem ww114 (a0 : XTide) : ∀ (n : Nat) (v4 : Int) (r : Bool),f_spec_TideOk_1 a0 n v4 = some r → ∀ σ : St,σ.kept [16,17,18] [] [] = ⟨[(16,vc (aL (List.map XPart.row a0.Parts))),(17,vc (aI (a0.Parts.length : Int))),(18,vc (aI v4))],[],[]⟩ → go Tryz.prog (.code (.loop cc111) :: [.blk 0,.code cc112]) (Ret [2] [.sc (.v (.bool r))]) .normal (some σ) := by
 intro n
 induction n with
 | zero => intro _ r h; cases h
 | succ n ih =>
  intro v4 r h σ hσ
  rw [f_spec_TideOk_1] at h
  refine go_round ?_
  rcases Bool.eq_false_or_eq_true (decide (v4 < (a0.Parts.length : Int))) with hb5 | hb5
  ·rw [ite_t hb5] at h
   obtain ⟨x6,hx6,h⟩ := ob h
   try simp only [hσ,hb5,hx6,cc111,Nat.reduceBEq,reduceMul,reduceAdd,reduceDiv,Int.reduceBEq,RR]
   refine go_al rfl rfl ?_
   obtain ⟨r7,hr7,h⟩ := ob h
   try simp only [hb5,hx6,Nat.reduceBEq,reduceMul,reduceAdd,reduceDiv,Int.reduceBEq,RR]
   refine go_callI (w_spec_PartOk _ _ hr7) rfl rfl (Nat.le_of_ble_eq_true rfl) ?_
   rcases Bool.eq_false_or_eq_true r7 with hb8 | hb8
   ·rw [ite_t hb8] at h
    try simp only [hb5,hx6,hb8,Nat.reduceBEq,reduceMul,reduceAdd,reduceDiv,Int.reduceBEq,RR]
    refine ih _ _ h _ ?_
    try simp only [hb5,hx6,hb8,Nat.reduceBEq,reduceMul,reduceAdd,reduceDiv,Int.reduceBEq,RR,List.map_nil]
   ·rw [ite_f hb8] at h
    try simp only [hb5,hx6,hb8,Nat.reduceBEq,reduceMul,reduceAdd,reduceDiv,Int.reduceBEq,RR]
    cases h
    exact ⟨⟨rfl,trivial⟩,rfl⟩
  ·rw [ite_f hb5] at h
   try simp only [hσ,hb5,cc111,cc112,Nat.reduceBEq,reduceMul,reduceAdd,reduceDiv,Int.reduceBEq,RR]
   cases h
   exact ⟨⟨rfl,trivial⟩,rfl⟩
theorem ee115 : entry Tryz.prog 81 = some (cc113.strip,[2],26) := by kernel_rfl
theorem w_spec_TideOk (a0 : XTide) (r : Bool) (h : f_spec_TideOk a0 = some r) : FC Tryz.prog 81 [.ag (XTide.row a0)] [.sc (.v (.bool r))] := by
 unfold f_spec_TideOk at h
 refine FC_go (σ := ⟨[(0,va [aI a0.Mean,aL (List.map XPart.row a0.Parts)])],[],[]⟩) mixed ee115 rfl rfl ?_
 simp only [cc113]
 try simp only [Nat.reduceBEq,reduceMul,reduceAdd,reduceDiv,Int.reduceBEq,RR]
 refine go_bx rfl rfl rfl ?_
 obtain ⟨r1,hr1,h⟩ := ob h
 try simp only [Nat.reduceBEq,reduceMul,reduceAdd,reduceDiv,Int.reduceBEq,RR]
 refine go_callI (w_spec_l01In _ _ _ _ hr1) rfl rfl (Nat.le_of_ble_eq_true rfl) ?_
 rcases Bool.eq_false_or_eq_true r1 with hb2 | hb2
 ·rw [ite_t hb2] at h
  rcases Bool.eq_false_or_eq_true (decide ((4 : Int) < (a0.Parts.length : Int))) with hb3 | hb3
  ·rw [ite_t hb3] at h
   try simp only [hb2,hb3,Nat.reduceBEq,reduceMul,reduceAdd,reduceDiv,Int.reduceBEq,RR]
   cases h
   exact ⟨⟨rfl,trivial⟩,rfl⟩
  ·rw [ite_f hb3] at h
   try simp only [hb2,hb3,Nat.reduceBEq,reduceMul,reduceAdd,reduceDiv,Int.reduceBEq,RR]
   refine ww114 _ _ _ _ h _ ?_
   try simp only [hb2,hb3,Nat.reduceBEq,reduceMul,reduceAdd,reduceDiv,Int.reduceBEq,RR,List.map_nil]
 ·rw [ite_f hb2] at h
  try simp only [hb2,Nat.reduceBEq,reduceMul,reduceAdd,reduceDiv,Int.reduceBEq,RR]
  cases h
  exact ⟨⟨rfl,trivial⟩,rfl⟩
/- 83: spec_SurgeOk -/
def cc116 : ACode := (.seq (.reg [(none,.box 1 (S 0)),(none,.mv 2 (KB false))]) (.seq (.reg [fa 3 1 0,ld 4 3,(none,.call 5 82 [(S 4),(K 0),(K 2880)]),mv 6 5,(some (6,true),.faddr 7 (S 1) 1),(some (6,true),.load 8 (S 7) false 1),(some (6,true),.call 9 82 [(S 8),(K (-500)),(K 500)]),(none,.pick 10 (S 6) (S 9) (KB false)),mv 11 10,(some (11,true),.faddr 12 (S 1) 2),(some (11,true),.load 13 (S 12) false 1),(some (11,true),.faddr 14 (S 1) 1),(some (11,true),.load 15 (S 14) false 1),(some (11,true),.call 16 82 [(S 13),(S 15),(K 500)]),(none,.pick 17 (S 11) (S 16) (KB false)),mv 2 17]) .ret))
theorem ee117 : entry Tryz.prog 83 = some (cc116.strip,[2],18) := by kernel_rfl
theorem w_spec_SurgeOk (a0 : XSurge) (r : Bool) (h : f_spec_SurgeOk a0 = some r) : FC Tryz.prog 83 [.ag (XSurge.row a0)] [.sc (.v (.bool r))] := by
 unfold f_spec_SurgeOk at h
 refine FC_go (σ := ⟨[(0,va [aI a0.From,aI a0.Low,aI a0.High])],[],[]⟩) mixed ee117 rfl rfl ?_
 simp only [cc116]
 try simp only [Nat.reduceBEq,reduceMul,reduceAdd,reduceDiv,Int.reduceBEq,RR]
 refine go_bx rfl rfl rfl ?_
 obtain ⟨r1,hr1,h⟩ := ob h
 try simp only [Nat.reduceBEq,reduceMul,reduceAdd,reduceDiv,Int.reduceBEq,RR]
 refine go_callI (w_spec_l01In _ _ _ _ hr1) rfl rfl (Nat.le_of_ble_eq_true rfl) ?_
 rcases Bool.eq_false_or_eq_true r1 with hb2 | hb2
 ·rw [ite_t hb2] at h
  obtain ⟨r3,hr3,h⟩ := ob h
  try simp only [hb2,Nat.reduceBEq,reduceMul,reduceAdd,reduceDiv,Int.reduceBEq,RR]
  refine go_callI (w_spec_l01In _ _ _ _ hr3) rfl rfl (Nat.le_of_ble_eq_true rfl) ?_
  rcases Bool.eq_false_or_eq_true r3 with hb4 | hb4
  ·rw [ite_t hb4] at h
   obtain ⟨r5,hr5,h⟩ := ob h
   try simp only [hb2,hb4,Nat.reduceBEq,reduceMul,reduceAdd,reduceDiv,Int.reduceBEq,RR]
   refine go_callI (w_spec_l01In _ _ _ _ hr5) rfl rfl (Nat.le_of_ble_eq_true rfl) ?_
   try simp only [hb2,hb4,Nat.reduceBEq,reduceMul,reduceAdd,reduceDiv,Int.reduceBEq,RR]
   cases h
   exact ⟨⟨rfl,trivial⟩,rfl⟩
  ·rw [ite_f hb4] at h
   try simp only [hb2,hb4,Nat.reduceBEq,reduceMul,reduceAdd,reduceDiv,Int.reduceBEq,RR]
   cases h
   exact ⟨⟨rfl,trivial⟩,rfl⟩
 ·rw [ite_f hb2] at h
  try simp only [hb2,Nat.reduceBEq,reduceMul,reduceAdd,reduceDiv,Int.reduceBEq,RR]
  cases h
  exact ⟨⟨rfl,trivial⟩,rfl⟩
/- 46: spec_ForecastOk -/
def cc118 : ACode := .seq (.reg [(none,.keep [1,25,26,27] [1] [])]) (.seq (.reg [bn 28 .lss 27 26]) (.seq (.cond (S 28) .skip (.exit 0)) (.seq (.block 1 (.seq (.reg [mv 29 27,(none,.iaddr 30 (S 25) (S 27) 3),(none,.load 31 (S 30) true 3),(none,.alloc 4 [aI 0,aI 0,aI 0]),mv 3 29,(none,.store (S 4) (S 31) 3)]) (.seq (.drw [(some [],(none,.load 32 (S 4) true 3)),(some [],(none,.call 33 83 [(S 32)])),(some [],(none,.un 34 .not (S 33))),(some [],mv 35 34),(some [],(some (35,false),.mv 36 (S 3))),(some [],(some (35,false),.bin 37 .gtr (S 36) (K 0))),(some [],(some (35,false),.mv 38 (S 37))),(some [],(some (38,true),.faddr 39 (S 4) 0)),(some [],(some (38,true),.load 40 (S 39) false 1)),(some [],(some (38,true),.faddr 41 (S 1) 2)),(some [],(some (38,true),.load 42 (S 41) false 1)),(some [],(some (38,true),.mv 43 (S 3))),(some [],(some (38,true),.bin 44 .sub (S 43) (K 1))),(some [],(some (38,true),.iaddr 45 (S 42) (S 44) 3)),(some [],(some (38,true),.faddr 46 (S 45) 0)),(some [],(some (38,true),.load 47 (S 46) false 1)),(some [],(some (38,true),.bin 48 .leq (S 40) (S 47))),(some [],(some (35,false),.pick 49 (S 38) (S 48) (KB false))),(some [],(none,.pick 50 (S 35) (KB true) (S 49)))]) (.cond (S 50) (.seq (.reg [(none,.mv 2 (KB false))]) .ret) .skip)))) (.reg [(none,.bin 51 .add (S 27) (K 1)),mv 27 51]))))
def cc119 : ACode := (.seq (.reg [(none,.mv 2 (KB true))]) .ret)
def cc120 : ACode := (.seq (.reg [(none,.box 1 (S 0)),(none,.mv 2 (KB false))]) (.seq (.seq (.reg [fa 5 1 0,(none,.load 6 (S 5) true 2),(none,.call 7 81 [(S 6)]),(none,.un 8 .not (S 7)),mv 9 8,(some (9,false),.faddr 10 (S 1) 2),(some (9,false),.load 11 (S 10) false 1),(some (9,false),.len 12 (S 11)),(some (9,false),.call 13 82 [(S 12),(K 1),(K 6)]),(some (9,false),.un 14 .not (S 13)),(none,.pick 15 (S 9) (KB true) (S 14)),mv 16 15,(some (16,false),.faddr 17 (S 1) 2),(some (16,false),.load 18 (S 17) false 1),(some (16,false),.iaddr 19 (S 18) (K 0) 3),(some (16,false),.faddr 20 (S 19) 0),(some (16,false),.load 21 (S 20) false 1),(some (16,false),.bin 22 .neq (S 21) (K 0)),(none,.pick 23 (S 16) (KB true) (S 22))]) (.cond (S 23) (.seq (.reg [(none,.mv 2 (KB false))]) .ret) .skip)) (.seq (.seq (.reg [fa 24 1 2,ld 25 24,(none,.len 26 (S 25)),(none,.mv 27 (K 0))]) (.block 0 (.loop cc118))) cc119)))
theorem ww121 (a0 : XForecast) : ∀ (n : Nat) (v7 : Int) (r : Bool),f_spec_ForecastOk_1 a0 n v7 = some r → ∀ σ : St,σ.kept [1,25,26,27] [1] [] = ⟨[(1,vc (.pb 1 0)),(25,vc (aL (List.map XSurge.row a0.Surges))),(26,vc (aI (a0.Surges.length : Int))),(27,vc (aI v7))],[(1,[aI a0.Tide.Mean,aL (List.map XPart.row a0.Tide.Parts),aL (List.map XSurge.row a0.Surges)])],[]⟩ → go Tryz.prog (.code (.loop cc118) :: [.blk 0,.code cc119]) (Ret [2] [.sc (.v (.bool r))]) .normal (some σ) := by
 intro n
 induction n with
 | zero => intro _ r h; cases h
 | succ n ih =>
  intro v7 r h σ hσ
  rw [f_spec_ForecastOk_1] at h
  refine go_round ?_
  rcases Bool.eq_false_or_eq_true (decide (v7 < (a0.Surges.length : Int))) with hb8 | hb8
  ·rw [ite_t hb8] at h
   obtain ⟨x9,hx9,h⟩ := ob h
   try simp only [hσ,hb8,hx9,cc118,Nat.reduceBEq,reduceMul,reduceAdd,reduceDiv,Int.reduceBEq,RR]
   refine go_al rfl rfl ?_
   try simp only [hb8,hx9,Nat.reduceBEq,reduceMul,reduceAdd,reduceDiv,Int.reduceBEq,RR]
   refine go_fr_of rfl ?_
   obtain ⟨r10,hr10,h⟩ := ob h
   try simp only [hb8,hx9,Nat.reduceBEq,reduceMul,reduceAdd,reduceDiv,Int.reduceBEq,RR]
   refine go_dcallI (w_spec_SurgeOk _ _ hr10) rfl rfl (Nat.le_of_ble_eq_true rfl) ?_
   rcases Bool.eq_false_or_eq_true r10 with hb11 | hb11
   ·rw [ite_t hb11] at h
    rcases Bool.eq_false_or_eq_true (decide ((0 : Int) < v7)) with hb12 | hb12
    ·rw [ite_t hb12] at h
     obtain ⟨x13,hx13,h⟩ := ob h
     rcases Bool.eq_false_or_eq_true (decide (x9.From ≤ x13.From)) with hb14 | hb14
     ·rw [ite_t hb14] at h
      try simp only [hb8,hx9,hb11,hb12,hx13,hb14,Nat.reduceBEq,reduceMul,reduceAdd,reduceDiv,Int.reduceBEq,RR]
      cases h
      exact ⟨⟨rfl,trivial⟩,rfl⟩
     ·rw [ite_f hb14] at h
      try simp only [hb8,hx9,hb11,hb12,hx13,hb14,Nat.reduceBEq,reduceMul,reduceAdd,reduceDiv,Int.reduceBEq,RR]
      refine ih _ _ h _ ?_
      try simp only [hb8,hx9,hb11,hb12,hx13,hb14,Nat.reduceBEq,reduceMul,reduceAdd,reduceDiv,Int.reduceBEq,RR,List.map_nil]
    ·rw [ite_f hb12] at h
     try simp only [hb8,hx9,hb11,hb12,Nat.reduceBEq,reduceMul,reduceAdd,reduceDiv,Int.reduceBEq,RR]
     refine ih _ _ h _ ?_
     try simp only [hb8,hx9,hb11,hb12,Nat.reduceBEq,reduceMul,reduceAdd,reduceDiv,Int.reduceBEq,RR,List.map_nil]
   ·rw [ite_f hb11] at h
    try simp only [hb8,hx9,hb11,Nat.reduceBEq,reduceMul,reduceAdd,reduceDiv,Int.reduceBEq,RR]
    cases h
    exact ⟨⟨rfl,trivial⟩,rfl⟩
  ·rw [ite_f hb8] at h
   try simp only [hσ,hb8,cc118,cc119,Nat.reduceBEq,reduceMul,reduceAdd,reduceDiv,Int.reduceBEq,RR]
   cases h
   exact ⟨⟨rfl,trivial⟩,rfl⟩
theorem ee122 : entry Tryz.prog 46 = some (cc120.strip,[2],52) := by kernel_rfl
theorem w_spec_ForecastOk (a0 : XForecast) (r : Bool) (h : f_spec_ForecastOk a0 = some r) : FC Tryz.prog 46 [.ag (XForecast.row a0)] [.sc (.v (.bool r))] := by
 unfold f_spec_ForecastOk at h
 refine FC_go (σ := ⟨[(0,va [aI a0.Tide.Mean,aL (List.map XPart.row a0.Tide.Parts),aL (List.map XSurge.row a0.Surges)])],[],[]⟩) mixed ee122 rfl rfl ?_
 simp only [cc120]
 try simp only [Nat.reduceBEq,reduceMul,reduceAdd,reduceDiv,Int.reduceBEq,RR]
 refine go_bx rfl rfl rfl ?_
 obtain ⟨r1,hr1,h⟩ := ob h
 try simp only [Nat.reduceBEq,reduceMul,reduceAdd,reduceDiv,Int.reduceBEq,RR]
 refine go_callI (w_spec_TideOk _ _ hr1) rfl rfl (Nat.le_of_ble_eq_true rfl) ?_
 rcases Bool.eq_false_or_eq_true r1 with hb2 | hb2
 ·rw [ite_t hb2] at h
  obtain ⟨r3,hr3,h⟩ := ob h
  try simp only [hb2,Nat.reduceBEq,reduceMul,reduceAdd,reduceDiv,Int.reduceBEq,RR]
  refine go_callI (w_spec_l01In _ _ _ _ hr3) rfl rfl (Nat.le_of_ble_eq_true rfl) ?_
  rcases Bool.eq_false_or_eq_true r3 with hb4 | hb4
  ·rw [ite_t hb4] at h
   obtain ⟨x5,hx5,h⟩ := ob h
   rcases Bool.eq_false_or_eq_true (x5.From != (0 : Int)) with hb6 | hb6
   ·rw [ite_t hb6] at h
    try simp only [hb2,hb4,hx5,hb6,Nat.reduceBEq,reduceMul,reduceAdd,reduceDiv,Int.reduceBEq,RR]
    cases h
    exact ⟨⟨rfl,trivial⟩,rfl⟩
   ·rw [ite_f hb6] at h
    try simp only [hb2,hb4,hx5,hb6,Nat.reduceBEq,reduceMul,reduceAdd,reduceDiv,Int.reduceBEq,RR]
    refine ww121 _ _ _ _ h _ ?_
    try simp only [hb2,hb4,hx5,hb6,Nat.reduceBEq,reduceMul,reduceAdd,reduceDiv,Int.reduceBEq,RR,List.map_nil]
  ·rw [ite_f hb4] at h
   try simp only [hb2,hb4,Nat.reduceBEq,reduceMul,reduceAdd,reduceDiv,Int.reduceBEq,RR]
   cases h
   exact ⟨⟨rfl,trivial⟩,rfl⟩
 ·rw [ite_f hb2] at h
  try simp only [hb2,Nat.reduceBEq,reduceMul,reduceAdd,reduceDiv,Int.reduceBEq,RR]
  cases h
  exact ⟨⟨rfl,trivial⟩,rfl⟩
/- 84: spec_IsName -/
def cc123 : ACode := .seq (.reg [(none,.keep [0,3,4] [] [])]) (.seq (.reg [mv 21 4,(none,.un 22 .not (S 21)),mv 23 22,(some (23,true),.mv 24 (S 3)),(some (23,true),.bin 25 .eql (S 24) (K 0)),(some (23,true),.mv 26 (S 25)),(some (26,false),.mv 27 (S 0)),(some (26,false),.mv 28 (S 3)),(some (26,false),.idx 29 (S 27) (S 28)),(some (26,false),.bin 30 .lss (S 29) (K8 48)),(some (23,true),.pick 31 (S 26) (KB true) (S 30)),(some (23,true),.mv 32 (S 31)),(some (32,false),.mv 33 (S 0)),(some (32,false),.mv 34 (S 3)),(some (32,false),.idx 35 (S 33) (S 34)),(some (32,false),.bin 36 .gtr (S 35) (K8 57)),(some (23,true),.pick 37 (S 32) (KB true) (S 36)),(none,.pick 38 (S 23) (S 37) (KB false))]) (.cond (S 38) (.seq (.reg [(none,.mv 2 (KB false))]) .ret) .skip))
def cc124 : ACode := .seq (.reg [(none,.keep [0,3] [] [])]) (.reg [mv 9 3,(none,.bin 10 .add (S 9) (K 1)),mv 3 10])
def cc125 : ACode := .seq (.reg [(none,.keep [0,3] [] [])]) (.seq (.seq (.reg [mv 5 3,mv 6 0,(none,.slen 7 (S 6)),bn 8 .lss 5 7]) (.cond (S 8) .skip (.exit 0))) (.seq (.block 1 (.seq (.reg [mv 11 0,mv 12 3,(none,.idx 13 (S 11) (S 12)),(none,.bin 14 .geq (S 13) (K8 97)),mv 15 14,(some (15,true),.mv 16 (S 0)),(some (15,true),.mv 17 (S 3)),(some (15,true),.idx 18 (S 16) (S 17)),(some (15,true),.bin 19 .leq (S 18) (K8 122)),(none,.pick 20 (S 15) (S 19) (KB false)),mv 4 20]) cc123)) cc124))
def cc126 : ACode := (.seq (.reg [mv 39 0,(none,.slen 40 (S 39)),(none,.call 41 82 [(S 40),(K 1),(K 8)]),mv 2 41]) .ret)
def cc127 : ACode := (.seq (.reg [(none,.mv 2 (KB false))]) (.seq (.seq (.reg [(none,.mv 3 (K 0))]) (.block 0 (.loop cc125))) cc126))
theorem ww128 (a0 : List UInt8) (v1 : Int) (k_spec_IsName_1 : Int → Option Bool) (hk_spec_IsName_1 : ∀ (v1 : Int) zr,k_spec_IsName_1 v1 = some zr → ∀ σ : St,σ.kept [0,3] [] [] = ⟨[(0,vc (aS a0)),(3,vc (aI v1))],[],[]⟩ → go Tryz.prog (.code (.loop cc125) :: [.blk 0,.code cc126]) (Ret [2] [.sc (.v (.bool zr))]) .normal (some σ)) (r : Bool) (h : f_spec_IsName_3 a0 v1 k_spec_IsName_1 = some r) (σ : St) (hσ : σ.kept [0,3] [] [] = ⟨[(0,vc (aS a0)),(3,vc (aI v1))],[],[]⟩) : go Tryz.prog (.code cc124 :: [.code (.loop cc125),.blk 0,.code cc126]) (Ret [2] [.sc (.v (.bool r))]) .normal (some σ) := by
 unfold f_spec_IsName_3 at h
 try simp only [hσ,cc124,Nat.reduceBEq,reduceMul,reduceAdd,reduceDiv,Int.reduceBEq,RR]
 refine hk_spec_IsName_1 _ _ h _ ?_
 try simp only [Nat.reduceBEq,reduceMul,reduceAdd,reduceDiv,Int.reduceBEq,RR,List.map_nil]
theorem ww129 (a0 : List UInt8) (v1 : Int) (k_spec_IsName_1 : Int → Option Bool) (hk_spec_IsName_1 : ∀ (v1 : Int) zr,k_spec_IsName_1 v1 = some zr → ∀ σ : St,σ.kept [0,3] [] [] = ⟨[(0,vc (aS a0)),(3,vc (aI v1))],[],[]⟩ → go Tryz.prog (.code (.loop cc125) :: [.blk 0,.code cc126]) (Ret [2] [.sc (.v (.bool zr))]) .normal (some σ)) (v5 : Bool) (r : Bool) (h : f_spec_IsName_2 a0 v1 k_spec_IsName_1 v5 = some r) (σ : St) (hσ : σ.kept [0,3,4] [] [] = ⟨[(0,vc (aS a0)),(3,vc (aI v1)),(4,vc (aB v5))],[],[]⟩) : go Tryz.prog (.code cc123 :: [.blk 1,.code cc124,.code (.loop cc125),.blk 0,.code cc126]) (Ret [2] [.sc (.v (.bool r))]) .normal (some σ) := by
 unfold f_spec_IsName_2 at h
 rcases Bool.eq_false_or_eq_true v5 with hb6 | hb6
 ·rw [ite_t hb6] at h
  try simp only [hσ,hb6,cc123,Nat.reduceBEq,reduceMul,reduceAdd,reduceDiv,Int.reduceBEq,RR]
  refine ww128 _ _ k_spec_IsName_1 hk_spec_IsName_1 _ h _ ?_
  try simp only [hb6,Nat.reduceBEq,reduceMul,reduceAdd,reduceDiv,Int.reduceBEq,RR,List.map_nil]
 ·rw [ite_f hb6] at h
  rcases Bool.eq_false_or_eq_true (v1 == (0 : Int)) with hb7 | hb7
  ·rw [ite_t hb7] at h
   try simp only [hσ,hb6,hb7,cc123,Nat.reduceBEq,reduceMul,reduceAdd,reduceDiv,Int.reduceBEq,RR]
   cases h
   exact ⟨⟨rfl,trivial⟩,rfl⟩
  ·rw [ite_f hb7] at h
   obtain ⟨b8,hb8,h⟩ := ob h
   rcases Bool.eq_false_or_eq_true (decide ((b8.toNat : Int) < (48 : Int))) with hb9 | hb9
   ·rw [ite_t hb9] at h
    try simp only [hσ,hb6,hb7,hb8,hb9,cc123,Nat.reduceBEq,reduceMul,reduceAdd,reduceDiv,Int.reduceBEq,RR]
    cases h
    exact ⟨⟨rfl,trivial⟩,rfl⟩
   ·rw [ite_f hb9] at h
    rcases Bool.eq_false_or_eq_true (decide ((57 : Int) < (b8.toNat : Int))) with hb10 | hb10
    ·rw [ite_t hb10] at h
     try simp only [hσ,hb6,hb7,hb8,hb9,hb10,cc123,Nat.reduceBEq,reduceMul,reduceAdd,reduceDiv,Int.reduceBEq,RR]
     cases h
     exact ⟨⟨rfl,trivial⟩,rfl⟩
    ·rw [ite_f hb10] at h
     try simp only [hσ,hb6,hb7,hb8,hb9,hb10,cc123,Nat.reduceBEq,reduceMul,reduceAdd,reduceDiv,Int.reduceBEq,RR]
     refine ww128 _ _ k_spec_IsName_1 hk_spec_IsName_1 _ h _ ?_
     try simp only [hb6,hb7,hb8,hb9,hb10,Nat.reduceBEq,reduceMul,reduceAdd,reduceDiv,Int.reduceBEq,RR,List.map_nil]
theorem ww130 (a0 : List UInt8) : ∀ (n : Nat) (v1 : Int) (r : Bool),f_spec_IsName_1 a0 n v1 = some r → ∀ σ : St,σ.kept [0,3] [] [] = ⟨[(0,vc (aS a0)),(3,vc (aI v1))],[],[]⟩ → go Tryz.prog (.code (.loop cc125) :: [.blk 0,.code cc126]) (Ret [2] [.sc (.v (.bool r))]) .normal (some σ) := by
 intro n
 induction n with
 | zero => intro _ r h; cases h
 | succ n ih =>
  intro v1 r h σ hσ
  rw [f_spec_IsName_1] at h
  refine go_round ?_
  rcases Bool.eq_false_or_eq_true (decide (v1 < (a0.length : Int))) with hb2 | hb2
  ·rw [ite_t hb2] at h
   obtain ⟨b3,hb3,h⟩ := ob h
   rcases Bool.eq_false_or_eq_true (decide ((97 : Int) ≤ (b3.toNat : Int))) with hb4 | hb4
   ·rw [ite_t hb4] at h
    try simp only [hσ,hb2,hb3,hb4,cc125,Nat.reduceBEq,reduceMul,reduceAdd,reduceDiv,Int.reduceBEq,RR]
    refine ww129 _ _ (f_spec_IsName_1 a0 n) ih _ _ h _ ?_
    try simp only [hb2,hb3,hb4,Nat.reduceBEq,reduceMul,reduceAdd,reduceDiv,Int.reduceBEq,RR,List.map_nil]
   ·rw [ite_f hb4] at h
    try simp only [hσ,hb2,hb3,hb4,cc125,Nat.reduceBEq,reduceMul,reduceAdd,reduceDiv,Int.reduceBEq,RR]
    refine ww129 _ _ (f_spec_IsName_1 a0 n) ih _ _ h _ ?_
    try simp only [hb2,hb3,hb4,Nat.reduceBEq,reduceMul,reduceAdd,reduceDiv,Int.reduceBEq,RR,List.map_nil]
  ·rw [ite_f hb2] at h
   obtain ⟨r11,hr11,h⟩ := ob h
   try simp only [hσ,hb2,cc125,cc126,Nat.reduceBEq,reduceMul,reduceAdd,reduceDiv,Int.reduceBEq,RR]
   refine go_callI (w_spec_l01In _ _ _ _ hr11) rfl rfl (Nat.le_of_ble_eq_true rfl) ?_
   try simp only [hb2,Nat.reduceBEq,reduceMul,reduceAdd,reduceDiv,Int.reduceBEq,RR]
   cases h
   exact ⟨⟨rfl,trivial⟩,rfl⟩
theorem ee131 : entry Tryz.prog 84 = some (cc127.strip,[2],42) := by kernel_rfl
theorem w_spec_IsName (a0 : List UInt8) (r : Bool) (h : f_spec_IsName a0 = some r) : FC Tryz.prog 84 [.sc (.str a0)] [.sc (.v (.bool r))] := by
 unfold f_spec_IsName at h
 refine FC_go (σ := ⟨[(0,vc (aS a0))],[],[]⟩) mixed ee131 rfl rfl ?_
 simp only [cc127]
 try simp only [Nat.reduceBEq,reduceMul,reduceAdd,reduceDiv,Int.reduceBEq,RR]
 refine ww130 _ _ _ _ h _ ?_
 try simp only [Nat.reduceBEq,reduceMul,reduceAdd,reduceDiv,Int.reduceBEq,RR,List.map_nil]
/- 85: spec_PointNamed -/
def cc132 : ACode := .seq (.reg [(none,.keep [1,8,9,10] [] [])]) (.seq (.reg [bn 11 .lss 10 9]) (.seq (.cond (S 11) .skip (.exit 0)) (.seq (.block 1 (.seq (.reg [mv 12 10,(none,.iaddr 13 (S 8) (S 10) 2),(none,.load 14 (S 13) true 2),(none,.alloc 6 [aS [],aB false]),mv 5 12,(none,.store (S 6) (S 14) 2)]) (.seq (.reg [fa 15 6 0,ld 16 15,mv 17 1,bn 18 .eql 16 17]) (.cond (S 18) (.seq (.reg [mv 19 5,mv 4 19]) .ret) .skip)))) (.reg [(none,.bin 20 .add (S 10) (K 1)),mv 10 20]))))
def cc133 : ACode := (.seq (.reg [(none,.mv 4 (K (-1)))]) .ret)
def cc134 : ACode := (.seq (.reg [(none,.box 2 (S 0)),(none,.mv 4 (K 0))]) (.seq (.seq (.reg [fa 7 2 0,ld 8 7,(none,.len 9 (S 8)),(none,.mv 10 (K 0))]) (.block 0 (.loop cc132))) cc133))
theorem ww135 (a1 : List UInt8) (a0 : XChart) : ∀ (n : Nat) (v1 : Int) (r : Int),f_spec_PointNamed_1 a1 a0 n v1 = some r → ∀ σ : St,σ.kept [1,8,9,10] [] [] = ⟨[(1,vc (aS a1)),(8,vc (aL (List.map XPoint.row a0.Points))),(9,vc (aI (a0.Points.length : Int))),(10,vc (aI v1))],[],[]⟩ → go Tryz.prog (.code (.loop cc132) :: [.blk 0,.code cc133]) (Ret [4] [.sc (.v (.int .i64 r))]) .normal (some σ) := by
 intro n
 induction n with
 | zero => intro _ r h; cases h
 | succ n ih =>
  intro v1 r h σ hσ
  rw [f_spec_PointNamed_1] at h
  refine go_round ?_
  rcases Bool.eq_false_or_eq_true (decide (v1 < (a0.Points.length : Int))) with hb2 | hb2
  ·rw [ite_t hb2] at h
   obtain ⟨x3,hx3,h⟩ := ob h
   try simp only [hσ,hb2,hx3,cc132,Nat.reduceBEq,reduceMul,reduceAdd,reduceDiv,Int.reduceBEq,RR]
   refine go_al rfl rfl ?_
   rcases Bool.eq_false_or_eq_true (x3.Name == a1) with hb4 | hb4
   ·rw [ite_t hb4] at h
    try simp only [hb2,hx3,hb4,Nat.reduceBEq,reduceMul,reduceAdd,reduceDiv,Int.reduceBEq,RR]
    cases h
    exact ⟨⟨rfl,trivial⟩,rfl⟩
   ·rw [ite_f hb4] at h
    try simp only [hb2,hx3,hb4,Nat.reduceBEq,reduceMul,reduceAdd,reduceDiv,Int.reduceBEq,RR]
    refine ih _ _ h _ ?_
    try simp only [hb2,hx3,hb4,Nat.reduceBEq,reduceMul,reduceAdd,reduceDiv,Int.reduceBEq,RR,List.map_nil]
  ·rw [ite_f hb2] at h
   try simp only [hσ,hb2,cc132,cc133,Nat.reduceBEq,reduceMul,reduceAdd,reduceDiv,Int.reduceBEq,RR]
   cases h
   exact ⟨⟨rfl,trivial⟩,rfl⟩
theorem ee136 : entry Tryz.prog 85 = some (cc134.strip,[4],21) := by kernel_rfl
theorem w_spec_PointNamed (a0 : XChart) (a1 : List UInt8) (r : Int) (h : f_spec_PointNamed a0 a1 = some r) : FC Tryz.prog 85 [.ag (XChart.row a0),.sc (.str a1)] [.sc (.v (.int .i64 r))] := by
 unfold f_spec_PointNamed at h
 refine FC_go (σ := ⟨[(0,va [aL (List.map XPoint.row a0.Points),aL (List.map XSegment.row a0.Segments)]),(1,vc (aS a1))],[],[]⟩) mixed ee136 rfl rfl ?_
 simp only [cc134]
 try simp only [Nat.reduceBEq,reduceMul,reduceAdd,reduceDiv,Int.reduceBEq,RR]
 refine go_bx rfl rfl rfl ?_
 try simp only [Nat.reduceBEq,reduceMul,reduceAdd,reduceDiv,Int.reduceBEq,RR]
 refine ww135 _ _ _ _ _ h _ ?_
 try simp only [Nat.reduceBEq,reduceMul,reduceAdd,reduceDiv,Int.reduceBEq,RR,List.map_nil]
/- 86: spec_l05Joins -/
def cc137 : ACode := (.seq (.reg [(none,.box 3 (S 0)),(none,.mv 6 (KB false))]) (.seq (.reg [fa 7 3 0,ld 8 7,mv 9 1,bn 10 .eql 8 9,mv 11 10,(some (11,true),.faddr 12 (S 3) 1),(some (11,true),.load 13 (S 12) false 1),(some (11,true),.mv 14 (S 2)),(some (11,true),.bin 15 .eql (S 13) (S 14)),(none,.pick 16 (S 11) (S 15) (KB false)),mv 17 16,(some (17,false),.faddr 18 (S 3) 0),(some (17,false),.load 19 (S 18) false 1),(some (17,false),.mv 20 (S 2)),(some (17,false),.bin 21 .eql (S 19) (S 20)),(some (17,false),.mv 22 (S 21)),(some (22,true),.faddr 23 (S 3) 1),(some (22,true),.load 24 (S 23) false 1),(some (22,true),.mv 25 (S 1)),(some (22,true),.bin 26 .eql (S 24) (S 25)),(some (17,false),.pick 27 (S 22) (S 26) (KB false)),(none,.pick 28 (S 17) (KB true) (S 27)),mv 6 28]) .ret))
theorem ee138 : entry Tryz.prog 86 = some (cc137.strip,[6],29) := by kernel_rfl
theorem w_spec_l05Joins (a0 : XSegment) (a1 : Int) (a2 : Int) (r : Bool) (h : f_spec_l05Joins a0 a1 a2 = some r) : FC Tryz.prog 86 [.ag (XSegment.row a0),.sc (.int .i64 a1),.sc (.int .i64 a2)] [.sc (.v (.bool r))] := by
 unfold f_spec_l05Joins at h
 refine FC_go (σ := ⟨[(0,va [aI a0.A,aI a0.B,aI a0.Depth,aI a0.Minutes,aB a0.Meet]),(1,vc (aI a1)),(2,vc (aI a2))],[],[]⟩) mixed ee138 rfl rfl ?_
 simp only [cc137]
 try simp only [Nat.reduceBEq,reduceMul,reduceAdd,reduceDiv,Int.reduceBEq,RR]
 refine go_bx rfl rfl rfl ?_
 rcases Bool.eq_false_or_eq_true (a0.A == a1) with hb1 | hb1
 ·rw [ite_t hb1] at h
  rcases Bool.eq_false_or_eq_true (a0.B == a2) with hb2 | hb2
  ·rw [ite_t hb2] at h
   try simp only [hb1,hb2,Nat.reduceBEq,reduceMul,reduceAdd,reduceDiv,Int.reduceBEq,RR]
   cases h
   exact ⟨⟨rfl,trivial⟩,rfl⟩
  ·rw [ite_f hb2] at h
   rcases Bool.eq_false_or_eq_true (a0.A == a2) with hb3 | hb3
   ·rw [ite_t hb3] at h
    try simp only [hb1,hb2,hb3,Nat.reduceBEq,reduceMul,reduceAdd,reduceDiv,Int.reduceBEq,RR]
    cases h
    exact ⟨⟨rfl,trivial⟩,rfl⟩
   ·rw [ite_f hb3] at h
    try simp only [hb1,hb2,hb3,Nat.reduceBEq,reduceMul,reduceAdd,reduceDiv,Int.reduceBEq,RR]
    cases h
    exact ⟨⟨rfl,trivial⟩,rfl⟩
 ·rw [ite_f hb1] at h
  rcases Bool.eq_false_or_eq_true (a0.A == a2) with hb4 | hb4
  ·rw [ite_t hb4] at h
   try simp only [hb1,hb4,Nat.reduceBEq,reduceMul,reduceAdd,reduceDiv,Int.reduceBEq,RR]
   cases h
   exact ⟨⟨rfl,trivial⟩,rfl⟩
  ·rw [ite_f hb4] at h
   try simp only [hb1,hb4,Nat.reduceBEq,reduceMul,reduceAdd,reduceDiv,Int.reduceBEq,RR]
   cases h
   exact ⟨⟨rfl,trivial⟩,rfl⟩
/- 47: spec_ChartOk -/
def cc139 : ACode := .seq (.reg [(none,.keep [1,20,21,22] [1] [])]) (.seq (.reg [bn 23 .lss 22 21]) (.seq (.cond (S 23) .skip (.exit 0)) (.seq (.block 1 (.seq (.reg [mv 24 22,(none,.iaddr 25 (S 20) (S 22) 2),(none,.load 26 (S 25) true 2),(none,.alloc 4 [aS [],aB false]),mv 3 24,(none,.store (S 4) (S 26) 2)]) (.seq (.reg [fa 27 4 0,ld 28 27,(none,.call 29 84 [(S 28)]),(none,.un 30 .not (S 29)),mv 31 30,(some (31,false),.load 32 (S 1) true 2),(some (31,false),.faddr 33 (S 4) 0),(some (31,false),.load 34 (S 33) false 1),(some (31,false),.call 35 85 [(S 32),(S 34)]),(some (31,false),.mv 36 (S 3)),(some (31,false),.bin 37 .neq (S 35) (S 36)),(none,.pick 38 (S 31) (KB true) (S 37))]) (.cond (S 38) (.seq (.reg [(none,.mv 2 (KB false))]) .ret) .skip)))) (.reg [(none,.bin 39 .add (S 22) (K 1)),mv 22 39]))))
def cc140 : ACode := .seq (.reg [(none,.keep [1,6,41,42,43,88,89,90] [1,6] [])]) (.seq (.reg [bn 91 .lss 90 89]) (.seq (.cond (S 91) .skip (.exit 4)) (.seq (.block 5 (.seq (.reg [(none,.iaddr 92 (S 88) (S 90) 5),(none,.load 93 (S 92) true 5),(none,.alloc 8 [aI 0,aI 0,aI 0,aI 0,aB false]),(none,.store (S 8) (S 93) 5)]) (.seq (.reg [(none,.load 94 (S 8) true 5),fa 95 6 0,ld 96 95,fa 97 6 1,ld 98 97,(none,.call 99 86 [(S 94),(S 96),(S 98)])]) (.cond (S 99) (.seq (.reg [(none,.mv 2 (KB false))]) .ret) .skip)))) (.reg [(none,.bin 100 .add (S 90) (K 1)),mv 90 100]))))
def cc141 : ACode := (.reg [(none,.bin 101 .add (S 43) (K 1)),mv 43 101])
def cc142 : ACode := .seq (.reg [(none,.keep [1,41,42,43] [1] [])]) (.seq (.reg [bn 44 .lss 43 42]) (.seq (.cond (S 44) .skip (.exit 2)) (.seq (.block 3 (.seq (.reg [mv 45 43,(none,.iaddr 46 (S 41) (S 43) 5),(none,.load 47 (S 46) true 5),(none,.alloc 6 [aI 0,aI 0,aI 0,aI 0,aB false]),mv 5 45,(none,.store (S 6) (S 47) 5)]) (.seq (.seq (.reg [fa 48 6 0,ld 49 48,fa 50 1 0,ld 51 50,(none,.len 52 (S 51)),(none,.bin 53 .sub (S 52) (K 1)),(none,.call 54 82 [(S 49),(K 0),(S 53)]),(none,.un 55 .not (S 54)),mv 56 55,(some (56,false),.faddr 57 (S 6) 1),(some (56,false),.load 58 (S 57) false 1),(some (56,false),.faddr 59 (S 1) 0),(some (56,false),.load 60 (S 59) false 1),(some (56,false),.len 61 (S 60)),(some (56,false),.bin 62 .sub (S 61) (K 1)),(some (56,false),.call 63 82 [(S 58),(K 0),(S 62)]),(some (56,false),.un 64 .not (S 63)),(none,.pick 65 (S 56) (KB true) (S 64)),mv 66 65,(some (66,false),.faddr 67 (S 6) 0),(some (66,false),.load 68 (S 67) false 1),(some (66,false),.faddr 69 (S 6) 1),(some (66,false),.load 70 (S 69) false 1),(some (66,false),.bin 71 .eql (S 68) (S 70)),(none,.pick 72 (S 66) (KB true) (S 71)),mv 73 72,(some (73,false),.faddr 74 (S 6) 2),(some (73,false),.load 75 (S 74) false 1),(some (73,false),.call 76 82 [(S 75),(K 0),(K 3000)]),(some (73,false),.un 77 .not (S 76)),(none,.pick 78 (S 73) (KB true) (S 77)),mv 79 78,(some (79,false),.faddr 80 (S 6) 3),(some (79,false),.load 81 (S 80) false 1),(some (79,false),.call 82 82 [(S 81),(K 1),(K 240)]),(some (79,false),.un 83 .not (S 82)),(none,.pick 84 (S 79) (KB true) (S 83))]) (.cond (S 84) (.seq (.reg [(none,.mv 2 (KB false))]) .ret) .skip)) (.seq (.reg [fa 85 1 1,ld 86 85,mv 87 5,(none,.slc 88 5 (S 86) none (some (S 87)) none),(none,.len 89 (S 88)),(none,.mv 90 (K 0))]) (.block 4 (.loop cc140)))))) cc141)))
def cc143 : ACode := (.seq (.reg [(none,.mv 2 (KB true))]) .ret)
def cc144 : ACode := (.seq (.seq (.reg [fa 40 1 1,ld 41 40,(none,.len 42 (S 41)),(none,.mv 43 (K 0))]) (.block 2 (.loop cc142))) cc143)
def cc145 : ACode := (.seq (.reg [(none,.box 1 (S 0)),(none,.mv 2 (KB false))]) (.seq (.seq (.reg [fa 9 1 0,ld 10 9,(none,.len 11 (S 10)),(none,.bin 12 .gtr (S 11) (K 8)),mv 13 12,(some (13,false),.faddr 14 (S 1) 1),(some (13,false),.load 15 (S 14) false 1),(some (13,false),.len 16 (S 15)),(some (13,false),.bin 17 .gtr (S 16) (K 10)),(none,.pick 18 (S 13) (KB true) (S 17))]) (.cond (S 18) (.seq (.reg [(none,.mv 2 (KB false))]) .ret) .skip)) (.seq (.seq (.reg [fa 19 1 0,ld 20 19,(none,.len 21 (S 20)),(none,.mv 22 (K 0))]) (.block 0 (.loop cc139))) cc144)))
theorem ww146 (a0 : XChart) (v11 : Int) (x13 : XSegment) (y24 : List XSegment) (y25 : Int) (k_spec_ChartOk_2 : Int → Option Bool) (hk_spec_ChartOk_2 : ∀ (v11 : Int) zr,k_spec_ChartOk_2 v11 = some zr → ∀ σ : St,σ.kept [1,41,42,43] [1] [] = ⟨[(1,vc (.pb 1 0)),(41,vc (aL (List.map XSegment.row a0.Segments))),(42,vc (aI (a0.Segments.length : Int))),(43,vc (aI v11))],[(1,[aL (List.map XPoint.row a0.Points),aL (List.map XSegment.row a0.Segments)])],[]⟩ → go Tryz.prog (.code (.loop cc142) :: [.blk 2,.code cc143]) (Ret [2] [.sc (.v (.bool zr))]) .normal (some σ)) : ∀ (n : Nat) (v26 : Int) (r : Bool),f_spec_ChartOk_3 a0 v11 x13 y24 y25 k_spec_ChartOk_2 n v26 = some r → ∀ σ : St,σ.kept [1,6,41,42,43,88,89,90] [1,6] [] = ⟨[(1,vc (.pb 1 0)),(6,vc (.pb 6 0)),(41,vc (aL (List.map XSegment.row a0.Segments))),(42,vc (aI (a0.Segments.length : Int))),(43,vc (aI v11)),(88,vc (aL (List.map XSegment.row y24))),(89,vc (aI y25)),(90,vc (aI v26))],[(1,[aL (List.map XPoint.row a0.Points),aL (List.map XSegment.row a0.Segments)]),(6,[aI x13.A,aI x13.B,aI x13.Depth,aI x13.Minutes,aB x13.Meet])],[]⟩ → go Tryz.prog (.code (.loop cc140) :: [.blk 4,.blk 3,.code cc141,.code (.loop cc142),.blk 2,.code cc143]) (Ret [2] [.sc (.v (.bool r))]) .normal (some σ) := by
 intro n
 induction n with
 | zero => intro _ r h; cases h
 | succ n ih =>
  intro v26 r h σ hσ
  rw [f_spec_ChartOk_3] at h
  refine go_round ?_
  rcases Bool.eq_false_or_eq_true (decide (v26 < y25)) with hb27 | hb27
  ·rw [ite_t hb27] at h
   obtain ⟨x28,hx28,h⟩ := ob h
   try simp only [hσ,hb27,hx28,cc140,Nat.reduceBEq,reduceMul,reduceAdd,reduceDiv,Int.reduceBEq,RR]
   refine go_al rfl rfl ?_
   obtain ⟨r29,hr29,h⟩ := ob h
   try simp only [hb27,hx28,Nat.reduceBEq,reduceMul,reduceAdd,reduceDiv,Int.reduceBEq,RR]
   refine go_callI (w_spec_l05Joins _ _ _ _ hr29) rfl rfl (Nat.le_of_ble_eq_true rfl) ?_
   rcases Bool.eq_false_or_eq_true r29 with hb30 | hb30
   ·rw [ite_t hb30] at h
    try simp only [hb27,hx28,hb30,Nat.reduceBEq,reduceMul,reduceAdd,reduceDiv,Int.reduceBEq,RR]
    cases h
    exact ⟨⟨rfl,trivial⟩,rfl⟩
   ·rw [ite_f hb30] at h
    try simp only [hb27,hx28,hb30,Nat.reduceBEq,reduceMul,reduceAdd,reduceDiv,Int.reduceBEq,RR]
    refine ih _ _ h _ ?_
    try simp only [hb27,hx28,hb30,Nat.reduceBEq,reduceMul,reduceAdd,reduceDiv,Int.reduceBEq,RR,List.map_nil]
  ·rw [ite_f hb27] at h
   try simp only [hσ,hb27,cc140,cc141,Nat.reduceBEq,reduceMul,reduceAdd,reduceDiv,Int.reduceBEq,RR]
   refine hk_spec_ChartOk_2 _ _ h _ ?_
   try simp only [hb27,Nat.reduceBEq,reduceMul,reduceAdd,reduceDiv,Int.reduceBEq,RR,List.map_nil]
theorem ww147 (a0 : XChart) : ∀ (n : Nat) (v11 : Int) (r : Bool),f_spec_ChartOk_2 a0 n v11 = some r → ∀ σ : St,σ.kept [1,41,42,43] [1] [] = ⟨[(1,vc (.pb 1 0)),(41,vc (aL (List.map XSegment.row a0.Segments))),(42,vc (aI (a0.Segments.length : Int))),(43,vc (aI v11))],[(1,[aL (List.map XPoint.row a0.Points),aL (List.map XSegment.row a0.Segments)])],[]⟩ → go Tryz.prog (.code (.loop cc142) :: [.blk 2,.code cc143]) (Ret [2] [.sc (.v (.bool r))]) .normal (some σ) := by
 intro n
 induction n with
 | zero => intro _ r h; cases h
 | succ n ih =>
  intro v11 r h σ hσ
  rw [f_spec_ChartOk_2] at h
  refine go_round ?_
  rcases Bool.eq_false_or_eq_true (decide (v11 < (a0.Segments.length : Int))) with hb12 | hb12
  ·rw [ite_t hb12] at h
   obtain ⟨x13,hx13,h⟩ := ob h
   try simp only [hσ,hb12,hx13,cc142,Nat.reduceBEq,reduceMul,reduceAdd,reduceDiv,Int.reduceBEq,RR]
   refine go_al rfl rfl ?_
   obtain ⟨r14,hr14,h⟩ := ob h
   try simp only [hb12,hx13,Nat.reduceBEq,reduceMul,reduceAdd,reduceDiv,Int.reduceBEq,RR]
   refine go_callI (w_spec_l01In _ _ _ _ hr14) rfl rfl (Nat.le_of_ble_eq_true rfl) ?_
   rcases Bool.eq_false_or_eq_true r14 with hb15 | hb15
   ·rw [ite_t hb15] at h
    obtain ⟨r16,hr16,h⟩ := ob h
    try simp only [hb12,hx13,hb15,Nat.reduceBEq,reduceMul,reduceAdd,reduceDiv,Int.reduceBEq,RR]
    refine go_callI (w_spec_l01In _ _ _ _ hr16) rfl rfl (Nat.le_of_ble_eq_true rfl) ?_
    rcases Bool.eq_false_or_eq_true r16 with hb17 | hb17
    ·rw [ite_t hb17] at h
     rcases Bool.eq_false_or_eq_true (x13.A == x13.B) with hb18 | hb18
     ·rw [ite_t hb18] at h
      try simp only [hb12,hx13,hb15,hb17,hb18,Nat.reduceBEq,reduceMul,reduceAdd,reduceDiv,Int.reduceBEq,RR]
      cases h
      exact ⟨⟨rfl,trivial⟩,rfl⟩
     ·rw [ite_f hb18] at h
      obtain ⟨r19,hr19,h⟩ := ob h
      try simp only [hb12,hx13,hb15,hb17,hb18,Nat.reduceBEq,reduceMul,reduceAdd,reduceDiv,Int.reduceBEq,RR]
      refine go_callI (w_spec_l01In _ _ _ _ hr19) rfl rfl (Nat.le_of_ble_eq_true rfl) ?_
      rcases Bool.eq_false_or_eq_true r19 with hb20 | hb20
      ·rw [ite_t hb20] at h
       obtain ⟨r21,hr21,h⟩ := ob h
       try simp only [hb12,hx13,hb15,hb17,hb18,hb20,Nat.reduceBEq,reduceMul,reduceAdd,reduceDiv,Int.reduceBEq,RR]
       refine go_callI (w_spec_l01In _ _ _ _ hr21) rfl rfl (Nat.le_of_ble_eq_true rfl) ?_
       rcases Bool.eq_false_or_eq_true r21 with hb22 | hb22
       ·rw [ite_t hb22] at h
        obtain ⟨p23,hp23,h⟩ := ob h
        try simp only [hb12,hx13,hb15,hb17,hb18,hb20,hb22,hp23,Nat.reduceBEq,reduceMul,reduceAdd,reduceDiv,Int.reduceBEq,RR]
        refine ww146 _ _ _ _ _ (f_spec_ChartOk_2 a0 n) ih _ _ _ h _ ?_
        try simp only [hb12,hx13,hb15,hb17,hb18,hb20,hb22,hp23,Nat.reduceBEq,reduceMul,reduceAdd,reduceDiv,Int.reduceBEq,RR,List.map_nil]
       ·rw [ite_f hb22] at h
        try simp only [hb12,hx13,hb15,hb17,hb18,hb20,hb22,Nat.reduceBEq,reduceMul,reduceAdd,reduceDiv,Int.reduceBEq,RR]
        cases h
        exact ⟨⟨rfl,trivial⟩,rfl⟩
      ·rw [ite_f hb20] at h
       try simp only [hb12,hx13,hb15,hb17,hb18,hb20,Nat.reduceBEq,reduceMul,reduceAdd,reduceDiv,Int.reduceBEq,RR]
       cases h
       exact ⟨⟨rfl,trivial⟩,rfl⟩
    ·rw [ite_f hb17] at h
     try simp only [hb12,hx13,hb15,hb17,Nat.reduceBEq,reduceMul,reduceAdd,reduceDiv,Int.reduceBEq,RR]
     cases h
     exact ⟨⟨rfl,trivial⟩,rfl⟩
   ·rw [ite_f hb15] at h
    try simp only [hb12,hx13,hb15,Nat.reduceBEq,reduceMul,reduceAdd,reduceDiv,Int.reduceBEq,RR]
    cases h
    exact ⟨⟨rfl,trivial⟩,rfl⟩
  ·rw [ite_f hb12] at h
   try simp only [hσ,hb12,cc142,cc143,Nat.reduceBEq,reduceMul,reduceAdd,reduceDiv,Int.reduceBEq,RR]
   cases h
   exact ⟨⟨rfl,trivial⟩,rfl⟩
theorem ww148 (a0 : XChart) : ∀ (n : Nat) (v3 : Int) (r : Bool),f_spec_ChartOk_1 a0 n v3 = some r → ∀ σ : St,σ.kept [1,20,21,22] [1] [] = ⟨[(1,vc (.pb 1 0)),(20,vc (aL (List.map XPoint.row a0.Points))),(21,vc (aI (a0.Points.length : Int))),(22,vc (aI v3))],[(1,[aL (List.map XPoint.row a0.Points),aL (List.map XSegment.row a0.Segments)])],[]⟩ → go Tryz.prog (.code (.loop cc139) :: [.blk 0,.code cc144]) (Ret [2] [.sc (.v (.bool r))]) .normal (some σ) := by
 intro n
 induction n with
 | zero => intro _ r h; cases h
 | succ n ih =>
  intro v3 r h σ hσ
  rw [f_spec_ChartOk_1] at h
  refine go_round ?_
  rcases Bool.eq_false_or_eq_true (decide (v3 < (a0.Points.length : Int))) with hb4 | hb4
  ·rw [ite_t hb4] at h
   obtain ⟨x5,hx5,h⟩ := ob h
   try simp only [hσ,hb4,hx5,cc139,Nat.reduceBEq,reduceMul,reduceAdd,reduceDiv,Int.reduceBEq,RR]
   refine go_al rfl rfl ?_
   obtain ⟨r6,hr6,h⟩ := ob h
   try simp only [hb4,hx5,Nat.reduceBEq,reduceMul,reduceAdd,reduceDiv,Int.reduceBEq,RR]
   refine go_callI (w_spec_IsName _ _ hr6) rfl rfl (Nat.le_of_ble_eq_true rfl) ?_
   rcases Bool.eq_false_or_eq_true r6 with hb7 | hb7
   ·rw [ite_t hb7] at h
    obtain ⟨r9,hr9,h⟩ := ob h
    try simp only [hb4,hx5,hb7,Nat.reduceBEq,reduceMul,reduceAdd,reduceDiv,Int.reduceBEq,RR]
    refine go_callI (w_spec_PointNamed _ _ _ hr9) rfl rfl (Nat.le_of_ble_eq_true rfl) ?_
    rcases Bool.eq_false_or_eq_true (r9 != v3) with hb10 | hb10
    ·rw [ite_t hb10] at h
     try simp only [hb4,hx5,hb7,hb10,Nat.reduceBEq,reduceMul,reduceAdd,reduceDiv,Int.reduceBEq,RR]
     cases h
     exact ⟨⟨rfl,trivial⟩,rfl⟩
    ·rw [ite_f hb10] at h
     try simp only [hb4,hx5,hb7,hb10,Nat.reduceBEq,reduceMul,reduceAdd,reduceDiv,Int.reduceBEq,RR]
     refine ih _ _ h _ ?_
     try simp only [hb4,hx5,hb7,hb10,Nat.reduceBEq,reduceMul,reduceAdd,reduceDiv,Int.reduceBEq,RR,List.map_nil]
   ·rw [ite_f hb7] at h
    try simp only [hb4,hx5,hb7,Nat.reduceBEq,reduceMul,reduceAdd,reduceDiv,Int.reduceBEq,RR]
    cases h
    exact ⟨⟨rfl,trivial⟩,rfl⟩
  ·rw [ite_f hb4] at h
   try simp only [hσ,hb4,cc139,cc144,Nat.reduceBEq,reduceMul,reduceAdd,reduceDiv,Int.reduceBEq,RR]
   refine ww147 _ _ _ _ h _ ?_
   try simp only [hb4,Nat.reduceBEq,reduceMul,reduceAdd,reduceDiv,Int.reduceBEq,RR,List.map_nil]
theorem ee149 : entry Tryz.prog 47 = some (cc145.strip,[2],102) := by kernel_rfl
theorem w_spec_ChartOk (a0 : XChart) (r : Bool) (h : f_spec_ChartOk a0 = some r) : FC Tryz.prog 47 [.ag (XChart.row a0)] [.sc (.v (.bool r))] := by
 unfold f_spec_ChartOk at h
 refine FC_go (σ := ⟨[(0,va [aL (List.map XPoint.row a0.Points),aL (List.map XSegment.row a0.Segments)])],[],[]⟩) mixed ee149 rfl rfl ?_
 simp only [cc145]
 try simp only [Nat.reduceBEq,reduceMul,reduceAdd,reduceDiv,Int.reduceBEq,RR]
 refine go_bx rfl rfl rfl ?_
 rcases Bool.eq_false_or_eq_true (decide ((8 : Int) < (a0.Points.length : Int))) with hb1 | hb1
 ·rw [ite_t hb1] at h
  try simp only [hb1,Nat.reduceBEq,reduceMul,reduceAdd,reduceDiv,Int.reduceBEq,RR]
  cases h
  exact ⟨⟨rfl,trivial⟩,rfl⟩
 ·rw [ite_f hb1] at h
  rcases Bool.eq_false_or_eq_true (decide ((10 : Int) < (a0.Segments.length : Int))) with hb2 | hb2
  ·rw [ite_t hb2] at h
   try simp only [hb1,hb2,Nat.reduceBEq,reduceMul,reduceAdd,reduceDiv,Int.reduceBEq,RR]
   cases h
   exact ⟨⟨rfl,trivial⟩,rfl⟩
  ·rw [ite_f hb2] at h
   try simp only [hb1,hb2,Nat.reduceBEq,reduceMul,reduceAdd,reduceDiv,Int.reduceBEq,RR]
   refine ww148 _ _ _ _ h _ ?_
   try simp only [hb1,hb2,Nat.reduceBEq,reduceMul,reduceAdd,reduceDiv,Int.reduceBEq,RR,List.map_nil]
/- 87: spec_ShipOk -/
def cc150 : ACode := (.seq (.reg [(none,.box 1 (S 0)),(none,.mv 2 (KB false))]) (.seq (.reg [fa 3 1 0,ld 4 3,(none,.call 5 84 [(S 4)]),mv 6 5,(some (6,true),.faddr 7 (S 1) 1),(some (6,true),.load 8 (S 7) false 1),(some (6,true),.call 9 82 [(S 8),(K 10),(K 400)]),(none,.pick 10 (S 6) (S 9) (KB false)),mv 11 10,(some (11,true),.faddr 12 (S 1) 2),(some (11,true),.load 13 (S 12) false 1),(some (11,true),.call 14 82 [(S 13),(K 100),(K 2000)]),(none,.pick 15 (S 11) (S 14) (KB false)),mv 16 15,(some (16,true),.faddr 17 (S 1) 3),(some (16,true),.load 18 (S 17) false 1),(some (16,true),.call 19 82 [(S 18),(K 0),(K 3)]),(none,.pick 20 (S 16) (S 19) (KB false)),mv 21 20,(some (21,true),.faddr 22 (S 1) 4),(some (21,true),.load 23 (S 22) false 1),(some (21,true),.call 24 82 [(S 23),(K 0),(K 4)]),(none,.pick 25 (S 21) (S 24) (KB false)),mv 2 25]) .ret))
theorem ee151 : entry Tryz.prog 87 = some (cc150.strip,[2],26) := by kernel_rfl
theorem w_spec_ShipOk (a0 : XShip) (r : Bool) (h : f_spec_ShipOk a0 = some r) : FC Tryz.prog 87 [.ag (XShip.row a0)] [.sc (.v (.bool r))] := by
 unfold f_spec_ShipOk at h
 refine FC_go (σ := ⟨[(0,va [aS a0.Name,aI a0.Length,aI a0.Draught,aI a0.Line,aI a0.Tugs,aB a0.Slow])],[],[]⟩) mixed ee151 rfl rfl ?_
 simp only [cc150]
 try simp only [Nat.reduceBEq,reduceMul,reduceAdd,reduceDiv,Int.reduceBEq,RR]
 refine go_bx rfl rfl rfl ?_
 obtain ⟨r1,hr1,h⟩ := ob h
 try simp only [Nat.reduceBEq,reduceMul,reduceAdd,reduceDiv,Int.reduceBEq,RR]
 refine go_callI (w_spec_IsName _ _ hr1) rfl rfl (Nat.le_of_ble_eq_true rfl) ?_
 rcases Bool.eq_false_or_eq_true r1 with hb2 | hb2
 ·rw [ite_t hb2] at h
  obtain ⟨r3,hr3,h⟩ := ob h
  try simp only [hb2,Nat.reduceBEq,reduceMul,reduceAdd,reduceDiv,Int.reduceBEq,RR]
  refine go_callI (w_spec_l01In _ _ _ _ hr3) rfl rfl (Nat.le_of_ble_eq_true rfl) ?_
  rcases Bool.eq_false_or_eq_true r3 with hb4 | hb4
  ·rw [ite_t hb4] at h
   obtain ⟨r5,hr5,h⟩ := ob h
   try simp only [hb2,hb4,Nat.reduceBEq,reduceMul,reduceAdd,reduceDiv,Int.reduceBEq,RR]
   refine go_callI (w_spec_l01In _ _ _ _ hr5) rfl rfl (Nat.le_of_ble_eq_true rfl) ?_
   rcases Bool.eq_false_or_eq_true r5 with hb6 | hb6
   ·rw [ite_t hb6] at h
    obtain ⟨r7,hr7,h⟩ := ob h
    try simp only [hb2,hb4,hb6,Nat.reduceBEq,reduceMul,reduceAdd,reduceDiv,Int.reduceBEq,RR]
    refine go_callI (w_spec_l01In _ _ _ _ hr7) rfl rfl (Nat.le_of_ble_eq_true rfl) ?_
    rcases Bool.eq_false_or_eq_true r7 with hb8 | hb8
    ·rw [ite_t hb8] at h
     obtain ⟨r9,hr9,h⟩ := ob h
     try simp only [hb2,hb4,hb6,hb8,Nat.reduceBEq,reduceMul,reduceAdd,reduceDiv,Int.reduceBEq,RR]
     refine go_callI (w_spec_l01In _ _ _ _ hr9) rfl rfl (Nat.le_of_ble_eq_true rfl) ?_
     try simp only [hb2,hb4,hb6,hb8,Nat.reduceBEq,reduceMul,reduceAdd,reduceDiv,Int.reduceBEq,RR]
     cases h
     exact ⟨⟨rfl,trivial⟩,rfl⟩
    ·rw [ite_f hb8] at h
     try simp only [hb2,hb4,hb6,hb8,Nat.reduceBEq,reduceMul,reduceAdd,reduceDiv,Int.reduceBEq,RR]
     cases h
     exact ⟨⟨rfl,trivial⟩,rfl⟩
   ·rw [ite_f hb6] at h
    try simp only [hb2,hb4,hb6,Nat.reduceBEq,reduceMul,reduceAdd,reduceDiv,Int.reduceBEq,RR]
    cases h
    exact ⟨⟨rfl,trivial⟩,rfl⟩
  ·rw [ite_f hb4] at h
   try simp only [hb2,hb4,Nat.reduceBEq,reduceMul,reduceAdd,reduceDiv,Int.reduceBEq,RR]
   cases h
   exact ⟨⟨rfl,trivial⟩,rfl⟩
 ·rw [ite_f hb2] at h
  try simp only [hb2,Nat.reduceBEq,reduceMul,reduceAdd,reduceDiv,Int.reduceBEq,RR]
  cases h
  exact ⟨⟨rfl,trivial⟩,rfl⟩
/- 88: spec_ShipNamed -/
def cc152 : ACode := .seq (.reg [(none,.keep [1,7,8,9] [] [])]) (.seq (.reg [bn 10 .lss 9 8]) (.seq (.cond (S 10) .skip (.exit 0)) (.seq (.block 1 (.seq (.reg [mv 11 9,(none,.iaddr 12 (S 7) (S 9) 6),(none,.load 13 (S 12) true 6),(none,.alloc 6 [aS [],aI 0,aI 0,aI 0,aI 0,aB false]),mv 5 11,(none,.store (S 6) (S 13) 6)]) (.seq (.reg [fa 14 6 0,ld 15 14,mv 16 1,bn 17 .eql 15 16]) (.cond (S 17) (.seq (.reg [mv 18 5,mv 4 18]) .ret) .skip)))) (.reg [(none,.bin 19 .add (S 9) (K 1)),mv 9 19]))))
def cc153 : ACode := (.seq (.reg [(none,.mv 4 (K (-1)))]) .ret)
def cc154 : ACode := (.seq (.reg [(none,.mv 4 (K 0))]) (.seq (.seq (.reg [mv 7 0,(none,.len 8 (S 7)),(none,.mv 9 (K 0))]) (.block 0 (.loop cc152))) cc153))
theorem ww155 (a1 : List UInt8) (a0 : List XShip) : ∀ (n : Nat) (v1 : Int) (r : Int),f_spec_ShipNamed_1 a1 a0 n v1 = some r → ∀ σ : St,σ.kept [1,7,8,9] [] [] = ⟨[(1,vc (aS a1)),(7,vc (aL (List.map XShip.row a0))),(8,vc (aI (a0.length : Int))),(9,vc (aI v1))],[],[]⟩ → go Tryz.prog (.code (.loop cc152) :: [.blk 0,.code cc153]) (Ret [4] [.sc (.v (.int .i64 r))]) .normal (some σ) := by
 intro n
 induction n with
 | zero => intro _ r h; cases h
 | succ n ih =>
  intro v1 r h σ hσ
  rw [f_spec_ShipNamed_1] at h
  refine go_round ?_
  rcases Bool.eq_false_or_eq_true (decide (v1 < (a0.length : Int))) with hb2 | hb2
  ·rw [ite_t hb2] at h
   obtain ⟨x3,hx3,h⟩ := ob h
   try simp only [hσ,hb2,hx3,cc152,Nat.reduceBEq,reduceMul,reduceAdd,reduceDiv,Int.reduceBEq,RR]
   refine go_al rfl rfl ?_
   rcases Bool.eq_false_or_eq_true (x3.Name == a1) with hb4 | hb4
   ·rw [ite_t hb4] at h
    try simp only [hb2,hx3,hb4,Nat.reduceBEq,reduceMul,reduceAdd,reduceDiv,Int.reduceBEq,RR]
    cases h
    exact ⟨⟨rfl,trivial⟩,rfl⟩
   ·rw [ite_f hb4] at h
    try simp only [hb2,hx3,hb4,Nat.reduceBEq,reduceMul,reduceAdd,reduceDiv,Int.reduceBEq,RR]
    refine ih _ _ h _ ?_
    try simp only [hb2,hx3,hb4,Nat.reduceBEq,reduceMul,reduceAdd,reduceDiv,Int.reduceBEq,RR,List.map_nil]
  ·rw [ite_f hb2] at h
   try simp only [hσ,hb2,cc152,cc153,Nat.reduceBEq,reduceMul,reduceAdd,reduceDiv,Int.reduceBEq,RR]
   cases h
   exact ⟨⟨rfl,trivial⟩,rfl⟩
theorem ee156 : entry Tryz.prog 88 = some (cc154.strip,[4],20) := by kernel_rfl
theorem w_spec_ShipNamed (a0 : List XShip) (a1 : List UInt8) (r : Int) (h : f_spec_ShipNamed a0 a1 = some r) : FC Tryz.prog 88 [.sc (.sl (List.map XShip.row a0)),.sc (.str a1)] [.sc (.v (.int .i64 r))] := by
 unfold f_spec_ShipNamed at h
 refine FC_go (σ := ⟨[(0,vc (aL (List.map XShip.row a0))),(1,vc (aS a1))],[],[]⟩) mixed ee156 rfl rfl ?_
 simp only [cc154]
 try simp only [Nat.reduceBEq,reduceMul,reduceAdd,reduceDiv,Int.reduceBEq,RR]
 refine ww155 _ _ _ _ _ h _ ?_
 try simp only [Nat.reduceBEq,reduceMul,reduceAdd,reduceDiv,Int.reduceBEq,RR,List.map_nil]
/- 48: spec_FleetOk -/
def cc157 : ACode := .seq (.reg [(none,.keep [0,8,9,10] [] [])]) (.seq (.reg [bn 11 .lss 10 9]) (.seq (.cond (S 11) .skip (.exit 0)) (.seq (.block 1 (.seq (.reg [mv 12 10,(none,.iaddr 13 (S 8) (S 10) 6),(none,.load 14 (S 13) true 6),(none,.alloc 4 [aS [],aI 0,aI 0,aI 0,aI 0,aB false]),mv 3 12,(none,.store (S 4) (S 14) 6)]) (.seq (.reg [(none,.load 15 (S 4) true 6),(none,.call 16 87 [(S 15)]),(none,.un 17 .not (S 16)),mv 18 17,(some (18,false),.mv 19 (S 0)),(some (18,false),.faddr 20 (S 4) 0),(some (18,false),.load 21 (S 20) false 1),(some (18,false),.call 22 88 [(S 19),(S 21)]),(some (18,false),.mv 23 (S 3)),(some (18,false),.bin 24 .neq (S 22) (S 23)),(none,.pick 25 (S 18) (KB true) (S 24))]) (.cond (S 25) (.seq (.reg [(none,.mv 2 (KB false))]) .ret) .skip)))) (.reg [(none,.bin 26 .add (S 10) (K 1)),mv 10 26]))))
def cc158 : ACode := (.seq (.reg [(none,.mv 2 (KB true))]) .ret)
def cc159 : ACode := (.seq (.reg [(none,.mv 2 (KB false))]) (.seq (.seq (.reg [mv 5 0,(none,.len 6 (S 5)),(none,.bin 7 .gtr (S 6) (K 6))]) (.cond (S 7) (.seq (.reg [(none,.mv 2 (KB false))]) .ret) .skip)) (.seq (.seq (.reg [mv 8 0,(none,.len 9 (S 8)),(none,.mv 10 (K 0))]) (.block 0 (.loop cc157))) cc158)))
theorem ww160 (a0 : List XShip) : ∀ (n : Nat) (v2 : Int) (r : Bool),f_spec_FleetOk_1 a0 n v2 = some r → ∀ σ : St,σ.kept [0,8,9,10] [] [] = ⟨[(0,vc (aL (List.map XShip.row a0))),(8,vc (aL (List.map XShip.row a0))),(9,vc (aI (a0.length : Int))),(10,vc (aI v2))],[],[]⟩ → go Tryz.prog (.code (.loop cc157) :: [.blk 0,.code cc158]) (Ret [2] [.sc (.v (.bool r))]) .normal (some σ) := by
 intro n
 induction n with
 | zero => intro _ r h; cases h
 | succ n ih =>
  intro v2 r h σ hσ
  rw [f_spec_FleetOk_1] at h
  refine go_round ?_
  rcases Bool.eq_false_or_eq_true (decide (v2 < (a0.length : Int))) with hb3 | hb3
  ·rw [ite_t hb3] at h
   obtain ⟨x4,hx4,h⟩ := ob h
   try simp only [hσ,hb3,hx4,cc157,Nat.reduceBEq,reduceMul,reduceAdd,reduceDiv,Int.reduceBEq,RR]
   refine go_al rfl rfl ?_
   obtain ⟨r5,hr5,h⟩ := ob h
   try simp only [hb3,hx4,Nat.reduceBEq,reduceMul,reduceAdd,reduceDiv,Int.reduceBEq,RR]
   refine go_callI (w_spec_ShipOk _ _ hr5) rfl rfl (Nat.le_of_ble_eq_true rfl) ?_
   rcases Bool.eq_false_or_eq_true r5 with hb6 | hb6
   ·rw [ite_t hb6] at h
    obtain ⟨r7,hr7,h⟩ := ob h
    try simp only [hb3,hx4,hb6,Nat.reduceBEq,reduceMul,reduceAdd,reduceDiv,Int.reduceBEq,RR]
    refine go_callI (w_spec_ShipNamed _ _ _ hr7) rfl rfl (Nat.le_of_ble_eq_true rfl) ?_
    rcases Bool.eq_false_or_eq_true (r7 != v2) with hb8 | hb8
    ·rw [ite_t hb8] at h
     try simp only [hb3,hx4,hb6,hb8,Nat.reduceBEq,reduceMul,reduceAdd,reduceDiv,Int.reduceBEq,RR]
     cases h
     exact ⟨⟨rfl,trivial⟩,rfl⟩
    ·rw [ite_f hb8] at h
     try simp only [hb3,hx4,hb6,hb8,Nat.reduceBEq,reduceMul,reduceAdd,reduceDiv,Int.reduceBEq,RR]
     refine ih _ _ h _ ?_
     try simp only [hb3,hx4,hb6,hb8,Nat.reduceBEq,reduceMul,reduceAdd,reduceDiv,Int.reduceBEq,RR,List.map_nil]
   ·rw [ite_f hb6] at h
    try simp only [hb3,hx4,hb6,Nat.reduceBEq,reduceMul,reduceAdd,reduceDiv,Int.reduceBEq,RR]
    cases h
    exact ⟨⟨rfl,trivial⟩,rfl⟩
  ·rw [ite_f hb3] at h
   try simp only [hσ,hb3,cc157,cc158,Nat.reduceBEq,reduceMul,reduceAdd,reduceDiv,Int.reduceBEq,RR]
   cases h
   exact ⟨⟨rfl,trivial⟩,rfl⟩
theorem ee161 : entry Tryz.prog 48 = some (cc159.strip,[2],27) := by kernel_rfl
theorem w_spec_FleetOk (a0 : List XShip) (r : Bool) (h : f_spec_FleetOk a0 = some r) : FC Tryz.prog 48 [.sc (.sl (List.map XShip.row a0))] [.sc (.v (.bool r))] := by
 unfold f_spec_FleetOk at h
 refine FC_go (σ := ⟨[(0,vc (aL (List.map XShip.row a0)))],[],[]⟩) mixed ee161 rfl rfl ?_
 simp only [cc159]
 rcases Bool.eq_false_or_eq_true (decide ((6 : Int) < (a0.length : Int))) with hb1 | hb1
 ·rw [ite_t hb1] at h
  try simp only [hb1,Nat.reduceBEq,reduceMul,reduceAdd,reduceDiv,Int.reduceBEq,RR]
  cases h
  exact ⟨⟨rfl,trivial⟩,rfl⟩
 ·rw [ite_f hb1] at h
  try simp only [hb1,Nat.reduceBEq,reduceMul,reduceAdd,reduceDiv,Int.reduceBEq,RR]
  refine ww160 _ _ _ _ h _ ?_
  try simp only [hb1,Nat.reduceBEq,reduceMul,reduceAdd,reduceDiv,Int.reduceBEq,RR,List.map_nil]
/- 49: spec_RegimeOk -/
def cc162 : ACode := (.seq (.reg [(none,.box 1 (S 0)),(none,.mv 2 (KB false))]) (.seq (.reg [fa 3 1 0,ld 4 3,(none,.call 5 82 [(S 4),(K 0),(K 60)]),mv 2 5]) .ret))
theorem ee163 : entry Tryz.prog 49 = some (cc162.strip,[2],6) := by kernel_rfl
theorem w_spec_RegimeOk (a0 : XRegime) (r : Bool) (h : f_spec_RegimeOk a0 = some r) : FC Tryz.prog 49 [.ag (XRegime.row a0)] [.sc (.v (.bool r))] := by
 unfold f_spec_RegimeOk at h
 refine FC_go (σ := ⟨[(0,va [aI a0.Gap,aB a0.NoMeet])],[],[]⟩) mixed ee163 rfl rfl ?_
 simp only [cc162]
 try simp only [Nat.reduceBEq,reduceMul,reduceAdd,reduceDiv,Int.reduceBEq,RR]
 refine go_bx rfl rfl rfl ?_
 obtain ⟨r1,hr1,h⟩ := ob h
 try simp only [Nat.reduceBEq,reduceMul,reduceAdd,reduceDiv,Int.reduceBEq,RR]
 refine go_callI (w_spec_l01In _ _ _ _ hr1) rfl rfl (Nat.le_of_ble_eq_true rfl) ?_
 try simp only [Nat.reduceBEq,reduceMul,reduceAdd,reduceDiv,Int.reduceBEq,RR]
 cases h
 exact ⟨⟨rfl,trivial⟩,rfl⟩
/- 89: spec_l13Table -/
def cc164 : ACode := .seq (.reg [(none,.keep [15,16,17] [] [])]) (.seq (.reg [bn 18 .lss 17 16]) (.seq (.cond (S 18) .skip (.exit 0)) (.seq (.block 1 (.seq (.reg [(none,.iaddr 19 (S 15) (S 17) 1),ld 20 19,mv 6 20]) (.seq (.reg [mv 21 6,(none,.call 22 82 [(S 21),(K 0),(K 240)]),(none,.un 23 .not (S 22))]) (.cond (S 23) (.seq (.reg [(none,.mv 4 (KB false))]) .ret) .skip)))) (.reg [(none,.bin 24 .add (S 17) (K 1)),mv 17 24]))))
def cc165 : ACode := (.seq (.reg [(none,.mv 4 (KB true))]) .ret)
def cc166 : ACode := (.seq (.reg [(none,.mv 4 (KB false))]) (.seq (.seq (.reg [mv 7 0,(none,.call 8 82 [(S 7),(K 0),(K 2880)]),(none,.un 9 .not (S 8)),mv 10 9,(some (10,false),.mv 11 (S 1)),(some (10,false),.len 12 (S 11)),(some (10,false),.bin 13 .neq (S 12) (K 64)),(none,.pick 14 (S 10) (KB true) (S 13))]) (.cond (S 14) (.seq (.reg [(none,.mv 4 (KB false))]) .ret) .skip)) (.seq (.seq (.reg [mv 15 1,(none,.len 16 (S 15)),(none,.mv 17 (K 0))]) (.block 0 (.loop cc164))) cc165)))
theorem ww167 (a1 : List Int) : ∀ (n : Nat) (v4 : Int) (r : Bool),f_spec_l13Table_1 a1 n v4 = some r → ∀ σ : St,σ.kept [15,16,17] [] [] = ⟨[(15,vc (aL (List.map rI a1))),(16,vc (aI (a1.length : Int))),(17,vc (aI v4))],[],[]⟩ → go Tryz.prog (.code (.loop cc164) :: [.blk 0,.code cc165]) (Ret [4] [.sc (.v (.bool r))]) .normal (some σ) := by
 intro n
 induction n with
 | zero => intro _ r h; cases h
 | succ n ih =>
  intro v4 r h σ hσ
  rw [f_spec_l13Table_1] at h
  refine go_round ?_
  rcases Bool.eq_false_or_eq_true (decide (v4 < (a1.length : Int))) with hb5 | hb5
  ·rw [ite_t hb5] at h
   obtain ⟨x6,hx6,h⟩ := ob h
   obtain ⟨r7,hr7,h⟩ := ob h
   try simp only [hσ,hb5,hx6,cc164,Nat.reduceBEq,reduceMul,reduceAdd,reduceDiv,Int.reduceBEq,RR]
   refine go_callI (w_spec_l01In _ _ _ _ hr7) rfl rfl (Nat.le_of_ble_eq_true rfl) ?_
   rcases Bool.eq_false_or_eq_true r7 with hb8 | hb8
   ·rw [ite_t hb8] at h
    try simp only [hb5,hx6,hb8,Nat.reduceBEq,reduceMul,reduceAdd,reduceDiv,Int.reduceBEq,RR]
    refine ih _ _ h _ ?_
    try simp only [hb5,hx6,hb8,Nat.reduceBEq,reduceMul,reduceAdd,reduceDiv,Int.reduceBEq,RR,List.map_nil]
   ·rw [ite_f hb8] at h
    try simp only [hb5,hx6,hb8,Nat.reduceBEq,reduceMul,reduceAdd,reduceDiv,Int.reduceBEq,RR]
    cases h
    exact ⟨⟨rfl,trivial⟩,rfl⟩
  ·rw [ite_f hb5] at h
   try simp only [hσ,hb5,cc164,cc165,Nat.reduceBEq,reduceMul,reduceAdd,reduceDiv,Int.reduceBEq,RR]
   cases h
   exact ⟨⟨rfl,trivial⟩,rfl⟩
theorem ee168 : entry Tryz.prog 89 = some (cc166.strip,[4],25) := by kernel_rfl
theorem w_spec_l13Table (a0 : Int) (a1 : List Int) (r : Bool) (h : f_spec_l13Table a0 a1 = some r) : FC Tryz.prog 89 [.sc (.int .i64 a0),.sc (.sl (List.map rI a1))] [.sc (.v (.bool r))] := by
 unfold f_spec_l13Table at h
 refine FC_go (σ := ⟨[(0,vc (aI a0)),(1,vc (aL (List.map rI a1)))],[],[]⟩) mixed ee168 rfl rfl ?_
 simp only [cc166]
 obtain ⟨r1,hr1,h⟩ := ob h
 try simp only [Nat.reduceBEq,reduceMul,reduceAdd,reduceDiv,Int.reduceBEq,RR]
 refine go_callI (w_spec_l01In _ _ _ _ hr1) rfl rfl (Nat.le_of_ble_eq_true rfl) ?_
 rcases Bool.eq_false_or_eq_true r1 with hb2 | hb2
 ·rw [ite_t hb2] at h
  rcases Bool.eq_false_or_eq_true ((a1.length : Int) != (64 : Int)) with hb3 | hb3
  ·rw [ite_t hb3] at h
   try simp only [hb2,hb3,Nat.reduceBEq,reduceMul,reduceAdd,reduceDiv,Int.reduceBEq,RR]
   cases h
   exact ⟨⟨rfl,trivial⟩,rfl⟩
  ·rw [ite_f hb3] at h
   try simp only [hb2,hb3,Nat.reduceBEq,reduceMul,reduceAdd,reduceDiv,Int.reduceBEq,RR]
   refine ww167 _ _ _ _ h _ ?_
   try simp only [hb2,hb3,Nat.reduceBEq,reduceMul,reduceAdd,reduceDiv,Int.reduceBEq,RR,List.map_nil]
 ·rw [ite_f hb2] at h
  try simp only [hb2,Nat.reduceBEq,reduceMul,reduceAdd,reduceDiv,Int.reduceBEq,RR]
  cases h
  exact ⟨⟨rfl,trivial⟩,rfl⟩
/- 50: spec_CrewOk -/
def cc169 : ACode := (.seq (.reg [(none,.box 1 (S 0)),(none,.mv 2 (KB false))]) (.seq (.reg [fa 3 1 0,ld 4 3,(none,.call 5 82 [(S 4),(K 0),(K 12)]),mv 6 5,(some (6,true),.faddr 7 (S 1) 1),(some (6,true),.load 8 (S 7) false 1),(some (6,true),.call 9 82 [(S 8),(K 0),(K 12)]),(none,.pick 10 (S 6) (S 9) (KB false)),mv 11 10,(some (11,true),.faddr 12 (S 1) 2),(some (11,true),.load 13 (S 12) false 1),(some (11,true),.faddr 14 (S 1) 3),(some (11,true),.load 15 (S 14) false 1),(some (11,true),.call 16 89 [(S 13),(S 15)]),(none,.pick 17 (S 11) (S 16) (KB false)),mv 2 17]) .ret))
theorem ee170 : entry Tryz.prog 50 = some (cc169.strip,[2],18) := by kernel_rfl
theorem w_spec_CrewOk (a0 : XCrew) (r : Bool) (h : f_spec_CrewOk a0 = some r) : FC Tryz.prog 50 [.ag (XCrew.row a0)] [.sc (.v (.bool r))] := by
 unfold f_spec_CrewOk at h
 refine FC_go (σ := ⟨[(0,va [aI a0.Tugs,aI a0.Pilots,aI a0.Rest,aL (List.map rI a0.Moves)])],[],[]⟩) mixed ee170 rfl rfl ?_
 simp only [cc169]
 try simp only [Nat.reduceBEq,reduceMul,reduceAdd,reduceDiv,Int.reduceBEq,RR]
 refine go_bx rfl rfl rfl ?_
 obtain ⟨r1,hr1,h⟩ := ob h
 try simp only [Nat.reduceBEq,reduceMul,reduceAdd,reduceDiv,Int.reduceBEq,RR]
 refine go_callI (w_spec_l01In _ _ _ _ hr1) rfl rfl (Nat.le_of_ble_eq_true rfl) ?_
 rcases Bool.eq_false_or_eq_true r1 with hb2 | hb2
 ·rw [ite_t hb2] at h
  obtain ⟨r3,hr3,h⟩ := ob h
  try simp only [hb2,Nat.reduceBEq,reduceMul,reduceAdd,reduceDiv,Int.reduceBEq,RR]
  refine go_callI (w_spec_l01In _ _ _ _ hr3) rfl rfl (Nat.le_of_ble_eq_true rfl) ?_
  rcases Bool.eq_false_or_eq_true r3 with hb4 | hb4
  ·rw [ite_t hb4] at h
   obtain ⟨r5,hr5,h⟩ := ob h
   try simp only [hb2,hb4,Nat.reduceBEq,reduceMul,reduceAdd,reduceDiv,Int.reduceBEq,RR]
   refine go_callI (w_spec_l13Table _ _ _ hr5) rfl rfl (Nat.le_of_ble_eq_true rfl) ?_
   try simp only [hb2,hb4,Nat.reduceBEq,reduceMul,reduceAdd,reduceDiv,Int.reduceBEq,RR]
   cases h
   exact ⟨⟨rfl,trivial⟩,rfl⟩
  ·rw [ite_f hb4] at h
   try simp only [hb2,hb4,Nat.reduceBEq,reduceMul,reduceAdd,reduceDiv,Int.reduceBEq,RR]
   cases h
   exact ⟨⟨rfl,trivial⟩,rfl⟩
 ·rw [ite_f hb2] at h
  try simp only [hb2,Nat.reduceBEq,reduceMul,reduceAdd,reduceDiv,Int.reduceBEq,RR]
  cases h
  exact ⟨⟨rfl,trivial⟩,rfl⟩
/- 17: spec_HarbourOk -/
def cc171 : ACode := (.seq (.reg [(none,.box 1 (S 0)),(none,.mv 2 (KB false))]) (.seq (.reg [fa 3 1 0,(none,.load 4 (S 3) true 3),(none,.call 5 46 [(S 4)]),mv 6 5,(some (6,true),.faddr 7 (S 1) 3),(some (6,true),.load 8 (S 7) true 2),(some (6,true),.call 9 47 [(S 8)]),(none,.pick 10 (S 6) (S 9) (KB false)),mv 11 10,(some (11,true),.faddr 12 (S 1) 5),(some (11,true),.load 13 (S 12) false 1),(some (11,true),.call 14 48 [(S 13)]),(none,.pick 15 (S 11) (S 14) (KB false)),mv 16 15,(some (16,true),.faddr 17 (S 1) 6),(some (16,true),.load 18 (S 17) true 2),(some (16,true),.call 19 49 [(S 18)]),(none,.pick 20 (S 16) (S 19) (KB false)),mv 21 20,(some (21,true),.faddr 22 (S 1) 8),(some (21,true),.load 23 (S 22) true 4),(some (21,true),.call 24 50 [(S 23)]),(none,.pick 25 (S 21) (S 24) (KB false)),mv 2 25]) .ret))
theorem ee172 : entry Tryz.prog 17 = some (cc171.strip,[2],26) := by kernel_rfl
theorem w_spec_HarbourOk (a0 : XHarbour) (r : Bool) (h : f_spec_HarbourOk a0 = some r) : FC Tryz.prog 17 [.ag (XHarbour.row a0)] [.sc (.v (.bool r))] := by
 unfold f_spec_HarbourOk at h
 refine FC_go (σ := ⟨[(0,va [aI a0.Forecast.Tide.Mean,aL (List.map XPart.row a0.Forecast.Tide.Parts),aL (List.map XSurge.row a0.Forecast.Surges),aL (List.map XPoint.row a0.Chart.Points),aL (List.map XSegment.row a0.Chart.Segments),aL (List.map XShip.row a0.Fleet),aI a0.Regime.Gap,aB a0.Regime.NoMeet,aI a0.Crew.Tugs,aI a0.Crew.Pilots,aI a0.Crew.Rest,aL (List.map rI a0.Crew.Moves)])],[],[]⟩) mixed ee172 rfl rfl ?_
 simp only [cc171]
 try simp only [Nat.reduceBEq,reduceMul,reduceAdd,reduceDiv,Int.reduceBEq,RR]
 refine go_bx rfl rfl rfl ?_
 obtain ⟨r1,hr1,h⟩ := ob h
 try simp only [Nat.reduceBEq,reduceMul,reduceAdd,reduceDiv,Int.reduceBEq,RR]
 refine go_callI (w_spec_ForecastOk _ _ hr1) rfl rfl (Nat.le_of_ble_eq_true rfl) ?_
 rcases Bool.eq_false_or_eq_true r1 with hb2 | hb2
 ·rw [ite_t hb2] at h
  obtain ⟨r3,hr3,h⟩ := ob h
  try simp only [hb2,Nat.reduceBEq,reduceMul,reduceAdd,reduceDiv,Int.reduceBEq,RR]
  refine go_callI (w_spec_ChartOk _ _ hr3) rfl rfl (Nat.le_of_ble_eq_true rfl) ?_
  rcases Bool.eq_false_or_eq_true r3 with hb4 | hb4
  ·rw [ite_t hb4] at h
   obtain ⟨r5,hr5,h⟩ := ob h
   try simp only [hb2,hb4,Nat.reduceBEq,reduceMul,reduceAdd,reduceDiv,Int.reduceBEq,RR]
   refine go_callI (w_spec_FleetOk _ _ hr5) rfl rfl (Nat.le_of_ble_eq_true rfl) ?_
   rcases Bool.eq_false_or_eq_true r5 with hb6 | hb6
   ·rw [ite_t hb6] at h
    obtain ⟨r7,hr7,h⟩ := ob h
    try simp only [hb2,hb4,hb6,Nat.reduceBEq,reduceMul,reduceAdd,reduceDiv,Int.reduceBEq,RR]
    refine go_callI (w_spec_RegimeOk _ _ hr7) rfl rfl (Nat.le_of_ble_eq_true rfl) ?_
    rcases Bool.eq_false_or_eq_true r7 with hb8 | hb8
    ·rw [ite_t hb8] at h
     obtain ⟨r9,hr9,h⟩ := ob h
     try simp only [hb2,hb4,hb6,hb8,Nat.reduceBEq,reduceMul,reduceAdd,reduceDiv,Int.reduceBEq,RR]
     refine go_callI (w_spec_CrewOk _ _ hr9) rfl rfl (Nat.le_of_ble_eq_true rfl) ?_
     try simp only [hb2,hb4,hb6,hb8,Nat.reduceBEq,reduceMul,reduceAdd,reduceDiv,Int.reduceBEq,RR]
     cases h
     exact ⟨⟨rfl,trivial⟩,rfl⟩
    ·rw [ite_f hb8] at h
     try simp only [hb2,hb4,hb6,hb8,Nat.reduceBEq,reduceMul,reduceAdd,reduceDiv,Int.reduceBEq,RR]
     cases h
     exact ⟨⟨rfl,trivial⟩,rfl⟩
   ·rw [ite_f hb6] at h
    try simp only [hb2,hb4,hb6,Nat.reduceBEq,reduceMul,reduceAdd,reduceDiv,Int.reduceBEq,RR]
    cases h
    exact ⟨⟨rfl,trivial⟩,rfl⟩
  ·rw [ite_f hb4] at h
   try simp only [hb2,hb4,Nat.reduceBEq,reduceMul,reduceAdd,reduceDiv,Int.reduceBEq,RR]
   cases h
   exact ⟨⟨rfl,trivial⟩,rfl⟩
 ·rw [ite_f hb2] at h
  try simp only [hb2,Nat.reduceBEq,reduceMul,reduceAdd,reduceDiv,Int.reduceBEq,RR]
  cases h
  exact ⟨⟨rfl,trivial⟩,rfl⟩
/- 18: spec_ChainsOf -/
def cc173 : ACode := .seq (.reg [(none,.keep [3,7,8,9] [] [384])]) (.seq (.reg [bn 10 .lss 9 8]) (.seq (.cond (S 10) .skip (.exit 0)) (.seq (.block 1 (.seq (.reg [(none,.iaddr 11 (S 7) (S 9) 4),(none,.load 12 (S 11) true 4),(none,.alloc 5 [aI 0,aI 0,aI 0,.nil]),(none,.store (S 5) (S 12) 4)]) (.reg [mv 13 3,(none,.bslice 14 5 [.int .i64 0,.int .i64 0,.bool false,.int .i64 0,.int .i64 0] 0 []),fa 15 5 3,ld 16 15,(none,.app 17 5 40 (S 14) (S 16)),(none,.frz 896),(none,.bslice 18 1 [.sl []] 1 [(0,(S 17))]),(none,.app 19 1 24 (S 13) (S 18)),mv 3 19]))) (.reg [(none,.bin 20 .add (S 9) (K 1)),mv 9 20]))))
def cc174 : ACode := (.seq (.reg [mv 21 3,mv 2 21]) .ret)
def cc175 : ACode := (.seq (.reg [(none,.mv 2 KN)]) (.seq (.reg [(none,.bslice 6 1 [.sl []] 0 []),mv 3 6]) (.seq (.seq (.reg [mv 7 0,(none,.len 8 (S 7)),(none,.mv 9 (K 0))]) (.block 0 (.loop cc173))) cc174)))
theorem ww176 (a0 : List XOption) : ∀ (n : Nat) (v1 : Int) (v2 : List (List XPassage)) (r : (List (List XPassage))),f_spec_ChainsOf_1 a0 n v1 v2 = some r → ∀ σ : St,σ.kept [3,7,8,9] [] [384] = ⟨[(3,vc (.own 384)),(7,vc (aL (List.map XOption.row a0))),(8,vc (aI (a0.length : Int))),(9,vc (aI v1))],[],[(384,1,List.map (rL XPassage.row) v2)]⟩ → go Tryz.prog (.code (.loop cc173) :: [.blk 0,.code cc174]) (Ret [2] [.sc (.o 1 (List.map (rL XPassage.row) r))]) .normal (some σ) := by
 intro n
 induction n with
 | zero => intro _ _ r h; cases h
 | succ n ih =>
  intro v1 v2 r h σ hσ
  rw [f_spec_ChainsOf_1] at h
  refine go_round ?_
  rcases Bool.eq_false_or_eq_true (decide (v1 < (a0.length : Int))) with hb3 | hb3
  ·rw [ite_t hb3] at h
   obtain ⟨x4,hx4,h⟩ := ob h
   try simp only [hσ,hb3,hx4,cc173,Nat.reduceBEq,reduceMul,reduceAdd,reduceDiv,Int.reduceBEq,RR]
   refine go_al rfl rfl ?_
   try simp only [hb3,hx4,Nat.reduceBEq,reduceMul,reduceAdd,reduceDiv,Int.reduceBEq,RR]
   refine go_bsl (es := List.map XPassage.row ([] : List XPassage)) rfl rfl ?_
   obtain ⟨hg5,h⟩ := of_guard h
   try simp only [hb3,hx4,hg5,Nat.reduceBEq,reduceMul,reduceAdd,reduceDiv,Int.reduceBEq,RR]
   refine go_frz' rfl ?_
   try simp only [hb3,hx4,hg5,Nat.reduceBEq,reduceMul,reduceAdd,reduceDiv,Int.reduceBEq,RR]
   refine go_bsl (es := List.map (rL XPassage.row) ([(([] : List XPassage) ++ x4.Passages)] : List (List XPassage))) rfl rfl ?_
   obtain ⟨hg6,h⟩ := of_guard h
   try simp only [List.cons_append,List.nil_append] at hg6
   try simp only [hb3,hx4,hg5,hg6,Nat.reduceBEq,reduceMul,reduceAdd,reduceDiv,Int.reduceBEq,RR]
   refine ih _ _ _ h _ ?_
   try simp only [hb3,hx4,hg5,hg6,Nat.reduceBEq,reduceMul,reduceAdd,reduceDiv,Int.reduceBEq,RR,List.map_nil]
  ·rw [ite_f hb3] at h
   try simp only [hσ,hb3,cc173,cc174,Nat.reduceBEq,reduceMul,reduceAdd,reduceDiv,Int.reduceBEq,RR]
   cases h
   exact ⟨⟨rfl,trivial⟩,rfl⟩
theorem ee177 : entry Tryz.prog 18 = some (cc175.strip,[2],22) := by kernel_rfl
theorem w_spec_ChainsOf (a0 : List XOption) (r : (List (List XPassage))) (h : f_spec_ChainsOf a0 = some r) : FC Tryz.prog 18 [.sc (.sl (List.map XOption.row a0))] [.sc (.o 1 (List.map (rL XPassage.row) r))] := by
 unfold f_spec_ChainsOf at h
 refine FC_go (σ := ⟨[(0,vc (aL (List.map XOption.row a0)))],[],[]⟩) mixed ee177 rfl rfl ?_
 simp only [cc175]
 try simp only [Nat.reduceBEq,reduceMul,reduceAdd,reduceDiv,Int.reduceBEq,RR]
 refine go_bsl (es := List.map (rL XPassage.row) ([] : List (List XPassage))) rfl rfl ?_
 try simp only [Nat.reduceBEq,reduceMul,reduceAdd,reduceDiv,Int.reduceBEq,RR]
 refine ww176 _ _ _ _ _ h _ ?_
 try simp only [Nat.reduceBEq,reduceMul,reduceAdd,reduceDiv,Int.reduceBEq,RR,List.map_nil]
/- 142: spec_l06Minutes -/
def cc178 : ACode := (.seq (.reg [(none,.box 2 (S 0)),(none,.box 3 (S 1)),(none,.mv 4 (K 0))]) (.seq (.seq (.reg [fa 5 3 5,ld 6 5]) (.cond (S 6) (.seq (.reg [fa 7 2 3,ld 8 7,(none,.bin 9 .mul (K 2) (S 8)),mv 4 9]) .ret) .skip)) (.seq (.reg [fa 10 2 3,ld 11 10,mv 4 11]) .ret)))
theorem ee179 : entry Tryz.prog 142 = some (cc178.strip,[4],12) := by kernel_rfl
theorem w_spec_l06Minutes (a0 : XSegment) (a1 : XShip) (r : Int) (h : f_spec_l06Minutes a0 a1 = some r) : FC Tryz.prog 142 [.ag (XSegment.row a0),.ag (XShip.row a1)] [.sc (.v (.int .i64 r))] := by
 unfold f_spec_l06Minutes at h
 refine FC_go (σ := ⟨[(0,va [aI a0.A,aI a0.B,aI a0.Depth,aI a0.Minutes,aB a0.Meet]),(1,va [aS a1.Name,aI a1.Length,aI a1.Draught,aI a1.Line,aI a1.Tugs,aB a1.Slow])],[],[]⟩) mixed ee179 rfl rfl ?_
 simp only [cc178]
 try simp only [Nat.reduceBEq,reduceMul,reduceAdd,reduceDiv,Int.reduceBEq,RR]
 refine go_bx rfl rfl rfl ?_
 try simp only [Nat.reduceBEq,reduceMul,reduceAdd,reduceDiv,Int.reduceBEq,RR]
 refine go_bx rfl rfl rfl ?_
 rcases Bool.eq_false_or_eq_true a1.Slow with hb1 | hb1
 ·rw [ite_t hb1] at h
  try simp only [hb1,Nat.reduceBEq,reduceMul,reduceAdd,reduceDiv,Int.reduceBEq,RR]
  cases h
  exact ⟨⟨rfl,trivial⟩,rfl⟩
 ·rw [ite_f hb1] at h
  try simp only [hb1,Nat.reduceBEq,reduceMul,reduceAdd,reduceDiv,Int.reduceBEq,RR]
  cases h
  exact ⟨⟨rfl,trivial⟩,rfl⟩
/- 127: spec_MinutesOn -/
def cc180 : ACode := (.seq (.reg [(none,.box 3 (S 0)),(none,.box 5 (S 2)),(none,.mv 6 (K 0))]) (.seq (.seq (.reg [(none,.load 7 (S 3) true 2),(none,.call 8 47 [(S 7)]),(none,.un 9 .not (S 8)),mv 10 9,(some (10,false),.load 11 (S 5) true 6),(some (10,false),.call 12 87 [(S 11)]),(some (10,false),.un 13 .not (S 12)),(none,.pick 14 (S 10) (KB true) (S 13)),mv 15 14,(some (15,false),.mv 16 (S 1)),(some (15,false),.faddr 17 (S 3) 1),(some (15,false),.load 18 (S 17) false 1),(some (15,false),.len 19 (S 18)),(some (15,false),.bin 20 .sub (S 19) (K 1)),(some (15,false),.call 21 82 [(S 16),(K 0),(S 20)]),(some (15,false),.un 22 .not (S 21)),(none,.pick 23 (S 15) (KB true) (S 22))]) (.cond (S 23) (.seq (.reg [(none,.mv 6 (K 0))]) .ret) .skip)) (.seq (.drw [(some [],fa 24 3 1),(some [],ld 25 24),(some [],mv 26 1),(some [],(none,.iaddr 27 (S 25) (S 26) 5)),(some [],(none,.load 28 (S 27) true 5)),(some [],(none,.load 29 (S 5) true 6)),(some [],(none,.call 30 142 [(S 28),(S 29)])),(some [],mv 6 30)]) .ret)))
theorem ee181 : entry Tryz.prog 127 = some (cc180.strip,[6],31) := by kernel_rfl
theorem w_spec_MinutesOn (a0 : XChart) (a1 : Int) (a2 : XShip) (r : Int) (h : f_spec_MinutesOn a0 a1 a2 = some r) : FC Tryz.prog 127 [.ag (XChart.row a0),.sc (.int .i64 a1),.ag (XShip.row a2)] [.sc (.v (.int .i64 r))] := by
 unfold f_spec_MinutesOn at h
 refine FC_go (σ := ⟨[(0,va [aL (List.map XPoint.row a0.Points),aL (List.map XSegment.row a0.Segments)]),(1,vc (aI a1)),(2,va [aS a2.Name,aI a2.Length,aI a2.Draught,aI a2.Line,aI a2.Tugs,aB a2.Slow])],[],[]⟩) mixed ee181 rfl rfl ?_
 simp only [cc180]
 try simp only [Nat.reduceBEq,reduceMul,reduceAdd,reduceDiv,Int.reduceBEq,RR]
 refine go_bx rfl rfl rfl ?_
 try simp only [Nat.reduceBEq,reduceMul,reduceAdd,reduceDiv,Int.reduceBEq,RR]
 refine go_bx rfl rfl rfl ?_
 obtain ⟨r1,hr1,h⟩ := ob h
 try simp only [Nat.reduceBEq,reduceMul,reduceAdd,reduceDiv,Int.reduceBEq,RR]
 refine go_callI (w_spec_ChartOk _ _ hr1) rfl rfl (Nat.le_of_ble_eq_true rfl) ?_
 rcases Bool.eq_false_or_eq_true r1 with hb2 | hb2
 ·rw [ite_t hb2] at h
  obtain ⟨r3,hr3,h⟩ := ob h
  try simp only [hb2,Nat.reduceBEq,reduceMul,reduceAdd,reduceDiv,Int.reduceBEq,RR]
  refine go_callI (w_spec_ShipOk _ _ hr3) rfl rfl (Nat.le_of_ble_eq_true rfl) ?_
  rcases Bool.eq_false_or_eq_true r3 with hb4 | hb4
  ·rw [ite_t hb4] at h
   obtain ⟨r5,hr5,h⟩ := ob h
   try simp only [hb2,hb4,Nat.reduceBEq,reduceMul,reduceAdd,reduceDiv,Int.reduceBEq,RR]
   refine go_callI (w_spec_l01In _ _ _ _ hr5) rfl rfl (Nat.le_of_ble_eq_true rfl) ?_
   rcases Bool.eq_false_or_eq_true r5 with hb6 | hb6
   ·rw [ite_t hb6] at h
    try simp only [hb2,hb4,hb6,Nat.reduceBEq,reduceMul,reduceAdd,reduceDiv,Int.reduceBEq,RR]
    refine go_fr_of rfl ?_
    obtain ⟨x7,hx7,h⟩ := ob h
    obtain ⟨r9,hr9,h⟩ := ob h
    try simp only [hb2,hb4,hb6,hx7,Nat.reduceBEq,reduceMul,reduceAdd,reduceDiv,Int.reduceBEq,RR]
    refine go_dcallI (w_spec_l06Minutes _ _ _ hr9) rfl rfl (Nat.le_of_ble_eq_true rfl) ?_
    try simp only [hb2,hb4,hb6,hx7,Nat.reduceBEq,reduceMul,reduceAdd,reduceDiv,Int.reduceBEq,RR]
    cases h
    exact ⟨⟨rfl,trivial⟩,rfl⟩
   ·rw [ite_f hb6] at h
    try simp only [hb2,hb4,hb6,Nat.reduceBEq,reduceMul,reduceAdd,reduceDiv,Int.reduceBEq,RR]
    cases h
    exact ⟨⟨rfl,trivial⟩,rfl⟩
  ·rw [ite_f hb4] at h
   try simp only [hb2,hb4,Nat.reduceBEq,reduceMul,reduceAdd,reduceDiv,Int.reduceBEq,RR]
   cases h
   exact ⟨⟨rfl,trivial⟩,rfl⟩
 ·rw [ite_f hb2] at h
  try simp only [hb2,Nat.reduceBEq,reduceMul,reduceAdd,reduceDiv,Int.reduceBEq,RR]
  cases h
  exact ⟨⟨rfl,trivial⟩,rfl⟩
/- 90: spec_PassageOk -/
def cc182 : ACode := (.seq (.reg [(none,.box 3 (S 0)),(none,.box 5 (S 2)),(none,.mv 6 (KB false))]) (.seq (.seq (.reg [(none,.load 7 (S 3) true 2),(none,.call 8 47 [(S 7)]),(none,.un 9 .not (S 8)),mv 10 9,(some (10,false),.mv 11 (S 1)),(some (10,false),.call 12 48 [(S 11)]),(some (10,false),.un 13 .not (S 12)),(none,.pick 14 (S 10) (KB true) (S 13)),mv 15 14,(some (15,false),.faddr 16 (S 5) 0),(some (15,false),.load 17 (S 16) false 1),(some (15,false),.mv 18 (S 1)),(some (15,false),.len 19 (S 18)),(some (15,false),.bin 20 .sub (S 19) (K 1)),(some (15,false),.call 21 82 [(S 17),(K 0),(S 20)]),(some (15,false),.un 22 .not (S 21)),(none,.pick 23 (S 15) (KB true) (S 22)),mv 24 23,(some (24,false),.faddr 25 (S 5) 1),(some (24,false),.load 26 (S 25) false 1),(some (24,false),.faddr 27 (S 3) 1),(some (24,false),.load 28 (S 27) false 1),(some (24,false),.len 29 (S 28)),(some (24,false),.bin 30 .sub (S 29) (K 1)),(some (24,false),.call 31 82 [(S 26),(K 0),(S 30)]),(some (24,false),.un 32 .not (S 31)),(none,.pick 33 (S 24) (KB true) (S 32)),mv 34 33,(some (34,false),.faddr 35 (S 5) 3),(some (34,false),.load 36 (S 35) false 1),(some (34,false),.call 37 82 [(S 36),(K 0),(K 2880)]),(some (34,false),.un 38 .not (S 37)),(none,.pick 39 (S 34) (KB true) (S 38))]) (.cond (S 39) (.seq (.reg [(none,.mv 6 (KB false))]) .ret) .skip)) (.seq (.drw [(some [52],fa 40 5 4),(some [52],ld 41 40),(some [52],fa 42 5 3),(some [52],ld 43 42),(some [],(none,.load 44 (S 3) true 2)),(some [],fa 45 5 1),(some [],ld 46 45),(some [],mv 47 1),(some [],fa 48 5 0),(some [],ld 49 48),(some [],(none,.iaddr 50 (S 47) (S 49) 6)),(some [],(none,.load 51 (S 50) true 6)),(some [],(none,.call 52 127 [(S 44),(S 46),(S 51)])),(some [],bn 53 .add 43 52),(some [],bn 54 .eql 41 53),(some [],mv 55 54),(some [],(some (55,true),.faddr 56 (S 5) 4)),(some [],(some (55,true),.load 57 (S 56) false 1)),(some [],(some (55,true),.bin 58 .leq (S 57) (K 2880))),(some [],(none,.pick 59 (S 55) (S 58) (KB false))),(some [],mv 6 59)]) .ret)))
theorem ee183 : entry Tryz.prog 90 = some (cc182.strip,[6],60) := by kernel_rfl
theorem w_spec_PassageOk (a0 : XChart) (a1 : List XShip) (a2 : XPassage) (r : Bool) (h : f_spec_PassageOk a0 a1 a2 = some r) : FC Tryz.prog 90 [.ag (XChart.row a0),.sc (.sl (List.map XShip.row a1)),.ag (XPassage.row a2)] [.sc (.v (.bool r))] := by
 unfold f_spec_PassageOk at h
 refine FC_go (σ := ⟨[(0,va [aL (List.map XPoint.row a0.Points),aL (List.map XSegment.row a0.Segments)]),(1,vc (aL (List.map XShip.row a1))),(2,va [aI a2.Ship,aI a2.Segment,aB a2.Toward,aI a2.Start,aI a2.End])],[],[]⟩) mixed ee183 rfl rfl ?_
 simp only [cc182]
 try simp only [Nat.reduceBEq,reduceMul,reduceAdd,reduceDiv,Int.reduceBEq,RR]
 refine go_bx rfl rfl rfl ?_
 try simp only [Nat.reduceBEq,reduceMul,reduceAdd,reduceDiv,Int.reduceBEq,RR]
 refine go_bx rfl rfl rfl ?_
 obtain ⟨r1,hr1,h⟩ := ob h
 try simp only [Nat.reduceBEq,reduceMul,reduceAdd,reduceDiv,Int.reduceBEq,RR]
 refine go_callI (w_spec_ChartOk _ _ hr1) rfl rfl (Nat.le_of_ble_eq_true rfl) ?_
 rcases Bool.eq_false_or_eq_true r1 with hb2 | hb2
 ·rw [ite_t hb2] at h
  obtain ⟨r3,hr3,h⟩ := ob h
  try simp only [hb2,Nat.reduceBEq,reduceMul,reduceAdd,reduceDiv,Int.reduceBEq,RR]
  refine go_callI (w_spec_FleetOk _ _ hr3) rfl rfl (Nat.le_of_ble_eq_true rfl) ?_
  rcases Bool.eq_false_or_eq_true r3 with hb4 | hb4
  ·rw [ite_t hb4] at h
   obtain ⟨r5,hr5,h⟩ := ob h
   try simp only [hb2,hb4,Nat.reduceBEq,reduceMul,reduceAdd,reduceDiv,Int.reduceBEq,RR]
   refine go_callI (w_spec_l01In _ _ _ _ hr5) rfl rfl (Nat.le_of_ble_eq_true rfl) ?_
   rcases Bool.eq_false_or_eq_true r5 with hb6 | hb6
   ·rw [ite_t hb6] at h
    obtain ⟨r7,hr7,h⟩ := ob h
    try simp only [hb2,hb4,hb6,Nat.reduceBEq,reduceMul,reduceAdd,reduceDiv,Int.reduceBEq,RR]
    refine go_callI (w_spec_l01In _ _ _ _ hr7) rfl rfl (Nat.le_of_ble_eq_true rfl) ?_
    rcases Bool.eq_false_or_eq_true r7 with hb8 | hb8
    ·rw [ite_t hb8] at h
     obtain ⟨r9,hr9,h⟩ := ob h
     try simp only [hb2,hb4,hb6,hb8,Nat.reduceBEq,reduceMul,reduceAdd,reduceDiv,Int.reduceBEq,RR]
     refine go_callI (w_spec_l01In _ _ _ _ hr9) rfl rfl (Nat.le_of_ble_eq_true rfl) ?_
     rcases Bool.eq_false_or_eq_true r9 with hb10 | hb10
     ·rw [ite_t hb10] at h
      try simp only [hb2,hb4,hb6,hb8,hb10,Nat.reduceBEq,reduceMul,reduceAdd,reduceDiv,Int.reduceBEq,RR]
      refine go_fr_of rfl ?_
      obtain ⟨x11,hx11,h⟩ := ob h
      obtain ⟨r12,hr12,h⟩ := ob h
      try simp only [hb2,hb4,hb6,hb8,hb10,hx11,Nat.reduceBEq,reduceMul,reduceAdd,reduceDiv,Int.reduceBEq,RR]
      refine go_dcallI (w_spec_MinutesOn _ _ _ _ hr12) rfl rfl (Nat.le_of_ble_eq_true rfl) ?_
      rcases Bool.eq_false_or_eq_true (a2.End == (IntKind.i64.wrap (a2.Start + r12))) with hb13 | hb13
      ·rw [ite_t hb13] at h
       try simp only [hb2,hb4,hb6,hb8,hb10,hx11,hb13,Nat.reduceBEq,reduceMul,reduceAdd,reduceDiv,Int.reduceBEq,RR]
       cases h
       exact ⟨⟨rfl,trivial⟩,rfl⟩
      ·rw [ite_f hb13] at h
       try simp only [hb2,hb4,hb6,hb8,hb10,hx11,hb13,Nat.reduceBEq,reduceMul,reduceAdd,reduceDiv,Int.reduceBEq,RR]
       cases h
       exact ⟨⟨rfl,trivial⟩,rfl⟩
     ·rw [ite_f hb10] at h
      try simp only [hb2,hb4,hb6,hb8,hb10,Nat.reduceBEq,reduceMul,reduceAdd,reduceDiv,Int.reduceBEq,RR]
      cases h
      exact ⟨⟨rfl,trivial⟩,rfl⟩
    ·rw [ite_f hb8] at h
     try simp only [hb2,hb4,hb6,hb8,Nat.reduceBEq,reduceMul,reduceAdd,reduceDiv,Int.reduceBEq,RR]
     cases h
     exact ⟨⟨rfl,trivial⟩,rfl⟩
   ·rw [ite_f hb6] at h
    try simp only [hb2,hb4,hb6,Nat.reduceBEq,reduceMul,reduceAdd,reduceDiv,Int.reduceBEq,RR]
    cases h
    exact ⟨⟨rfl,trivial⟩,rfl⟩
  ·rw [ite_f hb4] at h
   try simp only [hb2,hb4,Nat.reduceBEq,reduceMul,reduceAdd,reduceDiv,Int.reduceBEq,RR]
   cases h
   exact ⟨⟨rfl,trivial⟩,rfl⟩
 ·rw [ite_f hb2] at h
  try simp only [hb2,Nat.reduceBEq,reduceMul,reduceAdd,reduceDiv,Int.reduceBEq,RR]
  cases h
  exact ⟨⟨rfl,trivial⟩,rfl⟩
/- 91: spec_l08Ends -/
def cc184 : ACode := (.seq (.reg [(none,.box 2 (S 0)),(none,.box 3 (S 1)),(none,.mv 4 (K 0)),(none,.mv 5 (K 0))]) (.seq (.reg [fa 7 2 1,ld 8 7,fa 9 3 1,ld 10 9,(none,.iaddr 11 (S 8) (S 10) 5),(none,.load 12 (S 11) true 5),(none,.alloc 6 [aI 0,aI 0,aI 0,aI 0,aB false]),(none,.store (S 6) (S 12) 5)]) (.seq (.seq (.reg [fa 13 3 2,ld 14 13]) (.cond (S 14) (.seq (.drw [(some [],fa 15 6 0),(some [],ld 16 15),(some [],fa 17 6 1),(some [],ld 18 17),(some [],mv 4 16),(some [],mv 5 18)]) .ret) .skip)) (.seq (.drw [(some [],fa 19 6 1),(some [],ld 20 19),(some [],fa 21 6 0),(some [],ld 22 21),(some [],mv 4 20),(some [],mv 5 22)]) .ret))))
theorem ee185 : entry Tryz.prog 91 = some (cc184.strip,[4,5],23) := by kernel_rfl
theorem w_spec_l08Ends (a0 : XChart) (a1 : XPassage) (r : Int × Int) (h : f_spec_l08Ends a0 a1 = some r) : FC Tryz.prog 91 [.ag (XChart.row a0),.ag (XPassage.row a1)] [.sc (.v (.int .i64 r.1)),.sc (.v (.int .i64 r.2))] := by
 unfold f_spec_l08Ends at h
 refine FC_go (σ := ⟨[(0,va [aL (List.map XPoint.row a0.Points),aL (List.map XSegment.row a0.Segments)]),(1,va [aI a1.Ship,aI a1.Segment,aB a1.Toward,aI a1.Start,aI a1.End])],[],[]⟩) mixed ee185 rfl rfl ?_
 simp only [cc184]
 try simp only [Nat.reduceBEq,reduceMul,reduceAdd,reduceDiv,Int.reduceBEq,RR]
 refine go_bx rfl rfl rfl ?_
 try simp only [Nat.reduceBEq,reduceMul,reduceAdd,reduceDiv,Int.reduceBEq,RR]
 refine go_bx rfl rfl rfl ?_
 obtain ⟨x1,hx1,h⟩ := ob h
 try simp only [hx1,Nat.reduceBEq,reduceMul,reduceAdd,reduceDiv,Int.reduceBEq,RR]
 refine go_al rfl rfl ?_
 rcases Bool.eq_false_or_eq_true a1.Toward with hb2 | hb2
 ·rw [ite_t hb2] at h
  try simp only [hx1,hb2,Nat.reduceBEq,reduceMul,reduceAdd,reduceDiv,Int.reduceBEq,RR]
  refine go_fr_of rfl ?_
  try simp only [hx1,hb2,Nat.reduceBEq,reduceMul,reduceAdd,reduceDiv,Int.reduceBEq,RR]
  cases h
  exact ⟨⟨rfl,rfl,trivial⟩,rfl⟩
 ·rw [ite_f hb2] at h
  try simp only [hx1,hb2,Nat.reduceBEq,reduceMul,reduceAdd,reduceDiv,Int.reduceBEq,RR]
  refine go_fr_of rfl ?_
  try simp only [hx1,hb2,Nat.reduceBEq,reduceMul,reduceAdd,reduceDiv,Int.reduceBEq,RR]
  cases h
  exact ⟨⟨rfl,rfl,trivial⟩,rfl⟩
/- 51: spec_l14Tugs -/
def cc186 : ACode := .seq (.reg [(none,.keep [1,3,8,10,11,12,13,15,16,17] [3,10] [896])]) (.seq (.seq (.reg [mv 32 13,mv 33 1,fa 34 10 0,ld 35 34,(none,.iaddr 36 (S 33) (S 35) 6),fa 37 36 4,ld 38 37,bn 39 .lss 32 38]) (.cond (S 39) .skip (.exit 2))) (.seq (.block 3 (.reg [mv 42 8,fa 43 10 3,ld 44 43,fa 45 10 4,ld 46 45,mv 47 11,mv 48 12,(none,.build 49 [aI 0,aI 0,aI 0,aI 0] [(0,1,(S 44)),(1,1,(S 46)),(2,1,(S 47)),(3,1,(S 48))]),(none,.bslice 50 4 [.int .i64 0,.int .i64 0,.int .i64 0,.int .i64 0] 1 [(0,(S 49))]),(none,.app 51 4 32 (S 42) (S 50)),mv 8 51])) (.reg [mv 40 13,(none,.bin 41 .add (S 40) (K 1)),mv 13 41])))
def cc187 : ACode := (.seq (.reg [mv 52 8,(none,.len 53 (S 52)),(none,.bin 54 .gtr (S 53) (K 12))]) (.cond (S 54) (.seq (.reg [(none,.mv 6 KN),(none,.mv 7 (KB false))]) .ret) .skip))
def cc188 : ACode := (.reg [(none,.bin 55 .add (S 17) (K 1)),mv 17 55])
def cc189 : ACode := .seq (.reg [(none,.keep [1,3,8,15,16,17] [3] [896])]) (.seq (.reg [bn 18 .lss 17 16]) (.seq (.cond (S 18) .skip (.exit 0)) (.seq (.block 1 (.seq (.reg [(none,.iaddr 19 (S 15) (S 17) 5),(none,.load 20 (S 19) true 5),(none,.alloc 10 [aI 0,aI 0,aB false,aI 0,aI 0]),(none,.store (S 10) (S 20) 5)]) (.seq (.seq (.reg [(none,.load 21 (S 3) true 2),mv 22 1,(none,.load 23 (S 10) true 5),(none,.call 24 90 [(S 21),(S 22),(S 23)]),(none,.un 25 .not (S 24))]) (.cond (S 25) (.seq (.reg [(none,.mv 6 KN),(none,.mv 7 (KB false))]) .ret) .skip)) (.seq (.reg [(none,.load 27 (S 3) true 2),(none,.load 28 (S 10) true 5),(none,.call 29 91 [(S 27),(S 28)]),mv 26 29,(none,.extr 30 (S 26) 0),(none,.extr 31 (S 26) 1),mv 11 30,mv 12 31]) (.seq (.seq (.reg [(none,.mv 13 (K 0))]) (.block 2 (.loop cc186))) cc187))))) cc188)))
def cc190 : ACode := (.seq (.reg [mv 56 8,mv 6 56,(none,.mv 7 (KB true))]) .ret)
def cc191 : ACode := (.seq (.reg [(none,.box 3 (S 0)),(none,.mv 6 KN),(none,.mv 7 (KB false))]) (.seq (.reg [(none,.bslice 14 4 [.int .i64 0,.int .i64 0,.int .i64 0,.int .i64 0] 0 []),mv 8 14]) (.seq (.seq (.reg [mv 15 2,(none,.len 16 (S 15)),(none,.mv 17 (K 0))]) (.block 0 (.loop cc189))) cc190)))
theorem ww192 (a1 : List XShip) (r7 : Int × Int) (a2 : List XPassage) (v1 : Int) (a0 : XChart) (x4 : XPassage) (k_spec_l14Tugs_1 : Int → (List XDuty) → Option ((List XDuty) × Bool)) (hk_spec_l14Tugs_1 : ∀ (v1 : Int) (v2 : List XDuty) zr,k_spec_l14Tugs_1 v1 v2 = some zr → ∀ σ : St,σ.kept [1,3,8,15,16,17] [3] [896] = ⟨[(1,vc (aL (List.map XShip.row a1))),(3,vc (.pb 3 0)),(8,vc (.own 896)),(15,vc (aL (List.map XPassage.row a2))),(16,vc (aI (a2.length : Int))),(17,vc (aI v1))],[(3,[aL (List.map XPoint.row a0.Points),aL (List.map XSegment.row a0.Segments)])],[(896,4,List.map XDuty.row v2)]⟩ → go Tryz.prog (.code (.loop cc189) :: [.blk 0,.code cc190]) (Ret [6,7] [.sc (.o 4 (List.map XDuty.row zr.1)),.sc (.v (.bool zr.2))]) .normal (some σ)) : ∀ (n : Nat) (v8 : Int) (v9 : List XDuty) (r : (List XDuty) × Bool),f_spec_l14Tugs_2 a1 r7 a2 v1 a0 x4 k_spec_l14Tugs_1 n v8 v9 = some r → ∀ σ : St,σ.kept [1,3,8,10,11,12,13,15,16,17] [3,10] [896] = ⟨[(1,vc (aL (List.map XShip.row a1))),(3,vc (.pb 3 0)),(8,vc (.own 896)),(10,vc (.pb 10 0)),(11,vc (aI r7.1)),(12,vc (aI r7.2)),(13,vc (aI v8)),(15,vc (aL (List.map XPassage.row a2))),(16,vc (aI (a2.length : Int))),(17,vc (aI v1))],[(3,[aL (List.map XPoint.row a0.Points),aL (List.map XSegment.row a0.Segments)]),(10,[aI x4.Ship,aI x4.Segment,aB x4.Toward,aI x4.Start,aI x4.End])],[(896,4,List.map XDuty.row v9)]⟩ → go Tryz.prog (.code (.loop cc186) :: [.blk 2,.code cc187,.blk 1,.code cc188,.code (.loop cc189),.blk 0,.code cc190]) (Ret [6,7] [.sc (.o 4 (List.map XDuty.row r.1)),.sc (.v (.bool r.2))]) .normal (some σ) := by
 intro n
 induction n with
 | zero => intro _ _ r h; cases h
 | succ n ih =>
  intro v8 v9 r h σ hσ
  rw [f_spec_l14Tugs_2] at h
  refine go_round ?_
  obtain ⟨x10,hx10,h⟩ := ob h
  rcases Bool.eq_false_or_eq_true (decide (v8 < x10.Tugs)) with hb11 | hb11
  ·rw [ite_t hb11] at h
   try simp only [hσ,hx10,hb11,cc186,Nat.reduceBEq,reduceMul,reduceAdd,reduceDiv,Int.reduceBEq,RR]
   refine go_bsl (es := List.map XDuty.row ([(⟨x4.Start,x4.End,r7.1,r7.2⟩ : XDuty)] : List XDuty)) rfl rfl ?_
   obtain ⟨hg12,h⟩ := of_guard h
   try simp only [hx10,hb11,hg12,Nat.reduceBEq,reduceMul,reduceAdd,reduceDiv,Int.reduceBEq,RR]
   refine ih _ _ _ h _ ?_
   try simp only [hx10,hb11,hg12,Nat.reduceBEq,reduceMul,reduceAdd,reduceDiv,Int.reduceBEq,RR,List.map_nil]
  ·rw [ite_f hb11] at h
   rcases Bool.eq_false_or_eq_true (decide ((12 : Int) < (v9.length : Int))) with hb13 | hb13
   ·rw [ite_t hb13] at h
    try simp only [hσ,hx10,hb11,hb13,cc186,cc187,Nat.reduceBEq,reduceMul,reduceAdd,reduceDiv,Int.reduceBEq,RR]
    cases h
    exact ⟨⟨rfl,rfl,trivial⟩,rfl⟩
   ·rw [ite_f hb13] at h
    try simp only [hσ,hx10,hb11,hb13,cc186,cc187,cc188,Nat.reduceBEq,reduceMul,reduceAdd,reduceDiv,Int.reduceBEq,RR]
    refine hk_spec_l14Tugs_1 _ _ _ h _ ?_
    try simp only [hx10,hb11,hb13,Nat.reduceBEq,reduceMul,reduceAdd,reduceDiv,Int.reduceBEq,RR,List.map_nil]
theorem ww193 (a1 : List XShip) (a2 : List XPassage) (a0 : XChart) : ∀ (n : Nat) (v1 : Int) (v2 : List XDuty) (r : (List XDuty) × Bool),f_spec_l14Tugs_1 a1 a2 a0 n v1 v2 = some r → ∀ σ : St,σ.kept [1,3,8,15,16,17] [3] [896] = ⟨[(1,vc (aL (List.map XShip.row a1))),(3,vc (.pb 3 0)),(8,vc (.own 896)),(15,vc (aL (List.map XPassage.row a2))),(16,vc (aI (a2.length : Int))),(17,vc (aI v1))],[(3,[aL (List.map XPoint.row a0.Points),aL (List.map XSegment.row a0.Segments)])],[(896,4,List.map XDuty.row v2)]⟩ → go Tryz.prog (.code (.loop cc189) :: [.blk 0,.code cc190]) (Ret [6,7] [.sc (.o 4 (List.map XDuty.row r.1)),.sc (.v (.bool r.2))]) .normal (some σ) := by
 intro n
 induction n with
 | zero => intro _ _ r h; cases h
 | succ n ih =>
  intro v1 v2 r h σ hσ
  rw [f_spec_l14Tugs_1] at h
  refine go_round ?_
  rcases Bool.eq_false_or_eq_true (decide (v1 < (a2.length : Int))) with hb3 | hb3
  ·rw [ite_t hb3] at h
   obtain ⟨x4,hx4,h⟩ := ob h
   try simp only [hσ,hb3,hx4,cc189,Nat.reduceBEq,reduceMul,reduceAdd,reduceDiv,Int.reduceBEq,RR]
   refine go_al rfl rfl ?_
   obtain ⟨r5,hr5,h⟩ := ob h
   try simp only [hb3,hx4,Nat.reduceBEq,reduceMul,reduceAdd,reduceDiv,Int.reduceBEq,RR]
   refine go_callI (w_spec_PassageOk _ _ _ _ hr5) rfl rfl (Nat.le_of_ble_eq_true rfl) ?_
   rcases Bool.eq_false_or_eq_true r5 with hb6 | hb6
   ·rw [ite_t hb6] at h
    obtain ⟨r7,hr7,h⟩ := ob h
    try simp only [hb3,hx4,hb6,Nat.reduceBEq,reduceMul,reduceAdd,reduceDiv,Int.reduceBEq,RR]
    refine go_callI (w_spec_l08Ends _ _ _ hr7) rfl rfl (Nat.le_of_ble_eq_true rfl) ?_
    try simp only [hb3,hx4,hb6,Nat.reduceBEq,reduceMul,reduceAdd,reduceDiv,Int.reduceBEq,RR]
    refine ww192 _ _ _ _ _ _ (f_spec_l14Tugs_1 a1 a2 a0 n) ih _ _ _ _ h _ ?_
    try simp only [hb3,hx4,hb6,Nat.reduceBEq,reduceMul,reduceAdd,reduceDiv,Int.reduceBEq,RR,List.map_nil]
   ·rw [ite_f hb6] at h
    try simp only [hb3,hx4,hb6,Nat.reduceBEq,reduceMul,reduceAdd,reduceDiv,Int.reduceBEq,RR]
    cases h
    exact ⟨⟨rfl,rfl,trivial⟩,rfl⟩
  ·rw [ite_f hb3] at h
   try simp only [hσ,hb3,cc189,cc190,Nat.reduceBEq,reduceMul,reduceAdd,reduceDiv,Int.reduceBEq,RR]
   cases h
   exact ⟨⟨rfl,rfl,trivial⟩,rfl⟩
theorem ee194 : entry Tryz.prog 51 = some (cc191.strip,[6,7],57) := by kernel_rfl
theorem w_spec_l14Tugs (a0 : XChart) (a1 : List XShip) (a2 : List XPassage) (r : (List XDuty) × Bool) (h : f_spec_l14Tugs a0 a1 a2 = some r) : FC Tryz.prog 51 [.ag (XChart.row a0),.sc (.sl (List.map XShip.row a1)),.sc (.sl (List.map XPassage.row a2))] [.sc (.o 4 (List.map XDuty.row r.1)),.sc (.v (.bool r.2))] := by
 unfold f_spec_l14Tugs at h
 refine FC_go (σ := ⟨[(0,va [aL (List.map XPoint.row a0.Points),aL (List.map XSegment.row a0.Segments)]),(1,vc (aL (List.map XShip.row a1))),(2,vc (aL (List.map XPassage.row a2)))],[],[]⟩) mixed ee194 rfl rfl ?_
 simp only [cc191]
 try simp only [Nat.reduceBEq,reduceMul,reduceAdd,reduceDiv,Int.reduceBEq,RR]
 refine go_bx rfl rfl rfl ?_
 try simp only [Nat.reduceBEq,reduceMul,reduceAdd,reduceDiv,Int.reduceBEq,RR]
 refine go_bsl (es := List.map XDuty.row ([] : List XDuty)) rfl rfl ?_
 try simp only [Nat.reduceBEq,reduceMul,reduceAdd,reduceDiv,Int.reduceBEq,RR]
 refine ww193 _ _ _ _ _ _ _ h _ ?_
 try simp only [Nat.reduceBEq,reduceMul,reduceAdd,reduceDiv,Int.reduceBEq,RR,List.map_nil]
/- 128: spec_l13Duty -/
def cc195 : ACode := (.seq (.reg [(none,.box 1 (S 0)),(none,.mv 2 (KB false))]) (.seq (.reg [fa 3 1 0,ld 4 3,(none,.call 5 82 [(S 4),(K 0),(K 2880)]),mv 6 5,(some (6,true),.faddr 7 (S 1) 1),(some (6,true),.load 8 (S 7) false 1),(some (6,true),.faddr 9 (S 1) 0),(some (6,true),.load 10 (S 9) false 1),(some (6,true),.bin 11 .gtr (S 8) (S 10)),(none,.pick 12 (S 6) (S 11) (KB false)),mv 13 12,(some (13,true),.faddr 14 (S 1) 1),(some (13,true),.load 15 (S 14) false 1),(some (13,true),.bin 16 .leq (S 15) (K 2880)),(none,.pick 17 (S 13) (S 16) (KB false)),mv 18 17,(some (18,true),.faddr 19 (S 1) 2),(some (18,true),.load 20 (S 19) false 1),(some (18,true),.call 21 82 [(S 20),(K 0),(K 7)]),(none,.pick 22 (S 18) (S 21) (KB false)),mv 23 22,(some (23,true),.faddr 24 (S 1) 3),(some (23,true),.load 25 (S 24) false 1),(some (23,true),.call 26 82 [(S 25),(K 0),(K 7)]),(none,.pick 27 (S 23) (S 26) (KB false)),mv 2 27]) .ret))
theorem ee196 : entry Tryz.prog 128 = some (cc195.strip,[2],28) := by kernel_rfl
theorem w_spec_l13Duty (a0 : XDuty) (r : Bool) (h : f_spec_l13Duty a0 = some r) : FC Tryz.prog 128 [.ag (XDuty.row a0)] [.sc (.v (.bool r))] := by
 unfold f_spec_l13Duty at h
 refine FC_go (σ := ⟨[(0,va [aI a0.From,aI a0.To,aI a0.A,aI a0.B])],[],[]⟩) mixed ee196 rfl rfl ?_
 simp only [cc195]
 try simp only [Nat.reduceBEq,reduceMul,reduceAdd,reduceDiv,Int.reduceBEq,RR]
 refine go_bx rfl rfl rfl ?_
 obtain ⟨r1,hr1,h⟩ := ob h
 try simp only [Nat.reduceBEq,reduceMul,reduceAdd,reduceDiv,Int.reduceBEq,RR]
 refine go_callI (w_spec_l01In _ _ _ _ hr1) rfl rfl (Nat.le_of_ble_eq_true rfl) ?_
 rcases Bool.eq_false_or_eq_true r1 with hb2 | hb2
 ·rw [ite_t hb2] at h
  rcases Bool.eq_false_or_eq_true (decide (a0.From < a0.To)) with hb3 | hb3
  ·rw [ite_t hb3] at h
   rcases Bool.eq_false_or_eq_true (decide (a0.To ≤ (2880 : Int))) with hb4 | hb4
   ·rw [ite_t hb4] at h
    obtain ⟨r5,hr5,h⟩ := ob h
    try simp only [hb2,hb3,hb4,Nat.reduceBEq,reduceMul,reduceAdd,reduceDiv,Int.reduceBEq,RR]
    refine go_callI (w_spec_l01In _ _ _ _ hr5) rfl rfl (Nat.le_of_ble_eq_true rfl) ?_
    rcases Bool.eq_false_or_eq_true r5 with hb6 | hb6
    ·rw [ite_t hb6] at h
     obtain ⟨r7,hr7,h⟩ := ob h
     try simp only [hb2,hb3,hb4,hb6,Nat.reduceBEq,reduceMul,reduceAdd,reduceDiv,Int.reduceBEq,RR]
     refine go_callI (w_spec_l01In _ _ _ _ hr7) rfl rfl (Nat.le_of_ble_eq_true rfl) ?_
     try simp only [hb2,hb3,hb4,hb6,Nat.reduceBEq,reduceMul,reduceAdd,reduceDiv,Int.reduceBEq,RR]
     cases h
     exact ⟨⟨rfl,trivial⟩,rfl⟩
    ·rw [ite_f hb6] at h
     try simp only [hb2,hb3,hb4,hb6,Nat.reduceBEq,reduceMul,reduceAdd,reduceDiv,Int.reduceBEq,RR]
     cases h
     exact ⟨⟨rfl,trivial⟩,rfl⟩
   ·rw [ite_f hb4] at h
    try simp only [hb2,hb3,hb4,Nat.reduceBEq,reduceMul,reduceAdd,reduceDiv,Int.reduceBEq,RR]
    cases h
    exact ⟨⟨rfl,trivial⟩,rfl⟩
  ·rw [ite_f hb3] at h
   try simp only [hb2,hb3,Nat.reduceBEq,reduceMul,reduceAdd,reduceDiv,Int.reduceBEq,RR]
   cases h
   exact ⟨⟨rfl,trivial⟩,rfl⟩
 ·rw [ite_f hb2] at h
  try simp only [hb2,Nat.reduceBEq,reduceMul,reduceAdd,reduceDiv,Int.reduceBEq,RR]
  cases h
  exact ⟨⟨rfl,trivial⟩,rfl⟩
/- 92: spec_DutiesOk -/
def cc197 : ACode := .seq (.reg [(none,.keep [8,9,10] [] [])]) (.seq (.reg [bn 11 .lss 10 9]) (.seq (.cond (S 11) .skip (.exit 0)) (.seq (.block 1 (.seq (.reg [(none,.iaddr 12 (S 8) (S 10) 4),(none,.load 13 (S 12) true 4),(none,.alloc 4 [aI 0,aI 0,aI 0,aI 0]),(none,.store (S 4) (S 13) 4)]) (.seq (.reg [(none,.load 14 (S 4) true 4),(none,.call 15 128 [(S 14)]),(none,.un 16 .not (S 15))]) (.cond (S 16) (.seq (.reg [(none,.mv 2 (KB false))]) .ret) .skip)))) (.reg [(none,.bin 17 .add (S 10) (K 1)),mv 10 17]))))
def cc198 : ACode := (.seq (.reg [(none,.mv 2 (KB true))]) .ret)
def cc199 : ACode := (.seq (.reg [(none,.mv 2 (KB false))]) (.seq (.seq (.reg [mv 5 0,(none,.len 6 (S 5)),(none,.bin 7 .gtr (S 6) (K 12))]) (.cond (S 7) (.seq (.reg [(none,.mv 2 (KB false))]) .ret) .skip)) (.seq (.seq (.reg [mv 8 0,(none,.len 9 (S 8)),(none,.mv 10 (K 0))]) (.block 0 (.loop cc197))) cc198)))
theorem ww200 (a0 : List XDuty) : ∀ (n : Nat) (v2 : Int) (r : Bool),f_spec_DutiesOk_1 a0 n v2 = some r → ∀ σ : St,σ.kept [8,9,10] [] [] = ⟨[(8,vc (aL (List.map XDuty.row a0))),(9,vc (aI (a0.length : Int))),(10,vc (aI v2))],[],[]⟩ → go Tryz.prog (.code (.loop cc197) :: [.blk 0,.code cc198]) (Ret [2] [.sc (.v (.bool r))]) .normal (some σ) := by
 intro n
 induction n with
 | zero => intro _ r h; cases h
 | succ n ih =>
  intro v2 r h σ hσ
  rw [f_spec_DutiesOk_1] at h
  refine go_round ?_
  rcases Bool.eq_false_or_eq_true (decide (v2 < (a0.length : Int))) with hb3 | hb3
  ·rw [ite_t hb3] at h
   obtain ⟨x4,hx4,h⟩ := ob h
   try simp only [hσ,hb3,hx4,cc197,Nat.reduceBEq,reduceMul,reduceAdd,reduceDiv,Int.reduceBEq,RR]
   refine go_al rfl rfl ?_
   obtain ⟨r5,hr5,h⟩ := ob h
   try simp only [hb3,hx4,Nat.reduceBEq,reduceMul,reduceAdd,reduceDiv,Int.reduceBEq,RR]
   refine go_callI (w_spec_l13Duty _ _ hr5) rfl rfl (Nat.le_of_ble_eq_true rfl) ?_
   rcases Bool.eq_false_or_eq_true r5 with hb6 | hb6
   ·rw [ite_t hb6] at h
    try simp only [hb3,hx4,hb6,Nat.reduceBEq,reduceMul,reduceAdd,reduceDiv,Int.reduceBEq,RR]
    refine ih _ _ h _ ?_
    try simp only [hb3,hx4,hb6,Nat.reduceBEq,reduceMul,reduceAdd,reduceDiv,Int.reduceBEq,RR,List.map_nil]
   ·rw [ite_f hb6] at h
    try simp only [hb3,hx4,hb6,Nat.reduceBEq,reduceMul,reduceAdd,reduceDiv,Int.reduceBEq,RR]
    cases h
    exact ⟨⟨rfl,trivial⟩,rfl⟩
  ·rw [ite_f hb3] at h
   try simp only [hσ,hb3,cc197,cc198,Nat.reduceBEq,reduceMul,reduceAdd,reduceDiv,Int.reduceBEq,RR]
   cases h
   exact ⟨⟨rfl,trivial⟩,rfl⟩
theorem ee201 : entry Tryz.prog 92 = some (cc199.strip,[2],18) := by kernel_rfl
theorem w_spec_DutiesOk (a0 : List XDuty) (r : Bool) (h : f_spec_DutiesOk a0 = some r) : FC Tryz.prog 92 [.sc (.sl (List.map XDuty.row a0))] [.sc (.v (.bool r))] := by
 unfold f_spec_DutiesOk at h
 refine FC_go (σ := ⟨[(0,vc (aL (List.map XDuty.row a0)))],[],[]⟩) mixed ee201 rfl rfl ?_
 simp only [cc199]
 rcases Bool.eq_false_or_eq_true (decide ((12 : Int) < (a0.length : Int))) with hb1 | hb1
 ·rw [ite_t hb1] at h
  try simp only [hb1,Nat.reduceBEq,reduceMul,reduceAdd,reduceDiv,Int.reduceBEq,RR]
  cases h
  exact ⟨⟨rfl,trivial⟩,rfl⟩
 ·rw [ite_f hb1] at h
  try simp only [hb1,Nat.reduceBEq,reduceMul,reduceAdd,reduceDiv,Int.reduceBEq,RR]
  refine ww200 _ _ _ _ h _ ?_
  try simp only [hb1,Nat.reduceBEq,reduceMul,reduceAdd,reduceDiv,Int.reduceBEq,RR,List.map_nil]
/- 143: spec_Gap -/
def cc202 : ACode := .seq (.reg [(none,.keep [0,1,6,7,25] [6,7] [])]) (.cond (S 25) (.seq (.reg [(none,.mv 8 (K 0)),(none,.mv 9 (KB false))]) .ret) .skip)
def cc203 : ACode := (.seq (.reg [mv 26 0,mv 27 1,fa 28 6 3,ld 29 28,(none,.bin 30 .mul (S 29) (K 8)),fa 31 7 2,ld 32 31,bn 33 .add 30 32,(none,.iaddr 34 (S 27) (S 33) 1),ld 35 34,bn 36 .add 26 35,mv 8 36,(none,.mv 9 (KB true))]) .ret)
def cc204 : ACode := (.seq (.reg [(none,.box 6 (S 2)),(none,.box 7 (S 3)),(none,.mv 8 (K 0)),(none,.mv 9 (KB false))]) (.seq (.seq (.reg [mv 10 0,mv 11 1,(none,.call 12 89 [(S 10),(S 11)]),(none,.un 13 .not (S 12)),mv 14 13,(some (14,false),.faddr 15 (S 6) 3),(some (14,false),.load 16 (S 15) false 1),(some (14,false),.call 17 82 [(S 16),(K 0),(K 7)]),(some (14,false),.un 18 .not (S 17)),(none,.pick 19 (S 14) (KB true) (S 18)),mv 20 19,(some (20,false),.faddr 21 (S 7) 2),(some (20,false),.load 22 (S 21) false 1),(some (20,false),.call 23 82 [(S 22),(K 0),(K 7)]),(some (20,false),.un 24 .not (S 23)),(none,.pick 25 (S 20) (KB true) (S 24))]) cc202) cc203))
theorem ww205 (a0 : Int) (a1 : List Int) (a2 : XDuty) (a3 : XDuty) (v6 : Bool) (r : Int × Bool) (h : f_spec_Gap_1 a0 a1 a2 a3 v6 = some r) (σ : St) (hσ : σ.kept [0,1,6,7,25] [6,7] [] = ⟨[(0,vc (aI a0)),(1,vc (aL (List.map rI a1))),(6,vc (.pb 6 0)),(7,vc (.pb 7 0)),(25,vc (aB v6))],[(6,[aI a2.From,aI a2.To,aI a2.A,aI a2.B]),(7,[aI a3.From,aI a3.To,aI a3.A,aI a3.B])],[]⟩) : go Tryz.prog (.code cc202 :: [.code cc203]) (Ret [8,9] [.sc (.v (.int .i64 r.1)),.sc (.v (.bool r.2))]) .normal (some σ) := by
 unfold f_spec_Gap_1 at h
 rcases Bool.eq_false_or_eq_true v6 with hb7 | hb7
 ·rw [ite_t hb7] at h
  try simp only [hσ,hb7,cc202,Nat.reduceBEq,reduceMul,reduceAdd,reduceDiv,Int.reduceBEq,RR]
  cases h
  exact ⟨⟨rfl,rfl,trivial⟩,rfl⟩
 ·rw [ite_f hb7] at h
  obtain ⟨x8,hx8,h⟩ := ob h
  try simp only [hσ,hb7,hx8,cc202,cc203,Nat.reduceBEq,reduceMul,reduceAdd,reduceDiv,Int.reduceBEq,RR]
  cases h
  exact ⟨⟨rfl,rfl,trivial⟩,rfl⟩
theorem ee206 : entry Tryz.prog 143 = some (cc204.strip,[8,9],37) := by kernel_rfl
theorem w_spec_Gap (a0 : Int) (a1 : List Int) (a2 : XDuty) (a3 : XDuty) (r : Int × Bool) (h : f_spec_Gap a0 a1 a2 a3 = some r) : FC Tryz.prog 143 [.sc (.int .i64 a0),.sc (.sl (List.map rI a1)),.ag (XDuty.row a2),.ag (XDuty.row a3)] [.sc (.v (.int .i64 r.1)),.sc (.v (.bool r.2))] := by
 unfold f_spec_Gap at h
 refine FC_go (σ := ⟨[(0,vc (aI a0)),(1,vc (aL (List.map rI a1))),(2,va [aI a2.From,aI a2.To,aI a2.A,aI a2.B]),(3,va [aI a3.From,aI a3.To,aI a3.A,aI a3.B])],[],[]⟩) mixed ee206 rfl rfl ?_
 simp only [cc204]
 try simp only [Nat.reduceBEq,reduceMul,reduceAdd,reduceDiv,Int.reduceBEq,RR]
 refine go_bx rfl rfl rfl ?_
 try simp only [Nat.reduceBEq,reduceMul,reduceAdd,reduceDiv,Int.reduceBEq,RR]
 refine go_bx rfl rfl rfl ?_
 obtain ⟨r1,hr1,h⟩ := ob h
 try simp only [Nat.reduceBEq,reduceMul,reduceAdd,reduceDiv,Int.reduceBEq,RR]
 refine go_callI (w_spec_l13Table _ _ _ hr1) rfl rfl (Nat.le_of_ble_eq_true rfl) ?_
 rcases Bool.eq_false_or_eq_true r1 with hb2 | hb2
 ·rw [ite_t hb2] at h
  obtain ⟨r3,hr3,h⟩ := ob h
  try simp only [hb2,Nat.reduceBEq,reduceMul,reduceAdd,reduceDiv,Int.reduceBEq,RR]
  refine go_callI (w_spec_l01In _ _ _ _ hr3) rfl rfl (Nat.le_of_ble_eq_true rfl) ?_
  rcases Bool.eq_false_or_eq_true r3 with hb4 | hb4
  ·rw [ite_t hb4] at h
   obtain ⟨r5,hr5,h⟩ := ob h
   try simp only [hb2,hb4,Nat.reduceBEq,reduceMul,reduceAdd,reduceDiv,Int.reduceBEq,RR]
   refine go_callI (w_spec_l01In _ _ _ _ hr5) rfl rfl (Nat.le_of_ble_eq_true rfl) ?_
   try simp only [hb2,hb4,Nat.reduceBEq,reduceMul,reduceAdd,reduceDiv,Int.reduceBEq,RR]
   refine ww205 _ _ _ _ _ _ h _ ?_
   try simp only [hb2,hb4,Nat.reduceBEq,reduceMul,reduceAdd,reduceDiv,Int.reduceBEq,RR,List.map_nil]
  ·rw [ite_f hb4] at h
   try simp only [hb2,hb4,Nat.reduceBEq,reduceMul,reduceAdd,reduceDiv,Int.reduceBEq,RR]
   refine ww205 _ _ _ _ _ _ h _ ?_
   try simp only [hb2,hb4,Nat.reduceBEq,reduceMul,reduceAdd,reduceDiv,Int.reduceBEq,RR,List.map_nil]
 ·rw [ite_f hb2] at h
  try simp only [hb2,Nat.reduceBEq,reduceMul,reduceAdd,reduceDiv,Int.reduceBEq,RR]
  refine ww205 _ _ _ _ _ _ h _ ?_
  try simp only [hb2,Nat.reduceBEq,reduceMul,reduceAdd,reduceDiv,Int.reduceBEq,RR,List.map_nil]
/- 129: spec_CanFollow -/
def cc207 : ACode := (.seq (.reg [(none,.box 6 (S 2)),(none,.box 7 (S 3)),(none,.mv 8 (KB false))]) (.seq (.reg [mv 12 0,mv 13 1,(none,.load 14 (S 6) true 4),(none,.load 15 (S 7) true 4),(none,.call 16 143 [(S 12),(S 13),(S 14),(S 15)]),mv 11 16,(none,.extr 17 (S 11) 0),(none,.extr 18 (S 11) 1),mv 9 17,mv 10 18]) (.seq (.reg [mv 19 10,mv 20 19,(some (20,true),.load 21 (S 6) true 4),(some (20,true),.call 22 128 [(S 21)]),(none,.pick 23 (S 20) (S 22) (KB false)),mv 24 23,(some (24,true),.load 25 (S 7) true 4),(some (24,true),.call 26 128 [(S 25)]),(none,.pick 27 (S 24) (S 26) (KB false)),mv 28 27,(some (28,true),.faddr 29 (S 6) 1),(some (28,true),.load 30 (S 29) false 1),(some (28,true),.mv 31 (S 9)),(some (28,true),.bin 32 .add (S 30) (S 31)),(some (28,true),.faddr 33 (S 7) 0),(some (28,true),.load 34 (S 33) false 1),(some (28,true),.bin 35 .leq (S 32) (S 34)),(none,.pick 36 (S 28) (S 35) (KB false)),mv 8 36]) .ret)))
theorem ee208 : entry Tryz.prog 129 = some (cc207.strip,[8],37) := by kernel_rfl
theorem w_spec_CanFollow (a0 : Int) (a1 : List Int) (a2 : XDuty) (a3 : XDuty) (r : Bool) (h : f_spec_CanFollow a0 a1 a2 a3 = some r) : FC Tryz.prog 129 [.sc (.int .i64 a0),.sc (.sl (List.map rI a1)),.ag (XDuty.row a2),.ag (XDuty.row a3)] [.sc (.v (.bool r))] := by
 unfold f_spec_CanFollow at h
 refine FC_go (σ := ⟨[(0,vc (aI a0)),(1,vc (aL (List.map rI a1))),(2,va [aI a2.From,aI a2.To,aI a2.A,aI a2.B]),(3,va [aI a3.From,aI a3.To,aI a3.A,aI a3.B])],[],[]⟩) mixed ee208 rfl rfl ?_
 simp only [cc207]
 try simp only [Nat.reduceBEq,reduceMul,reduceAdd,reduceDiv,Int.reduceBEq,RR]
 refine go_bx rfl rfl rfl ?_
 try simp only [Nat.reduceBEq,reduceMul,reduceAdd,reduceDiv,Int.reduceBEq,RR]
 refine go_bx rfl rfl rfl ?_
 obtain ⟨r1,hr1,h⟩ := ob h
 try simp only [Nat.reduceBEq,reduceMul,reduceAdd,reduceDiv,Int.reduceBEq,RR]
 refine go_callI (w_spec_Gap _ _ _ _ _ hr1) rfl rfl (Nat.le_of_ble_eq_true rfl) ?_
 rcases Bool.eq_false_or_eq_true r1.2 with hb2 | hb2
 ·rw [ite_t hb2] at h
  obtain ⟨r3,hr3,h⟩ := ob h
  try simp only [hb2,Nat.reduceBEq,reduceMul,reduceAdd,reduceDiv,Int.reduceBEq,RR]
  refine go_callI (w_spec_l13Duty _ _ hr3) rfl rfl (Nat.le_of_ble_eq_true rfl) ?_
  rcases Bool.eq_false_or_eq_true r3 with hb4 | hb4
  ·rw [ite_t hb4] at h
   obtain ⟨r5,hr5,h⟩ := ob h
   try simp only [hb2,hb4,Nat.reduceBEq,reduceMul,reduceAdd,reduceDiv,Int.reduceBEq,RR]
   refine go_callI (w_spec_l13Duty _ _ hr5) rfl rfl (Nat.le_of_ble_eq_true rfl) ?_
   rcases Bool.eq_false_or_eq_true r5 with hb6 | hb6
   ·rw [ite_t hb6] at h
    try simp only [hb2,hb4,hb6,Nat.reduceBEq,reduceMul,reduceAdd,reduceDiv,Int.reduceBEq,RR]
    cases h
    exact ⟨⟨rfl,trivial⟩,rfl⟩
   ·rw [ite_f hb6] at h
    try simp only [hb2,hb4,hb6,Nat.reduceBEq,reduceMul,reduceAdd,reduceDiv,Int.reduceBEq,RR]
    cases h
    exact ⟨⟨rfl,trivial⟩,rfl⟩
  ·rw [ite_f hb4] at h
   try simp only [hb2,hb4,Nat.reduceBEq,reduceMul,reduceAdd,reduceDiv,Int.reduceBEq,RR]
   cases h
   exact ⟨⟨rfl,trivial⟩,rfl⟩
 ·rw [ite_f hb2] at h
  try simp only [hb2,Nat.reduceBEq,reduceMul,reduceAdd,reduceDiv,Int.reduceBEq,RR]
  cases h
  exact ⟨⟨rfl,trivial⟩,rfl⟩
/- 93: spec_l13Both -/
def cc209 : ACode := .seq (.reg [(none,.keep [0,1,2,7,9,10,14,15,16,21,22,23] [9] [832,1280])]) (.seq (.reg [bn 24 .lss 23 22]) (.seq (.cond (S 24) .skip (.exit 2)) (.seq (.block 3 (.seq (.reg [(none,.iaddr 25 (S 21) (S 23) 4),(none,.load 26 (S 25) true 4),(none,.alloc 12 [aI 0,aI 0,aI 0,aI 0]),(none,.store (S 12) (S 26) 4)]) (.reg [mv 27 10,mv 28 0,mv 29 1,(none,.load 30 (S 9) true 4),(none,.load 31 (S 12) true 4),(none,.call 32 129 [(S 28),(S 29),(S 30),(S 31)]),mv 33 32,(some (33,false),.mv 34 (S 0)),(some (33,false),.mv 35 (S 1)),(some (33,false),.load 36 (S 12) true 4),(some (33,false),.load 37 (S 9) true 4),(some (33,false),.call 38 129 [(S 34),(S 35),(S 36),(S 37)]),(none,.pick 39 (S 33) (KB true) (S 38)),(none,.bslice 40 1 [.bool false] 1 [(0,(S 39))]),(none,.app 41 1 1 (S 27) (S 40)),mv 10 41]))) (.reg [(none,.bin 42 .add (S 23) (K 1)),mv 23 42]))))
def cc210 : ACode := (.reg [mv 43 7,mv 44 10,(none,.frz 1280),(none,.bslice 45 1 [.sl []] 1 [(0,(S 44))]),(none,.app 46 1 24 (S 43) (S 45)),mv 7 46])
def cc211 : ACode := (.reg [(none,.bin 47 .add (S 16) (K 1)),mv 16 47])
def cc212 : ACode := .seq (.reg [(none,.keep [0,1,2,7,14,15,16] [] [832])]) (.seq (.reg [bn 17 .lss 16 15]) (.seq (.cond (S 17) .skip (.exit 0)) (.seq (.block 1 (.seq (.reg [(none,.iaddr 18 (S 14) (S 16) 4),(none,.load 19 (S 18) true 4),(none,.alloc 9 [aI 0,aI 0,aI 0,aI 0]),(none,.store (S 9) (S 19) 4)]) (.seq (.reg [(none,.bslice 20 1 [.bool false] 0 []),mv 10 20]) (.seq (.seq (.reg [mv 21 2,(none,.len 22 (S 21)),(none,.mv 23 (K 0))]) (.block 2 (.loop cc209))) cc210)))) cc211)))
def cc213 : ACode := (.seq (.reg [mv 48 7,mv 6 48]) .ret)
def cc214 : ACode := (.seq (.reg [(none,.mv 6 KN)]) (.seq (.reg [(none,.bslice 13 1 [.sl []] 0 []),mv 7 13]) (.seq (.seq (.reg [mv 14 2,(none,.len 15 (S 14)),(none,.mv 16 (K 0))]) (.block 0 (.loop cc212))) cc213)))
theorem ww215 (a0 : Int) (a1 : List Int) (a2 : List XDuty) (v1 : Int) (x4 : XDuty) (v2 : List (List Bool)) (k_spec_l13Both_1 : Int → (List (List Bool)) → Option (List (List Bool))) (hk_spec_l13Both_1 : ∀ (v1 : Int) (v2 : List (List Bool)) zr,k_spec_l13Both_1 v1 v2 = some zr → ∀ σ : St,σ.kept [0,1,2,7,14,15,16] [] [832] = ⟨[(0,vc (aI a0)),(1,vc (aL (List.map rI a1))),(2,vc (aL (List.map XDuty.row a2))),(7,vc (.own 832)),(14,vc (aL (List.map XDuty.row a2))),(15,vc (aI (a2.length : Int))),(16,vc (aI v1))],[],[(832,1,List.map (rL rB) v2)]⟩ → go Tryz.prog (.code (.loop cc212) :: [.blk 0,.code cc213]) (Ret [6] [.sc (.o 1 (List.map (rL rB) zr))]) .normal (some σ)) : ∀ (n : Nat) (v5 : Int) (v6 : List Bool) (r : (List (List Bool))),f_spec_l13Both_2 a0 a1 a2 v1 x4 v2 k_spec_l13Both_1 n v5 v6 = some r → ∀ σ : St,σ.kept [0,1,2,7,9,10,14,15,16,21,22,23] [9] [832,1280] = ⟨[(0,vc (aI a0)),(1,vc (aL (List.map rI a1))),(2,vc (aL (List.map XDuty.row a2))),(7,vc (.own 832)),(9,vc (.pb 9 0)),(10,vc (.own 1280)),(14,vc (aL (List.map XDuty.row a2))),(15,vc (aI (a2.length : Int))),(16,vc (aI v1)),(21,vc (aL (List.map XDuty.row a2))),(22,vc (aI (a2.length : Int))),(23,vc (aI v5))],[(9,[aI x4.From,aI x4.To,aI x4.A,aI x4.B])],[(832,1,List.map (rL rB) v2),(1280,1,List.map rB v6)]⟩ → go Tryz.prog (.code (.loop cc209) :: [.blk 2,.code cc210,.blk 1,.code cc211,.code (.loop cc212),.blk 0,.code cc213]) (Ret [6] [.sc (.o 1 (List.map (rL rB) r))]) .normal (some σ) := by
 intro n
 induction n with
 | zero => intro _ _ r h; cases h
 | succ n ih =>
  intro v5 v6 r h σ hσ
  rw [f_spec_l13Both_2] at h
  refine go_round ?_
  rcases Bool.eq_false_or_eq_true (decide (v5 < (a2.length : Int))) with hb7 | hb7
  ·rw [ite_t hb7] at h
   obtain ⟨x8,hx8,h⟩ := ob h
   try simp only [hσ,hb7,hx8,cc209,Nat.reduceBEq,reduceMul,reduceAdd,reduceDiv,Int.reduceBEq,RR]
   refine go_al rfl rfl ?_
   obtain ⟨r9,hr9,h⟩ := ob h
   try simp only [hb7,hx8,Nat.reduceBEq,reduceMul,reduceAdd,reduceDiv,Int.reduceBEq,RR]
   refine go_callI (w_spec_CanFollow _ _ _ _ _ hr9) rfl rfl (Nat.le_of_ble_eq_true rfl) ?_
   rcases Bool.eq_false_or_eq_true r9 with hb10 | hb10
   ·rw [ite_t hb10] at h
    try simp only [hb7,hx8,hb10,Nat.reduceBEq,reduceMul,reduceAdd,reduceDiv,Int.reduceBEq,RR]
    refine go_bsl (es := List.map rB ([true] : List Bool)) rfl rfl ?_
    obtain ⟨hg11,h⟩ := of_guard h
    try simp only [hb7,hx8,hb10,hg11,Nat.reduceBEq,reduceMul,reduceAdd,reduceDiv,Int.reduceBEq,RR]
    refine ih _ _ _ h _ ?_
    try simp only [hb7,hx8,hb10,hg11,Nat.reduceBEq,reduceMul,reduceAdd,reduceDiv,Int.reduceBEq,RR,List.map_nil]
   ·rw [ite_f hb10] at h
    obtain ⟨r12,hr12,h⟩ := ob h
    try simp only [hb7,hx8,hb10,Nat.reduceBEq,reduceMul,reduceAdd,reduceDiv,Int.reduceBEq,RR]
    refine go_callI (w_spec_CanFollow _ _ _ _ _ hr12) rfl rfl (Nat.le_of_ble_eq_true rfl) ?_
    try simp only [hb7,hx8,hb10,Nat.reduceBEq,reduceMul,reduceAdd,reduceDiv,Int.reduceBEq,RR]
    refine go_bsl (es := List.map rB ([r12] : List Bool)) rfl rfl ?_
    obtain ⟨hg13,h⟩ := of_guard h
    try simp only [hb7,hx8,hb10,hg13,Nat.reduceBEq,reduceMul,reduceAdd,reduceDiv,Int.reduceBEq,RR]
    refine ih _ _ _ h _ ?_
    try simp only [hb7,hx8,hb10,hg13,Nat.reduceBEq,reduceMul,reduceAdd,reduceDiv,Int.reduceBEq,RR,List.map_nil]
  ·rw [ite_f hb7] at h
   try simp only [hσ,hb7,cc209,cc210,Nat.reduceBEq,reduceMul,reduceAdd,reduceDiv,Int.reduceBEq,RR]
   refine go_frz' rfl ?_
   try simp only [hb7,Nat.reduceBEq,reduceMul,reduceAdd,reduceDiv,Int.reduceBEq,RR]
   refine go_bsl (es := List.map (rL rB) ([v6] : List (List Bool))) rfl rfl ?_
   obtain ⟨hg14,h⟩ := of_guard h
   try simp only [hb7,hg14,cc211,Nat.reduceBEq,reduceMul,reduceAdd,reduceDiv,Int.reduceBEq,RR]
   refine hk_spec_l13Both_1 _ _ _ h _ ?_
   try simp only [hb7,hg14,Nat.reduceBEq,reduceMul,reduceAdd,reduceDiv,Int.reduceBEq,RR,List.map_nil]
theorem ww216 (a0 : Int) (a1 : List Int) (a2 : List XDuty) : ∀ (n : Nat) (v1 : Int) (v2 : List (List Bool)) (r : (List (List Bool))),f_spec_l13Both_1 a0 a1 a2 n v1 v2 = some r → ∀ σ : St,σ.kept [0,1,2,7,14,15,16] [] [832] = ⟨[(0,vc (aI a0)),(1,vc (aL (List.map rI a1))),(2,vc (aL (List.map XDuty.row a2))),(7,vc (.own 832)),(14,vc (aL (List.map XDuty.row a2))),(15,vc (aI (a2.length : Int))),(16,vc (aI v1))],[],[(832,1,List.map (rL rB) v2)]⟩ → go Tryz.prog (.code (.loop cc212) :: [.blk 0,.code cc213]) (Ret [6] [.sc (.o 1 (List.map (rL rB) r))]) .normal (some σ) := by
 intro n
 induction n with
 | zero => intro _ _ r h; cases h
 | succ n ih =>
  intro v1 v2 r h σ hσ
  rw [f_spec_l13Both_1] at h
  refine go_round ?_
  rcases Bool.eq_false_or_eq_true (decide (v1 < (a2.length : Int))) with hb3 | hb3
  ·rw [ite_t hb3] at h
   obtain ⟨x4,hx4,h⟩ := ob h
   try simp only [hσ,hb3,hx4,cc212,Nat.reduceBEq,reduceMul,reduceAdd,reduceDiv,Int.reduceBEq,RR]
   refine go_al rfl rfl ?_
   try simp only [hb3,hx4,Nat.reduceBEq,reduceMul,reduceAdd,reduceDiv,Int.reduceBEq,RR]
   refine go_bsl (es := List.map rB ([] : List Bool)) rfl rfl ?_
   try simp only [hb3,hx4,Nat.reduceBEq,reduceMul,reduceAdd,reduceDiv,Int.reduceBEq,RR]
   refine ww215 _ _ _ _ _ _ (f_spec_l13Both_1 a0 a1 a2 n) ih _ _ _ _ h _ ?_
   try simp only [hb3,hx4,Nat.reduceBEq,reduceMul,reduceAdd,reduceDiv,Int.reduceBEq,RR,List.map_nil]
  ·rw [ite_f hb3] at h
   try simp only [hσ,hb3,cc212,cc213,Nat.reduceBEq,reduceMul,reduceAdd,reduceDiv,Int.reduceBEq,RR]
   cases h
   exact ⟨⟨rfl,trivial⟩,rfl⟩
theorem ee217 : entry Tryz.prog 93 = some (cc214.strip,[6],49) := by kernel_rfl
theorem w_spec_l13Both (a0 : Int) (a1 : List Int) (a2 : List XDuty) (r : (List (List Bool))) (h : f_spec_l13Both a0 a1 a2 = some r) : FC Tryz.prog 93 [.sc (.int .i64 a0),.sc (.sl (List.map rI a1)),.sc (.sl (List.map XDuty.row a2))] [.sc (.o 1 (List.map (rL rB) r))] := by
 unfold f_spec_l13Both at h
 refine FC_go (σ := ⟨[(0,vc (aI a0)),(1,vc (aL (List.map rI a1))),(2,vc (aL (List.map XDuty.row a2)))],[],[]⟩) mixed ee217 rfl rfl ?_
 simp only [cc214]
 try simp only [Nat.reduceBEq,reduceMul,reduceAdd,reduceDiv,Int.reduceBEq,RR]
 refine go_bsl (es := List.map (rL rB) ([] : List (List Bool))) rfl rfl ?_
 try simp only [Nat.reduceBEq,reduceMul,reduceAdd,reduceDiv,Int.reduceBEq,RR]
 refine ww216 _ _ _ _ _ _ _ h _ ?_
 try simp only [Nat.reduceBEq,reduceMul,reduceAdd,reduceDiv,Int.reduceBEq,RR,List.map_nil]
/- 94: spec_l13Search -/
def cc218 : ACode := .seq (.reg [(none,.keep [0,1,2,8,23,24,25] [] [])]) (.seq (.reg [bn 26 .lss 25 24]) (.seq (.cond (S 26) .skip (.exit 0)) (.seq (.block 1 (.seq (.reg [(none,.iaddr 27 (S 23) (S 25) 1),ld 28 27,mv 10 28]) (.reg [mv 29 8,mv 30 10,(none,.bin 31 .add (S 30) (K 1)),(none,.mm 32 true (S 29) (S 31)),mv 8 32]))) (.reg [(none,.bin 33 .add (S 25) (K 1)),mv 25 33]))))
def cc219 : ACode := .seq (.reg [(none,.keep [0,1,2,8,11,12,44,45,46] [] [])]) (.seq (.reg [bn 47 .lss 46 45]) (.seq (.cond (S 47) .skip (.exit 4)) (.seq (.block 5 (.seq (.reg [mv 48 46,(none,.iaddr 49 (S 44) (S 46) 1),ld 50 49,mv 13 48,mv 14 50]) (.seq (.reg [mv 51 14,mv 52 11,bn 53 .eql 51 52,mv 54 53,(some (54,true),.mv 55 (S 0)),(some (54,true),.mv 56 (S 1)),(some (54,true),.len 57 (S 56)),(some (54,true),.iaddr 58 (S 55) (S 57) 1),(some (54,true),.load 59 (S 58) false 1),(some (54,true),.mv 60 (S 13)),(some (54,true),.iaddr 61 (S 59) (S 60) 1),(some (54,true),.load 62 (S 61) false 1),(some (54,true),.un 63 .not (S 62)),(none,.pick 64 (S 54) (S 63) (KB false))]) (.cond (S 64) (.reg [(none,.mv 12 (KB false))]) .skip)))) (.reg [(none,.bin 65 .add (S 46) (K 1)),mv 46 65]))))
def cc220 : ACode := (.seq (.seq (.reg [mv 66 12,(none,.un 67 .not (S 66))]) (.cond (S 67) (.exit 3) .skip)) (.seq (.reg [mv 69 0,(none,.bslice 70 1 [.int .i64 0] 0 []),mv 71 1,(none,.app 72 1 8 (S 70) (S 71)),mv 73 11,(none,.bslice 74 1 [.int .i64 0] 1 [(0,(S 73))]),(none,.app 75 1 8 (S 72) (S 74)),mv 76 2,(none,.frz 4480),(none,.call 77 94 [(S 69),(S 75),(S 76)]),mv 68 77,(none,.extr 78 (S 68) 0),(none,.extr 79 (S 68) 1),mv 15 78,mv 16 79]) (.seq (.reg [mv 80 16]) (.cond (S 80) (.seq (.reg [mv 81 15,mv 6 81,(none,.mv 7 (KB true))]) .ret) .skip))))
def cc221 : ACode := .seq (.reg [(none,.keep [0,1,2,8,11] [] [])]) (.reg [mv 42 11,(none,.bin 43 .add (S 42) (K 1)),mv 11 43])
def cc222 : ACode := .seq (.reg [(none,.keep [0,1,2,8,11] [] [])]) (.seq (.seq (.reg [mv 34 11,mv 35 8,bn 36 .leq 34 35,mv 37 36,(some (37,true),.mv 38 (S 11)),(some (37,true),.mv 39 (S 2)),(some (37,true),.bin 40 .lss (S 38) (S 39)),(none,.pick 41 (S 37) (S 40) (KB false))]) (.cond (S 41) .skip (.exit 2))) (.seq (.block 3 (.seq (.reg [(none,.mv 12 (KB true))]) (.seq (.seq (.reg [mv 44 1,(none,.len 45 (S 44)),(none,.mv 46 (K 0))]) (.block 4 (.loop cc219))) cc220))) cc221))
def cc223 : ACode := (.seq (.reg [(none,.mv 6 KN),(none,.mv 7 (KB false))]) .ret)
def cc224 : ACode := (.seq (.seq (.reg [(none,.mv 11 (K 0))]) (.block 2 (.loop cc222))) cc223)
def cc225 : ACode := (.seq (.reg [(none,.mv 6 KN),(none,.mv 7 (KB false))]) (.seq (.seq (.reg [mv 17 1,(none,.len 18 (S 17)),mv 19 0,(none,.len 20 (S 19)),bn 21 .eql 18 20]) (.cond (S 21) (.seq (.reg [mv 22 1,mv 6 22,(none,.mv 7 (KB true))]) .ret) .skip)) (.seq (.reg [(none,.mv 8 (K 0))]) (.seq (.seq (.reg [mv 23 1,(none,.len 24 (S 23)),(none,.mv 25 (K 0))]) (.block 0 (.loop cc218))) cc224))))
theorem ww226 (rec_ : (List (List Bool)) → (List Int) → Int → Option ((List Int) × Bool)) (h_rec : ∀ (a0 : List (List Bool)) (a1 : List Int) (a2 : Int) zr,rec_ a0 a1 a2 = some zr → FC Tryz.prog 94 [.sc (.sl (List.map (rL rB) a0)),.sc (.sl (List.map rI a1)),.sc (.int .i64 a2)] [.sc (.v (.sl (List.map rI zr.1))),.sc (.v (.bool zr.2))]) (a0 : List (List Bool)) (a1 : List Int) (a2 : Int) (v2 : Int) (v6 : Int) (k_spec_l13Search_2 : Int → Option ((List Int) × Bool)) (hk_spec_l13Search_2 : ∀ (v6 : Int) zr,k_spec_l13Search_2 v6 = some zr → ∀ σ : St,σ.kept [0,1,2,8,11] [] [] = ⟨[(0,vc (aL (List.map (rL rB) a0))),(1,vc (aL (List.map rI a1))),(2,vc (aI a2)),(8,vc (aI v2)),(11,vc (aI v6))],[],[]⟩ → go Tryz.prog (.code (.loop cc222) :: [.blk 2,.code cc223]) (Ret [6,7] [.sc (.v (.sl (List.map rI zr.1))),.sc (.v (.bool zr.2))]) .normal (some σ)) (r : (List Int) × Bool) (h : f_spec_l13Search_4 rec_ a0 a1 a2 v2 v6 k_spec_l13Search_2 = some r) (σ : St) (hσ : σ.kept [0,1,2,8,11] [] [] = ⟨[(0,vc (aL (List.map (rL rB) a0))),(1,vc (aL (List.map rI a1))),(2,vc (aI a2)),(8,vc (aI v2)),(11,vc (aI v6))],[],[]⟩) : go Tryz.prog (.code cc221 :: [.code (.loop cc222),.blk 2,.code cc223]) (Ret [6,7] [.sc (.v (.sl (List.map rI r.1))),.sc (.v (.bool r.2))]) .normal (some σ) := by
 unfold f_spec_l13Search_4 at h
 try simp only [hσ,cc221,Nat.reduceBEq,reduceMul,reduceAdd,reduceDiv,Int.reduceBEq,RR]
 refine hk_spec_l13Search_2 _ _ h _ ?_
 try simp only [Nat.reduceBEq,reduceMul,reduceAdd,reduceDiv,Int.reduceBEq,RR,List.map_nil]
theorem ww227 (rec_ : (List (List Bool)) → (List Int) → Int → Option ((List Int) × Bool)) (h_rec : ∀ (a0 : List (List Bool)) (a1 : List Int) (a2 : Int) zr,rec_ a0 a1 a2 = some zr → FC Tryz.prog 94 [.sc (.sl (List.map (rL rB) a0)),.sc (.sl (List.map rI a1)),.sc (.int .i64 a2)] [.sc (.v (.sl (List.map rI zr.1))),.sc (.v (.bool zr.2))]) (a0 : List (List Bool)) (a1 : List Int) (a2 : Int) (v2 : Int) (v6 : Int) (k_spec_l13Search_2 : Int → Option ((List Int) × Bool)) (hk_spec_l13Search_2 : ∀ (v6 : Int) zr,k_spec_l13Search_2 v6 = some zr → ∀ σ : St,σ.kept [0,1,2,8,11] [] [] = ⟨[(0,vc (aL (List.map (rL rB) a0))),(1,vc (aL (List.map rI a1))),(2,vc (aI a2)),(8,vc (aI v2)),(11,vc (aI v6))],[],[]⟩ → go Tryz.prog (.code (.loop cc222) :: [.blk 2,.code cc223]) (Ret [6,7] [.sc (.v (.sl (List.map rI zr.1))),.sc (.v (.bool zr.2))]) .normal (some σ)) : ∀ (n : Nat) (v9 : Bool) (v10 : Int) (r : (List Int) × Bool),f_spec_l13Search_3 rec_ a0 a1 a2 v2 v6 k_spec_l13Search_2 n v9 v10 = some r → ∀ σ : St,σ.kept [0,1,2,8,11,12,44,45,46] [] [] = ⟨[(0,vc (aL (List.map (rL rB) a0))),(1,vc (aL (List.map rI a1))),(2,vc (aI a2)),(8,vc (aI v2)),(11,vc (aI v6)),(12,vc (aB v9)),(44,vc (aL (List.map rI a1))),(45,vc (aI (a1.length : Int))),(46,vc (aI v10))],[],[]⟩ → go Tryz.prog (.code (.loop cc219) :: [.blk 4,.code cc220,.blk 3,.code cc221,.code (.loop cc222),.blk 2,.code cc223]) (Ret [6,7] [.sc (.v (.sl (List.map rI r.1))),.sc (.v (.bool r.2))]) .normal (some σ) := by
 intro n
 induction n with
 | zero => intro _ _ r h; cases h
 | succ n ih =>
  intro v9 v10 r h σ hσ
  rw [f_spec_l13Search_3] at h
  refine go_round ?_
  rcases Bool.eq_false_or_eq_true (decide (v10 < (a1.length : Int))) with hb11 | hb11
  ·rw [ite_t hb11] at h
   obtain ⟨x12,hx12,h⟩ := ob h
   rcases Bool.eq_false_or_eq_true (x12 == v6) with hb13 | hb13
   ·rw [ite_t hb13] at h
    obtain ⟨x14,hx14,h⟩ := ob h
    obtain ⟨x15,hx15,h⟩ := ob h
    rcases Bool.eq_false_or_eq_true x15 with hb16 | hb16
    ·rw [ite_t hb16] at h
     try simp only [hσ,hb11,hx12,hb13,hx14,hx15,hb16,cc219,Nat.reduceBEq,reduceMul,reduceAdd,reduceDiv,Int.reduceBEq,RR]
     refine ih _ _ _ h _ ?_
     try simp only [hb11,hx12,hb13,hx14,hx15,hb16,Nat.reduceBEq,reduceMul,reduceAdd,reduceDiv,Int.reduceBEq,RR,List.map_nil]
    ·rw [ite_f hb16] at h
     try simp only [hσ,hb11,hx12,hb13,hx14,hx15,hb16,cc219,Nat.reduceBEq,reduceMul,reduceAdd,reduceDiv,Int.reduceBEq,RR]
     refine ih _ _ _ h _ ?_
     try simp only [hb11,hx12,hb13,hx14,hx15,hb16,Nat.reduceBEq,reduceMul,reduceAdd,reduceDiv,Int.reduceBEq,RR,List.map_nil]
   ·rw [ite_f hb13] at h
    try simp only [hσ,hb11,hx12,hb13,cc219,Nat.reduceBEq,reduceMul,reduceAdd,reduceDiv,Int.reduceBEq,RR]
    refine ih _ _ _ h _ ?_
    try simp only [hb11,hx12,hb13,Nat.reduceBEq,reduceMul,reduceAdd,reduceDiv,Int.reduceBEq,RR,List.map_nil]
  ·rw [ite_f hb11] at h
   rcases Bool.eq_false_or_eq_true v9 with hb17 | hb17
   ·rw [ite_t hb17] at h
    try simp only [hσ,hb11,hb17,cc219,cc220,Nat.reduceBEq,reduceMul,reduceAdd,reduceDiv,Int.reduceBEq,RR]
    refine go_bsl (es := List.map rI ([] : List Int)) rfl rfl ?_
    obtain ⟨hg18,h⟩ := of_guard h
    try simp only [hb11,hb17,hg18,Nat.reduceBEq,reduceMul,reduceAdd,reduceDiv,Int.reduceBEq,RR]
    refine go_bsl (es := List.map rI ([v6] : List Int)) rfl rfl ?_
    obtain ⟨hg19,h⟩ := of_guard h
    try simp only [List.cons_append,List.nil_append] at hg19
    try simp only [hb11,hb17,hg18,hg19,Nat.reduceBEq,reduceMul,reduceAdd,reduceDiv,Int.reduceBEq,RR]
    refine go_frz' rfl ?_
    obtain ⟨r20,hr20,h⟩ := ob h
    try simp only [hb11,hb17,hg18,hg19,Nat.reduceBEq,reduceMul,reduceAdd,reduceDiv,Int.reduceBEq,RR]
    refine go_callI (h_rec _ _ _ _ hr20) rfl rfl (Nat.le_of_ble_eq_true rfl) ?_
    rcases Bool.eq_false_or_eq_true r20.2 with hb21 | hb21
    ·rw [ite_t hb21] at h
     try simp only [hb11,hb17,hg18,hg19,hb21,Nat.reduceBEq,reduceMul,reduceAdd,reduceDiv,Int.reduceBEq,RR]
     cases h
     exact ⟨⟨rfl,rfl,trivial⟩,rfl⟩
    ·rw [ite_f hb21] at h
     try simp only [hb11,hb17,hg18,hg19,hb21,Nat.reduceBEq,reduceMul,reduceAdd,reduceDiv,Int.reduceBEq,RR]
     refine ww226 rec_ h_rec _ _ _ _ _ k_spec_l13Search_2 hk_spec_l13Search_2 _ h _ ?_
     try simp only [hb11,hb17,hg18,hg19,hb21,Nat.reduceBEq,reduceMul,reduceAdd,reduceDiv,Int.reduceBEq,RR,List.map_nil]
   ·rw [ite_f hb17] at h
    try simp only [hσ,hb11,hb17,cc219,cc220,Nat.reduceBEq,reduceMul,reduceAdd,reduceDiv,Int.reduceBEq,RR]
    refine ww226 rec_ h_rec _ _ _ _ _ k_spec_l13Search_2 hk_spec_l13Search_2 _ h _ ?_
    try simp only [hb11,hb17,Nat.reduceBEq,reduceMul,reduceAdd,reduceDiv,Int.reduceBEq,RR,List.map_nil]
theorem ww228 (rec_ : (List (List Bool)) → (List Int) → Int → Option ((List Int) × Bool)) (h_rec : ∀ (a0 : List (List Bool)) (a1 : List Int) (a2 : Int) zr,rec_ a0 a1 a2 = some zr → FC Tryz.prog 94 [.sc (.sl (List.map (rL rB) a0)),.sc (.sl (List.map rI a1)),.sc (.int .i64 a2)] [.sc (.v (.sl (List.map rI zr.1))),.sc (.v (.bool zr.2))]) (a0 : List (List Bool)) (a1 : List Int) (a2 : Int) (v2 : Int) : ∀ (n : Nat) (v6 : Int) (r : (List Int) × Bool),f_spec_l13Search_2 rec_ a0 a1 a2 v2 n v6 = some r → ∀ σ : St,σ.kept [0,1,2,8,11] [] [] = ⟨[(0,vc (aL (List.map (rL rB) a0))),(1,vc (aL (List.map rI a1))),(2,vc (aI a2)),(8,vc (aI v2)),(11,vc (aI v6))],[],[]⟩ → go Tryz.prog (.code (.loop cc222) :: [.blk 2,.code cc223]) (Ret [6,7] [.sc (.v (.sl (List.map rI r.1))),.sc (.v (.bool r.2))]) .normal (some σ) := by
 intro n
 induction n with
 | zero => intro _ r h; cases h
 | succ n ih =>
  intro v6 r h σ hσ
  rw [f_spec_l13Search_2] at h
  refine go_round ?_
  rcases Bool.eq_false_or_eq_true (decide (v6 ≤ v2)) with hb7 | hb7
  ·rw [ite_t hb7] at h
   rcases Bool.eq_false_or_eq_true (decide (v6 < a2)) with hb8 | hb8
   ·rw [ite_t hb8] at h
    try simp only [hσ,hb7,hb8,cc222,Nat.reduceBEq,reduceMul,reduceAdd,reduceDiv,Int.reduceBEq,RR]
    refine ww227 rec_ h_rec _ _ _ _ _ (f_spec_l13Search_2 rec_ a0 a1 a2 v2 n) ih _ _ _ _ h _ ?_
    try simp only [hb7,hb8,Nat.reduceBEq,reduceMul,reduceAdd,reduceDiv,Int.reduceBEq,RR,List.map_nil]
   ·rw [ite_f hb8] at h
    try simp only [hσ,hb7,hb8,cc222,cc223,Nat.reduceBEq,reduceMul,reduceAdd,reduceDiv,Int.reduceBEq,RR]
    cases h
    exact ⟨⟨rfl,rfl,trivial⟩,rfl⟩
  ·rw [ite_f hb7] at h
   try simp only [hσ,hb7,cc222,cc223,Nat.reduceBEq,reduceMul,reduceAdd,reduceDiv,Int.reduceBEq,RR]
   cases h
   exact ⟨⟨rfl,rfl,trivial⟩,rfl⟩
theorem ww229 (rec_ : (List (List Bool)) → (List Int) → Int → Option ((List Int) × Bool)) (h_rec : ∀ (a0 : List (List Bool)) (a1 : List Int) (a2 : Int) zr,rec_ a0 a1 a2 = some zr → FC Tryz.prog 94 [.sc (.sl (List.map (rL rB) a0)),.sc (.sl (List.map rI a1)),.sc (.int .i64 a2)] [.sc (.v (.sl (List.map rI zr.1))),.sc (.v (.bool zr.2))]) (a0 : List (List Bool)) (a1 : List Int) (a2 : Int) : ∀ (n : Nat) (v2 : Int) (v3 : Int) (r : (List Int) × Bool),f_spec_l13Search_1 rec_ a0 a1 a2 n v2 v3 = some r → ∀ σ : St,σ.kept [0,1,2,8,23,24,25] [] [] = ⟨[(0,vc (aL (List.map (rL rB) a0))),(1,vc (aL (List.map rI a1))),(2,vc (aI a2)),(8,vc (aI v2)),(23,vc (aL (List.map rI a1))),(24,vc (aI (a1.length : Int))),(25,vc (aI v3))],[],[]⟩ → go Tryz.prog (.code (.loop cc218) :: [.blk 0,.code cc224]) (Ret [6,7] [.sc (.v (.sl (List.map rI r.1))),.sc (.v (.bool r.2))]) .normal (some σ) := by
 intro n
 induction n with
 | zero => intro _ _ r h; cases h
 | succ n ih =>
  intro v2 v3 r h σ hσ
  rw [f_spec_l13Search_1] at h
  refine go_round ?_
  rcases Bool.eq_false_or_eq_true (decide (v3 < (a1.length : Int))) with hb4 | hb4
  ·rw [ite_t hb4] at h
   obtain ⟨x5,hx5,h⟩ := ob h
   try simp only [hσ,hb4,hx5,cc218,Nat.reduceBEq,reduceMul,reduceAdd,reduceDiv,Int.reduceBEq,RR]
   refine ih _ _ _ h _ ?_
   try simp only [hb4,hx5,Nat.reduceBEq,reduceMul,reduceAdd,reduceDiv,Int.reduceBEq,RR,List.map_nil]
  ·rw [ite_f hb4] at h
   try simp only [hσ,hb4,cc218,cc224,Nat.reduceBEq,reduceMul,reduceAdd,reduceDiv,Int.reduceBEq,RR]
   refine ww228 rec_ h_rec _ _ _ _ _ _ _ h _ ?_
   try simp only [hb4,Nat.reduceBEq,reduceMul,reduceAdd,reduceDiv,Int.reduceBEq,RR,List.map_nil]
theorem ee230 : entry Tryz.prog 94 = some (cc225.strip,[6,7],82) := by kernel_rfl
theorem w_spec_l13Search_b (rec_ : (List (List Bool)) → (List Int) → Int → Option ((List Int) × Bool)) (a0 : List (List Bool)) (a1 : List Int) (a2 : Int) (r : (List Int) × Bool) (h_rec : ∀ (a0 : List (List Bool)) (a1 : List Int) (a2 : Int) zr,rec_ a0 a1 a2 = some zr → FC Tryz.prog 94 [.sc (.sl (List.map (rL rB) a0)),.sc (.sl (List.map rI a1)),.sc (.int .i64 a2)] [.sc (.v (.sl (List.map rI zr.1))),.sc (.v (.bool zr.2))]) (h : f_spec_l13Search_b rec_ a0 a1 a2 = some r) : FC Tryz.prog 94 [.sc (.sl (List.map (rL rB) a0)),.sc (.sl (List.map rI a1)),.sc (.int .i64 a2)] [.sc (.v (.sl (List.map rI r.1))),.sc (.v (.bool r.2))] := by
 unfold f_spec_l13Search_b at h
 refine FC_go (σ := ⟨[(0,vc (aL (List.map (rL rB) a0))),(1,vc (aL (List.map rI a1))),(2,vc (aI a2))],[],[]⟩) mixed ee230 rfl rfl ?_
 simp only [cc225]
 rcases Bool.eq_false_or_eq_true ((a1.length : Int) == (a0.length : Int)) with hb1 | hb1
 ·rw [ite_t hb1] at h
  try simp only [hb1,Nat.reduceBEq,reduceMul,reduceAdd,reduceDiv,Int.reduceBEq,RR]
  cases h
  exact ⟨⟨rfl,rfl,trivial⟩,rfl⟩
 ·rw [ite_f hb1] at h
  try simp only [hb1,Nat.reduceBEq,reduceMul,reduceAdd,reduceDiv,Int.reduceBEq,RR]
  refine ww229 rec_ h_rec _ _ _ _ _ _ _ h _ ?_
  try simp only [hb1,Nat.reduceBEq,reduceMul,reduceAdd,reduceDiv,Int.reduceBEq,RR,List.map_nil]
theorem w_spec_l13Search_r : ∀ (n : Nat) (a0 : List (List Bool)) (a1 : List Int) (a2 : Int) (r : (List Int) × Bool),f_spec_l13Search_r n a0 a1 a2 = some r → FC Tryz.prog 94 [.sc (.sl (List.map (rL rB) a0)),.sc (.sl (List.map rI a1)),.sc (.int .i64 a2)] [.sc (.v (.sl (List.map rI r.1))),.sc (.v (.bool r.2))] := by
 intro n
 induction n with
 | zero => intro _ _ _ r h; cases h
 | succ n ih => intro a0 a1 a2 r h; rw [f_spec_l13Search_r] at h; exact w_spec_l13Search_b (f_spec_l13Search_r n) a0 a1 a2 r ih h
theorem w_spec_l13Search (a0 : List (List Bool)) (a1 : List Int) (a2 : Int) (r : (List Int) × Bool) (h : f_spec_l13Search a0 a1 a2 = some r) : FC Tryz.prog 94 [.sc (.sl (List.map (rL rB) a0)),.sc (.sl (List.map rI a1)),.sc (.int .i64 a2)] [.sc (.v (.sl (List.map rI r.1))),.sc (.v (.bool r.2))] := w_spec_l13Search_r bigN a0 a1 a2 r h
/- 52: spec_LeastCover -/
def cc231 : ACode := .seq (.reg [(none,.keep [0,1,2,21] [] [])]) (.cond (S 21) (.seq (.reg [(none,.mv 6 KN),(none,.mv 7 (K 0)),(none,.mv 8 (KB false))]) .ret) .skip)
def cc232 : ACode := .seq (.reg [(none,.keep [2,9,10] [] [])]) (.seq (.seq (.reg [mv 26 10,mv 27 2,(none,.len 28 (S 27)),bn 29 .leq 26 28]) (.cond (S 29) .skip (.exit 0))) (.seq (.block 1 (.seq (.reg [mv 33 9,(none,.bslice 34 1 [.int .i64 0] 0 []),mv 35 10,(none,.frz 2176),(none,.call 36 94 [(S 33),(S 34),(S 35)]),mv 32 36,(none,.extr 37 (S 32) 0),(none,.extr 38 (S 32) 1),mv 11 37,mv 12 38]) (.seq (.reg [mv 39 12]) (.cond (S 39) (.seq (.reg [mv 40 11,mv 41 10,mv 6 40,mv 7 41,(none,.mv 8 (KB true))]) .ret) .skip)))) (.reg [mv 30 10,(none,.bin 31 .add (S 30) (K 1)),mv 10 31])))
def cc233 : ACode := (.seq (.reg [(none,.mv 6 KN),(none,.mv 7 (K 0)),(none,.mv 8 (KB false))]) .ret)
def cc234 : ACode := (.seq (.reg [mv 22 0,mv 23 1,mv 24 2,(none,.call 25 93 [(S 22),(S 23),(S 24)]),(none,.frz 1600),mv 9 25]) (.seq (.seq (.reg [(none,.mv 10 (K 0))]) (.block 0 (.loop cc232))) cc233))
def cc235 : ACode := (.seq (.reg [(none,.mv 6 KN),(none,.mv 7 (K 0)),(none,.mv 8 (KB false))]) (.seq (.seq (.reg [mv 13 2,(none,.call 14 92 [(S 13)]),(none,.un 15 .not (S 14)),mv 16 15,(some (16,false),.mv 17 (S 0)),(some (16,false),.mv 18 (S 1)),(some (16,false),.call 19 89 [(S 17),(S 18)]),(some (16,false),.un 20 .not (S 19)),(none,.pick 21 (S 16) (KB true) (S 20))]) cc231) cc234))
theorem ww236 (a2 : List XDuty) (r6 : (List (List Bool))) : ∀ (n : Nat) (v7 : Int) (r : (List Int) × Int × Bool),f_spec_LeastCover_2 a2 r6 n v7 = some r → ∀ σ : St,σ.kept [2,9,10] [] [] = ⟨[(2,vc (aL (List.map XDuty.row a2))),(9,vc (aL (List.map (rL rB) r6))),(10,vc (aI v7))],[],[]⟩ → go Tryz.prog (.code (.loop cc232) :: [.blk 0,.code cc233]) (Ret [6,7,8] [.sc (.v (.sl (List.map rI r.1))),.sc (.v (.int .i64 r.2.1)),.sc (.v (.bool r.2.2))]) .normal (some σ) := by
 intro n
 induction n with
 | zero => intro _ r h; cases h
 | succ n ih =>
  intro v7 r h σ hσ
  rw [f_spec_LeastCover_2] at h
  refine go_round ?_
  rcases Bool.eq_false_or_eq_true (decide (v7 ≤ (a2.length : Int))) with hb8 | hb8
  ·rw [ite_t hb8] at h
   try simp only [hσ,hb8,cc232,Nat.reduceBEq,reduceMul,reduceAdd,reduceDiv,Int.reduceBEq,RR]
   refine go_bsl (es := List.map rI ([] : List Int)) rfl rfl ?_
   try simp only [hb8,Nat.reduceBEq,reduceMul,reduceAdd,reduceDiv,Int.reduceBEq,RR]
   refine go_frz' rfl ?_
   obtain ⟨r9,hr9,h⟩ := ob h
   try simp only [hb8,Nat.reduceBEq,reduceMul,reduceAdd,reduceDiv,Int.reduceBEq,RR]
   refine go_callI (w_spec_l13Search _ _ _ _ hr9) rfl rfl (Nat.le_of_ble_eq_true rfl) ?_
   rcases Bool.eq_false_or_eq_true r9.2 with hb10 | hb10
   ·rw [ite_t hb10] at h
    try simp only [hb8,hb10,Nat.reduceBEq,reduceMul,reduceAdd,reduceDiv,Int.reduceBEq,RR]
    cases h
    exact ⟨⟨rfl,rfl,rfl,trivial⟩,rfl⟩
   ·rw [ite_f hb10] at h
    try simp only [hb8,hb10,Nat.reduceBEq,reduceMul,reduceAdd,reduceDiv,Int.reduceBEq,RR]
    refine ih _ _ h _ ?_
    try simp only [hb8,hb10,Nat.reduceBEq,reduceMul,reduceAdd,reduceDiv,Int.reduceBEq,RR,List.map_nil]
  ·rw [ite_f hb8] at h
   try simp only [hσ,hb8,cc232,cc233,Nat.reduceBEq,reduceMul,reduceAdd,reduceDiv,Int.reduceBEq,RR]
   cases h
   exact ⟨⟨rfl,rfl,rfl,trivial⟩,rfl⟩
theorem ww237 (a0 : Int) (a1 : List Int) (a2 : List XDuty) (v4 : Bool) (r : (List Int) × Int × Bool) (h : f_spec_LeastCover_1 a0 a1 a2 v4 = some r) (σ : St) (hσ : σ.kept [0,1,2,21] [] [] = ⟨[(0,vc (aI a0)),(1,vc (aL (List.map rI a1))),(2,vc (aL (List.map XDuty.row a2))),(21,vc (aB v4))],[],[]⟩) : go Tryz.prog (.code cc231 :: [.code cc234]) (Ret [6,7,8] [.sc (.v (.sl (List.map rI r.1))),.sc (.v (.int .i64 r.2.1)),.sc (.v (.bool r.2.2))]) .normal (some σ) := by
 unfold f_spec_LeastCover_1 at h
 rcases Bool.eq_false_or_eq_true v4 with hb5 | hb5
 ·rw [ite_t hb5] at h
  try simp only [hσ,hb5,cc231,Nat.reduceBEq,reduceMul,reduceAdd,reduceDiv,Int.reduceBEq,RR]
  cases h
  exact ⟨⟨rfl,rfl,rfl,trivial⟩,rfl⟩
 ·rw [ite_f hb5] at h
  obtain ⟨r6,hr6,h⟩ := ob h
  try simp only [hσ,hb5,cc231,cc234,Nat.reduceBEq,reduceMul,reduceAdd,reduceDiv,Int.reduceBEq,RR]
  refine go_callI (w_spec_l13Both _ _ _ _ hr6) rfl rfl (Nat.le_of_ble_eq_true rfl) ?_
  try simp only [hb5,Nat.reduceBEq,reduceMul,reduceAdd,reduceDiv,Int.reduceBEq,RR]
  refine go_frz' rfl ?_
  try simp only [hb5,Nat.reduceBEq,reduceMul,reduceAdd,reduceDiv,Int.reduceBEq,RR]
  refine ww236 _ _ _ _ _ h _ ?_
  try simp only [hb5,Nat.reduceBEq,reduceMul,reduceAdd,reduceDiv,Int.reduceBEq,RR,List.map_nil]
theorem ee238 : entry Tryz.prog 52 = some (cc235.strip,[6,7,8],42) := by kernel_rfl
theorem w_spec_LeastCover (a0 : Int) (a1 : List Int) (a2 : List XDuty) (r : (List Int) × Int × Bool) (h : f_spec_LeastCover a0 a1 a2 = some r) : FC Tryz.prog 52 [.sc (.int .i64 a0),.sc (.sl (List.map rI a1)),.sc (.sl (List.map XDuty.row a2))] [.sc (.v (.sl (List.map rI r.1))),.sc (.v (.int .i64 r.2.1)),.sc (.v (.bool r.2.2))] := by
 unfold f_spec_LeastCover at h
 refine FC_go (σ := ⟨[(0,vc (aI a0)),(1,vc (aL (List.map rI a1))),(2,vc (aL (List.map XDuty.row a2)))],[],[]⟩) mixed ee238 rfl rfl ?_
 simp only [cc235]
 obtain ⟨r1,hr1,h⟩ := ob h
 try simp only [Nat.reduceBEq,reduceMul,reduceAdd,reduceDiv,Int.reduceBEq,RR]
 refine go_callI (w_spec_DutiesOk _ _ hr1) rfl rfl (Nat.le_of_ble_eq_true rfl) ?_
 rcases Bool.eq_false_or_eq_true r1 with hb2 | hb2
 ·rw [ite_t hb2] at h
  obtain ⟨r3,hr3,h⟩ := ob h
  try simp only [hb2,Nat.reduceBEq,reduceMul,reduceAdd,reduceDiv,Int.reduceBEq,RR]
  refine go_callI (w_spec_l13Table _ _ _ hr3) rfl rfl (Nat.le_of_ble_eq_true rfl) ?_
  try simp only [hb2,Nat.reduceBEq,reduceMul,reduceAdd,reduceDiv,Int.reduceBEq,RR]
  refine ww237 _ _ _ _ _ h _ ?_
  try simp only [hb2,Nat.reduceBEq,reduceMul,reduceAdd,reduceDiv,Int.reduceBEq,RR,List.map_nil]
 ·rw [ite_f hb2] at h
  try simp only [hb2,Nat.reduceBEq,reduceMul,reduceAdd,reduceDiv,Int.reduceBEq,RR]
  refine ww237 _ _ _ _ _ h _ ?_
  try simp only [hb2,Nat.reduceBEq,reduceMul,reduceAdd,reduceDiv,Int.reduceBEq,RR,List.map_nil]
/- 20: spec_TugsNeeded -/
def cc239 : ACode := (.seq (.reg [(none,.box 4 (S 0)),(none,.box 5 (S 1)),(none,.mv 8 (K 0))]) (.seq (.reg [(none,.load 15 (S 5) true 2),mv 16 2,mv 17 3,(none,.call 18 51 [(S 15),(S 16),(S 17)]),mv 14 18,(none,.extr 19 (S 14) 0),(none,.extr 20 (S 14) 1),mv 9 19,mv 10 20]) (.seq (.seq (.reg [(none,.load 21 (S 4) true 4),(none,.call 22 50 [(S 21)]),(none,.un 23 .not (S 22)),mv 24 23,(some (24,false),.mv 25 (S 10)),(some (24,false),.un 26 .not (S 25)),(none,.pick 27 (S 24) (KB true) (S 26))]) (.cond (S 27) (.seq (.reg [(none,.mv 8 (K (-1)))]) .ret) .skip)) (.seq (.reg [fa 29 4 3,ld 30 29,mv 31 9,(none,.frz 1152),(none,.call 32 52 [(K 0),(S 30),(S 31)]),mv 28 32,(none,.extr 33 (S 28) 0),(none,.extr 34 (S 28) 1),(none,.extr 35 (S 28) 2),mv 11 33,mv 12 34,mv 13 35]) (.seq (.seq (.reg [mv 36 13,(none,.un 37 .not (S 36))]) (.cond (S 37) (.seq (.reg [(none,.mv 8 (K (-1)))]) .ret) .skip)) (.seq (.reg [mv 38 12,mv 8 38]) .ret))))))
theorem ee240 : entry Tryz.prog 20 = some (cc239.strip,[8],39) := by kernel_rfl
theorem w_spec_TugsNeeded (a0 : XCrew) (a1 : XChart) (a2 : List XShip) (a3 : List XPassage) (r : Int) (h : f_spec_TugsNeeded a0 a1 a2 a3 = some r) : FC Tryz.prog 20 [.ag (XCrew.row a0),.ag (XChart.row a1),.sc (.sl (List.map XShip.row a2)),.sc (.sl (List.map XPassage.row a3))] [.sc (.v (.int .i64 r))] := by
 unfold f_spec_TugsNeeded at h
 refine FC_go (σ := ⟨[(0,va [aI a0.Tugs,aI a0.Pilots,aI a0.Rest,aL (List.map rI a0.Moves)]),(1,va [aL (List.map XPoint.row a1.Points),aL (List.map XSegment.row a1.Segments)]),(2,vc (aL (List.map XShip.row a2))),(3,vc (aL (List.map XPassage.row a3)))],[],[]⟩) mixed ee240 rfl rfl ?_
 simp only [cc239]
 try simp only [Nat.reduceBEq,reduceMul,reduceAdd,reduceDiv,Int.reduceBEq,RR]
 refine go_bx rfl rfl rfl ?_
 try simp only [Nat.reduceBEq,reduceMul,reduceAdd,reduceDiv,Int.reduceBEq,RR]
 refine go_bx rfl rfl rfl ?_
 obtain ⟨r1,hr1,h⟩ := ob h
 try simp only [Nat.reduceBEq,reduceMul,reduceAdd,reduceDiv,Int.reduceBEq,RR]
 refine go_callI (w_spec_l14Tugs _ _ _ _ hr1) rfl rfl (Nat.le_of_ble_eq_true rfl) ?_
 obtain ⟨r2,hr2,h⟩ := ob h
 try simp only [Nat.reduceBEq,reduceMul,reduceAdd,reduceDiv,Int.reduceBEq,RR]
 refine go_callI (w_spec_CrewOk _ _ hr2) rfl rfl (Nat.le_of_ble_eq_true rfl) ?_
 rcases Bool.eq_false_or_eq_true r2 with hb3 | hb3
 ·rw [ite_t hb3] at h
  rcases Bool.eq_false_or_eq_true r1.2 with hb4 | hb4
  ·rw [ite_t hb4] at h
   try simp only [hb3,hb4,Nat.reduceBEq,reduceMul,reduceAdd,reduceDiv,Int.reduceBEq,RR]
   refine go_frz' rfl ?_
   obtain ⟨r5,hr5,h⟩ := ob h
   try simp only [hb3,hb4,Nat.reduceBEq,reduceMul,reduceAdd,reduceDiv,Int.reduceBEq,RR]
   refine go_callI (w_spec_LeastCover _ _ _ _ hr5) rfl rfl (Nat.le_of_ble_eq_true rfl) ?_
   rcases Bool.eq_false_or_eq_true r5.2.2 with hb6 | hb6
   ·rw [ite_t hb6] at h
    try simp only [hb3,hb4,hb6,Nat.reduceBEq,reduceMul,reduceAdd,reduceDiv,Int.reduceBEq,RR]
    cases h
    exact ⟨⟨rfl,trivial⟩,rfl⟩
   ·rw [ite_f hb6] at h
    try simp only [hb3,hb4,hb6,Nat.reduceBEq,reduceMul,reduceAdd,reduceDiv,Int.reduceBEq,RR]
    cases h
    exact ⟨⟨rfl,trivial⟩,rfl⟩
  ·rw [ite_f hb4] at h
   try simp only [hb3,hb4,Nat.reduceBEq,reduceMul,reduceAdd,reduceDiv,Int.reduceBEq,RR]
   cases h
   exact ⟨⟨rfl,trivial⟩,rfl⟩
 ·rw [ite_f hb3] at h
  try simp only [hb3,Nat.reduceBEq,reduceMul,reduceAdd,reduceDiv,Int.reduceBEq,RR]
  cases h
  exact ⟨⟨rfl,trivial⟩,rfl⟩
/- 19: spec_FormatInt -/
def cc241 : ACode := .seq (.reg [(none,.keep [0,3] [] [])]) (.seq (.seq (.reg [mv 25 0,(none,.bin 26 .gtr (S 25) (K 9))]) (.cond (S 26) .skip (.exit 0))) (.block 1 (.seq (.reg [mv 27 0,(none,.bin 28 .rem (S 27) (K 10)),(none,.bin 29 .add (K 48) (S 28)),(none,.conv 30 .u8 (S 29)),(none,.bslice 31 1 [.int .u8 0] 1 [(0,(S 30))]),(none,.sconv 32 (S 31)),mv 33 3,bn 34 .add 32 33,mv 3 34]) (.reg [mv 35 0,(none,.bin 36 .quo (S 35) (K 10)),mv 0 36]))))
def cc242 : ACode := (.seq (.reg [mv 37 0,(none,.bin 38 .add (K 48) (S 37)),(none,.conv 39 .u8 (S 38)),(none,.bslice 40 1 [.int .u8 0] 1 [(0,(S 39))]),(none,.sconv 41 (S 40)),mv 42 3,bn 43 .add 41 42,mv 2 43]) .ret)
def cc243 : ACode := (.seq (.reg [(none,.mv 2 (KS []))]) (.seq (.seq (.reg [mv 4 0,(none,.bin 5 .lss (S 4) (K 0))]) (.cond (S 5) (.seq (.seq (.reg [mv 6 0,(none,.bin 7 .quo (S 6) (K 10)),(none,.bin 8 .eql (S 7) (K 0))]) (.cond (S 8) (.seq (.reg [mv 9 0,(none,.bin 10 .sub (K 48) (S 9)),(none,.conv 11 .u8 (S 10)),(none,.bslice 12 1 [.int .u8 0] 1 [(0,(S 11))]),(none,.sconv 13 (S 12)),(none,.bin 14 .add (KS [45]) (S 13)),mv 2 14]) .ret) .skip)) (.seq (.drw [(some [22],mv 15 0),(some [22],(none,.bin 16 .quo (S 15) (K 10))),(some [22],(none,.call 17 19 [(S 16)])),(some [17],mv 18 0),(some [17],(none,.bin 19 .rem (S 18) (K 10))),(some [17],(none,.bin 20 .sub (K 48) (S 19))),(some [17],(none,.conv 21 .u8 (S 20))),(some [17],(none,.bslice 22 1 [.int .u8 0] 1 [(0,(S 21))])),(some [17],(none,.sconv 23 (S 22))),(some [],bn 24 .add 17 23),(some [],mv 2 24)]) .ret)) .skip)) (.seq (.reg [(none,.mv 3 (KS []))]) (.seq (.block 0 (.loop cc241)) cc242))))
theorem ww244 (rec_ : Int → Option (List UInt8)) (h_rec : ∀ (a0 : Int) zr,rec_ a0 = some zr → FC Tryz.prog 19 [.sc (.int .i64 a0)] [.sc (.v (.str zr))]) : ∀ (n : Nat) (v6 : Int) (v7 : List UInt8) (r : (List UInt8)),f_spec_FormatInt_1 rec_ n v6 v7 = some r → ∀ σ : St,σ.kept [0,3] [] [] = ⟨[(0,vc (aI v6)),(3,vc (aS v7))],[],[]⟩ → go Tryz.prog (.code (.loop cc241) :: [.blk 0,.code cc242]) (Ret [2] [.sc (.v (.str r))]) .normal (some σ) := by
 intro n
 induction n with
 | zero => intro _ _ r h; cases h
 | succ n ih =>
  intro v6 v7 r h σ hσ
  rw [f_spec_FormatInt_1] at h
  refine go_round ?_
  rcases Bool.eq_false_or_eq_true (decide ((9 : Int) < v6)) with hb8 | hb8
  ·rw [ite_t hb8] at h
   try simp only [hσ,hb8,cc241,Nat.reduceBEq,reduceMul,reduceAdd,reduceDiv,Int.reduceBEq,RR]
   refine go_bsl (es := List.map r8 ([(IntKind.u8.wrap (IntKind.i64.wrap ((48 : Int) + (IntKind.i64.wrap (Int.tmod v6 (10 : Int))))))] : List Int)) rfl rfl ?_
   obtain ⟨hg9,h⟩ := of_guard h
   try simp only [hb8,hg9,Nat.reduceBEq,reduceMul,reduceAdd,reduceDiv,Int.reduceBEq,RR]
   refine ih _ _ _ h _ ?_
   try simp only [hb8,hg9,Nat.reduceBEq,reduceMul,reduceAdd,reduceDiv,Int.reduceBEq,RR,List.map_nil]
  ·rw [ite_f hb8] at h
   try simp only [hσ,hb8,cc241,cc242,Nat.reduceBEq,reduceMul,reduceAdd,reduceDiv,Int.reduceBEq,RR]
   refine go_bsl (es := List.map r8 ([(IntKind.u8.wrap (IntKind.i64.wrap ((48 : Int) + v6)))] : List Int)) rfl rfl ?_
   obtain ⟨hg10,h⟩ := of_guard h
   try simp only [hb8,hg10,Nat.reduceBEq,reduceMul,reduceAdd,reduceDiv,Int.reduceBEq,RR]
   cases h
   exact ⟨⟨rfl,trivial⟩,rfl⟩
theorem ee245 : entry Tryz.prog 19 = some (cc243.strip,[2],44) := by kernel_rfl
theorem w_spec_FormatInt_b (rec_ : Int → Option (List UInt8)) (a0 : Int) (r : (List UInt8)) (h_rec : ∀ (a0 : Int) zr,rec_ a0 = some zr → FC Tryz.prog 19 [.sc (.int .i64 a0)] [.sc (.v (.str zr))]) (h : f_spec_FormatInt_b rec_ a0 = some r) : FC Tryz.prog 19 [.sc (.int .i64 a0)] [.sc (.v (.str r))] := by
 unfold f_spec_FormatInt_b at h
 refine FC_go (σ := ⟨[(0,vc (aI a0))],[],[]⟩) mixed ee245 rfl rfl ?_
 simp only [cc243]
 rcases Bool.eq_false_or_eq_true (decide (a0 < (0 : Int))) with hb1 | hb1
 ·rw [ite_t hb1] at h
  rcases Bool.eq_false_or_eq_true ((IntKind.i64.wrap (Int.tdiv a0 (10 : Int))) == (0 : Int)) with hb2 | hb2
  ·rw [ite_t hb2] at h
   try simp only [hb1,hb2,Nat.reduceBEq,reduceMul,reduceAdd,reduceDiv,Int.reduceBEq,RR]
   refine go_bsl (es := List.map r8 ([(IntKind.u8.wrap (IntKind.i64.wrap ((48 : Int) - a0)))] : List Int)) rfl rfl ?_
   obtain ⟨hg3,h⟩ := of_guard h
   try simp only [hb1,hb2,hg3,Nat.reduceBEq,reduceMul,reduceAdd,reduceDiv,Int.reduceBEq,RR]
   cases h
   exact ⟨⟨rfl,trivial⟩,rfl⟩
  ·rw [ite_f hb2] at h
   try simp only [hb1,hb2,Nat.reduceBEq,reduceMul,reduceAdd,reduceDiv,Int.reduceBEq,RR]
   refine go_fr_of rfl ?_
   obtain ⟨r4,hr4,h⟩ := ob h
   try simp only [hb1,hb2,Nat.reduceBEq,reduceMul,reduceAdd,reduceDiv,Int.reduceBEq,RR]
   refine go_dcallI (h_rec _ _ hr4) rfl rfl (Nat.le_of_ble_eq_true rfl) ?_
   try simp only [hb1,hb2,Nat.reduceBEq,reduceMul,reduceAdd,reduceDiv,Int.reduceBEq,RR]
   refine go_mkN (m := .row 22 1 (List.map r8 ([(IntKind.u8.wrap (IntKind.i64.wrap ((48 : Int) - (IntKind.i64.wrap (Int.tmod a0 (10 : Int))))))] : List Int))) rfl rfl (make_row rfl) ?_
   obtain ⟨hg5,h⟩ := of_guard h
   try simp only [hb1,hb2,hg5,Nat.reduceBEq,reduceMul,reduceAdd,reduceDiv,Int.reduceBEq,RR]
   cases h
   exact ⟨⟨rfl,trivial⟩,rfl⟩
 ·rw [ite_f hb1] at h
  try simp only [hb1,Nat.reduceBEq,reduceMul,reduceAdd,reduceDiv,Int.reduceBEq,RR]
  refine ww244 rec_ h_rec _ _ _ _ h _ ?_
  try simp only [hb1,Nat.reduceBEq,reduceMul,reduceAdd,reduceDiv,Int.reduceBEq,RR,List.map_nil]
theorem w_spec_FormatInt_r : ∀ (n : Nat) (a0 : Int) (r : (List UInt8)),f_spec_FormatInt_r n a0 = some r → FC Tryz.prog 19 [.sc (.int .i64 a0)] [.sc (.v (.str r))] := by
 intro n
 induction n with
 | zero => intro _ r h; cases h
 | succ n ih => intro a0 r h; rw [f_spec_FormatInt_r] at h; exact w_spec_FormatInt_b (f_spec_FormatInt_r n) a0 r ih h
theorem w_spec_FormatInt (a0 : Int) (r : (List UInt8)) (h : f_spec_FormatInt a0 = some r) : FC Tryz.prog 19 [.sc (.int .i64 a0)] [.sc (.v (.str r))] := w_spec_FormatInt_r bigN a0 r h
/- 95: spec_IsChain -/
def cc246 : ACode := .seq (.reg [(none,.keep [1,2,14,15,16] [2] [])]) (.seq (.reg [bn 17 .lss 16 15]) (.seq (.cond (S 17) .skip (.exit 0)) (.seq (.block 1 (.seq (.reg [mv 18 16,(none,.iaddr 19 (S 14) (S 16) 5),(none,.load 20 (S 19) true 5),(none,.alloc 6 [aI 0,aI 0,aB false,aI 0,aI 0]),mv 5 18,(none,.store (S 6) (S 20) 5)]) (.seq (.seq (.drw [(some [],fa 21 6 0),(some [],ld 22 21),(some [],mv 23 1),(some [],(none,.iaddr 24 (S 23) (K 0) 5)),(some [],fa 25 24 0),(some [],ld 26 25),(some [],bn 27 .neq 22 26),(some [],mv 28 27),(some [],(some (28,false),.faddr 29 (S 6) 1)),(some [],(some (28,false),.load 30 (S 29) false 1)),(some [],(some (28,false),.faddr 31 (S 2) 1)),(some [],(some (28,false),.load 32 (S 31) false 1)),(some [],(some (28,false),.len 33 (S 32))),(some [],(some (28,false),.bin 34 .sub (S 33) (K 1))),(some [],(some (28,false),.call 35 82 [(S 30),(K 0),(S 34)])),(some [],(some (28,false),.un 36 .not (S 35))),(some [],(none,.pick 37 (S 28) (KB true) (S 36)))]) (.cond (S 37) (.seq (.reg [(none,.mv 4 (KB false))]) .ret) .skip)) (.seq (.seq (.reg [mv 38 5,(none,.bin 39 .eql (S 38) (K 0))]) (.cond (S 39) (.exit 1) .skip)) (.seq (.reg [(none,.load 41 (S 2) true 2),(none,.load 42 (S 6) true 5),(none,.call 43 91 [(S 41),(S 42)]),mv 40 43,(none,.extr 44 (S 40) 0),(none,.extr 45 (S 40) 1),mv 7 44,mv 8 45]) (.seq (.drw [(some [],(none,.load 47 (S 2) true 2)),(some [],mv 48 1),(some [],mv 49 5),(some [],(none,.bin 50 .sub (S 49) (K 1))),(some [],(none,.iaddr 51 (S 48) (S 50) 5)),(some [],(none,.load 52 (S 51) true 5)),(some [],(none,.call 53 91 [(S 47),(S 52)])),(some [],mv 46 53),(some [],(none,.extr 54 (S 46) 0)),(some [],(none,.extr 55 (S 46) 1)),(some [],mv 9 54),(some [],mv 10 55)]) (.seq (.drw [(some [],mv 56 7),(some [],mv 57 10),(some [],bn 58 .neq 56 57),(some [],mv 59 58),(some [],(some (59,false),.faddr 60 (S 6) 3)),(some [],(some (59,false),.load 61 (S 60) false 1)),(some [],(some (59,false),.mv 62 (S 1))),(some [],(some (59,false),.mv 63 (S 5))),(some [],(some (59,false),.bin 64 .sub (S 63) (K 1))),(some [],(some (59,false),.iaddr 65 (S 62) (S 64) 5)),(some [],(some (59,false),.faddr 66 (S 65) 4)),(some [],(some (59,false),.load 67 (S 66) false 1)),(some [],(some (59,false),.bin 68 .lss (S 61) (S 67))),(some [],(none,.pick 69 (S 59) (KB true) (S 68)))]) (.cond (S 69) (.seq (.reg [(none,.mv 4 (KB false))]) .ret) .skip)))))))) (.reg [(none,.bin 70 .add (S 16) (K 1)),mv 16 70]))))
def cc247 : ACode := (.seq (.reg [(none,.mv 4 (KB true))]) .ret)
def cc248 : ACode := (.seq (.reg [(none,.box 2 (S 0)),(none,.mv 4 (KB false))]) (.seq (.seq (.reg [(none,.load 11 (S 2) true 2),(none,.call 12 47 [(S 11)]),(none,.un 13 .not (S 12))]) (.cond (S 13) (.seq (.reg [(none,.mv 4 (KB false))]) .ret) .skip)) (.seq (.seq (.reg [mv 14 1,(none,.len 15 (S 14)),(none,.mv 16 (K 0))]) (.block 0 (.loop cc246))) cc247)))
theorem ww249 (a1 : List XPassage) (a0 : XChart) : ∀ (n : Nat) (v3 : Int) (r : Bool),f_spec_IsChain_1 a1 a0 n v3 = some r → ∀ σ : St,σ.kept [1,2,14,15,16] [2] [] = ⟨[(1,vc (aL (List.map XPassage.row a1))),(2,vc (.pb 2 0)),(14,vc (aL (List.map XPassage.row a1))),(15,vc (aI (a1.length : Int))),(16,vc (aI v3))],[(2,[aL (List.map XPoint.row a0.Points),aL (List.map XSegment.row a0.Segments)])],[]⟩ → go Tryz.prog (.code (.loop cc246) :: [.blk 0,.code cc247]) (Ret [4] [.sc (.v (.bool r))]) .normal (some σ) := by
 intro n
 induction n with
 | zero => intro _ r h; cases h
 | succ n ih =>
  intro v3 r h σ hσ
  rw [f_spec_IsChain_1] at h
  refine go_round ?_
  rcases Bool.eq_false_or_eq_true (decide (v3 < (a1.length : Int))) with hb4 | hb4
  ·rw [ite_t hb4] at h
   obtain ⟨x5,hx5,h⟩ := ob h
   try simp only [hσ,hb4,hx5,cc246,Nat.reduceBEq,reduceMul,reduceAdd,reduceDiv,Int.reduceBEq,RR]
   refine go_al rfl rfl ?_
   try simp only [hb4,hx5,Nat.reduceBEq,reduceMul,reduceAdd,reduceDiv,Int.reduceBEq,RR]
   refine go_fr_of rfl ?_
   obtain ⟨x6,hx6,h⟩ := ob h
   rcases Bool.eq_false_or_eq_true (x5.Ship != x6.Ship) with hb7 | hb7
   ·rw [ite_t hb7] at h
    try simp only [hb4,hx5,hx6,hb7,Nat.reduceBEq,reduceMul,reduceAdd,reduceDiv,Int.reduceBEq,RR]
    cases h
    exact ⟨⟨rfl,trivial⟩,rfl⟩
   ·rw [ite_f hb7] at h
    obtain ⟨r9,hr9,h⟩ := ob h
    try simp only [hb4,hx5,hx6,hb7,Nat.reduceBEq,reduceMul,reduceAdd,reduceDiv,Int.reduceBEq,RR]
    refine go_dcallI (w_spec_l01In _ _ _ _ hr9) rfl rfl (Nat.le_of_ble_eq_true rfl) ?_
    rcases Bool.eq_false_or_eq_true r9 with hb10 | hb10
    ·rw [ite_t hb10] at h
     rcases Bool.eq_false_or_eq_true (v3 == (0 : Int)) with hb11 | hb11
     ·rw [ite_t hb11] at h
      try simp only [hb4,hx5,hx6,hb7,hb10,hb11,Nat.reduceBEq,reduceMul,reduceAdd,reduceDiv,Int.reduceBEq,RR]
      refine ih _ _ h _ ?_
      try simp only [hb4,hx5,hx6,hb7,hb10,hb11,Nat.reduceBEq,reduceMul,reduceAdd,reduceDiv,Int.reduceBEq,RR,List.map_nil]
     ·rw [ite_f hb11] at h
      obtain ⟨r12,hr12,h⟩ := ob h
      try simp only [hb4,hx5,hx6,hb7,hb10,hb11,Nat.reduceBEq,reduceMul,reduceAdd,reduceDiv,Int.reduceBEq,RR]
      refine go_callI (w_spec_l08Ends _ _ _ hr12) rfl rfl (Nat.le_of_ble_eq_true rfl) ?_
      try simp only [hb4,hx5,hx6,hb7,hb10,hb11,Nat.reduceBEq,reduceMul,reduceAdd,reduceDiv,Int.reduceBEq,RR]
      refine go_fr_of rfl ?_
      obtain ⟨x13,hx13,h⟩ := ob h
      obtain ⟨r14,hr14,h⟩ := ob h
      try simp only [hb4,hx5,hx6,hb7,hb10,hb11,hx13,Nat.reduceBEq,reduceMul,reduceAdd,reduceDiv,Int.reduceBEq,RR]
      refine go_dcallI (w_spec_l08Ends _ _ _ hr14) rfl rfl (Nat.le_of_ble_eq_true rfl) ?_
      try simp only [hb4,hx5,hx6,hb7,hb10,hb11,hx13,Nat.reduceBEq,reduceMul,reduceAdd,reduceDiv,Int.reduceBEq,RR]
      refine go_fr_of rfl ?_
      rcases Bool.eq_false_or_eq_true (r12.1 != r14.2) with hb15 | hb15
      ·rw [ite_t hb15] at h
       try simp only [hb4,hx5,hx6,hb7,hb10,hb11,hx13,hb15,Nat.reduceBEq,reduceMul,reduceAdd,reduceDiv,Int.reduceBEq,RR]
       cases h
       exact ⟨⟨rfl,trivial⟩,rfl⟩
      ·rw [ite_f hb15] at h
       rcases Bool.eq_false_or_eq_true (decide (x5.Start < x13.End)) with hb16 | hb16
       ·rw [ite_t hb16] at h
        try simp only [hb4,hx5,hx6,hb7,hb10,hb11,hx13,hb15,hb16,Nat.reduceBEq,reduceMul,reduceAdd,reduceDiv,Int.reduceBEq,RR]
        cases h
        exact ⟨⟨rfl,trivial⟩,rfl⟩
       ·rw [ite_f hb16] at h
        try simp only [hb4,hx5,hx6,hb7,hb10,hb11,hx13,hb15,hb16,Nat.reduceBEq,reduceMul,reduceAdd,reduceDiv,Int.reduceBEq,RR]
        refine ih _ _ h _ ?_
        try simp only [hb4,hx5,hx6,hb7,hb10,hb11,hx13,hb15,hb16,Nat.reduceBEq,reduceMul,reduceAdd,reduceDiv,Int.reduceBEq,RR,List.map_nil]
    ·rw [ite_f hb10] at h
     try simp only [hb4,hx5,hx6,hb7,hb10,Nat.reduceBEq,reduceMul,reduceAdd,reduceDiv,Int.reduceBEq,RR]
     cases h
     exact ⟨⟨rfl,trivial⟩,rfl⟩
  ·rw [ite_f hb4] at h
   try simp only [hσ,hb4,cc246,cc247,Nat.reduceBEq,reduceMul,reduceAdd,reduceDiv,Int.reduceBEq,RR]
   cases h
   exact ⟨⟨rfl,trivial⟩,rfl⟩
theorem ee250 : entry Tryz.prog 95 = some (cc248.strip,[4],71) := by kernel_rfl
theorem w_spec_IsChain (a0 : XChart) (a1 : List XPassage) (r : Bool) (h : f_spec_IsChain a0 a1 = some r) : FC Tryz.prog 95 [.ag (XChart.row a0),.sc (.sl (List.map XPassage.row a1))] [.sc (.v (.bool r))] := by
 unfold f_spec_IsChain at h
 refine FC_go (σ := ⟨[(0,va [aL (List.map XPoint.row a0.Points),aL (List.map XSegment.row a0.Segments)]),(1,vc (aL (List.map XPassage.row a1)))],[],[]⟩) mixed ee250 rfl rfl ?_
 simp only [cc248]
 try simp only [Nat.reduceBEq,reduceMul,reduceAdd,reduceDiv,Int.reduceBEq,RR]
 refine go_bx rfl rfl rfl ?_
 obtain ⟨r1,hr1,h⟩ := ob h
 try simp only [Nat.reduceBEq,reduceMul,reduceAdd,reduceDiv,Int.reduceBEq,RR]
 refine go_callI (w_spec_ChartOk _ _ hr1) rfl rfl (Nat.le_of_ble_eq_true rfl) ?_
 rcases Bool.eq_false_or_eq_true r1 with hb2 | hb2
 ·rw [ite_t hb2] at h
  try simp only [hb2,Nat.reduceBEq,reduceMul,reduceAdd,reduceDiv,Int.reduceBEq,RR]
  refine ww249 _ _ _ _ _ h _ ?_
  try simp only [hb2,Nat.reduceBEq,reduceMul,reduceAdd,reduceDiv,Int.reduceBEq,RR,List.map_nil]
 ·rw [ite_f hb2] at h
  try simp only [hb2,Nat.reduceBEq,reduceMul,reduceAdd,reduceDiv,Int.reduceBEq,RR]
  cases h
  exact ⟨⟨rfl,trivial⟩,rfl⟩
/- 53: spec_PilotDuty -/
def cc251 : ACode := .seq (.reg [(none,.keep [1,2,3,6,23] [3,6] [])]) (.cond (S 23) (.seq (.reg [(none,.build 24 [aI 0,aI 0,aI 0,aI 0] []),(none,.store (S 6) (S 24) 4),(none,.mv 7 (KB false))]) .ret) .skip)
def cc252 : ACode := .seq (.reg [(none,.keep [1,2,3,6,25,26,27] [3,6] [])]) (.seq (.reg [bn 28 .lss 27 26]) (.seq (.cond (S 28) .skip (.exit 0)) (.seq (.block 1 (.seq (.reg [(none,.iaddr 29 (S 25) (S 27) 5),(none,.load 30 (S 29) true 5),(none,.alloc 9 [aI 0,aI 0,aB false,aI 0,aI 0]),(none,.store (S 9) (S 30) 5)]) (.seq (.reg [(none,.load 31 (S 3) true 2),mv 32 1,(none,.load 33 (S 9) true 5),(none,.call 34 90 [(S 31),(S 32),(S 33)]),(none,.un 35 .not (S 34))]) (.cond (S 35) (.seq (.reg [(none,.build 36 [aI 0,aI 0,aI 0,aI 0] []),(none,.store (S 6) (S 36) 4),(none,.mv 7 (KB false))]) .ret) .skip)))) (.reg [(none,.bin 37 .add (S 27) (K 1)),mv 27 37]))))
def cc253 : ACode := (.seq (.reg [mv 38 2,mv 39 2,(none,.len 40 (S 39)),(none,.bin 41 .sub (S 40) (K 1)),(none,.iaddr 42 (S 38) (S 41) 5),(none,.load 43 (S 42) true 5),(none,.alloc 10 [aI 0,aI 0,aB false,aI 0,aI 0]),(none,.store (S 10) (S 43) 5)]) (.seq (.drw [(some [],(none,.load 45 (S 3) true 2)),(some [],mv 46 2),(some [],(none,.iaddr 47 (S 46) (K 0) 5)),(some [],(none,.load 48 (S 47) true 5)),(some [],(none,.call 49 91 [(S 45),(S 48)])),(some [],mv 44 49),(some [],(none,.extr 50 (S 44) 0)),(some [],(none,.extr 51 (S 44) 1)),(some [],mv 11 50),(some [],mv 12 51)]) (.seq (.reg [(none,.load 53 (S 3) true 2),(none,.load 54 (S 10) true 5),(none,.call 55 91 [(S 53),(S 54)]),mv 52 55,(none,.extr 56 (S 52) 0),(none,.extr 57 (S 52) 1),mv 13 56,mv 14 57]) (.seq (.drw [(some [],mv 58 2),(some [],(none,.iaddr 59 (S 58) (K 0) 5)),(some [],fa 60 59 3),(some [],ld 61 60),(some [],fa 62 10 4),(some [],ld 63 62),(some [],mv 64 11),(some [],mv 65 14),(some [],(none,.build 66 [aI 0,aI 0,aI 0,aI 0] [(0,1,(S 61)),(1,1,(S 63)),(2,1,(S 64)),(3,1,(S 65))])),(none,(none,.store (S 6) (S 66) 4)),(some [],(none,.mv 7 (KB true)))]) .ret))))
def cc254 : ACode := (.seq (.seq (.reg [mv 25 2,(none,.len 26 (S 25)),(none,.mv 27 (K 0))]) (.block 0 (.loop cc252))) cc253)
def cc255 : ACode := (.seq (.reg [(none,.box 3 (S 0)),(none,.alloc 6 [aI 0,aI 0,aI 0,aI 0]),(none,.mv 7 (KB false))]) (.seq (.seq (.reg [mv 15 2,(none,.len 16 (S 15)),(none,.bin 17 .eql (S 16) (K 0)),mv 18 17,(some (18,false),.load 19 (S 3) true 2),(some (18,false),.mv 20 (S 2)),(some (18,false),.call 21 95 [(S 19),(S 20)]),(some (18,false),.un 22 .not (S 21)),(none,.pick 23 (S 18) (KB true) (S 22))]) cc251) cc254))
theorem ww256 (a1 : List XShip) (a2 : List XPassage) (a0 : XChart) : ∀ (n : Nat) (v5 : Int) (r : XDuty × Bool),f_spec_PilotDuty_2 a1 a2 a0 n v5 = some r → ∀ σ : St,σ.kept [1,2,3,6,25,26,27] [3,6] [] = ⟨[(1,vc (aL (List.map XShip.row a1))),(2,vc (aL (List.map XPassage.row a2))),(3,vc (.pb 3 0)),(6,vc (.pb 6 0)),(25,vc (aL (List.map XPassage.row a2))),(26,vc (aI (a2.length : Int))),(27,vc (aI v5))],[(3,[aL (List.map XPoint.row a0.Points),aL (List.map XSegment.row a0.Segments)]),(6,[aI (0 : Int),aI (0 : Int),aI (0 : Int),aI (0 : Int)])],[]⟩ → go Tryz.prog (.code (.loop cc252) :: [.blk 0,.code cc253]) (Ret [.c 6 true 4,7] [.ag [.v (.int .i64 r.1.From),.v (.int .i64 r.1.To),.v (.int .i64 r.1.A),.v (.int .i64 r.1.B)],.sc (.v (.bool r.2))]) .normal (some σ) := by
 intro n
 induction n with
 | zero => intro _ r h; cases h
 | succ n ih =>
  intro v5 r h σ hσ
  rw [f_spec_PilotDuty_2] at h
  refine go_round ?_
  rcases Bool.eq_false_or_eq_true (decide (v5 < (a2.length : Int))) with hb6 | hb6
  ·rw [ite_t hb6] at h
   obtain ⟨x7,hx7,h⟩ := ob h
   try simp only [hσ,hb6,hx7,cc252,Nat.reduceBEq,reduceMul,reduceAdd,reduceDiv,Int.reduceBEq,RR]
   refine go_al rfl rfl ?_
   obtain ⟨r9,hr9,h⟩ := ob h
   try simp only [hb6,hx7,Nat.reduceBEq,reduceMul,reduceAdd,reduceDiv,Int.reduceBEq,RR]
   refine go_callI (w_spec_PassageOk _ _ _ _ hr9) rfl rfl (Nat.le_of_ble_eq_true rfl) ?_
   rcases Bool.eq_false_or_eq_true r9 with hb10 | hb10
   ·rw [ite_t hb10] at h
    try simp only [hb6,hx7,hb10,Nat.reduceBEq,reduceMul,reduceAdd,reduceDiv,Int.reduceBEq,RR]
    refine ih _ _ h _ ?_
    try simp only [hb6,hx7,hb10,Nat.reduceBEq,reduceMul,reduceAdd,reduceDiv,Int.reduceBEq,RR,List.map_nil]
   ·rw [ite_f hb10] at h
    try simp only [hb6,hx7,hb10,Nat.reduceBEq,reduceMul,reduceAdd,reduceDiv,Int.reduceBEq,RR]
    cases h
    try simp only [rulesR,Nat.reduceBEq,reduceMul,reduceAdd,reduceDiv,Int.reduceBEq,RR]
    exact ⟨⟨⟨rfl,rfl,rfl,rfl,trivial⟩,rfl,trivial⟩,rfl⟩
  ·rw [ite_f hb6] at h
   obtain ⟨x11,hx11,h⟩ := ob h
   try simp only [hσ,hb6,hx11,cc252,cc253,Nat.reduceBEq,reduceMul,reduceAdd,reduceDiv,Int.reduceBEq,RR]
   refine go_al rfl rfl ?_
   try simp only [hb6,hx11,Nat.reduceBEq,reduceMul,reduceAdd,reduceDiv,Int.reduceBEq,RR]
   refine go_fr_of rfl ?_
   obtain ⟨x12,hx12,h⟩ := ob h
   obtain ⟨r13,hr13,h⟩ := ob h
   try simp only [hb6,hx11,hx12,Nat.reduceBEq,reduceMul,reduceAdd,reduceDiv,Int.reduceBEq,RR]
   refine go_dcallI (w_spec_l08Ends _ _ _ hr13) rfl rfl (Nat.le_of_ble_eq_true rfl) ?_
   obtain ⟨r14,hr14,h⟩ := ob h
   try simp only [hb6,hx11,hx12,Nat.reduceBEq,reduceMul,reduceAdd,reduceDiv,Int.reduceBEq,RR]
   refine go_callI (w_spec_l08Ends _ _ _ hr14) rfl rfl (Nat.le_of_ble_eq_true rfl) ?_
   try simp only [hb6,hx11,hx12,Nat.reduceBEq,reduceMul,reduceAdd,reduceDiv,Int.reduceBEq,RR]
   refine go_fr_of rfl ?_
   try simp only [hb6,hx11,hx12,Nat.reduceBEq,reduceMul,reduceAdd,reduceDiv,Int.reduceBEq,RR]
   refine go_fr_of rfl ?_
   try simp only [hb6,hx11,hx12,Nat.reduceBEq,reduceMul,reduceAdd,reduceDiv,Int.reduceBEq,RR]
   cases h
   try simp only [rulesR,Nat.reduceBEq,reduceMul,reduceAdd,reduceDiv,Int.reduceBEq,RR]
   exact ⟨⟨⟨rfl,rfl,rfl,rfl,trivial⟩,rfl,trivial⟩,rfl⟩
theorem ww257 (a1 : List XShip) (a2 : List XPassage) (a0 : XChart) (v3 : Bool) (r : XDuty × Bool) (h : f_spec_PilotDuty_1 a1 a2 a0 v3 = some r) (σ : St) (hσ : σ.kept [1,2,3,6,23] [3,6] [] = ⟨[(1,vc (aL (List.map XShip.row a1))),(2,vc (aL (List.map XPassage.row a2))),(3,vc (.pb 3 0)),(6,vc (.pb 6 0)),(23,vc (aB v3))],[(3,[aL (List.map XPoint.row a0.Points),aL (List.map XSegment.row a0.Segments)]),(6,[aI (0 : Int),aI (0 : Int),aI (0 : Int),aI (0 : Int)])],[]⟩) : go Tryz.prog (.code cc251 :: [.code cc254]) (Ret [.c 6 true 4,7] [.ag [.v (.int .i64 r.1.From),.v (.int .i64 r.1.To),.v (.int .i64 r.1.A),.v (.int .i64 r.1.B)],.sc (.v (.bool r.2))]) .normal (some σ) := by
 unfold f_spec_PilotDuty_1 at h
 rcases Bool.eq_false_or_eq_true v3 with hb4 | hb4
 ·rw [ite_t hb4] at h
  try simp only [hσ,hb4,cc251,Nat.reduceBEq,reduceMul,reduceAdd,reduceDiv,Int.reduceBEq,RR]
  cases h
  try simp only [rulesR,Nat.reduceBEq,reduceMul,reduceAdd,reduceDiv,Int.reduceBEq,RR]
  exact ⟨⟨⟨rfl,rfl,rfl,rfl,trivial⟩,rfl,trivial⟩,rfl⟩
 ·rw [ite_f hb4] at h
  try simp only [hσ,hb4,cc251,cc254,Nat.reduceBEq,reduceMul,reduceAdd,reduceDiv,Int.reduceBEq,RR]
  refine ww256 _ _ _ _ _ _ h _ ?_
  try simp only [hb4,Nat.reduceBEq,reduceMul,reduceAdd,reduceDiv,Int.reduceBEq,RR,List.map_nil]
theorem ee258 : entry Tryz.prog 53 = some (cc255.strip,[.c 6 true 4,7],67) := by kernel_rfl
theorem w_spec_PilotDuty (a0 : XChart) (a1 : List XShip) (a2 : List XPassage) (r : XDuty × Bool) (h : f_spec_PilotDuty a0 a1 a2 = some r) : FC Tryz.prog 53 [.ag (XChart.row a0),.sc (.sl (List.map XShip.row a1)),.sc (.sl (List.map XPassage.row a2))] [.ag [.v (.int .i64 r.1.From),.v (.int .i64 r.1.To),.v (.int .i64 r.1.A),.v (.int .i64 r.1.B)],.sc (.v (.bool r.2))] := by
 unfold f_spec_PilotDuty at h
 refine FC_go (σ := ⟨[(0,va [aL (List.map XPoint.row a0.Points),aL (List.map XSegment.row a0.Segments)]),(1,vc (aL (List.map XShip.row a1))),(2,vc (aL (List.map XPassage.row a2)))],[],[]⟩) mixed ee258 rfl rfl ?_
 simp only [cc255]
 try simp only [Nat.reduceBEq,reduceMul,reduceAdd,reduceDiv,Int.reduceBEq,RR]
 refine go_bx rfl rfl rfl ?_
 try simp only [Nat.reduceBEq,reduceMul,reduceAdd,reduceDiv,Int.reduceBEq,RR]
 refine go_al rfl rfl ?_
 rcases Bool.eq_false_or_eq_true ((a2.length : Int) == (0 : Int)) with hb1 | hb1
 ·rw [ite_t hb1] at h
  try simp only [hb1,Nat.reduceBEq,reduceMul,reduceAdd,reduceDiv,Int.reduceBEq,RR]
  refine ww257 _ _ _ _ _ h _ ?_
  try simp only [hb1,Nat.reduceBEq,reduceMul,reduceAdd,reduceDiv,Int.reduceBEq,RR,List.map_nil]
 ·rw [ite_f hb1] at h
  obtain ⟨r2,hr2,h⟩ := ob h
  try simp only [hb1,Nat.reduceBEq,reduceMul,reduceAdd,reduceDiv,Int.reduceBEq,RR]
  refine go_callI (w_spec_IsChain _ _ _ hr2) rfl rfl (Nat.le_of_ble_eq_true rfl) ?_
  try simp only [hb1,Nat.reduceBEq,reduceMul,reduceAdd,reduceDiv,Int.reduceBEq,RR]
  refine ww257 _ _ _ _ _ h _ ?_
  try simp only [hb1,Nat.reduceBEq,reduceMul,reduceAdd,reduceDiv,Int.reduceBEq,RR,List.map_nil]
/- 21: spec_PilotsNeeded -/
def cc259 : ACode := .seq (.reg [(none,.keep [2,4,5,9,21,22,23] [4,5] [1280])]) (.seq (.reg [bn 24 .lss 23 22]) (.seq (.cond (S 24) .skip (.exit 0)) (.seq (.block 1 (.seq (.reg [(none,.iaddr 25 (S 21) (S 23) 1),ld 26 25,mv 11 26]) (.seq (.seq (.reg [mv 27 11,(none,.len 28 (S 27)),(none,.bin 29 .eql (S 28) (K 0))]) (.cond (S 29) (.exit 1) .skip)) (.seq (.reg [(none,.load 31 (S 5) true 2),mv 32 2,mv 33 11,(none,.call 34 53 [(S 31),(S 32),(S 33)]),mv 30 34,(none,.extr 35 (S 30) 0),(none,.extr 36 (S 30) 1),(none,.alloc 12 [aI 0,aI 0,aI 0,aI 0]),(none,.store (S 12) (S 35) 4),mv 13 36]) (.seq (.seq (.reg [mv 37 13,(none,.un 38 .not (S 37))]) (.cond (S 38) (.seq (.reg [(none,.mv 8 (K (-1)))]) .ret) .skip)) (.reg [mv 39 9,(none,.load 40 (S 12) true 4),(none,.bslice 41 4 [.int .i64 0,.int .i64 0,.int .i64 0,.int .i64 0] 1 [(0,(S 40))]),(none,.app 42 4 32 (S 39) (S 41)),mv 9 42])))))) (.reg [(none,.bin 43 .add (S 23) (K 1)),mv 23 43]))))
def cc260 : ACode := (.seq (.reg [fa 45 4 2,ld 46 45,fa 47 4 3,ld 48 47,mv 49 9,(none,.frz 1280),(none,.call 50 52 [(S 46),(S 48),(S 49)]),mv 44 50,(none,.extr 51 (S 44) 0),(none,.extr 52 (S 44) 1),(none,.extr 53 (S 44) 2),mv 14 51,mv 15 52,mv 16 53]) (.seq (.seq (.reg [mv 54 16,(none,.un 55 .not (S 54))]) (.cond (S 55) (.seq (.reg [(none,.mv 8 (K (-1)))]) .ret) .skip)) (.seq (.reg [mv 56 15,mv 8 56]) .ret)))
def cc261 : ACode := (.seq (.reg [(none,.box 4 (S 0)),(none,.box 5 (S 1)),(none,.mv 8 (K 0))]) (.seq (.seq (.reg [(none,.load 17 (S 4) true 4),(none,.call 18 50 [(S 17)]),(none,.un 19 .not (S 18))]) (.cond (S 19) (.seq (.reg [(none,.mv 8 (K (-1)))]) .ret) .skip)) (.seq (.reg [(none,.bslice 20 4 [.int .i64 0,.int .i64 0,.int .i64 0,.int .i64 0] 0 []),mv 9 20]) (.seq (.seq (.reg [mv 21 3,(none,.len 22 (S 21)),(none,.mv 23 (K 0))]) (.block 0 (.loop cc259))) cc260))))
theorem ww262 (a2 : List XShip) (a3 : List (List XPassage)) (a0 : XCrew) (a1 : XChart) : ∀ (n : Nat) (v3 : Int) (v4 : List XDuty) (r : Int),f_spec_PilotsNeeded_1 a2 a3 a0 a1 n v3 v4 = some r → ∀ σ : St,σ.kept [2,4,5,9,21,22,23] [4,5] [1280] = ⟨[(2,vc (aL (List.map XShip.row a2))),(4,vc (.pb 4 0)),(5,vc (.pb 5 0)),(9,vc (.own 1280)),(21,vc (aL (List.map (rL XPassage.row) a3))),(22,vc (aI (a3.length : Int))),(23,vc (aI v3))],[(4,[aI a0.Tugs,aI a0.Pilots,aI a0.Rest,aL (List.map rI a0.Moves)]),(5,[aL (List.map XPoint.row a1.Points),aL (List.map XSegment.row a1.Segments)])],[(1280,4,List.map XDuty.row v4)]⟩ → go Tryz.prog (.code (.loop cc259) :: [.blk 0,.code cc260]) (Ret [8] [.sc (.v (.int .i64 r))]) .normal (some σ) := by
 intro n
 induction n with
 | zero => intro _ _ r h; cases h
 | succ n ih =>
  intro v3 v4 r h σ hσ
  rw [f_spec_PilotsNeeded_1] at h
  refine go_round ?_
  rcases Bool.eq_false_or_eq_true (decide (v3 < (a3.length : Int))) with hb5 | hb5
  ·rw [ite_t hb5] at h
   obtain ⟨x6,hx6,h⟩ := ob h
   rcases Bool.eq_false_or_eq_true ((x6.length : Int) == (0 : Int)) with hb7 | hb7
   ·rw [ite_t hb7] at h
    try simp only [hσ,hb5,hx6,hb7,cc259,Nat.reduceBEq,reduceMul,reduceAdd,reduceDiv,Int.reduceBEq,RR]
    refine ih _ _ _ h _ ?_
    try simp only [hb5,hx6,hb7,Nat.reduceBEq,reduceMul,reduceAdd,reduceDiv,Int.reduceBEq,RR,List.map_nil]
   ·rw [ite_f hb7] at h
    obtain ⟨r9,hr9,h⟩ := ob h
    try simp only [hσ,hb5,hx6,hb7,cc259,Nat.reduceBEq,reduceMul,reduceAdd,reduceDiv,Int.reduceBEq,RR]
    refine go_callI (w_spec_PilotDuty _ _ _ _ hr9) rfl rfl (Nat.le_of_ble_eq_true rfl) ?_
    try simp only [hb5,hx6,hb7,Nat.reduceBEq,reduceMul,reduceAdd,reduceDiv,Int.reduceBEq,RR]
    refine go_al rfl rfl ?_
    rcases Bool.eq_false_or_eq_true r9.2 with hb10 | hb10
    ·rw [ite_t hb10] at h
     try simp only [hb5,hx6,hb7,hb10,Nat.reduceBEq,reduceMul,reduceAdd,reduceDiv,Int.reduceBEq,RR]
     refine go_bsl (es := List.map XDuty.row ([r9.1] : List XDuty)) rfl rfl ?_
     obtain ⟨hg11,h⟩ := of_guard h
     try simp only [hb5,hx6,hb7,hb10,hg11,Nat.reduceBEq,reduceMul,reduceAdd,reduceDiv,Int.reduceBEq,RR]
     refine ih _ _ _ h _ ?_
     try simp only [hb5,hx6,hb7,hb10,hg11,Nat.reduceBEq,reduceMul,reduceAdd,reduceDiv,Int.reduceBEq,RR,List.map_nil]
    ·rw [ite_f hb10] at h
     try simp only [hb5,hx6,hb7,hb10,Nat.reduceBEq,reduceMul,reduceAdd,reduceDiv,Int.reduceBEq,RR]
     cases h
     exact ⟨⟨rfl,trivial⟩,rfl⟩
  ·rw [ite_f hb5] at h
   try simp only [hσ,hb5,cc259,cc260,Nat.reduceBEq,reduceMul,reduceAdd,reduceDiv,Int.reduceBEq,RR]
   refine go_frz' rfl ?_
   obtain ⟨r12,hr12,h⟩ := ob h
   try simp only [hb5,Nat.reduceBEq,reduceMul,reduceAdd,reduceDiv,Int.reduceBEq,RR]
   refine go_callI (w_spec_LeastCover _ _ _ _ hr12) rfl rfl (Nat.le_of_ble_eq_true rfl) ?_
   rcases Bool.eq_false_or_eq_true r12.2.2 with hb13 | hb13
   ·rw [ite_t hb13] at h
    try simp only [hb5,hb13,Nat.reduceBEq,reduceMul,reduceAdd,reduceDiv,Int.reduceBEq,RR]
    cases h
    exact ⟨⟨rfl,trivial⟩,rfl⟩
   ·rw [ite_f hb13] at h
    try simp only [hb5,hb13,Nat.reduceBEq,reduceMul,reduceAdd,reduceDiv,Int.reduceBEq,RR]
    cases h
    exact ⟨⟨rfl,trivial⟩,rfl⟩
theorem ee263 : entry Tryz.prog 21 = some (cc261.strip,[8],57) := by kernel_rfl
theorem w_spec_PilotsNeeded (a0 : XCrew) (a1 : XChart) (a2 : List XShip) (a3 : List (List XPassage)) (r : Int) (h : f_spec_PilotsNeeded a0 a1 a2 a3 = some r) : FC Tryz.prog 21 [.ag (XCrew.row a0),.ag (XChart.row a1),.sc (.sl (List.map XShip.row a2)),.sc (.sl (List.map (rL XPassage.row) a3))] [.sc (.v (.int .i64 r))] := by
 unfold f_spec_PilotsNeeded at h
 refine FC_go (σ := ⟨[(0,va [aI a0.Tugs,aI a0.Pilots,aI a0.Rest,aL (List.map rI a0.Moves)]),(1,va [aL (List.map XPoint.row a1.Points),aL (List.map XSegment.row a1.Segments)]),(2,vc (aL (List.map XShip.row a2))),(3,vc (aL (List.map (rL XPassage.row) a3)))],[],[]⟩) mixed ee263 rfl rfl ?_
 simp only [cc261]
 try simp only [Nat.reduceBEq,reduceMul,reduceAdd,reduceDiv,Int.reduceBEq,RR]
 refine go_bx rfl rfl rfl ?_
 try simp only [Nat.reduceBEq,reduceMul,reduceAdd,reduceDiv,Int.reduceBEq,RR]
 refine go_bx rfl rfl rfl ?_
 obtain ⟨r1,hr1,h⟩ := ob h
 try simp only [Nat.reduceBEq,reduceMul,reduceAdd,reduceDiv,Int.reduceBEq,RR]
 refine go_callI (w_spec_CrewOk _ _ hr1) rfl rfl (Nat.le_of_ble_eq_true rfl) ?_
 rcases Bool.eq_false_or_eq_true r1 with hb2 | hb2
 ·rw [ite_t hb2] at h
  try simp only [hb2,Nat.reduceBEq,reduceMul,reduceAdd,reduceDiv,Int.reduceBEq,RR]
  refine go_bsl (es := List.map XDuty.row ([] : List XDuty)) rfl rfl ?_
  try simp only [hb2,Nat.reduceBEq,reduceMul,reduceAdd,reduceDiv,Int.reduceBEq,RR]
  refine ww262 _ _ _ _ _ _ _ _ h _ ?_
  try simp only [hb2,Nat.reduceBEq,reduceMul,reduceAdd,reduceDiv,Int.reduceBEq,RR,List.map_nil]
 ·rw [ite_f hb2] at h
  try simp only [hb2,Nat.reduceBEq,reduceMul,reduceAdd,reduceDiv,Int.reduceBEq,RR]
  cases h
  exact ⟨⟨rfl,trivial⟩,rfl⟩
end Go.Vi
