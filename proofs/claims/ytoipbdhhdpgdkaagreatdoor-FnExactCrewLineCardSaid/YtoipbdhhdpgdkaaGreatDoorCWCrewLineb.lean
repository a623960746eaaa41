/-
  Walks: what the plain definitions compute is what the functions return. By program. No condition.
-/
import Derived.Test.YtoipbdhhdpgdkaaGreatDoorCNf
import Derived.Test.YtoipbdhhdpgdkaaGreatDoorChecked
import Derived.Test.YtoipbdhhdpgdkaaGreatDoorCSh
import Derived.KernelRfl
import Derived.Test.YtoipbdhhdpgdkaaGreatDoorCWCrewLinea
namespace Go.Vi
open Go.Proofs
set_option linter.unusedSimpArgs false
set_option linter.unusedVariables false
set_option maxRecDepth 4000
set_option maxHeartbeats 2000000
open Nat (reduceMul reduceAdd reduceDiv)
attribute [local irreducible] go AWP
/- 6: spec_CrewLine -/
def cc264 : ACode := .seq (.reg [(none,.keep [2,5,6,15,16,17] [2] [832,896])]) (.seq (.reg [bn 18 .lss 17 16]) (.seq (.cond (S 18) .skip (.exit 0)) (.seq (.block 1 (.seq (.reg [(none,.iaddr 19 (S 15) (S 17) 1),ld 20 19,mv 8 20]) (.reg [mv 21 6,mv 22 8,(none,.app 23 5 40 (S 21) (S 22)),mv 6 23]))) (.reg [(none,.bin 24 .add (S 17) (K 1)),mv 17 24]))))
def cc265 : ACode := (.seq (.drw [(some [],fa 25 2 8),(some [],(none,.load 26 (S 25) true 4)),(some [],fa 27 2 3),(some [],(none,.load 28 (S 27) true 2)),(some [],fa 29 2 5),(some [],ld 30 29),(some [],mv 31 6),(some [],(none,.call 32 20 [(S 26),(S 28),(S 30),(S 31)])),(some [],(none,.call 33 19 [(S 32)])),(some [43,44],(none,.bin 34 .add (KS [116,117,103,115,32]) (S 33))),(some [43,44],(none,.bin 35 .add (S 34) (KS [32,112,105,108,111,116,115,32]))),(some [32,33],fa 36 2 8),(some [32,33],(none,.load 37 (S 36) true 4)),(some [32,33],fa 38 2 3),(some [32,33],(none,.load 39 (S 38) true 2)),(some [32,33],fa 40 2 5),(some [32,33],ld 41 40),(some [32,33],mv 42 5),(some [],(none,.call 43 21 [(S 37),(S 39),(S 41),(S 42)])),(some [],(none,.call 44 19 [(S 43)])),(some [],bn 45 .add 35 44),(some [],mv 4 45)]) .ret)
def cc266 : ACode := (.seq (.reg [(none,.box 2 (S 0)),(none,.mv 4 (KS []))]) (.seq (.seq (.reg [(none,.load 9 (S 2) true 12),(none,.call 10 17 [(S 9)]),(none,.un 11 .not (S 10))]) (.cond (S 11) (.seq (.reg [(none,.mv 4 (KS []))]) .ret) .skip)) (.seq (.reg [mv 12 1,(none,.call 13 18 [(S 12)]),mv 5 13]) (.seq (.reg [(none,.bslice 14 5 [.int .i64 0,.int .i64 0,.bool false,.int .i64 0,.int .i64 0] 0 []),mv 6 14]) (.seq (.seq (.reg [mv 15 5,(none,.len 16 (S 15)),(none,.mv 17 (K 0))]) (.block 0 (.loop cc264))) cc265)))))
theorem ww267 (r3 : (List (List XPassage))) (a0 : XHarbour) : ∀ (n : Nat) (v4 : Int) (v5 : List XPassage) (r : (List UInt8)),f_spec_CrewLine_1 r3 a0 n v4 v5 = some r → ∀ σ : St,σ.kept [2,5,6,15,16,17] [2] [832,896] = ⟨[(2,vc (.pb 2 0)),(5,vc (.own 832)),(6,vc (.own 896)),(15,vc (.own 832)),(16,vc (aI (r3.length : Int))),(17,vc (aI v4))],[(2,[aI a0.Forecast.Tide.Mean,aL (List.map XPart.row a0.Forecast.Tide.Parts),aL (List.map XSurge.row a0.Forecast.Surges),aL (List.map XPoint.row a0.Chart.Points),aL (List.map XSegment.row a0.Chart.Segments),aL (List.map XShip.row a0.Fleet),aI a0.Regime.Gap,aB a0.Regime.NoMeet,aI a0.Crew.Tugs,aI a0.Crew.Pilots,aI a0.Crew.Rest,aL (List.map rI a0.Crew.Moves)])],[(832,1,List.map (rL XPassage.row) r3),(896,5,List.map XPassage.row v5)]⟩ → go Tryz.prog (.code (.loop cc264) :: [.blk 0,.code cc265]) (Ret [4] [.sc (.v (.str r))]) .normal (some σ) := by
 intro n
 induction n with
 | zero => intro _ _ r h; cases h
 | succ n ih =>
  intro v4 v5 r h σ hσ
  rw [f_spec_CrewLine_1] at h
  refine go_round ?_
  rcases Bool.eq_false_or_eq_true (decide (v4 < (r3.length : Int))) with hb6 | hb6
  ·rw [ite_t hb6] at h
   obtain ⟨x7,hx7,h⟩ := ob h
   have hx7n := ix_get hx7
   obtain ⟨hg8,h⟩ := of_guard h
   try simp only [hσ,hb6,hx7,hx7n,hg8,cc264,Nat.reduceBEq,reduceMul,reduceAdd,reduceDiv,Int.reduceBEq,RR]
   refine ih _ _ _ h _ ?_
   try simp only [hb6,hx7,hx7n,hg8,Nat.reduceBEq,reduceMul,reduceAdd,reduceDiv,Int.reduceBEq,RR,List.map_nil]
  ·rw [ite_f hb6] at h
   try simp only [hσ,hb6,cc264,cc265,Nat.reduceBEq,reduceMul,reduceAdd,reduceDiv,Int.reduceBEq,RR]
   refine go_fr_of rfl ?_
   obtain ⟨r9,hr9,h⟩ := ob h
   try simp only [hb6,Nat.reduceBEq,reduceMul,reduceAdd,reduceDiv,Int.reduceBEq,RR]
   refine go_dcall (w_spec_TugsNeeded _ _ _ _ _ hr9) (by first | rfl | kernel_rfl) (flat_of rfl) rfl (Nat.le_of_ble_eq_true rfl) ?_
   obtain ⟨r10,hr10,h⟩ := ob h
   try simp only [hb6,Nat.reduceBEq,reduceMul,reduceAdd,reduceDiv,Int.reduceBEq,RR]
   refine go_dcallI (w_spec_FormatInt _ _ hr10) rfl rfl (Nat.le_of_ble_eq_true rfl) ?_
   obtain ⟨hg11,h⟩ := of_guard h
   obtain ⟨hg12,h⟩ := of_guard h
   try simp only [List.cons_append,List.nil_append] at hg12
   obtain ⟨r13,hr13,h⟩ := ob h
   try simp only [hb6,hg11,hg12,Nat.reduceBEq,reduceMul,reduceAdd,reduceDiv,Int.reduceBEq,RR]
   refine go_dcall (w_spec_PilotsNeeded _ _ _ _ _ hr13) (by first | rfl | kernel_rfl) (flat_of rfl) rfl (Nat.le_of_ble_eq_true rfl) ?_
   obtain ⟨r14,hr14,h⟩ := ob h
   try simp only [hb6,hg11,hg12,Nat.reduceBEq,reduceMul,reduceAdd,reduceDiv,Int.reduceBEq,RR]
   refine go_dcallI (w_spec_FormatInt _ _ hr14) rfl rfl (Nat.le_of_ble_eq_true rfl) ?_
   obtain ⟨hg15,h⟩ := of_guard h
   try simp only [List.cons_append,List.nil_append] at hg15
   try simp only [hb6,hg11,hg12,hg15,Nat.reduceBEq,reduceMul,reduceAdd,reduceDiv,Int.reduceBEq,RR]
   cases h
   exact ⟨⟨rfl,trivial⟩,rfl⟩
theorem ee268 : entry Tryz.prog 6 = some (cc266.strip,[4],46) := by kernel_rfl
theorem w_spec_CrewLine (a0 : XHarbour) (a1 : List XOption) (r : (List UInt8)) (h : f_spec_CrewLine a0 a1 = some r) : FC Tryz.prog 6 [.ag (XHarbour.row a0),.sc (.sl (List.map XOption.row a1))] [.sc (.v (.str r))] := by
 unfold f_spec_CrewLine at h
 refine FC_go (σ := ⟨[(0,va [aI a0.Forecast.Tide.Mean,aL (List.map XPart.row a0.Forecast.Tide.Parts),aL (List.map XSurge.row a0.Forecast.Surges),aL (List.map XPoint.row a0.Chart.Points),aL (List.map XSegment.row a0.Chart.Segments),aL (List.map XShip.row a0.Fleet),aI a0.Regime.Gap,aB a0.Regime.NoMeet,aI a0.Crew.Tugs,aI a0.Crew.Pilots,aI a0.Crew.Rest,aL (List.map rI a0.Crew.Moves)]),(1,vc (aL (List.map XOption.row a1)))],[],[]⟩) mixed ee268 rfl rfl ?_
 simp only [cc266]
 try simp only [Nat.reduceBEq,reduceMul,reduceAdd,reduceDiv,Int.reduceBEq,RR]
 refine go_bx rfl rfl rfl ?_
 obtain ⟨r1,hr1,h⟩ := ob h
 try simp only [Nat.reduceBEq,reduceMul,reduceAdd,reduceDiv,Int.reduceBEq,RR]
 refine go_callI (w_spec_HarbourOk _ _ hr1) rfl rfl (Nat.le_of_ble_eq_true rfl) ?_
 rcases Bool.eq_false_or_eq_true r1 with hb2 | hb2
 ·rw [ite_t hb2] at h
  obtain ⟨r3,hr3,h⟩ := ob h
  try simp only [hb2,Nat.reduceBEq,reduceMul,reduceAdd,reduceDiv,Int.reduceBEq,RR]
  refine go_callI (w_spec_ChainsOf _ _ hr3) rfl rfl (Nat.le_of_ble_eq_true rfl) ?_
  try simp only [hb2,Nat.reduceBEq,reduceMul,reduceAdd,reduceDiv,Int.reduceBEq,RR]
  refine go_bsl (es := List.map XPassage.row ([] : List XPassage)) rfl rfl ?_
  try simp only [hb2,Nat.reduceBEq,reduceMul,reduceAdd,reduceDiv,Int.reduceBEq,RR]
  refine ww267 _ _ _ _ _ _ h _ ?_
  try simp only [hb2,Nat.reduceBEq,reduceMul,reduceAdd,reduceDiv,Int.reduceBEq,RR,List.map_nil]
 ·rw [ite_f hb2] at h
  try simp only [hb2,Nat.reduceBEq,reduceMul,reduceAdd,reduceDiv,Int.reduceBEq,RR]
  cases h
  exact ⟨⟨rfl,trivial⟩,rfl⟩
/- 102: impl_within -/
def cc269 : ACode := (.seq (.reg [(none,.mv 6 (KB false))]) (.seq (.reg [mv 7 1,mv 8 0,bn 9 .leq 7 8,mv 10 9,(some (10,true),.mv 11 (S 0)),(some (10,true),.mv 12 (S 2)),(some (10,true),.bin 13 .leq (S 11) (S 12)),(none,.pick 14 (S 10) (S 13) (KB false)),mv 6 14]) .ret))
theorem ee270 : entry Tryz.prog 102 = some (cc269.strip,[6],15) := by kernel_rfl
theorem w_impl_within (a0 : Int) (a1 : Int) (a2 : Int) (r : Bool) (h : f_impl_within a0 a1 a2 = some r) : FC Tryz.prog 102 [.sc (.int .i64 a0),.sc (.int .i64 a1),.sc (.int .i64 a2)] [.sc (.v (.bool r))] := by
 unfold f_impl_within at h
 refine FC_go (σ := ⟨[(0,vc (aI a0)),(1,vc (aI a1)),(2,vc (aI a2))],[],[]⟩) mixed ee270 rfl rfl ?_
 simp only [cc269]
 rcases Bool.eq_false_or_eq_true (decide (a1 ≤ a0)) with hb1 | hb1
 ·rw [ite_t hb1] at h
  try simp only [hb1,Nat.reduceBEq,reduceMul,reduceAdd,reduceDiv,Int.reduceBEq,RR]
  cases h
  exact ⟨⟨rfl,trivial⟩,rfl⟩
 ·rw [ite_f hb1] at h
  try simp only [hb1,Nat.reduceBEq,reduceMul,reduceAdd,reduceDiv,Int.reduceBEq,RR]
  cases h
  exact ⟨⟨rfl,trivial⟩,rfl⟩
/- 144: impl_isPeriod -/
def cc271 : ACode := (.seq (.reg [(none,.mv 2 (KB false))]) (.seq (.reg [mv 3 0,(none,.call 4 102 [(S 3),(K 4),(K 2880)]),mv 5 4,(some (5,true),.mv 6 (S 0)),(some (5,true),.bin 7 .rem (S 6) (K 4)),(some (5,true),.bin 8 .eql (S 7) (K 0)),(none,.pick 9 (S 5) (S 8) (KB false)),mv 2 9]) .ret))
theorem ee272 : entry Tryz.prog 144 = some (cc271.strip,[2],10) := by kernel_rfl
theorem w_impl_isPeriod (a0 : Int) (r : Bool) (h : f_impl_isPeriod a0 = some r) : FC Tryz.prog 144 [.sc (.int .i64 a0)] [.sc (.v (.bool r))] := by
 unfold f_impl_isPeriod at h
 refine FC_go (σ := ⟨[(0,vc (aI a0))],[],[]⟩) mixed ee272 rfl rfl ?_
 simp only [cc271]
 obtain ⟨r1,hr1,h⟩ := ob h
 try simp only [Nat.reduceBEq,reduceMul,reduceAdd,reduceDiv,Int.reduceBEq,RR]
 refine go_callI (w_impl_within _ _ _ _ hr1) rfl rfl (Nat.le_of_ble_eq_true rfl) ?_
 rcases Bool.eq_false_or_eq_true r1 with hb2 | hb2
 ·rw [ite_t hb2] at h
  try simp only [hb2,Nat.reduceBEq,reduceMul,reduceAdd,reduceDiv,Int.reduceBEq,RR]
  cases h
  exact ⟨⟨rfl,trivial⟩,rfl⟩
 ·rw [ite_f hb2] at h
  try simp only [hb2,Nat.reduceBEq,reduceMul,reduceAdd,reduceDiv,Int.reduceBEq,RR]
  cases h
  exact ⟨⟨rfl,trivial⟩,rfl⟩
/- 131: impl_PartOk -/
def cc273 : ACode := (.seq (.reg [(none,.box 1 (S 0)),(none,.mv 2 (KB false))]) (.seq (.reg [fa 3 1 0,ld 4 3,(none,.call 5 102 [(S 4),(K 0),(K 1000)]),mv 6 5,(some (6,true),.faddr 7 (S 1) 1),(some (6,true),.load 8 (S 7) false 1),(some (6,true),.call 9 144 [(S 8)]),(none,.pick 10 (S 6) (S 9) (KB false)),mv 11 10,(some (11,true),.faddr 12 (S 1) 2),(some (11,true),.load 13 (S 12) false 1),(some (11,true),.faddr 14 (S 1) 1),(some (11,true),.load 15 (S 14) false 1),(some (11,true),.bin 16 .sub (S 15) (K 1)),(some (11,true),.call 17 102 [(S 13),(K 0),(S 16)]),(none,.pick 18 (S 11) (S 17) (KB false)),mv 2 18]) .ret))
theorem ee274 : entry Tryz.prog 131 = some (cc273.strip,[2],19) := by kernel_rfl
theorem w_impl_PartOk (a0 : XPart) (r : Bool) (h : f_impl_PartOk a0 = some r) : FC Tryz.prog 131 [.ag (XPart.row a0)] [.sc (.v (.bool r))] := by
 unfold f_impl_PartOk at h
 refine FC_go (σ := ⟨[(0,va [aI a0.Amp,aI a0.Period,aI a0.Phase])],[],[]⟩) mixed ee274 rfl rfl ?_
 simp only [cc273]
 try simp only [Nat.reduceBEq,reduceMul,reduceAdd,reduceDiv,Int.reduceBEq,RR]
 refine go_bx rfl rfl rfl ?_
 obtain ⟨r1,hr1,h⟩ := ob h
 try simp only [Nat.reduceBEq,reduceMul,reduceAdd,reduceDiv,Int.reduceBEq,RR]
 refine go_callI (w_impl_within _ _ _ _ hr1) rfl rfl (Nat.le_of_ble_eq_true rfl) ?_
 rcases Bool.eq_false_or_eq_true r1 with hb2 | hb2
 ·rw [ite_t hb2] at h
  obtain ⟨r3,hr3,h⟩ := ob h
  try simp only [hb2,Nat.reduceBEq,reduceMul,reduceAdd,reduceDiv,Int.reduceBEq,RR]
  refine go_callI (w_impl_isPeriod _ _ hr3) rfl rfl (Nat.le_of_ble_eq_true rfl) ?_
  rcases Bool.eq_false_or_eq_true r3 with hb4 | hb4
  ·rw [ite_t hb4] at h
   obtain ⟨r5,hr5,h⟩ := ob h
   try simp only [hb2,hb4,Nat.reduceBEq,reduceMul,reduceAdd,reduceDiv,Int.reduceBEq,RR]
   refine go_callI (w_impl_within _ _ _ _ hr5) rfl rfl (Nat.le_of_ble_eq_true rfl) ?_
   try simp only [hb2,hb4,Nat.reduceBEq,reduceMul,reduceAdd,reduceDiv,Int.reduceBEq,RR]
   cases h
   exact ⟨⟨rfl,trivial⟩,rfl⟩
  ·rw [ite_f hb4] at h
   try simp only [hb2,hb4,Nat.reduceBEq,reduceMul,reduceAdd,reduceDiv,Int.reduceBEq,RR]
   cases h
   exact ⟨⟨rfl,trivial⟩,rfl⟩
 ·rw [ite_f hb2] at h
  try simp only [hb2,Nat.reduceBEq,reduceMul,reduceAdd,reduceDiv,Int.reduceBEq,RR]
  cases h
  exact ⟨⟨rfl,trivial⟩,rfl⟩
/- 101: impl_TideOk -/
def cc275 : ACode := .seq (.reg [(none,.keep [16,17,18] [] [])]) (.seq (.reg [bn 19 .lss 18 17]) (.seq (.cond (S 19) .skip (.exit 0)) (.seq (.block 1 (.seq (.reg [(none,.iaddr 20 (S 16) (S 18) 3),(none,.load 21 (S 20) true 3),(none,.alloc 4 [aI 0,aI 0,aI 0]),(none,.store (S 4) (S 21) 3)]) (.seq (.reg [(none,.load 22 (S 4) true 3),(none,.call 23 131 [(S 22)]),(none,.un 24 .not (S 23))]) (.cond (S 24) (.seq (.reg [(none,.mv 2 (KB false))]) .ret) .skip)))) (.reg [(none,.bin 25 .add (S 18) (K 1)),mv 18 25]))))
def cc276 : ACode := (.seq (.reg [(none,.mv 2 (KB true))]) .ret)
def cc277 : ACode := (.seq (.reg [(none,.box 1 (S 0)),(none,.mv 2 (KB false))]) (.seq (.seq (.reg [fa 5 1 0,ld 6 5,(none,.call 7 102 [(S 6),(K (-1000)),(K 1000)]),(none,.un 8 .not (S 7)),mv 9 8,(some (9,false),.faddr 10 (S 1) 1),(some (9,false),.load 11 (S 10) false 1),(some (9,false),.len 12 (S 11)),(some (9,false),.bin 13 .gtr (S 12) (K 4)),(none,.pick 14 (S 9) (KB true) (S 13))]) (.cond (S 14) (.seq (.reg [(none,.mv 2 (KB false))]) .ret) .skip)) (.seq (.seq (.reg [fa 15 1 1,ld 16 15,(none,.len 17 (S 16)),(none,.mv 18 (K 0))]) (.block 0 (.loop cc275))) cc276)))
theorem ww278 (a0 : XTide) : ∀ (n : Nat) (v4 : Int) (r : Bool),f_impl_TideOk_1 a0 n v4 = some r → ∀ σ : St,σ.kept [16,17,18] [] [] = ⟨[(16,vc (aL (List.map XPart.row a0.Parts))),(17,vc (aI (a0.Parts.length : Int))),(18,vc (aI v4))],[],[]⟩ → go Tryz.prog (.code (.loop cc275) :: [.blk 0,.code cc276]) (Ret [2] [.sc (.v (.bool r))]) .normal (some σ) := by
 intro n
 induction n with
 | zero => intro _ r h; cases h
 | succ n ih =>
  intro v4 r h σ hσ
  rw [f_impl_TideOk_1] at h
  refine go_round ?_
  rcases Bool.eq_false_or_eq_true (decide (v4 < (a0.Parts.length : Int))) with hb5 | hb5
  ·rw [ite_t hb5] at h
   obtain ⟨x6,hx6,h⟩ := ob h
   try simp only [hσ,hb5,hx6,cc275,Nat.reduceBEq,reduceMul,reduceAdd,reduceDiv,Int.reduceBEq,RR]
   refine go_al rfl rfl ?_
   obtain ⟨r7,hr7,h⟩ := ob h
   try simp only [hb5,hx6,Nat.reduceBEq,reduceMul,reduceAdd,reduceDiv,Int.reduceBEq,RR]
   refine go_callI (w_impl_PartOk _ _ hr7) rfl rfl (Nat.le_of_ble_eq_true rfl) ?_
   rcases Bool.eq_false_or_eq_true r7 with hb8 | hb8
   ·rw [ite_t hb8] at h
    try simp only [hb5,hx6,hb8,Nat.reduceBEq,reduceMul,reduceAdd,reduceDiv,Int.reduceBEq,RR]
    refine ih _ _ h _ ?_
    try simp only [hb5,hx6,hb8,Nat.reduceBEq,reduceMul,reduceAdd,reduceDiv,Int.reduceBEq,RR,List.map_nil]
   ·rw [ite_f hb8] at h
    try simp only [hb5,hx6,hb8,Nat.reduceBEq,reduceMul,reduceAdd,reduceDiv,Int.reduceBEq,RR]
    cases h
    exact ⟨⟨rfl,trivial⟩,rfl⟩
  ·rw [ite_f hb5] at h
   try simp only [hσ,hb5,cc275,cc276,Nat.reduceBEq,reduceMul,reduceAdd,reduceDiv,Int.reduceBEq,RR]
   cases h
   exact ⟨⟨rfl,trivial⟩,rfl⟩
theorem ee279 : entry Tryz.prog 101 = some (cc277.strip,[2],26) := by kernel_rfl
theorem w_impl_TideOk (a0 : XTide) (r : Bool) (h : f_impl_TideOk a0 = some r) : FC Tryz.prog 101 [.ag (XTide.row a0)] [.sc (.v (.bool r))] := by
 unfold f_impl_TideOk at h
 refine FC_go (σ := ⟨[(0,va [aI a0.Mean,aL (List.map XPart.row a0.Parts)])],[],[]⟩) mixed ee279 rfl rfl ?_
 simp only [cc277]
 try simp only [Nat.reduceBEq,reduceMul,reduceAdd,reduceDiv,Int.reduceBEq,RR]
 refine go_bx rfl rfl rfl ?_
 obtain ⟨r1,hr1,h⟩ := ob h
 try simp only [Nat.reduceBEq,reduceMul,reduceAdd,reduceDiv,Int.reduceBEq,RR]
 refine go_callI (w_impl_within _ _ _ _ hr1) rfl rfl (Nat.le_of_ble_eq_true rfl) ?_
 rcases Bool.eq_false_or_eq_true r1 with hb2 | hb2
 ·rw [ite_t hb2] at h
  rcases Bool.eq_false_or_eq_true (decide ((4 : Int) < (a0.Parts.length : Int))) with hb3 | hb3
  ·rw [ite_t hb3] at h
   try simp only [hb2,hb3,Nat.reduceBEq,reduceMul,reduceAdd,reduceDiv,Int.reduceBEq,RR]
   cases h
   exact ⟨⟨rfl,trivial⟩,rfl⟩
  ·rw [ite_f hb3] at h
   try simp only [hb2,hb3,Nat.reduceBEq,reduceMul,reduceAdd,reduceDiv,Int.reduceBEq,RR]
   refine ww278 _ _ _ _ h _ ?_
   try simp only [hb2,hb3,Nat.reduceBEq,reduceMul,reduceAdd,reduceDiv,Int.reduceBEq,RR,List.map_nil]
 ·rw [ite_f hb2] at h
  try simp only [hb2,Nat.reduceBEq,reduceMul,reduceAdd,reduceDiv,Int.reduceBEq,RR]
  cases h
  exact ⟨⟨rfl,trivial⟩,rfl⟩
/- 110: impl_isMinute -/
def cc280 : ACode := (.seq (.reg [(none,.mv 2 (KB false))]) (.seq (.reg [mv 3 0,(none,.call 4 102 [(S 3),(K 0),(K 2880)]),mv 2 4]) .ret))
theorem ee281 : entry Tryz.prog 110 = some (cc280.strip,[2],5) := by kernel_rfl
theorem w_impl_isMinute (a0 : Int) (r : Bool) (h : f_impl_isMinute a0 = some r) : FC Tryz.prog 110 [.sc (.int .i64 a0)] [.sc (.v (.bool r))] := by
 unfold f_impl_isMinute at h
 refine FC_go (σ := ⟨[(0,vc (aI a0))],[],[]⟩) mixed ee281 rfl rfl ?_
 simp only [cc280]
 obtain ⟨r1,hr1,h⟩ := ob h
 try simp only [Nat.reduceBEq,reduceMul,reduceAdd,reduceDiv,Int.reduceBEq,RR]
 refine go_callI (w_impl_within _ _ _ _ hr1) rfl rfl (Nat.le_of_ble_eq_true rfl) ?_
 try simp only [Nat.reduceBEq,reduceMul,reduceAdd,reduceDiv,Int.reduceBEq,RR]
 cases h
 exact ⟨⟨rfl,trivial⟩,rfl⟩
/- 103: impl_SurgeOk -/
def cc282 : ACode := (.seq (.reg [(none,.box 1 (S 0)),(none,.mv 2 (KB false))]) (.seq (.reg [fa 3 1 0,ld 4 3,(none,.call 5 110 [(S 4)]),mv 6 5,(some (6,true),.faddr 7 (S 1) 1),(some (6,true),.load 8 (S 7) false 1),(some (6,true),.bin 9 .leq (K (-500)) (S 8)),(none,.pick 10 (S 6) (S 9) (KB false)),mv 11 10,(some (11,true),.faddr 12 (S 1) 1),(some (11,true),.load 13 (S 12) false 1),(some (11,true),.faddr 14 (S 1) 2),(some (11,true),.load 15 (S 14) false 1),(some (11,true),.bin 16 .leq (S 13) (S 15)),(none,.pick 17 (S 11) (S 16) (KB false)),mv 18 17,(some (18,true),.faddr 19 (S 1) 2),(some (18,true),.load 20 (S 19) false 1),(some (18,true),.bin 21 .leq (S 20) (K 500)),(none,.pick 22 (S 18) (S 21) (KB false)),mv 2 22]) .ret))
theorem ee283 : entry Tryz.prog 103 = some (cc282.strip,[2],23) := by kernel_rfl
theorem w_impl_SurgeOk (a0 : XSurge) (r : Bool) (h : f_impl_SurgeOk a0 = some r) : FC Tryz.prog 103 [.ag (XSurge.row a0)] [.sc (.v (.bool r))] := by
 unfold f_impl_SurgeOk at h
 refine FC_go (σ := ⟨[(0,va [aI a0.From,aI a0.Low,aI a0.High])],[],[]⟩) mixed ee283 rfl rfl ?_
 simp only [cc282]
 try simp only [Nat.reduceBEq,reduceMul,reduceAdd,reduceDiv,Int.reduceBEq,RR]
 refine go_bx rfl rfl rfl ?_
 obtain ⟨r1,hr1,h⟩ := ob h
 try simp only [Nat.reduceBEq,reduceMul,reduceAdd,reduceDiv,Int.reduceBEq,RR]
 refine go_callI (w_impl_isMinute _ _ hr1) rfl rfl (Nat.le_of_ble_eq_true rfl) ?_
 rcases Bool.eq_false_or_eq_true r1 with hb2 | hb2
 ·rw [ite_t hb2] at h
  rcases Bool.eq_false_or_eq_true (decide ((-500 : Int) ≤ a0.Low)) with hb3 | hb3
  ·rw [ite_t hb3] at h
   rcases Bool.eq_false_or_eq_true (decide (a0.Low ≤ a0.High)) with hb4 | hb4
   ·rw [ite_t hb4] at h
    try simp only [hb2,hb3,hb4,Nat.reduceBEq,reduceMul,reduceAdd,reduceDiv,Int.reduceBEq,RR]
    cases h
    exact ⟨⟨rfl,trivial⟩,rfl⟩
   ·rw [ite_f hb4] at h
    try simp only [hb2,hb3,hb4,Nat.reduceBEq,reduceMul,reduceAdd,reduceDiv,Int.reduceBEq,RR]
    cases h
    exact ⟨⟨rfl,trivial⟩,rfl⟩
  ·rw [ite_f hb3] at h
   try simp only [hb2,hb3,Nat.reduceBEq,reduceMul,reduceAdd,reduceDiv,Int.reduceBEq,RR]
   cases h
   exact ⟨⟨rfl,trivial⟩,rfl⟩
 ·rw [ite_f hb2] at h
  try simp only [hb2,Nat.reduceBEq,reduceMul,reduceAdd,reduceDiv,Int.reduceBEq,RR]
  cases h
  exact ⟨⟨rfl,trivial⟩,rfl⟩
/- 61: impl_ForecastOk -/
def cc284 : ACode := .seq (.reg [(none,.keep [1,25,26,27] [1] [])]) (.seq (.reg [bn 28 .lss 27 26]) (.seq (.cond (S 28) .skip (.exit 0)) (.seq (.block 1 (.seq (.reg [mv 29 27,(none,.iaddr 30 (S 25) (S 27) 3),(none,.load 31 (S 30) true 3),(none,.alloc 4 [aI 0,aI 0,aI 0]),mv 3 29,(none,.store (S 4) (S 31) 3)]) (.seq (.drw [(some [],(none,.load 32 (S 4) true 3)),(some [],(none,.call 33 103 [(S 32)])),(some [],(none,.un 34 .not (S 33))),(some [],mv 35 34),(some [],(some (35,false),.mv 36 (S 3))),(some [],(some (35,false),.bin 37 .gtr (S 36) (K 0))),(some [],(some (35,false),.mv 38 (S 37))),(some [],(some (38,true),.faddr 39 (S 1) 2)),(some [],(some (38,true),.load 40 (S 39) false 1)),(some [],(some (38,true),.mv 41 (S 3))),(some [],(some (38,true),.bin 42 .sub (S 41) (K 1))),(some [],(some (38,true),.iaddr 43 (S 40) (S 42) 3)),(some [],(some (38,true),.faddr 44 (S 43) 0)),(some [],(some (38,true),.load 45 (S 44) false 1)),(some [],(some (38,true),.faddr 46 (S 4) 0)),(some [],(some (38,true),.load 47 (S 46) false 1)),(some [],(some (38,true),.bin 48 .geq (S 45) (S 47))),(some [],(some (35,false),.pick 49 (S 38) (S 48) (KB false))),(some [],(none,.pick 50 (S 35) (KB true) (S 49)))]) (.cond (S 50) (.seq (.reg [(none,.mv 2 (KB false))]) .ret) .skip)))) (.reg [(none,.bin 51 .add (S 27) (K 1)),mv 27 51]))))
def cc285 : ACode := (.seq (.reg [(none,.mv 2 (KB true))]) .ret)
def cc286 : ACode := (.seq (.reg [(none,.box 1 (S 0)),(none,.mv 2 (KB false))]) (.seq (.seq (.reg [fa 5 1 0,(none,.load 6 (S 5) true 2),(none,.call 7 101 [(S 6)]),(none,.un 8 .not (S 7)),mv 9 8,(some (9,false),.faddr 10 (S 1) 2),(some (9,false),.load 11 (S 10) false 1),(some (9,false),.len 12 (S 11)),(some (9,false),.call 13 102 [(S 12),(K 1),(K 6)]),(some (9,false),.un 14 .not (S 13)),(none,.pick 15 (S 9) (KB true) (S 14)),mv 16 15,(some (16,false),.faddr 17 (S 1) 2),(some (16,false),.load 18 (S 17) false 1),(some (16,false),.iaddr 19 (S 18) (K 0) 3),(some (16,false),.faddr 20 (S 19) 0),(some (16,false),.load 21 (S 20) false 1),(some (16,false),.bin 22 .neq (S 21) (K 0)),(none,.pick 23 (S 16) (KB true) (S 22))]) (.cond (S 23) (.seq (.reg [(none,.mv 2 (KB false))]) .ret) .skip)) (.seq (.seq (.reg [fa 24 1 2,ld 25 24,(none,.len 26 (S 25)),(none,.mv 27 (K 0))]) (.block 0 (.loop cc284))) cc285)))
theorem ww287 (a0 : XForecast) : ∀ (n : Nat) (v7 : Int) (r : Bool),f_impl_ForecastOk_1 a0 n v7 = some r → ∀ σ : St,σ.kept [1,25,26,27] [1] [] = ⟨[(1,vc (.pb 1 0)),(25,vc (aL (List.map XSurge.row a0.Surges))),(26,vc (aI (a0.Surges.length : Int))),(27,vc (aI v7))],[(1,[aI a0.Tide.Mean,aL (List.map XPart.row a0.Tide.Parts),aL (List.map XSurge.row a0.Surges)])],[]⟩ → go Tryz.prog (.code (.loop cc284) :: [.blk 0,.code cc285]) (Ret [2] [.sc (.v (.bool r))]) .normal (some σ) := by
 intro n
 induction n with
 | zero => intro _ r h; cases h
 | succ n ih =>
  intro v7 r h σ hσ
  rw [f_impl_ForecastOk_1] at h
  refine go_round ?_
  rcases Bool.eq_false_or_eq_true (decide (v7 < (a0.Surges.length : Int))) with hb8 | hb8
  ·rw [ite_t hb8] at h
   obtain ⟨x9,hx9,h⟩ := ob h
   try simp only [hσ,hb8,hx9,cc284,Nat.reduceBEq,reduceMul,reduceAdd,reduceDiv,Int.reduceBEq,RR]
   refine go_al rfl rfl ?_
   try simp only [hb8,hx9,Nat.reduceBEq,reduceMul,reduceAdd,reduceDiv,Int.reduceBEq,RR]
   refine go_fr_of rfl ?_
   obtain ⟨r10,hr10,h⟩ := ob h
   try simp only [hb8,hx9,Nat.reduceBEq,reduceMul,reduceAdd,reduceDiv,Int.reduceBEq,RR]
   refine go_dcallI (w_impl_SurgeOk _ _ hr10) rfl rfl (Nat.le_of_ble_eq_true rfl) ?_
   rcases Bool.eq_false_or_eq_true r10 with hb11 | hb11
   ·rw [ite_t hb11] at h
    rcases Bool.eq_false_or_eq_true (decide ((0 : Int) < v7)) with hb12 | hb12
    ·rw [ite_t hb12] at h
     obtain ⟨x13,hx13,h⟩ := ob h
     rcases Bool.eq_false_or_eq_true (decide (x9.From ≤ x13.From)) with hb14 | hb14
     ·rw [ite_t hb14] at h
      try simp only [hb8,hx9,hb11,hb12,hx13,hb14,Nat.reduceBEq,reduceMul,reduceAdd,reduceDiv,Int.reduceBEq,RR]
      cases h
      exact ⟨⟨rfl,trivial⟩,rfl⟩
     ·rw [ite_f hb14] at h
      try simp only [hb8,hx9,hb11,hb12,hx13,hb14,Nat.reduceBEq,reduceMul,reduceAdd,reduceDiv,Int.reduceBEq,RR]
      refine ih _ _ h _ ?_
      try simp only [hb8,hx9,hb11,hb12,hx13,hb14,Nat.reduceBEq,reduceMul,reduceAdd,reduceDiv,Int.reduceBEq,RR,List.map_nil]
    ·rw [ite_f hb12] at h
     try simp only [hb8,hx9,hb11,hb12,Nat.reduceBEq,reduceMul,reduceAdd,reduceDiv,Int.reduceBEq,RR]
     refine ih _ _ h _ ?_
     try simp only [hb8,hx9,hb11,hb12,Nat.reduceBEq,reduceMul,reduceAdd,reduceDiv,Int.reduceBEq,RR,List.map_nil]
   ·rw [ite_f hb11] at h
    try simp only [hb8,hx9,hb11,Nat.reduceBEq,reduceMul,reduceAdd,reduceDiv,Int.reduceBEq,RR]
    cases h
    exact ⟨⟨rfl,trivial⟩,rfl⟩
  ·rw [ite_f hb8] at h
   try simp only [hσ,hb8,cc284,cc285,Nat.reduceBEq,reduceMul,reduceAdd,reduceDiv,Int.reduceBEq,RR]
   cases h
   exact ⟨⟨rfl,trivial⟩,rfl⟩
theorem ee288 : entry Tryz.prog 61 = some (cc286.strip,[2],52) := by kernel_rfl
theorem w_impl_ForecastOk (a0 : XForecast) (r : Bool) (h : f_impl_ForecastOk a0 = some r) : FC Tryz.prog 61 [.ag (XForecast.row a0)] [.sc (.v (.bool r))] := by
 unfold f_impl_ForecastOk at h
 refine FC_go (σ := ⟨[(0,va [aI a0.Tide.Mean,aL (List.map XPart.row a0.Tide.Parts),aL (List.map XSurge.row a0.Surges)])],[],[]⟩) mixed ee288 rfl rfl ?_
 simp only [cc286]
 try simp only [Nat.reduceBEq,reduceMul,reduceAdd,reduceDiv,Int.reduceBEq,RR]
 refine go_bx rfl rfl rfl ?_
 obtain ⟨r1,hr1,h⟩ := ob h
 try simp only [Nat.reduceBEq,reduceMul,reduceAdd,reduceDiv,Int.reduceBEq,RR]
 refine go_callI (w_impl_TideOk _ _ hr1) rfl rfl (Nat.le_of_ble_eq_true rfl) ?_
 rcases Bool.eq_false_or_eq_true r1 with hb2 | hb2
 ·rw [ite_t hb2] at h
  obtain ⟨r3,hr3,h⟩ := ob h
  try simp only [hb2,Nat.reduceBEq,reduceMul,reduceAdd,reduceDiv,Int.reduceBEq,RR]
  refine go_callI (w_impl_within _ _ _ _ hr3) rfl rfl (Nat.le_of_ble_eq_true rfl) ?_
  rcases Bool.eq_false_or_eq_true r3 with hb4 | hb4
  ·rw [ite_t hb4] at h
   obtain ⟨x5,hx5,h⟩ := ob h
   rcases Bool.eq_false_or_eq_true (x5.From != (0 : Int)) with hb6 | hb6
   ·rw [ite_t hb6] at h
    try simp only [hb2,hb4,hx5,hb6,Nat.reduceBEq,reduceMul,reduceAdd,reduceDiv,Int.reduceBEq,RR]
    cases h
    exact ⟨⟨rfl,trivial⟩,rfl⟩
   ·rw [ite_f hb6] at h
    try simp only [hb2,hb4,hx5,hb6,Nat.reduceBEq,reduceMul,reduceAdd,reduceDiv,Int.reduceBEq,RR]
    refine ww287 _ _ _ _ h _ ?_
    try simp only [hb2,hb4,hx5,hb6,Nat.reduceBEq,reduceMul,reduceAdd,reduceDiv,Int.reduceBEq,RR,List.map_nil]
  ·rw [ite_f hb4] at h
   try simp only [hb2,hb4,Nat.reduceBEq,reduceMul,reduceAdd,reduceDiv,Int.reduceBEq,RR]
   cases h
   exact ⟨⟨rfl,trivial⟩,rfl⟩
 ·rw [ite_f hb2] at h
  try simp only [hb2,Nat.reduceBEq,reduceMul,reduceAdd,reduceDiv,Int.reduceBEq,RR]
  cases h
  exact ⟨⟨rfl,trivial⟩,rfl⟩
/- 104: impl_IsName -/
def cc289 : ACode := .seq (.reg [(none,.keep [0,3,4] [] [])]) (.seq (.reg [mv 25 4,(none,.un 26 .not (S 25)),mv 27 26,(some (27,true),.mv 28 (S 3)),(some (27,true),.bin 29 .eql (S 28) (K 0)),(some (27,true),.mv 30 (S 29)),(some (30,false),.mv 31 (S 0)),(some (30,false),.mv 32 (S 3)),(some (30,false),.idx 33 (S 31) (S 32)),(some (30,false),.bin 34 .lss (S 33) (K8 48)),(some (27,true),.pick 35 (S 30) (KB true) (S 34)),(some (27,true),.mv 36 (S 35)),(some (36,false),.mv 37 (S 0)),(some (36,false),.mv 38 (S 3)),(some (36,false),.idx 39 (S 37) (S 38)),(some (36,false),.bin 40 .gtr (S 39) (K8 57)),(some (27,true),.pick 41 (S 36) (KB true) (S 40)),(none,.pick 42 (S 27) (S 41) (KB false))]) (.cond (S 42) (.seq (.reg [(none,.mv 2 (KB false))]) .ret) .skip))
def cc290 : ACode := .seq (.reg [(none,.keep [0,3] [] [])]) (.reg [mv 13 3,(none,.bin 14 .add (S 13) (K 1)),mv 3 14])
def cc291 : ACode := .seq (.reg [(none,.keep [0,3] [] [])]) (.seq (.seq (.reg [mv 9 3,mv 10 0,(none,.slen 11 (S 10)),bn 12 .lss 9 11]) (.cond (S 12) .skip (.exit 0))) (.seq (.block 1 (.seq (.reg [mv 15 0,mv 16 3,(none,.idx 17 (S 15) (S 16)),(none,.bin 18 .geq (S 17) (K8 97)),mv 19 18,(some (19,true),.mv 20 (S 0)),(some (19,true),.mv 21 (S 3)),(some (19,true),.idx 22 (S 20) (S 21)),(some (19,true),.bin 23 .leq (S 22) (K8 122)),(none,.pick 24 (S 19) (S 23) (KB false)),mv 4 24]) cc289)) cc290))
def cc292 : ACode := (.seq (.reg [(none,.mv 2 (KB true))]) .ret)
def cc293 : ACode := (.seq (.reg [(none,.mv 2 (KB false))]) (.seq (.seq (.reg [mv 5 0,(none,.slen 6 (S 5)),(none,.call 7 102 [(S 6),(K 1),(K 8)]),(none,.un 8 .not (S 7))]) (.cond (S 8) (.seq (.reg [(none,.mv 2 (KB false))]) .ret) .skip)) (.seq (.seq (.reg [(none,.mv 3 (K 0))]) (.block 0 (.loop cc291))) cc292)))
theorem ww294 (a0 : List UInt8) (v3 : Int) (k_impl_IsName_1 : Int → Option Bool) (hk_impl_IsName_1 : ∀ (v3 : Int) zr,k_impl_IsName_1 v3 = some zr → ∀ σ : St,σ.kept [0,3] [] [] = ⟨[(0,vc (aS a0)),(3,vc (aI v3))],[],[]⟩ → go Tryz.prog (.code (.loop cc291) :: [.blk 0,.code cc292]) (Ret [2] [.sc (.v (.bool zr))]) .normal (some σ)) (r : Bool) (h : f_impl_IsName_3 a0 v3 k_impl_IsName_1 = some r) (σ : St) (hσ : σ.kept [0,3] [] [] = ⟨[(0,vc (aS a0)),(3,vc (aI v3))],[],[]⟩) : go Tryz.prog (.code cc290 :: [.code (.loop cc291),.blk 0,.code cc292]) (Ret [2] [.sc (.v (.bool r))]) .normal (some σ) := by
 unfold f_impl_IsName_3 at h
 try simp only [hσ,cc290,Nat.reduceBEq,reduceMul,reduceAdd,reduceDiv,Int.reduceBEq,RR]
 refine hk_impl_IsName_1 _ _ h _ ?_
 try simp only [Nat.reduceBEq,reduceMul,reduceAdd,reduceDiv,Int.reduceBEq,RR,List.map_nil]
theorem ww295 (a0 : List UInt8) (v3 : Int) (k_impl_IsName_1 : Int → Option Bool) (hk_impl_IsName_1 : ∀ (v3 : Int) zr,k_impl_IsName_1 v3 = some zr → ∀ σ : St,σ.kept [0,3] [] [] = ⟨[(0,vc (aS a0)),(3,vc (aI v3))],[],[]⟩ → go Tryz.prog (.code (.loop cc291) :: [.blk 0,.code cc292]) (Ret [2] [.sc (.v (.bool zr))]) .normal (some σ)) (v7 : Bool) (r : Bool) (h : f_impl_IsName_2 a0 v3 k_impl_IsName_1 v7 = some r) (σ : St) (hσ : σ.kept [0,3,4] [] [] = ⟨[(0,vc (aS a0)),(3,vc (aI v3)),(4,vc (aB v7))],[],[]⟩) : go Tryz.prog (.code cc289 :: [.blk 1,.code cc290,.code (.loop cc291),.blk 0,.code cc292]) (Ret [2] [.sc (.v (.bool r))]) .normal (some σ) := by
 unfold f_impl_IsName_2 at h
 rcases Bool.eq_false_or_eq_true v7 with hb8 | hb8
 ·rw [ite_t hb8] at h
  try simp only [hσ,hb8,cc289,Nat.reduceBEq,reduceMul,reduceAdd,reduceDiv,Int.reduceBEq,RR]
  refine ww294 _ _ k_impl_IsName_1 hk_impl_IsName_1 _ h _ ?_
  try simp only [hb8,Nat.reduceBEq,reduceMul,reduceAdd,reduceDiv,Int.reduceBEq,RR,List.map_nil]
 ·rw [ite_f hb8] at h
  rcases Bool.eq_false_or_eq_true (v3 == (0 : Int)) with hb9 | hb9
  ·rw [ite_t hb9] at h
   try simp only [hσ,hb8,hb9,cc289,Nat.reduceBEq,reduceMul,reduceAdd,reduceDiv,Int.reduceBEq,RR]
   cases h
   exact ⟨⟨rfl,trivial⟩,rfl⟩
  ·rw [ite_f hb9] at h
   obtain ⟨b10,hb10,h⟩ := ob h
   rcases Bool.eq_false_or_eq_true (decide ((b10.toNat : Int) < (48 : Int))) with hb11 | hb11
   ·rw [ite_t hb11] at h
    try simp only [hσ,hb8,hb9,hb10,hb11,cc289,Nat.reduceBEq,reduceMul,reduceAdd,reduceDiv,Int.reduceBEq,RR]
    cases h
    exact ⟨⟨rfl,trivial⟩,rfl⟩
   ·rw [ite_f hb11] at h
    rcases Bool.eq_false_or_eq_true (decide ((57 : Int) < (b10.toNat : Int))) with hb12 | hb12
    ·rw [ite_t hb12] at h
     try simp only [hσ,hb8,hb9,hb10,hb11,hb12,cc289,Nat.reduceBEq,reduceMul,reduceAdd,reduceDiv,Int.reduceBEq,RR]
     cases h
     exact ⟨⟨rfl,trivial⟩,rfl⟩
    ·rw [ite_f hb12] at h
     try simp only [hσ,hb8,hb9,hb10,hb11,hb12,cc289,Nat.reduceBEq,reduceMul,reduceAdd,reduceDiv,Int.reduceBEq,RR]
     refine ww294 _ _ k_impl_IsName_1 hk_impl_IsName_1 _ h _ ?_
     try simp only [hb8,hb9,hb10,hb11,hb12,Nat.reduceBEq,reduceMul,reduceAdd,reduceDiv,Int.reduceBEq,RR,List.map_nil]
theorem ww296 (a0 : List UInt8) : ∀ (n : Nat) (v3 : Int) (r : Bool),f_impl_IsName_1 a0 n v3 = some r → ∀ σ : St,σ.kept [0,3] [] [] = ⟨[(0,vc (aS a0)),(3,vc (aI v3))],[],[]⟩ → go Tryz.prog (.code (.loop cc291) :: [.blk 0,.code cc292]) (Ret [2] [.sc (.v (.bool r))]) .normal (some σ) := by
 intro n
 induction n with
 | zero => intro _ r h; cases h
 | succ n ih =>
  intro v3 r h σ hσ
  rw [f_impl_IsName_1] at h
  refine go_round ?_
  rcases Bool.eq_false_or_eq_true (decide (v3 < (a0.length : Int))) with hb4 | hb4
  ·rw [ite_t hb4] at h
   obtain ⟨b5,hb5,h⟩ := ob h
   rcases Bool.eq_false_or_eq_true (decide ((97 : Int) ≤ (b5.toNat : Int))) with hb6 | hb6
   ·rw [ite_t hb6] at h
    try simp only [hσ,hb4,hb5,hb6,cc291,Nat.reduceBEq,reduceMul,reduceAdd,reduceDiv,Int.reduceBEq,RR]
    refine ww295 _ _ (f_impl_IsName_1 a0 n) ih _ _ h _ ?_
    try simp only [hb4,hb5,hb6,Nat.reduceBEq,reduceMul,reduceAdd,reduceDiv,Int.reduceBEq,RR,List.map_nil]
   ·rw [ite_f hb6] at h
    try simp only [hσ,hb4,hb5,hb6,cc291,Nat.reduceBEq,reduceMul,reduceAdd,reduceDiv,Int.reduceBEq,RR]
    refine ww295 _ _ (f_impl_IsName_1 a0 n) ih _ _ h _ ?_
    try simp only [hb4,hb5,hb6,Nat.reduceBEq,reduceMul,reduceAdd,reduceDiv,Int.reduceBEq,RR,List.map_nil]
  ·rw [ite_f hb4] at h
   try simp only [hσ,hb4,cc291,cc292,Nat.reduceBEq,reduceMul,reduceAdd,reduceDiv,Int.reduceBEq,RR]
   cases h
   exact ⟨⟨rfl,trivial⟩,rfl⟩
theorem ee297 : entry Tryz.prog 104 = some (cc293.strip,[2],43) := by kernel_rfl
theorem w_impl_IsName (a0 : List UInt8) (r : Bool) (h : f_impl_IsName a0 = some r) : FC Tryz.prog 104 [.sc (.str a0)] [.sc (.v (.bool r))] := by
 unfold f_impl_IsName at h
 refine FC_go (σ := ⟨[(0,vc (aS a0))],[],[]⟩) mixed ee297 rfl rfl ?_
 simp only [cc293]
 obtain ⟨r1,hr1,h⟩ := ob h
 try simp only [Nat.reduceBEq,reduceMul,reduceAdd,reduceDiv,Int.reduceBEq,RR]
 refine go_callI (w_impl_within _ _ _ _ hr1) rfl rfl (Nat.le_of_ble_eq_true rfl) ?_
 rcases Bool.eq_false_or_eq_true r1 with hb2 | hb2
 ·rw [ite_t hb2] at h
  try simp only [hb2,Nat.reduceBEq,reduceMul,reduceAdd,reduceDiv,Int.reduceBEq,RR]
  refine ww296 _ _ _ _ h _ ?_
  try simp only [hb2,Nat.reduceBEq,reduceMul,reduceAdd,reduceDiv,Int.reduceBEq,RR,List.map_nil]
 ·rw [ite_f hb2] at h
  try simp only [hb2,Nat.reduceBEq,reduceMul,reduceAdd,reduceDiv,Int.reduceBEq,RR]
  cases h
  exact ⟨⟨rfl,trivial⟩,rfl⟩
/- 105: impl_PointNamed -/
def cc298 : ACode := .seq (.reg [(none,.keep [1,8,9,10] [] [])]) (.seq (.reg [bn 11 .lss 10 9]) (.seq (.cond (S 11) .skip (.exit 0)) (.seq (.block 1 (.seq (.reg [mv 12 10,(none,.iaddr 13 (S 8) (S 10) 2),(none,.load 14 (S 13) true 2),(none,.alloc 6 [aS [],aB false]),mv 5 12,(none,.store (S 6) (S 14) 2)]) (.seq (.reg [fa 15 6 0,ld 16 15,mv 17 1,bn 18 .eql 16 17]) (.cond (S 18) (.seq (.reg [mv 19 5,mv 4 19]) .ret) .skip)))) (.reg [(none,.bin 20 .add (S 10) (K 1)),mv 10 20]))))
def cc299 : ACode := (.seq (.reg [(none,.mv 4 (K (-1)))]) .ret)
def cc300 : ACode := (.seq (.reg [(none,.box 2 (S 0)),(none,.mv 4 (K 0))]) (.seq (.seq (.reg [fa 7 2 0,ld 8 7,(none,.len 9 (S 8)),(none,.mv 10 (K 0))]) (.block 0 (.loop cc298))) cc299))
theorem ww301 (a1 : List UInt8) (a0 : XChart) : ∀ (n : Nat) (v1 : Int) (r : Int),f_impl_PointNamed_1 a1 a0 n v1 = some r → ∀ σ : St,σ.kept [1,8,9,10] [] [] = ⟨[(1,vc (aS a1)),(8,vc (aL (List.map XPoint.row a0.Points))),(9,vc (aI (a0.Points.length : Int))),(10,vc (aI v1))],[],[]⟩ → go Tryz.prog (.code (.loop cc298) :: [.blk 0,.code cc299]) (Ret [4] [.sc (.v (.int .i64 r))]) .normal (some σ) := by
 intro n
 induction n with
 | zero => intro _ r h; cases h
 | succ n ih =>
  intro v1 r h σ hσ
  rw [f_impl_PointNamed_1] at h
  refine go_round ?_
  rcases Bool.eq_false_or_eq_true (decide (v1 < (a0.Points.length : Int))) with hb2 | hb2
  ·rw [ite_t hb2] at h
   obtain ⟨x3,hx3,h⟩ := ob h
   try simp only [hσ,hb2,hx3,cc298,Nat.reduceBEq,reduceMul,reduceAdd,reduceDiv,Int.reduceBEq,RR]
   refine go_al rfl rfl ?_
   rcases Bool.eq_false_or_eq_true (x3.Name == a1) with hb4 | hb4
   ·rw [ite_t hb4] at h
    try simp only [hb2,hx3,hb4,Nat.reduceBEq,reduceMul,reduceAdd,reduceDiv,Int.reduceBEq,RR]
    cases h
    exact ⟨⟨rfl,trivial⟩,rfl⟩
   ·rw [ite_f hb4] at h
    try simp only [hb2,hx3,hb4,Nat.reduceBEq,reduceMul,reduceAdd,reduceDiv,Int.reduceBEq,RR]
    refine ih _ _ h _ ?_
    try simp only [hb2,hx3,hb4,Nat.reduceBEq,reduceMul,reduceAdd,reduceDiv,Int.reduceBEq,RR,List.map_nil]
  ·rw [ite_f hb2] at h
   try simp only [hσ,hb2,cc298,cc299,Nat.reduceBEq,reduceMul,reduceAdd,reduceDiv,Int.reduceBEq,RR]
   cases h
   exact ⟨⟨rfl,trivial⟩,rfl⟩
theorem ee302 : entry Tryz.prog 105 = some (cc300.strip,[4],21) := by kernel_rfl
theorem w_impl_PointNamed (a0 : XChart) (a1 : List UInt8) (r : Int) (h : f_impl_PointNamed a0 a1 = some r) : FC Tryz.prog 105 [.ag (XChart.row a0),.sc (.str a1)] [.sc (.v (.int .i64 r))] := by
 unfold f_impl_PointNamed at h
 refine FC_go (σ := ⟨[(0,va [aL (List.map XPoint.row a0.Points),aL (List.map XSegment.row a0.Segments)]),(1,vc (aS a1))],[],[]⟩) mixed ee302 rfl rfl ?_
 simp only [cc300]
 try simp only [Nat.reduceBEq,reduceMul,reduceAdd,reduceDiv,Int.reduceBEq,RR]
 refine go_bx rfl rfl rfl ?_
 try simp only [Nat.reduceBEq,reduceMul,reduceAdd,reduceDiv,Int.reduceBEq,RR]
 refine ww301 _ _ _ _ _ h _ ?_
 try simp only [Nat.reduceBEq,reduceMul,reduceAdd,reduceDiv,Int.reduceBEq,RR,List.map_nil]
/- 106: impl_isIndex -/
def cc303 : ACode := (.seq (.reg [(none,.mv 4 (KB false))]) (.seq (.reg [mv 5 0,(none,.bin 6 .geq (S 5) (K 0)),mv 7 6,(some (7,true),.mv 8 (S 0)),(some (7,true),.mv 9 (S 1)),(some (7,true),.bin 10 .lss (S 8) (S 9)),(none,.pick 11 (S 7) (S 10) (KB false)),mv 4 11]) .ret))
theorem ee304 : entry Tryz.prog 106 = some (cc303.strip,[4],12) := by kernel_rfl
theorem w_impl_isIndex (a0 : Int) (a1 : Int) (r : Bool) (h : f_impl_isIndex a0 a1 = some r) : FC Tryz.prog 106 [.sc (.int .i64 a0),.sc (.int .i64 a1)] [.sc (.v (.bool r))] := by
 unfold f_impl_isIndex at h
 refine FC_go (σ := ⟨[(0,vc (aI a0)),(1,vc (aI a1))],[],[]⟩) mixed ee304 rfl rfl ?_
 simp only [cc303]
 rcases Bool.eq_false_or_eq_true (decide ((0 : Int) ≤ a0)) with hb1 | hb1
 ·rw [ite_t hb1] at h
  try simp only [hb1,Nat.reduceBEq,reduceMul,reduceAdd,reduceDiv,Int.reduceBEq,RR]
  cases h
  exact ⟨⟨rfl,trivial⟩,rfl⟩
 ·rw [ite_f hb1] at h
  try simp only [hb1,Nat.reduceBEq,reduceMul,reduceAdd,reduceDiv,Int.reduceBEq,RR]
  cases h
  exact ⟨⟨rfl,trivial⟩,rfl⟩
/- 107: impl_Segment_joins -/
def cc305 : ACode := (.seq (.reg [(none,.box 3 (S 0)),(none,.mv 6 (KB false))]) (.seq (.reg [fa 7 3 0,ld 8 7,mv 9 1,bn 10 .eql 8 9,mv 11 10,(some (11,true),.faddr 12 (S 3) 1),(some (11,true),.load 13 (S 12) false 1),(some (11,true),.mv 14 (S 2)),(some (11,true),.bin 15 .eql (S 13) (S 14)),(none,.pick 16 (S 11) (S 15) (KB false)),mv 17 16,(some (17,false),.faddr 18 (S 3) 0),(some (17,false),.load 19 (S 18) false 1),(some (17,false),.mv 20 (S 2)),(some (17,false),.bin 21 .eql (S 19) (S 20)),(some (17,false),.mv 22 (S 21)),(some (22,true),.faddr 23 (S 3) 1),(some (22,true),.load 24 (S 23) false 1),(some (22,true),.mv 25 (S 1)),(some (22,true),.bin 26 .eql (S 24) (S 25)),(some (17,false),.pick 27 (S 22) (S 26) (KB false)),(none,.pick 28 (S 17) (KB true) (S 27)),mv 6 28]) .ret))
theorem ee306 : entry Tryz.prog 107 = some (cc305.strip,[6],29) := by kernel_rfl
theorem w_impl_Segment_joins (a0 : XSegment) (a1 : Int) (a2 : Int) (r : Bool) (h : f_impl_Segment_joins a0 a1 a2 = some r) : FC Tryz.prog 107 [.ag (XSegment.row a0),.sc (.int .i64 a1),.sc (.int .i64 a2)] [.sc (.v (.bool r))] := by
 unfold f_impl_Segment_joins at h
 refine FC_go (σ := ⟨[(0,va [aI a0.A,aI a0.B,aI a0.Depth,aI a0.Minutes,aB a0.Meet]),(1,vc (aI a1)),(2,vc (aI a2))],[],[]⟩) mixed ee306 rfl rfl ?_
 simp only [cc305]
 try simp only [Nat.reduceBEq,reduceMul,reduceAdd,reduceDiv,Int.reduceBEq,RR]
 refine go_bx rfl rfl rfl ?_
 rcases Bool.eq_false_or_eq_true (a0.A == a1) with hb1 | hb1
 ·rw [ite_t hb1] at h
  rcases Bool.eq_false_or_eq_true (a0.B == a2) with hb2 | hb2
  ·rw [ite_t hb2] at h
   try simp only [hb1,hb2,Nat.reduceBEq,reduceMul,reduceAdd,reduceDiv,Int.reduceBEq,RR]
   cases h
   exact ⟨⟨rfl,trivial⟩,rfl⟩
  ·rw [ite_f hb2] at h
   rcases Bool.eq_false_or_eq_true (a0.A == a2) with hb3 | hb3
   ·rw [ite_t hb3] at h
    try simp only [hb1,hb2,hb3,Nat.reduceBEq,reduceMul,reduceAdd,reduceDiv,Int.reduceBEq,RR]
    cases h
    exact ⟨⟨rfl,trivial⟩,rfl⟩
   ·rw [ite_f hb3] at h
    try simp only [hb1,hb2,hb3,Nat.reduceBEq,reduceMul,reduceAdd,reduceDiv,Int.reduceBEq,RR]
    cases h
    exact ⟨⟨rfl,trivial⟩,rfl⟩
 ·rw [ite_f hb1] at h
  rcases Bool.eq_false_or_eq_true (a0.A == a2) with hb4 | hb4
  ·rw [ite_t hb4] at h
   try simp only [hb1,hb4,Nat.reduceBEq,reduceMul,reduceAdd,reduceDiv,Int.reduceBEq,RR]
   cases h
   exact ⟨⟨rfl,trivial⟩,rfl⟩
  ·rw [ite_f hb4] at h
   try simp only [hb1,hb4,Nat.reduceBEq,reduceMul,reduceAdd,reduceDiv,Int.reduceBEq,RR]
   cases h
   exact ⟨⟨rfl,trivial⟩,rfl⟩
/- 62: impl_ChartOk -/
def cc307 : ACode := .seq (.reg [(none,.keep [1,20,21,22] [1] [])]) (.seq (.reg [bn 23 .lss 22 21]) (.seq (.cond (S 23) .skip (.exit 0)) (.seq (.block 1 (.seq (.reg [mv 24 22,(none,.iaddr 25 (S 20) (S 22) 2),(none,.load 26 (S 25) true 2),(none,.alloc 4 [aS [],aB false]),mv 3 24,(none,.store (S 4) (S 26) 2)]) (.seq (.reg [fa 27 4 0,ld 28 27,(none,.call 29 104 [(S 28)]),(none,.un 30 .not (S 29)),mv 31 30,(some (31,false),.load 32 (S 1) true 2),(some (31,false),.faddr 33 (S 4) 0),(some (31,false),.load 34 (S 33) false 1),(some (31,false),.call 35 105 [(S 32),(S 34)]),(some (31,false),.mv 36 (S 3)),(some (31,false),.bin 37 .neq (S 35) (S 36)),(none,.pick 38 (S 31) (KB true) (S 37))]) (.cond (S 38) (.seq (.reg [(none,.mv 2 (KB false))]) .ret) .skip)))) (.reg [(none,.bin 39 .add (S 22) (K 1)),mv 22 39]))))
def cc308 : ACode := .seq (.reg [(none,.keep [1,6,41,42,43,86,87,88] [1,6] [])]) (.seq (.reg [bn 89 .lss 88 87]) (.seq (.cond (S 89) .skip (.exit 4)) (.seq (.block 5 (.seq (.reg [(none,.iaddr 90 (S 86) (S 88) 5),(none,.load 91 (S 90) true 5),(none,.alloc 8 [aI 0,aI 0,aI 0,aI 0,aB false]),(none,.store (S 8) (S 91) 5)]) (.seq (.reg [(none,.load 92 (S 8) true 5),fa 93 6 0,ld 94 93,fa 95 6 1,ld 96 95,(none,.call 97 107 [(S 92),(S 94),(S 96)])]) (.cond (S 97) (.seq (.reg [(none,.mv 2 (KB false))]) .ret) .skip)))) (.reg [(none,.bin 98 .add (S 88) (K 1)),mv 88 98]))))
def cc309 : ACode := (.reg [(none,.bin 99 .add (S 43) (K 1)),mv 43 99])
def cc310 : ACode := .seq (.reg [(none,.keep [1,41,42,43] [1] [])]) (.seq (.reg [bn 44 .lss 43 42]) (.seq (.cond (S 44) .skip (.exit 2)) (.seq (.block 3 (.seq (.reg [mv 45 43,(none,.iaddr 46 (S 41) (S 43) 5),(none,.load 47 (S 46) true 5),(none,.alloc 6 [aI 0,aI 0,aI 0,aI 0,aB false]),mv 5 45,(none,.store (S 6) (S 47) 5)]) (.seq (.seq (.reg [fa 48 6 0,ld 49 48,fa 50 1 0,ld 51 50,(none,.len 52 (S 51)),(none,.call 53 106 [(S 49),(S 52)]),(none,.un 54 .not (S 53)),mv 55 54,(some (55,false),.faddr 56 (S 6) 1),(some (55,false),.load 57 (S 56) false 1),(some (55,false),.faddr 58 (S 1) 0),(some (55,false),.load 59 (S 58) false 1),(some (55,false),.len 60 (S 59)),(some (55,false),.call 61 106 [(S 57),(S 60)]),(some (55,false),.un 62 .not (S 61)),(none,.pick 63 (S 55) (KB true) (S 62)),mv 64 63,(some (64,false),.faddr 65 (S 6) 0),(some (64,false),.load 66 (S 65) false 1),(some (64,false),.faddr 67 (S 6) 1),(some (64,false),.load 68 (S 67) false 1),(some (64,false),.bin 69 .eql (S 66) (S 68)),(none,.pick 70 (S 64) (KB true) (S 69)),mv 71 70,(some (71,false),.faddr 72 (S 6) 2),(some (71,false),.load 73 (S 72) false 1),(some (71,false),.call 74 102 [(S 73),(K 0),(K 3000)]),(some (71,false),.un 75 .not (S 74)),(none,.pick 76 (S 71) (KB true) (S 75)),mv 77 76,(some (77,false),.faddr 78 (S 6) 3),(some (77,false),.load 79 (S 78) false 1),(some (77,false),.call 80 102 [(S 79),(K 1),(K 240)]),(some (77,false),.un 81 .not (S 80)),(none,.pick 82 (S 77) (KB true) (S 81))]) (.cond (S 82) (.seq (.reg [(none,.mv 2 (KB false))]) .ret) .skip)) (.seq (.reg [fa 83 1 1,ld 84 83,mv 85 5,(none,.slc 86 5 (S 84) none (some (S 85)) none),(none,.len 87 (S 86)),(none,.mv 88 (K 0))]) (.block 4 (.loop cc308)))))) cc309)))
def cc311 : ACode := (.seq (.reg [(none,.mv 2 (KB true))]) .ret)
def cc312 : ACode := (.seq (.seq (.reg [fa 40 1 1,ld 41 40,(none,.len 42 (S 41)),(none,.mv 43 (K 0))]) (.block 2 (.loop cc310))) cc311)
def cc313 : ACode := (.seq (.reg [(none,.box 1 (S 0)),(none,.mv 2 (KB false))]) (.seq (.seq (.reg [fa 9 1 0,ld 10 9,(none,.len 11 (S 10)),(none,.bin 12 .gtr (S 11) (K 8)),mv 13 12,(some (13,false),.faddr 14 (S 1) 1),(some (13,false),.load 15 (S 14) false 1),(some (13,false),.len 16 (S 15)),(some (13,false),.bin 17 .gtr (S 16) (K 10)),(none,.pick 18 (S 13) (KB true) (S 17))]) (.cond (S 18) (.seq (.reg [(none,.mv 2 (KB false))]) .ret) .skip)) (.seq (.seq (.reg [fa 19 1 0,ld 20 19,(none,.len 21 (S 20)),(none,.mv 22 (K 0))]) (.block 0 (.loop cc307))) cc312)))
theorem ww314 (a0 : XChart) (v11 : Int) (x13 : XSegment) (y24 : List XSegment) (y25 : Int) (k_impl_ChartOk_2 : Int → Option Bool) (hk_impl_ChartOk_2 : ∀ (v11 : Int) zr,k_impl_ChartOk_2 v11 = some zr → ∀ σ : St,σ.kept [1,41,42,43] [1] [] = ⟨[(1,vc (.pb 1 0)),(41,vc (aL (List.map XSegment.row a0.Segments))),(42,vc (aI (a0.Segments.length : Int))),(43,vc (aI v11))],[(1,[aL (List.map XPoint.row a0.Points),aL (List.map XSegment.row a0.Segments)])],[]⟩ → go Tryz.prog (.code (.loop cc310) :: [.blk 2,.code cc311]) (Ret [2] [.sc (.v (.bool zr))]) .normal (some σ)) : ∀ (n : Nat) (v26 : Int) (r : Bool),f_impl_ChartOk_3 a0 v11 x13 y24 y25 k_impl_ChartOk_2 n v26 = some r → ∀ σ : St,σ.kept [1,6,41,42,43,86,87,88] [1,6] [] = ⟨[(1,vc (.pb 1 0)),(6,vc (.pb 6 0)),(41,vc (aL (List.map XSegment.row a0.Segments))),(42,vc (aI (a0.Segments.length : Int))),(43,vc (aI v11)),(86,vc (aL (List.map XSegment.row y24))),(87,vc (aI y25)),(88,vc (aI v26))],[(1,[aL (List.map XPoint.row a0.Points),aL (List.map XSegment.row a0.Segments)]),(6,[aI x13.A,aI x13.B,aI x13.Depth,aI x13.Minutes,aB x13.Meet])],[]⟩ → go Tryz.prog (.code (.loop cc308) :: [.blk 4,.blk 3,.code cc309,.code (.loop cc310),.blk 2,.code cc311]) (Ret [2] [.sc (.v (.bool r))]) .normal (some σ) := by
 intro n
 induction n with
 | zero => intro _ r h; cases h
 | succ n ih =>
  intro v26 r h σ hσ
  rw [f_impl_ChartOk_3] at h
  refine go_round ?_
  rcases Bool.eq_false_or_eq_true (decide (v26 < y25)) with hb27 | hb27
  ·rw [ite_t hb27] at h
   obtain ⟨x28,hx28,h⟩ := ob h
   try simp only [hσ,hb27,hx28,cc308,Nat.reduceBEq,reduceMul,reduceAdd,reduceDiv,Int.reduceBEq,RR]
   refine go_al rfl rfl ?_
   obtain ⟨r29,hr29,h⟩ := ob h
   try simp only [hb27,hx28,Nat.reduceBEq,reduceMul,reduceAdd,reduceDiv,Int.reduceBEq,RR]
   refine go_callI (w_impl_Segment_joins _ _ _ _ hr29) rfl rfl (Nat.le_of_ble_eq_true rfl) ?_
   rcases Bool.eq_false_or_eq_true r29 with hb30 | hb30
   ·rw [ite_t hb30] at h
    try simp only [hb27,hx28,hb30,Nat.reduceBEq,reduceMul,reduceAdd,reduceDiv,Int.reduceBEq,RR]
    cases h
    exact ⟨⟨rfl,trivial⟩,rfl⟩
   ·rw [ite_f hb30] at h
    try simp only [hb27,hx28,hb30,Nat.reduceBEq,reduceMul,reduceAdd,reduceDiv,Int.reduceBEq,RR]
    refine ih _ _ h _ ?_
    try simp only [hb27,hx28,hb30,Nat.reduceBEq,reduceMul,reduceAdd,reduceDiv,Int.reduceBEq,RR,List.map_nil]
  ·rw [ite_f hb27] at h
   try simp only [hσ,hb27,cc308,cc309,Nat.reduceBEq,reduceMul,reduceAdd,reduceDiv,Int.reduceBEq,RR]
   refine hk_impl_ChartOk_2 _ _ h _ ?_
   try simp only [hb27,Nat.reduceBEq,reduceMul,reduceAdd,reduceDiv,Int.reduceBEq,RR,List.map_nil]
theorem ww315 (a0 : XChart) : ∀ (n : Nat) (v11 : Int) (r : Bool),f_impl_ChartOk_2 a0 n v11 = some r → ∀ σ : St,σ.kept [1,41,42,43] [1] [] = ⟨[(1,vc (.pb 1 0)),(41,vc (aL (List.map XSegment.row a0.Segments))),(42,vc (aI (a0.Segments.length : Int))),(43,vc (aI v11))],[(1,[aL (List.map XPoint.row a0.Points),aL (List.map XSegment.row a0.Segments)])],[]⟩ → go Tryz.prog (.code (.loop cc310) :: [.blk 2,.code cc311]) (Ret [2] [.sc (.v (.bool r))]) .normal (some σ) := by
 intro n
 induction n with
 | zero => intro _ r h; cases h
 | succ n ih =>
  intro v11 r h σ hσ
  rw [f_impl_ChartOk_2] at h
  refine go_round ?_
  rcases Bool.eq_false_or_eq_true (decide (v11 < (a0.Segments.length : Int))) with hb12 | hb12
  ·rw [ite_t hb12] at h
   obtain ⟨x13,hx13,h⟩ := ob h
   try simp only [hσ,hb12,hx13,cc310,Nat.reduceBEq,reduceMul,reduceAdd,reduceDiv,Int.reduceBEq,RR]
   refine go_al rfl rfl ?_
   obtain ⟨r14,hr14,h⟩ := ob h
   try simp only [hb12,hx13,Nat.reduceBEq,reduceMul,reduceAdd,reduceDiv,Int.reduceBEq,RR]
   refine go_callI (w_impl_isIndex _ _ _ hr14) rfl rfl (Nat.le_of_ble_eq_true rfl) ?_
   rcases Bool.eq_false_or_eq_true r14 with hb15 | hb15
   ·rw [ite_t hb15] at h
    obtain ⟨r16,hr16,h⟩ := ob h
    try simp only [hb12,hx13,hb15,Nat.reduceBEq,reduceMul,reduceAdd,reduceDiv,Int.reduceBEq,RR]
    refine go_callI (w_impl_isIndex _ _ _ hr16) rfl rfl (Nat.le_of_ble_eq_true rfl) ?_
    rcases Bool.eq_false_or_eq_true r16 with hb17 | hb17
    ·rw [ite_t hb17] at h
     rcases Bool.eq_false_or_eq_true (x13.A == x13.B) with hb18 | hb18
     ·rw [ite_t hb18] at h
      try simp only [hb12,hx13,hb15,hb17,hb18,Nat.reduceBEq,reduceMul,reduceAdd,reduceDiv,Int.reduceBEq,RR]
      cases h
      exact ⟨⟨rfl,trivial⟩,rfl⟩
     ·rw [ite_f hb18] at h
      obtain ⟨r19,hr19,h⟩ := ob h
      try simp only [hb12,hx13,hb15,hb17,hb18,Nat.reduceBEq,reduceMul,reduceAdd,reduceDiv,Int.reduceBEq,RR]
      refine go_callI (w_impl_within _ _ _ _ hr19) rfl rfl (Nat.le_of_ble_eq_true rfl) ?_
      rcases Bool.eq_false_or_eq_true r19 with hb20 | hb20
      ·rw [ite_t hb20] at h
       obtain ⟨r21,hr21,h⟩ := ob h
       try simp only [hb12,hx13,hb15,hb17,hb18,hb20,Nat.reduceBEq,reduceMul,reduceAdd,reduceDiv,Int.reduceBEq,RR]
       refine go_callI (w_impl_within _ _ _ _ hr21) rfl rfl (Nat.le_of_ble_eq_true rfl) ?_
       rcases Bool.eq_false_or_eq_true r21 with hb22 | hb22
       ·rw [ite_t hb22] at h
        obtain ⟨p23,hp23,h⟩ := ob h
        try simp only [hb12,hx13,hb15,hb17,hb18,hb20,hb22,hp23,Nat.reduceBEq,reduceMul,reduceAdd,reduceDiv,Int.reduceBEq,RR]
        refine ww314 _ _ _ _ _ (f_impl_ChartOk_2 a0 n) ih _ _ _ h _ ?_
        try simp only [hb12,hx13,hb15,hb17,hb18,hb20,hb22,hp23,Nat.reduceBEq,reduceMul,reduceAdd,reduceDiv,Int.reduceBEq,RR,List.map_nil]
       ·rw [ite_f hb22] at h
        try simp only [hb12,hx13,hb15,hb17,hb18,hb20,hb22,Nat.reduceBEq,reduceMul,reduceAdd,reduceDiv,Int.reduceBEq,RR]
        cases h
        exact ⟨⟨rfl,trivial⟩,rfl⟩
      ·rw [ite_f hb20] at h
       try simp only [hb12,hx13,hb15,hb17,hb18,hb20,Nat.reduceBEq,reduceMul,reduceAdd,reduceDiv,Int.reduceBEq,RR]
       cases h
       exact ⟨⟨rfl,trivial⟩,rfl⟩
    ·rw [ite_f hb17] at h
     try simp only [hb12,hx13,hb15,hb17,Nat.reduceBEq,reduceMul,reduceAdd,reduceDiv,Int.reduceBEq,RR]
     cases h
     exact ⟨⟨rfl,trivial⟩,rfl⟩
   ·rw [ite_f hb15] at h
    try simp only [hb12,hx13,hb15,Nat.reduceBEq,reduceMul,reduceAdd,reduceDiv,Int.reduceBEq,RR]
    cases h
    exact ⟨⟨rfl,trivial⟩,rfl⟩
  ·rw [ite_f hb12] at h
   try simp only [hσ,hb12,cc310,cc311,Nat.reduceBEq,reduceMul,reduceAdd,reduceDiv,Int.reduceBEq,RR]
   cases h
   exact ⟨⟨rfl,trivial⟩,rfl⟩
theorem ww316 (a0 : XChart) : ∀ (n : Nat) (v3 : Int) (r : Bool),f_impl_ChartOk_1 a0 n v3 = some r → ∀ σ : St,σ.kept [1,20,21,22] [1] [] = ⟨[(1,vc (.pb 1 0)),(20,vc (aL (List.map XPoint.row a0.Points))),(21,vc (aI (a0.Points.length : Int))),(22,vc (aI v3))],[(1,[aL (List.map XPoint.row a0.Points),aL (List.map XSegment.row a0.Segments)])],[]⟩ → go Tryz.prog (.code (.loop cc307) :: [.blk 0,.code cc312]) (Ret [2] [.sc (.v (.bool r))]) .normal (some σ) := by
 intro n
 induction n with
 | zero => intro _ r h; cases h
 | succ n ih =>
  intro v3 r h σ hσ
  rw [f_impl_ChartOk_1] at h
  refine go_round ?_
  rcases Bool.eq_false_or_eq_true (decide (v3 < (a0.Points.length : Int))) with hb4 | hb4
  ·rw [ite_t hb4] at h
   obtain ⟨x5,hx5,h⟩ := ob h
   try simp only [hσ,hb4,hx5,cc307,Nat.reduceBEq,reduceMul,reduceAdd,reduceDiv,Int.reduceBEq,RR]
   refine go_al rfl rfl ?_
   obtain ⟨r6,hr6,h⟩ := ob h
   try simp only [hb4,hx5,Nat.reduceBEq,reduceMul,reduceAdd,reduceDiv,Int.reduceBEq,RR]
   refine go_callI (w_impl_IsName _ _ hr6) rfl rfl (Nat.le_of_ble_eq_true rfl) ?_
   rcases Bool.eq_false_or_eq_true r6 with hb7 | hb7
   ·rw [ite_t hb7] at h
    obtain ⟨r9,hr9,h⟩ := ob h
    try simp only [hb4,hx5,hb7,Nat.reduceBEq,reduceMul,reduceAdd,reduceDiv,Int.reduceBEq,RR]
    refine go_callI (w_impl_PointNamed _ _ _ hr9) rfl rfl (Nat.le_of_ble_eq_true rfl) ?_
    rcases Bool.eq_false_or_eq_true (r9 != v3) with hb10 | hb10
    ·rw [ite_t hb10] at h
     try simp only [hb4,hx5,hb7,hb10,Nat.reduceBEq,reduceMul,reduceAdd,reduceDiv,Int.reduceBEq,RR]
     cases h
     exact ⟨⟨rfl,trivial⟩,rfl⟩
    ·rw [ite_f hb10] at h
     try simp only [hb4,hx5,hb7,hb10,Nat.reduceBEq,reduceMul,reduceAdd,reduceDiv,Int.reduceBEq,RR]
     refine ih _ _ h _ ?_
     try simp only [hb4,hx5,hb7,hb10,Nat.reduceBEq,reduceMul,reduceAdd,reduceDiv,Int.reduceBEq,RR,List.map_nil]
   ·rw [ite_f hb7] at h
    try simp only [hb4,hx5,hb7,Nat.reduceBEq,reduceMul,reduceAdd,reduceDiv,Int.reduceBEq,RR]
    cases h
    exact ⟨⟨rfl,trivial⟩,rfl⟩
  ·rw [ite_f hb4] at h
   try simp only [hσ,hb4,cc307,cc312,Nat.reduceBEq,reduceMul,reduceAdd,reduceDiv,Int.reduceBEq,RR]
   refine ww315 _ _ _ _ h _ ?_
   try simp only [hb4,Nat.reduceBEq,reduceMul,reduceAdd,reduceDiv,Int.reduceBEq,RR,List.map_nil]
theorem ee317 : entry Tryz.prog 62 = some (cc313.strip,[2],100) := by kernel_rfl
theorem w_impl_ChartOk (a0 : XChart) (r : Bool) (h : f_impl_ChartOk a0 = some r) : FC Tryz.prog 62 [.ag (XChart.row a0)] [.sc (.v (.bool r))] := by
 unfold f_impl_ChartOk at h
 refine FC_go (σ := ⟨[(0,va [aL (List.map XPoint.row a0.Points),aL (List.map XSegment.row a0.Segments)])],[],[]⟩) mixed ee317 rfl rfl ?_
 simp only [cc313]
 try simp only [Nat.reduceBEq,reduceMul,reduceAdd,reduceDiv,Int.reduceBEq,RR]
 refine go_bx rfl rfl rfl ?_
 rcases Bool.eq_false_or_eq_true (decide ((8 : Int) < (a0.Points.length : Int))) with hb1 | hb1
 ·rw [ite_t hb1] at h
  try simp only [hb1,Nat.reduceBEq,reduceMul,reduceAdd,reduceDiv,Int.reduceBEq,RR]
  cases h
  exact ⟨⟨rfl,trivial⟩,rfl⟩
 ·rw [ite_f hb1] at h
  rcases Bool.eq_false_or_eq_true (decide ((10 : Int) < (a0.Segments.length : Int))) with hb2 | hb2
  ·rw [ite_t hb2] at h
   try simp only [hb1,hb2,Nat.reduceBEq,reduceMul,reduceAdd,reduceDiv,Int.reduceBEq,RR]
   cases h
   exact ⟨⟨rfl,trivial⟩,rfl⟩
  ·rw [ite_f hb2] at h
   try simp only [hb1,hb2,Nat.reduceBEq,reduceMul,reduceAdd,reduceDiv,Int.reduceBEq,RR]
   refine ww316 _ _ _ _ h _ ?_
   try simp only [hb1,hb2,Nat.reduceBEq,reduceMul,reduceAdd,reduceDiv,Int.reduceBEq,RR,List.map_nil]
/- 108: impl_ShipOk -/
def cc318 : ACode := (.seq (.reg [(none,.box 1 (S 0)),(none,.mv 2 (KB false))]) (.seq (.reg [fa 3 1 0,ld 4 3,(none,.call 5 104 [(S 4)]),mv 6 5,(some (6,true),.faddr 7 (S 1) 1),(some (6,true),.load 8 (S 7) false 1),(some (6,true),.call 9 102 [(S 8),(K 10),(K 400)]),(none,.pick 10 (S 6) (S 9) (KB false)),mv 11 10,(some (11,true),.faddr 12 (S 1) 2),(some (11,true),.load 13 (S 12) false 1),(some (11,true),.call 14 102 [(S 13),(K 100),(K 2000)]),(none,.pick 15 (S 11) (S 14) (KB false)),mv 16 15,(some (16,true),.faddr 17 (S 1) 3),(some (16,true),.load 18 (S 17) false 1),(some (16,true),.call 19 106 [(S 18),(K 4)]),(none,.pick 20 (S 16) (S 19) (KB false)),mv 21 20,(some (21,true),.faddr 22 (S 1) 4),(some (21,true),.load 23 (S 22) false 1),(some (21,true),.call 24 102 [(S 23),(K 0),(K 4)]),(none,.pick 25 (S 21) (S 24) (KB false)),mv 2 25]) .ret))
theorem ee319 : entry Tryz.prog 108 = some (cc318.strip,[2],26) := by kernel_rfl
theorem w_impl_ShipOk (a0 : XShip) (r : Bool) (h : f_impl_ShipOk a0 = some r) : FC Tryz.prog 108 [.ag (XShip.row a0)] [.sc (.v (.bool r))] := by
 unfold f_impl_ShipOk at h
 refine FC_go (σ := ⟨[(0,va [aS a0.Name,aI a0.Length,aI a0.Draught,aI a0.Line,aI a0.Tugs,aB a0.Slow])],[],[]⟩) mixed ee319 rfl rfl ?_
 simp only [cc318]
 try simp only [Nat.reduceBEq,reduceMul,reduceAdd,reduceDiv,Int.reduceBEq,RR]
 refine go_bx rfl rfl rfl ?_
 obtain ⟨r1,hr1,h⟩ := ob h
 try simp only [Nat.reduceBEq,reduceMul,reduceAdd,reduceDiv,Int.reduceBEq,RR]
 refine go_callI (w_impl_IsName _ _ hr1) rfl rfl (Nat.le_of_ble_eq_true rfl) ?_
 rcases Bool.eq_false_or_eq_true r1 with hb2 | hb2
 ·rw [ite_t hb2] at h
  obtain ⟨r3,hr3,h⟩ := ob h
  try simp only [hb2,Nat.reduceBEq,reduceMul,reduceAdd,reduceDiv,Int.reduceBEq,RR]
  refine go_callI (w_impl_within _ _ _ _ hr3) rfl rfl (Nat.le_of_ble_eq_true rfl) ?_
  rcases Bool.eq_false_or_eq_true r3 with hb4 | hb4
  ·rw [ite_t hb4] at h
   obtain ⟨r5,hr5,h⟩ := ob h
   try simp only [hb2,hb4,Nat.reduceBEq,reduceMul,reduceAdd,reduceDiv,Int.reduceBEq,RR]
   refine go_callI (w_impl_within _ _ _ _ hr5) rfl rfl (Nat.le_of_ble_eq_true rfl) ?_
   rcases Bool.eq_false_or_eq_true r5 with hb6 | hb6
   ·rw [ite_t hb6] at h
    obtain ⟨r7,hr7,h⟩ := ob h
    try simp only [hb2,hb4,hb6,Nat.reduceBEq,reduceMul,reduceAdd,reduceDiv,Int.reduceBEq,RR]
    refine go_callI (w_impl_isIndex _ _ _ hr7) rfl rfl (Nat.le_of_ble_eq_true rfl) ?_
    rcases Bool.eq_false_or_eq_true r7 with hb8 | hb8
    ·rw [ite_t hb8] at h
     obtain ⟨r9,hr9,h⟩ := ob h
     try simp only [hb2,hb4,hb6,hb8,Nat.reduceBEq,reduceMul,reduceAdd,reduceDiv,Int.reduceBEq,RR]
     refine go_callI (w_impl_within _ _ _ _ hr9) rfl rfl (Nat.le_of_ble_eq_true rfl) ?_
     try simp only [hb2,hb4,hb6,hb8,Nat.reduceBEq,reduceMul,reduceAdd,reduceDiv,Int.reduceBEq,RR]
     cases h
     exact ⟨⟨rfl,trivial⟩,rfl⟩
    ·rw [ite_f hb8] at h
     try simp only [hb2,hb4,hb6,hb8,Nat.reduceBEq,reduceMul,reduceAdd,reduceDiv,Int.reduceBEq,RR]
     cases h
     exact ⟨⟨rfl,trivial⟩,rfl⟩
   ·rw [ite_f hb6] at h
    try simp only [hb2,hb4,hb6,Nat.reduceBEq,reduceMul,reduceAdd,reduceDiv,Int.reduceBEq,RR]
    cases h
    exact ⟨⟨rfl,trivial⟩,rfl⟩
  ·rw [ite_f hb4] at h
   try simp only [hb2,hb4,Nat.reduceBEq,reduceMul,reduceAdd,reduceDiv,Int.reduceBEq,RR]
   cases h
   exact ⟨⟨rfl,trivial⟩,rfl⟩
 ·rw [ite_f hb2] at h
  try simp only [hb2,Nat.reduceBEq,reduceMul,reduceAdd,reduceDiv,Int.reduceBEq,RR]
  cases h
  exact ⟨⟨rfl,trivial⟩,rfl⟩
/- 109: impl_ShipNamed -/
def cc320 : ACode := .seq (.reg [(none,.keep [1,7,8,9] [] [])]) (.seq (.reg [bn 10 .lss 9 8]) (.seq (.cond (S 10) .skip (.exit 0)) (.seq (.block 1 (.seq (.reg [mv 11 9,(none,.iaddr 12 (S 7) (S 9) 6),(none,.load 13 (S 12) true 6),(none,.alloc 6 [aS [],aI 0,aI 0,aI 0,aI 0,aB false]),mv 5 11,(none,.store (S 6) (S 13) 6)]) (.seq (.reg [fa 14 6 0,ld 15 14,mv 16 1,bn 17 .eql 15 16]) (.cond (S 17) (.seq (.reg [mv 18 5,mv 4 18]) .ret) .skip)))) (.reg [(none,.bin 19 .add (S 9) (K 1)),mv 9 19]))))
def cc321 : ACode := (.seq (.reg [(none,.mv 4 (K (-1)))]) .ret)
def cc322 : ACode := (.seq (.reg [(none,.mv 4 (K 0))]) (.seq (.seq (.reg [mv 7 0,(none,.len 8 (S 7)),(none,.mv 9 (K 0))]) (.block 0 (.loop cc320))) cc321))
theorem ww323 (a1 : List UInt8) (a0 : List XShip) : ∀ (n : Nat) (v1 : Int) (r : Int),f_impl_ShipNamed_1 a1 a0 n v1 = some r → ∀ σ : St,σ.kept [1,7,8,9] [] [] = ⟨[(1,vc (aS a1)),(7,vc (aL (List.map XShip.row a0))),(8,vc (aI (a0.length : Int))),(9,vc (aI v1))],[],[]⟩ → go Tryz.prog (.code (.loop cc320) :: [.blk 0,.code cc321]) (Ret [4] [.sc (.v (.int .i64 r))]) .normal (some σ) := by
 intro n
 induction n with
 | zero => intro _ r h; cases h
 | succ n ih =>
  intro v1 r h σ hσ
  rw [f_impl_ShipNamed_1] at h
  refine go_round ?_
  rcases Bool.eq_false_or_eq_true (decide (v1 < (a0.length : Int))) with hb2 | hb2
  ·rw [ite_t hb2] at h
   obtain ⟨x3,hx3,h⟩ := ob h
   try simp only [hσ,hb2,hx3,cc320,Nat.reduceBEq,reduceMul,reduceAdd,reduceDiv,Int.reduceBEq,RR]
   refine go_al rfl rfl ?_
   rcases Bool.eq_false_or_eq_true (x3.Name == a1) with hb4 | hb4
   ·rw [ite_t hb4] at h
    try simp only [hb2,hx3,hb4,Nat.reduceBEq,reduceMul,reduceAdd,reduceDiv,Int.reduceBEq,RR]
    cases h
    exact ⟨⟨rfl,trivial⟩,rfl⟩
   ·rw [ite_f hb4] at h
    try simp only [hb2,hx3,hb4,Nat.reduceBEq,reduceMul,reduceAdd,reduceDiv,Int.reduceBEq,RR]
    refine ih _ _ h _ ?_
    try simp only [hb2,hx3,hb4,Nat.reduceBEq,reduceMul,reduceAdd,reduceDiv,Int.reduceBEq,RR,List.map_nil]
  ·rw [ite_f hb2] at h
   try simp only [hσ,hb2,cc320,cc321,Nat.reduceBEq,reduceMul,reduceAdd,reduceDiv,Int.reduceBEq,RR]
   cases h
   exact ⟨⟨rfl,trivial⟩,rfl⟩
theorem ee324 : entry Tryz.prog 109 = some (cc322.strip,[4],20) := by kernel_rfl
theorem w_impl_ShipNamed (a0 : List XShip) (a1 : List UInt8) (r : Int) (h : f_impl_ShipNamed a0 a1 = some r) : FC Tryz.prog 109 [.sc (.sl (List.map XShip.row a0)),.sc (.str a1)] [.sc (.v (.int .i64 r))] := by
 unfold f_impl_ShipNamed at h
 refine FC_go (σ := ⟨[(0,vc (aL (List.map XShip.row a0))),(1,vc (aS a1))],[],[]⟩) mixed ee324 rfl rfl ?_
 simp only [cc322]
 try simp only [Nat.reduceBEq,reduceMul,reduceAdd,reduceDiv,Int.reduceBEq,RR]
 refine ww323 _ _ _ _ _ h _ ?_
 try simp only [Nat.reduceBEq,reduceMul,reduceAdd,reduceDiv,Int.reduceBEq,RR,List.map_nil]
/- 63: impl_FleetOk -/
def cc325 : ACode := .seq (.reg [(none,.keep [0,8,9,10] [] [])]) (.seq (.reg [bn 11 .lss 10 9]) (.seq (.cond (S 11) .skip (.exit 0)) (.seq (.block 1 (.seq (.reg [mv 12 10,(none,.iaddr 13 (S 8) (S 10) 6),(none,.load 14 (S 13) true 6),(none,.alloc 4 [aS [],aI 0,aI 0,aI 0,aI 0,aB false]),mv 3 12,(none,.store (S 4) (S 14) 6)]) (.seq (.reg [(none,.load 15 (S 4) true 6),(none,.call 16 108 [(S 15)]),(none,.un 17 .not (S 16)),mv 18 17,(some (18,false),.mv 19 (S 0)),(some (18,false),.faddr 20 (S 4) 0),(some (18,false),.load 21 (S 20) false 1),(some (18,false),.call 22 109 [(S 19),(S 21)]),(some (18,false),.mv 23 (S 3)),(some (18,false),.bin 24 .neq (S 22) (S 23)),(none,.pick 25 (S 18) (KB true) (S 24))]) (.cond (S 25) (.seq (.reg [(none,.mv 2 (KB false))]) .ret) .skip)))) (.reg [(none,.bin 26 .add (S 10) (K 1)),mv 10 26]))))
def cc326 : ACode := (.seq (.reg [(none,.mv 2 (KB true))]) .ret)
def cc327 : ACode := (.seq (.reg [(none,.mv 2 (KB false))]) (.seq (.seq (.reg [mv 5 0,(none,.len 6 (S 5)),(none,.bin 7 .gtr (S 6) (K 6))]) (.cond (S 7) (.seq (.reg [(none,.mv 2 (KB false))]) .ret) .skip)) (.seq (.seq (.reg [mv 8 0,(none,.len 9 (S 8)),(none,.mv 10 (K 0))]) (.block 0 (.loop cc325))) cc326)))
theorem ww328 (a0 : List XShip) : ∀ (n : Nat) (v2 : Int) (r : Bool),f_impl_FleetOk_1 a0 n v2 = some r → ∀ σ : St,σ.kept [0,8,9,10] [] [] = ⟨[(0,vc (aL (List.map XShip.row a0))),(8,vc (aL (List.map XShip.row a0))),(9,vc (aI (a0.length : Int))),(10,vc (aI v2))],[],[]⟩ → go Tryz.prog (.code (.loop cc325) :: [.blk 0,.code cc326]) (Ret [2] [.sc (.v (.bool r))]) .normal (some σ) := by
 intro n
 induction n with
 | zero => intro _ r h; cases h
 | succ n ih =>
  intro v2 r h σ hσ
  rw [f_impl_FleetOk_1] at h
  refine go_round ?_
  rcases Bool.eq_false_or_eq_true (decide (v2 < (a0.length : Int))) with hb3 | hb3
  ·rw [ite_t hb3] at h
   obtain ⟨x4,hx4,h⟩ := ob h
   try simp only [hσ,hb3,hx4,cc325,Nat.reduceBEq,reduceMul,reduceAdd,reduceDiv,Int.reduceBEq,RR]
   refine go_al rfl rfl ?_
   obtain ⟨r5,hr5,h⟩ := ob h
   try simp only [hb3,hx4,Nat.reduceBEq,reduceMul,reduceAdd,reduceDiv,Int.reduceBEq,RR]
   refine go_callI (w_impl_ShipOk _ _ hr5) rfl rfl (Nat.le_of_ble_eq_true rfl) ?_
   rcases Bool.eq_false_or_eq_true r5 with hb6 | hb6
   ·rw [ite_t hb6] at h
    obtain ⟨r7,hr7,h⟩ := ob h
    try simp only [hb3,hx4,hb6,Nat.reduceBEq,reduceMul,reduceAdd,reduceDiv,Int.reduceBEq,RR]
    refine go_callI (w_impl_ShipNamed _ _ _ hr7) rfl rfl (Nat.le_of_ble_eq_true rfl) ?_
    rcases Bool.eq_false_or_eq_true (r7 != v2) with hb8 | hb8
    ·rw [ite_t hb8] at h
     try simp only [hb3,hx4,hb6,hb8,Nat.reduceBEq,reduceMul,reduceAdd,reduceDiv,Int.reduceBEq,RR]
     cases h
     exact ⟨⟨rfl,trivial⟩,rfl⟩
    ·rw [ite_f hb8] at h
     try simp only [hb3,hx4,hb6,hb8,Nat.reduceBEq,reduceMul,reduceAdd,reduceDiv,Int.reduceBEq,RR]
     refine ih _ _ h _ ?_
     try simp only [hb3,hx4,hb6,hb8,Nat.reduceBEq,reduceMul,reduceAdd,reduceDiv,Int.reduceBEq,RR,List.map_nil]
   ·rw [ite_f hb6] at h
    try simp only [hb3,hx4,hb6,Nat.reduceBEq,reduceMul,reduceAdd,reduceDiv,Int.reduceBEq,RR]
    cases h
    exact ⟨⟨rfl,trivial⟩,rfl⟩
  ·rw [ite_f hb3] at h
   try simp only [hσ,hb3,cc325,cc326,Nat.reduceBEq,reduceMul,reduceAdd,reduceDiv,Int.reduceBEq,RR]
   cases h
   exact ⟨⟨rfl,trivial⟩,rfl⟩
theorem ee329 : entry Tryz.prog 63 = some (cc327.strip,[2],27) := by kernel_rfl
theorem w_impl_FleetOk (a0 : List XShip) (r : Bool) (h : f_impl_FleetOk a0 = some r) : FC Tryz.prog 63 [.sc (.sl (List.map XShip.row a0))] [.sc (.v (.bool r))] := by
 unfold f_impl_FleetOk at h
 refine FC_go (σ := ⟨[(0,vc (aL (List.map XShip.row a0)))],[],[]⟩) mixed ee329 rfl rfl ?_
 simp only [cc327]
 rcases Bool.eq_false_or_eq_true (decide ((6 : Int) < (a0.length : Int))) with hb1 | hb1
 ·rw [ite_t hb1] at h
  try simp only [hb1,Nat.reduceBEq,reduceMul,reduceAdd,reduceDiv,Int.reduceBEq,RR]
  cases h
  exact ⟨⟨rfl,trivial⟩,rfl⟩
 ·rw [ite_f hb1] at h
  try simp only [hb1,Nat.reduceBEq,reduceMul,reduceAdd,reduceDiv,Int.reduceBEq,RR]
  refine ww328 _ _ _ _ h _ ?_
  try simp only [hb1,Nat.reduceBEq,reduceMul,reduceAdd,reduceDiv,Int.reduceBEq,RR,List.map_nil]
/- 64: impl_RegimeOk -/
def cc330 : ACode := (.seq (.reg [(none,.box 1 (S 0)),(none,.mv 2 (KB false))]) (.seq (.reg [fa 3 1 0,ld 4 3,(none,.call 5 102 [(S 4),(K 0),(K 60)]),mv 2 5]) .ret))
theorem ee331 : entry Tryz.prog 64 = some (cc330.strip,[2],6) := by kernel_rfl
theorem w_impl_RegimeOk (a0 : XRegime) (r : Bool) (h : f_impl_RegimeOk a0 = some r) : FC Tryz.prog 64 [.ag (XRegime.row a0)] [.sc (.v (.bool r))] := by
 unfold f_impl_RegimeOk at h
 refine FC_go (σ := ⟨[(0,va [aI a0.Gap,aB a0.NoMeet])],[],[]⟩) mixed ee331 rfl rfl ?_
 simp only [cc330]
 try simp only [Nat.reduceBEq,reduceMul,reduceAdd,reduceDiv,Int.reduceBEq,RR]
 refine go_bx rfl rfl rfl ?_
 obtain ⟨r1,hr1,h⟩ := ob h
 try simp only [Nat.reduceBEq,reduceMul,reduceAdd,reduceDiv,Int.reduceBEq,RR]
 refine go_callI (w_impl_within _ _ _ _ hr1) rfl rfl (Nat.le_of_ble_eq_true rfl) ?_
 try simp only [Nat.reduceBEq,reduceMul,reduceAdd,reduceDiv,Int.reduceBEq,RR]
 cases h
 exact ⟨⟨rfl,trivial⟩,rfl⟩
/- 111: impl_movesOk -/
def cc332 : ACode := .seq (.reg [(none,.keep [8,9,10] [] [])]) (.seq (.reg [bn 11 .lss 10 9]) (.seq (.cond (S 11) .skip (.exit 0)) (.seq (.block 1 (.seq (.reg [(none,.iaddr 12 (S 8) (S 10) 1),ld 13 12,mv 4 13]) (.seq (.reg [mv 14 4,(none,.call 15 102 [(S 14),(K 0),(K 240)]),(none,.un 16 .not (S 15))]) (.cond (S 16) (.seq (.reg [(none,.mv 2 (KB false))]) .ret) .skip)))) (.reg [(none,.bin 17 .add (S 10) (K 1)),mv 10 17]))))
def cc333 : ACode := (.seq (.reg [(none,.mv 2 (KB true))]) .ret)
def cc334 : ACode := (.seq (.reg [(none,.mv 2 (KB false))]) (.seq (.seq (.reg [mv 5 0,(none,.len 6 (S 5)),(none,.bin 7 .neq (S 6) (K 64))]) (.cond (S 7) (.seq (.reg [(none,.mv 2 (KB false))]) .ret) .skip)) (.seq (.seq (.reg [mv 8 0,(none,.len 9 (S 8)),(none,.mv 10 (K 0))]) (.block 0 (.loop cc332))) cc333)))
theorem ww335 (a0 : List Int) : ∀ (n : Nat) (v2 : Int) (r : Bool),f_impl_movesOk_1 a0 n v2 = some r → ∀ σ : St,σ.kept [8,9,10] [] [] = ⟨[(8,vc (aL (List.map rI a0))),(9,vc (aI (a0.length : Int))),(10,vc (aI v2))],[],[]⟩ → go Tryz.prog (.code (.loop cc332) :: [.blk 0,.code cc333]) (Ret [2] [.sc (.v (.bool r))]) .normal (some σ) := by
 intro n
 induction n with
 | zero => intro _ r h; cases h
 | succ n ih =>
  intro v2 r h σ hσ
  rw [f_impl_movesOk_1] at h
  refine go_round ?_
  rcases Bool.eq_false_or_eq_true (decide (v2 < (a0.length : Int))) with hb3 | hb3
  ·rw [ite_t hb3] at h
   obtain ⟨x4,hx4,h⟩ := ob h
   obtain ⟨r5,hr5,h⟩ := ob h
   try simp only [hσ,hb3,hx4,cc332,Nat.reduceBEq,reduceMul,reduceAdd,reduceDiv,Int.reduceBEq,RR]
   refine go_callI (w_impl_within _ _ _ _ hr5) rfl rfl (Nat.le_of_ble_eq_true rfl) ?_
   rcases Bool.eq_false_or_eq_true r5 with hb6 | hb6
   ·rw [ite_t hb6] at h
    try simp only [hb3,hx4,hb6,Nat.reduceBEq,reduceMul,reduceAdd,reduceDiv,Int.reduceBEq,RR]
    refine ih _ _ h _ ?_
    try simp only [hb3,hx4,hb6,Nat.reduceBEq,reduceMul,reduceAdd,reduceDiv,Int.reduceBEq,RR,List.map_nil]
   ·rw [ite_f hb6] at h
    try simp only [hb3,hx4,hb6,Nat.reduceBEq,reduceMul,reduceAdd,reduceDiv,Int.reduceBEq,RR]
    cases h
    exact ⟨⟨rfl,trivial⟩,rfl⟩
  ·rw [ite_f hb3] at h
   try simp only [hσ,hb3,cc332,cc333,Nat.reduceBEq,reduceMul,reduceAdd,reduceDiv,Int.reduceBEq,RR]
   cases h
   exact ⟨⟨rfl,trivial⟩,rfl⟩
theorem ee336 : entry Tryz.prog 111 = some (cc334.strip,[2],18) := by kernel_rfl
theorem w_impl_movesOk (a0 : List Int) (r : Bool) (h : f_impl_movesOk a0 = some r) : FC Tryz.prog 111 [.sc (.sl (List.map rI a0))] [.sc (.v (.bool r))] := by
 unfold f_impl_movesOk at h
 refine FC_go (σ := ⟨[(0,vc (aL (List.map rI a0)))],[],[]⟩) mixed ee336 rfl rfl ?_
 simp only [cc334]
 rcases Bool.eq_false_or_eq_true ((a0.length : Int) != (64 : Int)) with hb1 | hb1
 ·rw [ite_t hb1] at h
  try simp only [hb1,Nat.reduceBEq,reduceMul,reduceAdd,reduceDiv,Int.reduceBEq,RR]
  cases h
  exact ⟨⟨rfl,trivial⟩,rfl⟩
 ·rw [ite_f hb1] at h
  try simp only [hb1,Nat.reduceBEq,reduceMul,reduceAdd,reduceDiv,Int.reduceBEq,RR]
  refine ww335 _ _ _ _ h _ ?_
  try simp only [hb1,Nat.reduceBEq,reduceMul,reduceAdd,reduceDiv,Int.reduceBEq,RR,List.map_nil]
/- 65: impl_CrewOk -/
def cc337 : ACode := (.seq (.reg [(none,.box 1 (S 0)),(none,.mv 2 (KB false))]) (.seq (.reg [fa 3 1 0,ld 4 3,(none,.call 5 102 [(S 4),(K 0),(K 12)]),mv 6 5,(some (6,true),.faddr 7 (S 1) 1),(some (6,true),.load 8 (S 7) false 1),(some (6,true),.call 9 102 [(S 8),(K 0),(K 12)]),(none,.pick 10 (S 6) (S 9) (KB false)),mv 11 10,(some (11,true),.faddr 12 (S 1) 2),(some (11,true),.load 13 (S 12) false 1),(some (11,true),.call 14 110 [(S 13)]),(none,.pick 15 (S 11) (S 14) (KB false)),mv 16 15,(some (16,true),.faddr 17 (S 1) 3),(some (16,true),.load 18 (S 17) false 1),(some (16,true),.call 19 111 [(S 18)]),(none,.pick 20 (S 16) (S 19) (KB false)),mv 2 20]) .ret))
theorem ee338 : entry Tryz.prog 65 = some (cc337.strip,[2],21) := by kernel_rfl
theorem w_impl_CrewOk (a0 : XCrew) (r : Bool) (h : f_impl_CrewOk a0 = some r) : FC Tryz.prog 65 [.ag (XCrew.row a0)] [.sc (.v (.bool r))] := by
 unfold f_impl_CrewOk at h
 refine FC_go (σ := ⟨[(0,va [aI a0.Tugs,aI a0.Pilots,aI a0.Rest,aL (List.map rI a0.Moves)])],[],[]⟩) mixed ee338 rfl rfl ?_
 simp only [cc337]
 try simp only [Nat.reduceBEq,reduceMul,reduceAdd,reduceDiv,Int.reduceBEq,RR]
 refine go_bx rfl rfl rfl ?_
 obtain ⟨r1,hr1,h⟩ := ob h
 try simp only [Nat.reduceBEq,reduceMul,reduceAdd,reduceDiv,Int.reduceBEq,RR]
 refine go_callI (w_impl_within _ _ _ _ hr1) rfl rfl (Nat.le_of_ble_eq_true rfl) ?_
 rcases Bool.eq_false_or_eq_true r1 with hb2 | hb2
 ·rw [ite_t hb2] at h
  obtain ⟨r3,hr3,h⟩ := ob h
  try simp only [hb2,Nat.reduceBEq,reduceMul,reduceAdd,reduceDiv,Int.reduceBEq,RR]
  refine go_callI (w_impl_within _ _ _ _ hr3) rfl rfl (Nat.le_of_ble_eq_true rfl) ?_
  rcases Bool.eq_false_or_eq_true r3 with hb4 | hb4
  ·rw [ite_t hb4] at h
   obtain ⟨r5,hr5,h⟩ := ob h
   try simp only [hb2,hb4,Nat.reduceBEq,reduceMul,reduceAdd,reduceDiv,Int.reduceBEq,RR]
   refine go_callI (w_impl_isMinute _ _ hr5) rfl rfl (Nat.le_of_ble_eq_true rfl) ?_
   rcases Bool.eq_false_or_eq_true r5 with hb6 | hb6
   ·rw [ite_t hb6] at h
    obtain ⟨r7,hr7,h⟩ := ob h
    try simp only [hb2,hb4,hb6,Nat.reduceBEq,reduceMul,reduceAdd,reduceDiv,Int.reduceBEq,RR]
    refine go_callI (w_impl_movesOk _ _ hr7) rfl rfl (Nat.le_of_ble_eq_true rfl) ?_
    try simp only [hb2,hb4,hb6,Nat.reduceBEq,reduceMul,reduceAdd,reduceDiv,Int.reduceBEq,RR]
    cases h
    exact ⟨⟨rfl,trivial⟩,rfl⟩
   ·rw [ite_f hb6] at h
    try simp only [hb2,hb4,hb6,Nat.reduceBEq,reduceMul,reduceAdd,reduceDiv,Int.reduceBEq,RR]
    cases h
    exact ⟨⟨rfl,trivial⟩,rfl⟩
  ·rw [ite_f hb4] at h
   try simp only [hb2,hb4,Nat.reduceBEq,reduceMul,reduceAdd,reduceDiv,Int.reduceBEq,RR]
   cases h
   exact ⟨⟨rfl,trivial⟩,rfl⟩
 ·rw [ite_f hb2] at h
  try simp only [hb2,Nat.reduceBEq,reduceMul,reduceAdd,reduceDiv,Int.reduceBEq,RR]
  cases h
  exact ⟨⟨rfl,trivial⟩,rfl⟩
/- 28: impl_HarbourOk -/
def cc339 : ACode := (.seq (.reg [(none,.box 1 (S 0)),(none,.mv 2 (KB false))]) (.seq (.reg [fa 3 1 0,(none,.load 4 (S 3) true 3),(none,.call 5 61 [(S 4)]),mv 6 5,(some (6,true),.faddr 7 (S 1) 3),(some (6,true),.load 8 (S 7) true 2),(some (6,true),.call 9 62 [(S 8)]),(none,.pick 10 (S 6) (S 9) (KB false)),mv 11 10,(some (11,true),.faddr 12 (S 1) 5),(some (11,true),.load 13 (S 12) false 1),(some (11,true),.call 14 63 [(S 13)]),(none,.pick 15 (S 11) (S 14) (KB false)),mv 16 15,(some (16,true),.faddr 17 (S 1) 6),(some (16,true),.load 18 (S 17) true 2),(some (16,true),.call 19 64 [(S 18)]),(none,.pick 20 (S 16) (S 19) (KB false)),mv 21 20,(some (21,true),.faddr 22 (S 1) 8),(some (21,true),.load 23 (S 22) true 4),(some (21,true),.call 24 65 [(S 23)]),(none,.pick 25 (S 21) (S 24) (KB false)),mv 2 25]) .ret))
theorem ee340 : entry Tryz.prog 28 = some (cc339.strip,[2],26) := by kernel_rfl
theorem w_impl_HarbourOk (a0 : XHarbour) (r : Bool) (h : f_impl_HarbourOk a0 = some r) : FC Tryz.prog 28 [.ag (XHarbour.row a0)] [.sc (.v (.bool r))] := by
 unfold f_impl_HarbourOk at h
 refine FC_go (σ := ⟨[(0,va [aI a0.Forecast.Tide.Mean,aL (List.map XPart.row a0.Forecast.Tide.Parts),aL (List.map XSurge.row a0.Forecast.Surges),aL (List.map XPoint.row a0.Chart.Points),aL (List.map XSegment.row a0.Chart.Segments),aL (List.map XShip.row a0.Fleet),aI a0.Regime.Gap,aB a0.Regime.NoMeet,aI a0.Crew.Tugs,aI a0.Crew.Pilots,aI a0.Crew.Rest,aL (List.map rI a0.Crew.Moves)])],[],[]⟩) mixed ee340 rfl rfl ?_
 simp only [cc339]
 try simp only [Nat.reduceBEq,reduceMul,reduceAdd,reduceDiv,Int.reduceBEq,RR]
 refine go_bx rfl rfl rfl ?_
 obtain ⟨r1,hr1,h⟩ := ob h
 try simp only [Nat.reduceBEq,reduceMul,reduceAdd,reduceDiv,Int.reduceBEq,RR]
 refine go_callI (w_impl_ForecastOk _ _ hr1) rfl rfl (Nat.le_of_ble_eq_true rfl) ?_
 rcases Bool.eq_false_or_eq_true r1 with hb2 | hb2
 ·rw [ite_t hb2] at h
  obtain ⟨r3,hr3,h⟩ := ob h
  try simp only [hb2,Nat.reduceBEq,reduceMul,reduceAdd,reduceDiv,Int.reduceBEq,RR]
  refine go_callI (w_impl_ChartOk _ _ hr3) rfl rfl (Nat.le_of_ble_eq_true rfl) ?_
  rcases Bool.eq_false_or_eq_true r3 with hb4 | hb4
  ·rw [ite_t hb4] at h
   obtain ⟨r5,hr5,h⟩ := ob h
   try simp only [hb2,hb4,Nat.reduceBEq,reduceMul,reduceAdd,reduceDiv,Int.reduceBEq,RR]
   refine go_callI (w_impl_FleetOk _ _ hr5) rfl rfl (Nat.le_of_ble_eq_true rfl) ?_
   rcases Bool.eq_false_or_eq_true r5 with hb6 | hb6
   ·rw [ite_t hb6] at h
    obtain ⟨r7,hr7,h⟩ := ob h
    try simp only [hb2,hb4,hb6,Nat.reduceBEq,reduceMul,reduceAdd,reduceDiv,Int.reduceBEq,RR]
    refine go_callI (w_impl_RegimeOk _ _ hr7) rfl rfl (Nat.le_of_ble_eq_true rfl) ?_
    rcases Bool.eq_false_or_eq_true r7 with hb8 | hb8
    ·rw [ite_t hb8] at h
     obtain ⟨r9,hr9,h⟩ := ob h
     try simp only [hb2,hb4,hb6,hb8,Nat.reduceBEq,reduceMul,reduceAdd,reduceDiv,Int.reduceBEq,RR]
     refine go_callI (w_impl_CrewOk _ _ hr9) rfl rfl (Nat.le_of_ble_eq_true rfl) ?_
     try simp only [hb2,hb4,hb6,hb8,Nat.reduceBEq,reduceMul,reduceAdd,reduceDiv,Int.reduceBEq,RR]
     cases h
     exact ⟨⟨rfl,trivial⟩,rfl⟩
    ·rw [ite_f hb8] at h
     try simp only [hb2,hb4,hb6,hb8,Nat.reduceBEq,reduceMul,reduceAdd,reduceDiv,Int.reduceBEq,RR]
     cases h
     exact ⟨⟨rfl,trivial⟩,rfl⟩
   ·rw [ite_f hb6] at h
    try simp only [hb2,hb4,hb6,Nat.reduceBEq,reduceMul,reduceAdd,reduceDiv,Int.reduceBEq,RR]
    cases h
    exact ⟨⟨rfl,trivial⟩,rfl⟩
  ·rw [ite_f hb4] at h
   try simp only [hb2,hb4,Nat.reduceBEq,reduceMul,reduceAdd,reduceDiv,Int.reduceBEq,RR]
   cases h
   exact ⟨⟨rfl,trivial⟩,rfl⟩
 ·rw [ite_f hb2] at h
  try simp only [hb2,Nat.reduceBEq,reduceMul,reduceAdd,reduceDiv,Int.reduceBEq,RR]
  cases h
  exact ⟨⟨rfl,trivial⟩,rfl⟩
/- 66: impl_clone_Passage -/
def cc341 : ACode := (.seq (.reg [(none,.mv 2 KN)]) (.seq (.reg [mv 3 0,(none,.len 4 (S 3)),(none,.mksl 5 5 40 [.int .i64 0,.int .i64 0,.bool false,.int .i64 0,.int .i64 0] (K 0) (S 4)),mv 6 0,(none,.app 7 5 40 (S 5) (S 6)),mv 2 7]) .ret))
theorem ee342 : entry Tryz.prog 66 = some (cc341.strip,[2],8) := by kernel_rfl
theorem w_impl_clone_Passage (a0 : List XPassage) (r : (List XPassage)) (h : f_impl_clone_Passage a0 = some r) : FC Tryz.prog 66 [.sc (.sl (List.map XPassage.row a0))] [.sc (.o 5 (List.map XPassage.row r))] := by
 unfold f_impl_clone_Passage at h
 refine FC_go (σ := ⟨[(0,vc (aL (List.map XPassage.row a0)))],[],[]⟩) mixed ee342 rfl rfl ?_
 simp only [cc341]
 obtain ⟨n1,hn1,h⟩ := ob h
 try simp only [Nat.reduceBEq,reduceMul,reduceAdd,reduceDiv,Int.reduceBEq,RR]
 refine go_mks (es := List.map XPassage.row (List.replicate n1 (⟨(0 : Int),(0 : Int),false,(0 : Int),(0 : Int)⟩ : XPassage))) rfl rfl hn1 rfl (rep_map rfl) rfl ?_
 obtain ⟨hg2,h⟩ := of_guard h
 try simp only [hg2,Nat.reduceBEq,reduceMul,reduceAdd,reduceDiv,Int.reduceBEq,RR]
 cases h
 exact ⟨⟨rfl,trivial⟩,rfl⟩
/- 29: impl_ChainsOf -/
def cc343 : ACode := .seq (.reg [(none,.keep [3,7,8,9] [] [384])]) (.seq (.reg [bn 10 .lss 9 8]) (.seq (.cond (S 10) .skip (.exit 0)) (.seq (.block 1 (.seq (.reg [(none,.iaddr 11 (S 7) (S 9) 4),(none,.load 12 (S 11) true 4),(none,.alloc 5 [aI 0,aI 0,aI 0,.nil]),(none,.store (S 5) (S 12) 4)]) (.reg [mv 13 3,fa 14 5 3,ld 15 14,(none,.call 16 66 [(S 15)]),(none,.frz 1024),(none,.bslice 17 1 [.sl []] 1 [(0,(S 16))]),(none,.app 18 1 24 (S 13) (S 17)),mv 3 18]))) (.reg [(none,.bin 19 .add (S 9) (K 1)),mv 9 19]))))
def cc344 : ACode := (.seq (.reg [mv 20 3,mv 2 20]) .ret)
def cc345 : ACode := (.seq (.reg [(none,.mv 2 KN)]) (.seq (.reg [(none,.bslice 6 1 [.sl []] 0 []),mv 3 6]) (.seq (.seq (.reg [mv 7 0,(none,.len 8 (S 7)),(none,.mv 9 (K 0))]) (.block 0 (.loop cc343))) cc344)))
theorem ww346 (a0 : List XOption) : ∀ (n : Nat) (v1 : Int) (v2 : List (List XPassage)) (r : (List (List XPassage))),f_impl_ChainsOf_1 a0 n v1 v2 = some r → ∀ σ : St,σ.kept [3,7,8,9] [] [384] = ⟨[(3,vc (.own 384)),(7,vc (aL (List.map XOption.row a0))),(8,vc (aI (a0.length : Int))),(9,vc (aI v1))],[],[(384,1,List.map (rL XPassage.row) v2)]⟩ → go Tryz.prog (.code (.loop cc343) :: [.blk 0,.code cc344]) (Ret [2] [.sc (.o 1 (List.map (rL XPassage.row) r))]) .normal (some σ) := by
 intro n
 induction n with
 | zero => intro _ _ r h; cases h
 | succ n ih =>
  intro v1 v2 r h σ hσ
  rw [f_impl_ChainsOf_1] at h
  refine go_round ?_
  rcases Bool.eq_false_or_eq_true (decide (v1 < (a0.length : Int))) with hb3 | hb3
  ·rw [ite_t hb3] at h
   obtain ⟨x4,hx4,h⟩ := ob h
   try simp only [hσ,hb3,hx4,cc343,Nat.reduceBEq,reduceMul,reduceAdd,reduceDiv,Int.reduceBEq,RR]
   refine go_al rfl rfl ?_
   obtain ⟨r5,hr5,h⟩ := ob h
   try simp only [hb3,hx4,Nat.reduceBEq,reduceMul,reduceAdd,reduceDiv,Int.reduceBEq,RR]
   refine go_callI (w_impl_clone_Passage _ _ hr5) rfl rfl (Nat.le_of_ble_eq_true rfl) ?_
   try simp only [hb3,hx4,Nat.reduceBEq,reduceMul,reduceAdd,reduceDiv,Int.reduceBEq,RR]
   refine go_frz' rfl ?_
   try simp only [hb3,hx4,Nat.reduceBEq,reduceMul,reduceAdd,reduceDiv,Int.reduceBEq,RR]
   refine go_bsl (es := List.map (rL XPassage.row) ([r5] : List (List XPassage))) rfl rfl ?_
   obtain ⟨hg6,h⟩ := of_guard h
   try simp only [hb3,hx4,hg6,Nat.reduceBEq,reduceMul,reduceAdd,reduceDiv,Int.reduceBEq,RR]
   refine ih _ _ _ h _ ?_
   try simp only [hb3,hx4,hg6,Nat.reduceBEq,reduceMul,reduceAdd,reduceDiv,Int.reduceBEq,RR,List.map_nil]
  ·rw [ite_f hb3] at h
   try simp only [hσ,hb3,cc343,cc344,Nat.reduceBEq,reduceMul,reduceAdd,reduceDiv,Int.reduceBEq,RR]
   cases h
   exact ⟨⟨rfl,trivial⟩,rfl⟩
theorem ee347 : entry Tryz.prog 29 = some (cc345.strip,[2],21) := by kernel_rfl
theorem w_impl_ChainsOf (a0 : List XOption) (r : (List (List XPassage))) (h : f_impl_ChainsOf a0 = some r) : FC Tryz.prog 29 [.sc (.sl (List.map XOption.row a0))] [.sc (.o 1 (List.map (rL XPassage.row) r))] := by
 unfold f_impl_ChainsOf at h
 refine FC_go (σ := ⟨[(0,vc (aL (List.map XOption.row a0)))],[],[]⟩) mixed ee347 rfl rfl ?_
 simp only [cc345]
 try simp only [Nat.reduceBEq,reduceMul,reduceAdd,reduceDiv,Int.reduceBEq,RR]
 refine go_bsl (es := List.map (rL XPassage.row) ([] : List (List XPassage))) rfl rfl ?_
 try simp only [Nat.reduceBEq,reduceMul,reduceAdd,reduceDiv,Int.reduceBEq,RR]
 refine ww346 _ _ _ _ _ h _ ?_
 try simp only [Nat.reduceBEq,reduceMul,reduceAdd,reduceDiv,Int.reduceBEq,RR,List.map_nil]
/- 148: impl_Ship_minutes -/
def cc348 : ACode := (.seq (.reg [(none,.box 2 (S 0)),(none,.box 3 (S 1)),(none,.mv 4 (K 0))]) (.seq (.seq (.reg [fa 5 2 5,ld 6 5]) (.cond (S 6) (.seq (.reg [fa 7 3 3,ld 8 7,(none,.bin 9 .mul (K 2) (S 8)),mv 4 9]) .ret) .skip)) (.seq (.reg [fa 10 3 3,ld 11 10,mv 4 11]) .ret)))
theorem ee349 : entry Tryz.prog 148 = some (cc348.strip,[4],12) := by kernel_rfl
theorem w_impl_Ship_minutes (a0 : XShip) (a1 : XSegment) (r : Int) (h : f_impl_Ship_minutes a0 a1 = some r) : FC Tryz.prog 148 [.ag (XShip.row a0),.ag (XSegment.row a1)] [.sc (.v (.int .i64 r))] := by
 unfold f_impl_Ship_minutes at h
 refine FC_go (σ := ⟨[(0,va [aS a0.Name,aI a0.Length,aI a0.Draught,aI a0.Line,aI a0.Tugs,aB a0.Slow]),(1,va [aI a1.A,aI a1.B,aI a1.Depth,aI a1.Minutes,aB a1.Meet])],[],[]⟩) mixed ee349 rfl rfl ?_
 simp only [cc348]
 try simp only [Nat.reduceBEq,reduceMul,reduceAdd,reduceDiv,Int.reduceBEq,RR]
 refine go_bx rfl rfl rfl ?_
 try simp only [Nat.reduceBEq,reduceMul,reduceAdd,reduceDiv,Int.reduceBEq,RR]
 refine go_bx rfl rfl rfl ?_
 rcases Bool.eq_false_or_eq_true a0.Slow with hb1 | hb1
 ·rw [ite_t hb1] at h
  try simp only [hb1,Nat.reduceBEq,reduceMul,reduceAdd,reduceDiv,Int.reduceBEq,RR]
  cases h
  exact ⟨⟨rfl,trivial⟩,rfl⟩
 ·rw [ite_f hb1] at h
  try simp only [hb1,Nat.reduceBEq,reduceMul,reduceAdd,reduceDiv,Int.reduceBEq,RR]
  cases h
  exact ⟨⟨rfl,trivial⟩,rfl⟩
/- 136: impl_passageOk -/
def cc350 : ACode := (.seq (.reg [(none,.box 3 (S 0)),(none,.box 5 (S 2)),(none,.mv 6 (KB false))]) (.seq (.seq (.reg [fa 7 5 0,ld 8 7,mv 9 1,(none,.len 10 (S 9)),(none,.call 11 106 [(S 8),(S 10)]),(none,.un 12 .not (S 11)),mv 13 12,(some (13,false),.faddr 14 (S 5) 1),(some (13,false),.load 15 (S 14) false 1),(some (13,false),.faddr 16 (S 3) 1),(some (13,false),.load 17 (S 16) false 1),(some (13,false),.len 18 (S 17)),(some (13,false),.call 19 106 [(S 15),(S 18)]),(some (13,false),.un 20 .not (S 19)),(none,.pick 21 (S 13) (KB true) (S 20)),mv 22 21,(some (22,false),.faddr 23 (S 5) 3),(some (22,false),.load 24 (S 23) false 1),(some (22,false),.call 25 110 [(S 24)]),(some (22,false),.un 26 .not (S 25)),(none,.pick 27 (S 22) (KB true) (S 26)),mv 28 27,(some (28,false),.faddr 29 (S 5) 4),(some (28,false),.load 30 (S 29) false 1),(some (28,false),.bin 31 .gtr (S 30) (K 2880)),(none,.pick 32 (S 28) (KB true) (S 31))]) (.cond (S 32) (.seq (.reg [(none,.mv 6 (KB false))]) .ret) .skip)) (.seq (.drw [(some [48],fa 33 5 4),(some [48],ld 34 33),(some [48],fa 35 5 3),(some [48],ld 36 35),(some [],mv 37 1),(some [],fa 38 5 0),(some [],ld 39 38),(some [],(none,.iaddr 40 (S 37) (S 39) 6)),(some [],(none,.load 41 (S 40) true 6)),(some [],fa 42 3 1),(some [],ld 43 42),(some [],fa 44 5 1),(some [],ld 45 44),(some [],(none,.iaddr 46 (S 43) (S 45) 5)),(some [],(none,.load 47 (S 46) true 5)),(some [],(none,.call 48 148 [(S 41),(S 47)])),(some [],bn 49 .add 36 48),(some [],bn 50 .eql 34 49),(some [],mv 6 50)]) .ret)))
theorem ee351 : entry Tryz.prog 136 = some (cc350.strip,[6],51) := by kernel_rfl
theorem w_impl_passageOk (a0 : XChart) (a1 : List XShip) (a2 : XPassage) (r : Bool) (h : f_impl_passageOk a0 a1 a2 = some r) : FC Tryz.prog 136 [.ag (XChart.row a0),.sc (.sl (List.map XShip.row a1)),.ag (XPassage.row a2)] [.sc (.v (.bool r))] := by
 unfold f_impl_passageOk at h
 refine FC_go (σ := ⟨[(0,va [aL (List.map XPoint.row a0.Points),aL (List.map XSegment.row a0.Segments)]),(1,vc (aL (List.map XShip.row a1))),(2,va [aI a2.Ship,aI a2.Segment,aB a2.Toward,aI a2.Start,aI a2.End])],[],[]⟩) mixed ee351 rfl rfl ?_
 simp only [cc350]
 try simp only [Nat.reduceBEq,reduceMul,reduceAdd,reduceDiv,Int.reduceBEq,RR]
 refine go_bx rfl rfl rfl ?_
 try simp only [Nat.reduceBEq,reduceMul,reduceAdd,reduceDiv,Int.reduceBEq,RR]
 refine go_bx rfl rfl rfl ?_
 obtain ⟨r1,hr1,h⟩ := ob h
 try simp only [Nat.reduceBEq,reduceMul,reduceAdd,reduceDiv,Int.reduceBEq,RR]
 refine go_callI (w_impl_isIndex _ _ _ hr1) rfl rfl (Nat.le_of_ble_eq_true rfl) ?_
 rcases Bool.eq_false_or_eq_true r1 with hb2 | hb2
 ·rw [ite_t hb2] at h
  obtain ⟨r3,hr3,h⟩ := ob h
  try simp only [hb2,Nat.reduceBEq,reduceMul,reduceAdd,reduceDiv,Int.reduceBEq,RR]
  refine go_callI (w_impl_isIndex _ _ _ hr3) rfl rfl (Nat.le_of_ble_eq_true rfl) ?_
  rcases Bool.eq_false_or_eq_true r3 with hb4 | hb4
  ·rw [ite_t hb4] at h
   obtain ⟨r5,hr5,h⟩ := ob h
   try simp only [hb2,hb4,Nat.reduceBEq,reduceMul,reduceAdd,reduceDiv,Int.reduceBEq,RR]
   refine go_callI (w_impl_isMinute _ _ hr5) rfl rfl (Nat.le_of_ble_eq_true rfl) ?_
   rcases Bool.eq_false_or_eq_true r5 with hb6 | hb6
   ·rw [ite_t hb6] at h
    rcases Bool.eq_false_or_eq_true (decide ((2880 : Int) < a2.End)) with hb7 | hb7
    ·rw [ite_t hb7] at h
     try simp only [hb2,hb4,hb6,hb7,Nat.reduceBEq,reduceMul,reduceAdd,reduceDiv,Int.reduceBEq,RR]
     cases h
     exact ⟨⟨rfl,trivial⟩,rfl⟩
    ·rw [ite_f hb7] at h
     try simp only [hb2,hb4,hb6,hb7,Nat.reduceBEq,reduceMul,reduceAdd,reduceDiv,Int.reduceBEq,RR]
     refine go_fr_of rfl ?_
     obtain ⟨x8,hx8,h⟩ := ob h
     obtain ⟨x9,hx9,h⟩ := ob h
     obtain ⟨r10,hr10,h⟩ := ob h
     try simp only [hb2,hb4,hb6,hb7,hx8,hx9,Nat.reduceBEq,reduceMul,reduceAdd,reduceDiv,Int.reduceBEq,RR]
     refine go_dcallI (w_impl_Ship_minutes _ _ _ hr10) rfl rfl (Nat.le_of_ble_eq_true rfl) ?_
     try simp only [hb2,hb4,hb6,hb7,hx8,hx9,Nat.reduceBEq,reduceMul,reduceAdd,reduceDiv,Int.reduceBEq,RR]
     cases h
     exact ⟨⟨rfl,trivial⟩,rfl⟩
   ·rw [ite_f hb6] at h
    try simp only [hb2,hb4,hb6,Nat.reduceBEq,reduceMul,reduceAdd,reduceDiv,Int.reduceBEq,RR]
    cases h
    exact ⟨⟨rfl,trivial⟩,rfl⟩
  ·rw [ite_f hb4] at h
   try simp only [hb2,hb4,Nat.reduceBEq,reduceMul,reduceAdd,reduceDiv,Int.reduceBEq,RR]
   cases h
   exact ⟨⟨rfl,trivial⟩,rfl⟩
 ·rw [ite_f hb2] at h
  try simp only [hb2,Nat.reduceBEq,reduceMul,reduceAdd,reduceDiv,Int.reduceBEq,RR]
  cases h
  exact ⟨⟨rfl,trivial⟩,rfl⟩
/- 114: impl_PassageOk -/
def cc352 : ACode := (.seq (.reg [(none,.box 3 (S 0)),(none,.box 5 (S 2)),(none,.mv 6 (KB false))]) (.seq (.reg [(none,.load 7 (S 3) true 2),(none,.call 8 62 [(S 7)]),mv 9 8,(some (9,true),.mv 10 (S 1)),(some (9,true),.call 11 63 [(S 10)]),(none,.pick 12 (S 9) (S 11) (KB false)),mv 13 12,(some (13,true),.load 14 (S 3) true 2),(some (13,true),.mv 15 (S 1)),(some (13,true),.load 16 (S 5) true 5),(some (13,true),.call 17 136 [(S 14),(S 15),(S 16)]),(none,.pick 18 (S 13) (S 17) (KB false)),mv 6 18]) .ret))
theorem ee353 : entry Tryz.prog 114 = some (cc352.strip,[6],19) := by kernel_rfl
theorem w_impl_PassageOk (a0 : XChart) (a1 : List XShip) (a2 : XPassage) (r : Bool) (h : f_impl_PassageOk a0 a1 a2 = some r) : FC Tryz.prog 114 [.ag (XChart.row a0),.sc (.sl (List.map XShip.row a1)),.ag (XPassage.row a2)] [.sc (.v (.bool r))] := by
 unfold f_impl_PassageOk at h
 refine FC_go (σ := ⟨[(0,va [aL (List.map XPoint.row a0.Points),aL (List.map XSegment.row a0.Segments)]),(1,vc (aL (List.map XShip.row a1))),(2,va [aI a2.Ship,aI a2.Segment,aB a2.Toward,aI a2.Start,aI a2.End])],[],[]⟩) mixed ee353 rfl rfl ?_
 simp only [cc352]
 try simp only [Nat.reduceBEq,reduceMul,reduceAdd,reduceDiv,Int.reduceBEq,RR]
 refine go_bx rfl rfl rfl ?_
 try simp only [Nat.reduceBEq,reduceMul,reduceAdd,reduceDiv,Int.reduceBEq,RR]
 refine go_bx rfl rfl rfl ?_
 obtain ⟨r1,hr1,h⟩ := ob h
 try simp only [Nat.reduceBEq,reduceMul,reduceAdd,reduceDiv,Int.reduceBEq,RR]
 refine go_callI (w_impl_ChartOk _ _ hr1) rfl rfl (Nat.le_of_ble_eq_true rfl) ?_
 rcases Bool.eq_false_or_eq_true r1 with hb2 | hb2
 ·rw [ite_t hb2] at h
  obtain ⟨r3,hr3,h⟩ := ob h
  try simp only [hb2,Nat.reduceBEq,reduceMul,reduceAdd,reduceDiv,Int.reduceBEq,RR]
  refine go_callI (w_impl_FleetOk _ _ hr3) rfl rfl (Nat.le_of_ble_eq_true rfl) ?_
  rcases Bool.eq_false_or_eq_true r3 with hb4 | hb4
  ·rw [ite_t hb4] at h
   obtain ⟨r5,hr5,h⟩ := ob h
   try simp only [hb2,hb4,Nat.reduceBEq,reduceMul,reduceAdd,reduceDiv,Int.reduceBEq,RR]
   refine go_callI (w_impl_passageOk _ _ _ _ hr5) rfl rfl (Nat.le_of_ble_eq_true rfl) ?_
   try simp only [hb2,hb4,Nat.reduceBEq,reduceMul,reduceAdd,reduceDiv,Int.reduceBEq,RR]
   cases h
   exact ⟨⟨rfl,trivial⟩,rfl⟩
  ·rw [ite_f hb4] at h
   try simp only [hb2,hb4,Nat.reduceBEq,reduceMul,reduceAdd,reduceDiv,Int.reduceBEq,RR]
   cases h
   exact ⟨⟨rfl,trivial⟩,rfl⟩
 ·rw [ite_f hb2] at h
  try simp only [hb2,Nat.reduceBEq,reduceMul,reduceAdd,reduceDiv,Int.reduceBEq,RR]
  cases h
  exact ⟨⟨rfl,trivial⟩,rfl⟩
/- 137: impl_Passage_ends -/
def cc354 : ACode := (.seq (.reg [(none,.box 2 (S 0)),(none,.box 3 (S 1)),(none,.mv 4 (K 0)),(none,.mv 5 (K 0))]) (.seq (.reg [fa 7 3 1,ld 8 7,fa 9 2 1,ld 10 9,(none,.iaddr 11 (S 8) (S 10) 5),(none,.load 12 (S 11) true 5),(none,.alloc 6 [aI 0,aI 0,aI 0,aI 0,aB false]),(none,.store (S 6) (S 12) 5)]) (.seq (.seq (.reg [fa 13 2 2,ld 14 13]) (.cond (S 14) (.seq (.drw [(some [],fa 15 6 0),(some [],ld 16 15),(some [],fa 17 6 1),(some [],ld 18 17),(some [],mv 4 16),(some [],mv 5 18)]) .ret) .skip)) (.seq (.drw [(some [],fa 19 6 1),(some [],ld 20 19),(some [],fa 21 6 0),(some [],ld 22 21),(some [],mv 4 20),(some [],mv 5 22)]) .ret))))
theorem ee355 : entry Tryz.prog 137 = some (cc354.strip,[4,5],23) := by kernel_rfl
theorem w_impl_Passage_ends (a0 : XPassage) (a1 : XChart) (r : Int × Int) (h : f_impl_Passage_ends a0 a1 = some r) : FC Tryz.prog 137 [.ag (XPassage.row a0),.ag (XChart.row a1)] [.sc (.v (.int .i64 r.1)),.sc (.v (.int .i64 r.2))] := by
 unfold f_impl_Passage_ends at h
 refine FC_go (σ := ⟨[(0,va [aI a0.Ship,aI a0.Segment,aB a0.Toward,aI a0.Start,aI a0.End]),(1,va [aL (List.map XPoint.row a1.Points),aL (List.map XSegment.row a1.Segments)])],[],[]⟩) mixed ee355 rfl rfl ?_
 simp only [cc354]
 try simp only [Nat.reduceBEq,reduceMul,reduceAdd,reduceDiv,Int.reduceBEq,RR]
 refine go_bx rfl rfl rfl ?_
 try simp only [Nat.reduceBEq,reduceMul,reduceAdd,reduceDiv,Int.reduceBEq,RR]
 refine go_bx rfl rfl rfl ?_
 obtain ⟨x1,hx1,h⟩ := ob h
 try simp only [hx1,Nat.reduceBEq,reduceMul,reduceAdd,reduceDiv,Int.reduceBEq,RR]
 refine go_al rfl rfl ?_
 rcases Bool.eq_false_or_eq_true a0.Toward with hb2 | hb2
 ·rw [ite_t hb2] at h
  try simp only [hx1,hb2,Nat.reduceBEq,reduceMul,reduceAdd,reduceDiv,Int.reduceBEq,RR]
  refine go_fr_of rfl ?_
  try simp only [hx1,hb2,Nat.reduceBEq,reduceMul,reduceAdd,reduceDiv,Int.reduceBEq,RR]
  cases h
  exact ⟨⟨rfl,rfl,trivial⟩,rfl⟩
 ·rw [ite_f hb2] at h
  try simp only [hx1,hb2,Nat.reduceBEq,reduceMul,reduceAdd,reduceDiv,Int.reduceBEq,RR]
  refine go_fr_of rfl ?_
  try simp only [hx1,hb2,Nat.reduceBEq,reduceMul,reduceAdd,reduceDiv,Int.reduceBEq,RR]
  cases h
  exact ⟨⟨rfl,rfl,trivial⟩,rfl⟩
/- 115: impl_duty -/
def cc356 : ACode := (.seq (.reg [(none,.box 3 (S 0)),(none,.box 4 (S 1)),(none,.box 5 (S 2)),(none,.alloc 6 [aI 0,aI 0,aI 0,aI 0])]) (.seq (.reg [(none,.load 12 (S 4) true 5),(none,.load 13 (S 3) true 2),(none,.call 14 137 [(S 12),(S 13)]),mv 11 14,(none,.extr 15 (S 11) 0),(none,.extr 16 (S 11) 1),mv 7 15,mv 8 16]) (.seq (.reg [(none,.load 18 (S 5) true 5),(none,.load 19 (S 3) true 2),(none,.call 20 137 [(S 18),(S 19)]),mv 17 20,(none,.extr 21 (S 17) 0),(none,.extr 22 (S 17) 1),mv 9 21,mv 10 22]) (.seq (.reg [fa 23 4 3,ld 24 23,fa 25 5 4,ld 26 25,mv 27 7,mv 28 10,(none,.build 29 [aI 0,aI 0,aI 0,aI 0] [(0,1,(S 24)),(1,1,(S 26)),(2,1,(S 27)),(3,1,(S 28))]),(none,.store (S 6) (S 29) 4)]) .ret))))
theorem ee357 : entry Tryz.prog 115 = some (cc356.strip,[.c 6 true 4],30) := by kernel_rfl
theorem w_impl_duty (a0 : XChart) (a1 : XPassage) (a2 : XPassage) (r : XDuty) (h : f_impl_duty a0 a1 a2 = some r) : FC Tryz.prog 115 [.ag (XChart.row a0),.ag (XPassage.row a1),.ag (XPassage.row a2)] [.ag [.v (.int .i64 r.From),.v (.int .i64 r.To),.v (.int .i64 r.A),.v (.int .i64 r.B)]] := by
 unfold f_impl_duty at h
 refine FC_go (σ := ⟨[(0,va [aL (List.map XPoint.row a0.Points),aL (List.map XSegment.row a0.Segments)]),(1,va [aI a1.Ship,aI a1.Segment,aB a1.Toward,aI a1.Start,aI a1.End]),(2,va [aI a2.Ship,aI a2.Segment,aB a2.Toward,aI a2.Start,aI a2.End])],[],[]⟩) mixed ee357 rfl rfl ?_
 simp only [cc356]
 try simp only [Nat.reduceBEq,reduceMul,reduceAdd,reduceDiv,Int.reduceBEq,RR]
 refine go_bx rfl rfl rfl ?_
 try simp only [Nat.reduceBEq,reduceMul,reduceAdd,reduceDiv,Int.reduceBEq,RR]
 refine go_bx rfl rfl rfl ?_
 try simp only [Nat.reduceBEq,reduceMul,reduceAdd,reduceDiv,Int.reduceBEq,RR]
 refine go_bx rfl rfl rfl ?_
 try simp only [Nat.reduceBEq,reduceMul,reduceAdd,reduceDiv,Int.reduceBEq,RR]
 refine go_al rfl rfl ?_
 obtain ⟨r1,hr1,h⟩ := ob h
 try simp only [Nat.reduceBEq,reduceMul,reduceAdd,reduceDiv,Int.reduceBEq,RR]
 refine go_callI (w_impl_Passage_ends _ _ _ hr1) rfl rfl (Nat.le_of_ble_eq_true rfl) ?_
 obtain ⟨r2,hr2,h⟩ := ob h
 try simp only [Nat.reduceBEq,reduceMul,reduceAdd,reduceDiv,Int.reduceBEq,RR]
 refine go_callI (w_impl_Passage_ends _ _ _ hr2) rfl rfl (Nat.le_of_ble_eq_true rfl) ?_
 try simp only [Nat.reduceBEq,reduceMul,reduceAdd,reduceDiv,Int.reduceBEq,RR]
 cases h
 try simp only [rulesR,Nat.reduceBEq,reduceMul,reduceAdd,reduceDiv,Int.reduceBEq,RR]
 exact ⟨⟨⟨rfl,rfl,rfl,rfl,trivial⟩,trivial⟩,rfl⟩
/- 69: impl_tugDuties -/
def cc358 : ACode := .seq (.reg [(none,.keep [1,3,8,10,12,13,14,28,29] [3,10] [704])]) (.seq (.reg [bn 30 .lss 29 28]) (.seq (.cond (S 30) .skip (.exit 2)) (.seq (.block 3 (.reg [mv 31 8,(none,.load 32 (S 3) true 2),(none,.load 33 (S 10) true 5),(none,.load 34 (S 10) true 5),(none,.call 35 115 [(S 32),(S 33),(S 34)]),(none,.bslice 36 4 [.int .i64 0,.int .i64 0,.int .i64 0,.int .i64 0] 1 [(0,(S 35))]),(none,.app 37 4 32 (S 31) (S 36)),mv 8 37])) (.reg [(none,.bin 38 .add (S 29) (K 1)),mv 29 38]))))
def cc359 : ACode := (.seq (.reg [mv 39 8,(none,.len 40 (S 39)),(none,.bin 41 .gtr (S 40) (K 12))]) (.cond (S 41) (.seq (.reg [(none,.mv 6 KN),(none,.mv 7 (KB false))]) .ret) .skip))
def cc360 : ACode := (.reg [(none,.bin 42 .add (S 14) (K 1)),mv 14 42])
def cc361 : ACode := .seq (.reg [(none,.keep [1,3,8,12,13,14] [3] [704])]) (.seq (.reg [bn 15 .lss 14 13]) (.seq (.cond (S 15) .skip (.exit 0)) (.seq (.block 1 (.seq (.reg [(none,.iaddr 16 (S 12) (S 14) 5),(none,.load 17 (S 16) true 5),(none,.alloc 10 [aI 0,aI 0,aB false,aI 0,aI 0]),(none,.store (S 10) (S 17) 5)]) (.seq (.seq (.reg [(none,.load 18 (S 3) true 2),mv 19 1,(none,.load 20 (S 10) true 5),(none,.call 21 114 [(S 18),(S 19),(S 20)]),(none,.un 22 .not (S 21))]) (.cond (S 22) (.seq (.reg [(none,.mv 6 KN),(none,.mv 7 (KB false))]) .ret) .skip)) (.seq (.seq (.reg [mv 23 1,fa 24 10 0,ld 25 24,(none,.iaddr 26 (S 23) (S 25) 6),fa 27 26 4,ld 28 27,(none,.mv 29 (K 0))]) (.block 2 (.loop cc358))) cc359)))) cc360)))
def cc362 : ACode := (.seq (.reg [mv 43 8,mv 6 43,(none,.mv 7 (KB true))]) .ret)
def cc363 : ACode := (.seq (.reg [(none,.box 3 (S 0)),(none,.mv 6 KN),(none,.mv 7 (KB false))]) (.seq (.reg [(none,.bslice 11 4 [.int .i64 0,.int .i64 0,.int .i64 0,.int .i64 0] 0 []),mv 8 11]) (.seq (.seq (.reg [mv 12 2,(none,.len 13 (S 12)),(none,.mv 14 (K 0))]) (.block 0 (.loop cc361))) cc362)))
theorem ww364 (a1 : List XShip) (a2 : List XPassage) (v1 : Int) (x7 : XShip) (a0 : XChart) (x4 : XPassage) (k_impl_tugDuties_1 : Int → (List XDuty) → Option ((List XDuty) × Bool)) (hk_impl_tugDuties_1 : ∀ (v1 : Int) (v2 : List XDuty) zr,k_impl_tugDuties_1 v1 v2 = some zr → ∀ σ : St,σ.kept [1,3,8,12,13,14] [3] [704] = ⟨[(1,vc (aL (List.map XShip.row a1))),(3,vc (.pb 3 0)),(8,vc (.own 704)),(12,vc (aL (List.map XPassage.row a2))),(13,vc (aI (a2.length : Int))),(14,vc (aI v1))],[(3,[aL (List.map XPoint.row a0.Points),aL (List.map XSegment.row a0.Segments)])],[(704,4,List.map XDuty.row v2)]⟩ → go Tryz.prog (.code (.loop cc361) :: [.blk 0,.code cc362]) (Ret [6,7] [.sc (.o 4 (List.map XDuty.row zr.1)),.sc (.v (.bool zr.2))]) .normal (some σ)) : ∀ (n : Nat) (v8 : Int) (v9 : List XDuty) (r : (List XDuty) × Bool),f_impl_tugDuties_2 a1 a2 v1 x7 a0 x4 k_impl_tugDuties_1 n v8 v9 = some r → ∀ σ : St,σ.kept [1,3,8,10,12,13,14,28,29] [3,10] [704] = ⟨[(1,vc (aL (List.map XShip.row a1))),(3,vc (.pb 3 0)),(8,vc (.own 704)),(10,vc (.pb 10 0)),(12,vc (aL (List.map XPassage.row a2))),(13,vc (aI (a2.length : Int))),(14,vc (aI v1)),(28,vc (aI x7.Tugs)),(29,vc (aI v8))],[(3,[aL (List.map XPoint.row a0.Points),aL (List.map XSegment.row a0.Segments)]),(10,[aI x4.Ship,aI x4.Segment,aB x4.Toward,aI x4.Start,aI x4.End])],[(704,4,List.map XDuty.row v9)]⟩ → go Tryz.prog (.code (.loop cc358) :: [.blk 2,.code cc359,.blk 1,.code cc360,.code (.loop cc361),.blk 0,.code cc362]) (Ret [6,7] [.sc (.o 4 (List.map XDuty.row r.1)),.sc (.v (.bool r.2))]) .normal (some σ) := by
 intro n
 induction n with
 | zero => intro _ _ r h; cases h
 | succ n ih =>
  intro v8 v9 r h σ hσ
  rw [f_impl_tugDuties_2] at h
  refine go_round ?_
  rcases Bool.eq_false_or_eq_true (decide (v8 < x7.Tugs)) with hb10 | hb10
  ·rw [ite_t hb10] at h
   obtain ⟨r11,hr11,h⟩ := ob h
   try simp only [hσ,hb10,cc358,Nat.reduceBEq,reduceMul,reduceAdd,reduceDiv,Int.reduceBEq,RR]
   refine go_callI (w_impl_duty _ _ _ _ hr11) rfl rfl (Nat.le_of_ble_eq_true rfl) ?_
   try simp only [hb10,Nat.reduceBEq,reduceMul,reduceAdd,reduceDiv,Int.reduceBEq,RR]
   refine go_bsl (es := List.map XDuty.row ([r11] : List XDuty)) rfl rfl ?_
   obtain ⟨hg12,h⟩ := of_guard h
   try simp only [hb10,hg12,Nat.reduceBEq,reduceMul,reduceAdd,reduceDiv,Int.reduceBEq,RR]
   refine ih _ _ _ h _ ?_
   try simp only [hb10,hg12,Nat.reduceBEq,reduceMul,reduceAdd,reduceDiv,Int.reduceBEq,RR,List.map_nil]
  ·rw [ite_f hb10] at h
   rcases Bool.eq_false_or_eq_true (decide ((12 : Int) < (v9.length : Int))) with hb13 | hb13
   ·rw [ite_t hb13] at h
    try simp only [hσ,hb10,hb13,cc358,cc359,Nat.reduceBEq,reduceMul,reduceAdd,reduceDiv,Int.reduceBEq,RR]
    cases h
    exact ⟨⟨rfl,rfl,trivial⟩,rfl⟩
   ·rw [ite_f hb13] at h
    try simp only [hσ,hb10,hb13,cc358,cc359,cc360,Nat.reduceBEq,reduceMul,reduceAdd,reduceDiv,Int.reduceBEq,RR]
    refine hk_impl_tugDuties_1 _ _ _ h _ ?_
    try simp only [hb10,hb13,Nat.reduceBEq,reduceMul,reduceAdd,reduceDiv,Int.reduceBEq,RR,List.map_nil]
theorem ww365 (a1 : List XShip) (a2 : List XPassage) (a0 : XChart) : ∀ (n : Nat) (v1 : Int) (v2 : List XDuty) (r : (List XDuty) × Bool),f_impl_tugDuties_1 a1 a2 a0 n v1 v2 = some r → ∀ σ : St,σ.kept [1,3,8,12,13,14] [3] [704] = ⟨[(1,vc (aL (List.map XShip.row a1))),(3,vc (.pb 3 0)),(8,vc (.own 704)),(12,vc (aL (List.map XPassage.row a2))),(13,vc (aI (a2.length : Int))),(14,vc (aI v1))],[(3,[aL (List.map XPoint.row a0.Points),aL (List.map XSegment.row a0.Segments)])],[(704,4,List.map XDuty.row v2)]⟩ → go Tryz.prog (.code (.loop cc361) :: [.blk 0,.code cc362]) (Ret [6,7] [.sc (.o 4 (List.map XDuty.row r.1)),.sc (.v (.bool r.2))]) .normal (some σ) := by
 intro n
 induction n with
 | zero => intro _ _ r h; cases h
 | succ n ih =>
  intro v1 v2 r h σ hσ
  rw [f_impl_tugDuties_1] at h
  refine go_round ?_
  rcases Bool.eq_false_or_eq_true (decide (v1 < (a2.length : Int))) with hb3 | hb3
  ·rw [ite_t hb3] at h
   obtain ⟨x4,hx4,h⟩ := ob h
   try simp only [hσ,hb3,hx4,cc361,Nat.reduceBEq,reduceMul,reduceAdd,reduceDiv,Int.reduceBEq,RR]
   refine go_al rfl rfl ?_
   obtain ⟨r5,hr5,h⟩ := ob h
   try simp only [hb3,hx4,Nat.reduceBEq,reduceMul,reduceAdd,reduceDiv,Int.reduceBEq,RR]
   refine go_callI (w_impl_PassageOk _ _ _ _ hr5) rfl rfl (Nat.le_of_ble_eq_true rfl) ?_
   rcases Bool.eq_false_or_eq_true r5 with hb6 | hb6
   ·rw [ite_t hb6] at h
    obtain ⟨x7,hx7,h⟩ := ob h
    try simp only [hb3,hx4,hb6,hx7,Nat.reduceBEq,reduceMul,reduceAdd,reduceDiv,Int.reduceBEq,RR]
    refine ww364 _ _ _ _ _ _ (f_impl_tugDuties_1 a1 a2 a0 n) ih _ _ _ _ h _ ?_
    try simp only [hb3,hx4,hb6,hx7,Nat.reduceBEq,reduceMul,reduceAdd,reduceDiv,Int.reduceBEq,RR,List.map_nil]
   ·rw [ite_f hb6] at h
    try simp only [hb3,hx4,hb6,Nat.reduceBEq,reduceMul,reduceAdd,reduceDiv,Int.reduceBEq,RR]
    cases h
    exact ⟨⟨rfl,rfl,trivial⟩,rfl⟩
  ·rw [ite_f hb3] at h
   try simp only [hσ,hb3,cc361,cc362,Nat.reduceBEq,reduceMul,reduceAdd,reduceDiv,Int.reduceBEq,RR]
   cases h
   exact ⟨⟨rfl,rfl,trivial⟩,rfl⟩
theorem ee366 : entry Tryz.prog 69 = some (cc363.strip,[6,7],44) := by kernel_rfl
theorem w_impl_tugDuties (a0 : XChart) (a1 : List XShip) (a2 : List XPassage) (r : (List XDuty) × Bool) (h : f_impl_tugDuties a0 a1 a2 = some r) : FC Tryz.prog 69 [.ag (XChart.row a0),.sc (.sl (List.map XShip.row a1)),.sc (.sl (List.map XPassage.row a2))] [.sc (.o 4 (List.map XDuty.row r.1)),.sc (.v (.bool r.2))] := by
 unfold f_impl_tugDuties at h
 refine FC_go (σ := ⟨[(0,va [aL (List.map XPoint.row a0.Points),aL (List.map XSegment.row a0.Segments)]),(1,vc (aL (List.map XShip.row a1))),(2,vc (aL (List.map XPassage.row a2)))],[],[]⟩) mixed ee366 rfl rfl ?_
 simp only [cc363]
 try simp only [Nat.reduceBEq,reduceMul,reduceAdd,reduceDiv,Int.reduceBEq,RR]
 refine go_bx rfl rfl rfl ?_
 try simp only [Nat.reduceBEq,reduceMul,reduceAdd,reduceDiv,Int.reduceBEq,RR]
 refine go_bsl (es := List.map XDuty.row ([] : List XDuty)) rfl rfl ?_
 try simp only [Nat.reduceBEq,reduceMul,reduceAdd,reduceDiv,Int.reduceBEq,RR]
 refine ww365 _ _ _ _ _ _ _ h _ ?_
 try simp only [Nat.reduceBEq,reduceMul,reduceAdd,reduceDiv,Int.reduceBEq,RR,List.map_nil]
/- 138: impl_DutiesOk -/
def cc367 : ACode := .seq (.reg [(none,.keep [8,9,10] [] [])]) (.seq (.reg [bn 11 .lss 10 9]) (.seq (.cond (S 11) .skip (.exit 0)) (.seq (.block 1 (.seq (.reg [(none,.iaddr 12 (S 8) (S 10) 4),(none,.load 13 (S 12) true 4),(none,.alloc 4 [aI 0,aI 0,aI 0,aI 0]),(none,.store (S 4) (S 13) 4)]) (.seq (.reg [fa 14 4 0,ld 15 14,(none,.bin 16 .lss (S 15) (K 0)),mv 17 16,(some (17,false),.faddr 18 (S 4) 0),(some (17,false),.load 19 (S 18) false 1),(some (17,false),.faddr 20 (S 4) 1),(some (17,false),.load 21 (S 20) false 1),(some (17,false),.bin 22 .geq (S 19) (S 21)),(none,.pick 23 (S 17) (KB true) (S 22)),mv 24 23,(some (24,false),.faddr 25 (S 4) 1),(some (24,false),.load 26 (S 25) false 1),(some (24,false),.bin 27 .gtr (S 26) (K 2880)),(none,.pick 28 (S 24) (KB true) (S 27)),mv 29 28,(some (29,false),.faddr 30 (S 4) 2),(some (29,false),.load 31 (S 30) false 1),(some (29,false),.call 32 106 [(S 31),(K 8)]),(some (29,false),.un 33 .not (S 32)),(none,.pick 34 (S 29) (KB true) (S 33)),mv 35 34,(some (35,false),.faddr 36 (S 4) 3),(some (35,false),.load 37 (S 36) false 1),(some (35,false),.call 38 106 [(S 37),(K 8)]),(some (35,false),.un 39 .not (S 38)),(none,.pick 40 (S 35) (KB true) (S 39))]) (.cond (S 40) (.seq (.reg [(none,.mv 2 (KB false))]) .ret) .skip)))) (.reg [(none,.bin 41 .add (S 10) (K 1)),mv 10 41]))))
def cc368 : ACode := (.seq (.reg [(none,.mv 2 (KB true))]) .ret)
def cc369 : ACode := (.seq (.reg [(none,.mv 2 (KB false))]) (.seq (.seq (.reg [mv 5 0,(none,.len 6 (S 5)),(none,.bin 7 .gtr (S 6) (K 12))]) (.cond (S 7) (.seq (.reg [(none,.mv 2 (KB false))]) .ret) .skip)) (.seq (.seq (.reg [mv 8 0,(none,.len 9 (S 8)),(none,.mv 10 (K 0))]) (.block 0 (.loop cc367))) cc368)))
theorem ww370 (a0 : List XDuty) : ∀ (n : Nat) (v2 : Int) (r : Bool),f_impl_DutiesOk_1 a0 n v2 = some r → ∀ σ : St,σ.kept [8,9,10] [] [] = ⟨[(8,vc (aL (List.map XDuty.row a0))),(9,vc (aI (a0.length : Int))),(10,vc (aI v2))],[],[]⟩ → go Tryz.prog (.code (.loop cc367) :: [.blk 0,.code cc368]) (Ret [2] [.sc (.v (.bool r))]) .normal (some σ) := by
 intro n
 induction n with
 | zero => intro _ r h; cases h
 | succ n ih =>
  intro v2 r h σ hσ
  rw [f_impl_DutiesOk_1] at h
  refine go_round ?_
  rcases Bool.eq_false_or_eq_true (decide (v2 < (a0.length : Int))) with hb3 | hb3
  ·rw [ite_t hb3] at h
   obtain ⟨x4,hx4,h⟩ := ob h
   try simp only [hσ,hb3,hx4,cc367,Nat.reduceBEq,reduceMul,reduceAdd,reduceDiv,Int.reduceBEq,RR]
   refine go_al rfl rfl ?_
   rcases Bool.eq_false_or_eq_true (decide (x4.From < (0 : Int))) with hb5 | hb5
   ·rw [ite_t hb5] at h
    try simp only [hb3,hx4,hb5,Nat.reduceBEq,reduceMul,reduceAdd,reduceDiv,Int.reduceBEq,RR]
    cases h
    exact ⟨⟨rfl,trivial⟩,rfl⟩
   ·rw [ite_f hb5] at h
    rcases Bool.eq_false_or_eq_true (decide (x4.To ≤ x4.From)) with hb6 | hb6
    ·rw [ite_t hb6] at h
     try simp only [hb3,hx4,hb5,hb6,Nat.reduceBEq,reduceMul,reduceAdd,reduceDiv,Int.reduceBEq,RR]
     cases h
     exact ⟨⟨rfl,trivial⟩,rfl⟩
    ·rw [ite_f hb6] at h
     rcases Bool.eq_false_or_eq_true (decide ((2880 : Int) < x4.To)) with hb7 | hb7
     ·rw [ite_t hb7] at h
      try simp only [hb3,hx4,hb5,hb6,hb7,Nat.reduceBEq,reduceMul,reduceAdd,reduceDiv,Int.reduceBEq,RR]
      cases h
      exact ⟨⟨rfl,trivial⟩,rfl⟩
     ·rw [ite_f hb7] at h
      obtain ⟨r9,hr9,h⟩ := ob h
      try simp only [hb3,hx4,hb5,hb6,hb7,Nat.reduceBEq,reduceMul,reduceAdd,reduceDiv,Int.reduceBEq,RR]
      refine go_callI (w_impl_isIndex _ _ _ hr9) rfl rfl (Nat.le_of_ble_eq_true rfl) ?_
      rcases Bool.eq_false_or_eq_true r9 with hb10 | hb10
      ·rw [ite_t hb10] at h
       obtain ⟨r11,hr11,h⟩ := ob h
       try simp only [hb3,hx4,hb5,hb6,hb7,hb10,Nat.reduceBEq,reduceMul,reduceAdd,reduceDiv,Int.reduceBEq,RR]
       refine go_callI (w_impl_isIndex _ _ _ hr11) rfl rfl (Nat.le_of_ble_eq_true rfl) ?_
       rcases Bool.eq_false_or_eq_true r11 with hb12 | hb12
       ·rw [ite_t hb12] at h
        try simp only [hb3,hx4,hb5,hb6,hb7,hb10,hb12,Nat.reduceBEq,reduceMul,reduceAdd,reduceDiv,Int.reduceBEq,RR]
        refine ih _ _ h _ ?_
        try simp only [hb3,hx4,hb5,hb6,hb7,hb10,hb12,Nat.reduceBEq,reduceMul,reduceAdd,reduceDiv,Int.reduceBEq,RR,List.map_nil]
       ·rw [ite_f hb12] at h
        try simp only [hb3,hx4,hb5,hb6,hb7,hb10,hb12,Nat.reduceBEq,reduceMul,reduceAdd,reduceDiv,Int.reduceBEq,RR]
        cases h
        exact ⟨⟨rfl,trivial⟩,rfl⟩
      ·rw [ite_f hb10] at h
       try simp only [hb3,hx4,hb5,hb6,hb7,hb10,Nat.reduceBEq,reduceMul,reduceAdd,reduceDiv,Int.reduceBEq,RR]
       cases h
       exact ⟨⟨rfl,trivial⟩,rfl⟩
  ·rw [ite_f hb3] at h
   try simp only [hσ,hb3,cc367,cc368,Nat.reduceBEq,reduceMul,reduceAdd,reduceDiv,Int.reduceBEq,RR]
   cases h
   exact ⟨⟨rfl,trivial⟩,rfl⟩
theorem ee371 : entry Tryz.prog 138 = some (cc369.strip,[2],42) := by kernel_rfl
theorem w_impl_DutiesOk (a0 : List XDuty) (r : Bool) (h : f_impl_DutiesOk a0 = some r) : FC Tryz.prog 138 [.sc (.sl (List.map XDuty.row a0))] [.sc (.v (.bool r))] := by
 unfold f_impl_DutiesOk at h
 refine FC_go (σ := ⟨[(0,vc (aL (List.map XDuty.row a0)))],[],[]⟩) mixed ee371 rfl rfl ?_
 simp only [cc369]
 rcases Bool.eq_false_or_eq_true (decide ((12 : Int) < (a0.length : Int))) with hb1 | hb1
 ·rw [ite_t hb1] at h
  try simp only [hb1,Nat.reduceBEq,reduceMul,reduceAdd,reduceDiv,Int.reduceBEq,RR]
  cases h
  exact ⟨⟨rfl,trivial⟩,rfl⟩
 ·rw [ite_f hb1] at h
  try simp only [hb1,Nat.reduceBEq,reduceMul,reduceAdd,reduceDiv,Int.reduceBEq,RR]
  refine ww370 _ _ _ _ h _ ?_
  try simp only [hb1,Nat.reduceBEq,reduceMul,reduceAdd,reduceDiv,Int.reduceBEq,RR,List.map_nil]
/- 116: impl_coverable -/
def cc372 : ACode := (.seq (.reg [(none,.mv 6 (KB false))]) (.seq (.reg [mv 7 2,(none,.call 8 138 [(S 7)]),mv 9 8,(some (9,true),.mv 10 (S 0)),(some (9,true),.call 11 110 [(S 10)]),(none,.pick 12 (S 9) (S 11) (KB false)),mv 13 12,(some (13,true),.mv 14 (S 1)),(some (13,true),.call 15 111 [(S 14)]),(none,.pick 16 (S 13) (S 15) (KB false)),mv 6 16]) .ret))
theorem ee373 : entry Tryz.prog 116 = some (cc372.strip,[6],17) := by kernel_rfl
theorem w_impl_coverable (a0 : Int) (a1 : List Int) (a2 : List XDuty) (r : Bool) (h : f_impl_coverable a0 a1 a2 = some r) : FC Tryz.prog 116 [.sc (.int .i64 a0),.sc (.sl (List.map rI a1)),.sc (.sl (List.map XDuty.row a2))] [.sc (.v (.bool r))] := by
 unfold f_impl_coverable at h
 refine FC_go (σ := ⟨[(0,vc (aI a0)),(1,vc (aL (List.map rI a1))),(2,vc (aL (List.map XDuty.row a2)))],[],[]⟩) mixed ee373 rfl rfl ?_
 simp only [cc372]
 obtain ⟨r1,hr1,h⟩ := ob h
 try simp only [Nat.reduceBEq,reduceMul,reduceAdd,reduceDiv,Int.reduceBEq,RR]
 refine go_callI (w_impl_DutiesOk _ _ hr1) rfl rfl (Nat.le_of_ble_eq_true rfl) ?_
 rcases Bool.eq_false_or_eq_true r1 with hb2 | hb2
 ·rw [ite_t hb2] at h
  obtain ⟨r3,hr3,h⟩ := ob h
  try simp only [hb2,Nat.reduceBEq,reduceMul,reduceAdd,reduceDiv,Int.reduceBEq,RR]
  refine go_callI (w_impl_isMinute _ _ hr3) rfl rfl (Nat.le_of_ble_eq_true rfl) ?_
  rcases Bool.eq_false_or_eq_true r3 with hb4 | hb4
  ·rw [ite_t hb4] at h
   obtain ⟨r5,hr5,h⟩ := ob h
   try simp only [hb2,hb4,Nat.reduceBEq,reduceMul,reduceAdd,reduceDiv,Int.reduceBEq,RR]
   refine go_callI (w_impl_movesOk _ _ hr5) rfl rfl (Nat.le_of_ble_eq_true rfl) ?_
   try simp only [hb2,hb4,Nat.reduceBEq,reduceMul,reduceAdd,reduceDiv,Int.reduceBEq,RR]
   cases h
   exact ⟨⟨rfl,trivial⟩,rfl⟩
  ·rw [ite_f hb4] at h
   try simp only [hb2,hb4,Nat.reduceBEq,reduceMul,reduceAdd,reduceDiv,Int.reduceBEq,RR]
   cases h
   exact ⟨⟨rfl,trivial⟩,rfl⟩
 ·rw [ite_f hb2] at h
  try simp only [hb2,Nat.reduceBEq,reduceMul,reduceAdd,reduceDiv,Int.reduceBEq,RR]
  cases h
  exact ⟨⟨rfl,trivial⟩,rfl⟩
/- 149: impl_Gap -/
def cc374 : ACode := .seq (.reg [(none,.keep [0,1,6,7,29] [6,7] [])]) (.cond (S 29) (.seq (.reg [(none,.mv 8 (K 0)),(none,.mv 9 (KB false))]) .ret) .skip)
def cc375 : ACode := (.seq (.reg [mv 30 0,mv 31 1,fa 32 6 3,ld 33 32,(none,.bin 34 .mul (K 8) (S 33)),fa 35 7 2,ld 36 35,bn 37 .add 34 36,(none,.iaddr 38 (S 31) (S 37) 1),ld 39 38,bn 40 .add 30 39,mv 8 40,(none,.mv 9 (KB true))]) .ret)
def cc376 : ACode := (.seq (.reg [(none,.box 6 (S 2)),(none,.box 7 (S 3)),(none,.mv 8 (K 0)),(none,.mv 9 (KB false))]) (.seq (.seq (.reg [mv 10 0,(none,.call 11 110 [(S 10)]),(none,.un 12 .not (S 11)),mv 13 12,(some (13,false),.mv 14 (S 1)),(some (13,false),.call 15 111 [(S 14)]),(some (13,false),.un 16 .not (S 15)),(none,.pick 17 (S 13) (KB true) (S 16)),mv 18 17,(some (18,false),.faddr 19 (S 6) 3),(some (18,false),.load 20 (S 19) false 1),(some (18,false),.call 21 106 [(S 20),(K 8)]),(some (18,false),.un 22 .not (S 21)),(none,.pick 23 (S 18) (KB true) (S 22)),mv 24 23,(some (24,false),.faddr 25 (S 7) 2),(some (24,false),.load 26 (S 25) false 1),(some (24,false),.call 27 106 [(S 26),(K 8)]),(some (24,false),.un 28 .not (S 27)),(none,.pick 29 (S 24) (KB true) (S 28))]) cc374) cc375))
theorem ww377 (a0 : Int) (a1 : List Int) (a2 : XDuty) (a3 : XDuty) (v8 : Bool) (r : Int × Bool) (h : f_impl_Gap_1 a0 a1 a2 a3 v8 = some r) (σ : St) (hσ : σ.kept [0,1,6,7,29] [6,7] [] = ⟨[(0,vc (aI a0)),(1,vc (aL (List.map rI a1))),(6,vc (.pb 6 0)),(7,vc (.pb 7 0)),(29,vc (aB v8))],[(6,[aI a2.From,aI a2.To,aI a2.A,aI a2.B]),(7,[aI a3.From,aI a3.To,aI a3.A,aI a3.B])],[]⟩) : go Tryz.prog (.code cc374 :: [.code cc375]) (Ret [8,9] [.sc (.v (.int .i64 r.1)),.sc (.v (.bool r.2))]) .normal (some σ) := by
 unfold f_impl_Gap_1 at h
 rcases Bool.eq_false_or_eq_true v8 with hb9 | hb9
 ·rw [ite_t hb9] at h
  try simp only [hσ,hb9,cc374,Nat.reduceBEq,reduceMul,reduceAdd,reduceDiv,Int.reduceBEq,RR]
  cases h
  exact ⟨⟨rfl,rfl,trivial⟩,rfl⟩
 ·rw [ite_f hb9] at h
  obtain ⟨x10,hx10,h⟩ := ob h
  try simp only [hσ,hb9,hx10,cc374,cc375,Nat.reduceBEq,reduceMul,reduceAdd,reduceDiv,Int.reduceBEq,RR]
  cases h
  exact ⟨⟨rfl,rfl,trivial⟩,rfl⟩
theorem ee378 : entry Tryz.prog 149 = some (cc376.strip,[8,9],41) := by kernel_rfl
theorem w_impl_Gap (a0 : Int) (a1 : List Int) (a2 : XDuty) (a3 : XDuty) (r : Int × Bool) (h : f_impl_Gap a0 a1 a2 a3 = some r) : FC Tryz.prog 149 [.sc (.int .i64 a0),.sc (.sl (List.map rI a1)),.ag (XDuty.row a2),.ag (XDuty.row a3)] [.sc (.v (.int .i64 r.1)),.sc (.v (.bool r.2))] := by
 unfold f_impl_Gap at h
 refine FC_go (σ := ⟨[(0,vc (aI a0)),(1,vc (aL (List.map rI a1))),(2,va [aI a2.From,aI a2.To,aI a2.A,aI a2.B]),(3,va [aI a3.From,aI a3.To,aI a3.A,aI a3.B])],[],[]⟩) mixed ee378 rfl rfl ?_
 simp only [cc376]
 try simp only [Nat.reduceBEq,reduceMul,reduceAdd,reduceDiv,Int.reduceBEq,RR]
 refine go_bx rfl rfl rfl ?_
 try simp only [Nat.reduceBEq,reduceMul,reduceAdd,reduceDiv,Int.reduceBEq,RR]
 refine go_bx rfl rfl rfl ?_
 obtain ⟨r1,hr1,h⟩ := ob h
 try simp only [Nat.reduceBEq,reduceMul,reduceAdd,reduceDiv,Int.reduceBEq,RR]
 refine go_callI (w_impl_isMinute _ _ hr1) rfl rfl (Nat.le_of_ble_eq_true rfl) ?_
 rcases Bool.eq_false_or_eq_true r1 with hb2 | hb2
 ·rw [ite_t hb2] at h
  obtain ⟨r3,hr3,h⟩ := ob h
  try simp only [hb2,Nat.reduceBEq,reduceMul,reduceAdd,reduceDiv,Int.reduceBEq,RR]
  refine go_callI (w_impl_movesOk _ _ hr3) rfl rfl (Nat.le_of_ble_eq_true rfl) ?_
  rcases Bool.eq_false_or_eq_true r3 with hb4 | hb4
  ·rw [ite_t hb4] at h
   obtain ⟨r5,hr5,h⟩ := ob h
   try simp only [hb2,hb4,Nat.reduceBEq,reduceMul,reduceAdd,reduceDiv,Int.reduceBEq,RR]
   refine go_callI (w_impl_isIndex _ _ _ hr5) rfl rfl (Nat.le_of_ble_eq_true rfl) ?_
   rcases Bool.eq_false_or_eq_true r5 with hb6 | hb6
   ·rw [ite_t hb6] at h
    obtain ⟨r7,hr7,h⟩ := ob h
    try simp only [hb2,hb4,hb6,Nat.reduceBEq,reduceMul,reduceAdd,reduceDiv,Int.reduceBEq,RR]
    refine go_callI (w_impl_isIndex _ _ _ hr7) rfl rfl (Nat.le_of_ble_eq_true rfl) ?_
    try simp only [hb2,hb4,hb6,Nat.reduceBEq,reduceMul,reduceAdd,reduceDiv,Int.reduceBEq,RR]
    refine ww377 _ _ _ _ _ _ h _ ?_
    try simp only [hb2,hb4,hb6,Nat.reduceBEq,reduceMul,reduceAdd,reduceDiv,Int.reduceBEq,RR,List.map_nil]
   ·rw [ite_f hb6] at h
    try simp only [hb2,hb4,hb6,Nat.reduceBEq,reduceMul,reduceAdd,reduceDiv,Int.reduceBEq,RR]
    refine ww377 _ _ _ _ _ _ h _ ?_
    try simp only [hb2,hb4,hb6,Nat.reduceBEq,reduceMul,reduceAdd,reduceDiv,Int.reduceBEq,RR,List.map_nil]
  ·rw [ite_f hb4] at h
   try simp only [hb2,hb4,Nat.reduceBEq,reduceMul,reduceAdd,reduceDiv,Int.reduceBEq,RR]
   refine ww377 _ _ _ _ _ _ h _ ?_
   try simp only [hb2,hb4,Nat.reduceBEq,reduceMul,reduceAdd,reduceDiv,Int.reduceBEq,RR,List.map_nil]
 ·rw [ite_f hb2] at h
  try simp only [hb2,Nat.reduceBEq,reduceMul,reduceAdd,reduceDiv,Int.reduceBEq,RR]
  refine ww377 _ _ _ _ _ _ h _ ?_
  try simp only [hb2,Nat.reduceBEq,reduceMul,reduceAdd,reduceDiv,Int.reduceBEq,RR,List.map_nil]
/- 139: impl_CanFollow -/
def cc379 : ACode := (.seq (.reg [(none,.box 6 (S 2)),(none,.box 7 (S 3)),(none,.mv 8 (KB false))]) (.seq (.reg [mv 12 0,mv 13 1,(none,.load 14 (S 6) true 4),(none,.load 15 (S 7) true 4),(none,.call 16 149 [(S 12),(S 13),(S 14),(S 15)]),mv 11 16,(none,.extr 17 (S 11) 0),(none,.extr 18 (S 11) 1),mv 9 17,mv 10 18]) (.seq (.reg [mv 19 10,mv 20 19,(some (20,true),.load 21 (S 6) true 4),(some (20,true),.bslice 22 4 [.int .i64 0,.int .i64 0,.int .i64 0,.int .i64 0] 1 [(0,(S 21))]),(some (20,true),.call 23 138 [(S 22)]),(none,.pick 24 (S 20) (S 23) (KB false)),mv 25 24,(some (25,true),.load 26 (S 7) true 4),(some (25,true),.bslice 27 4 [.int .i64 0,.int .i64 0,.int .i64 0,.int .i64 0] 1 [(0,(S 26))]),(some (25,true),.call 28 138 [(S 27)]),(none,.pick 29 (S 25) (S 28) (KB false)),mv 30 29,(some (30,true),.faddr 31 (S 6) 1),(some (30,true),.load 32 (S 31) false 1),(some (30,true),.mv 33 (S 9)),(some (30,true),.bin 34 .add (S 32) (S 33)),(some (30,true),.faddr 35 (S 7) 0),(some (30,true),.load 36 (S 35) false 1),(some (30,true),.bin 37 .leq (S 34) (S 36)),(none,.pick 38 (S 30) (S 37) (KB false)),mv 8 38]) .ret)))
theorem ee380 : entry Tryz.prog 139 = some (cc379.strip,[8],39) := by kernel_rfl
theorem w_impl_CanFollow (a0 : Int) (a1 : List Int) (a2 : XDuty) (a3 : XDuty) (r : Bool) (h : f_impl_CanFollow a0 a1 a2 a3 = some r) : FC Tryz.prog 139 [.sc (.int .i64 a0),.sc (.sl (List.map rI a1)),.ag (XDuty.row a2),.ag (XDuty.row a3)] [.sc (.v (.bool r))] := by
 unfold f_impl_CanFollow at h
 refine FC_go (σ := ⟨[(0,vc (aI a0)),(1,vc (aL (List.map rI a1))),(2,va [aI a2.From,aI a2.To,aI a2.A,aI a2.B]),(3,va [aI a3.From,aI a3.To,aI a3.A,aI a3.B])],[],[]⟩) mixed ee380 rfl rfl ?_
 simp only [cc379]
 try simp only [Nat.reduceBEq,reduceMul,reduceAdd,reduceDiv,Int.reduceBEq,RR]
 refine go_bx rfl rfl rfl ?_
 try simp only [Nat.reduceBEq,reduceMul,reduceAdd,reduceDiv,Int.reduceBEq,RR]
 refine go_bx rfl rfl rfl ?_
 obtain ⟨r1,hr1,h⟩ := ob h
 try simp only [Nat.reduceBEq,reduceMul,reduceAdd,reduceDiv,Int.reduceBEq,RR]
 refine go_callI (w_impl_Gap _ _ _ _ _ hr1) rfl rfl (Nat.le_of_ble_eq_true rfl) ?_
 rcases Bool.eq_false_or_eq_true r1.2 with hb2 | hb2
 ·rw [ite_t hb2] at h
  try simp only [hb2,Nat.reduceBEq,reduceMul,reduceAdd,reduceDiv,Int.reduceBEq,RR]
  refine go_bsl (es := List.map XDuty.row ([a2] : List XDuty)) rfl rfl ?_
  obtain ⟨r3,hr3,h⟩ := ob h
  try simp only [hb2,Nat.reduceBEq,reduceMul,reduceAdd,reduceDiv,Int.reduceBEq,RR]
  refine go_call (w_impl_DutiesOk _ _ hr3) rfl (flat_of rfl) rfl (Nat.le_of_ble_eq_true rfl) ?_
  rcases Bool.eq_false_or_eq_true r3 with hb4 | hb4
  ·rw [ite_t hb4] at h
   try simp only [hb2,hb4,Nat.reduceBEq,reduceMul,reduceAdd,reduceDiv,Int.reduceBEq,RR]
   refine go_bsl (es := List.map XDuty.row ([a3] : List XDuty)) rfl rfl ?_
   obtain ⟨r5,hr5,h⟩ := ob h
   try simp only [hb2,hb4,Nat.reduceBEq,reduceMul,reduceAdd,reduceDiv,Int.reduceBEq,RR]
   refine go_call (w_impl_DutiesOk _ _ hr5) rfl (flat_of rfl) rfl (Nat.le_of_ble_eq_true rfl) ?_
   rcases Bool.eq_false_or_eq_true r5 with hb6 | hb6
   ·rw [ite_t hb6] at h
    try simp only [hb2,hb4,hb6,Nat.reduceBEq,reduceMul,reduceAdd,reduceDiv,Int.reduceBEq,RR]
    cases h
    exact ⟨⟨rfl,trivial⟩,rfl⟩
   ·rw [ite_f hb6] at h
    try simp only [hb2,hb4,hb6,Nat.reduceBEq,reduceMul,reduceAdd,reduceDiv,Int.reduceBEq,RR]
    cases h
    exact ⟨⟨rfl,trivial⟩,rfl⟩
  ·rw [ite_f hb4] at h
   try simp only [hb2,hb4,Nat.reduceBEq,reduceMul,reduceAdd,reduceDiv,Int.reduceBEq,RR]
   cases h
   exact ⟨⟨rfl,trivial⟩,rfl⟩
 ·rw [ite_f hb2] at h
  try simp only [hb2,Nat.reduceBEq,reduceMul,reduceAdd,reduceDiv,Int.reduceBEq,RR]
  cases h
  exact ⟨⟨rfl,trivial⟩,rfl⟩
/- 117: impl_partners -/
def cc381 : ACode := .seq (.reg [(none,.keep [0,1,2,7,8,9,10,15,16,17,22,23,24,45] [9] [896])]) (.cond (S 45) (.drw [(some [],mv 46 7),(some [],mv 47 8),(some [],(none,.iaddr 48 (S 46) (S 47) 1)),(some [],ld 49 48),(some [],mv 50 10),(some [],(none,.bin 51 .shl (.c (.v (.sc (.dat (.int .u64 1))))) (S 50))),(some [],bn 52 .or 49 51),(some [],(none,.iaddr 53 (S 46) (S 47) 1)),(none,(none,.store (S 53) (S 52) 1))]) .skip)
def cc382 : ACode := (.reg [(none,.bin 54 .add (S 24) (K 1)),mv 24 54])
def cc383 : ACode := .seq (.reg [(none,.keep [0,1,2,7,8,9,15,16,17,22,23,24] [9] [896])]) (.seq (.reg [bn 25 .lss 24 23]) (.seq (.cond (S 25) .skip (.exit 2)) (.seq (.block 3 (.seq (.reg [mv 26 24,(none,.iaddr 27 (S 22) (S 24) 4),(none,.load 28 (S 27) true 4),(none,.alloc 11 [aI 0,aI 0,aI 0,aI 0]),mv 10 26,(none,.store (S 11) (S 28) 4)]) (.seq (.reg [mv 29 8,mv 30 10,bn 31 .neq 29 30,mv 32 31,(some (32,true),.mv 33 (S 0)),(some (32,true),.mv 34 (S 1)),(some (32,true),.load 35 (S 9) true 4),(some (32,true),.load 36 (S 11) true 4),(some (32,true),.call 37 139 [(S 33),(S 34),(S 35),(S 36)]),(some (32,true),.mv 38 (S 37)),(some (38,false),.mv 39 (S 0)),(some (38,false),.mv 40 (S 1)),(some (38,false),.load 41 (S 11) true 4),(some (38,false),.load 42 (S 9) true 4),(some (38,false),.call 43 139 [(S 39),(S 40),(S 41),(S 42)]),(some (32,true),.pick 44 (S 38) (KB true) (S 43)),(none,.pick 45 (S 32) (S 44) (KB false))]) cc381))) cc382)))
def cc384 : ACode := (.reg [(none,.bin 55 .add (S 17) (K 1)),mv 17 55])
def cc385 : ACode := .seq (.reg [(none,.keep [0,1,2,7,15,16,17] [] [896])]) (.seq (.reg [bn 18 .lss 17 16]) (.seq (.cond (S 18) .skip (.exit 0)) (.seq (.block 1 (.seq (.reg [mv 19 17,(none,.iaddr 20 (S 15) (S 17) 4),(none,.load 21 (S 20) true 4),(none,.alloc 9 [aI 0,aI 0,aI 0,aI 0]),mv 8 19,(none,.store (S 9) (S 21) 4)]) (.seq (.reg [mv 22 2,(none,.len 23 (S 22)),(none,.mv 24 (K 0))]) (.block 2 (.loop cc383))))) cc384)))
def cc386 : ACode := (.seq (.reg [mv 56 7,mv 6 56]) .ret)
def cc387 : ACode := (.seq (.reg [(none,.mv 6 KN)]) (.seq (.reg [mv 12 2,(none,.len 13 (S 12)),(none,.mksl 14 1 8 [.int .u64 0] (S 13) (S 13)),mv 7 14]) (.seq (.seq (.reg [mv 15 2,(none,.len 16 (S 15)),(none,.mv 17 (K 0))]) (.block 0 (.loop cc385))) cc386)))
theorem ww388 (a0 : Int) (a1 : List Int) (a2 : List XDuty) (v2 : Int) (v6 : Int) (x5 : XDuty) (v7 : List Int) (k_impl_partners_2 : Int → (List Int) → Option (List Int)) (hk_impl_partners_2 : ∀ (v6 : Int) (v7 : List Int) zr,k_impl_partners_2 v6 v7 = some zr → ∀ σ : St,σ.kept [0,1,2,7,8,9,15,16,17,22,23,24] [9] [896] = ⟨[(0,vc (aI a0)),(1,vc (aL (List.map rI a1))),(2,vc (aL (List.map XDuty.row a2))),(7,vc (.own 896)),(8,vc (aI v2)),(9,vc (.pb 9 0)),(15,vc (aL (List.map XDuty.row a2))),(16,vc (aI (a2.length : Int))),(17,vc (aI v2)),(22,vc (aL (List.map XDuty.row a2))),(23,vc (aI (a2.length : Int))),(24,vc (aI v6))],[(9,[aI x5.From,aI x5.To,aI x5.A,aI x5.B])],[(896,1,List.map rU v7)]⟩ → go Tryz.prog (.code (.loop cc383) :: [.blk 2,.blk 1,.code cc384,.code (.loop cc385),.blk 0,.code cc386]) (Ret [6] [.sc (.o 1 (List.map rU zr))]) .normal (some σ)) (v14 : Bool) (r : (List Int)) (h : f_impl_partners_3 a0 a1 a2 v2 v6 x5 v7 k_impl_partners_2 v14 = some r) (σ : St) (hσ : σ.kept [0,1,2,7,8,9,10,15,16,17,22,23,24,45] [9] [896] = ⟨[(0,vc (aI a0)),(1,vc (aL (List.map rI a1))),(2,vc (aL (List.map XDuty.row a2))),(7,vc (.own 896)),(8,vc (aI v2)),(9,vc (.pb 9 0)),(10,vc (aI v6)),(15,vc (aL (List.map XDuty.row a2))),(16,vc (aI (a2.length : Int))),(17,vc (aI v2)),(22,vc (aL (List.map XDuty.row a2))),(23,vc (aI (a2.length : Int))),(24,vc (aI v6)),(45,vc (aB v14))],[(9,[aI x5.From,aI x5.To,aI x5.A,aI x5.B])],[(896,1,List.map rU v7)]⟩) : go Tryz.prog (.code cc381 :: [.blk 3,.code cc382,.code (.loop cc383),.blk 2,.blk 1,.code cc384,.code (.loop cc385),.blk 0,.code cc386]) (Ret [6] [.sc (.o 1 (List.map rU r))]) .normal (some σ) := by
 unfold f_impl_partners_3 at h
 rcases Bool.eq_false_or_eq_true v14 with hb15 | hb15
 ·rw [ite_t hb15] at h
  try simp only [hσ,hb15,cc381,Nat.reduceBEq,reduceMul,reduceAdd,reduceDiv,Int.reduceBEq,RR]
  refine go_fr_of rfl ?_
  obtain ⟨x16,hx16,h⟩ := ob h
  have hx16n := ix_get hx16
  obtain ⟨hg17,h⟩ := of_guardn h
  try simp only [hb15,hx16,hx16n,hg17,Nat.reduceBEq,reduceMul,reduceAdd,reduceDiv,Int.reduceBEq,RR]
  refine go_stp (y := (bitsV .or .u64 x16 (shlV .u64 (1 : Int) v6))) rfl rfl hx16n rfl rfl rfl ?_
  try simp only [hb15,hx16,hx16n,hg17,Nat.reduceBEq,reduceMul,reduceAdd,reduceDiv,Int.reduceBEq,RR]
  refine go_fr_of rfl ?_
  try simp only [hb15,hx16,hx16n,hg17,cc382,Nat.reduceBEq,reduceMul,reduceAdd,reduceDiv,Int.reduceBEq,RR]
  refine hk_impl_partners_2 _ _ _ h _ ?_
  try simp only [hb15,hx16,hx16n,hg17,Nat.reduceBEq,reduceMul,reduceAdd,reduceDiv,Int.reduceBEq,RR,List.map_nil]
 ·rw [ite_f hb15] at h
  try simp only [hσ,hb15,cc381,cc382,Nat.reduceBEq,reduceMul,reduceAdd,reduceDiv,Int.reduceBEq,RR]
  refine hk_impl_partners_2 _ _ _ h _ ?_
  try simp only [hb15,Nat.reduceBEq,reduceMul,reduceAdd,reduceDiv,Int.reduceBEq,RR,List.map_nil]
theorem ww389 (a0 : Int) (a1 : List Int) (a2 : List XDuty) (v2 : Int) (x5 : XDuty) (k_impl_partners_1 : Int → (List Int) → Option (List Int)) (hk_impl_partners_1 : ∀ (v2 : Int) (v3 : List Int) zr,k_impl_partners_1 v2 v3 = some zr → ∀ σ : St,σ.kept [0,1,2,7,15,16,17] [] [896] = ⟨[(0,vc (aI a0)),(1,vc (aL (List.map rI a1))),(2,vc (aL (List.map XDuty.row a2))),(7,vc (.own 896)),(15,vc (aL (List.map XDuty.row a2))),(16,vc (aI (a2.length : Int))),(17,vc (aI v2))],[],[(896,1,List.map rU v3)]⟩ → go Tryz.prog (.code (.loop cc385) :: [.blk 0,.code cc386]) (Ret [6] [.sc (.o 1 (List.map rU zr))]) .normal (some σ)) : ∀ (n : Nat) (v6 : Int) (v7 : List Int) (r : (List Int)),f_impl_partners_2 a0 a1 a2 v2 x5 k_impl_partners_1 n v6 v7 = some r → ∀ σ : St,σ.kept [0,1,2,7,8,9,15,16,17,22,23,24] [9] [896] = ⟨[(0,vc (aI a0)),(1,vc (aL (List.map rI a1))),(2,vc (aL (List.map XDuty.row a2))),(7,vc (.own 896)),(8,vc (aI v2)),(9,vc (.pb 9 0)),(15,vc (aL (List.map XDuty.row a2))),(16,vc (aI (a2.length : Int))),(17,vc (aI v2)),(22,vc (aL (List.map XDuty.row a2))),(23,vc (aI (a2.length : Int))),(24,vc (aI v6))],[(9,[aI x5.From,aI x5.To,aI x5.A,aI x5.B])],[(896,1,List.map rU v7)]⟩ → go Tryz.prog (.code (.loop cc383) :: [.blk 2,.blk 1,.code cc384,.code (.loop cc385),.blk 0,.code cc386]) (Ret [6] [.sc (.o 1 (List.map rU r))]) .normal (some σ) := by
 intro n
 induction n with
 | zero => intro _ _ r h; cases h
 | succ n ih =>
  intro v6 v7 r h σ hσ
  rw [f_impl_partners_2] at h
  refine go_round ?_
  rcases Bool.eq_false_or_eq_true (decide (v6 < (a2.length : Int))) with hb8 | hb8
  ·rw [ite_t hb8] at h
   obtain ⟨x9,hx9,h⟩ := ob h
   try simp only [hσ,hb8,hx9,cc383,Nat.reduceBEq,reduceMul,reduceAdd,reduceDiv,Int.reduceBEq,RR]
   refine go_al rfl rfl ?_
   rcases Bool.eq_false_or_eq_true (v2 != v6) with hb10 | hb10
   ·rw [ite_t hb10] at h
    obtain ⟨r11,hr11,h⟩ := ob h
    try simp only [hb8,hx9,hb10,Nat.reduceBEq,reduceMul,reduceAdd,reduceDiv,Int.reduceBEq,RR]
    refine go_callI (w_impl_CanFollow _ _ _ _ _ hr11) rfl rfl (Nat.le_of_ble_eq_true rfl) ?_
    rcases Bool.eq_false_or_eq_true r11 with hb12 | hb12
    ·rw [ite_t hb12] at h
     try simp only [hb8,hx9,hb10,hb12,Nat.reduceBEq,reduceMul,reduceAdd,reduceDiv,Int.reduceBEq,RR]
     refine ww388 _ _ _ _ _ _ _ (f_impl_partners_2 a0 a1 a2 v2 x5 k_impl_partners_1 n) ih _ _ h _ ?_
     try simp only [hb8,hx9,hb10,hb12,Nat.reduceBEq,reduceMul,reduceAdd,reduceDiv,Int.reduceBEq,RR,List.map_nil]
    ·rw [ite_f hb12] at h
     obtain ⟨r13,hr13,h⟩ := ob h
     try simp only [hb8,hx9,hb10,hb12,Nat.reduceBEq,reduceMul,reduceAdd,reduceDiv,Int.reduceBEq,RR]
     refine go_callI (w_impl_CanFollow _ _ _ _ _ hr13) rfl rfl (Nat.le_of_ble_eq_true rfl) ?_
     try simp only [hb8,hx9,hb10,hb12,Nat.reduceBEq,reduceMul,reduceAdd,reduceDiv,Int.reduceBEq,RR]
     refine ww388 _ _ _ _ _ _ _ (f_impl_partners_2 a0 a1 a2 v2 x5 k_impl_partners_1 n) ih _ _ h _ ?_
     try simp only [hb8,hx9,hb10,hb12,Nat.reduceBEq,reduceMul,reduceAdd,reduceDiv,Int.reduceBEq,RR,List.map_nil]
   ·rw [ite_f hb10] at h
    try simp only [hb8,hx9,hb10,Nat.reduceBEq,reduceMul,reduceAdd,reduceDiv,Int.reduceBEq,RR]
    refine ww388 _ _ _ _ _ _ _ (f_impl_partners_2 a0 a1 a2 v2 x5 k_impl_partners_1 n) ih _ _ h _ ?_
    try simp only [hb8,hx9,hb10,Nat.reduceBEq,reduceMul,reduceAdd,reduceDiv,Int.reduceBEq,RR,List.map_nil]
  ·rw [ite_f hb8] at h
   try simp only [hσ,hb8,cc383,cc384,Nat.reduceBEq,reduceMul,reduceAdd,reduceDiv,Int.reduceBEq,RR]
   refine hk_impl_partners_1 _ _ _ h _ ?_
   try simp only [hb8,Nat.reduceBEq,reduceMul,reduceAdd,reduceDiv,Int.reduceBEq,RR,List.map_nil]
theorem ww390 (a0 : Int) (a1 : List Int) (a2 : List XDuty) : ∀ (n : Nat) (v2 : Int) (v3 : List Int) (r : (List Int)),f_impl_partners_1 a0 a1 a2 n v2 v3 = some r → ∀ σ : St,σ.kept [0,1,2,7,15,16,17] [] [896] = ⟨[(0,vc (aI a0)),(1,vc (aL (List.map rI a1))),(2,vc (aL (List.map XDuty.row a2))),(7,vc (.own 896)),(15,vc (aL (List.map XDuty.row a2))),(16,vc (aI (a2.length : Int))),(17,vc (aI v2))],[],[(896,1,List.map rU v3)]⟩ → go Tryz.prog (.code (.loop cc385) :: [.blk 0,.code cc386]) (Ret [6] [.sc (.o 1 (List.map rU r))]) .normal (some σ) := by
 intro n
 induction n with
 | zero => intro _ _ r h; cases h
 | succ n ih =>
  intro v2 v3 r h σ hσ
  rw [f_impl_partners_1] at h
  refine go_round ?_
  rcases Bool.eq_false_or_eq_true (decide (v2 < (a2.length : Int))) with hb4 | hb4
  ·rw [ite_t hb4] at h
   obtain ⟨x5,hx5,h⟩ := ob h
   try simp only [hσ,hb4,hx5,cc385,Nat.reduceBEq,reduceMul,reduceAdd,reduceDiv,Int.reduceBEq,RR]
   refine go_al rfl rfl ?_
   try simp only [hb4,hx5,Nat.reduceBEq,reduceMul,reduceAdd,reduceDiv,Int.reduceBEq,RR]
   refine ww389 _ _ _ _ _ (f_impl_partners_1 a0 a1 a2 n) ih _ _ _ _ h _ ?_
   try simp only [hb4,hx5,Nat.reduceBEq,reduceMul,reduceAdd,reduceDiv,Int.reduceBEq,RR,List.map_nil]
  ·rw [ite_f hb4] at h
   try simp only [hσ,hb4,cc385,cc386,Nat.reduceBEq,reduceMul,reduceAdd,reduceDiv,Int.reduceBEq,RR]
   cases h
   exact ⟨⟨rfl,trivial⟩,rfl⟩
theorem ee391 : entry Tryz.prog 117 = some (cc387.strip,[6],57) := by kernel_rfl
theorem w_impl_partners (a0 : Int) (a1 : List Int) (a2 : List XDuty) (r : (List Int)) (h : f_impl_partners a0 a1 a2 = some r) : FC Tryz.prog 117 [.sc (.int .i64 a0),.sc (.sl (List.map rI a1)),.sc (.sl (List.map XDuty.row a2))] [.sc (.o 1 (List.map rU r))] := by
 unfold f_impl_partners at h
 refine FC_go (σ := ⟨[(0,vc (aI a0)),(1,vc (aL (List.map rI a1))),(2,vc (aL (List.map XDuty.row a2)))],[],[]⟩) mixed ee391 rfl rfl ?_
 simp only [cc387]
 obtain ⟨n1,hn1,h⟩ := ob h
 try simp only [Nat.reduceBEq,reduceMul,reduceAdd,reduceDiv,Int.reduceBEq,RR]
 refine go_mks (es := List.map rU (List.replicate n1 (0 : Int))) rfl rfl hn1 rfl (rep_map rfl) rfl ?_
 try simp only [Nat.reduceBEq,reduceMul,reduceAdd,reduceDiv,Int.reduceBEq,RR]
 refine ww390 _ _ _ _ _ _ _ h _ ?_
 try simp only [Nat.reduceBEq,reduceMul,reduceAdd,reduceDiv,Int.reduceBEq,RR,List.map_nil]
/- 151: math_bits_Len64 -/
def cc392 : ACode := .seq (.reg [(none,.keep [0,2] [] [])]) (.seq (.reg [mv 19 2,mv 20 0,(none,.conv 21 .u8 (S 20)),(none,.idx 22 (KS [0,1,2,2,3,3,3,3,4,4,4,4,4,4,4,4,5,5,5,5,5,5,5,5,5,5,5,5,5,5,5,5,6,6,6,6,6,6,6,6,6,6,6,6,6,6,6,6,6,6,6,6,6,6,6,6,6,6,6,6,6,6,6,6,7,7,7,7,7,7,7,7,7,7,7,7,7,7,7,7,7,7,7,7,7,7,7,7,7,7,7,7,7,7,7,7,7,7,7,7,7,7,7,7,7,7,7,7,7,7,7,7,7,7,7,7,7,7,7,7,7,7,7,7,7,7,7,7,8,8,8,8,8,8,8,8,8,8,8,8,8,8,8,8,8,8,8,8,8,8,8,8,8,8,8,8,8,8,8,8,8,8,8,8,8,8,8,8,8,8,8,8,8,8,8,8,8,8,8,8,8,8,8,8,8,8,8,8,8,8,8,8,8,8,8,8,8,8,8,8,8,8,8,8,8,8,8,8,8,8,8,8,8,8,8,8,8,8,8,8,8,8,8,8,8,8,8,8,8,8,8,8,8,8,8,8,8,8,8,8,8,8,8,8,8,8,8,8,8,8,8,8,8,8,8,8]) (S 21)),(none,.conv 23 .i64 (S 22)),bn 24 .add 19 23,mv 2 24]) .ret)
def cc393 : ACode := .seq (.reg [(none,.keep [0,2] [] [])]) (.seq (.seq (.reg [mv 13 0,(none,.bin 14 .geq (S 13) (.c (.v (.sc (.dat (.int .u64 256))))))]) (.cond (S 14) (.seq (.reg [mv 15 0,(none,.bin 16 .shr (S 15) (.c (.v (.sc (.dat (.int .u64 8)))))),mv 0 16]) (.reg [mv 17 2,(none,.bin 18 .add (S 17) (K 8)),mv 2 18])) .skip)) cc392)
def cc394 : ACode := .seq (.reg [(none,.keep [0,2] [] [])]) (.seq (.seq (.reg [mv 7 0,(none,.bin 8 .geq (S 7) (.c (.v (.sc (.dat (.int .u64 65536))))))]) (.cond (S 8) (.seq (.reg [mv 9 0,(none,.bin 10 .shr (S 9) (.c (.v (.sc (.dat (.int .u64 16)))))),mv 0 10]) (.reg [mv 11 2,(none,.bin 12 .add (S 11) (K 16)),mv 2 12])) .skip)) cc393)
def cc395 : ACode := (.seq (.reg [(none,.mv 2 (K 0))]) (.seq (.seq (.reg [mv 3 0,(none,.bin 4 .geq (S 3) (.c (.v (.sc (.dat (.int .u64 4294967296))))))]) (.cond (S 4) (.seq (.reg [mv 5 0,(none,.bin 6 .shr (S 5) (.c (.v (.sc (.dat (.int .u64 32)))))),mv 0 6]) (.reg [(none,.mv 2 (K 32))])) .skip)) cc394))
theorem ww396 (v8 : Int) (v9 : Int) (r : Int) (h : f_math_bits_Len64_3 v8 v9 = some r) (σ : St) (hσ : σ.kept [0,2] [] [] = ⟨[(0,vc (.dat (.int .u64 v8))),(2,vc (aI v9))],[],[]⟩) : go Tryz.prog (.code cc392 :: []) (Ret [2] [.sc (.v (.int .i64 r))]) .normal (some σ) := by
 unfold f_math_bits_Len64_3 at h
 obtain ⟨b10,hb10,h⟩ := ob h
 try simp only [hσ,hb10,cc392,Nat.reduceBEq,reduceMul,reduceAdd,reduceDiv,Int.reduceBEq,RR]
 cases h
 exact ⟨⟨rfl,trivial⟩,rfl⟩
theorem ww397 (v5 : Int) (v6 : Int) (r : Int) (h : f_math_bits_Len64_2 v5 v6 = some r) (σ : St) (hσ : σ.kept [0,2] [] [] = ⟨[(0,vc (.dat (.int .u64 v5))),(2,vc (aI v6))],[],[]⟩) : go Tryz.prog (.code cc393 :: []) (Ret [2] [.sc (.v (.int .i64 r))]) .normal (some σ) := by
 unfold f_math_bits_Len64_2 at h
 rcases Bool.eq_false_or_eq_true (decide ((256 : Int) ≤ v5)) with hb7 | hb7
 ·rw [ite_t hb7] at h
  try simp only [hσ,hb7,cc393,Nat.reduceBEq,reduceMul,reduceAdd,reduceDiv,Int.reduceBEq,RR]
  refine ww396 _ _ _ h _ ?_
  try simp only [hb7,Nat.reduceBEq,reduceMul,reduceAdd,reduceDiv,Int.reduceBEq,RR,List.map_nil]
 ·rw [ite_f hb7] at h
  try simp only [hσ,hb7,cc393,Nat.reduceBEq,reduceMul,reduceAdd,reduceDiv,Int.reduceBEq,RR]
  refine ww396 _ _ _ h _ ?_
  try simp only [hb7,Nat.reduceBEq,reduceMul,reduceAdd,reduceDiv,Int.reduceBEq,RR,List.map_nil]
theorem ww398 (v2 : Int) (v3 : Int) (r : Int) (h : f_math_bits_Len64_1 v2 v3 = some r) (σ : St) (hσ : σ.kept [0,2] [] [] = ⟨[(0,vc (.dat (.int .u64 v2))),(2,vc (aI v3))],[],[]⟩) : go Tryz.prog (.code cc394 :: []) (Ret [2] [.sc (.v (.int .i64 r))]) .normal (some σ) := by
 unfold f_math_bits_Len64_1 at h
 rcases Bool.eq_false_or_eq_true (decide ((65536 : Int) ≤ v2)) with hb4 | hb4
 ·rw [ite_t hb4] at h
  try simp only [hσ,hb4,cc394,Nat.reduceBEq,reduceMul,reduceAdd,reduceDiv,Int.reduceBEq,RR]
  refine ww397 _ _ _ h _ ?_
  try simp only [hb4,Nat.reduceBEq,reduceMul,reduceAdd,reduceDiv,Int.reduceBEq,RR,List.map_nil]
 ·rw [ite_f hb4] at h
  try simp only [hσ,hb4,cc394,Nat.reduceBEq,reduceMul,reduceAdd,reduceDiv,Int.reduceBEq,RR]
  refine ww397 _ _ _ h _ ?_
  try simp only [hb4,Nat.reduceBEq,reduceMul,reduceAdd,reduceDiv,Int.reduceBEq,RR,List.map_nil]
theorem ee399 : entry Tryz.prog 151 = some (cc395.strip,[2],25) := by kernel_rfl
theorem w_math_bits_Len64 (a0 : Int) (r : Int) (h : f_math_bits_Len64 a0 = some r) : FC Tryz.prog 151 [.sc (.int .u64 a0)] [.sc (.v (.int .i64 r))] := by
 unfold f_math_bits_Len64 at h
 refine FC_go (σ := ⟨[(0,vc (.dat (.int .u64 a0)))],[],[]⟩) mixed ee399 rfl rfl ?_
 simp only [cc395]
 rcases Bool.eq_false_or_eq_true (decide ((4294967296 : Int) ≤ a0)) with hb1 | hb1
 ·rw [ite_t hb1] at h
  try simp only [hb1,Nat.reduceBEq,reduceMul,reduceAdd,reduceDiv,Int.reduceBEq,RR]
  refine ww398 _ _ _ h _ ?_
  try simp only [hb1,Nat.reduceBEq,reduceMul,reduceAdd,reduceDiv,Int.reduceBEq,RR,List.map_nil]
 ·rw [ite_f hb1] at h
  try simp only [hb1,Nat.reduceBEq,reduceMul,reduceAdd,reduceDiv,Int.reduceBEq,RR]
  refine ww398 _ _ _ h _ ?_
  try simp only [hb1,Nat.reduceBEq,reduceMul,reduceAdd,reduceDiv,Int.reduceBEq,RR,List.map_nil]
/- 140: math_bits_Len -/
def cc400 : ACode := (.seq (.reg [(none,.mv 2 (K 0))]) (.seq (.cond (KB false) (.seq (.reg [mv 3 0,(none,.conv 4 .u32 (S 3)),(none,.call 5 150 [(S 4)]),mv 2 5]) .ret) .skip) (.seq (.reg [mv 6 0,(none,.call 7 151 [(S 6)]),mv 2 7]) .ret)))
theorem ee401 : entry Tryz.prog 140 = some (cc400.strip,[2],8) := by kernel_rfl
theorem w_math_bits_Len (a0 : Int) (r : Int) (h : f_math_bits_Len a0 = some r) : FC Tryz.prog 140 [.sc (.int .u64 a0)] [.sc (.v (.int .i64 r))] := by
 unfold f_math_bits_Len at h
 refine FC_go (σ := ⟨[(0,vc (.dat (.int .u64 a0)))],[],[]⟩) mixed ee401 rfl rfl ?_
 simp only [cc400]
 obtain ⟨r1,hr1,h⟩ := ob h
 try simp only [Nat.reduceBEq,reduceMul,reduceAdd,reduceDiv,Int.reduceBEq,RR]
 refine go_callI (w_math_bits_Len64 _ _ hr1) rfl rfl (Nat.le_of_ble_eq_true rfl) ?_
 try simp only [Nat.reduceBEq,reduceMul,reduceAdd,reduceDiv,Int.reduceBEq,RR]
 cases h
 exact ⟨⟨rfl,trivial⟩,rfl⟩
/- 118: impl_leastPersons -/
def cc402 : ACode := .seq (.reg [(none,.keep [0,3,4,5,6,7,8,9] [] [896,1024])]) (.seq (.reg [mv 81 9,(none,.bin 82 .eql (S 81) (K 0))]) (.cond (S 82) (.exit 2) .skip))
def cc403 : ACode := (.reg [mv 55 9,(none,.bin 56 .sub (S 55) (K 1)),mv 57 8,bn 58 .and 56 57,mv 9 58])
def cc404 : ACode := .seq (.reg [(none,.keep [0,3,4,5,6,7,8,9] [] [896,1024])]) (.seq (.block 3 (.seq (.seq (.reg [mv 59 4,mv 60 9,mv 61 7,(none,.bin 62 .shl (K 1) (S 61)),bn 63 .or 60 62,(none,.iaddr 64 (S 59) (S 63) 1),ld 65 64]) (.cond (S 65) (.drw [(some [],mv 66 5),(some [],mv 67 6),(some [],mv 68 5),(some [],mv 69 6),(some [],(none,.iaddr 70 (S 68) (S 69) 1)),(some [],ld 71 70),(some [],mv 72 5),(some [],mv 73 8),(some [],mv 74 9),(some [],bn 75 .andNot 73 74),(some [],(none,.iaddr 76 (S 72) (S 75) 1)),(some [],ld 77 76),(some [],(none,.bin 78 .add (K 1) (S 77))),(some [],(none,.mm 79 false (S 71) (S 78))),(some [],(none,.iaddr 80 (S 66) (S 67) 1)),(none,(none,.store (S 80) (S 79) 1))]) .skip)) cc402)) cc403)
def cc405 : ACode := .seq (.reg [(none,.keep [0,3,4,5,6,7,8] [] [896,1024])]) (.seq (.reg [mv 49 5,mv 50 6,mv 51 0,(none,.len 52 (S 51)),(none,.iaddr 53 (S 49) (S 50) 1),(none,.store (S 53) (S 52) 1)]) (.seq (.reg [mv 54 8,mv 9 54]) (.block 2 (.loop cc404))))
def cc406 : ACode := (.reg [mv 22 6,(none,.bin 23 .add (S 22) (K 1)),mv 6 23])
def cc407 : ACode := .seq (.reg [(none,.keep [0,3,4,5,6] [] [896,1024])]) (.seq (.seq (.reg [mv 19 6,mv 20 3,bn 21 .lss 19 20]) (.cond (S 21) .skip (.exit 0))) (.seq (.block 1 (.seq (.reg [mv 24 6,(none,.conv 25 .u64 (S 24)),(none,.call 26 140 [(S 25)]),(none,.bin 27 .sub (S 26) (K 1)),mv 7 27]) (.seq (.reg [mv 28 6,mv 29 7,(none,.bin 30 .shl (K 1) (S 29)),bn 31 .andNot 28 30,mv 8 31]) (.seq (.reg [mv 32 4,mv 33 6,mv 34 4,mv 35 8,(none,.iaddr 36 (S 34) (S 35) 1),ld 37 36,mv 38 37,(some (38,true),.mv 39 (S 8)),(some (38,true),.conv 40 .u64 (S 39)),(some (38,true),.mv 41 (S 0)),(some (38,true),.mv 42 (S 7)),(some (38,true),.iaddr 43 (S 41) (S 42) 1),(some (38,true),.load 44 (S 43) false 1),(some (38,true),.bin 45 .andNot (S 40) (S 44)),(some (38,true),.bin 46 .eql (S 45) (.c (.v (.sc (.dat (.int .u64 0)))))),(none,.pick 47 (S 38) (S 46) (KB false)),(none,.iaddr 48 (S 32) (S 33) 1),(none,.store (S 48) (S 47) 1)]) cc405)))) cc406))
def cc408 : ACode := (.seq (.reg [mv 83 5,mv 84 3,(none,.bin 85 .sub (S 84) (K 1)),(none,.iaddr 86 (S 83) (S 85) 1),ld 87 86,mv 2 87]) .ret)
def cc409 : ACode := (.seq (.reg [(none,.mv 2 (K 0))]) (.seq (.reg [mv 10 0,(none,.len 11 (S 10)),(none,.bin 12 .shl (K 1) (S 11)),mv 3 12]) (.seq (.reg [mv 13 3,(none,.mksl 14 1 1 [.bool false] (S 13) (S 13)),mv 4 14]) (.seq (.reg [mv 15 3,(none,.mksl 16 1 8 [.int .i64 0] (S 15) (S 15)),mv 5 16]) (.seq (.reg [mv 17 4,(none,.iaddr 18 (S 17) (K 0) 1),(none,.store (S 18) (KB true) 1)]) (.seq (.seq (.reg [(none,.mv 6 (K 1))]) (.block 0 (.loop cc407))) cc408))))))
theorem ww410 (a0 : List Int) (y5 : Int) (v6 : Int) (v17 : Int) (v18 : Int) (v21 : Int) (v19 : List Bool) (k_impl_leastPersons_1 : Int → (List Bool) → (List Int) → Option Int) (hk_impl_leastPersons_1 : ∀ (v6 : Int) (v7 : List Bool) (v8 : List Int) zr,k_impl_leastPersons_1 v6 v7 v8 = some zr → ∀ σ : St,σ.kept [0,3,4,5,6] [] [896,1024] = ⟨[(0,vc (aL (List.map rU a0))),(3,vc (aI y5)),(4,vc (.own 896)),(5,vc (.own 1024)),(6,vc (aI v6))],[],[(896,1,List.map rB v7),(1024,1,List.map rI v8)]⟩ → go Tryz.prog (.code (.loop cc407) :: [.blk 0,.code cc408]) (Ret [2] [.sc (.v (.int .i64 zr))]) .normal (some σ)) (k_impl_leastPersons_3 : Int → (List Int) → Option Int) (hk_impl_leastPersons_3 : ∀ (v21 : Int) (v22 : List Int) zr,k_impl_leastPersons_3 v21 v22 = some zr → ∀ σ : St,σ.kept [0,3,4,5,6,7,8,9] [] [896,1024] = ⟨[(0,vc (aL (List.map rU a0))),(3,vc (aI y5)),(4,vc (.own 896)),(5,vc (.own 1024)),(6,vc (aI v6)),(7,vc (aI v17)),(8,vc (aI v18)),(9,vc (aI v21))],[],[(896,1,List.map rB v19),(1024,1,List.map rI v22)]⟩ → go Tryz.prog (.code (.loop cc404) :: [.blk 2,.blk 1,.code cc406,.code (.loop cc407),.blk 0,.code cc408]) (Ret [2] [.sc (.v (.int .i64 zr))]) .normal (some σ)) (v28 : List Int) (r : Int) (h : f_impl_leastPersons_4 a0 y5 v6 v17 v18 v21 v19 k_impl_leastPersons_1 k_impl_leastPersons_3 v28 = some r) (σ : St) (hσ : σ.kept [0,3,4,5,6,7,8,9] [] [896,1024] = ⟨[(0,vc (aL (List.map rU a0))),(3,vc (aI y5)),(4,vc (.own 896)),(5,vc (.own 1024)),(6,vc (aI v6)),(7,vc (aI v17)),(8,vc (aI v18)),(9,vc (aI v21))],[],[(896,1,List.map rB v19),(1024,1,List.map rI v28)]⟩) : go Tryz.prog (.code cc402 :: [.blk 3,.code cc403,.code (.loop cc404),.blk 2,.blk 1,.code cc406,.code (.loop cc407),.blk 0,.code cc408]) (Ret [2] [.sc (.v (.int .i64 r))]) .normal (some σ) := by
 unfold f_impl_leastPersons_4 at h
 rcases Bool.eq_false_or_eq_true (v21 == (0 : Int)) with hb29 | hb29
 ·rw [ite_t hb29] at h
  try simp only [hσ,hb29,cc402,cc406,Nat.reduceBEq,reduceMul,reduceAdd,reduceDiv,Int.reduceBEq,RR]
  refine hk_impl_leastPersons_1 _ _ _ _ h _ ?_
  try simp only [hb29,Nat.reduceBEq,reduceMul,reduceAdd,reduceDiv,Int.reduceBEq,RR,List.map_nil]
 ·rw [ite_f hb29] at h
  try simp only [hσ,hb29,cc402,cc403,Nat.reduceBEq,reduceMul,reduceAdd,reduceDiv,Int.reduceBEq,RR]
  refine hk_impl_leastPersons_3 _ _ _ h _ ?_
  try simp only [hb29,Nat.reduceBEq,reduceMul,reduceAdd,reduceDiv,Int.reduceBEq,RR,List.map_nil]
theorem ww411 (a0 : List Int) (y5 : Int) (v6 : Int) (v17 : Int) (v18 : Int) (v19 : List Bool) (k_impl_leastPersons_1 : Int → (List Bool) → (List Int) → Option Int) (hk_impl_leastPersons_1 : ∀ (v6 : Int) (v7 : List Bool) (v8 : List Int) zr,k_impl_leastPersons_1 v6 v7 v8 = some zr → ∀ σ : St,σ.kept [0,3,4,5,6] [] [896,1024] = ⟨[(0,vc (aL (List.map rU a0))),(3,vc (aI y5)),(4,vc (.own 896)),(5,vc (.own 1024)),(6,vc (aI v6))],[],[(896,1,List.map rB v7),(1024,1,List.map rI v8)]⟩ → go Tryz.prog (.code (.loop cc407) :: [.blk 0,.code cc408]) (Ret [2] [.sc (.v (.int .i64 zr))]) .normal (some σ)) : ∀ (n : Nat) (v21 : Int) (v22 : List Int) (r : Int),f_impl_leastPersons_3 a0 y5 v6 v17 v18 v19 k_impl_leastPersons_1 n v21 v22 = some r → ∀ σ : St,σ.kept [0,3,4,5,6,7,8,9] [] [896,1024] = ⟨[(0,vc (aL (List.map rU a0))),(3,vc (aI y5)),(4,vc (.own 896)),(5,vc (.own 1024)),(6,vc (aI v6)),(7,vc (aI v17)),(8,vc (aI v18)),(9,vc (aI v21))],[],[(896,1,List.map rB v19),(1024,1,List.map rI v22)]⟩ → go Tryz.prog (.code (.loop cc404) :: [.blk 2,.blk 1,.code cc406,.code (.loop cc407),.blk 0,.code cc408]) (Ret [2] [.sc (.v (.int .i64 r))]) .normal (some σ) := by
 intro n
 induction n with
 | zero => intro _ _ r h; cases h
 | succ n ih =>
  intro v21 v22 r h σ hσ
  rw [f_impl_leastPersons_3] at h
  refine go_round ?_
  obtain ⟨hg23,h⟩ := of_guardn h
  obtain ⟨x24,hx24,h⟩ := ob h
  have hx24n := ix_get hx24
  rcases Bool.eq_false_or_eq_true x24 with hb25 | hb25
  ·rw [ite_t hb25] at h
   try simp only [hσ,hg23,hx24,hx24n,hb25,cc404,Nat.reduceBEq,reduceMul,reduceAdd,reduceDiv,Int.reduceBEq,RR]
   refine go_fr_of rfl ?_
   obtain ⟨x26,hx26,h⟩ := ob h
   have hx26n := ix_get hx26
   obtain ⟨x27,hx27,h⟩ := ob h
   have hx27n := ix_get hx27
   try simp only [hg23,hx24,hx24n,hb25,hx26,hx26n,hx27,hx27n,Nat.reduceBEq,reduceMul,reduceAdd,reduceDiv,Int.reduceBEq,RR]
   refine go_stp (y := (if (IntKind.i64.wrap ((1 : Int) + x27)) < x26 then (IntKind.i64.wrap ((1 : Int) + x27)) else x26)) rfl rfl hx26n rfl rfl rfl ?_
   try simp only [hg23,hx24,hx24n,hb25,hx26,hx26n,hx27,hx27n,Nat.reduceBEq,reduceMul,reduceAdd,reduceDiv,Int.reduceBEq,RR]
   refine go_fr_of rfl ?_
   try simp only [hg23,hx24,hx24n,hb25,hx26,hx26n,hx27,hx27n,Nat.reduceBEq,reduceMul,reduceAdd,reduceDiv,Int.reduceBEq,RR]
   refine ww410 _ _ _ _ _ _ _ k_impl_leastPersons_1 hk_impl_leastPersons_1 (f_impl_leastPersons_3 a0 y5 v6 v17 v18 v19 k_impl_leastPersons_1 n) ih _ _ h _ ?_
   try simp only [hg23,hx24,hx24n,hb25,hx26,hx26n,hx27,hx27n,Nat.reduceBEq,reduceMul,reduceAdd,reduceDiv,Int.reduceBEq,RR,List.map_nil]
  ·rw [ite_f hb25] at h
   try simp only [hσ,hg23,hx24,hx24n,hb25,cc404,Nat.reduceBEq,reduceMul,reduceAdd,reduceDiv,Int.reduceBEq,RR]
   refine ww410 _ _ _ _ _ _ _ k_impl_leastPersons_1 hk_impl_leastPersons_1 (f_impl_leastPersons_3 a0 y5 v6 v17 v18 v19 k_impl_leastPersons_1 n) ih _ _ h _ ?_
   try simp only [hg23,hx24,hx24n,hb25,Nat.reduceBEq,reduceMul,reduceAdd,reduceDiv,Int.reduceBEq,RR,List.map_nil]
theorem ww412 (a0 : List Int) (y5 : Int) (v6 : Int) (v8 : List Int) (k_impl_leastPersons_1 : Int → (List Bool) → (List Int) → Option Int) (hk_impl_leastPersons_1 : ∀ (v6 : Int) (v7 : List Bool) (v8 : List Int) zr,k_impl_leastPersons_1 v6 v7 v8 = some zr → ∀ σ : St,σ.kept [0,3,4,5,6] [] [896,1024] = ⟨[(0,vc (aL (List.map rU a0))),(3,vc (aI y5)),(4,vc (.own 896)),(5,vc (.own 1024)),(6,vc (aI v6))],[],[(896,1,List.map rB v7),(1024,1,List.map rI v8)]⟩ → go Tryz.prog (.code (.loop cc407) :: [.blk 0,.code cc408]) (Ret [2] [.sc (.v (.int .i64 zr))]) .normal (some σ)) (v17 : Int) (v18 : Int) (v19 : List Bool) (r : Int) (h : f_impl_leastPersons_2 a0 y5 v6 v8 k_impl_leastPersons_1 v17 v18 v19 = some r) (σ : St) (hσ : σ.kept [0,3,4,5,6,7,8] [] [896,1024] = ⟨[(0,vc (aL (List.map rU a0))),(3,vc (aI y5)),(4,vc (.own 896)),(5,vc (.own 1024)),(6,vc (aI v6)),(7,vc (aI v17)),(8,vc (aI v18))],[],[(896,1,List.map rB v19),(1024,1,List.map rI v8)]⟩) : go Tryz.prog (.code cc405 :: [.blk 1,.code cc406,.code (.loop cc407),.blk 0,.code cc408]) (Ret [2] [.sc (.v (.int .i64 r))]) .normal (some σ) := by
 unfold f_impl_leastPersons_2 at h
 obtain ⟨x20,hx20,h⟩ := ob h
 have hx20n := ix_get hx20
 try simp only [hσ,hx20,cc405,Nat.reduceBEq,reduceMul,reduceAdd,reduceDiv,Int.reduceBEq,RR]
 refine go_stp (y := (a0.length : Int)) rfl rfl hx20n rfl rfl rfl ?_
 try simp only [hx20,Nat.reduceBEq,reduceMul,reduceAdd,reduceDiv,Int.reduceBEq,RR]
 refine ww411 _ _ _ _ _ _ k_impl_leastPersons_1 hk_impl_leastPersons_1 _ _ _ _ h _ ?_
 try simp only [hx20,Nat.reduceBEq,reduceMul,reduceAdd,reduceDiv,Int.reduceBEq,RR,List.map_nil]
theorem ww413 (a0 : List Int) (y5 : Int) : ∀ (n : Nat) (v6 : Int) (v7 : List Bool) (v8 : List Int) (r : Int),f_impl_leastPersons_1 a0 y5 n v6 v7 v8 = some r → ∀ σ : St,σ.kept [0,3,4,5,6] [] [896,1024] = ⟨[(0,vc (aL (List.map rU a0))),(3,vc (aI y5)),(4,vc (.own 896)),(5,vc (.own 1024)),(6,vc (aI v6))],[],[(896,1,List.map rB v7),(1024,1,List.map rI v8)]⟩ → go Tryz.prog (.code (.loop cc407) :: [.blk 0,.code cc408]) (Ret [2] [.sc (.v (.int .i64 r))]) .normal (some σ) := by
 intro n
 induction n with
 | zero => intro _ _ _ r h; cases h
 | succ n ih =>
  intro v6 v7 v8 r h σ hσ
  rw [f_impl_leastPersons_1] at h
  refine go_round ?_
  rcases Bool.eq_false_or_eq_true (decide (v6 < y5)) with hb9 | hb9
  ·rw [ite_t hb9] at h
   obtain ⟨r10,hr10,h⟩ := ob h
   try simp only [hσ,hb9,cc407,Nat.reduceBEq,reduceMul,reduceAdd,reduceDiv,Int.reduceBEq,RR]
   refine go_callI (w_math_bits_Len _ _ hr10) rfl rfl (Nat.le_of_ble_eq_true rfl) ?_
   obtain ⟨hg11,h⟩ := of_guardn h
   obtain ⟨x12,hx12,h⟩ := ob h
   have hx12n := ix_get hx12
   rcases Bool.eq_false_or_eq_true x12 with hb13 | hb13
   ·rw [ite_t hb13] at h
    obtain ⟨x14,hx14,h⟩ := ob h
    obtain ⟨x15,hx15,h⟩ := ob h
    have hx15n := ix_get hx15
    try simp only [hb9,hg11,hx12,hx12n,hb13,hx14,hx15,Nat.reduceBEq,reduceMul,reduceAdd,reduceDiv,Int.reduceBEq,RR]
    refine go_stp (y := ((bitsV .andNot .u64 (IntKind.u64.wrap (bitsV .andNot .i64 v6 (shlV .i64 (1 : Int) (IntKind.i64.wrap (r10 - (1 : Int)))))) x14) == (0 : Int))) rfl rfl hx15n rfl rfl rfl ?_
    try simp only [hb9,hg11,hx12,hx12n,hb13,hx14,hx15,Nat.reduceBEq,reduceMul,reduceAdd,reduceDiv,Int.reduceBEq,RR]
    refine ww412 _ _ _ _ (f_impl_leastPersons_1 a0 y5 n) ih _ _ _ _ h _ ?_
    try simp only [hb9,hg11,hx12,hx12n,hb13,hx14,hx15,Nat.reduceBEq,reduceMul,reduceAdd,reduceDiv,Int.reduceBEq,RR,List.map_nil]
   ·rw [ite_f hb13] at h
    obtain ⟨x16,hx16,h⟩ := ob h
    have hx16n := ix_get hx16
    try simp only [hb9,hg11,hx12,hx12n,hb13,hx16,Nat.reduceBEq,reduceMul,reduceAdd,reduceDiv,Int.reduceBEq,RR]
    refine go_stp (y := false) rfl rfl hx16n rfl rfl rfl ?_
    try simp only [hb9,hg11,hx12,hx12n,hb13,hx16,Nat.reduceBEq,reduceMul,reduceAdd,reduceDiv,Int.reduceBEq,RR]
    refine ww412 _ _ _ _ (f_impl_leastPersons_1 a0 y5 n) ih _ _ _ _ h _ ?_
    try simp only [hb9,hg11,hx12,hx12n,hb13,hx16,Nat.reduceBEq,reduceMul,reduceAdd,reduceDiv,Int.reduceBEq,RR,List.map_nil]
  ·rw [ite_f hb9] at h
   obtain ⟨x30,hx30,h⟩ := ob h
   have hx30n := ix_get hx30
   try simp only [hσ,hb9,hx30,hx30n,cc407,cc408,Nat.reduceBEq,reduceMul,reduceAdd,reduceDiv,Int.reduceBEq,RR]
   cases h
   exact ⟨⟨rfl,trivial⟩,rfl⟩
theorem ee414 : entry Tryz.prog 118 = some (cc409.strip,[2],88) := by kernel_rfl
theorem w_impl_leastPersons (a0 : List Int) (r : Int) (h : f_impl_leastPersons a0 = some r) : FC Tryz.prog 118 [.sc (.sl (List.map rU a0))] [.sc (.v (.int .i64 r))] := by
 unfold f_impl_leastPersons at h
 refine FC_go (σ := ⟨[(0,vc (aL (List.map rU a0)))],[],[]⟩) mixed ee414 rfl rfl ?_
 simp only [cc409]
 obtain ⟨hg1,h⟩ := of_guardn h
 obtain ⟨n2,hn2,h⟩ := ob h
 try simp only [hg1,Nat.reduceBEq,reduceMul,reduceAdd,reduceDiv,Int.reduceBEq,RR]
 refine go_mks (es := List.map rB (List.replicate n2 false)) rfl rfl hn2 rfl (rep_map rfl) rfl ?_
 obtain ⟨n3,hn3,h⟩ := ob h
 try simp only [hg1,Nat.reduceBEq,reduceMul,reduceAdd,reduceDiv,Int.reduceBEq,RR]
 refine go_mks (es := List.map rI (List.replicate n3 (0 : Int))) rfl rfl hn3 rfl (rep_map rfl) rfl ?_
 obtain ⟨x4,hx4,h⟩ := ob h
 have hx4n := ix_get hx4
 try simp only [hg1,hx4,Nat.reduceBEq,reduceMul,reduceAdd,reduceDiv,Int.reduceBEq,RR]
 refine go_stp (y := true) rfl rfl hx4n rfl rfl rfl ?_
 try simp only [hg1,hx4,Nat.reduceBEq,reduceMul,reduceAdd,reduceDiv,Int.reduceBEq,RR]
 refine ww413 _ _ _ _ _ _ _ h _ ?_
 try simp only [hg1,hx4,Nat.reduceBEq,reduceMul,reduceAdd,reduceDiv,Int.reduceBEq,RR,List.map_nil]
/- 119: impl_coverer_cover -/
def cc415 : ACode := .seq (.reg [(none,.keep [0,3,4] [1099511627776] [32000000000,32000000001])]) (.seq (.reg [mv 109 0,(none,.nilc 110 (S 109)),fa 111 110 2,ld 112 111,mv 113 4,(none,.iaddr 114 (S 112) (S 113) 1),ld 115 114,(none,.bin 116 .eql (S 115) (.c (.v (.sc (.dat (.int .u64 0))))))]) (.cond (S 116) (.seq (.reg [mv 117 0,mv 118 0,(none,.nilc 119 (S 118)),fa 120 119 2,ld 121 120,mv 122 4,(none,.slc 123 1 (S 121) none (some (S 122)) none),(none,.cut 123),(none,.nilc 124 (S 117)),fa 125 124 2,(none,.store (S 125) (S 123) 1)]) (.exit 0)) .skip))
def cc416 : ACode := .seq (.reg [(none,.keep [0,3,4] [1099511627776] [32000000000,32000000001])]) (.seq (.seq (.drw [(some [],mv 50 0),(some [],(none,.nilc 51 (S 50))),(some [],fa 52 51 2),(some [],ld 53 52),(some [],mv 54 4),(some [],(none,.iaddr 55 (S 53) (S 54) 1)),(some [],ld 56 55),(some [],mv 57 0),(some [],(none,.nilc 58 (S 57))),(some [],fa 59 58 0),(some [],ld 60 59),(some [],mv 61 3),(some [],(none,.iaddr 62 (S 60) (S 61) 1)),(some [],ld 63 62),(some [],bn 64 .andNot 56 63),(some [],(none,.bin 65 .eql (S 64) (.c (.v (.sc (.dat (.int .u64 0)))))))]) (.cond (S 65) (.seq (.drw [(some [],mv 66 0),(some [],(none,.nilc 67 (S 66))),(some [],fa 68 67 2),(some [],ld 69 68),(some [],mv 70 4),(some [],(none,.iaddr 71 (S 69) (S 70) 1)),(some [],ld 72 71),(some [],mv 73 3),(some [],(none,.bin 74 .shl (.c (.v (.sc (.dat (.int .u64 1))))) (S 73))),(some [],bn 75 .or 72 74),(some [],(none,.iaddr 76 (S 69) (S 70) 1)),(none,(none,.store (S 76) (S 75) 1))]) (.seq (.reg [mv 77 0,mv 78 0,(none,.nilc 79 (S 78)),fa 80 79 3,ld 81 80,mv 82 4,(none,.bslice 83 1 [.int .i64 0] 1 [(0,(S 82))]),(none,.app 84 1 8 (S 81) (S 83)),(none,.nilc 85 (S 77)),fa 86 85 3,(none,.store (S 86) (S 84) 1)]) (.seq (.seq (.reg [mv 87 0,(none,.call 88 119 [(S 87)])]) (.cond (S 88) (.seq (.reg [(none,.mv 2 (KB true))]) .ret) .skip)) (.seq (.reg [mv 89 0,mv 90 0,(none,.nilc 91 (S 90)),fa 92 91 3,ld 93 92,mv 94 3,(none,.slc 95 1 (S 93) none (some (S 94)) none),(none,.cut 95),(none,.nilc 96 (S 89)),fa 97 96 3,(none,.store (S 97) (S 95) 1)]) (.drw [(some [],mv 98 0),(some [],(none,.nilc 99 (S 98))),(some [],fa 100 99 2),(some [],ld 101 100),(some [],mv 102 4),(some [],(none,.iaddr 103 (S 101) (S 102) 1)),(some [],ld 104 103),(some [],mv 105 3),(some [],(none,.bin 106 .shl (.c (.v (.sc (.dat (.int .u64 1))))) (S 105))),(some [],bn 107 .andNot 104 106),(some [],(none,.iaddr 108 (S 101) (S 102) 1)),(none,(none,.store (S 108) (S 107) 1))]))))) .skip)) cc415)
def cc417 : ACode := (.reg [mv 32 4,(none,.bin 33 .add (S 32) (K 1)),mv 4 33])
def cc418 : ACode := .seq (.reg [(none,.keep [0,3,4] [1099511627776] [32000000000,32000000001])]) (.seq (.seq (.reg [mv 17 4,mv 18 0,(none,.nilc 19 (S 18)),fa 20 19 2,ld 21 20,(none,.len 22 (S 21)),bn 23 .leq 17 22,mv 24 23,(some (24,true),.mv 25 (S 4)),(some (24,true),.mv 26 (S 0)),(some (24,true),.nilc 27 (S 26)),(some (24,true),.faddr 28 (S 27) 1),(some (24,true),.load 29 (S 28) false 1),(some (24,true),.bin 30 .lss (S 25) (S 29)),(none,.pick 31 (S 24) (S 30) (KB false))]) (.cond (S 31) .skip (.exit 0))) (.seq (.block 1 (.seq (.seq (.reg [mv 34 4,mv 35 0,(none,.nilc 36 (S 35)),fa 37 36 2,ld 38 37,(none,.len 39 (S 38)),bn 40 .eql 34 39]) (.cond (S 40) (.reg [mv 41 0,mv 42 0,(none,.nilc 43 (S 42)),fa 44 43 2,ld 45 44,(none,.bslice 46 1 [.int .u64 0] 1 [(0,(.c (.v (.sc (.dat (.int .u64 0))))))]),(none,.app 47 1 8 (S 45) (S 46)),(none,.nilc 48 (S 41)),fa 49 48 2,(none,.store (S 49) (S 47) 1)]) .skip)) cc416)) cc417))
def cc419 : ACode := (.seq (.reg [(none,.mv 2 (KB false))]) .ret)
def cc420 : ACode := (.seq (.reg [(none,.mv 2 (KB false))]) (.seq (.reg [mv 5 0,(none,.nilc 6 (S 5)),fa 7 6 3,ld 8 7,(none,.len 9 (S 8)),mv 3 9]) (.seq (.seq (.reg [mv 10 3,mv 11 0,(none,.nilc 12 (S 11)),fa 13 12 0,ld 14 13,(none,.len 15 (S 14)),bn 16 .eql 10 15]) (.cond (S 16) (.seq (.reg [(none,.mv 2 (KB true))]) .ret) .skip)) (.seq (.seq (.reg [(none,.mv 4 (K 0))]) (.block 0 (.loop cc418))) cc419))))
theorem ww421 (rec_ : Xcoverer → Option (Bool × Xcoverer)) (h_rec : ∀ (a0 : Xcoverer) zr,rec_ a0 = some zr → FCz Tryz.prog 119 [.p] [.d (.sl (List.map rU a0.sets)),.d (.int .i64 a0.most),.r 0,.r 1] [(1,List.map rU a0.groups),(1,List.map rI a0.who)] [.d (.sl (List.map rU zr.2.sets)),.d (.int .i64 zr.2.most),.r 0,.r 1] [(1,List.map rU zr.2.groups),(1,List.map rI zr.2.who)] [.sc (.v (.bool zr.1))]) (a0 : Xcoverer) (v2 : Int) (k_impl_coverer_cover_1 : Int → (List Int) → Int → (List Int) → (List Int) → Option (Bool × Xcoverer)) (hk_impl_coverer_cover_1 : ∀ (v2 : Int) (v3 : List Int) (v4 : Int) (v5 : List Int) (v6 : List Int) zr,k_impl_coverer_cover_1 v2 v3 v4 v5 v6 = some zr → ∀ σ : St,σ.kept [0,3,4] [1099511627776] [32000000000,32000000001] = ⟨[(0,vc (.pb 1099511627776 0)),(3,vc (aI (a0.who.length : Int))),(4,vc (aI v2))],[(1099511627776,[aL (List.map rU v3),aI v4,.own 32000000000,.own 32000000001])],[(32000000000,1,List.map rU v5),(32000000001,1,List.map rI v6)]⟩ → go Tryz.prog (.code (.loop cc418) :: [.blk 0,.code cc419]) (RetZ [2] [.sc (.v (.bool zr.1))] [.d (.sl (List.map rU zr.2.sets)),.d (.int .i64 zr.2.most),.r 0,.r 1] [(1,List.map rU zr.2.groups),(1,List.map rI zr.2.who)]) .normal (some σ)) (v22 : List Int) (v23 : Int) (v24 : List Int) (v25 : List Int) (r : Bool × Xcoverer) (h : f_impl_coverer_cover_3 rec_ a0 v2 k_impl_coverer_cover_1 v22 v23 v24 v25 = some r) (σ : St) (hσ : σ.kept [0,3,4] [1099511627776] [32000000000,32000000001] = ⟨[(0,vc (.pb 1099511627776 0)),(3,vc (aI (a0.who.length : Int))),(4,vc (aI v2))],[(1099511627776,[aL (List.map rU v22),aI v23,.own 32000000000,.own 32000000001])],[(32000000000,1,List.map rU v24),(32000000001,1,List.map rI v25)]⟩) : go Tryz.prog (.code cc415 :: [.blk 1,.code cc417,.code (.loop cc418),.blk 0,.code cc419]) (RetZ [2] [.sc (.v (.bool r.1))] [.d (.sl (List.map rU r.2.sets)),.d (.int .i64 r.2.most),.r 0,.r 1] [(1,List.map rU r.2.groups),(1,List.map rI r.2.who)]) .normal (some σ) := by
 unfold f_impl_coverer_cover_3 at h
 obtain ⟨x26,hx26,h⟩ := ob h
 have hx26n := ix_get hx26
 rcases Bool.eq_false_or_eq_true (x26 == (0 : Int)) with hb27 | hb27
 ·rw [ite_t hb27] at h
  obtain ⟨p28,hp28,h⟩ := ob h
  try simp only [hσ,hx26,hx26n,hb27,cc415,Nat.reduceBEq,reduceMul,reduceAdd,reduceDiv,Int.reduceBEq,RR]
  refine go_slcut rfl rfl hp28 (by rfl) ?_
  try simp only [hx26,hx26n,hb27,cc419,Nat.reduceBEq,reduceMul,reduceAdd,reduceDiv,Int.reduceBEq,RR]
  cases h
  exact ⟨⟨rfl,trivial⟩,[32000000000,32000000001],by decide,by decide,rfl,rfl⟩
 ·rw [ite_f hb27] at h
  try simp only [hσ,hx26,hx26n,hb27,cc415,cc417,Nat.reduceBEq,reduceMul,reduceAdd,reduceDiv,Int.reduceBEq,RR]
  refine hk_impl_coverer_cover_1 _ _ _ _ _ _ h _ ?_
  try simp only [hx26,hx26n,hb27,Nat.reduceBEq,reduceMul,reduceAdd,reduceDiv,Int.reduceBEq,RR,List.map_nil]
theorem ww422 (rec_ : Xcoverer → Option (Bool × Xcoverer)) (h_rec : ∀ (a0 : Xcoverer) zr,rec_ a0 = some zr → FCz Tryz.prog 119 [.p] [.d (.sl (List.map rU a0.sets)),.d (.int .i64 a0.most),.r 0,.r 1] [(1,List.map rU a0.groups),(1,List.map rI a0.who)] [.d (.sl (List.map rU zr.2.sets)),.d (.int .i64 zr.2.most),.r 0,.r 1] [(1,List.map rU zr.2.groups),(1,List.map rI zr.2.who)] [.sc (.v (.bool zr.1))]) (a0 : Xcoverer) (v2 : Int) (v3 : List Int) (v4 : Int) (v6 : List Int) (k_impl_coverer_cover_1 : Int → (List Int) → Int → (List Int) → (List Int) → Option (Bool × Xcoverer)) (hk_impl_coverer_cover_1 : ∀ (v2 : Int) (v3 : List Int) (v4 : Int) (v5 : List Int) (v6 : List Int) zr,k_impl_coverer_cover_1 v2 v3 v4 v5 v6 = some zr → ∀ σ : St,σ.kept [0,3,4] [1099511627776] [32000000000,32000000001] = ⟨[(0,vc (.pb 1099511627776 0)),(3,vc (aI (a0.who.length : Int))),(4,vc (aI v2))],[(1099511627776,[aL (List.map rU v3),aI v4,.own 32000000000,.own 32000000001])],[(32000000000,1,List.map rU v5),(32000000001,1,List.map rI v6)]⟩ → go Tryz.prog (.code (.loop cc418) :: [.blk 0,.code cc419]) (RetZ [2] [.sc (.v (.bool zr.1))] [.d (.sl (List.map rU zr.2.sets)),.d (.int .i64 zr.2.most),.r 0,.r 1] [(1,List.map rU zr.2.groups),(1,List.map rI zr.2.who)]) .normal (some σ)) (v11 : List Int) (r : Bool × Xcoverer) (h : f_impl_coverer_cover_2 rec_ a0 v2 v3 v4 v6 k_impl_coverer_cover_1 v11 = some r) (σ : St) (hσ : σ.kept [0,3,4] [1099511627776] [32000000000,32000000001] = ⟨[(0,vc (.pb 1099511627776 0)),(3,vc (aI (a0.who.length : Int))),(4,vc (aI v2))],[(1099511627776,[aL (List.map rU v3),aI v4,.own 32000000000,.own 32000000001])],[(32000000000,1,List.map rU v11),(32000000001,1,List.map rI v6)]⟩) : go Tryz.prog (.code cc416 :: [.blk 1,.code cc417,.code (.loop cc418),.blk 0,.code cc419]) (RetZ [2] [.sc (.v (.bool r.1))] [.d (.sl (List.map rU r.2.sets)),.d (.int .i64 r.2.most),.r 0,.r 1] [(1,List.map rU r.2.groups),(1,List.map rI r.2.who)]) .normal (some σ) := by
 unfold f_impl_coverer_cover_2 at h
 try simp only [hσ,cc416,Nat.reduceBEq,reduceMul,reduceAdd,reduceDiv,Int.reduceBEq,RR]
 refine go_fr_of rfl ?_
 obtain ⟨x12,hx12,h⟩ := ob h
 have hx12n := ix_get hx12
 obtain ⟨x13,hx13,h⟩ := ob h
 rcases Bool.eq_false_or_eq_true ((bitsV .andNot .u64 x12 x13) == (0 : Int)) with hb14 | hb14
 ·rw [ite_t hb14] at h
  try simp only [hx12,hx12n,hx13,hb14,Nat.reduceBEq,reduceMul,reduceAdd,reduceDiv,Int.reduceBEq,RR]
  refine go_fr_of rfl ?_
  obtain ⟨hg15,h⟩ := of_guardn h
  try simp only [hx12,hx12n,hx13,hb14,hg15,Nat.reduceBEq,reduceMul,reduceAdd,reduceDiv,Int.reduceBEq,RR]
  refine go_stp (y := (bitsV .or .u64 x12 (shlV .u64 (1 : Int) (a0.who.length : Int)))) rfl rfl hx12n rfl rfl rfl ?_
  try simp only [hx12,hx12n,hx13,hb14,hg15,Nat.reduceBEq,reduceMul,reduceAdd,reduceDiv,Int.reduceBEq,RR]
  refine go_fr_of rfl ?_
  try simp only [hx12,hx12n,hx13,hb14,hg15,Nat.reduceBEq,reduceMul,reduceAdd,reduceDiv,Int.reduceBEq,RR]
  refine go_bsl (es := List.map rI ([v2] : List Int)) rfl rfl ?_
  obtain ⟨hg16,h⟩ := of_guard h
  obtain ⟨r17,hr17,h⟩ := ob h
  try simp only [hx12,hx12n,hx13,hb14,hg15,hg16,Nat.reduceBEq,reduceMul,reduceAdd,reduceDiv,Int.reduceBEq,RR]
  refine go_callz (h_rec _ _ hr17) 1099511627776 [32000000000,32000000001] rfl rfl rfl rfl (by decide) rfl rfl rfl ?_
  rcases Bool.eq_false_or_eq_true r17.1 with hb18 | hb18
  ·rw [ite_t hb18] at h
   try simp only [hx12,hx12n,hx13,hb14,hg15,hg16,hb18,Nat.reduceBEq,reduceMul,reduceAdd,reduceDiv,Int.reduceBEq,RR]
   cases h
   exact ⟨⟨rfl,trivial⟩,[32000000000,32000000001],by decide,by decide,rfl,rfl⟩
  ·rw [ite_f hb18] at h
   obtain ⟨p19,hp19,h⟩ := ob h
   try simp only [hx12,hx12n,hx13,hb14,hg15,hg16,hb18,Nat.reduceBEq,reduceMul,reduceAdd,reduceDiv,Int.reduceBEq,RR]
   refine go_slcut rfl rfl hp19 (by rfl) ?_
   try simp only [hx12,hx12n,hx13,hb14,hg15,hg16,hb18,Nat.reduceBEq,reduceMul,reduceAdd,reduceDiv,Int.reduceBEq,RR]
   refine go_fr_of rfl ?_
   obtain ⟨x20,hx20,h⟩ := ob h
   have hx20n := ix_get hx20
   obtain ⟨hg21,h⟩ := of_guardn h
   try simp only [hx12,hx12n,hx13,hb14,hg15,hg16,hb18,hx20,hx20n,hg21,Nat.reduceBEq,reduceMul,reduceAdd,reduceDiv,Int.reduceBEq,RR]
   refine go_stp (y := (bitsV .andNot .u64 x20 (shlV .u64 (1 : Int) (a0.who.length : Int)))) rfl rfl hx20n rfl rfl rfl ?_
   try simp only [hx12,hx12n,hx13,hb14,hg15,hg16,hb18,hx20,hx20n,hg21,Nat.reduceBEq,reduceMul,reduceAdd,reduceDiv,Int.reduceBEq,RR]
   refine go_fr_of rfl ?_
   try simp only [hx12,hx12n,hx13,hb14,hg15,hg16,hb18,hx20,hx20n,hg21,Nat.reduceBEq,reduceMul,reduceAdd,reduceDiv,Int.reduceBEq,RR]
   refine ww421 rec_ h_rec _ _ k_impl_coverer_cover_1 hk_impl_coverer_cover_1 _ _ _ _ _ h _ ?_
   try simp only [hx12,hx12n,hx13,hb14,hg15,hg16,hb18,hx20,hx20n,hg21,Nat.reduceBEq,reduceMul,reduceAdd,reduceDiv,Int.reduceBEq,RR,List.map_nil]
 ·rw [ite_f hb14] at h
  try simp only [hx12,hx12n,hx13,hb14,Nat.reduceBEq,reduceMul,reduceAdd,reduceDiv,Int.reduceBEq,RR]
  refine ww421 rec_ h_rec _ _ k_impl_coverer_cover_1 hk_impl_coverer_cover_1 _ _ _ _ _ h _ ?_
  try simp only [hx12,hx12n,hx13,hb14,Nat.reduceBEq,reduceMul,reduceAdd,reduceDiv,Int.reduceBEq,RR,List.map_nil]
theorem ww423 (rec_ : Xcoverer → Option (Bool × Xcoverer)) (h_rec : ∀ (a0 : Xcoverer) zr,rec_ a0 = some zr → FCz Tryz.prog 119 [.p] [.d (.sl (List.map rU a0.sets)),.d (.int .i64 a0.most),.r 0,.r 1] [(1,List.map rU a0.groups),(1,List.map rI a0.who)] [.d (.sl (List.map rU zr.2.sets)),.d (.int .i64 zr.2.most),.r 0,.r 1] [(1,List.map rU zr.2.groups),(1,List.map rI zr.2.who)] [.sc (.v (.bool zr.1))]) (a0 : Xcoverer) : ∀ (n : Nat) (v2 : Int) (v3 : List Int) (v4 : Int) (v5 : List Int) (v6 : List Int) (r : Bool × Xcoverer),f_impl_coverer_cover_1 rec_ a0 n v2 v3 v4 v5 v6 = some r → ∀ σ : St,σ.kept [0,3,4] [1099511627776] [32000000000,32000000001] = ⟨[(0,vc (.pb 1099511627776 0)),(3,vc (aI (a0.who.length : Int))),(4,vc (aI v2))],[(1099511627776,[aL (List.map rU v3),aI v4,.own 32000000000,.own 32000000001])],[(32000000000,1,List.map rU v5),(32000000001,1,List.map rI v6)]⟩ → go Tryz.prog (.code (.loop cc418) :: [.blk 0,.code cc419]) (RetZ [2] [.sc (.v (.bool r.1))] [.d (.sl (List.map rU r.2.sets)),.d (.int .i64 r.2.most),.r 0,.r 1] [(1,List.map rU r.2.groups),(1,List.map rI r.2.who)]) .normal (some σ) := by
 intro n
 induction n with
 | zero => intro _ _ _ _ _ r h; cases h
 | succ n ih =>
  intro v2 v3 v4 v5 v6 r h σ hσ
  rw [f_impl_coverer_cover_1] at h
  refine go_round ?_
  rcases Bool.eq_false_or_eq_true (decide (v2 ≤ (v5.length : Int))) with hb7 | hb7
  ·rw [ite_t hb7] at h
   rcases Bool.eq_false_or_eq_true (decide (v2 < v4)) with hb8 | hb8
   ·rw [ite_t hb8] at h
    rcases Bool.eq_false_or_eq_true (v2 == (v5.length : Int)) with hb9 | hb9
    ·rw [ite_t hb9] at h
     try simp only [hσ,hb7,hb8,hb9,cc418,Nat.reduceBEq,reduceMul,reduceAdd,reduceDiv,Int.reduceBEq,RR]
     refine go_bsl (es := List.map rU ([(0 : Int)] : List Int)) rfl rfl ?_
     obtain ⟨hg10,h⟩ := of_guard h
     try simp only [hb7,hb8,hb9,hg10,Nat.reduceBEq,reduceMul,reduceAdd,reduceDiv,Int.reduceBEq,RR]
     refine ww422 rec_ h_rec _ _ _ _ _ (f_impl_coverer_cover_1 rec_ a0 n) ih _ _ h _ ?_
     try simp only [hb7,hb8,hb9,hg10,Nat.reduceBEq,reduceMul,reduceAdd,reduceDiv,Int.reduceBEq,RR,List.map_nil]
    ·rw [ite_f hb9] at h
     try simp only [hσ,hb7,hb8,hb9,cc418,Nat.reduceBEq,reduceMul,reduceAdd,reduceDiv,Int.reduceBEq,RR]
     refine ww422 rec_ h_rec _ _ _ _ _ (f_impl_coverer_cover_1 rec_ a0 n) ih _ _ h _ ?_
     try simp only [hb7,hb8,hb9,Nat.reduceBEq,reduceMul,reduceAdd,reduceDiv,Int.reduceBEq,RR,List.map_nil]
   ·rw [ite_f hb8] at h
    try simp only [hσ,hb7,hb8,cc418,cc419,Nat.reduceBEq,reduceMul,reduceAdd,reduceDiv,Int.reduceBEq,RR]
    cases h
    exact ⟨⟨rfl,trivial⟩,[32000000000,32000000001],by decide,by decide,rfl,rfl⟩
  ·rw [ite_f hb7] at h
   try simp only [hσ,hb7,cc418,cc419,Nat.reduceBEq,reduceMul,reduceAdd,reduceDiv,Int.reduceBEq,RR]
   cases h
   exact ⟨⟨rfl,trivial⟩,[32000000000,32000000001],by decide,by decide,rfl,rfl⟩
theorem ee424 : entry Tryz.prog 119 = some (cc420.strip,[2],126) := by kernel_rfl
theorem w_impl_coverer_cover_b (rec_ : Xcoverer → Option (Bool × Xcoverer)) (a0 : Xcoverer) (r : Bool × Xcoverer) (h_rec : ∀ (a0 : Xcoverer) zr,rec_ a0 = some zr → FCz Tryz.prog 119 [.p] [.d (.sl (List.map rU a0.sets)),.d (.int .i64 a0.most),.r 0,.r 1] [(1,List.map rU a0.groups),(1,List.map rI a0.who)] [.d (.sl (List.map rU zr.2.sets)),.d (.int .i64 zr.2.most),.r 0,.r 1] [(1,List.map rU zr.2.groups),(1,List.map rI zr.2.who)] [.sc (.v (.bool zr.1))]) (h : f_impl_coverer_cover_b rec_ a0 = some r) : FCz Tryz.prog 119 [.p] [.d (.sl (List.map rU a0.sets)),.d (.int .i64 a0.most),.r 0,.r 1] [(1,List.map rU a0.groups),(1,List.map rI a0.who)] [.d (.sl (List.map rU r.2.sets)),.d (.int .i64 r.2.most),.r 0,.r 1] [(1,List.map rU r.2.groups),(1,List.map rI r.2.who)] [.sc (.v (.bool r.1))] := by
 unfold f_impl_coverer_cover_b at h
 refine FCz_go (σ := ⟨[(0,vc (.pb 1099511627776 0))],[(1099511627776,[aL (List.map rU a0.sets),aI a0.most,.own 32000000000,.own 32000000001])],[(32000000000,1,List.map rU a0.groups),(32000000001,1,List.map rI a0.who)]⟩) mixed ee424 rfl rfl rfl rfl ?_
 simp only [cc420]
 rcases Bool.eq_false_or_eq_true ((a0.who.length : Int) == (a0.sets.length : Int)) with hb1 | hb1
 ·rw [ite_t hb1] at h
  try simp only [hb1,Nat.reduceBEq,reduceMul,reduceAdd,reduceDiv,Int.reduceBEq,RR]
  cases h
  exact ⟨⟨rfl,trivial⟩,[32000000000,32000000001],by decide,by decide,rfl,rfl⟩
 ·rw [ite_f hb1] at h
  try simp only [hb1,Nat.reduceBEq,reduceMul,reduceAdd,reduceDiv,Int.reduceBEq,RR]
  refine ww423 rec_ h_rec _ _ _ _ _ _ _ _ h _ ?_
  try simp only [hb1,Nat.reduceBEq,reduceMul,reduceAdd,reduceDiv,Int.reduceBEq,RR,List.map_nil]
theorem w_impl_coverer_cover_r : ∀ (n : Nat) (a0 : Xcoverer) (r : Bool × Xcoverer),f_impl_coverer_cover_r n a0 = some r → FCz Tryz.prog 119 [.p] [.d (.sl (List.map rU a0.sets)),.d (.int .i64 a0.most),.r 0,.r 1] [(1,List.map rU a0.groups),(1,List.map rI a0.who)] [.d (.sl (List.map rU r.2.sets)),.d (.int .i64 r.2.most),.r 0,.r 1] [(1,List.map rU r.2.groups),(1,List.map rI r.2.who)] [.sc (.v (.bool r.1))] := by
 intro n
 induction n with
 | zero => intro _ r h; cases h
 | succ n ih => intro a0 r h; rw [f_impl_coverer_cover_r] at h; exact w_impl_coverer_cover_b (f_impl_coverer_cover_r n) a0 r ih h
theorem w_impl_coverer_cover (a0 : Xcoverer) (r : Bool × Xcoverer) (h : f_impl_coverer_cover a0 = some r) : FCz Tryz.prog 119 [.p] [.d (.sl (List.map rU a0.sets)),.d (.int .i64 a0.most),.r 0,.r 1] [(1,List.map rU a0.groups),(1,List.map rI a0.who)] [.d (.sl (List.map rU r.2.sets)),.d (.int .i64 r.2.most),.r 0,.r 1] [(1,List.map rU r.2.groups),(1,List.map rI r.2.who)] [.sc (.v (.bool r.1))] := w_impl_coverer_cover_r bigN a0 r h
/- 70: impl_LeastCover -/
def cc425 : ACode := (.seq (.reg [(none,.mv 6 KN),(none,.mv 7 (K 0)),(none,.mv 8 (KB false))]) (.seq (.seq (.reg [mv 11 0,mv 12 1,mv 13 2,(none,.call 14 116 [(S 11),(S 12),(S 13)]),(none,.un 15 .not (S 14))]) (.cond (S 15) (.seq (.reg [(none,.mv 6 KN),(none,.mv 7 (K 0)),(none,.mv 8 (KB false))]) .ret) .skip)) (.seq (.reg [mv 16 0,mv 17 1,mv 18 2,(none,.call 19 117 [(S 16),(S 17),(S 18)]),mv 9 19]) (.seq (.reg [mv 20 9,mv 21 9,(none,.call 22 118 [(S 21)]),(none,.build 23 [.nil,aI 0,.nil,.nil] [(0,1,(S 20)),(1,1,(S 22))]),(none,.box 24 (S 23)),(none,.ownb 24 2 152704 1),(none,.ownb 24 3 152768 1),mv 10 24]) (.seq (.reg [mv 25 10,(none,.frz 1216),(none,.call 26 119 [(S 25)])]) (.seq (.drw [(some [],mv 27 10),(some [],(none,.nilc 28 (S 27))),(some [],fa 29 28 3),(some [],ld 30 29),(some [],mv 31 10),(some [],(none,.nilc 32 (S 31))),(some [],fa 33 32 1),(some [],ld 34 33),(some [],mv 6 30),(some [],mv 7 34),(some [],(none,.mv 8 (KB true)))]) .ret))))))
theorem ee426 : entry Tryz.prog 70 = some (cc425.strip,[6,7,8],35) := by kernel_rfl
theorem w_impl_LeastCover (a0 : Int) (a1 : List Int) (a2 : List XDuty) (r : (List Int) × Int × Bool) (h : f_impl_LeastCover a0 a1 a2 = some r) : FC Tryz.prog 70 [.sc (.int .i64 a0),.sc (.sl (List.map rI a1)),.sc (.sl (List.map XDuty.row a2))] [.sc (.o 1 (List.map rI r.1)),.sc (.v (.int .i64 r.2.1)),.sc (.v (.bool r.2.2))] := by
 unfold f_impl_LeastCover at h
 refine FC_go (σ := ⟨[(0,vc (aI a0)),(1,vc (aL (List.map rI a1))),(2,vc (aL (List.map XDuty.row a2)))],[],[]⟩) mixed ee426 rfl rfl ?_
 simp only [cc425]
 obtain ⟨r1,hr1,h⟩ := ob h
 try simp only [Nat.reduceBEq,reduceMul,reduceAdd,reduceDiv,Int.reduceBEq,RR]
 refine go_callI (w_impl_coverable _ _ _ _ hr1) rfl rfl (Nat.le_of_ble_eq_true rfl) ?_
 rcases Bool.eq_false_or_eq_true r1 with hb2 | hb2
 ·rw [ite_t hb2] at h
  obtain ⟨r3,hr3,h⟩ := ob h
  try simp only [hb2,Nat.reduceBEq,reduceMul,reduceAdd,reduceDiv,Int.reduceBEq,RR]
  refine go_callI (w_impl_partners _ _ _ _ hr3) rfl rfl (Nat.le_of_ble_eq_true rfl) ?_
  obtain ⟨r4,hr4,h⟩ := ob h
  try simp only [hb2,Nat.reduceBEq,reduceMul,reduceAdd,reduceDiv,Int.reduceBEq,RR]
  refine go_call (w_impl_leastPersons _ _ hr4) rfl (flat_of rfl) rfl (Nat.le_of_ble_eq_true rfl) ?_
  try simp only [hb2,Nat.reduceBEq,reduceMul,reduceAdd,reduceDiv,Int.reduceBEq,RR]
  refine go_bx rfl rfl rfl ?_
  try simp only [hb2,Nat.reduceBEq,reduceMul,reduceAdd,reduceDiv,Int.reduceBEq,RR]
  refine go_ownb' (cs' := [.own 1216,aI r4,.own 152704,.nil]) rfl rfl rfl rfl ?_
  try simp only [hb2,Nat.reduceBEq,reduceMul,reduceAdd,reduceDiv,Int.reduceBEq,RR]
  refine go_ownb' (cs' := [.own 1216,aI r4,.own 152704,.own 152768]) rfl rfl rfl rfl ?_
  try simp only [hb2,Nat.reduceBEq,reduceMul,reduceAdd,reduceDiv,Int.reduceBEq,RR]
  refine go_frz' rfl ?_
  obtain ⟨r5,hr5,h⟩ := ob h
  try simp only [hb2,Nat.reduceBEq,reduceMul,reduceAdd,reduceDiv,Int.reduceBEq,RR]
  refine go_callz (w_impl_coverer_cover _ _ hr5) 24 [152704,152768] rfl rfl rfl rfl (by decide) rfl rfl rfl ?_
  try simp only [hb2,Nat.reduceBEq,reduceMul,reduceAdd,reduceDiv,Int.reduceBEq,RR]
  refine go_fr_of rfl ?_
  try simp only [hb2,Nat.reduceBEq,reduceMul,reduceAdd,reduceDiv,Int.reduceBEq,RR]
  cases h
  exact ⟨⟨rfl,rfl,rfl,trivial⟩,rfl⟩
 ·rw [ite_f hb2] at h
  try simp only [hb2,Nat.reduceBEq,reduceMul,reduceAdd,reduceDiv,Int.reduceBEq,RR]
  cases h
  exact ⟨⟨rfl,rfl,rfl,trivial⟩,rfl⟩
/- 31: impl_TugsNeeded -/
def cc427 : ACode := (.seq (.reg [(none,.box 4 (S 0)),(none,.box 5 (S 1)),(none,.mv 8 (K 0))]) (.seq (.reg [(none,.load 15 (S 5) true 2),mv 16 2,mv 17 3,(none,.call 18 69 [(S 15),(S 16),(S 17)]),mv 14 18,(none,.extr 19 (S 14) 0),(none,.extr 20 (S 14) 1),mv 9 19,mv 10 20]) (.seq (.seq (.reg [mv 21 10,(none,.un 22 .not (S 21)),mv 23 22,(some (23,false),.load 24 (S 4) true 4),(some (23,false),.call 25 65 [(S 24)]),(some (23,false),.un 26 .not (S 25)),(none,.pick 27 (S 23) (KB true) (S 26))]) (.cond (S 27) (.seq (.reg [(none,.mv 8 (K (-1)))]) .ret) .skip)) (.seq (.reg [fa 29 4 3,ld 30 29,mv 31 9,(none,.call 32 70 [(K 0),(S 30),(S 31)]),mv 28 32,(none,.extr 33 (S 28) 0),(none,.extr 34 (S 28) 1),(none,.extr 35 (S 28) 2),mv 11 33,mv 12 34,mv 13 35]) (.seq (.reg [mv 36 12,mv 8 36]) .ret)))))
theorem ee428 : entry Tryz.prog 31 = some (cc427.strip,[8],37) := by kernel_rfl
theorem w_impl_TugsNeeded (a0 : XCrew) (a1 : XChart) (a2 : List XShip) (a3 : List XPassage) (r : Int) (h : f_impl_TugsNeeded a0 a1 a2 a3 = some r) : FC Tryz.prog 31 [.ag (XCrew.row a0),.ag (XChart.row a1),.sc (.sl (List.map XShip.row a2)),.sc (.sl (List.map XPassage.row a3))] [.sc (.v (.int .i64 r))] := by
 unfold f_impl_TugsNeeded at h
 refine FC_go (σ := ⟨[(0,va [aI a0.Tugs,aI a0.Pilots,aI a0.Rest,aL (List.map rI a0.Moves)]),(1,va [aL (List.map XPoint.row a1.Points),aL (List.map XSegment.row a1.Segments)]),(2,vc (aL (List.map XShip.row a2))),(3,vc (aL (List.map XPassage.row a3)))],[],[]⟩) mixed ee428 rfl rfl ?_
 simp only [cc427]
 try simp only [Nat.reduceBEq,reduceMul,reduceAdd,reduceDiv,Int.reduceBEq,RR]
 refine go_bx rfl rfl rfl ?_
 try simp only [Nat.reduceBEq,reduceMul,reduceAdd,reduceDiv,Int.reduceBEq,RR]
 refine go_bx rfl rfl rfl ?_
 obtain ⟨r1,hr1,h⟩ := ob h
 try simp only [Nat.reduceBEq,reduceMul,reduceAdd,reduceDiv,Int.reduceBEq,RR]
 refine go_callI (w_impl_tugDuties _ _ _ _ hr1) rfl rfl (Nat.le_of_ble_eq_true rfl) ?_
 rcases Bool.eq_false_or_eq_true r1.2 with hb2 | hb2
 ·rw [ite_t hb2] at h
  obtain ⟨r3,hr3,h⟩ := ob h
  try simp only [hb2,Nat.reduceBEq,reduceMul,reduceAdd,reduceDiv,Int.reduceBEq,RR]
  refine go_callI (w_impl_CrewOk _ _ hr3) rfl rfl (Nat.le_of_ble_eq_true rfl) ?_
  rcases Bool.eq_false_or_eq_true r3 with hb4 | hb4
  ·rw [ite_t hb4] at h
   obtain ⟨r5,hr5,h⟩ := ob h
   try simp only [hb2,hb4,Nat.reduceBEq,reduceMul,reduceAdd,reduceDiv,Int.reduceBEq,RR]
   refine go_call (w_impl_LeastCover _ _ _ _ hr5) rfl (flat_l rfl ⟨flat_o,rfl,rfl,trivial⟩) rfl (Nat.le_of_ble_eq_true rfl) ?_
   try simp only [hb2,hb4,Nat.reduceBEq,reduceMul,reduceAdd,reduceDiv,Int.reduceBEq,RR]
   cases h
   exact ⟨⟨rfl,trivial⟩,rfl⟩
  ·rw [ite_f hb4] at h
   try simp only [hb2,hb4,Nat.reduceBEq,reduceMul,reduceAdd,reduceDiv,Int.reduceBEq,RR]
   cases h
   exact ⟨⟨rfl,trivial⟩,rfl⟩
 ·rw [ite_f hb2] at h
  try simp only [hb2,Nat.reduceBEq,reduceMul,reduceAdd,reduceDiv,Int.reduceBEq,RR]
  cases h
  exact ⟨⟨rfl,trivial⟩,rfl⟩
/- 120: impl_IsChain -/
def cc429 : ACode := .seq (.reg [(none,.keep [1,2,14,15,16] [2] [])]) (.seq (.reg [bn 17 .lss 16 15]) (.seq (.cond (S 17) .skip (.exit 0)) (.seq (.block 1 (.seq (.reg [mv 18 16,(none,.iaddr 19 (S 14) (S 16) 5),(none,.load 20 (S 19) true 5),(none,.alloc 6 [aI 0,aI 0,aB false,aI 0,aI 0]),mv 5 18,(none,.store (S 6) (S 20) 5)]) (.seq (.seq (.drw [(some [],fa 21 6 0),(some [],ld 22 21),(some [],mv 23 1),(some [],(none,.iaddr 24 (S 23) (K 0) 5)),(some [],fa 25 24 0),(some [],ld 26 25),(some [],bn 27 .neq 22 26),(some [],mv 28 27),(some [],(some (28,false),.faddr 29 (S 6) 1)),(some [],(some (28,false),.load 30 (S 29) false 1)),(some [],(some (28,false),.faddr 31 (S 2) 1)),(some [],(some (28,false),.load 32 (S 31) false 1)),(some [],(some (28,false),.len 33 (S 32))),(some [],(some (28,false),.call 34 106 [(S 30),(S 33)])),(some [],(some (28,false),.un 35 .not (S 34))),(some [],(none,.pick 36 (S 28) (KB true) (S 35)))]) (.cond (S 36) (.seq (.reg [(none,.mv 4 (KB false))]) .ret) .skip)) (.seq (.seq (.reg [mv 37 5,(none,.bin 38 .eql (S 37) (K 0))]) (.cond (S 38) (.exit 1) .skip)) (.seq (.drw [(some [],mv 40 1),(some [],mv 41 5),(some [],(none,.bin 42 .sub (S 41) (K 1))),(some [],(none,.iaddr 43 (S 40) (S 42) 5)),(some [],(none,.load 44 (S 43) true 5)),(some [],(none,.load 45 (S 2) true 2)),(some [],(none,.call 46 137 [(S 44),(S 45)])),(some [],mv 39 46),(some [],(none,.extr 47 (S 39) 0)),(some [],(none,.extr 48 (S 39) 1)),(some [],mv 7 47),(some [],mv 8 48)]) (.seq (.reg [(none,.load 50 (S 6) true 5),(none,.load 51 (S 2) true 2),(none,.call 52 137 [(S 50),(S 51)]),mv 49 52,(none,.extr 53 (S 49) 0),(none,.extr 54 (S 49) 1),mv 9 53,mv 10 54]) (.seq (.drw [(some [],mv 55 9),(some [],mv 56 8),(some [],bn 57 .neq 55 56),(some [],mv 58 57),(some [],(some (58,false),.faddr 59 (S 6) 3)),(some [],(some (58,false),.load 60 (S 59) false 1)),(some [],(some (58,false),.mv 61 (S 1))),(some [],(some (58,false),.mv 62 (S 5))),(some [],(some (58,false),.bin 63 .sub (S 62) (K 1))),(some [],(some (58,false),.iaddr 64 (S 61) (S 63) 5)),(some [],(some (58,false),.faddr 65 (S 64) 4)),(some [],(some (58,false),.load 66 (S 65) false 1)),(some [],(some (58,false),.bin 67 .lss (S 60) (S 66))),(some [],(none,.pick 68 (S 58) (KB true) (S 67)))]) (.cond (S 68) (.seq (.reg [(none,.mv 4 (KB false))]) .ret) .skip)))))))) (.reg [(none,.bin 69 .add (S 16) (K 1)),mv 16 69]))))
def cc430 : ACode := (.seq (.reg [(none,.mv 4 (KB true))]) .ret)
def cc431 : ACode := (.seq (.reg [(none,.box 2 (S 0)),(none,.mv 4 (KB false))]) (.seq (.seq (.reg [(none,.load 11 (S 2) true 2),(none,.call 12 62 [(S 11)]),(none,.un 13 .not (S 12))]) (.cond (S 13) (.seq (.reg [(none,.mv 4 (KB false))]) .ret) .skip)) (.seq (.seq (.reg [mv 14 1,(none,.len 15 (S 14)),(none,.mv 16 (K 0))]) (.block 0 (.loop cc429))) cc430)))
theorem ww432 (a1 : List XPassage) (a0 : XChart) : ∀ (n : Nat) (v3 : Int) (r : Bool),f_impl_IsChain_1 a1 a0 n v3 = some r → ∀ σ : St,σ.kept [1,2,14,15,16] [2] [] = ⟨[(1,vc (aL (List.map XPassage.row a1))),(2,vc (.pb 2 0)),(14,vc (aL (List.map XPassage.row a1))),(15,vc (aI (a1.length : Int))),(16,vc (aI v3))],[(2,[aL (List.map XPoint.row a0.Points),aL (List.map XSegment.row a0.Segments)])],[]⟩ → go Tryz.prog (.code (.loop cc429) :: [.blk 0,.code cc430]) (Ret [4] [.sc (.v (.bool r))]) .normal (some σ) := by
 intro n
 induction n with
 | zero => intro _ r h; cases h
 | succ n ih =>
  intro v3 r h σ hσ
  rw [f_impl_IsChain_1] at h
  refine go_round ?_
  rcases Bool.eq_false_or_eq_true (decide (v3 < (a1.length : Int))) with hb4 | hb4
  ·rw [ite_t hb4] at h
   obtain ⟨x5,hx5,h⟩ := ob h
   try simp only [hσ,hb4,hx5,cc429,Nat.reduceBEq,reduceMul,reduceAdd,reduceDiv,Int.reduceBEq,RR]
   refine go_al rfl rfl ?_
   try simp only [hb4,hx5,Nat.reduceBEq,reduceMul,reduceAdd,reduceDiv,Int.reduceBEq,RR]
   refine go_fr_of rfl ?_
   obtain ⟨x6,hx6,h⟩ := ob h
   rcases Bool.eq_false_or_eq_true (x5.Ship != x6.Ship) with hb7 | hb7
   ·rw [ite_t hb7] at h
    try simp only [hb4,hx5,hx6,hb7,Nat.reduceBEq,reduceMul,reduceAdd,reduceDiv,Int.reduceBEq,RR]
    cases h
    exact ⟨⟨rfl,trivial⟩,rfl⟩
   ·rw [ite_f hb7] at h
    obtain ⟨r9,hr9,h⟩ := ob h
    try simp only [hb4,hx5,hx6,hb7,Nat.reduceBEq,reduceMul,reduceAdd,reduceDiv,Int.reduceBEq,RR]
    refine go_dcallI (w_impl_isIndex _ _ _ hr9) rfl rfl (Nat.le_of_ble_eq_true rfl) ?_
    rcases Bool.eq_false_or_eq_true r9 with hb10 | hb10
    ·rw [ite_t hb10] at h
     rcases Bool.eq_false_or_eq_true (v3 == (0 : Int)) with hb11 | hb11
     ·rw [ite_t hb11] at h
      try simp only [hb4,hx5,hx6,hb7,hb10,hb11,Nat.reduceBEq,reduceMul,reduceAdd,reduceDiv,Int.reduceBEq,RR]
      refine ih _ _ h _ ?_
      try simp only [hb4,hx5,hx6,hb7,hb10,hb11,Nat.reduceBEq,reduceMul,reduceAdd,reduceDiv,Int.reduceBEq,RR,List.map_nil]
     ·rw [ite_f hb11] at h
      try simp only [hb4,hx5,hx6,hb7,hb10,hb11,Nat.reduceBEq,reduceMul,reduceAdd,reduceDiv,Int.reduceBEq,RR]
      refine go_fr_of rfl ?_
      obtain ⟨x12,hx12,h⟩ := ob h
      obtain ⟨r13,hr13,h⟩ := ob h
      try simp only [hb4,hx5,hx6,hb7,hb10,hb11,hx12,Nat.reduceBEq,reduceMul,reduceAdd,reduceDiv,Int.reduceBEq,RR]
      refine go_dcallI (w_impl_Passage_ends _ _ _ hr13) rfl rfl (Nat.le_of_ble_eq_true rfl) ?_
      obtain ⟨r14,hr14,h⟩ := ob h
      try simp only [hb4,hx5,hx6,hb7,hb10,hb11,hx12,Nat.reduceBEq,reduceMul,reduceAdd,reduceDiv,Int.reduceBEq,RR]
      refine go_callI (w_impl_Passage_ends _ _ _ hr14) rfl rfl (Nat.le_of_ble_eq_true rfl) ?_
      try simp only [hb4,hx5,hx6,hb7,hb10,hb11,hx12,Nat.reduceBEq,reduceMul,reduceAdd,reduceDiv,Int.reduceBEq,RR]
      refine go_fr_of rfl ?_
      rcases Bool.eq_false_or_eq_true (r14.1 != r13.2) with hb15 | hb15
      ·rw [ite_t hb15] at h
       try simp only [hb4,hx5,hx6,hb7,hb10,hb11,hx12,hb15,Nat.reduceBEq,reduceMul,reduceAdd,reduceDiv,Int.reduceBEq,RR]
       cases h
       exact ⟨⟨rfl,trivial⟩,rfl⟩
      ·rw [ite_f hb15] at h
       rcases Bool.eq_false_or_eq_true (decide (x5.Start < x12.End)) with hb16 | hb16
       ·rw [ite_t hb16] at h
        try simp only [hb4,hx5,hx6,hb7,hb10,hb11,hx12,hb15,hb16,Nat.reduceBEq,reduceMul,reduceAdd,reduceDiv,Int.reduceBEq,RR]
        cases h
        exact ⟨⟨rfl,trivial⟩,rfl⟩
       ·rw [ite_f hb16] at h
        try simp only [hb4,hx5,hx6,hb7,hb10,hb11,hx12,hb15,hb16,Nat.reduceBEq,reduceMul,reduceAdd,reduceDiv,Int.reduceBEq,RR]
        refine ih _ _ h _ ?_
        try simp only [hb4,hx5,hx6,hb7,hb10,hb11,hx12,hb15,hb16,Nat.reduceBEq,reduceMul,reduceAdd,reduceDiv,Int.reduceBEq,RR,List.map_nil]
    ·rw [ite_f hb10] at h
     try simp only [hb4,hx5,hx6,hb7,hb10,Nat.reduceBEq,reduceMul,reduceAdd,reduceDiv,Int.reduceBEq,RR]
     cases h
     exact ⟨⟨rfl,trivial⟩,rfl⟩
  ·rw [ite_f hb4] at h
   try simp only [hσ,hb4,cc429,cc430,Nat.reduceBEq,reduceMul,reduceAdd,reduceDiv,Int.reduceBEq,RR]
   cases h
   exact ⟨⟨rfl,trivial⟩,rfl⟩
theorem ee433 : entry Tryz.prog 120 = some (cc431.strip,[4],70) := by kernel_rfl
theorem w_impl_IsChain (a0 : XChart) (a1 : List XPassage) (r : Bool) (h : f_impl_IsChain a0 a1 = some r) : FC Tryz.prog 120 [.ag (XChart.row a0),.sc (.sl (List.map XPassage.row a1))] [.sc (.v (.bool r))] := by
 unfold f_impl_IsChain at h
 refine FC_go (σ := ⟨[(0,va [aL (List.map XPoint.row a0.Points),aL (List.map XSegment.row a0.Segments)]),(1,vc (aL (List.map XPassage.row a1)))],[],[]⟩) mixed ee433 rfl rfl ?_
 simp only [cc431]
 try simp only [Nat.reduceBEq,reduceMul,reduceAdd,reduceDiv,Int.reduceBEq,RR]
 refine go_bx rfl rfl rfl ?_
 obtain ⟨r1,hr1,h⟩ := ob h
 try simp only [Nat.reduceBEq,reduceMul,reduceAdd,reduceDiv,Int.reduceBEq,RR]
 refine go_callI (w_impl_ChartOk _ _ hr1) rfl rfl (Nat.le_of_ble_eq_true rfl) ?_
 rcases Bool.eq_false_or_eq_true r1 with hb2 | hb2
 ·rw [ite_t hb2] at h
  try simp only [hb2,Nat.reduceBEq,reduceMul,reduceAdd,reduceDiv,Int.reduceBEq,RR]
  refine ww432 _ _ _ _ _ h _ ?_
  try simp only [hb2,Nat.reduceBEq,reduceMul,reduceAdd,reduceDiv,Int.reduceBEq,RR,List.map_nil]
 ·rw [ite_f hb2] at h
  try simp only [hb2,Nat.reduceBEq,reduceMul,reduceAdd,reduceDiv,Int.reduceBEq,RR]
  cases h
  exact ⟨⟨rfl,trivial⟩,rfl⟩
/- 71: impl_PilotDuty -/
def cc434 : ACode := .seq (.reg [(none,.keep [1,2,3,6,18] [3,6] [])]) (.cond (S 18) (.seq (.reg [(none,.build 19 [aI 0,aI 0,aI 0,aI 0] []),(none,.store (S 6) (S 19) 4),(none,.mv 7 (KB false))]) .ret) .skip)
def cc435 : ACode := .seq (.reg [(none,.keep [1,2,3,6,20,21,22] [3,6] [])]) (.seq (.reg [bn 23 .lss 22 21]) (.seq (.cond (S 23) .skip (.exit 0)) (.seq (.block 1 (.seq (.reg [(none,.iaddr 24 (S 20) (S 22) 5),(none,.load 25 (S 24) true 5),(none,.alloc 9 [aI 0,aI 0,aB false,aI 0,aI 0]),(none,.store (S 9) (S 25) 5)]) (.seq (.reg [(none,.load 26 (S 3) true 2),mv 27 1,(none,.load 28 (S 9) true 5),(none,.call 29 114 [(S 26),(S 27),(S 28)]),(none,.un 30 .not (S 29))]) (.cond (S 30) (.seq (.reg [(none,.build 31 [aI 0,aI 0,aI 0,aI 0] []),(none,.store (S 6) (S 31) 4),(none,.mv 7 (KB false))]) .ret) .skip)))) (.reg [(none,.bin 32 .add (S 22) (K 1)),mv 22 32]))))
def cc436 : ACode := (.seq (.drw [(some [],(none,.load 33 (S 3) true 2)),(some [],mv 34 2),(some [],(none,.iaddr 35 (S 34) (K 0) 5)),(some [],(none,.load 36 (S 35) true 5)),(some [],mv 37 2),(some [],mv 38 2),(some [],(none,.len 39 (S 38))),(some [],(none,.bin 40 .sub (S 39) (K 1))),(some [],(none,.iaddr 41 (S 37) (S 40) 5)),(some [],(none,.load 42 (S 41) true 5)),(some [],(none,.call 43 115 [(S 33),(S 36),(S 42)])),(none,(none,.store (S 6) (S 43) 4)),(some [],(none,.mv 7 (KB true)))]) .ret)
def cc437 : ACode := (.seq (.seq (.reg [mv 20 2,(none,.len 21 (S 20)),(none,.mv 22 (K 0))]) (.block 0 (.loop cc435))) cc436)
def cc438 : ACode := (.seq (.reg [(none,.box 3 (S 0)),(none,.alloc 6 [aI 0,aI 0,aI 0,aI 0]),(none,.mv 7 (KB false))]) (.seq (.seq (.reg [mv 10 2,(none,.len 11 (S 10)),(none,.bin 12 .eql (S 11) (K 0)),mv 13 12,(some (13,false),.load 14 (S 3) true 2),(some (13,false),.mv 15 (S 2)),(some (13,false),.call 16 120 [(S 14),(S 15)]),(some (13,false),.un 17 .not (S 16)),(none,.pick 18 (S 13) (KB true) (S 17))]) cc434) cc437))
theorem ww439 (a1 : List XShip) (a2 : List XPassage) (a0 : XChart) : ∀ (n : Nat) (v5 : Int) (r : XDuty × Bool),f_impl_PilotDuty_2 a1 a2 a0 n v5 = some r → ∀ σ : St,σ.kept [1,2,3,6,20,21,22] [3,6] [] = ⟨[(1,vc (aL (List.map XShip.row a1))),(2,vc (aL (List.map XPassage.row a2))),(3,vc (.pb 3 0)),(6,vc (.pb 6 0)),(20,vc (aL (List.map XPassage.row a2))),(21,vc (aI (a2.length : Int))),(22,vc (aI v5))],[(3,[aL (List.map XPoint.row a0.Points),aL (List.map XSegment.row a0.Segments)]),(6,[aI (0 : Int),aI (0 : Int),aI (0 : Int),aI (0 : Int)])],[]⟩ → go Tryz.prog (.code (.loop cc435) :: [.blk 0,.code cc436]) (Ret [.c 6 true 4,7] [.ag [.v (.int .i64 r.1.From),.v (.int .i64 r.1.To),.v (.int .i64 r.1.A),.v (.int .i64 r.1.B)],.sc (.v (.bool r.2))]) .normal (some σ) := by
 intro n
 induction n with
 | zero => intro _ r h; cases h
 | succ n ih =>
  intro v5 r h σ hσ
  rw [f_impl_PilotDuty_2] at h
  refine go_round ?_
  rcases Bool.eq_false_or_eq_true (decide (v5 < (a2.length : Int))) with hb6 | hb6
  ·rw [ite_t hb6] at h
   obtain ⟨x7,hx7,h⟩ := ob h
   try simp only [hσ,hb6,hx7,cc435,Nat.reduceBEq,reduceMul,reduceAdd,reduceDiv,Int.reduceBEq,RR]
   refine go_al rfl rfl ?_
   obtain ⟨r9,hr9,h⟩ := ob h
   try simp only [hb6,hx7,Nat.reduceBEq,reduceMul,reduceAdd,reduceDiv,Int.reduceBEq,RR]
   refine go_callI (w_impl_PassageOk _ _ _ _ hr9) rfl rfl (Nat.le_of_ble_eq_true rfl) ?_
   rcases Bool.eq_false_or_eq_true r9 with hb10 | hb10
   ·rw [ite_t hb10] at h
    try simp only [hb6,hx7,hb10,Nat.reduceBEq,reduceMul,reduceAdd,reduceDiv,Int.reduceBEq,RR]
    refine ih _ _ h _ ?_
    try simp only [hb6,hx7,hb10,Nat.reduceBEq,reduceMul,reduceAdd,reduceDiv,Int.reduceBEq,RR,List.map_nil]
   ·rw [ite_f hb10] at h
    try simp only [hb6,hx7,hb10,Nat.reduceBEq,reduceMul,reduceAdd,reduceDiv,Int.reduceBEq,RR]
    cases h
    try simp only [rulesR,Nat.reduceBEq,reduceMul,reduceAdd,reduceDiv,Int.reduceBEq,RR]
    exact ⟨⟨⟨rfl,rfl,rfl,rfl,trivial⟩,rfl,trivial⟩,rfl⟩
  ·rw [ite_f hb6] at h
   try simp only [hσ,hb6,cc435,cc436,Nat.reduceBEq,reduceMul,reduceAdd,reduceDiv,Int.reduceBEq,RR]
   refine go_fr_of rfl ?_
   obtain ⟨x11,hx11,h⟩ := ob h
   obtain ⟨x12,hx12,h⟩ := ob h
   obtain ⟨r13,hr13,h⟩ := ob h
   try simp only [hb6,hx11,hx12,Nat.reduceBEq,reduceMul,reduceAdd,reduceDiv,Int.reduceBEq,RR]
   refine go_dcallI (w_impl_duty _ _ _ _ hr13) rfl rfl (Nat.le_of_ble_eq_true rfl) ?_
   try simp only [hb6,hx11,hx12,Nat.reduceBEq,reduceMul,reduceAdd,reduceDiv,Int.reduceBEq,RR]
   refine go_fr_of rfl ?_
   try simp only [hb6,hx11,hx12,Nat.reduceBEq,reduceMul,reduceAdd,reduceDiv,Int.reduceBEq,RR]
   cases h
   try simp only [rulesR,Nat.reduceBEq,reduceMul,reduceAdd,reduceDiv,Int.reduceBEq,RR]
   exact ⟨⟨⟨rfl,rfl,rfl,rfl,trivial⟩,rfl,trivial⟩,rfl⟩
theorem ww440 (a1 : List XShip) (a2 : List XPassage) (a0 : XChart) (v3 : Bool) (r : XDuty × Bool) (h : f_impl_PilotDuty_1 a1 a2 a0 v3 = some r) (σ : St) (hσ : σ.kept [1,2,3,6,18] [3,6] [] = ⟨[(1,vc (aL (List.map XShip.row a1))),(2,vc (aL (List.map XPassage.row a2))),(3,vc (.pb 3 0)),(6,vc (.pb 6 0)),(18,vc (aB v3))],[(3,[aL (List.map XPoint.row a0.Points),aL (List.map XSegment.row a0.Segments)]),(6,[aI (0 : Int),aI (0 : Int),aI (0 : Int),aI (0 : Int)])],[]⟩) : go Tryz.prog (.code cc434 :: [.code cc437]) (Ret [.c 6 true 4,7] [.ag [.v (.int .i64 r.1.From),.v (.int .i64 r.1.To),.v (.int .i64 r.1.A),.v (.int .i64 r.1.B)],.sc (.v (.bool r.2))]) .normal (some σ) := by
 unfold f_impl_PilotDuty_1 at h
 rcases Bool.eq_false_or_eq_true v3 with hb4 | hb4
 ·rw [ite_t hb4] at h
  try simp only [hσ,hb4,cc434,Nat.reduceBEq,reduceMul,reduceAdd,reduceDiv,Int.reduceBEq,RR]
  cases h
  try simp only [rulesR,Nat.reduceBEq,reduceMul,reduceAdd,reduceDiv,Int.reduceBEq,RR]
  exact ⟨⟨⟨rfl,rfl,rfl,rfl,trivial⟩,rfl,trivial⟩,rfl⟩
 ·rw [ite_f hb4] at h
  try simp only [hσ,hb4,cc434,cc437,Nat.reduceBEq,reduceMul,reduceAdd,reduceDiv,Int.reduceBEq,RR]
  refine ww439 _ _ _ _ _ _ h _ ?_
  try simp only [hb4,Nat.reduceBEq,reduceMul,reduceAdd,reduceDiv,Int.reduceBEq,RR,List.map_nil]
theorem ee441 : entry Tryz.prog 71 = some (cc438.strip,[.c 6 true 4,7],44) := by kernel_rfl
theorem w_impl_PilotDuty (a0 : XChart) (a1 : List XShip) (a2 : List XPassage) (r : XDuty × Bool) (h : f_impl_PilotDuty a0 a1 a2 = some r) : FC Tryz.prog 71 [.ag (XChart.row a0),.sc (.sl (List.map XShip.row a1)),.sc (.sl (List.map XPassage.row a2))] [.ag [.v (.int .i64 r.1.From),.v (.int .i64 r.1.To),.v (.int .i64 r.1.A),.v (.int .i64 r.1.B)],.sc (.v (.bool r.2))] := by
 unfold f_impl_PilotDuty at h
 refine FC_go (σ := ⟨[(0,va [aL (List.map XPoint.row a0.Points),aL (List.map XSegment.row a0.Segments)]),(1,vc (aL (List.map XShip.row a1))),(2,vc (aL (List.map XPassage.row a2)))],[],[]⟩) mixed ee441 rfl rfl ?_
 simp only [cc438]
 try simp only [Nat.reduceBEq,reduceMul,reduceAdd,reduceDiv,Int.reduceBEq,RR]
 refine go_bx rfl rfl rfl ?_
 try simp only [Nat.reduceBEq,reduceMul,reduceAdd,reduceDiv,Int.reduceBEq,RR]
 refine go_al rfl rfl ?_
 rcases Bool.eq_false_or_eq_true ((a2.length : Int) == (0 : Int)) with hb1 | hb1
 ·rw [ite_t hb1] at h
  try simp only [hb1,Nat.reduceBEq,reduceMul,reduceAdd,reduceDiv,Int.reduceBEq,RR]
  refine ww440 _ _ _ _ _ h _ ?_
  try simp only [hb1,Nat.reduceBEq,reduceMul,reduceAdd,reduceDiv,Int.reduceBEq,RR,List.map_nil]
 ·rw [ite_f hb1] at h
  obtain ⟨r2,hr2,h⟩ := ob h
  try simp only [hb1,Nat.reduceBEq,reduceMul,reduceAdd,reduceDiv,Int.reduceBEq,RR]
  refine go_callI (w_impl_IsChain _ _ _ hr2) rfl rfl (Nat.le_of_ble_eq_true rfl) ?_
  try simp only [hb1,Nat.reduceBEq,reduceMul,reduceAdd,reduceDiv,Int.reduceBEq,RR]
  refine ww440 _ _ _ _ _ h _ ?_
  try simp only [hb1,Nat.reduceBEq,reduceMul,reduceAdd,reduceDiv,Int.reduceBEq,RR,List.map_nil]
/- 32: impl_PilotsNeeded -/
def cc442 : ACode := .seq (.reg [(none,.keep [2,4,5,9,18,19,20] [4,5] [1088])]) (.seq (.reg [bn 21 .lss 20 19]) (.seq (.cond (S 21) .skip (.exit 0)) (.seq (.block 1 (.seq (.reg [(none,.iaddr 22 (S 18) (S 20) 1),ld 23 22,mv 11 23]) (.seq (.seq (.reg [mv 24 11,(none,.len 25 (S 24)),(none,.bin 26 .eql (S 25) (K 0))]) (.cond (S 26) (.exit 1) .skip)) (.seq (.reg [(none,.load 28 (S 5) true 2),mv 29 2,mv 30 11,(none,.call 31 71 [(S 28),(S 29),(S 30)]),mv 27 31,(none,.extr 32 (S 27) 0),(none,.extr 33 (S 27) 1),(none,.alloc 12 [aI 0,aI 0,aI 0,aI 0]),(none,.store (S 12) (S 32) 4),mv 13 33]) (.seq (.seq (.reg [mv 34 13,(none,.un 35 .not (S 34))]) (.cond (S 35) (.seq (.reg [(none,.mv 8 (K (-1)))]) .ret) .skip)) (.reg [mv 36 9,(none,.load 37 (S 12) true 4),(none,.bslice 38 4 [.int .i64 0,.int .i64 0,.int .i64 0,.int .i64 0] 1 [(0,(S 37))]),(none,.app 39 4 32 (S 36) (S 38)),mv 9 39])))))) (.reg [(none,.bin 40 .add (S 20) (K 1)),mv 20 40]))))
def cc443 : ACode := (.seq (.seq (.reg [(none,.load 41 (S 4) true 4),(none,.call 42 65 [(S 41)]),(none,.un 43 .not (S 42)),mv 44 43,(some (44,false),.mv 45 (S 9)),(some (44,false),.len 46 (S 45)),(some (44,false),.bin 47 .gtr (S 46) (K 12)),(none,.pick 48 (S 44) (KB true) (S 47))]) (.cond (S 48) (.seq (.reg [(none,.mv 8 (K (-1)))]) .ret) .skip)) (.seq (.reg [fa 50 4 2,ld 51 50,fa 52 4 3,ld 53 52,mv 54 9,(none,.call 55 70 [(S 51),(S 53),(S 54)]),mv 49 55,(none,.extr 56 (S 49) 0),(none,.extr 57 (S 49) 1),(none,.extr 58 (S 49) 2),mv 14 56,mv 15 57,mv 16 58]) (.seq (.reg [mv 59 15,mv 8 59]) .ret)))
def cc444 : ACode := (.seq (.reg [(none,.box 4 (S 0)),(none,.box 5 (S 1)),(none,.mv 8 (K 0))]) (.seq (.reg [(none,.bslice 17 4 [.int .i64 0,.int .i64 0,.int .i64 0,.int .i64 0] 0 []),mv 9 17]) (.seq (.seq (.reg [mv 18 3,(none,.len 19 (S 18)),(none,.mv 20 (K 0))]) (.block 0 (.loop cc442))) cc443)))
theorem ww445 (a2 : List XShip) (a3 : List (List XPassage)) (a0 : XCrew) (a1 : XChart) : ∀ (n : Nat) (v1 : Int) (v2 : List XDuty) (r : Int),f_impl_PilotsNeeded_1 a2 a3 a0 a1 n v1 v2 = some r → ∀ σ : St,σ.kept [2,4,5,9,18,19,20] [4,5] [1088] = ⟨[(2,vc (aL (List.map XShip.row a2))),(4,vc (.pb 4 0)),(5,vc (.pb 5 0)),(9,vc (.own 1088)),(18,vc (aL (List.map (rL XPassage.row) a3))),(19,vc (aI (a3.length : Int))),(20,vc (aI v1))],[(4,[aI a0.Tugs,aI a0.Pilots,aI a0.Rest,aL (List.map rI a0.Moves)]),(5,[aL (List.map XPoint.row a1.Points),aL (List.map XSegment.row a1.Segments)])],[(1088,4,List.map XDuty.row v2)]⟩ → go Tryz.prog (.code (.loop cc442) :: [.blk 0,.code cc443]) (Ret [8] [.sc (.v (.int .i64 r))]) .normal (some σ) := by
 intro n
 induction n with
 | zero => intro _ _ r h; cases h
 | succ n ih =>
  intro v1 v2 r h σ hσ
  rw [f_impl_PilotsNeeded_1] at h
  refine go_round ?_
  rcases Bool.eq_false_or_eq_true (decide (v1 < (a3.length : Int))) with hb3 | hb3
  ·rw [ite_t hb3] at h
   obtain ⟨x4,hx4,h⟩ := ob h
   rcases Bool.eq_false_or_eq_true ((x4.length : Int) == (0 : Int)) with hb5 | hb5
   ·rw [ite_t hb5] at h
    try simp only [hσ,hb3,hx4,hb5,cc442,Nat.reduceBEq,reduceMul,reduceAdd,reduceDiv,Int.reduceBEq,RR]
    refine ih _ _ _ h _ ?_
    try simp only [hb3,hx4,hb5,Nat.reduceBEq,reduceMul,reduceAdd,reduceDiv,Int.reduceBEq,RR,List.map_nil]
   ·rw [ite_f hb5] at h
    obtain ⟨r6,hr6,h⟩ := ob h
    try simp only [hσ,hb3,hx4,hb5,cc442,Nat.reduceBEq,reduceMul,reduceAdd,reduceDiv,Int.reduceBEq,RR]
    refine go_callI (w_impl_PilotDuty _ _ _ _ hr6) rfl rfl (Nat.le_of_ble_eq_true rfl) ?_
    try simp only [hb3,hx4,hb5,Nat.reduceBEq,reduceMul,reduceAdd,reduceDiv,Int.reduceBEq,RR]
    refine go_al rfl rfl ?_
    rcases Bool.eq_false_or_eq_true r6.2 with hb7 | hb7
    ·rw [ite_t hb7] at h
     try simp only [hb3,hx4,hb5,hb7,Nat.reduceBEq,reduceMul,reduceAdd,reduceDiv,Int.reduceBEq,RR]
     refine go_bsl (es := List.map XDuty.row ([r6.1] : List XDuty)) rfl rfl ?_
     obtain ⟨hg8,h⟩ := of_guard h
     try simp only [hb3,hx4,hb5,hb7,hg8,Nat.reduceBEq,reduceMul,reduceAdd,reduceDiv,Int.reduceBEq,RR]
     refine ih _ _ _ h _ ?_
     try simp only [hb3,hx4,hb5,hb7,hg8,Nat.reduceBEq,reduceMul,reduceAdd,reduceDiv,Int.reduceBEq,RR,List.map_nil]
    ·rw [ite_f hb7] at h
     try simp only [hb3,hx4,hb5,hb7,Nat.reduceBEq,reduceMul,reduceAdd,reduceDiv,Int.reduceBEq,RR]
     cases h
     exact ⟨⟨rfl,trivial⟩,rfl⟩
  ·rw [ite_f hb3] at h
   obtain ⟨r9,hr9,h⟩ := ob h
   try simp only [hσ,hb3,cc442,cc443,Nat.reduceBEq,reduceMul,reduceAdd,reduceDiv,Int.reduceBEq,RR]
   refine go_callI (w_impl_CrewOk _ _ hr9) rfl rfl (Nat.le_of_ble_eq_true rfl) ?_
   rcases Bool.eq_false_or_eq_true r9 with hb10 | hb10
   ·rw [ite_t hb10] at h
    rcases Bool.eq_false_or_eq_true (decide ((12 : Int) < (v2.length : Int))) with hb11 | hb11
    ·rw [ite_t hb11] at h
     try simp only [hb3,hb10,hb11,Nat.reduceBEq,reduceMul,reduceAdd,reduceDiv,Int.reduceBEq,RR]
     cases h
     exact ⟨⟨rfl,trivial⟩,rfl⟩
    ·rw [ite_f hb11] at h
     obtain ⟨r12,hr12,h⟩ := ob h
     try simp only [hb3,hb10,hb11,Nat.reduceBEq,reduceMul,reduceAdd,reduceDiv,Int.reduceBEq,RR]
     refine go_call (w_impl_LeastCover _ _ _ _ hr12) rfl (flat_l rfl ⟨flat_o,rfl,rfl,trivial⟩) rfl (Nat.le_of_ble_eq_true rfl) ?_
     try simp only [hb3,hb10,hb11,Nat.reduceBEq,reduceMul,reduceAdd,reduceDiv,Int.reduceBEq,RR]
     cases h
     exact ⟨⟨rfl,trivial⟩,rfl⟩
   ·rw [ite_f hb10] at h
    try simp only [hb3,hb10,Nat.reduceBEq,reduceMul,reduceAdd,reduceDiv,Int.reduceBEq,RR]
    cases h
    exact ⟨⟨rfl,trivial⟩,rfl⟩
theorem ee446 : entry Tryz.prog 32 = some (cc444.strip,[8],60) := by kernel_rfl
theorem w_impl_PilotsNeeded (a0 : XCrew) (a1 : XChart) (a2 : List XShip) (a3 : List (List XPassage)) (r : Int) (h : f_impl_PilotsNeeded a0 a1 a2 a3 = some r) : FC Tryz.prog 32 [.ag (XCrew.row a0),.ag (XChart.row a1),.sc (.sl (List.map XShip.row a2)),.sc (.sl (List.map (rL XPassage.row) a3))] [.sc (.v (.int .i64 r))] := by
 unfold f_impl_PilotsNeeded at h
 refine FC_go (σ := ⟨[(0,va [aI a0.Tugs,aI a0.Pilots,aI a0.Rest,aL (List.map rI a0.Moves)]),(1,va [aL (List.map XPoint.row a1.Points),aL (List.map XSegment.row a1.Segments)]),(2,vc (aL (List.map XShip.row a2))),(3,vc (aL (List.map (rL XPassage.row) a3)))],[],[]⟩) mixed ee446 rfl rfl ?_
 simp only [cc444]
 try simp only [Nat.reduceBEq,reduceMul,reduceAdd,reduceDiv,Int.reduceBEq,RR]
 refine go_bx rfl rfl rfl ?_
 try simp only [Nat.reduceBEq,reduceMul,reduceAdd,reduceDiv,Int.reduceBEq,RR]
 refine go_bx rfl rfl rfl ?_
 try simp only [Nat.reduceBEq,reduceMul,reduceAdd,reduceDiv,Int.reduceBEq,RR]
 refine go_bsl (es := List.map XDuty.row ([] : List XDuty)) rfl rfl ?_
 try simp only [Nat.reduceBEq,reduceMul,reduceAdd,reduceDiv,Int.reduceBEq,RR]
 refine ww445 _ _ _ _ _ _ _ _ h _ ?_
 try simp only [Nat.reduceBEq,reduceMul,reduceAdd,reduceDiv,Int.reduceBEq,RR,List.map_nil]
/- 112: impl_FormatInt -/
def cc447 : ACode := (.seq (.reg [(none,.mv 2 (KS []))]) (.seq (.reg [mv 3 0,(none,.call 4 132 [(S 3)]),mv 2 4]) .ret))
theorem ee448 : entry Tryz.prog 112 = some (cc447.strip,[2],5) := by kernel_rfl
theorem w_impl_FormatInt (a0 : Int) (r : (List UInt8)) (h : f_impl_FormatInt a0 = some r) : FC Tryz.prog 112 [.sc (.int .i64 a0)] [.sc (.v (.str r))] := by
 unfold f_impl_FormatInt at h
 refine FC_go (σ := ⟨[(0,vc (aI a0))],[],[]⟩) mixed ee448 rfl rfl ?_
 simp only [cc447]
 obtain ⟨r1,hr1,h⟩ := ob h
 try simp only [Nat.reduceBEq,reduceMul,reduceAdd,reduceDiv,Int.reduceBEq,RR]
 refine go_callI (w_strconv_Itoa _ _ hr1) rfl rfl (Nat.le_of_ble_eq_true rfl) ?_
 try simp only [Nat.reduceBEq,reduceMul,reduceAdd,reduceDiv,Int.reduceBEq,RR]
 cases h
 exact ⟨⟨rfl,trivial⟩,rfl⟩
/- 67: impl_word -/
def cc449 : ACode := (.seq (.reg [(none,.mv 2 (KS []))]) (.seq (.seq (.reg [mv 5 0]) (.block 0 (.seq (.reg [(none,.tass 6 (S 5) 3 (aI 0)),(none,.extr 7 (S 6) 1),(none,.extr 8 (S 6) 0)]) (.cond (S 7) (.seq (.reg [mv 3 8]) (.seq (.reg [mv 9 3,(none,.call 10 112 [(S 9)]),mv 2 10]) .ret)) (.seq (.reg [(none,.tass 11 (S 5) 9 (aS [])),(none,.extr 12 (S 11) 1),(none,.extr 13 (S 11) 0)]) (.cond (S 12) (.seq (.reg [mv 4 13]) (.seq (.reg [mv 14 4,mv 2 14]) .ret)) .skip)))))) (.seq (.reg [(none,.mv 2 (KS []))]) .ret)))
theorem ee450 : entry Tryz.prog 67 = some (cc449.strip,[2],15) := by kernel_rfl
theorem w_impl_word (a0 : XAny) (r : (List UInt8)) (h : f_impl_word a0 = some r) : FC Tryz.prog 67 [.sc (anyD a0)] [.sc (.v (.str r))] := by
 unfold f_impl_word at h
 refine FC_go (σ := ⟨[(0,vc (.dat (anyD a0)))],[],[]⟩) mixed ee450 rfl rfl ?_
 simp only [cc449]
 rcases Bool.eq_false_or_eq_true a0.isS with hb1 | hb1
 ·rw [ite_t hb1] at h
  try simp only [hb1,Nat.reduceBEq,reduceMul,reduceAdd,reduceDiv,Int.reduceBEq,RR]
  cases h
  exact ⟨⟨rfl,trivial⟩,rfl⟩
 ·rw [ite_f hb1] at h
  obtain ⟨r2,hr2,h⟩ := ob h
  try simp only [hb1,Nat.reduceBEq,reduceMul,reduceAdd,reduceDiv,Int.reduceBEq,RR]
  refine go_callI (w_impl_FormatInt _ _ hr2) rfl rfl (Nat.le_of_ble_eq_true rfl) ?_
  try simp only [hb1,Nat.reduceBEq,reduceMul,reduceAdd,reduceDiv,Int.reduceBEq,RR]
  cases h
  exact ⟨⟨rfl,trivial⟩,rfl⟩
/- 68: impl_Join -/
def cc451 : ACode := (.seq (.reg [(none,.mv 4 (KS []))]) (.seq (.reg [mv 5 0,mv 6 1,(none,.call 7 113 [(S 5),(S 6)]),mv 4 7]) .ret))
theorem ee452 : entry Tryz.prog 68 = some (cc451.strip,[4],8) := by kernel_rfl
theorem w_impl_Join (a0 : List (List UInt8)) (a1 : List UInt8) (r : (List UInt8)) (h : f_impl_Join a0 a1 = some r) : FC Tryz.prog 68 [.sc (.sl (List.map rS a0)),.sc (.str a1)] [.sc (.v (.str r))] := by
 unfold f_impl_Join at h
 refine FC_go (σ := ⟨[(0,vc (aL (List.map rS a0))),(1,vc (aS a1))],[],[]⟩) mixed ee452 rfl rfl ?_
 simp only [cc451]
 obtain ⟨r1,hr1,h⟩ := ob h
 try simp only [Nat.reduceBEq,reduceMul,reduceAdd,reduceDiv,Int.reduceBEq,RR]
 refine go_callI (w_strings_Join _ _ _ hr1) rfl rfl (Nat.le_of_ble_eq_true rfl) ?_
 try simp only [Nat.reduceBEq,reduceMul,reduceAdd,reduceDiv,Int.reduceBEq,RR]
 cases h
 exact ⟨⟨rfl,trivial⟩,rfl⟩
/- 30: impl_words -/
def cc453 : ACode := .seq (.reg [(none,.keep [3,7,8,9] [] [384])]) (.seq (.reg [bn 10 .lss 9 8]) (.seq (.cond (S 10) .skip (.exit 0)) (.seq (.block 1 (.seq (.reg [(none,.iaddr 11 (S 7) (S 9) 1),ld 12 11,mv 5 12]) (.reg [mv 13 3,mv 14 5,(none,.call 15 67 [(S 14)]),(none,.bslice 16 1 [.str []] 1 [(0,(S 15))]),(none,.app 17 1 16 (S 13) (S 16)),mv 3 17]))) (.reg [(none,.bin 18 .add (S 9) (K 1)),mv 9 18]))))
def cc454 : ACode := (.seq (.reg [mv 19 3,(none,.call 20 68 [(S 19),(KS [32])]),mv 2 20]) .ret)
def cc455 : ACode := (.seq (.reg [(none,.mv 2 (KS []))]) (.seq (.reg [(none,.bslice 6 1 [.str []] 0 []),mv 3 6]) (.seq (.seq (.reg [mv 7 0,(none,.len 8 (S 7)),(none,.mv 9 (K 0))]) (.block 0 (.loop cc453))) cc454)))
theorem ww456 (a0 : List XAny) : ∀ (n : Nat) (v1 : Int) (v2 : List (List UInt8)) (r : (List UInt8)),f_impl_words_1 a0 n v1 v2 = some r → ∀ σ : St,σ.kept [3,7,8,9] [] [384] = ⟨[(3,vc (.own 384)),(7,vc (aL (List.map rA a0))),(8,vc (aI (a0.length : Int))),(9,vc (aI v1))],[],[(384,1,List.map rS v2)]⟩ → go Tryz.prog (.code (.loop cc453) :: [.blk 0,.code cc454]) (Ret [2] [.sc (.v (.str r))]) .normal (some σ) := by
 intro n
 induction n with
 | zero => intro _ _ r h; cases h
 | succ n ih =>
  intro v1 v2 r h σ hσ
  rw [f_impl_words_1] at h
  refine go_round ?_
  rcases Bool.eq_false_or_eq_true (decide (v1 < (a0.length : Int))) with hb3 | hb3
  ·rw [ite_t hb3] at h
   obtain ⟨x4,hx4,h⟩ := ob h
   obtain ⟨r5,hr5,h⟩ := ob h
   try simp only [hσ,hb3,hx4,cc453,Nat.reduceBEq,reduceMul,reduceAdd,reduceDiv,Int.reduceBEq,RR]
   refine go_callI (w_impl_word _ _ hr5) rfl rfl (Nat.le_of_ble_eq_true rfl) ?_
   try simp only [hb3,hx4,Nat.reduceBEq,reduceMul,reduceAdd,reduceDiv,Int.reduceBEq,RR]
   refine go_bsl (es := List.map rS ([r5] : List (List UInt8))) rfl rfl ?_
   obtain ⟨hg6,h⟩ := of_guard h
   try simp only [hb3,hx4,hg6,Nat.reduceBEq,reduceMul,reduceAdd,reduceDiv,Int.reduceBEq,RR]
   refine ih _ _ _ h _ ?_
   try simp only [hb3,hx4,hg6,Nat.reduceBEq,reduceMul,reduceAdd,reduceDiv,Int.reduceBEq,RR,List.map_nil]
  ·rw [ite_f hb3] at h
   obtain ⟨r7,hr7,h⟩ := ob h
   try simp only [hσ,hb3,cc453,cc454,Nat.reduceBEq,reduceMul,reduceAdd,reduceDiv,Int.reduceBEq,RR]
   refine go_call (w_impl_Join _ _ _ hr7) rfl (flat_of rfl) rfl (Nat.le_of_ble_eq_true rfl) ?_
   try simp only [hb3,Nat.reduceBEq,reduceMul,reduceAdd,reduceDiv,Int.reduceBEq,RR]
   cases h
   exact ⟨⟨rfl,trivial⟩,rfl⟩
theorem ee457 : entry Tryz.prog 30 = some (cc455.strip,[2],21) := by kernel_rfl
theorem w_impl_words (a0 : List XAny) (r : (List UInt8)) (h : f_impl_words a0 = some r) : FC Tryz.prog 30 [.sc (.sl (List.map rA a0))] [.sc (.v (.str r))] := by
 unfold f_impl_words at h
 refine FC_go (σ := ⟨[(0,vc (aL (List.map rA a0)))],[],[]⟩) mixed ee457 rfl rfl ?_
 simp only [cc455]
 try simp only [Nat.reduceBEq,reduceMul,reduceAdd,reduceDiv,Int.reduceBEq,RR]
 refine go_bsl (es := List.map rS ([] : List (List UInt8))) rfl rfl ?_
 try simp only [Nat.reduceBEq,reduceMul,reduceAdd,reduceDiv,Int.reduceBEq,RR]
 refine ww456 _ _ _ _ _ h _ ?_
 try simp only [Nat.reduceBEq,reduceMul,reduceAdd,reduceDiv,Int.reduceBEq,RR,List.map_nil]
/- 9: impl_CrewLine -/
def cc458 : ACode := .seq (.reg [(none,.keep [2,5,6,15,16,17] [2] [832,896])]) (.seq (.reg [bn 18 .lss 17 16]) (.seq (.cond (S 18) .skip (.exit 0)) (.seq (.block 1 (.seq (.reg [(none,.iaddr 19 (S 15) (S 17) 1),ld 20 19,mv 8 20]) (.reg [mv 21 6,mv 22 8,(none,.app 23 5 40 (S 21) (S 22)),mv 6 23]))) (.reg [(none,.bin 24 .add (S 17) (K 1)),mv 17 24]))))
def cc459 : ACode := (.seq (.drw [(some [33,43],(none,.mkif 25 9 (KS [116,117,103,115]))),(some [],fa 26 2 8),(some [],(none,.load 27 (S 26) true 4)),(some [],fa 28 2 3),(some [],(none,.load 29 (S 28) true 2)),(some [],fa 30 2 5),(some [],ld 31 30),(some [],mv 32 6),(some [],(none,.call 33 31 [(S 27),(S 29),(S 31),(S 32)])),(some [43],(none,.mkif 34 3 (S 33))),(some [33,43],(none,.mkif 35 9 (KS [112,105,108,111,116,115]))),(some [33],fa 36 2 8),(some [33],(none,.load 37 (S 36) true 4)),(some [33],fa 38 2 3),(some [33],(none,.load 39 (S 38) true 2)),(some [33],fa 40 2 5),(some [33],ld 41 40),(some [33],mv 42 5),(some [],(none,.call 43 32 [(S 37),(S 39),(S 41),(S 42)])),(some [],(none,.mkif 44 3 (S 43))),(some [],(none,.bslice 45 1 [.noi] 4 [(0,(S 25)),(1,(S 34)),(2,(S 35)),(3,(S 44))])),(some [],(none,.call 46 30 [(S 45)])),(some [],mv 4 46)]) .ret)
def cc460 : ACode := (.seq (.reg [(none,.box 2 (S 0)),(none,.mv 4 (KS []))]) (.seq (.seq (.reg [(none,.load 9 (S 2) true 12),(none,.call 10 28 [(S 9)]),(none,.un 11 .not (S 10))]) (.cond (S 11) (.seq (.reg [(none,.mv 4 (KS []))]) .ret) .skip)) (.seq (.reg [mv 12 1,(none,.call 13 29 [(S 12)]),mv 5 13]) (.seq (.reg [(none,.bslice 14 5 [.int .i64 0,.int .i64 0,.bool false,.int .i64 0,.int .i64 0] 0 []),mv 6 14]) (.seq (.seq (.reg [mv 15 5,(none,.len 16 (S 15)),(none,.mv 17 (K 0))]) (.block 0 (.loop cc458))) cc459)))))
theorem ww461 (r3 : (List (List XPassage))) (a0 : XHarbour) : ∀ (n : Nat) (v4 : Int) (v5 : List XPassage) (r : (List UInt8)),f_impl_CrewLine_1 r3 a0 n v4 v5 = some r → ∀ σ : St,σ.kept [2,5,6,15,16,17] [2] [832,896] = ⟨[(2,vc (.pb 2 0)),(5,vc (.own 832)),(6,vc (.own 896)),(15,vc (.own 832)),(16,vc (aI (r3.length : Int))),(17,vc (aI v4))],[(2,[aI a0.Forecast.Tide.Mean,aL (List.map XPart.row a0.Forecast.Tide.Parts),aL (List.map XSurge.row a0.Forecast.Surges),aL (List.map XPoint.row a0.Chart.Points),aL (List.map XSegment.row a0.Chart.Segments),aL (List.map XShip.row a0.Fleet),aI a0.Regime.Gap,aB a0.Regime.NoMeet,aI a0.Crew.Tugs,aI a0.Crew.Pilots,aI a0.Crew.Rest,aL (List.map rI a0.Crew.Moves)])],[(832,1,List.map (rL XPassage.row) r3),(896,5,List.map XPassage.row v5)]⟩ → go Tryz.prog (.code (.loop cc458) :: [.blk 0,.code cc459]) (Ret [4] [.sc (.v (.str r))]) .normal (some σ) := by
 intro n
 induction n with
 | zero => intro _ _ r h; cases h
 | succ n ih =>
  intro v4 v5 r h σ hσ
  rw [f_impl_CrewLine_1] at h
  refine go_round ?_
  rcases Bool.eq_false_or_eq_true (decide (v4 < (r3.length : Int))) with hb6 | hb6
  ·rw [ite_t hb6] at h
   obtain ⟨x7,hx7,h⟩ := ob h
   have hx7n := ix_get hx7
   obtain ⟨hg8,h⟩ := of_guard h
   try simp only [hσ,hb6,hx7,hx7n,hg8,cc458,Nat.reduceBEq,reduceMul,reduceAdd,reduceDiv,Int.reduceBEq,RR]
   refine ih _ _ _ h _ ?_
   try simp only [hb6,hx7,hx7n,hg8,Nat.reduceBEq,reduceMul,reduceAdd,reduceDiv,Int.reduceBEq,RR,List.map_nil]
  ·rw [ite_f hb6] at h
   try simp only [hσ,hb6,cc458,cc459,Nat.reduceBEq,reduceMul,reduceAdd,reduceDiv,Int.reduceBEq,RR]
   refine go_fr_of rfl ?_
   obtain ⟨r9,hr9,h⟩ := ob h
   try simp only [hb6,Nat.reduceBEq,reduceMul,reduceAdd,reduceDiv,Int.reduceBEq,RR]
   refine go_dcall (w_impl_TugsNeeded _ _ _ _ _ hr9) (by first | rfl | kernel_rfl) (flat_of rfl) rfl (Nat.le_of_ble_eq_true rfl) ?_
   obtain ⟨r10,hr10,h⟩ := ob h
   try simp only [hb6,Nat.reduceBEq,reduceMul,reduceAdd,reduceDiv,Int.reduceBEq,RR]
   refine go_dcall (w_impl_PilotsNeeded _ _ _ _ _ hr10) (by first | rfl | kernel_rfl) (flat_of rfl) rfl (Nat.le_of_ble_eq_true rfl) ?_
   try simp only [hb6,Nat.reduceBEq,reduceMul,reduceAdd,reduceDiv,Int.reduceBEq,RR]
   refine go_bsl (es := List.map rA ([(⟨true,([116,117,103,115] : List UInt8),0⟩ : XAny),(⟨false,[],r9⟩ : XAny),(⟨true,([112,105,108,111,116,115] : List UInt8),0⟩ : XAny),(⟨false,[],r10⟩ : XAny)] : List XAny)) rfl rfl ?_
   obtain ⟨r11,hr11,h⟩ := ob h
   try simp only [hb6,Nat.reduceBEq,reduceMul,reduceAdd,reduceDiv,Int.reduceBEq,RR]
   refine go_dcall (w_impl_words _ _ hr11) (by first | rfl | kernel_rfl) (flat_of rfl) rfl (Nat.le_of_ble_eq_true rfl) ?_
   try simp only [hb6,Nat.reduceBEq,reduceMul,reduceAdd,reduceDiv,Int.reduceBEq,RR]
   cases h
   exact ⟨⟨rfl,trivial⟩,rfl⟩
theorem ee462 : entry Tryz.prog 9 = some (cc460.strip,[4],47) := by kernel_rfl
theorem w_impl_CrewLine (a0 : XHarbour) (a1 : List XOption) (r : (List UInt8)) (h : f_impl_CrewLine a0 a1 = some r) : FC Tryz.prog 9 [.ag (XHarbour.row a0),.sc (.sl (List.map XOption.row a1))] [.sc (.v (.str r))] := by
 unfold f_impl_CrewLine at h
 refine FC_go (σ := ⟨[(0,va [aI a0.Forecast.Tide.Mean,aL (List.map XPart.row a0.Forecast.Tide.Parts),aL (List.map XSurge.row a0.Forecast.Surges),aL (List.map XPoint.row a0.Chart.Points),aL (List.map XSegment.row a0.Chart.Segments),aL (List.map XShip.row a0.Fleet),aI a0.Regime.Gap,aB a0.Regime.NoMeet,aI a0.Crew.Tugs,aI a0.Crew.Pilots,aI a0.Crew.Rest,aL (List.map rI a0.Crew.Moves)]),(1,vc (aL (List.map XOption.row a1)))],[],[]⟩) mixed ee462 rfl rfl ?_
 simp only [cc460]
 try simp only [Nat.reduceBEq,reduceMul,reduceAdd,reduceDiv,Int.reduceBEq,RR]
 refine go_bx rfl rfl rfl ?_
 obtain ⟨r1,hr1,h⟩ := ob h
 try simp only [Nat.reduceBEq,reduceMul,reduceAdd,reduceDiv,Int.reduceBEq,RR]
 refine go_callI (w_impl_HarbourOk _ _ hr1) rfl rfl (Nat.le_of_ble_eq_true rfl) ?_
 rcases Bool.eq_false_or_eq_true r1 with hb2 | hb2
 ·rw [ite_t hb2] at h
  obtain ⟨r3,hr3,h⟩ := ob h
  try simp only [hb2,Nat.reduceBEq,reduceMul,reduceAdd,reduceDiv,Int.reduceBEq,RR]
  refine go_callI (w_impl_ChainsOf _ _ hr3) rfl rfl (Nat.le_of_ble_eq_true rfl) ?_
  try simp only [hb2,Nat.reduceBEq,reduceMul,reduceAdd,reduceDiv,Int.reduceBEq,RR]
  refine go_bsl (es := List.map XPassage.row ([] : List XPassage)) rfl rfl ?_
  try simp only [hb2,Nat.reduceBEq,reduceMul,reduceAdd,reduceDiv,Int.reduceBEq,RR]
  refine ww461 _ _ _ _ _ _ h _ ?_
  try simp only [hb2,Nat.reduceBEq,reduceMul,reduceAdd,reduceDiv,Int.reduceBEq,RR,List.map_nil]
 ·rw [ite_f hb2] at h
  try simp only [hb2,Nat.reduceBEq,reduceMul,reduceAdd,reduceDiv,Int.reduceBEq,RR]
  cases h
  exact ⟨⟨rfl,trivial⟩,rfl⟩
/- 141: laws_eqPart -/
def cc463 : ACode := (.seq (.reg [(none,.box 2 (S 0)),(none,.box 3 (S 1)),(none,.mv 4 (KB false))]) (.seq (.seq (.reg [fa 5 2 0,ld 6 5,fa 7 3 0,ld 8 7,bn 9 .neq 6 8]) (.cond (S 9) (.seq (.reg [(none,.mv 4 (KB false))]) .ret) .skip)) (.seq (.seq (.reg [fa 10 2 1,ld 11 10,fa 12 3 1,ld 13 12,bn 14 .neq 11 13]) (.cond (S 14) (.seq (.reg [(none,.mv 4 (KB false))]) .ret) .skip)) (.seq (.seq (.reg [fa 15 2 2,ld 16 15,fa 17 3 2,ld 18 17,bn 19 .neq 16 18]) (.cond (S 19) (.seq (.reg [(none,.mv 4 (KB false))]) .ret) .skip)) (.seq (.reg [(none,.mv 4 (KB true))]) .ret)))))
theorem ee464 : entry Tryz.prog 141 = some (cc463.strip,[4],20) := by kernel_rfl
theorem w_laws_eqPart (a0 : XPart) (a1 : XPart) (r : Bool) (h : f_laws_eqPart a0 a1 = some r) : FC Tryz.prog 141 [.ag (XPart.row a0),.ag (XPart.row a1)] [.sc (.v (.bool r))] := by
 unfold f_laws_eqPart at h
 refine FC_go (σ := ⟨[(0,va [aI a0.Amp,aI a0.Period,aI a0.Phase]),(1,va [aI a1.Amp,aI a1.Period,aI a1.Phase])],[],[]⟩) mixed ee464 rfl rfl ?_
 simp only [cc463]
 try simp only [Nat.reduceBEq,reduceMul,reduceAdd,reduceDiv,Int.reduceBEq,RR]
 refine go_bx rfl rfl rfl ?_
 try simp only [Nat.reduceBEq,reduceMul,reduceAdd,reduceDiv,Int.reduceBEq,RR]
 refine go_bx rfl rfl rfl ?_
 rcases Bool.eq_false_or_eq_true (a0.Amp != a1.Amp) with hb1 | hb1
 ·rw [ite_t hb1] at h
  try simp only [hb1,Nat.reduceBEq,reduceMul,reduceAdd,reduceDiv,Int.reduceBEq,RR]
  cases h
  exact ⟨⟨rfl,trivial⟩,rfl⟩
 ·rw [ite_f hb1] at h
  rcases Bool.eq_false_or_eq_true (a0.Period != a1.Period) with hb2 | hb2
  ·rw [ite_t hb2] at h
   try simp only [hb1,hb2,Nat.reduceBEq,reduceMul,reduceAdd,reduceDiv,Int.reduceBEq,RR]
   cases h
   exact ⟨⟨rfl,trivial⟩,rfl⟩
  ·rw [ite_f hb2] at h
   rcases Bool.eq_false_or_eq_true (a0.Phase != a1.Phase) with hb3 | hb3
   ·rw [ite_t hb3] at h
    try simp only [hb1,hb2,hb3,Nat.reduceBEq,reduceMul,reduceAdd,reduceDiv,Int.reduceBEq,RR]
    cases h
    exact ⟨⟨rfl,trivial⟩,rfl⟩
   ·rw [ite_f hb3] at h
    try simp only [hb1,hb2,hb3,Nat.reduceBEq,reduceMul,reduceAdd,reduceDiv,Int.reduceBEq,RR]
    cases h
    exact ⟨⟨rfl,trivial⟩,rfl⟩
/- 121: laws_eqPartS -/
def cc465 : ACode := .seq (.reg [(none,.keep [0,1,5] [] [])]) (.seq (.seq (.reg [mv 11 5,mv 12 0,(none,.len 13 (S 12)),bn 14 .lss 11 13]) (.cond (S 14) .skip (.exit 0))) (.seq (.block 1 (.seq (.drw [(some [],mv 17 0),(some [],mv 18 5),(some [],(none,.iaddr 19 (S 17) (S 18) 3)),(some [],(none,.load 20 (S 19) true 3)),(some [],mv 21 1),(some [],mv 22 5),(some [],(none,.iaddr 23 (S 21) (S 22) 3)),(some [],(none,.load 24 (S 23) true 3)),(some [],(none,.call 25 141 [(S 20),(S 24)])),(some [],(none,.un 26 .not (S 25)))]) (.cond (S 26) (.seq (.reg [(none,.mv 4 (KB false))]) .ret) .skip))) (.reg [mv 15 5,(none,.bin 16 .add (S 15) (K 1)),mv 5 16])))
def cc466 : ACode := (.seq (.reg [(none,.mv 4 (KB true))]) .ret)
def cc467 : ACode := (.seq (.reg [(none,.mv 4 (KB false))]) (.seq (.seq (.reg [mv 6 0,(none,.len 7 (S 6)),mv 8 1,(none,.len 9 (S 8)),bn 10 .neq 7 9]) (.cond (S 10) (.seq (.reg [(none,.mv 4 (KB false))]) .ret) .skip)) (.seq (.seq (.reg [(none,.mv 5 (K 0))]) (.block 0 (.loop cc465))) cc466)))
theorem ww468 (a0 : List XPart) (a1 : List XPart) : ∀ (n : Nat) (v2 : Int) (r : Bool),f_laws_eqPartS_1 a0 a1 n v2 = some r → ∀ σ : St,σ.kept [0,1,5] [] [] = ⟨[(0,vc (aL (List.map XPart.row a0))),(1,vc (aL (List.map XPart.row a1))),(5,vc (aI v2))],[],[]⟩ → go Tryz.prog (.code (.loop cc465) :: [.blk 0,.code cc466]) (Ret [4] [.sc (.v (.bool r))]) .normal (some σ) := by
 intro n
 induction n with
 | zero => intro _ r h; cases h
 | succ n ih =>
  intro v2 r h σ hσ
  rw [f_laws_eqPartS_1] at h
  refine go_round ?_
  rcases Bool.eq_false_or_eq_true (decide (v2 < (a0.length : Int))) with hb3 | hb3
  ·rw [ite_t hb3] at h
   try simp only [hσ,hb3,cc465,Nat.reduceBEq,reduceMul,reduceAdd,reduceDiv,Int.reduceBEq,RR]
   refine go_fr_of rfl ?_
   obtain ⟨x4,hx4,h⟩ := ob h
   obtain ⟨x5,hx5,h⟩ := ob h
   obtain ⟨r6,hr6,h⟩ := ob h
   try simp only [hb3,hx4,hx5,Nat.reduceBEq,reduceMul,reduceAdd,reduceDiv,Int.reduceBEq,RR]
   refine go_dcallI (w_laws_eqPart _ _ _ hr6) rfl rfl (Nat.le_of_ble_eq_true rfl) ?_
   rcases Bool.eq_false_or_eq_true r6 with hb7 | hb7
   ·rw [ite_t hb7] at h
    try simp only [hb3,hx4,hx5,hb7,Nat.reduceBEq,reduceMul,reduceAdd,reduceDiv,Int.reduceBEq,RR]
    refine ih _ _ h _ ?_
    try simp only [hb3,hx4,hx5,hb7,Nat.reduceBEq,reduceMul,reduceAdd,reduceDiv,Int.reduceBEq,RR,List.map_nil]
   ·rw [ite_f hb7] at h
    try simp only [hb3,hx4,hx5,hb7,Nat.reduceBEq,reduceMul,reduceAdd,reduceDiv,Int.reduceBEq,RR]
    cases h
    exact ⟨⟨rfl,trivial⟩,rfl⟩
  ·rw [ite_f hb3] at h
   try simp only [hσ,hb3,cc465,cc466,Nat.reduceBEq,reduceMul,reduceAdd,reduceDiv,Int.reduceBEq,RR]
   cases h
   exact ⟨⟨rfl,trivial⟩,rfl⟩
theorem ee469 : entry Tryz.prog 121 = some (cc467.strip,[4],27) := by kernel_rfl
theorem w_laws_eqPartS (a0 : List XPart) (a1 : List XPart) (r : Bool) (h : f_laws_eqPartS a0 a1 = some r) : FC Tryz.prog 121 [.sc (.sl (List.map XPart.row a0)),.sc (.sl (List.map XPart.row a1))] [.sc (.v (.bool r))] := by
 unfold f_laws_eqPartS at h
 refine FC_go (σ := ⟨[(0,vc (aL (List.map XPart.row a0))),(1,vc (aL (List.map XPart.row a1)))],[],[]⟩) mixed ee469 rfl rfl ?_
 simp only [cc467]
 rcases Bool.eq_false_or_eq_true ((a0.length : Int) != (a1.length : Int)) with hb1 | hb1
 ·rw [ite_t hb1] at h
  try simp only [hb1,Nat.reduceBEq,reduceMul,reduceAdd,reduceDiv,Int.reduceBEq,RR]
  cases h
  exact ⟨⟨rfl,trivial⟩,rfl⟩
 ·rw [ite_f hb1] at h
  try simp only [hb1,Nat.reduceBEq,reduceMul,reduceAdd,reduceDiv,Int.reduceBEq,RR]
  refine ww468 _ _ _ _ _ h _ ?_
  try simp only [hb1,Nat.reduceBEq,reduceMul,reduceAdd,reduceDiv,Int.reduceBEq,RR,List.map_nil]
/- 72: laws_eqTide -/
def cc470 : ACode := (.seq (.reg [(none,.box 2 (S 0)),(none,.box 3 (S 1)),(none,.mv 4 (KB false))]) (.seq (.seq (.reg [fa 5 2 0,ld 6 5,fa 7 3 0,ld 8 7,bn 9 .neq 6 8]) (.cond (S 9) (.seq (.reg [(none,.mv 4 (KB false))]) .ret) .skip)) (.seq (.seq (.reg [fa 10 2 1,ld 11 10,fa 12 3 1,ld 13 12,(none,.call 14 121 [(S 11),(S 13)]),(none,.un 15 .not (S 14))]) (.cond (S 15) (.seq (.reg [(none,.mv 4 (KB false))]) .ret) .skip)) (.seq (.reg [(none,.mv 4 (KB true))]) .ret))))
theorem ee471 : entry Tryz.prog 72 = some (cc470.strip,[4],16) := by kernel_rfl
theorem w_laws_eqTide (a0 : XTide) (a1 : XTide) (r : Bool) (h : f_laws_eqTide a0 a1 = some r) : FC Tryz.prog 72 [.ag (XTide.row a0),.ag (XTide.row a1)] [.sc (.v (.bool r))] := by
 unfold f_laws_eqTide at h
 refine FC_go (σ := ⟨[(0,va [aI a0.Mean,aL (List.map XPart.row a0.Parts)]),(1,va [aI a1.Mean,aL (List.map XPart.row a1.Parts)])],[],[]⟩) mixed ee471 rfl rfl ?_
 simp only [cc470]
 try simp only [Nat.reduceBEq,reduceMul,reduceAdd,reduceDiv,Int.reduceBEq,RR]
 refine go_bx rfl rfl rfl ?_
 try simp only [Nat.reduceBEq,reduceMul,reduceAdd,reduceDiv,Int.reduceBEq,RR]
 refine go_bx rfl rfl rfl ?_
 rcases Bool.eq_false_or_eq_true (a0.Mean != a1.Mean) with hb1 | hb1
 ·rw [ite_t hb1] at h
  try simp only [hb1,Nat.reduceBEq,reduceMul,reduceAdd,reduceDiv,Int.reduceBEq,RR]
  cases h
  exact ⟨⟨rfl,trivial⟩,rfl⟩
 ·rw [ite_f hb1] at h
  obtain ⟨r2,hr2,h⟩ := ob h
  try simp only [hb1,Nat.reduceBEq,reduceMul,reduceAdd,reduceDiv,Int.reduceBEq,RR]
  refine go_callI (w_laws_eqPartS _ _ _ hr2) rfl rfl (Nat.le_of_ble_eq_true rfl) ?_
  rcases Bool.eq_false_or_eq_true r2 with hb3 | hb3
  ·rw [ite_t hb3] at h
   try simp only [hb1,hb3,Nat.reduceBEq,reduceMul,reduceAdd,reduceDiv,Int.reduceBEq,RR]
   cases h
   exact ⟨⟨rfl,trivial⟩,rfl⟩
  ·rw [ite_f hb3] at h
   try simp only [hb1,hb3,Nat.reduceBEq,reduceMul,reduceAdd,reduceDiv,Int.reduceBEq,RR]
   cases h
   exact ⟨⟨rfl,trivial⟩,rfl⟩
/- 122: laws_eqSurge -/
def cc472 : ACode := (.seq (.reg [(none,.box 2 (S 0)),(none,.box 3 (S 1)),(none,.mv 4 (KB false))]) (.seq (.seq (.reg [fa 5 2 0,ld 6 5,fa 7 3 0,ld 8 7,bn 9 .neq 6 8]) (.cond (S 9) (.seq (.reg [(none,.mv 4 (KB false))]) .ret) .skip)) (.seq (.seq (.reg [fa 10 2 1,ld 11 10,fa 12 3 1,ld 13 12,bn 14 .neq 11 13]) (.cond (S 14) (.seq (.reg [(none,.mv 4 (KB false))]) .ret) .skip)) (.seq (.seq (.reg [fa 15 2 2,ld 16 15,fa 17 3 2,ld 18 17,bn 19 .neq 16 18]) (.cond (S 19) (.seq (.reg [(none,.mv 4 (KB false))]) .ret) .skip)) (.seq (.reg [(none,.mv 4 (KB true))]) .ret)))))
theorem ee473 : entry Tryz.prog 122 = some (cc472.strip,[4],20) := by kernel_rfl
theorem w_laws_eqSurge (a0 : XSurge) (a1 : XSurge) (r : Bool) (h : f_laws_eqSurge a0 a1 = some r) : FC Tryz.prog 122 [.ag (XSurge.row a0),.ag (XSurge.row a1)] [.sc (.v (.bool r))] := by
 unfold f_laws_eqSurge at h
 refine FC_go (σ := ⟨[(0,va [aI a0.From,aI a0.Low,aI a0.High]),(1,va [aI a1.From,aI a1.Low,aI a1.High])],[],[]⟩) mixed ee473 rfl rfl ?_
 simp only [cc472]
 try simp only [Nat.reduceBEq,reduceMul,reduceAdd,reduceDiv,Int.reduceBEq,RR]
 refine go_bx rfl rfl rfl ?_
 try simp only [Nat.reduceBEq,reduceMul,reduceAdd,reduceDiv,Int.reduceBEq,RR]
 refine go_bx rfl rfl rfl ?_
 rcases Bool.eq_false_or_eq_true (a0.From != a1.From) with hb1 | hb1
 ·rw [ite_t hb1] at h
  try simp only [hb1,Nat.reduceBEq,reduceMul,reduceAdd,reduceDiv,Int.reduceBEq,RR]
  cases h
  exact ⟨⟨rfl,trivial⟩,rfl⟩
 ·rw [ite_f hb1] at h
  rcases Bool.eq_false_or_eq_true (a0.Low != a1.Low) with hb2 | hb2
  ·rw [ite_t hb2] at h
   try simp only [hb1,hb2,Nat.reduceBEq,reduceMul,reduceAdd,reduceDiv,Int.reduceBEq,RR]
   cases h
   exact ⟨⟨rfl,trivial⟩,rfl⟩
  ·rw [ite_f hb2] at h
   rcases Bool.eq_false_or_eq_true (a0.High != a1.High) with hb3 | hb3
   ·rw [ite_t hb3] at h
    try simp only [hb1,hb2,hb3,Nat.reduceBEq,reduceMul,reduceAdd,reduceDiv,Int.reduceBEq,RR]
    cases h
    exact ⟨⟨rfl,trivial⟩,rfl⟩
   ·rw [ite_f hb3] at h
    try simp only [hb1,hb2,hb3,Nat.reduceBEq,reduceMul,reduceAdd,reduceDiv,Int.reduceBEq,RR]
    cases h
    exact ⟨⟨rfl,trivial⟩,rfl⟩
/- 73: laws_eqSurgeS -/
def cc474 : ACode := .seq (.reg [(none,.keep [0,1,5] [] [])]) (.seq (.seq (.reg [mv 11 5,mv 12 0,(none,.len 13 (S 12)),bn 14 .lss 11 13]) (.cond (S 14) .skip (.exit 0))) (.seq (.block 1 (.seq (.drw [(some [],mv 17 0),(some [],mv 18 5),(some [],(none,.iaddr 19 (S 17) (S 18) 3)),(some [],(none,.load 20 (S 19) true 3)),(some [],mv 21 1),(some [],mv 22 5),(some [],(none,.iaddr 23 (S 21) (S 22) 3)),(some [],(none,.load 24 (S 23) true 3)),(some [],(none,.call 25 122 [(S 20),(S 24)])),(some [],(none,.un 26 .not (S 25)))]) (.cond (S 26) (.seq (.reg [(none,.mv 4 (KB false))]) .ret) .skip))) (.reg [mv 15 5,(none,.bin 16 .add (S 15) (K 1)),mv 5 16])))
def cc475 : ACode := (.seq (.reg [(none,.mv 4 (KB true))]) .ret)
def cc476 : ACode := (.seq (.reg [(none,.mv 4 (KB false))]) (.seq (.seq (.reg [mv 6 0,(none,.len 7 (S 6)),mv 8 1,(none,.len 9 (S 8)),bn 10 .neq 7 9]) (.cond (S 10) (.seq (.reg [(none,.mv 4 (KB false))]) .ret) .skip)) (.seq (.seq (.reg [(none,.mv 5 (K 0))]) (.block 0 (.loop cc474))) cc475)))
theorem ww477 (a0 : List XSurge) (a1 : List XSurge) : ∀ (n : Nat) (v2 : Int) (r : Bool),f_laws_eqSurgeS_1 a0 a1 n v2 = some r → ∀ σ : St,σ.kept [0,1,5] [] [] = ⟨[(0,vc (aL (List.map XSurge.row a0))),(1,vc (aL (List.map XSurge.row a1))),(5,vc (aI v2))],[],[]⟩ → go Tryz.prog (.code (.loop cc474) :: [.blk 0,.code cc475]) (Ret [4] [.sc (.v (.bool r))]) .normal (some σ) := by
 intro n
 induction n with
 | zero => intro _ r h; cases h
 | succ n ih =>
  intro v2 r h σ hσ
  rw [f_laws_eqSurgeS_1] at h
  refine go_round ?_
  rcases Bool.eq_false_or_eq_true (decide (v2 < (a0.length : Int))) with hb3 | hb3
  ·rw [ite_t hb3] at h
   try simp only [hσ,hb3,cc474,Nat.reduceBEq,reduceMul,reduceAdd,reduceDiv,Int.reduceBEq,RR]
   refine go_fr_of rfl ?_
   obtain ⟨x4,hx4,h⟩ := ob h
   obtain ⟨x5,hx5,h⟩ := ob h
   obtain ⟨r6,hr6,h⟩ := ob h
   try simp only [hb3,hx4,hx5,Nat.reduceBEq,reduceMul,reduceAdd,reduceDiv,Int.reduceBEq,RR]
   refine go_dcallI (w_laws_eqSurge _ _ _ hr6) rfl rfl (Nat.le_of_ble_eq_true rfl) ?_
   rcases Bool.eq_false_or_eq_true r6 with hb7 | hb7
   ·rw [ite_t hb7] at h
    try simp only [hb3,hx4,hx5,hb7,Nat.reduceBEq,reduceMul,reduceAdd,reduceDiv,Int.reduceBEq,RR]
    refine ih _ _ h _ ?_
    try simp only [hb3,hx4,hx5,hb7,Nat.reduceBEq,reduceMul,reduceAdd,reduceDiv,Int.reduceBEq,RR,List.map_nil]
   ·rw [ite_f hb7] at h
    try simp only [hb3,hx4,hx5,hb7,Nat.reduceBEq,reduceMul,reduceAdd,reduceDiv,Int.reduceBEq,RR]
    cases h
    exact ⟨⟨rfl,trivial⟩,rfl⟩
  ·rw [ite_f hb3] at h
   try simp only [hσ,hb3,cc474,cc475,Nat.reduceBEq,reduceMul,reduceAdd,reduceDiv,Int.reduceBEq,RR]
   cases h
   exact ⟨⟨rfl,trivial⟩,rfl⟩
theorem ee478 : entry Tryz.prog 73 = some (cc476.strip,[4],27) := by kernel_rfl
theorem w_laws_eqSurgeS (a0 : List XSurge) (a1 : List XSurge) (r : Bool) (h : f_laws_eqSurgeS a0 a1 = some r) : FC Tryz.prog 73 [.sc (.sl (List.map XSurge.row a0)),.sc (.sl (List.map XSurge.row a1))] [.sc (.v (.bool r))] := by
 unfold f_laws_eqSurgeS at h
 refine FC_go (σ := ⟨[(0,vc (aL (List.map XSurge.row a0))),(1,vc (aL (List.map XSurge.row a1)))],[],[]⟩) mixed ee478 rfl rfl ?_
 simp only [cc476]
 rcases Bool.eq_false_or_eq_true ((a0.length : Int) != (a1.length : Int)) with hb1 | hb1
 ·rw [ite_t hb1] at h
  try simp only [hb1,Nat.reduceBEq,reduceMul,reduceAdd,reduceDiv,Int.reduceBEq,RR]
  cases h
  exact ⟨⟨rfl,trivial⟩,rfl⟩
 ·rw [ite_f hb1] at h
  try simp only [hb1,Nat.reduceBEq,reduceMul,reduceAdd,reduceDiv,Int.reduceBEq,RR]
  refine ww477 _ _ _ _ _ h _ ?_
  try simp only [hb1,Nat.reduceBEq,reduceMul,reduceAdd,reduceDiv,Int.reduceBEq,RR,List.map_nil]
/- 33: laws_eqForecast -/
def cc479 : ACode := (.seq (.reg [(none,.box 2 (S 0)),(none,.box 3 (S 1)),(none,.mv 4 (KB false))]) (.seq (.seq (.reg [fa 5 2 0,(none,.load 6 (S 5) true 2),fa 7 3 0,(none,.load 8 (S 7) true 2),(none,.call 9 72 [(S 6),(S 8)]),(none,.un 10 .not (S 9))]) (.cond (S 10) (.seq (.reg [(none,.mv 4 (KB false))]) .ret) .skip)) (.seq (.seq (.reg [fa 11 2 2,ld 12 11,fa 13 3 2,ld 14 13,(none,.call 15 73 [(S 12),(S 14)]),(none,.un 16 .not (S 15))]) (.cond (S 16) (.seq (.reg [(none,.mv 4 (KB false))]) .ret) .skip)) (.seq (.reg [(none,.mv 4 (KB true))]) .ret))))
theorem ee480 : entry Tryz.prog 33 = some (cc479.strip,[4],17) := by kernel_rfl
theorem w_laws_eqForecast (a0 : XForecast) (a1 : XForecast) (r : Bool) (h : f_laws_eqForecast a0 a1 = some r) : FC Tryz.prog 33 [.ag (XForecast.row a0),.ag (XForecast.row a1)] [.sc (.v (.bool r))] := by
 unfold f_laws_eqForecast at h
 refine FC_go (σ := ⟨[(0,va [aI a0.Tide.Mean,aL (List.map XPart.row a0.Tide.Parts),aL (List.map XSurge.row a0.Surges)]),(1,va [aI a1.Tide.Mean,aL (List.map XPart.row a1.Tide.Parts),aL (List.map XSurge.row a1.Surges)])],[],[]⟩) mixed ee480 rfl rfl ?_
 simp only [cc479]
 try simp only [Nat.reduceBEq,reduceMul,reduceAdd,reduceDiv,Int.reduceBEq,RR]
 refine go_bx rfl rfl rfl ?_
 try simp only [Nat.reduceBEq,reduceMul,reduceAdd,reduceDiv,Int.reduceBEq,RR]
 refine go_bx rfl rfl rfl ?_
 obtain ⟨r1,hr1,h⟩ := ob h
 try simp only [Nat.reduceBEq,reduceMul,reduceAdd,reduceDiv,Int.reduceBEq,RR]
 refine go_callI (w_laws_eqTide _ _ _ hr1) rfl rfl (Nat.le_of_ble_eq_true rfl) ?_
 rcases Bool.eq_false_or_eq_true r1 with hb2 | hb2
 ·rw [ite_t hb2] at h
  obtain ⟨r3,hr3,h⟩ := ob h
  try simp only [hb2,Nat.reduceBEq,reduceMul,reduceAdd,reduceDiv,Int.reduceBEq,RR]
  refine go_callI (w_laws_eqSurgeS _ _ _ hr3) rfl rfl (Nat.le_of_ble_eq_true rfl) ?_
  rcases Bool.eq_false_or_eq_true r3 with hb4 | hb4
  ·rw [ite_t hb4] at h
   try simp only [hb2,hb4,Nat.reduceBEq,reduceMul,reduceAdd,reduceDiv,Int.reduceBEq,RR]
   cases h
   exact ⟨⟨rfl,trivial⟩,rfl⟩
  ·rw [ite_f hb4] at h
   try simp only [hb2,hb4,Nat.reduceBEq,reduceMul,reduceAdd,reduceDiv,Int.reduceBEq,RR]
   cases h
   exact ⟨⟨rfl,trivial⟩,rfl⟩
 ·rw [ite_f hb2] at h
  try simp only [hb2,Nat.reduceBEq,reduceMul,reduceAdd,reduceDiv,Int.reduceBEq,RR]
  cases h
  exact ⟨⟨rfl,trivial⟩,rfl⟩
/- 123: laws_eqPoint -/
def cc481 : ACode := (.seq (.reg [(none,.box 2 (S 0)),(none,.box 3 (S 1)),(none,.mv 4 (KB false))]) (.seq (.seq (.reg [fa 5 2 0,ld 6 5,fa 7 3 0,ld 8 7,bn 9 .neq 6 8]) (.cond (S 9) (.seq (.reg [(none,.mv 4 (KB false))]) .ret) .skip)) (.seq (.seq (.reg [fa 10 2 1,ld 11 10,fa 12 3 1,ld 13 12,(none,.beq 14 true (S 11) (S 13))]) (.cond (S 14) (.seq (.reg [(none,.mv 4 (KB false))]) .ret) .skip)) (.seq (.reg [(none,.mv 4 (KB true))]) .ret))))
theorem ee482 : entry Tryz.prog 123 = some (cc481.strip,[4],15) := by kernel_rfl
theorem w_laws_eqPoint (a0 : XPoint) (a1 : XPoint) (r : Bool) (h : f_laws_eqPoint a0 a1 = some r) : FC Tryz.prog 123 [.ag (XPoint.row a0),.ag (XPoint.row a1)] [.sc (.v (.bool r))] := by
 unfold f_laws_eqPoint at h
 refine FC_go (σ := ⟨[(0,va [aS a0.Name,aB a0.Wait]),(1,va [aS a1.Name,aB a1.Wait])],[],[]⟩) mixed ee482 rfl rfl ?_
 simp only [cc481]
 try simp only [Nat.reduceBEq,reduceMul,reduceAdd,reduceDiv,Int.reduceBEq,RR]
 refine go_bx rfl rfl rfl ?_
 try simp only [Nat.reduceBEq,reduceMul,reduceAdd,reduceDiv,Int.reduceBEq,RR]
 refine go_bx rfl rfl rfl ?_
 rcases Bool.eq_false_or_eq_true (a0.Name == a1.Name) with hb1 | hb1
 ·rw [ite_t hb1] at h
  rcases Bool.eq_false_or_eq_true (a0.Wait == a1.Wait) with hb2 | hb2
  ·rw [ite_t hb2] at h
   try simp only [hb1,hb2,Nat.reduceBEq,reduceMul,reduceAdd,reduceDiv,Int.reduceBEq,RR]
   cases h
   exact ⟨⟨rfl,trivial⟩,rfl⟩
  ·rw [ite_f hb2] at h
   try simp only [hb1,hb2,Nat.reduceBEq,reduceMul,reduceAdd,reduceDiv,Int.reduceBEq,RR]
   cases h
   exact ⟨⟨rfl,trivial⟩,rfl⟩
 ·rw [ite_f hb1] at h
  try simp only [hb1,Nat.reduceBEq,reduceMul,reduceAdd,reduceDiv,Int.reduceBEq,RR]
  cases h
  exact ⟨⟨rfl,trivial⟩,rfl⟩
/- 74: laws_eqPointS -/
def cc483 : ACode := .seq (.reg [(none,.keep [0,1,5] [] [])]) (.seq (.seq (.reg [mv 11 5,mv 12 0,(none,.len 13 (S 12)),bn 14 .lss 11 13]) (.cond (S 14) .skip (.exit 0))) (.seq (.block 1 (.seq (.drw [(some [],mv 17 0),(some [],mv 18 5),(some [],(none,.iaddr 19 (S 17) (S 18) 2)),(some [],(none,.load 20 (S 19) true 2)),(some [],mv 21 1),(some [],mv 22 5),(some [],(none,.iaddr 23 (S 21) (S 22) 2)),(some [],(none,.load 24 (S 23) true 2)),(some [],(none,.call 25 123 [(S 20),(S 24)])),(some [],(none,.un 26 .not (S 25)))]) (.cond (S 26) (.seq (.reg [(none,.mv 4 (KB false))]) .ret) .skip))) (.reg [mv 15 5,(none,.bin 16 .add (S 15) (K 1)),mv 5 16])))
def cc484 : ACode := (.seq (.reg [(none,.mv 4 (KB true))]) .ret)
def cc485 : ACode := (.seq (.reg [(none,.mv 4 (KB false))]) (.seq (.seq (.reg [mv 6 0,(none,.len 7 (S 6)),mv 8 1,(none,.len 9 (S 8)),bn 10 .neq 7 9]) (.cond (S 10) (.seq (.reg [(none,.mv 4 (KB false))]) .ret) .skip)) (.seq (.seq (.reg [(none,.mv 5 (K 0))]) (.block 0 (.loop cc483))) cc484)))
theorem ww486 (a0 : List XPoint) (a1 : List XPoint) : ∀ (n : Nat) (v2 : Int) (r : Bool),f_laws_eqPointS_1 a0 a1 n v2 = some r → ∀ σ : St,σ.kept [0,1,5] [] [] = ⟨[(0,vc (aL (List.map XPoint.row a0))),(1,vc (aL (List.map XPoint.row a1))),(5,vc (aI v2))],[],[]⟩ → go Tryz.prog (.code (.loop cc483) :: [.blk 0,.code cc484]) (Ret [4] [.sc (.v (.bool r))]) .normal (some σ) := by
 intro n
 induction n with
 | zero => intro _ r h; cases h
 | succ n ih =>
  intro v2 r h σ hσ
  rw [f_laws_eqPointS_1] at h
  refine go_round ?_
  rcases Bool.eq_false_or_eq_true (decide (v2 < (a0.length : Int))) with hb3 | hb3
  ·rw [ite_t hb3] at h
   try simp only [hσ,hb3,cc483,Nat.reduceBEq,reduceMul,reduceAdd,reduceDiv,Int.reduceBEq,RR]
   refine go_fr_of rfl ?_
   obtain ⟨x4,hx4,h⟩ := ob h
   obtain ⟨x5,hx5,h⟩ := ob h
   obtain ⟨r6,hr6,h⟩ := ob h
   try simp only [hb3,hx4,hx5,Nat.reduceBEq,reduceMul,reduceAdd,reduceDiv,Int.reduceBEq,RR]
   refine go_dcallI (w_laws_eqPoint _ _ _ hr6) rfl rfl (Nat.le_of_ble_eq_true rfl) ?_
   rcases Bool.eq_false_or_eq_true r6 with hb7 | hb7
   ·rw [ite_t hb7] at h
    try simp only [hb3,hx4,hx5,hb7,Nat.reduceBEq,reduceMul,reduceAdd,reduceDiv,Int.reduceBEq,RR]
    refine ih _ _ h _ ?_
    try simp only [hb3,hx4,hx5,hb7,Nat.reduceBEq,reduceMul,reduceAdd,reduceDiv,Int.reduceBEq,RR,List.map_nil]
   ·rw [ite_f hb7] at h
    try simp only [hb3,hx4,hx5,hb7,Nat.reduceBEq,reduceMul,reduceAdd,reduceDiv,Int.reduceBEq,RR]
    cases h
    exact ⟨⟨rfl,trivial⟩,rfl⟩
  ·rw [ite_f hb3] at h
   try simp only [hσ,hb3,cc483,cc484,Nat.reduceBEq,reduceMul,reduceAdd,reduceDiv,Int.reduceBEq,RR]
   cases h
   exact ⟨⟨rfl,trivial⟩,rfl⟩
theorem ee487 : entry Tryz.prog 74 = some (cc485.strip,[4],27) := by kernel_rfl
theorem w_laws_eqPointS (a0 : List XPoint) (a1 : List XPoint) (r : Bool) (h : f_laws_eqPointS a0 a1 = some r) : FC Tryz.prog 74 [.sc (.sl (List.map XPoint.row a0)),.sc (.sl (List.map XPoint.row a1))] [.sc (.v (.bool r))] := by
 unfold f_laws_eqPointS at h
 refine FC_go (σ := ⟨[(0,vc (aL (List.map XPoint.row a0))),(1,vc (aL (List.map XPoint.row a1)))],[],[]⟩) mixed ee487 rfl rfl ?_
 simp only [cc485]
 rcases Bool.eq_false_or_eq_true ((a0.length : Int) != (a1.length : Int)) with hb1 | hb1
 ·rw [ite_t hb1] at h
  try simp only [hb1,Nat.reduceBEq,reduceMul,reduceAdd,reduceDiv,Int.reduceBEq,RR]
  cases h
  exact ⟨⟨rfl,trivial⟩,rfl⟩
 ·rw [ite_f hb1] at h
  try simp only [hb1,Nat.reduceBEq,reduceMul,reduceAdd,reduceDiv,Int.reduceBEq,RR]
  refine ww486 _ _ _ _ _ h _ ?_
  try simp only [hb1,Nat.reduceBEq,reduceMul,reduceAdd,reduceDiv,Int.reduceBEq,RR,List.map_nil]
/- 124: laws_eqSegment -/
def cc488 : ACode := (.seq (.reg [(none,.box 2 (S 0)),(none,.box 3 (S 1)),(none,.mv 4 (KB false))]) (.seq (.seq (.reg [fa 5 2 0,ld 6 5,fa 7 3 0,ld 8 7,bn 9 .neq 6 8]) (.cond (S 9) (.seq (.reg [(none,.mv 4 (KB false))]) .ret) .skip)) (.seq (.seq (.reg [fa 10 2 1,ld 11 10,fa 12 3 1,ld 13 12,bn 14 .neq 11 13]) (.cond (S 14) (.seq (.reg [(none,.mv 4 (KB false))]) .ret) .skip)) (.seq (.seq (.reg [fa 15 2 2,ld 16 15,fa 17 3 2,ld 18 17,bn 19 .neq 16 18]) (.cond (S 19) (.seq (.reg [(none,.mv 4 (KB false))]) .ret) .skip)) (.seq (.seq (.reg [fa 20 2 3,ld 21 20,fa 22 3 3,ld 23 22,bn 24 .neq 21 23]) (.cond (S 24) (.seq (.reg [(none,.mv 4 (KB false))]) .ret) .skip)) (.seq (.seq (.reg [fa 25 2 4,ld 26 25,fa 27 3 4,ld 28 27,(none,.beq 29 true (S 26) (S 28))]) (.cond (S 29) (.seq (.reg [(none,.mv 4 (KB false))]) .ret) .skip)) (.seq (.reg [(none,.mv 4 (KB true))]) .ret)))))))
theorem ee489 : entry Tryz.prog 124 = some (cc488.strip,[4],30) := by kernel_rfl
theorem w_laws_eqSegment (a0 : XSegment) (a1 : XSegment) (r : Bool) (h : f_laws_eqSegment a0 a1 = some r) : FC Tryz.prog 124 [.ag (XSegment.row a0),.ag (XSegment.row a1)] [.sc (.v (.bool r))] := by
 unfold f_laws_eqSegment at h
 refine FC_go (σ := ⟨[(0,va [aI a0.A,aI a0.B,aI a0.Depth,aI a0.Minutes,aB a0.Meet]),(1,va [aI a1.A,aI a1.B,aI a1.Depth,aI a1.Minutes,aB a1.Meet])],[],[]⟩) mixed ee489 rfl rfl ?_
 simp only [cc488]
 try simp only [Nat.reduceBEq,reduceMul,reduceAdd,reduceDiv,Int.reduceBEq,RR]
 refine go_bx rfl rfl rfl ?_
 try simp only [Nat.reduceBEq,reduceMul,reduceAdd,reduceDiv,Int.reduceBEq,RR]
 refine go_bx rfl rfl rfl ?_
 rcases Bool.eq_false_or_eq_true (a0.A != a1.A) with hb1 | hb1
 ·rw [ite_t hb1] at h
  try simp only [hb1,Nat.reduceBEq,reduceMul,reduceAdd,reduceDiv,Int.reduceBEq,RR]
  cases h
  exact ⟨⟨rfl,trivial⟩,rfl⟩
 ·rw [ite_f hb1] at h
  rcases Bool.eq_false_or_eq_true (a0.B != a1.B) with hb2 | hb2
  ·rw [ite_t hb2] at h
   try simp only [hb1,hb2,Nat.reduceBEq,reduceMul,reduceAdd,reduceDiv,Int.reduceBEq,RR]
   cases h
   exact ⟨⟨rfl,trivial⟩,rfl⟩
  ·rw [ite_f hb2] at h
   rcases Bool.eq_false_or_eq_true (a0.Depth != a1.Depth) with hb3 | hb3
   ·rw [ite_t hb3] at h
    try simp only [hb1,hb2,hb3,Nat.reduceBEq,reduceMul,reduceAdd,reduceDiv,Int.reduceBEq,RR]
    cases h
    exact ⟨⟨rfl,trivial⟩,rfl⟩
   ·rw [ite_f hb3] at h
    rcases Bool.eq_false_or_eq_true (a0.Minutes != a1.Minutes) with hb4 | hb4
    ·rw [ite_t hb4] at h
     try simp only [hb1,hb2,hb3,hb4,Nat.reduceBEq,reduceMul,reduceAdd,reduceDiv,Int.reduceBEq,RR]
     cases h
     exact ⟨⟨rfl,trivial⟩,rfl⟩
    ·rw [ite_f hb4] at h
     rcases Bool.eq_false_or_eq_true (a0.Meet == a1.Meet) with hb5 | hb5
     ·rw [ite_t hb5] at h
      try simp only [hb1,hb2,hb3,hb4,hb5,Nat.reduceBEq,reduceMul,reduceAdd,reduceDiv,Int.reduceBEq,RR]
      cases h
      exact ⟨⟨rfl,trivial⟩,rfl⟩
     ·rw [ite_f hb5] at h
      try simp only [hb1,hb2,hb3,hb4,hb5,Nat.reduceBEq,reduceMul,reduceAdd,reduceDiv,Int.reduceBEq,RR]
      cases h
      exact ⟨⟨rfl,trivial⟩,rfl⟩
/- 75: laws_eqSegmentS -/
def cc490 : ACode := .seq (.reg [(none,.keep [0,1,5] [] [])]) (.seq (.seq (.reg [mv 11 5,mv 12 0,(none,.len 13 (S 12)),bn 14 .lss 11 13]) (.cond (S 14) .skip (.exit 0))) (.seq (.block 1 (.seq (.drw [(some [],mv 17 0),(some [],mv 18 5),(some [],(none,.iaddr 19 (S 17) (S 18) 5)),(some [],(none,.load 20 (S 19) true 5)),(some [],mv 21 1),(some [],mv 22 5),(some [],(none,.iaddr 23 (S 21) (S 22) 5)),(some [],(none,.load 24 (S 23) true 5)),(some [],(none,.call 25 124 [(S 20),(S 24)])),(some [],(none,.un 26 .not (S 25)))]) (.cond (S 26) (.seq (.reg [(none,.mv 4 (KB false))]) .ret) .skip))) (.reg [mv 15 5,(none,.bin 16 .add (S 15) (K 1)),mv 5 16])))
def cc491 : ACode := (.seq (.reg [(none,.mv 4 (KB true))]) .ret)
def cc492 : ACode := (.seq (.reg [(none,.mv 4 (KB false))]) (.seq (.seq (.reg [mv 6 0,(none,.len 7 (S 6)),mv 8 1,(none,.len 9 (S 8)),bn 10 .neq 7 9]) (.cond (S 10) (.seq (.reg [(none,.mv 4 (KB false))]) .ret) .skip)) (.seq (.seq (.reg [(none,.mv 5 (K 0))]) (.block 0 (.loop cc490))) cc491)))
theorem ww493 (a0 : List XSegment) (a1 : List XSegment) : ∀ (n : Nat) (v2 : Int) (r : Bool),f_laws_eqSegmentS_1 a0 a1 n v2 = some r → ∀ σ : St,σ.kept [0,1,5] [] [] = ⟨[(0,vc (aL (List.map XSegment.row a0))),(1,vc (aL (List.map XSegment.row a1))),(5,vc (aI v2))],[],[]⟩ → go Tryz.prog (.code (.loop cc490) :: [.blk 0,.code cc491]) (Ret [4] [.sc (.v (.bool r))]) .normal (some σ) := by
 intro n
 induction n with
 | zero => intro _ r h; cases h
 | succ n ih =>
  intro v2 r h σ hσ
  rw [f_laws_eqSegmentS_1] at h
  refine go_round ?_
  rcases Bool.eq_false_or_eq_true (decide (v2 < (a0.length : Int))) with hb3 | hb3
  ·rw [ite_t hb3] at h
   try simp only [hσ,hb3,cc490,Nat.reduceBEq,reduceMul,reduceAdd,reduceDiv,Int.reduceBEq,RR]
   refine go_fr_of rfl ?_
   obtain ⟨x4,hx4,h⟩ := ob h
   obtain ⟨x5,hx5,h⟩ := ob h
   obtain ⟨r6,hr6,h⟩ := ob h
   try simp only [hb3,hx4,hx5,Nat.reduceBEq,reduceMul,reduceAdd,reduceDiv,Int.reduceBEq,RR]
   refine go_dcallI (w_laws_eqSegment _ _ _ hr6) rfl rfl (Nat.le_of_ble_eq_true rfl) ?_
   rcases Bool.eq_false_or_eq_true r6 with hb7 | hb7
   ·rw [ite_t hb7] at h
    try simp only [hb3,hx4,hx5,hb7,Nat.reduceBEq,reduceMul,reduceAdd,reduceDiv,Int.reduceBEq,RR]
    refine ih _ _ h _ ?_
    try simp only [hb3,hx4,hx5,hb7,Nat.reduceBEq,reduceMul,reduceAdd,reduceDiv,Int.reduceBEq,RR,List.map_nil]
   ·rw [ite_f hb7] at h
    try simp only [hb3,hx4,hx5,hb7,Nat.reduceBEq,reduceMul,reduceAdd,reduceDiv,Int.reduceBEq,RR]
    cases h
    exact ⟨⟨rfl,trivial⟩,rfl⟩
  ·rw [ite_f hb3] at h
   try simp only [hσ,hb3,cc490,cc491,Nat.reduceBEq,reduceMul,reduceAdd,reduceDiv,Int.reduceBEq,RR]
   cases h
   exact ⟨⟨rfl,trivial⟩,rfl⟩
theorem ee494 : entry Tryz.prog 75 = some (cc492.strip,[4],27) := by kernel_rfl
theorem w_laws_eqSegmentS (a0 : List XSegment) (a1 : List XSegment) (r : Bool) (h : f_laws_eqSegmentS a0 a1 = some r) : FC Tryz.prog 75 [.sc (.sl (List.map XSegment.row a0)),.sc (.sl (List.map XSegment.row a1))] [.sc (.v (.bool r))] := by
 unfold f_laws_eqSegmentS at h
 refine FC_go (σ := ⟨[(0,vc (aL (List.map XSegment.row a0))),(1,vc (aL (List.map XSegment.row a1)))],[],[]⟩) mixed ee494 rfl rfl ?_
 simp only [cc492]
 rcases Bool.eq_false_or_eq_true ((a0.length : Int) != (a1.length : Int)) with hb1 | hb1
 ·rw [ite_t hb1] at h
  try simp only [hb1,Nat.reduceBEq,reduceMul,reduceAdd,reduceDiv,Int.reduceBEq,RR]
  cases h
  exact ⟨⟨rfl,trivial⟩,rfl⟩
 ·rw [ite_f hb1] at h
  try simp only [hb1,Nat.reduceBEq,reduceMul,reduceAdd,reduceDiv,Int.reduceBEq,RR]
  refine ww493 _ _ _ _ _ h _ ?_
  try simp only [hb1,Nat.reduceBEq,reduceMul,reduceAdd,reduceDiv,Int.reduceBEq,RR,List.map_nil]
/- 34: laws_eqChart -/
def cc495 : ACode := (.seq (.reg [(none,.box 2 (S 0)),(none,.box 3 (S 1)),(none,.mv 4 (KB false))]) (.seq (.seq (.reg [fa 5 2 0,ld 6 5,fa 7 3 0,ld 8 7,(none,.call 9 74 [(S 6),(S 8)]),(none,.un 10 .not (S 9))]) (.cond (S 10) (.seq (.reg [(none,.mv 4 (KB false))]) .ret) .skip)) (.seq (.seq (.reg [fa 11 2 1,ld 12 11,fa 13 3 1,ld 14 13,(none,.call 15 75 [(S 12),(S 14)]),(none,.un 16 .not (S 15))]) (.cond (S 16) (.seq (.reg [(none,.mv 4 (KB false))]) .ret) .skip)) (.seq (.reg [(none,.mv 4 (KB true))]) .ret))))
theorem ee496 : entry Tryz.prog 34 = some (cc495.strip,[4],17) := by kernel_rfl
theorem w_laws_eqChart (a0 : XChart) (a1 : XChart) (r : Bool) (h : f_laws_eqChart a0 a1 = some r) : FC Tryz.prog 34 [.ag (XChart.row a0),.ag (XChart.row a1)] [.sc (.v (.bool r))] := by
 unfold f_laws_eqChart at h
 refine FC_go (σ := ⟨[(0,va [aL (List.map XPoint.row a0.Points),aL (List.map XSegment.row a0.Segments)]),(1,va [aL (List.map XPoint.row a1.Points),aL (List.map XSegment.row a1.Segments)])],[],[]⟩) mixed ee496 rfl rfl ?_
 simp only [cc495]
 try simp only [Nat.reduceBEq,reduceMul,reduceAdd,reduceDiv,Int.reduceBEq,RR]
 refine go_bx rfl rfl rfl ?_
 try simp only [Nat.reduceBEq,reduceMul,reduceAdd,reduceDiv,Int.reduceBEq,RR]
 refine go_bx rfl rfl rfl ?_
 obtain ⟨r1,hr1,h⟩ := ob h
 try simp only [Nat.reduceBEq,reduceMul,reduceAdd,reduceDiv,Int.reduceBEq,RR]
 refine go_callI (w_laws_eqPointS _ _ _ hr1) rfl rfl (Nat.le_of_ble_eq_true rfl) ?_
 rcases Bool.eq_false_or_eq_true r1 with hb2 | hb2
 ·rw [ite_t hb2] at h
  obtain ⟨r3,hr3,h⟩ := ob h
  try simp only [hb2,Nat.reduceBEq,reduceMul,reduceAdd,reduceDiv,Int.reduceBEq,RR]
  refine go_callI (w_laws_eqSegmentS _ _ _ hr3) rfl rfl (Nat.le_of_ble_eq_true rfl) ?_
  rcases Bool.eq_false_or_eq_true r3 with hb4 | hb4
  ·rw [ite_t hb4] at h
   try simp only [hb2,hb4,Nat.reduceBEq,reduceMul,reduceAdd,reduceDiv,Int.reduceBEq,RR]
   cases h
   exact ⟨⟨rfl,trivial⟩,rfl⟩
  ·rw [ite_f hb4] at h
   try simp only [hb2,hb4,Nat.reduceBEq,reduceMul,reduceAdd,reduceDiv,Int.reduceBEq,RR]
   cases h
   exact ⟨⟨rfl,trivial⟩,rfl⟩
 ·rw [ite_f hb2] at h
  try simp only [hb2,Nat.reduceBEq,reduceMul,reduceAdd,reduceDiv,Int.reduceBEq,RR]
  cases h
  exact ⟨⟨rfl,trivial⟩,rfl⟩
/- 76: laws_eqShip -/
def cc497 : ACode := (.seq (.reg [(none,.box 2 (S 0)),(none,.box 3 (S 1)),(none,.mv 4 (KB false))]) (.seq (.seq (.reg [fa 5 2 0,ld 6 5,fa 7 3 0,ld 8 7,bn 9 .neq 6 8]) (.cond (S 9) (.seq (.reg [(none,.mv 4 (KB false))]) .ret) .skip)) (.seq (.seq (.reg [fa 10 2 1,ld 11 10,fa 12 3 1,ld 13 12,bn 14 .neq 11 13]) (.cond (S 14) (.seq (.reg [(none,.mv 4 (KB false))]) .ret) .skip)) (.seq (.seq (.reg [fa 15 2 2,ld 16 15,fa 17 3 2,ld 18 17,bn 19 .neq 16 18]) (.cond (S 19) (.seq (.reg [(none,.mv 4 (KB false))]) .ret) .skip)) (.seq (.seq (.reg [fa 20 2 3,ld 21 20,fa 22 3 3,ld 23 22,bn 24 .neq 21 23]) (.cond (S 24) (.seq (.reg [(none,.mv 4 (KB false))]) .ret) .skip)) (.seq (.seq (.reg [fa 25 2 4,ld 26 25,fa 27 3 4,ld 28 27,bn 29 .neq 26 28]) (.cond (S 29) (.seq (.reg [(none,.mv 4 (KB false))]) .ret) .skip)) (.seq (.seq (.reg [fa 30 2 5,ld 31 30,fa 32 3 5,ld 33 32,(none,.beq 34 true (S 31) (S 33))]) (.cond (S 34) (.seq (.reg [(none,.mv 4 (KB false))]) .ret) .skip)) (.seq (.reg [(none,.mv 4 (KB true))]) .ret))))))))
theorem ee498 : entry Tryz.prog 76 = some (cc497.strip,[4],35) := by kernel_rfl
theorem w_laws_eqShip (a0 : XShip) (a1 : XShip) (r : Bool) (h : f_laws_eqShip a0 a1 = some r) : FC Tryz.prog 76 [.ag (XShip.row a0),.ag (XShip.row a1)] [.sc (.v (.bool r))] := by
 unfold f_laws_eqShip at h
 refine FC_go (σ := ⟨[(0,va [aS a0.Name,aI a0.Length,aI a0.Draught,aI a0.Line,aI a0.Tugs,aB a0.Slow]),(1,va [aS a1.Name,aI a1.Length,aI a1.Draught,aI a1.Line,aI a1.Tugs,aB a1.Slow])],[],[]⟩) mixed ee498 rfl rfl ?_
 simp only [cc497]
 try simp only [Nat.reduceBEq,reduceMul,reduceAdd,reduceDiv,Int.reduceBEq,RR]
 refine go_bx rfl rfl rfl ?_
 try simp only [Nat.reduceBEq,reduceMul,reduceAdd,reduceDiv,Int.reduceBEq,RR]
 refine go_bx rfl rfl rfl ?_
 rcases Bool.eq_false_or_eq_true (a0.Name == a1.Name) with hb1 | hb1
 ·rw [ite_t hb1] at h
  rcases Bool.eq_false_or_eq_true (a0.Length != a1.Length) with hb2 | hb2
  ·rw [ite_t hb2] at h
   try simp only [hb1,hb2,Nat.reduceBEq,reduceMul,reduceAdd,reduceDiv,Int.reduceBEq,RR]
   cases h
   exact ⟨⟨rfl,trivial⟩,rfl⟩
  ·rw [ite_f hb2] at h
   rcases Bool.eq_false_or_eq_true (a0.Draught != a1.Draught) with hb3 | hb3
   ·rw [ite_t hb3] at h
    try simp only [hb1,hb2,hb3,Nat.reduceBEq,reduceMul,reduceAdd,reduceDiv,Int.reduceBEq,RR]
    cases h
    exact ⟨⟨rfl,trivial⟩,rfl⟩
   ·rw [ite_f hb3] at h
    rcases Bool.eq_false_or_eq_true (a0.Line != a1.Line) with hb4 | hb4
    ·rw [ite_t hb4] at h
     try simp only [hb1,hb2,hb3,hb4,Nat.reduceBEq,reduceMul,reduceAdd,reduceDiv,Int.reduceBEq,RR]
     cases h
     exact ⟨⟨rfl,trivial⟩,rfl⟩
    ·rw [ite_f hb4] at h
     rcases Bool.eq_false_or_eq_true (a0.Tugs != a1.Tugs) with hb5 | hb5
     ·rw [ite_t hb5] at h
      try simp only [hb1,hb2,hb3,hb4,hb5,Nat.reduceBEq,reduceMul,reduceAdd,reduceDiv,Int.reduceBEq,RR]
      cases h
      exact ⟨⟨rfl,trivial⟩,rfl⟩
     ·rw [ite_f hb5] at h
      rcases Bool.eq_false_or_eq_true (a0.Slow == a1.Slow) with hb6 | hb6
      ·rw [ite_t hb6] at h
       try simp only [hb1,hb2,hb3,hb4,hb5,hb6,Nat.reduceBEq,reduceMul,reduceAdd,reduceDiv,Int.reduceBEq,RR]
       cases h
       exact ⟨⟨rfl,trivial⟩,rfl⟩
      ·rw [ite_f hb6] at h
       try simp only [hb1,hb2,hb3,hb4,hb5,hb6,Nat.reduceBEq,reduceMul,reduceAdd,reduceDiv,Int.reduceBEq,RR]
       cases h
       exact ⟨⟨rfl,trivial⟩,rfl⟩
 ·rw [ite_f hb1] at h
  try simp only [hb1,Nat.reduceBEq,reduceMul,reduceAdd,reduceDiv,Int.reduceBEq,RR]
  cases h
  exact ⟨⟨rfl,trivial⟩,rfl⟩
/- 35: laws_eqShipS -/
def cc499 : ACode := .seq (.reg [(none,.keep [0,1,5] [] [])]) (.seq (.seq (.reg [mv 11 5,mv 12 0,(none,.len 13 (S 12)),bn 14 .lss 11 13]) (.cond (S 14) .skip (.exit 0))) (.seq (.block 1 (.seq (.drw [(some [],mv 17 0),(some [],mv 18 5),(some [],(none,.iaddr 19 (S 17) (S 18) 6)),(some [],(none,.load 20 (S 19) true 6)),(some [],mv 21 1),(some [],mv 22 5),(some [],(none,.iaddr 23 (S 21) (S 22) 6)),(some [],(none,.load 24 (S 23) true 6)),(some [],(none,.call 25 76 [(S 20),(S 24)])),(some [],(none,.un 26 .not (S 25)))]) (.cond (S 26) (.seq (.reg [(none,.mv 4 (KB false))]) .ret) .skip))) (.reg [mv 15 5,(none,.bin 16 .add (S 15) (K 1)),mv 5 16])))
def cc500 : ACode := (.seq (.reg [(none,.mv 4 (KB true))]) .ret)
def cc501 : ACode := (.seq (.reg [(none,.mv 4 (KB false))]) (.seq (.seq (.reg [mv 6 0,(none,.len 7 (S 6)),mv 8 1,(none,.len 9 (S 8)),bn 10 .neq 7 9]) (.cond (S 10) (.seq (.reg [(none,.mv 4 (KB false))]) .ret) .skip)) (.seq (.seq (.reg [(none,.mv 5 (K 0))]) (.block 0 (.loop cc499))) cc500)))
theorem ww502 (a0 : List XShip) (a1 : List XShip) : ∀ (n : Nat) (v2 : Int) (r : Bool),f_laws_eqShipS_1 a0 a1 n v2 = some r → ∀ σ : St,σ.kept [0,1,5] [] [] = ⟨[(0,vc (aL (List.map XShip.row a0))),(1,vc (aL (List.map XShip.row a1))),(5,vc (aI v2))],[],[]⟩ → go Tryz.prog (.code (.loop cc499) :: [.blk 0,.code cc500]) (Ret [4] [.sc (.v (.bool r))]) .normal (some σ) := by
 intro n
 induction n with
 | zero => intro _ r h; cases h
 | succ n ih =>
  intro v2 r h σ hσ
  rw [f_laws_eqShipS_1] at h
  refine go_round ?_
  rcases Bool.eq_false_or_eq_true (decide (v2 < (a0.length : Int))) with hb3 | hb3
  ·rw [ite_t hb3] at h
   try simp only [hσ,hb3,cc499,Nat.reduceBEq,reduceMul,reduceAdd,reduceDiv,Int.reduceBEq,RR]
   refine go_fr_of rfl ?_
   obtain ⟨x4,hx4,h⟩ := ob h
   obtain ⟨x5,hx5,h⟩ := ob h
   obtain ⟨r6,hr6,h⟩ := ob h
   try simp only [hb3,hx4,hx5,Nat.reduceBEq,reduceMul,reduceAdd,reduceDiv,Int.reduceBEq,RR]
   refine go_dcallI (w_laws_eqShip _ _ _ hr6) rfl rfl (Nat.le_of_ble_eq_true rfl) ?_
   rcases Bool.eq_false_or_eq_true r6 with hb7 | hb7
   ·rw [ite_t hb7] at h
    try simp only [hb3,hx4,hx5,hb7,Nat.reduceBEq,reduceMul,reduceAdd,reduceDiv,Int.reduceBEq,RR]
    refine ih _ _ h _ ?_
    try simp only [hb3,hx4,hx5,hb7,Nat.reduceBEq,reduceMul,reduceAdd,reduceDiv,Int.reduceBEq,RR,List.map_nil]
   ·rw [ite_f hb7] at h
    try simp only [hb3,hx4,hx5,hb7,Nat.reduceBEq,reduceMul,reduceAdd,reduceDiv,Int.reduceBEq,RR]
    cases h
    exact ⟨⟨rfl,trivial⟩,rfl⟩
  ·rw [ite_f hb3] at h
   try simp only [hσ,hb3,cc499,cc500,Nat.reduceBEq,reduceMul,reduceAdd,reduceDiv,Int.reduceBEq,RR]
   cases h
   exact ⟨⟨rfl,trivial⟩,rfl⟩
theorem ee503 : entry Tryz.prog 35 = some (cc501.strip,[4],27) := by kernel_rfl
theorem w_laws_eqShipS (a0 : List XShip) (a1 : List XShip) (r : Bool) (h : f_laws_eqShipS a0 a1 = some r) : FC Tryz.prog 35 [.sc (.sl (List.map XShip.row a0)),.sc (.sl (List.map XShip.row a1))] [.sc (.v (.bool r))] := by
 unfold f_laws_eqShipS at h
 refine FC_go (σ := ⟨[(0,vc (aL (List.map XShip.row a0))),(1,vc (aL (List.map XShip.row a1)))],[],[]⟩) mixed ee503 rfl rfl ?_
 simp only [cc501]
 rcases Bool.eq_false_or_eq_true ((a0.length : Int) != (a1.length : Int)) with hb1 | hb1
 ·rw [ite_t hb1] at h
  try simp only [hb1,Nat.reduceBEq,reduceMul,reduceAdd,reduceDiv,Int.reduceBEq,RR]
  cases h
  exact ⟨⟨rfl,trivial⟩,rfl⟩
 ·rw [ite_f hb1] at h
  try simp only [hb1,Nat.reduceBEq,reduceMul,reduceAdd,reduceDiv,Int.reduceBEq,RR]
  refine ww502 _ _ _ _ _ h _ ?_
  try simp only [hb1,Nat.reduceBEq,reduceMul,reduceAdd,reduceDiv,Int.reduceBEq,RR,List.map_nil]
/- 36: laws_eqRegime -/
def cc504 : ACode := (.seq (.reg [(none,.box 2 (S 0)),(none,.box 3 (S 1)),(none,.mv 4 (KB false))]) (.seq (.seq (.reg [fa 5 2 0,ld 6 5,fa 7 3 0,ld 8 7,bn 9 .neq 6 8]) (.cond (S 9) (.seq (.reg [(none,.mv 4 (KB false))]) .ret) .skip)) (.seq (.seq (.reg [fa 10 2 1,ld 11 10,fa 12 3 1,ld 13 12,(none,.beq 14 true (S 11) (S 13))]) (.cond (S 14) (.seq (.reg [(none,.mv 4 (KB false))]) .ret) .skip)) (.seq (.reg [(none,.mv 4 (KB true))]) .ret))))
theorem ee505 : entry Tryz.prog 36 = some (cc504.strip,[4],15) := by kernel_rfl
theorem w_laws_eqRegime (a0 : XRegime) (a1 : XRegime) (r : Bool) (h : f_laws_eqRegime a0 a1 = some r) : FC Tryz.prog 36 [.ag (XRegime.row a0),.ag (XRegime.row a1)] [.sc (.v (.bool r))] := by
 unfold f_laws_eqRegime at h
 refine FC_go (σ := ⟨[(0,va [aI a0.Gap,aB a0.NoMeet]),(1,va [aI a1.Gap,aB a1.NoMeet])],[],[]⟩) mixed ee505 rfl rfl ?_
 simp only [cc504]
 try simp only [Nat.reduceBEq,reduceMul,reduceAdd,reduceDiv,Int.reduceBEq,RR]
 refine go_bx rfl rfl rfl ?_
 try simp only [Nat.reduceBEq,reduceMul,reduceAdd,reduceDiv,Int.reduceBEq,RR]
 refine go_bx rfl rfl rfl ?_
 rcases Bool.eq_false_or_eq_true (a0.Gap != a1.Gap) with hb1 | hb1
 ·rw [ite_t hb1] at h
  try simp only [hb1,Nat.reduceBEq,reduceMul,reduceAdd,reduceDiv,Int.reduceBEq,RR]
  cases h
  exact ⟨⟨rfl,trivial⟩,rfl⟩
 ·rw [ite_f hb1] at h
  rcases Bool.eq_false_or_eq_true (a0.NoMeet == a1.NoMeet) with hb2 | hb2
  ·rw [ite_t hb2] at h
   try simp only [hb1,hb2,Nat.reduceBEq,reduceMul,reduceAdd,reduceDiv,Int.reduceBEq,RR]
   cases h
   exact ⟨⟨rfl,trivial⟩,rfl⟩
  ·rw [ite_f hb2] at h
   try simp only [hb1,hb2,Nat.reduceBEq,reduceMul,reduceAdd,reduceDiv,Int.reduceBEq,RR]
   cases h
   exact ⟨⟨rfl,trivial⟩,rfl⟩
/- 77: laws_eqIntS -/
def cc506 : ACode := .seq (.reg [(none,.keep [0,1,5] [] [])]) (.seq (.seq (.reg [mv 11 5,mv 12 0,(none,.len 13 (S 12)),bn 14 .lss 11 13]) (.cond (S 14) .skip (.exit 0))) (.seq (.block 1 (.seq (.drw [(some [],mv 17 0),(some [],mv 18 5),(some [],(none,.iaddr 19 (S 17) (S 18) 1)),(some [],ld 20 19),(some [],mv 21 1),(some [],mv 22 5),(some [],(none,.iaddr 23 (S 21) (S 22) 1)),(some [],ld 24 23),(some [],bn 25 .neq 20 24)]) (.cond (S 25) (.seq (.reg [(none,.mv 4 (KB false))]) .ret) .skip))) (.reg [mv 15 5,(none,.bin 16 .add (S 15) (K 1)),mv 5 16])))
def cc507 : ACode := (.seq (.reg [(none,.mv 4 (KB true))]) .ret)
def cc508 : ACode := (.seq (.reg [(none,.mv 4 (KB false))]) (.seq (.seq (.reg [mv 6 0,(none,.len 7 (S 6)),mv 8 1,(none,.len 9 (S 8)),bn 10 .neq 7 9]) (.cond (S 10) (.seq (.reg [(none,.mv 4 (KB false))]) .ret) .skip)) (.seq (.seq (.reg [(none,.mv 5 (K 0))]) (.block 0 (.loop cc506))) cc507)))
theorem ww509 (a0 : List Int) (a1 : List Int) : ∀ (n : Nat) (v2 : Int) (r : Bool),f_laws_eqIntS_1 a0 a1 n v2 = some r → ∀ σ : St,σ.kept [0,1,5] [] [] = ⟨[(0,vc (aL (List.map rI a0))),(1,vc (aL (List.map rI a1))),(5,vc (aI v2))],[],[]⟩ → go Tryz.prog (.code (.loop cc506) :: [.blk 0,.code cc507]) (Ret [4] [.sc (.v (.bool r))]) .normal (some σ) := by
 intro n
 induction n with
 | zero => intro _ r h; cases h
 | succ n ih =>
  intro v2 r h σ hσ
  rw [f_laws_eqIntS_1] at h
  refine go_round ?_
  rcases Bool.eq_false_or_eq_true (decide (v2 < (a0.length : Int))) with hb3 | hb3
  ·rw [ite_t hb3] at h
   try simp only [hσ,hb3,cc506,Nat.reduceBEq,reduceMul,reduceAdd,reduceDiv,Int.reduceBEq,RR]
   refine go_fr_of rfl ?_
   obtain ⟨x4,hx4,h⟩ := ob h
   obtain ⟨x5,hx5,h⟩ := ob h
   rcases Bool.eq_false_or_eq_true (x4 != x5) with hb6 | hb6
   ·rw [ite_t hb6] at h
    try simp only [hb3,hx4,hx5,hb6,Nat.reduceBEq,reduceMul,reduceAdd,reduceDiv,Int.reduceBEq,RR]
    cases h
    exact ⟨⟨rfl,trivial⟩,rfl⟩
   ·rw [ite_f hb6] at h
    try simp only [hb3,hx4,hx5,hb6,Nat.reduceBEq,reduceMul,reduceAdd,reduceDiv,Int.reduceBEq,RR]
    refine ih _ _ h _ ?_
    try simp only [hb3,hx4,hx5,hb6,Nat.reduceBEq,reduceMul,reduceAdd,reduceDiv,Int.reduceBEq,RR,List.map_nil]
  ·rw [ite_f hb3] at h
   try simp only [hσ,hb3,cc506,cc507,Nat.reduceBEq,reduceMul,reduceAdd,reduceDiv,Int.reduceBEq,RR]
   cases h
   exact ⟨⟨rfl,trivial⟩,rfl⟩
theorem ee510 : entry Tryz.prog 77 = some (cc508.strip,[4],26) := by kernel_rfl
theorem w_laws_eqIntS (a0 : List Int) (a1 : List Int) (r : Bool) (h : f_laws_eqIntS a0 a1 = some r) : FC Tryz.prog 77 [.sc (.sl (List.map rI a0)),.sc (.sl (List.map rI a1))] [.sc (.v (.bool r))] := by
 unfold f_laws_eqIntS at h
 refine FC_go (σ := ⟨[(0,vc (aL (List.map rI a0))),(1,vc (aL (List.map rI a1)))],[],[]⟩) mixed ee510 rfl rfl ?_
 simp only [cc508]
 rcases Bool.eq_false_or_eq_true ((a0.length : Int) != (a1.length : Int)) with hb1 | hb1
 ·rw [ite_t hb1] at h
  try simp only [hb1,Nat.reduceBEq,reduceMul,reduceAdd,reduceDiv,Int.reduceBEq,RR]
  cases h
  exact ⟨⟨rfl,trivial⟩,rfl⟩
 ·rw [ite_f hb1] at h
  try simp only [hb1,Nat.reduceBEq,reduceMul,reduceAdd,reduceDiv,Int.reduceBEq,RR]
  refine ww509 _ _ _ _ _ h _ ?_
  try simp only [hb1,Nat.reduceBEq,reduceMul,reduceAdd,reduceDiv,Int.reduceBEq,RR,List.map_nil]
end Go.Vi
