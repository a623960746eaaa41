/-
  Walks: what the plain definitions compute is what the functions return. By program. No condition.
-/
import Derived.Test.YtoipbdhhdpgdkaaGreatDoorCNf
import Derived.Test.YtoipbdhhdpgdkaaGreatDoorChecked
import Derived.Test.YtoipbdhhdpgdkaaGreatDoorCSh
import Derived.KernelRfl
import Derived.Test.YtoipbdhhdpgdkaaGreatDoorCWCrewLineb
namespace Go.Vi
open Go.Proofs
set_option linter.unusedSimpArgs false
set_option linter.unusedVariables false
set_option maxRecDepth 4000
set_option maxHeartbeats 2000000
open Nat (reduceMul reduceAdd reduceDiv)
attribute [local irreducible] go AWP
/- 37: laws_eqCrew -/
def cc511 : ACode := (.seq (.reg [(none,.box 2 (S 0)),(none,.box 3 (S 1)),(none,.mv 4 (KB false))]) (.seq (.seq (.reg [fa 5 2 0,ld 6 5,fa 7 3 0,ld 8 7,bn 9 .neq 6 8]) (.cond (S 9) (.seq (.reg [(none,.mv 4 (KB false))]) .ret) .skip)) (.seq (.seq (.reg [fa 10 2 1,ld 11 10,fa 12 3 1,ld 13 12,bn 14 .neq 11 13]) (.cond (S 14) (.seq (.reg [(none,.mv 4 (KB false))]) .ret) .skip)) (.seq (.seq (.reg [fa 15 2 2,ld 16 15,fa 17 3 2,ld 18 17,bn 19 .neq 16 18]) (.cond (S 19) (.seq (.reg [(none,.mv 4 (KB false))]) .ret) .skip)) (.seq (.seq (.reg [fa 20 2 3,ld 21 20,fa 22 3 3,ld 23 22,(none,.call 24 77 [(S 21),(S 23)]),(none,.un 25 .not (S 24))]) (.cond (S 25) (.seq (.reg [(none,.mv 4 (KB false))]) .ret) .skip)) (.seq (.reg [(none,.mv 4 (KB true))]) .ret))))))
theorem ee512 : entry Tryz.prog 37 = some (cc511.strip,[4],26) := by kernel_rfl
theorem w_laws_eqCrew (a0 : XCrew) (a1 : XCrew) (r : Bool) (h : f_laws_eqCrew a0 a1 = some r) : FC Tryz.prog 37 [.ag (XCrew.row a0),.ag (XCrew.row a1)] [.sc (.v (.bool r))] := by
 unfold f_laws_eqCrew at h
 refine FC_go (σ := ⟨[(0,va [aI a0.Tugs,aI a0.Pilots,aI a0.Rest,aL (List.map rI a0.Moves)]),(1,va [aI a1.Tugs,aI a1.Pilots,aI a1.Rest,aL (List.map rI a1.Moves)])],[],[]⟩) mixed ee512 rfl rfl ?_
 simp only [cc511]
 try simp only [Nat.reduceBEq,reduceMul,reduceAdd,reduceDiv,Int.reduceBEq,RR]
 refine go_bx rfl rfl rfl ?_
 try simp only [Nat.reduceBEq,reduceMul,reduceAdd,reduceDiv,Int.reduceBEq,RR]
 refine go_bx rfl rfl rfl ?_
 rcases Bool.eq_false_or_eq_true (a0.Tugs != a1.Tugs) with hb1 | hb1
 ·rw [ite_t hb1] at h
  try simp only [hb1,Nat.reduceBEq,reduceMul,reduceAdd,reduceDiv,Int.reduceBEq,RR]
  cases h
  exact ⟨⟨rfl,trivial⟩,rfl⟩
 ·rw [ite_f hb1] at h
  rcases Bool.eq_false_or_eq_true (a0.Pilots != a1.Pilots) with hb2 | hb2
  ·rw [ite_t hb2] at h
   try simp only [hb1,hb2,Nat.reduceBEq,reduceMul,reduceAdd,reduceDiv,Int.reduceBEq,RR]
   cases h
   exact ⟨⟨rfl,trivial⟩,rfl⟩
  ·rw [ite_f hb2] at h
   rcases Bool.eq_false_or_eq_true (a0.Rest != a1.Rest) with hb3 | hb3
   ·rw [ite_t hb3] at h
    try simp only [hb1,hb2,hb3,Nat.reduceBEq,reduceMul,reduceAdd,reduceDiv,Int.reduceBEq,RR]
    cases h
    exact ⟨⟨rfl,trivial⟩,rfl⟩
   ·rw [ite_f hb3] at h
    obtain ⟨r4,hr4,h⟩ := ob h
    try simp only [hb1,hb2,hb3,Nat.reduceBEq,reduceMul,reduceAdd,reduceDiv,Int.reduceBEq,RR]
    refine go_callI (w_laws_eqIntS _ _ _ hr4) rfl rfl (Nat.le_of_ble_eq_true rfl) ?_
    rcases Bool.eq_false_or_eq_true r4 with hb5 | hb5
    ·rw [ite_t hb5] at h
     try simp only [hb1,hb2,hb3,hb5,Nat.reduceBEq,reduceMul,reduceAdd,reduceDiv,Int.reduceBEq,RR]
     cases h
     exact ⟨⟨rfl,trivial⟩,rfl⟩
    ·rw [ite_f hb5] at h
     try simp only [hb1,hb2,hb3,hb5,Nat.reduceBEq,reduceMul,reduceAdd,reduceDiv,Int.reduceBEq,RR]
     cases h
     exact ⟨⟨rfl,trivial⟩,rfl⟩
/- 10: laws_eqHarbour -/
def cc513 : ACode := (.seq (.reg [(none,.box 2 (S 0)),(none,.box 3 (S 1)),(none,.mv 4 (KB false))]) (.seq (.seq (.reg [fa 5 2 0,(none,.load 6 (S 5) true 3),fa 7 3 0,(none,.load 8 (S 7) true 3),(none,.call 9 33 [(S 6),(S 8)]),(none,.un 10 .not (S 9))]) (.cond (S 10) (.seq (.reg [(none,.mv 4 (KB false))]) .ret) .skip)) (.seq (.seq (.reg [fa 11 2 3,(none,.load 12 (S 11) true 2),fa 13 3 3,(none,.load 14 (S 13) true 2),(none,.call 15 34 [(S 12),(S 14)]),(none,.un 16 .not (S 15))]) (.cond (S 16) (.seq (.reg [(none,.mv 4 (KB false))]) .ret) .skip)) (.seq (.seq (.reg [fa 17 2 5,ld 18 17,fa 19 3 5,ld 20 19,(none,.call 21 35 [(S 18),(S 20)]),(none,.un 22 .not (S 21))]) (.cond (S 22) (.seq (.reg [(none,.mv 4 (KB false))]) .ret) .skip)) (.seq (.seq (.reg [fa 23 2 6,(none,.load 24 (S 23) true 2),fa 25 3 6,(none,.load 26 (S 25) true 2),(none,.call 27 36 [(S 24),(S 26)]),(none,.un 28 .not (S 27))]) (.cond (S 28) (.seq (.reg [(none,.mv 4 (KB false))]) .ret) .skip)) (.seq (.seq (.reg [fa 29 2 8,(none,.load 30 (S 29) true 4),fa 31 3 8,(none,.load 32 (S 31) true 4),(none,.call 33 37 [(S 30),(S 32)]),(none,.un 34 .not (S 33))]) (.cond (S 34) (.seq (.reg [(none,.mv 4 (KB false))]) .ret) .skip)) (.seq (.reg [(none,.mv 4 (KB true))]) .ret)))))))
theorem ee514 : entry Tryz.prog 10 = some (cc513.strip,[4],35) := by kernel_rfl
theorem w_laws_eqHarbour (a0 : XHarbour) (a1 : XHarbour) (r : Bool) (h : f_laws_eqHarbour a0 a1 = some r) : FC Tryz.prog 10 [.ag (XHarbour.row a0),.ag (XHarbour.row a1)] [.sc (.v (.bool r))] := by
 unfold f_laws_eqHarbour at h
 refine FC_go (σ := ⟨[(0,va [aI a0.Forecast.Tide.Mean,aL (List.map XPart.row a0.Forecast.Tide.Parts),aL (List.map XSurge.row a0.Forecast.Surges),aL (List.map XPoint.row a0.Chart.Points),aL (List.map XSegment.row a0.Chart.Segments),aL (List.map XShip.row a0.Fleet),aI a0.Regime.Gap,aB a0.Regime.NoMeet,aI a0.Crew.Tugs,aI a0.Crew.Pilots,aI a0.Crew.Rest,aL (List.map rI a0.Crew.Moves)]),(1,va [aI a1.Forecast.Tide.Mean,aL (List.map XPart.row a1.Forecast.Tide.Parts),aL (List.map XSurge.row a1.Forecast.Surges),aL (List.map XPoint.row a1.Chart.Points),aL (List.map XSegment.row a1.Chart.Segments),aL (List.map XShip.row a1.Fleet),aI a1.Regime.Gap,aB a1.Regime.NoMeet,aI a1.Crew.Tugs,aI a1.Crew.Pilots,aI a1.Crew.Rest,aL (List.map rI a1.Crew.Moves)])],[],[]⟩) mixed ee514 rfl rfl ?_
 simp only [cc513]
 try simp only [Nat.reduceBEq,reduceMul,reduceAdd,reduceDiv,Int.reduceBEq,RR]
 refine go_bx rfl rfl rfl ?_
 try simp only [Nat.reduceBEq,reduceMul,reduceAdd,reduceDiv,Int.reduceBEq,RR]
 refine go_bx rfl rfl rfl ?_
 obtain ⟨r1,hr1,h⟩ := ob h
 try simp only [Nat.reduceBEq,reduceMul,reduceAdd,reduceDiv,Int.reduceBEq,RR]
 refine go_callI (w_laws_eqForecast _ _ _ hr1) rfl rfl (Nat.le_of_ble_eq_true rfl) ?_
 rcases Bool.eq_false_or_eq_true r1 with hb2 | hb2
 ·rw [ite_t hb2] at h
  obtain ⟨r3,hr3,h⟩ := ob h
  try simp only [hb2,Nat.reduceBEq,reduceMul,reduceAdd,reduceDiv,Int.reduceBEq,RR]
  refine go_callI (w_laws_eqChart _ _ _ hr3) rfl rfl (Nat.le_of_ble_eq_true rfl) ?_
  rcases Bool.eq_false_or_eq_true r3 with hb4 | hb4
  ·rw [ite_t hb4] at h
   obtain ⟨r5,hr5,h⟩ := ob h
   try simp only [hb2,hb4,Nat.reduceBEq,reduceMul,reduceAdd,reduceDiv,Int.reduceBEq,RR]
   refine go_callI (w_laws_eqShipS _ _ _ hr5) rfl rfl (Nat.le_of_ble_eq_true rfl) ?_
   rcases Bool.eq_false_or_eq_true r5 with hb6 | hb6
   ·rw [ite_t hb6] at h
    obtain ⟨r7,hr7,h⟩ := ob h
    try simp only [hb2,hb4,hb6,Nat.reduceBEq,reduceMul,reduceAdd,reduceDiv,Int.reduceBEq,RR]
    refine go_callI (w_laws_eqRegime _ _ _ hr7) rfl rfl (Nat.le_of_ble_eq_true rfl) ?_
    rcases Bool.eq_false_or_eq_true r7 with hb8 | hb8
    ·rw [ite_t hb8] at h
     obtain ⟨r9,hr9,h⟩ := ob h
     try simp only [hb2,hb4,hb6,hb8,Nat.reduceBEq,reduceMul,reduceAdd,reduceDiv,Int.reduceBEq,RR]
     refine go_callI (w_laws_eqCrew _ _ _ hr9) rfl rfl (Nat.le_of_ble_eq_true rfl) ?_
     rcases Bool.eq_false_or_eq_true r9 with hb10 | hb10
     ·rw [ite_t hb10] at h
      try simp only [hb2,hb4,hb6,hb8,hb10,Nat.reduceBEq,reduceMul,reduceAdd,reduceDiv,Int.reduceBEq,RR]
      cases h
      exact ⟨⟨rfl,trivial⟩,rfl⟩
     ·rw [ite_f hb10] at h
      try simp only [hb2,hb4,hb6,hb8,hb10,Nat.reduceBEq,reduceMul,reduceAdd,reduceDiv,Int.reduceBEq,RR]
      cases h
      exact ⟨⟨rfl,trivial⟩,rfl⟩
    ·rw [ite_f hb8] at h
     try simp only [hb2,hb4,hb6,hb8,Nat.reduceBEq,reduceMul,reduceAdd,reduceDiv,Int.reduceBEq,RR]
     cases h
     exact ⟨⟨rfl,trivial⟩,rfl⟩
   ·rw [ite_f hb6] at h
    try simp only [hb2,hb4,hb6,Nat.reduceBEq,reduceMul,reduceAdd,reduceDiv,Int.reduceBEq,RR]
    cases h
    exact ⟨⟨rfl,trivial⟩,rfl⟩
  ·rw [ite_f hb4] at h
   try simp only [hb2,hb4,Nat.reduceBEq,reduceMul,reduceAdd,reduceDiv,Int.reduceBEq,RR]
   cases h
   exact ⟨⟨rfl,trivial⟩,rfl⟩
 ·rw [ite_f hb2] at h
  try simp only [hb2,Nat.reduceBEq,reduceMul,reduceAdd,reduceDiv,Int.reduceBEq,RR]
  cases h
  exact ⟨⟨rfl,trivial⟩,rfl⟩
/- 125: laws_eqPassage -/
def cc515 : ACode := (.seq (.reg [(none,.box 2 (S 0)),(none,.box 3 (S 1)),(none,.mv 4 (KB false))]) (.seq (.seq (.reg [fa 5 2 0,ld 6 5,fa 7 3 0,ld 8 7,bn 9 .neq 6 8]) (.cond (S 9) (.seq (.reg [(none,.mv 4 (KB false))]) .ret) .skip)) (.seq (.seq (.reg [fa 10 2 1,ld 11 10,fa 12 3 1,ld 13 12,bn 14 .neq 11 13]) (.cond (S 14) (.seq (.reg [(none,.mv 4 (KB false))]) .ret) .skip)) (.seq (.seq (.reg [fa 15 2 2,ld 16 15,fa 17 3 2,ld 18 17,(none,.beq 19 true (S 16) (S 18))]) (.cond (S 19) (.seq (.reg [(none,.mv 4 (KB false))]) .ret) .skip)) (.seq (.seq (.reg [fa 20 2 3,ld 21 20,fa 22 3 3,ld 23 22,bn 24 .neq 21 23]) (.cond (S 24) (.seq (.reg [(none,.mv 4 (KB false))]) .ret) .skip)) (.seq (.seq (.reg [fa 25 2 4,ld 26 25,fa 27 3 4,ld 28 27,bn 29 .neq 26 28]) (.cond (S 29) (.seq (.reg [(none,.mv 4 (KB false))]) .ret) .skip)) (.seq (.reg [(none,.mv 4 (KB true))]) .ret)))))))
theorem ee516 : entry Tryz.prog 125 = some (cc515.strip,[4],30) := by kernel_rfl
theorem w_laws_eqPassage (a0 : XPassage) (a1 : XPassage) (r : Bool) (h : f_laws_eqPassage a0 a1 = some r) : FC Tryz.prog 125 [.ag (XPassage.row a0),.ag (XPassage.row a1)] [.sc (.v (.bool r))] := by
 unfold f_laws_eqPassage at h
 refine FC_go (σ := ⟨[(0,va [aI a0.Ship,aI a0.Segment,aB a0.Toward,aI a0.Start,aI a0.End]),(1,va [aI a1.Ship,aI a1.Segment,aB a1.Toward,aI a1.Start,aI a1.End])],[],[]⟩) mixed ee516 rfl rfl ?_
 simp only [cc515]
 try simp only [Nat.reduceBEq,reduceMul,reduceAdd,reduceDiv,Int.reduceBEq,RR]
 refine go_bx rfl rfl rfl ?_
 try simp only [Nat.reduceBEq,reduceMul,reduceAdd,reduceDiv,Int.reduceBEq,RR]
 refine go_bx rfl rfl rfl ?_
 rcases Bool.eq_false_or_eq_true (a0.Ship != a1.Ship) with hb1 | hb1
 ·rw [ite_t hb1] at h
  try simp only [hb1,Nat.reduceBEq,reduceMul,reduceAdd,reduceDiv,Int.reduceBEq,RR]
  cases h
  exact ⟨⟨rfl,trivial⟩,rfl⟩
 ·rw [ite_f hb1] at h
  rcases Bool.eq_false_or_eq_true (a0.Segment != a1.Segment) with hb2 | hb2
  ·rw [ite_t hb2] at h
   try simp only [hb1,hb2,Nat.reduceBEq,reduceMul,reduceAdd,reduceDiv,Int.reduceBEq,RR]
   cases h
   exact ⟨⟨rfl,trivial⟩,rfl⟩
  ·rw [ite_f hb2] at h
   rcases Bool.eq_false_or_eq_true (a0.Toward == a1.Toward) with hb3 | hb3
   ·rw [ite_t hb3] at h
    rcases Bool.eq_false_or_eq_true (a0.Start != a1.Start) with hb4 | hb4
    ·rw [ite_t hb4] at h
     try simp only [hb1,hb2,hb3,hb4,Nat.reduceBEq,reduceMul,reduceAdd,reduceDiv,Int.reduceBEq,RR]
     cases h
     exact ⟨⟨rfl,trivial⟩,rfl⟩
    ·rw [ite_f hb4] at h
     rcases Bool.eq_false_or_eq_true (a0.End != a1.End) with hb5 | hb5
     ·rw [ite_t hb5] at h
      try simp only [hb1,hb2,hb3,hb4,hb5,Nat.reduceBEq,reduceMul,reduceAdd,reduceDiv,Int.reduceBEq,RR]
      cases h
      exact ⟨⟨rfl,trivial⟩,rfl⟩
     ·rw [ite_f hb5] at h
      try simp only [hb1,hb2,hb3,hb4,hb5,Nat.reduceBEq,reduceMul,reduceAdd,reduceDiv,Int.reduceBEq,RR]
      cases h
      exact ⟨⟨rfl,trivial⟩,rfl⟩
   ·rw [ite_f hb3] at h
    try simp only [hb1,hb2,hb3,Nat.reduceBEq,reduceMul,reduceAdd,reduceDiv,Int.reduceBEq,RR]
    cases h
    exact ⟨⟨rfl,trivial⟩,rfl⟩
/- 78: laws_eqPassageS -/
def cc517 : ACode := .seq (.reg [(none,.keep [0,1,5] [] [])]) (.seq (.seq (.reg [mv 11 5,mv 12 0,(none,.len 13 (S 12)),bn 14 .lss 11 13]) (.cond (S 14) .skip (.exit 0))) (.seq (.block 1 (.seq (.drw [(some [],mv 17 0),(some [],mv 18 5),(some [],(none,.iaddr 19 (S 17) (S 18) 5)),(some [],(none,.load 20 (S 19) true 5)),(some [],mv 21 1),(some [],mv 22 5),(some [],(none,.iaddr 23 (S 21) (S 22) 5)),(some [],(none,.load 24 (S 23) true 5)),(some [],(none,.call 25 125 [(S 20),(S 24)])),(some [],(none,.un 26 .not (S 25)))]) (.cond (S 26) (.seq (.reg [(none,.mv 4 (KB false))]) .ret) .skip))) (.reg [mv 15 5,(none,.bin 16 .add (S 15) (K 1)),mv 5 16])))
def cc518 : ACode := (.seq (.reg [(none,.mv 4 (KB true))]) .ret)
def cc519 : ACode := (.seq (.reg [(none,.mv 4 (KB false))]) (.seq (.seq (.reg [mv 6 0,(none,.len 7 (S 6)),mv 8 1,(none,.len 9 (S 8)),bn 10 .neq 7 9]) (.cond (S 10) (.seq (.reg [(none,.mv 4 (KB false))]) .ret) .skip)) (.seq (.seq (.reg [(none,.mv 5 (K 0))]) (.block 0 (.loop cc517))) cc518)))
theorem ww520 (a0 : List XPassage) (a1 : List XPassage) : ∀ (n : Nat) (v2 : Int) (r : Bool),f_laws_eqPassageS_1 a0 a1 n v2 = some r → ∀ σ : St,σ.kept [0,1,5] [] [] = ⟨[(0,vc (aL (List.map XPassage.row a0))),(1,vc (aL (List.map XPassage.row a1))),(5,vc (aI v2))],[],[]⟩ → go Tryz.prog (.code (.loop cc517) :: [.blk 0,.code cc518]) (Ret [4] [.sc (.v (.bool r))]) .normal (some σ) := by
 intro n
 induction n with
 | zero => intro _ r h; cases h
 | succ n ih =>
  intro v2 r h σ hσ
  rw [f_laws_eqPassageS_1] at h
  refine go_round ?_
  rcases Bool.eq_false_or_eq_true (decide (v2 < (a0.length : Int))) with hb3 | hb3
  ·rw [ite_t hb3] at h
   try simp only [hσ,hb3,cc517,Nat.reduceBEq,reduceMul,reduceAdd,reduceDiv,Int.reduceBEq,RR]
   refine go_fr_of rfl ?_
   obtain ⟨x4,hx4,h⟩ := ob h
   obtain ⟨x5,hx5,h⟩ := ob h
   obtain ⟨r6,hr6,h⟩ := ob h
   try simp only [hb3,hx4,hx5,Nat.reduceBEq,reduceMul,reduceAdd,reduceDiv,Int.reduceBEq,RR]
   refine go_dcallI (w_laws_eqPassage _ _ _ hr6) rfl rfl (Nat.le_of_ble_eq_true rfl) ?_
   rcases Bool.eq_false_or_eq_true r6 with hb7 | hb7
   ·rw [ite_t hb7] at h
    try simp only [hb3,hx4,hx5,hb7,Nat.reduceBEq,reduceMul,reduceAdd,reduceDiv,Int.reduceBEq,RR]
    refine ih _ _ h _ ?_
    try simp only [hb3,hx4,hx5,hb7,Nat.reduceBEq,reduceMul,reduceAdd,reduceDiv,Int.reduceBEq,RR,List.map_nil]
   ·rw [ite_f hb7] at h
    try simp only [hb3,hx4,hx5,hb7,Nat.reduceBEq,reduceMul,reduceAdd,reduceDiv,Int.reduceBEq,RR]
    cases h
    exact ⟨⟨rfl,trivial⟩,rfl⟩
  ·rw [ite_f hb3] at h
   try simp only [hσ,hb3,cc517,cc518,Nat.reduceBEq,reduceMul,reduceAdd,reduceDiv,Int.reduceBEq,RR]
   cases h
   exact ⟨⟨rfl,trivial⟩,rfl⟩
theorem ee521 : entry Tryz.prog 78 = some (cc519.strip,[4],27) := by kernel_rfl
theorem w_laws_eqPassageS (a0 : List XPassage) (a1 : List XPassage) (r : Bool) (h : f_laws_eqPassageS a0 a1 = some r) : FC Tryz.prog 78 [.sc (.sl (List.map XPassage.row a0)),.sc (.sl (List.map XPassage.row a1))] [.sc (.v (.bool r))] := by
 unfold f_laws_eqPassageS at h
 refine FC_go (σ := ⟨[(0,vc (aL (List.map XPassage.row a0))),(1,vc (aL (List.map XPassage.row a1)))],[],[]⟩) mixed ee521 rfl rfl ?_
 simp only [cc519]
 rcases Bool.eq_false_or_eq_true ((a0.length : Int) != (a1.length : Int)) with hb1 | hb1
 ·rw [ite_t hb1] at h
  try simp only [hb1,Nat.reduceBEq,reduceMul,reduceAdd,reduceDiv,Int.reduceBEq,RR]
  cases h
  exact ⟨⟨rfl,trivial⟩,rfl⟩
 ·rw [ite_f hb1] at h
  try simp only [hb1,Nat.reduceBEq,reduceMul,reduceAdd,reduceDiv,Int.reduceBEq,RR]
  refine ww520 _ _ _ _ _ h _ ?_
  try simp only [hb1,Nat.reduceBEq,reduceMul,reduceAdd,reduceDiv,Int.reduceBEq,RR,List.map_nil]
/- 38: laws_eqOption -/
def cc522 : ACode := (.seq (.reg [(none,.box 2 (S 0)),(none,.box 3 (S 1)),(none,.mv 4 (KB false))]) (.seq (.seq (.reg [fa 5 2 0,ld 6 5,fa 7 3 0,ld 8 7,bn 9 .neq 6 8]) (.cond (S 9) (.seq (.reg [(none,.mv 4 (KB false))]) .ret) .skip)) (.seq (.seq (.reg [fa 10 2 1,ld 11 10,fa 12 3 1,ld 13 12,bn 14 .neq 11 13]) (.cond (S 14) (.seq (.reg [(none,.mv 4 (KB false))]) .ret) .skip)) (.seq (.seq (.reg [fa 15 2 2,ld 16 15,fa 17 3 2,ld 18 17,bn 19 .neq 16 18]) (.cond (S 19) (.seq (.reg [(none,.mv 4 (KB false))]) .ret) .skip)) (.seq (.seq (.reg [fa 20 2 3,ld 21 20,fa 22 3 3,ld 23 22,(none,.call 24 78 [(S 21),(S 23)]),(none,.un 25 .not (S 24))]) (.cond (S 25) (.seq (.reg [(none,.mv 4 (KB false))]) .ret) .skip)) (.seq (.reg [(none,.mv 4 (KB true))]) .ret))))))
theorem ee523 : entry Tryz.prog 38 = some (cc522.strip,[4],26) := by kernel_rfl
theorem w_laws_eqOption (a0 : XOption) (a1 : XOption) (r : Bool) (h : f_laws_eqOption a0 a1 = some r) : FC Tryz.prog 38 [.ag (XOption.row a0),.ag (XOption.row a1)] [.sc (.v (.bool r))] := by
 unfold f_laws_eqOption at h
 refine FC_go (σ := ⟨[(0,va [aI a0.Start,aI a0.Arrival,aI a0.Cost,aL (List.map XPassage.row a0.Passages)]),(1,va [aI a1.Start,aI a1.Arrival,aI a1.Cost,aL (List.map XPassage.row a1.Passages)])],[],[]⟩) mixed ee523 rfl rfl ?_
 simp only [cc522]
 try simp only [Nat.reduceBEq,reduceMul,reduceAdd,reduceDiv,Int.reduceBEq,RR]
 refine go_bx rfl rfl rfl ?_
 try simp only [Nat.reduceBEq,reduceMul,reduceAdd,reduceDiv,Int.reduceBEq,RR]
 refine go_bx rfl rfl rfl ?_
 rcases Bool.eq_false_or_eq_true (a0.Start != a1.Start) with hb1 | hb1
 ·rw [ite_t hb1] at h
  try simp only [hb1,Nat.reduceBEq,reduceMul,reduceAdd,reduceDiv,Int.reduceBEq,RR]
  cases h
  exact ⟨⟨rfl,trivial⟩,rfl⟩
 ·rw [ite_f hb1] at h
  rcases Bool.eq_false_or_eq_true (a0.Arrival != a1.Arrival) with hb2 | hb2
  ·rw [ite_t hb2] at h
   try simp only [hb1,hb2,Nat.reduceBEq,reduceMul,reduceAdd,reduceDiv,Int.reduceBEq,RR]
   cases h
   exact ⟨⟨rfl,trivial⟩,rfl⟩
  ·rw [ite_f hb2] at h
   rcases Bool.eq_false_or_eq_true (a0.Cost != a1.Cost) with hb3 | hb3
   ·rw [ite_t hb3] at h
    try simp only [hb1,hb2,hb3,Nat.reduceBEq,reduceMul,reduceAdd,reduceDiv,Int.reduceBEq,RR]
    cases h
    exact ⟨⟨rfl,trivial⟩,rfl⟩
   ·rw [ite_f hb3] at h
    obtain ⟨r4,hr4,h⟩ := ob h
    try simp only [hb1,hb2,hb3,Nat.reduceBEq,reduceMul,reduceAdd,reduceDiv,Int.reduceBEq,RR]
    refine go_callI (w_laws_eqPassageS _ _ _ hr4) rfl rfl (Nat.le_of_ble_eq_true rfl) ?_
    rcases Bool.eq_false_or_eq_true r4 with hb5 | hb5
    ·rw [ite_t hb5] at h
     try simp only [hb1,hb2,hb3,hb5,Nat.reduceBEq,reduceMul,reduceAdd,reduceDiv,Int.reduceBEq,RR]
     cases h
     exact ⟨⟨rfl,trivial⟩,rfl⟩
    ·rw [ite_f hb5] at h
     try simp only [hb1,hb2,hb3,hb5,Nat.reduceBEq,reduceMul,reduceAdd,reduceDiv,Int.reduceBEq,RR]
     cases h
     exact ⟨⟨rfl,trivial⟩,rfl⟩
/- 11: laws_eqOptionS -/
def cc524 : ACode := .seq (.reg [(none,.keep [0,1,5] [] [])]) (.seq (.seq (.reg [mv 11 5,mv 12 0,(none,.len 13 (S 12)),bn 14 .lss 11 13]) (.cond (S 14) .skip (.exit 0))) (.seq (.block 1 (.seq (.drw [(some [],mv 17 0),(some [],mv 18 5),(some [],(none,.iaddr 19 (S 17) (S 18) 4)),(some [],(none,.load 20 (S 19) true 4)),(some [],mv 21 1),(some [],mv 22 5),(some [],(none,.iaddr 23 (S 21) (S 22) 4)),(some [],(none,.load 24 (S 23) true 4)),(some [],(none,.call 25 38 [(S 20),(S 24)])),(some [],(none,.un 26 .not (S 25)))]) (.cond (S 26) (.seq (.reg [(none,.mv 4 (KB false))]) .ret) .skip))) (.reg [mv 15 5,(none,.bin 16 .add (S 15) (K 1)),mv 5 16])))
def cc525 : ACode := (.seq (.reg [(none,.mv 4 (KB true))]) .ret)
def cc526 : ACode := (.seq (.reg [(none,.mv 4 (KB false))]) (.seq (.seq (.reg [mv 6 0,(none,.len 7 (S 6)),mv 8 1,(none,.len 9 (S 8)),bn 10 .neq 7 9]) (.cond (S 10) (.seq (.reg [(none,.mv 4 (KB false))]) .ret) .skip)) (.seq (.seq (.reg [(none,.mv 5 (K 0))]) (.block 0 (.loop cc524))) cc525)))
theorem ww527 (a0 : List XOption) (a1 : List XOption) : ∀ (n : Nat) (v2 : Int) (r : Bool),f_laws_eqOptionS_1 a0 a1 n v2 = some r → ∀ σ : St,σ.kept [0,1,5] [] [] = ⟨[(0,vc (aL (List.map XOption.row a0))),(1,vc (aL (List.map XOption.row a1))),(5,vc (aI v2))],[],[]⟩ → go Tryz.prog (.code (.loop cc524) :: [.blk 0,.code cc525]) (Ret [4] [.sc (.v (.bool r))]) .normal (some σ) := by
 intro n
 induction n with
 | zero => intro _ r h; cases h
 | succ n ih =>
  intro v2 r h σ hσ
  rw [f_laws_eqOptionS_1] at h
  refine go_round ?_
  rcases Bool.eq_false_or_eq_true (decide (v2 < (a0.length : Int))) with hb3 | hb3
  ·rw [ite_t hb3] at h
   try simp only [hσ,hb3,cc524,Nat.reduceBEq,reduceMul,reduceAdd,reduceDiv,Int.reduceBEq,RR]
   refine go_fr_of rfl ?_
   obtain ⟨x4,hx4,h⟩ := ob h
   obtain ⟨x5,hx5,h⟩ := ob h
   obtain ⟨r6,hr6,h⟩ := ob h
   try simp only [hb3,hx4,hx5,Nat.reduceBEq,reduceMul,reduceAdd,reduceDiv,Int.reduceBEq,RR]
   refine go_dcallI (w_laws_eqOption _ _ _ hr6) rfl rfl (Nat.le_of_ble_eq_true rfl) ?_
   rcases Bool.eq_false_or_eq_true r6 with hb7 | hb7
   ·rw [ite_t hb7] at h
    try simp only [hb3,hx4,hx5,hb7,Nat.reduceBEq,reduceMul,reduceAdd,reduceDiv,Int.reduceBEq,RR]
    refine ih _ _ h _ ?_
    try simp only [hb3,hx4,hx5,hb7,Nat.reduceBEq,reduceMul,reduceAdd,reduceDiv,Int.reduceBEq,RR,List.map_nil]
   ·rw [ite_f hb7] at h
    try simp only [hb3,hx4,hx5,hb7,Nat.reduceBEq,reduceMul,reduceAdd,reduceDiv,Int.reduceBEq,RR]
    cases h
    exact ⟨⟨rfl,trivial⟩,rfl⟩
  ·rw [ite_f hb3] at h
   try simp only [hσ,hb3,cc524,cc525,Nat.reduceBEq,reduceMul,reduceAdd,reduceDiv,Int.reduceBEq,RR]
   cases h
   exact ⟨⟨rfl,trivial⟩,rfl⟩
theorem ee528 : entry Tryz.prog 11 = some (cc526.strip,[4],27) := by kernel_rfl
theorem w_laws_eqOptionS (a0 : List XOption) (a1 : List XOption) (r : Bool) (h : f_laws_eqOptionS a0 a1 = some r) : FC Tryz.prog 11 [.sc (.sl (List.map XOption.row a0)),.sc (.sl (List.map XOption.row a1))] [.sc (.v (.bool r))] := by
 unfold f_laws_eqOptionS at h
 refine FC_go (σ := ⟨[(0,vc (aL (List.map XOption.row a0))),(1,vc (aL (List.map XOption.row a1)))],[],[]⟩) mixed ee528 rfl rfl ?_
 simp only [cc526]
 rcases Bool.eq_false_or_eq_true ((a0.length : Int) != (a1.length : Int)) with hb1 | hb1
 ·rw [ite_t hb1] at h
  try simp only [hb1,Nat.reduceBEq,reduceMul,reduceAdd,reduceDiv,Int.reduceBEq,RR]
  cases h
  exact ⟨⟨rfl,trivial⟩,rfl⟩
 ·rw [ite_f hb1] at h
  try simp only [hb1,Nat.reduceBEq,reduceMul,reduceAdd,reduceDiv,Int.reduceBEq,RR]
  refine ww527 _ _ _ _ _ h _ ?_
  try simp only [hb1,Nat.reduceBEq,reduceMul,reduceAdd,reduceDiv,Int.reduceBEq,RR,List.map_nil]
/- 3: laws_FnExactCrewLine -/
def cc529 : ACode := (.seq (.reg [(none,.box 2 (S 0)),(none,.mv 4 (KB false))]) (.seq (.reg [(none,.mv 5 (K 1048576))]) (.seq (.reg [(none,.load 10 (S 2) true 12),mv 11 5,(none,.call 12 4 [(S 10),(S 11)]),mv 5 12]) (.seq (.seq (.reg [mv 13 5,(none,.bin 14 .lss (S 13) (K 0))]) (.cond (S 14) (.seq (.reg [(none,.mv 4 (KB true))]) .ret) .skip)) (.seq (.reg [mv 15 1,mv 16 5,(none,.call 17 5 [(S 15),(S 16)]),mv 5 17]) (.seq (.seq (.reg [mv 18 5,(none,.bin 19 .lss (S 18) (K 0))]) (.cond (S 19) (.seq (.reg [(none,.mv 4 (KB true))]) .ret) .skip)) (.seq (.reg [(none,.load 20 (S 2) true 12),(none,.call 21 7 [(S 20)]),mv 22 1,(none,.call 23 8 [(S 22)]),(none,.call 24 6 [(S 21),(S 23)]),mv 6 24]) (.seq (.reg [(none,.load 25 (S 2) true 12),(none,.call 26 7 [(S 25)]),(none,.alloc 7 [aI 0,.nil,.nil,.nil,.nil,.nil,aI 0,aB false,aI 0,aI 0,aI 0,.nil]),(none,.store (S 7) (S 26) 12)]) (.seq (.reg [mv 27 1,(none,.call 28 8 [(S 27)]),mv 8 28]) (.seq (.reg [(none,.load 29 (S 7) true 12),mv 30 8,(none,.call 31 9 [(S 29),(S 30)]),mv 9 31]) (.seq (.seq (.reg [mv 32 9,mv 33 6,bn 34 .neq 32 33]) (.cond (S 34) (.seq (.reg [(none,.mv 4 (KB false))]) .ret) .skip)) (.seq (.seq (.drw [(some [37],(none,.load 35 (S 7) true 12)),(some [],(none,.load 36 (S 2) true 12)),(some [],(none,.call 37 7 [(S 36)])),(some [],(none,.call 38 10 [(S 35),(S 37)])),(some [],(none,.un 39 .not (S 38)))]) (.cond (S 39) (.seq (.reg [(none,.mv 4 (KB false))]) .ret) .skip)) (.seq (.seq (.reg [mv 40 8,mv 41 1,(none,.call 42 8 [(S 41)]),(none,.call 43 11 [(S 40),(S 42)]),(none,.un 44 .not (S 43))]) (.cond (S 44) (.seq (.reg [(none,.mv 4 (KB false))]) .ret) .skip)) (.seq (.reg [(none,.mv 4 (KB true))]) .ret))))))))))))))
theorem ee530 : entry Tryz.prog 3 = some (cc529.strip,[4],45) := by kernel_rfl
theorem w_laws_FnExactCrewLine (a0 : XHarbour) (a1 : List XOption) (r : Bool) (h : f_laws_FnExactCrewLine a0 a1 = some r) : FC Tryz.prog 3 [.ag (XHarbour.row a0),.sc (.sl (List.map XOption.row a1))] [.sc (.v (.bool r))] := by
 unfold f_laws_FnExactCrewLine at h
 refine FC_go (σ := ⟨[(0,va [aI a0.Forecast.Tide.Mean,aL (List.map XPart.row a0.Forecast.Tide.Parts),aL (List.map XSurge.row a0.Forecast.Surges),aL (List.map XPoint.row a0.Chart.Points),aL (List.map XSegment.row a0.Chart.Segments),aL (List.map XShip.row a0.Fleet),aI a0.Regime.Gap,aB a0.Regime.NoMeet,aI a0.Crew.Tugs,aI a0.Crew.Pilots,aI a0.Crew.Rest,aL (List.map rI a0.Crew.Moves)]),(1,vc (aL (List.map XOption.row a1)))],[],[]⟩) mixed ee530 rfl rfl ?_
 simp only [cc529]
 try simp only [Nat.reduceBEq,reduceMul,reduceAdd,reduceDiv,Int.reduceBEq,RR]
 refine go_bx rfl rfl rfl ?_
 obtain ⟨r1,hr1,h⟩ := ob h
 try simp only [Nat.reduceBEq,reduceMul,reduceAdd,reduceDiv,Int.reduceBEq,RR]
 refine go_callI (w_laws_szHarbour _ _ _ hr1) rfl rfl (Nat.le_of_ble_eq_true rfl) ?_
 rcases Bool.eq_false_or_eq_true (decide (r1 < (0 : Int))) with hb2 | hb2
 ·rw [ite_t hb2] at h
  try simp only [hb2,Nat.reduceBEq,reduceMul,reduceAdd,reduceDiv,Int.reduceBEq,RR]
  cases h
  exact ⟨⟨rfl,trivial⟩,rfl⟩
 ·rw [ite_f hb2] at h
  obtain ⟨r3,hr3,h⟩ := ob h
  try simp only [hb2,Nat.reduceBEq,reduceMul,reduceAdd,reduceDiv,Int.reduceBEq,RR]
  refine go_callI (w_laws_szOptionS _ _ _ hr3) rfl rfl (Nat.le_of_ble_eq_true rfl) ?_
  rcases Bool.eq_false_or_eq_true (decide (r3 < (0 : Int))) with hb4 | hb4
  ·rw [ite_t hb4] at h
   try simp only [hb2,hb4,Nat.reduceBEq,reduceMul,reduceAdd,reduceDiv,Int.reduceBEq,RR]
   cases h
   exact ⟨⟨rfl,trivial⟩,rfl⟩
  ·rw [ite_f hb4] at h
   obtain ⟨r5,hr5,h⟩ := ob h
   try simp only [hb2,hb4,Nat.reduceBEq,reduceMul,reduceAdd,reduceDiv,Int.reduceBEq,RR]
   refine go_callI (w_laws_toHarbour _ _ hr5) rfl rfl (Nat.le_of_ble_eq_true rfl) ?_
   obtain ⟨r6,hr6,h⟩ := ob h
   try simp only [hb2,hb4,Nat.reduceBEq,reduceMul,reduceAdd,reduceDiv,Int.reduceBEq,RR]
   refine go_callI (w_laws_toOptionS _ _ hr6) rfl rfl (Nat.le_of_ble_eq_true rfl) ?_
   obtain ⟨r7,hr7,h⟩ := ob h
   try simp only [hb2,hb4,Nat.reduceBEq,reduceMul,reduceAdd,reduceDiv,Int.reduceBEq,RR]
   refine go_call (w_spec_CrewLine _ _ _ hr7) rfl (flat_of rfl) rfl (Nat.le_of_ble_eq_true rfl) ?_
   obtain ⟨r9,hr9,h⟩ := ob h
   try simp only [hb2,hb4,Nat.reduceBEq,reduceMul,reduceAdd,reduceDiv,Int.reduceBEq,RR]
   refine go_callI (w_laws_toHarbour _ _ hr9) rfl rfl (Nat.le_of_ble_eq_true rfl) ?_
   try simp only [hb2,hb4,Nat.reduceBEq,reduceMul,reduceAdd,reduceDiv,Int.reduceBEq,RR]
   refine go_al rfl rfl ?_
   obtain ⟨r10,hr10,h⟩ := ob h
   try simp only [hb2,hb4,Nat.reduceBEq,reduceMul,reduceAdd,reduceDiv,Int.reduceBEq,RR]
   refine go_callI (w_laws_toOptionS _ _ hr10) rfl rfl (Nat.le_of_ble_eq_true rfl) ?_
   obtain ⟨r11,hr11,h⟩ := ob h
   try simp only [hb2,hb4,Nat.reduceBEq,reduceMul,reduceAdd,reduceDiv,Int.reduceBEq,RR]
   refine go_call (w_impl_CrewLine _ _ _ hr11) rfl (flat_of rfl) rfl (Nat.le_of_ble_eq_true rfl) ?_
   rcases Bool.eq_false_or_eq_true (r11 == r7) with hb12 | hb12
   ·rw [ite_t hb12] at h
    try simp only [hb2,hb4,hb12,Nat.reduceBEq,reduceMul,reduceAdd,reduceDiv,Int.reduceBEq,RR]
    refine go_fr_of rfl ?_
    obtain ⟨r13,hr13,h⟩ := ob h
    try simp only [hb2,hb4,hb12,Nat.reduceBEq,reduceMul,reduceAdd,reduceDiv,Int.reduceBEq,RR]
    refine go_dcallI (w_laws_toHarbour _ _ hr13) rfl rfl (Nat.le_of_ble_eq_true rfl) ?_
    obtain ⟨r14,hr14,h⟩ := ob h
    try simp only [hb2,hb4,hb12,Nat.reduceBEq,reduceMul,reduceAdd,reduceDiv,Int.reduceBEq,RR]
    refine go_dcall (w_laws_eqHarbour _ _ _ hr14) (by first | rfl | kernel_rfl) (flat_of rfl) rfl (Nat.le_of_ble_eq_true rfl) ?_
    rcases Bool.eq_false_or_eq_true r14 with hb15 | hb15
    ·rw [ite_t hb15] at h
     obtain ⟨r16,hr16,h⟩ := ob h
     try simp only [hb2,hb4,hb12,hb15,Nat.reduceBEq,reduceMul,reduceAdd,reduceDiv,Int.reduceBEq,RR]
     refine go_callI (w_laws_toOptionS _ _ hr16) rfl rfl (Nat.le_of_ble_eq_true rfl) ?_
     obtain ⟨r17,hr17,h⟩ := ob h
     try simp only [hb2,hb4,hb12,hb15,Nat.reduceBEq,reduceMul,reduceAdd,reduceDiv,Int.reduceBEq,RR]
     refine go_call (w_laws_eqOptionS _ _ _ hr17) rfl (flat_of rfl) rfl (Nat.le_of_ble_eq_true rfl) ?_
     rcases Bool.eq_false_or_eq_true r17 with hb18 | hb18
     ·rw [ite_t hb18] at h
      try simp only [hb2,hb4,hb12,hb15,hb18,Nat.reduceBEq,reduceMul,reduceAdd,reduceDiv,Int.reduceBEq,RR]
      cases h
      exact ⟨⟨rfl,trivial⟩,rfl⟩
     ·rw [ite_f hb18] at h
      try simp only [hb2,hb4,hb12,hb15,hb18,Nat.reduceBEq,reduceMul,reduceAdd,reduceDiv,Int.reduceBEq,RR]
      cases h
      exact ⟨⟨rfl,trivial⟩,rfl⟩
    ·rw [ite_f hb15] at h
     try simp only [hb2,hb4,hb12,hb15,Nat.reduceBEq,reduceMul,reduceAdd,reduceDiv,Int.reduceBEq,RR]
     cases h
     exact ⟨⟨rfl,trivial⟩,rfl⟩
   ·rw [ite_f hb12] at h
    try simp only [hb2,hb4,hb12,Nat.reduceBEq,reduceMul,reduceAdd,reduceDiv,Int.reduceBEq,RR]
    cases h
    exact ⟨⟨rfl,trivial⟩,rfl⟩
end Go.Vi
