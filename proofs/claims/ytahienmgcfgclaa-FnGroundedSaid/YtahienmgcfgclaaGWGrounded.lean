/-
  Walks: what the plain definitions compute is what the functions return. By program. No condition.
-/
import Derived.Test.YtahienmgcfgclaaGNf
import Derived.Test.YtahienmgcfgclaaChecked
import Derived.Test.YtahienmgcfgclaaGFc
import Derived.KernelRfl
import Derived.Test.YtahienmgcfgclaaGWGroundedb
namespace Go.Vi
open Go.Proofs
set_option linter.unusedSimpArgs false
set_option linter.unusedVariables false
set_option maxRecDepth 4000
set_option maxHeartbeats 2000000
open Nat renaming reduceBEq → ua, reduceMul → ub, reduceAdd → uc, reduceDiv → ud, le_of_ble_eq_true → uf
open Int renaming reduceBEq → ue
open Bool renaming eq_false_or_eq_true → ug
attribute [local irreducible] go AWP
/- 8: impl_DraughtFor -/
def B49 : ACode := .seq (.reg [(none,.keep [2,5,6,8,11,12,13] [5,6,8] [])]) (.seq (.seq (.reg [mv 41 13,mv 42 11,bn 43 .leq 41 42]) (.cond (S 43) .skip (.exit 0))) (.seq (.block 1 (.reg [mv 46 12,(none,.load 47 (S 5) true 3),mv 48 13,(none,.call 49 26 [(S 47),(S 48)]),(none,.mm 50 false (S 46) (S 49)),mv 12 50])) (.reg [mv 44 13,(none,.bin 45 .add (S 44) (K 1)),mv 13 45])))
def B5l : ACode := .seq (.reg [(none,.keep [2,6,8,12] [6,8] [])]) (.seq (.seq (.reg [fa 52 8 2,ld 53 52,(none,.bin 54 .geq (S 53) (K 100))]) (.cond (S 54) .skip (.exit 2))) (.seq (.block 3 (.seq (.reg [mv 59 12,(none,.load 60 (S 6) true 2),mv 61 2,(none,.load 62 (S 8) true 6),(none,.call 63 27 [(S 60),(S 61),(S 62)]),bn 64 .geq 59 63]) (.cond (S 64) (.seq (.reg [fa 65 8 2,ld 66 65,mv 10 66]) .ret) .skip))) (.reg [fa 55 8 2,ld 56 55,(none,.bin 57 .sub (S 56) (K 1)),fa 58 8 2,(none,.store (S 58) (S 57) 1)])))
def C0y : ACode := (.seq (.reg [(none,.mv 10 (K 0))]) .ret)
def C2l : ACode := (.seq (.seq (.reg [fa 51 8 2,(none,.store (S 51) (K 2000) 1)]) (.block 2 (.loop B5l))) C0y)
def cc335 : ACode := (.seq (.reg [(none,.box 5 (S 0)),(none,.box 6 (S 1)),(none,.box 8 (S 3)),(none,.mv 10 (K 0))]) (.seq (.seq (.reg [(none,.load 14 (S 5) true 3),(none,.call 15 22 [(S 14)]),(none,.un 16 .not (S 15)),mv 17 16,(some (17,false),.load 18 (S 6) true 2),(some (17,false),.mv 19 (S 2)),(some (17,false),.load 20 (S 8) true 6),(some (17,false),.call 21 23 [(S 18),(S 19),(S 20)]),(some (17,false),.un 22 .not (S 21)),(none,.pick 23 (S 17) (KB true) (S 22)),mv 24 23,(some (24,false),.mv 25 (S 4)),(some (24,false),.call 26 24 [(S 25)]),(some (24,false),.un 27 .not (S 26)),(none,.pick 28 (S 24) (KB true) (S 27))]) (.cond (S 28) (.seq (.reg [(none,.mv 10 (K 0))]) .ret) .skip)) (.seq (.reg [mv 29 4,(none,.load 30 (S 6) true 2),mv 31 2,(none,.load 32 (S 8) true 6),(none,.call 33 25 [(S 30),(S 31),(S 32)]),bn 34 .add 29 33,mv 11 34]) (.seq (.seq (.reg [mv 35 11,(none,.bin 36 .gtr (S 35) (K 2880))]) (.cond (S 36) (.seq (.reg [(none,.mv 10 (K 0))]) .ret) .skip)) (.seq (.reg [(none,.load 37 (S 5) true 3),mv 38 4,(none,.call 39 26 [(S 37),(S 38)]),mv 12 39]) (.seq (.seq (.reg [mv 40 4,mv 13 40]) (.block 0 (.loop B49))) C2l))))))
theorem D9t (a2 : Int) (v11 : Int) (a1 : XChart) (a3 : XShip) : ∀ (n : Nat) (v15 : Int) (r : Int),K3 a2 v11 a1 a3 n v15 = some r → ∀ σ : St,σ.kept [2,6,8,12] [6,8] [] = ⟨[(2,vc (aI a2)),(6,vc (.pb 6 0)),(8,vc (.pb 8 0)),(12,vc (aI v11))],[(6,[aL (List.map XPoint.row a1.Points),aL (List.map XSegment.row a1.Segments)]),(8,[aS a3.Name,aI a3.Length,aI v15,aI a3.Line,aI a3.Tugs,aB a3.Slow])],[]⟩ → go Try.prog (.code (.loop B5l) :: [.blk 2,.code C0y]) (Ret [10] [.sc (.v (.int .i64 r))]) .normal (some σ) := by
 intro n
 induction n with
 | zero => intro _ r h; cases h
 | succ n ih =>
  intro v15 r h σ hσ
  rw [K3] at h
  refine B8 ?_
  rcases ug (decide ((100 : Int) ≤ v15)) with hb16 | hb16
  ·rw [A4 hb16] at h
   obtain ⟨r17,hr17,h⟩ := ob h
   try simp only [hσ,hb16,B5l,ua,ub,uc,ud,ue,RR]
   refine A6 (A1n _ _ _ _ hr17) rfl rfl (uf rfl) ?_
   rcases ug (decide (r17 ≤ v11)) with hb18 | hb18
   ·rw [A4 hb18] at h
    try simp only [hb16,hb18,ua,ub,uc,ud,ue,RR]
    cases h
    exact ⟨⟨rfl,trivial⟩,rfl⟩
   ·rw [A3 hb18] at h
    try simp only [hb16,hb18,ua,ub,uc,ud,ue,RR]
    refine ih _ _ h _ ?_
    try simp only [hb16,hb18,ua,ub,uc,ud,ue,RR,List.map_nil]
  ·rw [A3 hb16] at h
   try simp only [hσ,hb16,B5l,C0y,ua,ub,uc,ud,ue,RR]
   cases h
   exact ⟨⟨rfl,trivial⟩,rfl⟩
theorem D9o (a2 : Int) (a0 : XForecast) (a1 : XChart) (a3 : XShip) (y10 : Int) : ∀ (n : Nat) (v11 : Int) (v12 : Int) (r : Int),K9 a2 a0 a1 a3 y10 n v11 v12 = some r → ∀ σ : St,σ.kept [2,5,6,8,11,12,13] [5,6,8] [] = ⟨[(2,vc (aI a2)),(5,vc (.pb 5 0)),(6,vc (.pb 6 0)),(8,vc (.pb 8 0)),(11,vc (aI y10)),(12,vc (aI v11)),(13,vc (aI v12))],[(5,[aI a0.Tide.Mean,aL (List.map XPart.row a0.Tide.Parts),aL (List.map XSurge.row a0.Surges)]),(6,[aL (List.map XPoint.row a1.Points),aL (List.map XSegment.row a1.Segments)]),(8,[aS a3.Name,aI a3.Length,aI a3.Draught,aI a3.Line,aI a3.Tugs,aB a3.Slow])],[]⟩ → go Try.prog (.code (.loop B49) :: [.blk 0,.code C2l]) (Ret [10] [.sc (.v (.int .i64 r))]) .normal (some σ) := by
 intro n
 induction n with
 | zero => intro _ _ r h; cases h
 | succ n ih =>
  intro v11 v12 r h σ hσ
  rw [K9] at h
  refine B8 ?_
  rcases ug (decide (v12 ≤ y10)) with hb13 | hb13
  ·rw [A4 hb13] at h
   obtain ⟨r14,hr14,h⟩ := ob h
   try simp only [hσ,hb13,B49,ua,ub,uc,ud,ue,RR]
   refine A6 (Y6 _ _ _ hr14) rfl rfl (uf rfl) ?_
   try simp only [hb13,ua,ub,uc,ud,ue,RR]
   refine ih _ _ _ h _ ?_
   try simp only [hb13,ua,ub,uc,ud,ue,RR,List.map_nil]
  ·rw [A3 hb13] at h
   try simp only [hσ,hb13,B49,C2l,ua,ub,uc,ud,ue,RR]
   refine D9t _ _ _ _ _ _ _ h _ ?_
   try simp only [hb13,ua,ub,uc,ud,ue,RR,List.map_nil]
theorem D9w : A9 Try.prog 8 = some (cc335.strip,[10],67) := by kernel_rfl
theorem A9j (a0 : XForecast) (a1 : XChart) (a2 : Int) (a3 : XShip) (a4 : Int) (r : Int) (h : V0 a0 a1 a2 a3 a4 = some r) : FC Try.prog 8 [.ag (XForecast.row a0),.ag (XChart.row a1),.sc (.int .i64 a2),.ag (XShip.row a3),.sc (.int .i64 a4)] [.sc (.v (.int .i64 r))] := by
 unfold V0 at h
 refine B9 (σ := ⟨[(0,va [aI a0.Tide.Mean,aL (List.map XPart.row a0.Tide.Parts),aL (List.map XSurge.row a0.Surges)]),(1,va [aL (List.map XPoint.row a1.Points),aL (List.map XSegment.row a1.Segments)]),(2,vc (aI a2)),(3,va [aS a3.Name,aI a3.Length,aI a3.Draught,aI a3.Line,aI a3.Tugs,aB a3.Slow]),(4,vc (aI a4))],[],[]⟩) B3 D9w rfl rfl ?_
 simp only [cc335]
 try simp only [ua,ub,uc,ud,ue,RR]
 refine B5 rfl rfl rfl ?_
 try simp only [ua,ub,uc,ud,ue,RR]
 refine B5 rfl rfl rfl ?_
 try simp only [ua,ub,uc,ud,ue,RR]
 refine B5 rfl rfl rfl ?_
 obtain ⟨r1,hr1,h⟩ := ob h
 try simp only [ua,ub,uc,ud,ue,RR]
 refine A6 (V4 _ _ hr1) rfl rfl (uf rfl) ?_
 rcases ug r1 with hb2 | hb2
 ·rw [A4 hb2] at h
  obtain ⟨r3,hr3,h⟩ := ob h
  try simp only [hb2,ua,ub,uc,ud,ue,RR]
  refine A6 (A2r _ _ _ _ hr3) rfl rfl (uf rfl) ?_
  rcases ug r3 with hb4 | hb4
  ·rw [A4 hb4] at h
   obtain ⟨r5,hr5,h⟩ := ob h
   try simp only [hb2,hb4,ua,ub,uc,ud,ue,RR]
   refine A6 (N4 _ _ hr5) rfl rfl (uf rfl) ?_
   rcases ug r5 with hb6 | hb6
   ·rw [A4 hb6] at h
    obtain ⟨r7,hr7,h⟩ := ob h
    try simp only [hb2,hb4,hb6,ua,ub,uc,ud,ue,RR]
    refine A6 (A43 _ _ _ _ hr7) rfl rfl (uf rfl) ?_
    rcases ug (decide ((2880 : Int) < (IntKind.i64.wrap (a4 + r7)))) with hb8 | hb8
    ·rw [A4 hb8] at h
     try simp only [hb2,hb4,hb6,hb8,ua,ub,uc,ud,ue,RR]
     cases h
     exact ⟨⟨rfl,trivial⟩,rfl⟩
    ·rw [A3 hb8] at h
     obtain ⟨r9,hr9,h⟩ := ob h
     try simp only [hb2,hb4,hb6,hb8,ua,ub,uc,ud,ue,RR]
     refine A6 (Y6 _ _ _ hr9) rfl rfl (uf rfl) ?_
     try simp only [hb2,hb4,hb6,hb8,ua,ub,uc,ud,ue,RR]
     refine D9o _ _ _ _ _ _ _ _ _ h _ ?_
     try simp only [hb2,hb4,hb6,hb8,ua,ub,uc,ud,ue,RR,List.map_nil]
   ·rw [A3 hb6] at h
    try simp only [hb2,hb4,hb6,ua,ub,uc,ud,ue,RR]
    cases h
    exact ⟨⟨rfl,trivial⟩,rfl⟩
  ·rw [A3 hb4] at h
   try simp only [hb2,hb4,ua,ub,uc,ud,ue,RR]
   cases h
   exact ⟨⟨rfl,trivial⟩,rfl⟩
 ·rw [A3 hb2] at h
  try simp only [hb2,ua,ub,uc,ud,ue,RR]
  cases h
  exact ⟨⟨rfl,trivial⟩,rfl⟩
/- 28: impl_PicksOk -/
def B5b : ACode := .seq (.reg [(none,.keep [9,10,11] [] [])]) (.seq (.reg [bn 12 .lss 11 10]) (.seq (.cond (S 12) .skip (.exit 0)) (.seq (.block 1 (.seq (.reg [(none,.iaddr 13 (S 9) (S 11) 1),ld 14 13,mv 4 14]) (.seq (.reg [mv 15 4,(none,.call 16 52 [(S 15),(K 0),(K 1000)]),(none,.un 17 .not (S 16))]) (.cond (S 17) (.seq (.reg [(none,.mv 2 (KB false))]) .ret) .skip)))) (.reg [(none,.bin 18 .add (S 11) (K 1)),mv 11 18]))))
def B9z : ACode := (.seq (.reg [(none,.mv 2 (KB true))]) .ret)
def cc341 : ACode := (.seq (.reg [(none,.mv 2 (KB false))]) (.seq (.seq (.reg [mv 5 0,(none,.len 6 (S 5)),(none,.call 7 52 [(S 6),(K 1),(K 48)]),(none,.un 8 .not (S 7))]) (.cond (S 8) (.seq (.reg [(none,.mv 2 (KB false))]) .ret) .skip)) (.seq (.seq (.reg [mv 9 0,(none,.len 10 (S 9)),(none,.mv 11 (K 0))]) (.block 0 (.loop B5b))) B9z)))
theorem D8p (a0 : List Int) : ∀ (n : Nat) (v3 : Int) (r : Bool),O1 a0 n v3 = some r → ∀ σ : St,σ.kept [9,10,11] [] [] = ⟨[(9,vc (aL (List.map rI a0))),(10,vc (aI (a0.length : Int))),(11,vc (aI v3))],[],[]⟩ → go Try.prog (.code (.loop B5b) :: [.blk 0,.code B9z]) (Ret [2] [.sc (.v (.bool r))]) .normal (some σ) := by
 intro n
 induction n with
 | zero => intro _ r h; cases h
 | succ n ih =>
  intro v3 r h σ hσ
  rw [O1] at h
  refine B8 ?_
  rcases ug (decide (v3 < (a0.length : Int))) with hb4 | hb4
  ·rw [A4 hb4] at h
   obtain ⟨x5,hx5,h⟩ := ob h
   obtain ⟨r6,hr6,h⟩ := ob h
   try simp only [hσ,hb4,hx5,B5b,ua,ub,uc,ud,ue,RR]
   refine A6 (D3 _ _ _ _ hr6) rfl rfl (uf rfl) ?_
   rcases ug r6 with hb7 | hb7
   ·rw [A4 hb7] at h
    try simp only [hb4,hx5,hb7,ua,ub,uc,ud,ue,RR]
    refine ih _ _ h _ ?_
    try simp only [hb4,hx5,hb7,ua,ub,uc,ud,ue,RR,List.map_nil]
   ·rw [A3 hb7] at h
    try simp only [hb4,hx5,hb7,ua,ub,uc,ud,ue,RR]
    cases h
    exact ⟨⟨rfl,trivial⟩,rfl⟩
  ·rw [A3 hb4] at h
   try simp only [hσ,hb4,B5b,B9z,ua,ub,uc,ud,ue,RR]
   cases h
   exact ⟨⟨rfl,trivial⟩,rfl⟩
theorem D78 : A9 Try.prog 28 = some (cc341.strip,[2],19) := by kernel_rfl
theorem B2k (a0 : List Int) (r : Bool) (h : A0w a0 = some r) : FC Try.prog 28 [.sc (.sl (List.map rI a0))] [.sc (.v (.bool r))] := by
 unfold A0w at h
 refine B9 (σ := ⟨[(0,vc (aL (List.map rI a0)))],[],[]⟩) B3 D78 rfl rfl ?_
 simp only [cc341]
 obtain ⟨r1,hr1,h⟩ := ob h
 try simp only [ua,ub,uc,ud,ue,RR]
 refine A6 (D3 _ _ _ _ hr1) rfl rfl (uf rfl) ?_
 rcases ug r1 with hb2 | hb2
 ·rw [A4 hb2] at h
  try simp only [hb2,ua,ub,uc,ud,ue,RR]
  refine D8p _ _ _ _ h _ ?_
  try simp only [hb2,ua,ub,uc,ud,ue,RR,List.map_nil]
 ·rw [A3 hb2] at h
  try simp only [hb2,ua,ub,uc,ud,ue,RR]
  cases h
  exact ⟨⟨rfl,trivial⟩,rfl⟩
/- 29: impl_passageOk -/
def cc344 : ACode := (.seq (.reg [(none,.box 3 (S 0)),(none,.box 5 (S 2)),(none,.mv 6 (KB false))]) (.seq (.seq (.reg [fa 7 5 0,ld 8 7,mv 9 1,(none,.len 10 (S 9)),(none,.call 11 51 [(S 8),(S 10)]),(none,.un 12 .not (S 11)),mv 13 12,(some (13,false),.faddr 14 (S 5) 1),(some (13,false),.load 15 (S 14) false 1),(some (13,false),.faddr 16 (S 3) 1),(some (13,false),.load 17 (S 16) false 1),(some (13,false),.len 18 (S 17)),(some (13,false),.call 19 51 [(S 15),(S 18)]),(some (13,false),.un 20 .not (S 19)),(none,.pick 21 (S 13) (KB true) (S 20)),mv 22 21,(some (22,false),.faddr 23 (S 5) 3),(some (22,false),.load 24 (S 23) false 1),(some (22,false),.call 25 24 [(S 24)]),(some (22,false),.un 26 .not (S 25)),(none,.pick 27 (S 22) (KB true) (S 26)),mv 28 27,(some (28,false),.faddr 29 (S 5) 4),(some (28,false),.load 30 (S 29) false 1),(some (28,false),.bin 31 .gtr (S 30) (K 2880)),(none,.pick 32 (S 28) (KB true) (S 31))]) (.cond (S 32) (.seq (.reg [(none,.mv 6 (KB false))]) .ret) .skip)) (.seq (.drw [(some [48],fa 33 5 4),(some [48],ld 34 33),(some [48],fa 35 5 3),(some [48],ld 36 35),(some [],mv 37 1),(some [],fa 38 5 0),(some [],ld 39 38),(some [],(none,.iaddr 40 (S 37) (S 39) 6)),(some [],(none,.load 41 (S 40) true 6)),(some [],fa 42 3 1),(some [],ld 43 42),(some [],fa 44 5 1),(some [],ld 45 44),(some [],(none,.iaddr 46 (S 43) (S 45) 5)),(some [],(none,.load 47 (S 46) true 5)),(some [],(none,.call 48 56 [(S 41),(S 47)])),(some [],bn 49 .add 36 48),(some [],bn 50 .eql 34 49),(some [],mv 6 50)]) .ret)))
theorem D6x : A9 Try.prog 29 = some (cc344.strip,[6],51) := by kernel_rfl
theorem B0e (a0 : XChart) (a1 : List XShip) (a2 : XPassage) (r : Bool) (h : Y3 a0 a1 a2 = some r) : FC Try.prog 29 [.ag (XChart.row a0),.sc (.sl (List.map XShip.row a1)),.ag (XPassage.row a2)] [.sc (.v (.bool r))] := by
 unfold Y3 at h
 refine B9 (σ := ⟨[(0,va [aL (List.map XPoint.row a0.Points),aL (List.map XSegment.row a0.Segments)]),(1,vc (aL (List.map XShip.row a1))),(2,va [aI a2.Ship,aI a2.Segment,aB a2.Toward,aI a2.Start,aI a2.End])],[],[]⟩) B3 D6x rfl rfl ?_
 simp only [cc344]
 try simp only [ua,ub,uc,ud,ue,RR]
 refine B5 rfl rfl rfl ?_
 try simp only [ua,ub,uc,ud,ue,RR]
 refine B5 rfl rfl rfl ?_
 obtain ⟨r1,hr1,h⟩ := ob h
 try simp only [ua,ub,uc,ud,ue,RR]
 refine A6 (F0 _ _ _ hr1) rfl rfl (uf rfl) ?_
 rcases ug r1 with hb2 | hb2
 ·rw [A4 hb2] at h
  obtain ⟨r3,hr3,h⟩ := ob h
  try simp only [hb2,ua,ub,uc,ud,ue,RR]
  refine A6 (F0 _ _ _ hr3) rfl rfl (uf rfl) ?_
  rcases ug r3 with hb4 | hb4
  ·rw [A4 hb4] at h
   obtain ⟨r5,hr5,h⟩ := ob h
   try simp only [hb2,hb4,ua,ub,uc,ud,ue,RR]
   refine A6 (N4 _ _ hr5) rfl rfl (uf rfl) ?_
   rcases ug r5 with hb6 | hb6
   ·rw [A4 hb6] at h
    rcases ug (decide ((2880 : Int) < a2.End)) with hb7 | hb7
    ·rw [A4 hb7] at h
     try simp only [hb2,hb4,hb6,hb7,ua,ub,uc,ud,ue,RR]
     cases h
     exact ⟨⟨rfl,trivial⟩,rfl⟩
    ·rw [A3 hb7] at h
     try simp only [hb2,hb4,hb6,hb7,ua,ub,uc,ud,ue,RR]
     refine B7 rfl ?_
     obtain ⟨x8,hx8,h⟩ := ob h
     obtain ⟨x9,hx9,h⟩ := ob h
     obtain ⟨r10,hr10,h⟩ := ob h
     try simp only [hb2,hb4,hb6,hb7,hx8,hx9,ua,ub,uc,ud,ue,RR]
     refine D4 (Q9 _ _ _ hr10) rfl rfl (uf rfl) ?_
     try simp only [hb2,hb4,hb6,hb7,hx8,hx9,ua,ub,uc,ud,ue,RR]
     cases h
     exact ⟨⟨rfl,trivial⟩,rfl⟩
   ·rw [A3 hb6] at h
    try simp only [hb2,hb4,hb6,ua,ub,uc,ud,ue,RR]
    cases h
    exact ⟨⟨rfl,trivial⟩,rfl⟩
  ·rw [A3 hb4] at h
   try simp only [hb2,hb4,ua,ub,uc,ud,ue,RR]
   cases h
   exact ⟨⟨rfl,trivial⟩,rfl⟩
 ·rw [A3 hb2] at h
  try simp only [hb2,ua,ub,uc,ud,ue,RR]
  cases h
  exact ⟨⟨rfl,trivial⟩,rfl⟩
/- 60: impl_Forecast_high -/
def cc346 : ACode := (.seq (.reg [(none,.box 2 (S 0)),(none,.mv 4 (K 0))]) (.seq (.drw [(some [],fa 5 2 0),(some [],(none,.load 6 (S 5) true 2)),(some [],mv 7 1),(some [],(none,.call 8 57 [(S 6),(S 7)])),(some [8,13],fa 9 2 2),(some [8,13],ld 10 9),(some [8],(none,.load 11 (S 2) true 3)),(some [8],mv 12 1),(some [],(none,.call 13 58 [(S 11),(S 12)])),(some [],(none,.iaddr 14 (S 10) (S 13) 3)),(some [],fa 15 14 2),(some [],ld 16 15),(some [],bn 17 .add 8 16),(some [],mv 4 17)]) .ret))
theorem D79 : A9 Try.prog 60 = some (cc346.strip,[4],18) := by kernel_rfl
theorem A66 (a0 : XForecast) (a1 : Int) (r : Int) (h : P9 a0 a1 = some r) : FC Try.prog 60 [.ag (XForecast.row a0),.sc (.int .i64 a1)] [.sc (.v (.int .i64 r))] := by
 unfold P9 at h
 refine B9 (σ := ⟨[(0,va [aI a0.Tide.Mean,aL (List.map XPart.row a0.Tide.Parts),aL (List.map XSurge.row a0.Surges)]),(1,vc (aI a1))],[],[]⟩) B3 D79 rfl rfl ?_
 simp only [cc346]
 try simp only [ua,ub,uc,ud,ue,RR]
 refine B5 rfl rfl rfl ?_
 try simp only [ua,ub,uc,ud,ue,RR]
 refine B7 rfl ?_
 obtain ⟨r1,hr1,h⟩ := ob h
 try simp only [ua,ub,uc,ud,ue,RR]
 refine D4 (A4m _ _ _ hr1) rfl rfl (uf rfl) ?_
 obtain ⟨r2,hr2,h⟩ := ob h
 try simp only [ua,ub,uc,ud,ue,RR]
 refine D4 (A2v _ _ _ hr2) rfl rfl (uf rfl) ?_
 obtain ⟨x3,hx3,h⟩ := ob h
 try simp only [hx3,ua,ub,uc,ud,ue,RR]
 cases h
 exact ⟨⟨rfl,trivial⟩,rfl⟩
/- 61: impl_pickOf -/
def cc348 : ACode := (.seq (.reg [(none,.mv 4 (K 0))]) (.seq (.reg [mv 5 0,mv 6 1,mv 7 0,(none,.len 8 (S 7)),(none,.bin 9 .sub (S 8) (K 1)),(none,.mm 10 false (S 6) (S 9)),(none,.iaddr 11 (S 5) (S 10) 1),ld 12 11,mv 4 12]) .ret))
theorem D76 : A9 Try.prog 61 = some (cc348.strip,[4],13) := by kernel_rfl
theorem B4l (a0 : List Int) (a1 : Int) (r : Int) (h : A2l a0 a1 = some r) : FC Try.prog 61 [.sc (.sl (List.map rI a0)),.sc (.int .i64 a1)] [.sc (.v (.int .i64 r))] := by
 unfold A2l at h
 refine B9 (σ := ⟨[(0,vc (aL (List.map rI a0))),(1,vc (aI a1))],[],[]⟩) B3 D76 rfl rfl ?_
 simp only [cc348]
 obtain ⟨x1,hx1,h⟩ := ob h
 try simp only [hx1,ua,ub,uc,ud,ue,RR]
 cases h
 exact ⟨⟨rfl,trivial⟩,rfl⟩
/- 30: impl_levelOn -/
def cc350 : ACode := (.seq (.reg [(none,.box 3 (S 0)),(none,.mv 6 (K 0))]) (.seq (.drw [(some [],(none,.load 9 (S 3) true 3)),(some [],mv 10 2),(some [],(none,.call 11 26 [(S 9),(S 10)])),(some [11],(none,.load 12 (S 3) true 3)),(some [11],mv 13 2),(some [],(none,.call 14 60 [(S 12),(S 13)])),(some [],mv 7 11),(some [],mv 8 14)]) (.seq (.reg [mv 15 7,mv 16 8,mv 17 7,bn 18 .sub 16 17,mv 19 1,mv 20 2,(none,.bin 21 .quo (S 20) (K 60)),(none,.call 22 61 [(S 19),(S 21)]),bn 23 .mul 18 22,(none,.bin 24 .quo (S 23) (K 1000)),bn 25 .add 15 24,mv 6 25]) .ret)))
theorem E1c : A9 Try.prog 30 = some (cc350.strip,[6],26) := by kernel_rfl
theorem A3n (a0 : XForecast) (a1 : List Int) (a2 : Int) (r : Int) (h : O9 a0 a1 a2 = some r) : FC Try.prog 30 [.ag (XForecast.row a0),.sc (.sl (List.map rI a1)),.sc (.int .i64 a2)] [.sc (.v (.int .i64 r))] := by
 unfold O9 at h
 refine B9 (σ := ⟨[(0,va [aI a0.Tide.Mean,aL (List.map XPart.row a0.Tide.Parts),aL (List.map XSurge.row a0.Surges)]),(1,vc (aL (List.map rI a1))),(2,vc (aI a2))],[],[]⟩) B3 E1c rfl rfl ?_
 simp only [cc350]
 try simp only [ua,ub,uc,ud,ue,RR]
 refine B5 rfl rfl rfl ?_
 try simp only [ua,ub,uc,ud,ue,RR]
 refine B7 rfl ?_
 obtain ⟨r1,hr1,h⟩ := ob h
 try simp only [ua,ub,uc,ud,ue,RR]
 refine D4 (Y6 _ _ _ hr1) rfl rfl (uf rfl) ?_
 obtain ⟨r2,hr2,h⟩ := ob h
 try simp only [ua,ub,uc,ud,ue,RR]
 refine D4 (A66 _ _ _ hr2) rfl rfl (uf rfl) ?_
 obtain ⟨r3,hr3,h⟩ := ob h
 try simp only [ua,ub,uc,ud,ue,RR]
 refine A6 (B4l _ _ _ hr3) rfl rfl (uf rfl) ?_
 try simp only [ua,ub,uc,ud,ue,RR]
 cases h
 exact ⟨⟨rfl,trivial⟩,rfl⟩
/- 9: impl_ClearanceOn -/
def B50 : ACode := .seq (.reg [(none,.keep [2,3,4,26] [3,4] [])]) (.cond (S 26) (.seq (.reg [(none,.mv 6 (K 0)),(none,.mv 7 (KB false))]) .ret) .skip)
def B4t : ACode := .seq (.reg [(none,.keep [2,3,4,8,9] [3,4] [])]) (.seq (.seq (.reg [mv 35 9,fa 36 4 4,ld 37 36,bn 38 .leq 35 37]) (.cond (S 38) .skip (.exit 0))) (.seq (.block 1 (.reg [mv 41 8,fa 42 3 0,(none,.load 43 (S 42) true 3),mv 44 2,mv 45 9,(none,.call 46 30 [(S 43),(S 44),(S 45)]),(none,.mm 47 false (S 41) (S 46)),mv 8 47])) (.reg [mv 39 9,(none,.bin 40 .add (S 39) (K 1)),mv 9 40])))
def B9h : ACode := (.seq (.drw [(some [59],mv 48 8),(some [],fa 49 3 3),(some [],(none,.load 50 (S 49) true 2)),(some [],fa 51 4 1),(some [],ld 52 51),(some [],fa 53 3 5),(some [],ld 54 53),(some [],fa 55 4 0),(some [],ld 56 55),(some [],(none,.iaddr 57 (S 54) (S 56) 6)),(some [],(none,.load 58 (S 57) true 6)),(some [],(none,.call 59 27 [(S 50),(S 52),(S 58)])),(some [],bn 60 .sub 48 59),(some [],mv 6 60),(some [],(none,.mv 7 (KB true)))]) .ret)
def C0g : ACode := (.seq (.reg [fa 27 3 0,(none,.load 28 (S 27) true 3),mv 29 2,fa 30 4 3,ld 31 30,(none,.call 32 30 [(S 28),(S 29),(S 31)]),mv 8 32]) (.seq (.seq (.reg [fa 33 4 3,ld 34 33,mv 9 34]) (.block 0 (.loop B4t))) B9h))
def cc356 : ACode := (.seq (.reg [(none,.box 3 (S 0)),(none,.box 4 (S 1)),(none,.mv 6 (K 0)),(none,.mv 7 (KB false))]) (.seq (.seq (.reg [(none,.load 10 (S 3) true 12),(none,.call 11 19 [(S 10)]),(none,.un 12 .not (S 11)),mv 13 12,(some (13,false),.mv 14 (S 2)),(some (13,false),.call 15 28 [(S 14)]),(some (13,false),.un 16 .not (S 15)),(none,.pick 17 (S 13) (KB true) (S 16)),mv 18 17,(some (18,false),.faddr 19 (S 3) 3),(some (18,false),.load 20 (S 19) true 2),(some (18,false),.faddr 21 (S 3) 5),(some (18,false),.load 22 (S 21) false 1),(some (18,false),.load 23 (S 4) true 5),(some (18,false),.call 24 29 [(S 20),(S 22),(S 23)]),(some (18,false),.un 25 .not (S 24)),(none,.pick 26 (S 18) (KB true) (S 25))]) B50) C0g))
theorem D87 (a2 : List Int) (a0 : XHarbour) (a1 : XPassage) : ∀ (n : Nat) (v10 : Int) (v11 : Int) (r : Int × Bool),J4 a2 a0 a1 n v10 v11 = some r → ∀ σ : St,σ.kept [2,3,4,8,9] [3,4] [] = ⟨[(2,vc (aL (List.map rI a2))),(3,vc (.pb 3 0)),(4,vc (.pb 4 0)),(8,vc (aI v10)),(9,vc (aI v11))],[(3,[aI a0.Forecast.Tide.Mean,aL (List.map XPart.row a0.Forecast.Tide.Parts),aL (List.map XSurge.row a0.Forecast.Surges),aL (List.map XPoint.row a0.Chart.Points),aL (List.map XSegment.row a0.Chart.Segments),aL (List.map XShip.row a0.Fleet),aI a0.Regime.Gap,aB a0.Regime.NoMeet,aI a0.Crew.Tugs,aI a0.Crew.Pilots,aI a0.Crew.Rest,aL (List.map rI a0.Crew.Moves)]),(4,[aI a1.Ship,aI a1.Segment,aB a1.Toward,aI a1.Start,aI a1.End])],[]⟩ → go Try.prog (.code (.loop B4t) :: [.blk 0,.code B9h]) (Ret [6,7] [.sc (.v (.int .i64 r.1)),.sc (.v (.bool r.2))]) .normal (some σ) := by
 intro n
 induction n with
 | zero => intro _ _ r h; cases h
 | succ n ih =>
  intro v10 v11 r h σ hσ
  rw [J4] at h
  refine B8 ?_
  rcases ug (decide (v11 ≤ a1.End)) with hb12 | hb12
  ·rw [A4 hb12] at h
   obtain ⟨r13,hr13,h⟩ := ob h
   try simp only [hσ,hb12,B4t,ua,ub,uc,ud,ue,RR]
   refine A6 (A3n _ _ _ _ hr13) rfl rfl (uf rfl) ?_
   try simp only [hb12,ua,ub,uc,ud,ue,RR]
   refine ih _ _ _ h _ ?_
   try simp only [hb12,ua,ub,uc,ud,ue,RR,List.map_nil]
  ·rw [A3 hb12] at h
   try simp only [hσ,hb12,B4t,B9h,ua,ub,uc,ud,ue,RR]
   refine B7 rfl ?_
   obtain ⟨x14,hx14,h⟩ := ob h
   obtain ⟨r15,hr15,h⟩ := ob h
   try simp only [hb12,hx14,ua,ub,uc,ud,ue,RR]
   refine D4 (A1n _ _ _ _ hr15) rfl rfl (uf rfl) ?_
   try simp only [hb12,hx14,ua,ub,uc,ud,ue,RR]
   cases h
   exact ⟨⟨rfl,rfl,trivial⟩,rfl⟩
theorem B9i (a2 : List Int) (a0 : XHarbour) (a1 : XPassage) (v6 : Bool) (r : Int × Bool) (h : M5 a2 a0 a1 v6 = some r) (σ : St) (hσ : σ.kept [2,3,4,26] [3,4] [] = ⟨[(2,vc (aL (List.map rI a2))),(3,vc (.pb 3 0)),(4,vc (.pb 4 0)),(26,vc (aB v6))],[(3,[aI a0.Forecast.Tide.Mean,aL (List.map XPart.row a0.Forecast.Tide.Parts),aL (List.map XSurge.row a0.Forecast.Surges),aL (List.map XPoint.row a0.Chart.Points),aL (List.map XSegment.row a0.Chart.Segments),aL (List.map XShip.row a0.Fleet),aI a0.Regime.Gap,aB a0.Regime.NoMeet,aI a0.Crew.Tugs,aI a0.Crew.Pilots,aI a0.Crew.Rest,aL (List.map rI a0.Crew.Moves)]),(4,[aI a1.Ship,aI a1.Segment,aB a1.Toward,aI a1.Start,aI a1.End])],[]⟩) : go Try.prog (.code B50 :: [.code C0g]) (Ret [6,7] [.sc (.v (.int .i64 r.1)),.sc (.v (.bool r.2))]) .normal (some σ) := by
 unfold M5 at h
 rcases ug v6 with hb7 | hb7
 ·rw [A4 hb7] at h
  try simp only [hσ,hb7,B50,ua,ub,uc,ud,ue,RR]
  cases h
  exact ⟨⟨rfl,rfl,trivial⟩,rfl⟩
 ·rw [A3 hb7] at h
  obtain ⟨r9,hr9,h⟩ := ob h
  try simp only [hσ,hb7,B50,C0g,ua,ub,uc,ud,ue,RR]
  refine A6 (A3n _ _ _ _ hr9) rfl rfl (uf rfl) ?_
  try simp only [hb7,ua,ub,uc,ud,ue,RR]
  refine D87 _ _ _ _ _ _ _ h _ ?_
  try simp only [hb7,ua,ub,uc,ud,ue,RR,List.map_nil]
theorem D8e : A9 Try.prog 9 = some (cc356.strip,[6,7],61) := by kernel_rfl
theorem Z5 (a0 : XHarbour) (a1 : XPassage) (a2 : List Int) (r : Int × Bool) (h : H3 a0 a1 a2 = some r) : FC Try.prog 9 [.ag (XHarbour.row a0),.ag (XPassage.row a1),.sc (.sl (List.map rI a2))] [.sc (.v (.int .i64 r.1)),.sc (.v (.bool r.2))] := by
 unfold H3 at h
 refine B9 (σ := ⟨[(0,va [aI a0.Forecast.Tide.Mean,aL (List.map XPart.row a0.Forecast.Tide.Parts),aL (List.map XSurge.row a0.Forecast.Surges),aL (List.map XPoint.row a0.Chart.Points),aL (List.map XSegment.row a0.Chart.Segments),aL (List.map XShip.row a0.Fleet),aI a0.Regime.Gap,aB a0.Regime.NoMeet,aI a0.Crew.Tugs,aI a0.Crew.Pilots,aI a0.Crew.Rest,aL (List.map rI a0.Crew.Moves)]),(1,va [aI a1.Ship,aI a1.Segment,aB a1.Toward,aI a1.Start,aI a1.End]),(2,vc (aL (List.map rI a2)))],[],[]⟩) B3 D8e rfl rfl ?_
 simp only [cc356]
 try simp only [ua,ub,uc,ud,ue,RR]
 refine B5 rfl rfl rfl ?_
 try simp only [ua,ub,uc,ud,ue,RR]
 refine B5 rfl rfl rfl ?_
 obtain ⟨r1,hr1,h⟩ := ob h
 try simp only [ua,ub,uc,ud,ue,RR]
 refine A6 (A5a _ _ hr1) rfl rfl (uf rfl) ?_
 rcases ug r1 with hb2 | hb2
 ·rw [A4 hb2] at h
  obtain ⟨r3,hr3,h⟩ := ob h
  try simp only [hb2,ua,ub,uc,ud,ue,RR]
  refine A6 (B2k _ _ hr3) rfl rfl (uf rfl) ?_
  rcases ug r3 with hb4 | hb4
  ·rw [A4 hb4] at h
   obtain ⟨r5,hr5,h⟩ := ob h
   try simp only [hb2,hb4,ua,ub,uc,ud,ue,RR]
   refine A6 (B0e _ _ _ _ hr5) rfl rfl (uf rfl) ?_
   try simp only [hb2,hb4,ua,ub,uc,ud,ue,RR]
   refine B9i _ _ _ _ _ h _ ?_
   try simp only [hb2,hb4,ua,ub,uc,ud,ue,RR,List.map_nil]
  ·rw [A3 hb4] at h
   try simp only [hb2,hb4,ua,ub,uc,ud,ue,RR]
   refine B9i _ _ _ _ _ h _ ?_
   try simp only [hb2,hb4,ua,ub,uc,ud,ue,RR,List.map_nil]
 ·rw [A3 hb2] at h
  try simp only [hb2,ua,ub,uc,ud,ue,RR]
  refine B9i _ _ _ _ _ h _ ?_
  try simp only [hb2,ua,ub,uc,ud,ue,RR,List.map_nil]
/- 32: impl_sailOn -/
def B5m : ACode := .seq (.reg [(none,.keep [1,3,4,6,10] [4,6] [])]) (.seq (.seq (.reg [mv 26 10,fa 27 6 4,ld 28 27,bn 29 .leq 26 28]) (.cond (S 29) .skip (.exit 0))) (.seq (.block 1 (.seq (.drw [(some [],fa 32 4 0),(some [],(none,.load 33 (S 32) true 3)),(some [],mv 34 3),(some [],mv 35 10),(some [],(none,.call 36 30 [(S 33),(S 34),(S 35)])),(some [36],fa 37 4 3),(some [36],(none,.load 38 (S 37) true 2)),(some [36],fa 39 6 1),(some [36],ld 40 39),(some [36],fa 41 4 5),(some [36],ld 42 41),(some [36],fa 43 6 0),(some [36],ld 44 43),(some [36],(none,.iaddr 45 (S 42) (S 44) 6)),(some [36],(none,.load 46 (S 45) true 6)),(some [],(none,.call 47 27 [(S 38),(S 40),(S 46)])),(some [],bn 48 .lss 36 47)]) (.cond (S 48) (.pan [mv 49 1,mv 50 10,(none,.build 51 [aI 0,aI 0] [(0,1,(S 49)),(1,1,(S 50))]),(none,.mkif 52 89 (S 51))] (S 52)) .skip))) (.reg [mv 30 10,(none,.bin 31 .add (S 30) (K 1)),mv 10 31])))
def cc361 : ACode := (.seq (.reg [(none,.box 4 (S 0)),(none,.box 6 (S 2))]) (.seq (.seq (.reg [(none,.load 12 (S 4) true 12),(none,.load 13 (S 6) true 5),mv 14 3,(none,.call 15 9 [(S 12),(S 13),(S 14)]),mv 11 15,(none,.extr 16 (S 11) 0),(none,.extr 17 (S 11) 1),mv 8 16,mv 9 17]) (.seq (.reg [mv 18 9,(none,.un 19 .not (S 18)),mv 20 19,(some (20,false),.mv 21 (S 8)),(some (20,false),.bin 22 .geq (S 21) (K 0)),(none,.pick 23 (S 20) (KB true) (S 22))]) (.cond (S 23) .ret .skip))) (.seq (.reg [fa 24 6 3,ld 25 24,mv 10 25]) (.block 0 (.loop B5m)))))
theorem D8h (a1 : Int) (a3 : List Int) (a0 : XHarbour) (a2 : XPassage) : ∀ (n : Nat) (v4 : Int) (r : Option Xgrounded),P4 a1 a3 a0 a2 n v4 = some r → ∀ σ : St,σ.kept [1,3,4,6,10] [4,6] [] = ⟨[(1,vc (aI a1)),(3,vc (aL (List.map rI a3))),(4,vc (.pb 4 0)),(6,vc (.pb 6 0)),(10,vc (aI v4))],[(4,[aI a0.Forecast.Tide.Mean,aL (List.map XPart.row a0.Forecast.Tide.Parts),aL (List.map XSurge.row a0.Forecast.Surges),aL (List.map XPoint.row a0.Chart.Points),aL (List.map XSegment.row a0.Chart.Segments),aL (List.map XShip.row a0.Fleet),aI a0.Regime.Gap,aB a0.Regime.NoMeet,aI a0.Crew.Tugs,aI a0.Crew.Pilots,aI a0.Crew.Rest,aL (List.map rI a0.Crew.Moves)]),(6,[aI a2.Ship,aI a2.Segment,aB a2.Toward,aI a2.Start,aI a2.End])],[]⟩ → go Try.prog (.code (.loop B5m) :: [.blk 0]) (C1j [] [] (r.map A79)) .normal (some σ) := by
 intro n
 induction n with
 | zero => intro _ r h; cases h
 | succ n ih =>
  intro v4 r h σ hσ
  rw [P4] at h
  refine B8 ?_
  rcases ug (decide (v4 ≤ a2.End)) with hb5 | hb5
  ·rw [A4 hb5] at h
   try simp only [hσ,hb5,B5m,ua,ub,uc,ud,ue,RR]
   refine B7 rfl ?_
   obtain ⟨r6,hr6,h⟩ := ob h
   try simp only [hb5,ua,ub,uc,ud,ue,RR]
   refine D4 (A3n _ _ _ _ hr6) rfl rfl (uf rfl) ?_
   obtain ⟨x7,hx7,h⟩ := ob h
   obtain ⟨r9,hr9,h⟩ := ob h
   try simp only [hb5,hx7,ua,ub,uc,ud,ue,RR]
   refine D4 (A1n _ _ _ _ hr9) rfl rfl (uf rfl) ?_
   rcases ug (decide (r6 < r9)) with hb10 | hb10
   ·rw [A4 hb10] at h
    try simp only [hb5,hx7,hb10,ua,ub,uc,ud,ue,RR]
    refine D2b rfl rfl rfl ?_
    try simp only [hb5,hx7,hb10,ua,ub,uc,ud,ue,RR]
    cases h
    exact rfl
   ·rw [A3 hb10] at h
    try simp only [hb5,hx7,hb10,ua,ub,uc,ud,ue,RR]
    refine ih _ _ h _ ?_
    try simp only [hb5,hx7,hb10,ua,ub,uc,ud,ue,RR,List.map_nil]
  ·rw [A3 hb5] at h
   try simp only [hσ,hb5,B5m,ua,ub,uc,ud,ue,RR]
   cases h
   exact ⟨trivial,rfl⟩
theorem E0d : A9 Try.prog 32 = some (cc361.strip,[],53) := by kernel_rfl
theorem A7j (a0 : XHarbour) (a1 : Int) (a2 : XPassage) (a3 : List Int) (r : Option Xgrounded) (h : A1e a0 a1 a2 a3 = some r) : FCq Try.prog 32 [.ag (XHarbour.row a0),.sc (.int .i64 a1),.ag (XPassage.row a2),.sc (.sl (List.map rI a3))] [] (r.map A79) := by
 unfold A1e at h
 refine D3m (σ := ⟨[(0,va [aI a0.Forecast.Tide.Mean,aL (List.map XPart.row a0.Forecast.Tide.Parts),aL (List.map XSurge.row a0.Forecast.Surges),aL (List.map XPoint.row a0.Chart.Points),aL (List.map XSegment.row a0.Chart.Segments),aL (List.map XShip.row a0.Fleet),aI a0.Regime.Gap,aB a0.Regime.NoMeet,aI a0.Crew.Tugs,aI a0.Crew.Pilots,aI a0.Crew.Rest,aL (List.map rI a0.Crew.Moves)]),(1,vc (aI a1)),(2,va [aI a2.Ship,aI a2.Segment,aB a2.Toward,aI a2.Start,aI a2.End]),(3,vc (aL (List.map rI a3)))],[],[]⟩) B3 E0d rfl rfl ?_
 simp only [cc361]
 try simp only [ua,ub,uc,ud,ue,RR]
 refine B5 rfl rfl rfl ?_
 try simp only [ua,ub,uc,ud,ue,RR]
 refine B5 rfl rfl rfl ?_
 obtain ⟨r1,hr1,h⟩ := ob h
 try simp only [ua,ub,uc,ud,ue,RR]
 refine A6 (Z5 _ _ _ _ hr1) rfl rfl (uf rfl) ?_
 rcases ug r1.2 with hb2 | hb2
 ·rw [A4 hb2] at h
  rcases ug (decide ((0 : Int) ≤ r1.1)) with hb3 | hb3
  ·rw [A4 hb3] at h
   try simp only [hb2,hb3,ua,ub,uc,ud,ue,RR]
   cases h
   exact ⟨trivial,rfl⟩
  ·rw [A3 hb3] at h
   try simp only [hb2,hb3,ua,ub,uc,ud,ue,RR]
   refine D8h _ _ _ _ _ _ _ h _ ?_
   try simp only [hb2,hb3,ua,ub,uc,ud,ue,RR,List.map_nil]
 ·rw [A3 hb2] at h
  try simp only [hb2,ua,ub,uc,ud,ue,RR]
  cases h
  exact ⟨trivial,rfl⟩
/- 10: impl_FirstGrounding -/
def B45 : ACode := .seq (.reg [(none,.keep [2,3,6,7,8,13,14,15,21,22,23] [1099511627776,1099511627777] [])]) (.seq (.reg [bn 24 .lss 23 22]) (.seq (.cond (S 24) .skip (.exit 2)) (.seq (.block 3 (.seq (.reg [(none,.iaddr 25 (S 21) (S 23) 5),(none,.load 26 (S 25) true 5),(none,.alloc 11 [aI 0,aI 0,aB false,aI 0,aI 0]),(none,.store (S 11) (S 26) 5)]) (.cal [(none,.load 27 (S 3) true 12),mv 28 8,(none,.load 29 (S 11) true 5),mv 30 2] 31 32 [(S 27),(S 28),(S 29),(S 30)]))) (.reg [(none,.bin 32 .add (S 23) (K 1)),mv 23 32]))))
def C16 : ACode := (.reg [(none,.bin 33 .add (S 15) (K 1)),mv 15 33])
def A9c : ACode := .seq (.reg [(none,.keep [2,3,6,7,13,14,15] [1099511627776,1099511627777] [])]) (.seq (.reg [bn 16 .lss 15 14]) (.seq (.cond (S 16) .skip (.exit 0)) (.seq (.block 1 (.seq (.reg [mv 17 15,(none,.iaddr 18 (S 13) (S 15) 4),(none,.load 19 (S 18) true 4),(none,.alloc 9 [aI 0,aI 0,aI 0,.nil]),mv 8 17,(none,.store (S 9) (S 19) 4)]) (.seq (.reg [fa 20 9 3,ld 21 20,(none,.len 22 (S 21)),(none,.mv 23 (K 0))]) (.block 2 (.loop B45))))) C16)))
def B1m : ACode := (.seq (.reg [(none,.store (S 6) (K (-1)) 1),(none,.store (S 7) (K (-1)) 1)]) .ret)
def cc368 : ACode := (.seq (.seq (.reg [mv 13 1,(none,.len 14 (S 13)),(none,.mv 15 (K 0))]) (.block 0 (.loop A9c))) B1m)
def cc369 : ACode := (.reg [(none,.box 3 (S 0)),(none,.alloc 6 [aI 0]),(none,.alloc 7 [aI 0]),(none,.frzb 3),(none,.keep [1,2,3,6,7] [6,7] [])])
theorem E1l (a2 : List Int) (a0 : XHarbour) (v1 : Int) (a1 : List XOption) (x3 : XOption) (k_impl_FirstGrounding_1 : Int → Option (Int × Int)) (hk_impl_FirstGrounding_1 : ∀ (v1 : Int) zr,k_impl_FirstGrounding_1 v1 = some zr → ∀ σ : St,σ.kept [2,3,6,7,13,14,15] [1099511627776,1099511627777] [] = ⟨[(2,vc (aL (List.map rI a2))),(3,vc (.dat (.pd [.int .i64 a0.Forecast.Tide.Mean,.sl (List.map XPart.row a0.Forecast.Tide.Parts),.sl (List.map XSurge.row a0.Forecast.Surges),.sl (List.map XPoint.row a0.Chart.Points),.sl (List.map XSegment.row a0.Chart.Segments),.sl (List.map XShip.row a0.Fleet),.int .i64 a0.Regime.Gap,.bool a0.Regime.NoMeet,.int .i64 a0.Crew.Tugs,.int .i64 a0.Crew.Pilots,.int .i64 a0.Crew.Rest,.sl (List.map rI a0.Crew.Moves)]))),(6,vc (.pb 1099511627776 0)),(7,vc (.pb 1099511627777 0)),(13,vc (aL (List.map XOption.row a1))),(14,vc (aI (a1.length : Int))),(15,vc (aI v1))],[(1099511627776,[aI (0 : Int)]),(1099511627777,[aI (0 : Int)])],[]⟩ → go Try.prog (.code (.loop A9c) :: [.blk 0,.code B1m]) (B6d 6 7 89 zr) .normal (some σ)) : ∀ (n : Nat) (v4 : Int) (r : Int × Int),M8 a2 a0 v1 a1 x3 k_impl_FirstGrounding_1 n v4 = some r → ∀ σ : St,σ.kept [2,3,6,7,8,13,14,15,21,22,23] [1099511627776,1099511627777] [] = ⟨[(2,vc (aL (List.map rI a2))),(3,vc (.dat (.pd [.int .i64 a0.Forecast.Tide.Mean,.sl (List.map XPart.row a0.Forecast.Tide.Parts),.sl (List.map XSurge.row a0.Forecast.Surges),.sl (List.map XPoint.row a0.Chart.Points),.sl (List.map XSegment.row a0.Chart.Segments),.sl (List.map XShip.row a0.Fleet),.int .i64 a0.Regime.Gap,.bool a0.Regime.NoMeet,.int .i64 a0.Crew.Tugs,.int .i64 a0.Crew.Pilots,.int .i64 a0.Crew.Rest,.sl (List.map rI a0.Crew.Moves)]))),(6,vc (.pb 1099511627776 0)),(7,vc (.pb 1099511627777 0)),(8,vc (aI v1)),(13,vc (aL (List.map XOption.row a1))),(14,vc (aI (a1.length : Int))),(15,vc (aI v1)),(21,vc (aL (List.map XPassage.row x3.Passages))),(22,vc (aI (x3.Passages.length : Int))),(23,vc (aI v4))],[(1099511627776,[aI (0 : Int)]),(1099511627777,[aI (0 : Int)])],[]⟩ → go Try.prog (.code (.loop B45) :: [.blk 2,.blk 1,.code C16,.code (.loop A9c),.blk 0,.code B1m]) (B6d 6 7 89 r) .normal (some σ) := by
 intro n
 induction n with
 | zero => intro _ r h; cases h
 | succ n ih =>
  intro v4 r h σ hσ
  rw [M8] at h
  refine B8 ?_
  rcases ug (decide (v4 < (x3.Passages.length : Int))) with hb5 | hb5
  ·rw [A4 hb5] at h
   obtain ⟨x6,hx6,h⟩ := ob h
   try simp only [hσ,hb5,hx6,B45,ua,ub,uc,ud,ue,RR]
   refine D2 rfl rfl ?_
   obtain ⟨r7,hr7,h⟩ := ob h
   rcases ug r7.isSome with hb8 | hb8
   ·rw [A4 hb8] at h
    obtain ⟨y9,hy9,h⟩ := ob h
    try simp only [hx6,ua,ub,uc,ud,ue,RR]
    refine D0z (pd := .ifs 89 [.int .i64 y9.option,.int .i64 y9.minute]) (FCq.some (A7j _ _ _ _ _ hr7) (by rw [hy9]; rfl)) rfl ?_
    try simp only [hx6,ua,ub,uc,ud,ue,RR]
    cases h
    exact ⟨rfl,rfl,_,_,rfl,rfl,rfl⟩
   ·rw [A3 hb8] at h
    have hn10 := C0j hb8
    try simp only [hb5,hx6,ua,ub,uc,ud,ue,RR]
    refine B9c ?_
    try simp only [hb5,hx6,ua,ub,uc,ud,ue,RR]
    refine A6 (FCq.none (A7j _ _ _ _ _ hr7) (by rw [hn10]; rfl)) rfl rfl (uf rfl) ?_
    try simp only [hb5,hx6,ua,ub,uc,ud,ue,RR]
    refine ih _ _ h _ ?_
    try simp only [hb5,hx6,ua,ub,uc,ud,ue,RR,List.map_nil]
  ·rw [A3 hb5] at h
   try simp only [hσ,hb5,B45,C16,ua,ub,uc,ud,ue,RR]
   refine hk_impl_FirstGrounding_1 _ _ h _ ?_
   try simp only [hb5,ua,ub,uc,ud,ue,RR,List.map_nil]
theorem E0r (a2 : List Int) (a0 : XHarbour) (a1 : List XOption) : ∀ (n : Nat) (v1 : Int) (r : Int × Int),J2 a2 a0 a1 n v1 = some r → ∀ σ : St,σ.kept [2,3,6,7,13,14,15] [1099511627776,1099511627777] [] = ⟨[(2,vc (aL (List.map rI a2))),(3,vc (.dat (.pd [.int .i64 a0.Forecast.Tide.Mean,.sl (List.map XPart.row a0.Forecast.Tide.Parts),.sl (List.map XSurge.row a0.Forecast.Surges),.sl (List.map XPoint.row a0.Chart.Points),.sl (List.map XSegment.row a0.Chart.Segments),.sl (List.map XShip.row a0.Fleet),.int .i64 a0.Regime.Gap,.bool a0.Regime.NoMeet,.int .i64 a0.Crew.Tugs,.int .i64 a0.Crew.Pilots,.int .i64 a0.Crew.Rest,.sl (List.map rI a0.Crew.Moves)]))),(6,vc (.pb 1099511627776 0)),(7,vc (.pb 1099511627777 0)),(13,vc (aL (List.map XOption.row a1))),(14,vc (aI (a1.length : Int))),(15,vc (aI v1))],[(1099511627776,[aI (0 : Int)]),(1099511627777,[aI (0 : Int)])],[]⟩ → go Try.prog (.code (.loop A9c) :: [.blk 0,.code B1m]) (B6d 6 7 89 r) .normal (some σ) := by
 intro n
 induction n with
 | zero => intro _ r h; cases h
 | succ n ih =>
  intro v1 r h σ hσ
  rw [J2] at h
  refine B8 ?_
  rcases ug (decide (v1 < (a1.length : Int))) with hb2 | hb2
  ·rw [A4 hb2] at h
   obtain ⟨x3,hx3,h⟩ := ob h
   try simp only [hσ,hb2,hx3,A9c,ua,ub,uc,ud,ue,RR]
   refine D2 rfl rfl ?_
   try simp only [hb2,hx3,ua,ub,uc,ud,ue,RR]
   refine E1l _ _ _ _ _ (J2 a2 a0 a1 n) ih _ _ _ h _ ?_
   try simp only [hb2,hx3,ua,ub,uc,ud,ue,RR,List.map_nil]
  ·rw [A3 hb2] at h
   try simp only [hσ,hb2,A9c,B1m,ua,ub,uc,ud,ue,RR]
   cases h
   exact ⟨rfl,rfl,_,_,rfl,rfl,rfl,rfl⟩
theorem D83 : B1i Try.prog 10 31 12 6 7 = some (cc369.strip,cc368.strip,34) := by kernel_rfl
theorem A6q (a0 : XHarbour) (a1 : List XOption) (a2 : List Int) (r : Int × Int) (h : O5 a0 a1 a2 = some r) : FC Try.prog 10 [.ag (XHarbour.row a0),.sc (.sl (List.map XOption.row a1)),.sc (.sl (List.map rI a2))] [.sc (.v (.int .i64 r.1)),.sc (.v (.int .i64 r.2))] := by
 unfold O5 at h
 refine E1a (ti := 3) (T := 89) (σ := ⟨[(0,va [aI a0.Forecast.Tide.Mean,aL (List.map XPart.row a0.Forecast.Tide.Parts),aL (List.map XSurge.row a0.Forecast.Surges),aL (List.map XPoint.row a0.Chart.Points),aL (List.map XSegment.row a0.Chart.Segments),aL (List.map XShip.row a0.Fleet),aI a0.Regime.Gap,aB a0.Regime.NoMeet,aI a0.Crew.Tugs,aI a0.Crew.Pilots,aI a0.Crew.Rest,aL (List.map rI a0.Crew.Moves)]),(1,vc (aL (List.map XOption.row a1))),(2,vc (aL (List.map rI a2)))],[],[]⟩) B3 (by kernel_rfl) D83 rfl rfl (by kernel_rfl) (by decide) rfl rfl B8j B52 rfl ?_
 simp only [cc369]
 try simp only [ua,ub,uc,ud,ue,RR]
 refine B5 rfl rfl rfl ?_
 try simp only [ua,ub,uc,ud,ue,RR]
 refine D2 rfl rfl ?_
 try simp only [ua,ub,uc,ud,ue,RR]
 refine D2 rfl rfl ?_
 try simp only [ua,ub,uc,ud,ue,RR]
 refine C8b rfl rfl ?_
 try simp only [ua,ub,uc,ud,ue,RR]
 refine ⟨rfl,rfl,rfl,rfl,rfl,rfl,?_⟩
 show go Try.prog [.code cc368] _ .normal (some ⟨[(1,vc (aL (List.map XOption.row a1))),(2,vc (aL (List.map rI a2))),(3,vc (.dat (.pd [.int .i64 a0.Forecast.Tide.Mean,.sl (List.map XPart.row a0.Forecast.Tide.Parts),.sl (List.map XSurge.row a0.Forecast.Surges),.sl (List.map XPoint.row a0.Chart.Points),.sl (List.map XSegment.row a0.Chart.Segments),.sl (List.map XShip.row a0.Fleet),.int .i64 a0.Regime.Gap,.bool a0.Regime.NoMeet,.int .i64 a0.Crew.Tugs,.int .i64 a0.Crew.Pilots,.int .i64 a0.Crew.Rest,.sl (List.map rI a0.Crew.Moves)]))),(6,vc (.pb 1099511627776 0)),(7,vc (.pb 1099511627777 0))],[(1099511627776,[aI (0 : Int)]),(1099511627777,[aI (0 : Int)])],[]⟩)
 simp only [cc368]
 try simp only [ua,ub,uc,ud,ue,RR]
 refine E0r _ _ _ _ _ _ h _ ?_
 try simp only [ua,ub,uc,ud,ue,RR,List.map_nil]
/- 11: impl_HoldsOn -/
def B5k : ACode := .seq (.reg [(none,.keep [2,3,13,14,15,20,21,22] [3] [])]) (.seq (.reg [bn 23 .lss 22 21]) (.seq (.cond (S 23) .skip (.exit 2)) (.seq (.block 3 (.seq (.reg [(none,.iaddr 24 (S 20) (S 22) 5),(none,.load 25 (S 24) true 5),(none,.alloc 10 [aI 0,aI 0,aB false,aI 0,aI 0]),(none,.store (S 10) (S 25) 5)]) (.seq (.reg [(none,.load 27 (S 3) true 12),(none,.load 28 (S 10) true 5),mv 29 2,(none,.call 30 9 [(S 27),(S 28),(S 29)]),mv 26 30,(none,.extr 31 (S 26) 0),(none,.extr 32 (S 26) 1),mv 11 31,mv 12 32]) (.seq (.reg [mv 33 12,(none,.un 34 .not (S 33)),mv 35 34,(some (35,false),.mv 36 (S 11)),(some (35,false),.bin 37 .lss (S 36) (K 0)),(none,.pick 38 (S 35) (KB true) (S 37))]) (.cond (S 38) (.seq (.reg [(none,.mv 6 (KB false))]) .ret) .skip))))) (.reg [(none,.bin 39 .add (S 22) (K 1)),mv 22 39]))))
def B98 : ACode := (.reg [(none,.bin 40 .add (S 15) (K 1)),mv 15 40])
def A8x : ACode := .seq (.reg [(none,.keep [2,3,13,14,15] [3] [])]) (.seq (.reg [bn 16 .lss 15 14]) (.seq (.cond (S 16) .skip (.exit 0)) (.seq (.block 1 (.seq (.reg [(none,.iaddr 17 (S 13) (S 15) 4),(none,.load 18 (S 17) true 4),(none,.alloc 8 [aI 0,aI 0,aI 0,.nil]),(none,.store (S 8) (S 18) 4)]) (.seq (.reg [fa 19 8 3,ld 20 19,(none,.len 21 (S 20)),(none,.mv 22 (K 0))]) (.block 2 (.loop B5k))))) B98)))
def B1p : ACode := (.seq (.reg [(none,.mv 6 (KB true))]) .ret)
def cc377 : ACode := (.seq (.reg [(none,.box 3 (S 0)),(none,.mv 6 (KB false))]) (.seq (.seq (.reg [mv 13 1,(none,.len 14 (S 13)),(none,.mv 15 (K 0))]) (.block 0 (.loop A8x))) B1p))
theorem D8a (a2 : List Int) (a1 : List XOption) (v1 : Int) (x3 : XOption) (a0 : XHarbour) (k_impl_HoldsOn_1 : Int → Option Bool) (hk_impl_HoldsOn_1 : ∀ (v1 : Int) zr,k_impl_HoldsOn_1 v1 = some zr → ∀ σ : St,σ.kept [2,3,13,14,15] [3] [] = ⟨[(2,vc (aL (List.map rI a2))),(3,vc (.pb 3 0)),(13,vc (aL (List.map XOption.row a1))),(14,vc (aI (a1.length : Int))),(15,vc (aI v1))],[(3,[aI a0.Forecast.Tide.Mean,aL (List.map XPart.row a0.Forecast.Tide.Parts),aL (List.map XSurge.row a0.Forecast.Surges),aL (List.map XPoint.row a0.Chart.Points),aL (List.map XSegment.row a0.Chart.Segments),aL (List.map XShip.row a0.Fleet),aI a0.Regime.Gap,aB a0.Regime.NoMeet,aI a0.Crew.Tugs,aI a0.Crew.Pilots,aI a0.Crew.Rest,aL (List.map rI a0.Crew.Moves)])],[]⟩ → go Try.prog (.code (.loop A8x) :: [.blk 0,.code B1p]) (Ret [6] [.sc (.v (.bool zr))]) .normal (some σ)) : ∀ (n : Nat) (v4 : Int) (r : Bool),X3 a2 a1 v1 x3 a0 k_impl_HoldsOn_1 n v4 = some r → ∀ σ : St,σ.kept [2,3,13,14,15,20,21,22] [3] [] = ⟨[(2,vc (aL (List.map rI a2))),(3,vc (.pb 3 0)),(13,vc (aL (List.map XOption.row a1))),(14,vc (aI (a1.length : Int))),(15,vc (aI v1)),(20,vc (aL (List.map XPassage.row x3.Passages))),(21,vc (aI (x3.Passages.length : Int))),(22,vc (aI v4))],[(3,[aI a0.Forecast.Tide.Mean,aL (List.map XPart.row a0.Forecast.Tide.Parts),aL (List.map XSurge.row a0.Forecast.Surges),aL (List.map XPoint.row a0.Chart.Points),aL (List.map XSegment.row a0.Chart.Segments),aL (List.map XShip.row a0.Fleet),aI a0.Regime.Gap,aB a0.Regime.NoMeet,aI a0.Crew.Tugs,aI a0.Crew.Pilots,aI a0.Crew.Rest,aL (List.map rI a0.Crew.Moves)])],[]⟩ → go Try.prog (.code (.loop B5k) :: [.blk 2,.blk 1,.code B98,.code (.loop A8x),.blk 0,.code B1p]) (Ret [6] [.sc (.v (.bool r))]) .normal (some σ) := by
 intro n
 induction n with
 | zero => intro _ r h; cases h
 | succ n ih =>
  intro v4 r h σ hσ
  rw [X3] at h
  refine B8 ?_
  rcases ug (decide (v4 < (x3.Passages.length : Int))) with hb5 | hb5
  ·rw [A4 hb5] at h
   obtain ⟨x6,hx6,h⟩ := ob h
   try simp only [hσ,hb5,hx6,B5k,ua,ub,uc,ud,ue,RR]
   refine D2 rfl rfl ?_
   obtain ⟨r7,hr7,h⟩ := ob h
   try simp only [hb5,hx6,ua,ub,uc,ud,ue,RR]
   refine A6 (Z5 _ _ _ _ hr7) rfl rfl (uf rfl) ?_
   rcases ug r7.2 with hb8 | hb8
   ·rw [A4 hb8] at h
    rcases ug (decide (r7.1 < (0 : Int))) with hb9 | hb9
    ·rw [A4 hb9] at h
     try simp only [hb5,hx6,hb8,hb9,ua,ub,uc,ud,ue,RR]
     cases h
     exact ⟨⟨rfl,trivial⟩,rfl⟩
    ·rw [A3 hb9] at h
     try simp only [hb5,hx6,hb8,hb9,ua,ub,uc,ud,ue,RR]
     refine ih _ _ h _ ?_
     try simp only [hb5,hx6,hb8,hb9,ua,ub,uc,ud,ue,RR,List.map_nil]
   ·rw [A3 hb8] at h
    try simp only [hb5,hx6,hb8,ua,ub,uc,ud,ue,RR]
    cases h
    exact ⟨⟨rfl,trivial⟩,rfl⟩
  ·rw [A3 hb5] at h
   try simp only [hσ,hb5,B5k,B98,ua,ub,uc,ud,ue,RR]
   refine hk_impl_HoldsOn_1 _ _ h _ ?_
   try simp only [hb5,ua,ub,uc,ud,ue,RR,List.map_nil]
theorem D8m (a2 : List Int) (a1 : List XOption) (a0 : XHarbour) : ∀ (n : Nat) (v1 : Int) (r : Bool),S5 a2 a1 a0 n v1 = some r → ∀ σ : St,σ.kept [2,3,13,14,15] [3] [] = ⟨[(2,vc (aL (List.map rI a2))),(3,vc (.pb 3 0)),(13,vc (aL (List.map XOption.row a1))),(14,vc (aI (a1.length : Int))),(15,vc (aI v1))],[(3,[aI a0.Forecast.Tide.Mean,aL (List.map XPart.row a0.Forecast.Tide.Parts),aL (List.map XSurge.row a0.Forecast.Surges),aL (List.map XPoint.row a0.Chart.Points),aL (List.map XSegment.row a0.Chart.Segments),aL (List.map XShip.row a0.Fleet),aI a0.Regime.Gap,aB a0.Regime.NoMeet,aI a0.Crew.Tugs,aI a0.Crew.Pilots,aI a0.Crew.Rest,aL (List.map rI a0.Crew.Moves)])],[]⟩ → go Try.prog (.code (.loop A8x) :: [.blk 0,.code B1p]) (Ret [6] [.sc (.v (.bool r))]) .normal (some σ) := by
 intro n
 induction n with
 | zero => intro _ r h; cases h
 | succ n ih =>
  intro v1 r h σ hσ
  rw [S5] at h
  refine B8 ?_
  rcases ug (decide (v1 < (a1.length : Int))) with hb2 | hb2
  ·rw [A4 hb2] at h
   obtain ⟨x3,hx3,h⟩ := ob h
   try simp only [hσ,hb2,hx3,A8x,ua,ub,uc,ud,ue,RR]
   refine D2 rfl rfl ?_
   try simp only [hb2,hx3,ua,ub,uc,ud,ue,RR]
   refine D8a _ _ _ _ _ (S5 a2 a1 a0 n) ih _ _ _ h _ ?_
   try simp only [hb2,hx3,ua,ub,uc,ud,ue,RR,List.map_nil]
  ·rw [A3 hb2] at h
   try simp only [hσ,hb2,A8x,B1p,ua,ub,uc,ud,ue,RR]
   cases h
   exact ⟨⟨rfl,trivial⟩,rfl⟩
theorem D9h : A9 Try.prog 11 = some (cc377.strip,[6],41) := by kernel_rfl
theorem B16 (a0 : XHarbour) (a1 : List XOption) (a2 : List Int) (r : Bool) (h : A0n a0 a1 a2 = some r) : FC Try.prog 11 [.ag (XHarbour.row a0),.sc (.sl (List.map XOption.row a1)),.sc (.sl (List.map rI a2))] [.sc (.v (.bool r))] := by
 unfold A0n at h
 refine B9 (σ := ⟨[(0,va [aI a0.Forecast.Tide.Mean,aL (List.map XPart.row a0.Forecast.Tide.Parts),aL (List.map XSurge.row a0.Forecast.Surges),aL (List.map XPoint.row a0.Chart.Points),aL (List.map XSegment.row a0.Chart.Segments),aL (List.map XShip.row a0.Fleet),aI a0.Regime.Gap,aB a0.Regime.NoMeet,aI a0.Crew.Tugs,aI a0.Crew.Pilots,aI a0.Crew.Rest,aL (List.map rI a0.Crew.Moves)]),(1,vc (aL (List.map XOption.row a1))),(2,vc (aL (List.map rI a2)))],[],[]⟩) B3 D9h rfl rfl ?_
 simp only [cc377]
 try simp only [ua,ub,uc,ud,ue,RR]
 refine B5 rfl rfl rfl ?_
 try simp only [ua,ub,uc,ud,ue,RR]
 refine D8m _ _ _ _ _ _ h _ ?_
 try simp only [ua,ub,uc,ud,ue,RR,List.map_nil]
/- 3: laws_FnGrounded -/
def B5a : ACode := .seq (.reg [(none,.keep [3,4,5,6,7,75] [3,4] [])]) (.cond (S 75) (.seq (.reg [mv 76 7,(none,.bin 77 .geq (S 76) (K 2000)),mv 2 77]) .ret) .skip)
def C1y : ACode := (.seq (.reg [(none,.load 78 (S 3) true 12),(none,.alloc 8 [aI 0,.nil,.nil,.nil,.nil,.nil,aI 0,aB false,aI 0,aI 0,aI 0,.nil]),(none,.store (S 8) (S 78) 12)]) (.seq (.reg [(none,.bslice 79 6 [.str [],.int .i64 0,.int .i64 0,.int .i64 0,.int .i64 0,.bool false] 0 []),fa 80 3 5,ld 81 80,(none,.app 82 6 56 (S 79) (S 81)),fa 83 8 5,(none,.store (S 83) (S 82) 1)]) (.seq (.reg [fa 84 8 5,ld 85 84,fa 86 4 0,ld 87 86,mv 88 7,(none,.iaddr 89 (S 85) (S 87) 6),fa 90 89 2,(none,.store (S 90) (S 88) 1)]) (.seq (.drw [(some [96],(none,.load 92 (S 8) true 12)),(some [96],mv 93 6),(some [96],(none,.iaddr 94 (S 93) (K 0) 5)),(some [96],(none,.load 95 (S 94) true 5)),(some [],(none,.bslice 96 1 [.int .i64 0] 1 [(0,(K 0))])),(some [],(none,.call 97 9 [(S 92),(S 95),(S 96)])),(some [],mv 91 97),(some [],(none,.extr 98 (S 91) 0)),(some [],(none,.extr 99 (S 91) 1)),(some [],mv 9 98),(some [],mv 10 99)]) (.seq (.reg [fa 100 8 5,ld 101 100,fa 102 4 0,ld 103 102,mv 104 7,(none,.bin 105 .add (S 104) (K 1)),(none,.iaddr 106 (S 101) (S 103) 6),fa 107 106 2,(none,.store (S 107) (S 105) 1)]) (.seq (.drw [(some [113],(none,.load 109 (S 8) true 12)),(some [113],mv 110 6),(some [113],(none,.iaddr 111 (S 110) (K 0) 5)),(some [113],(none,.load 112 (S 111) true 5)),(some [],(none,.bslice 113 1 [.int .i64 0] 1 [(0,(K 0))])),(some [],(none,.call 114 9 [(S 109),(S 112),(S 113)])),(some [],mv 108 114),(some [],(none,.extr 115 (S 108) 0)),(some [],(none,.extr 116 (S 108) 1)),(some [],mv 11 115),(some [],mv 12 116)]) (.seq (.drw [(some [121],(none,.load 118 (S 8) true 12)),(some [121],mv 119 5),(some [121],(none,.slc 120 4 (S 119) none (some (K 1)) none)),(some [],(none,.bslice 121 1 [.int .i64 0] 1 [(0,(K 0))])),(some [],(none,.call 122 10 [(S 118),(S 120),(S 121)])),(some [],mv 117 122),(some [],(none,.extr 123 (S 117) 0)),(some [],(none,.extr 124 (S 117) 1)),(some [],mv 13 123),(some [],mv 14 124)]) (.seq (.drw [(some [],mv 125 10),(some [],mv 126 125),(some [],(some (126,true),.mv 127 (S 12))),(some [],(none,.pick 128 (S 126) (S 127) (KB false))),(some [],mv 129 128),(some [],(some (129,true),.mv 130 (S 9))),(some [],(some (129,true),.bin 131 .geq (S 130) (K 0))),(some [],(none,.pick 132 (S 129) (S 131) (KB false))),(some [],mv 133 132),(some [],(some (133,true),.mv 134 (S 11))),(some [],(some (133,true),.bin 135 .lss (S 134) (K 0))),(some [],(none,.pick 136 (S 133) (S 135) (KB false))),(some [],mv 137 136),(some [],(some (137,true),.mv 138 (S 13))),(some [],(some (137,true),.bin 139 .eql (S 138) (K 0))),(some [],(none,.pick 140 (S 137) (S 139) (KB false))),(some [],mv 141 140),(some [],(some (141,true),.mv 142 (S 14))),(some [],(some (141,true),.mv 143 (S 6))),(some [],(some (141,true),.iaddr 144 (S 143) (K 0) 5)),(some [],(some (141,true),.faddr 145 (S 144) 3)),(some [],(some (141,true),.load 146 (S 145) false 1)),(some [],(some (141,true),.bin 147 .geq (S 142) (S 146))),(some [],(none,.pick 148 (S 141) (S 147) (KB false))),(some [],mv 149 148),(some [],(some (149,true),.mv 150 (S 14))),(some [],(some (149,true),.mv 151 (S 6))),(some [],(some (149,true),.iaddr 152 (S 151) (K 0) 5)),(some [],(some (149,true),.faddr 153 (S 152) 4)),(some [],(some (149,true),.load 154 (S 153) false 1)),(some [],(some (149,true),.bin 155 .leq (S 150) (S 154))),(some [],(none,.pick 156 (S 149) (S 155) (KB false))),(some [],mv 157 156),(some [161],(some (157,true),.load 158 (S 8) true 12)),(some [161],(some (157,true),.mv 159 (S 5))),(some [161],(some (157,true),.slc 160 4 (S 159) none (some (K 1)) none)),(some [],(some (157,true),.bslice 161 1 [.int .i64 0] 1 [(0,(K 0))])),(some [],(some (157,true),.call 162 11 [(S 158),(S 160),(S 161)])),(some [],(some (157,true),.un 163 .not (S 162))),(some [],(none,.pick 164 (S 157) (S 163) (KB false))),(some [],mv 2 164)]) .ret))))))))
def cc383 : ACode := (.seq (.reg [(none,.mv 2 (KB false))]) (.seq (.seq (.reg [mv 15 0,(none,.len 16 (S 15)),(none,.bin 17 .gtr (S 16) (K 1048576))]) (.cond (S 17) (.seq (.reg [(none,.mv 2 (KB true))]) .ret) .skip)) (.seq (.reg [mv 19 0,(none,.call 20 4 [(S 19)]),mv 18 20,(none,.extr 21 (S 18) 0),(none,.extr 22 (S 18) 1),(none,.alloc 3 [aI 0,.nil,.nil,.nil,.nil,.nil,aI 0,aB false,aI 0,aI 0,aI 0,.nil]),(none,.alloc 4 [aI 0,aI 0,aI 0,aI 0,aI 0]),(none,.store (S 3) (S 21) 12),(none,.store (S 4) (S 22) 5)]) (.seq (.reg [(none,.load 23 (S 3) true 12),(none,.load 24 (S 4) true 5),(none,.call 25 5 [(S 23),(S 24)]),(none,.frz 1600),mv 5 25]) (.seq (.seq (.reg [(none,.load 26 (S 3) true 12),(none,.load 27 (S 4) true 5),(none,.call 28 6 [(S 26),(S 27)]),(none,.un 29 .not (S 28))]) (.cond (S 29) (.seq (.reg [(none,.mv 2 (KB false))]) .ret) .skip)) (.seq (.seq (.reg [mv 30 5,(none,.len 31 (S 30)),(none,.bin 32 .eql (S 31) (K 0))]) (.cond (S 32) (.seq (.reg [(none,.load 33 (S 3) true 12),(none,.load 34 (S 4) true 5),(none,.call 35 7 [(S 33),(S 34)]),(none,.bin 36 .eql (S 35) (K (-1))),mv 2 36]) .ret) .skip)) (.seq (.reg [mv 37 5,(none,.iaddr 38 (S 37) (K 0) 4),fa 39 38 3,ld 40 39,mv 6 40]) (.seq (.seq (.reg [mv 41 6,(none,.len 42 (S 41)),(none,.bin 43 .eql (S 42) (K 0))]) (.cond (S 43) (.seq (.reg [(none,.mv 2 (KB false))]) .ret) .skip)) (.seq (.drw [(some [],fa 44 3 0),(some [],(none,.load 45 (S 44) true 3)),(some [],fa 46 3 3),(some [],(none,.load 47 (S 46) true 2)),(some [],mv 48 6),(some [],(none,.iaddr 49 (S 48) (K 0) 5)),(some [],fa 50 49 1),(some [],ld 51 50),(some [],fa 52 3 5),(some [],ld 53 52),(some [],fa 54 4 0),(some [],ld 55 54),(some [],(none,.iaddr 56 (S 53) (S 55) 6)),(some [],(none,.load 57 (S 56) true 6)),(some [],mv 58 6),(some [],(none,.iaddr 59 (S 58) (K 0) 5)),(some [],fa 60 59 3),(some [],ld 61 60),(some [],(none,.call 62 8 [(S 45),(S 47),(S 51),(S 57),(S 61)])),(some [],mv 7 62)]) (.seq (.seq (.reg [mv 63 7,fa 64 3 5,ld 65 64,fa 66 4 0,ld 67 66,(none,.iaddr 68 (S 65) (S 67) 6),fa 69 68 2,ld 70 69,bn 71 .lss 63 70,mv 72 71,(some (72,false),.mv 73 (S 7)),(some (72,false),.bin 74 .geq (S 73) (K 2000)),(none,.pick 75 (S 72) (KB true) (S 74))]) B5a) C1y))))))))))
theorem C82 (r3 : (List XOption)) (x8 : XOption) (r12 : Int) (r2 : XHarbour × XCall) (v14 : Bool) (r : Bool) (h : R4 r3 x8 r12 r2 v14 = some r) (σ : St) (hσ : σ.kept [3,4,5,6,7,75] [3,4] [] = ⟨[(3,vc (.pb 3 0)),(4,vc (.pb 4 0)),(5,vc (aL (List.map XOption.row r3))),(6,vc (aL (List.map XPassage.row x8.Passages))),(7,vc (aI r12)),(75,vc (aB v14))],[(3,[aI r2.1.Forecast.Tide.Mean,aL (List.map XPart.row r2.1.Forecast.Tide.Parts),aL (List.map XSurge.row r2.1.Forecast.Surges),aL (List.map XPoint.row r2.1.Chart.Points),aL (List.map XSegment.row r2.1.Chart.Segments),aL (List.map XShip.row r2.1.Fleet),aI r2.1.Regime.Gap,aB r2.1.Regime.NoMeet,aI r2.1.Crew.Tugs,aI r2.1.Crew.Pilots,aI r2.1.Crew.Rest,aL (List.map rI r2.1.Crew.Moves)]),(4,[aI r2.2.Ship,aI r2.2.From,aI r2.2.To,aI r2.2.Ready,aI r2.2.Due])],[]⟩) : go Try.prog (.code B5a :: [.code C1y]) (Ret [2] [.sc (.v (.bool r))]) .normal (some σ) := by
 unfold R4 at h
 rcases ug v14 with hb15 | hb15
 ·rw [A4 hb15] at h
  try simp only [hσ,hb15,B5a,ua,ub,uc,ud,ue,RR]
  cases h
  exact ⟨⟨rfl,trivial⟩,rfl⟩
 ·rw [A3 hb15] at h
  try simp only [hσ,hb15,B5a,C1y,ua,ub,uc,ud,ue,RR]
  refine D2 rfl rfl ?_
  try simp only [hb15,ua,ub,uc,ud,ue,RR]
  refine E8 (es := List.map XShip.row ([] : List XShip)) rfl rfl ?_
  obtain ⟨hg16,h⟩ := E3 h
  obtain ⟨x17,hx17,h⟩ := ob h
  have hx17n := Z7 hx17
  try simp only [hb15,hg16,hx17,ua,ub,uc,ud,ue,RR]
  refine A7q (row := XShip.row) (y := (⟨x17.Name,x17.Length,r12,x17.Line,x17.Tugs,x17.Slow⟩ : XShip)) rfl rfl hx17n rfl rfl (by rfl) ?_
  try simp only [hb15,hg16,hx17,ua,ub,uc,ud,ue,RR]
  refine B7 rfl ?_
  obtain ⟨x18,hx18,h⟩ := ob h
  try simp only [hb15,hg16,hx17,hx18,ua,ub,uc,ud,ue,RR]
  refine E8 (es := List.map rI ([(0 : Int)] : List Int)) rfl rfl ?_
  obtain ⟨r19,hr19,h⟩ := ob h
  try simp only [hb15,hg16,hx17,hx18,ua,ub,uc,ud,ue,RR]
  refine A47 (Z5 _ _ _ _ hr19) (by first | rfl | kernel_rfl) (A3m rfl) rfl (uf rfl) ?_
  obtain ⟨x20,hx20,h⟩ := ob h
  have hx20n := Z7 hx20
  try simp only [hb15,hg16,hx17,hx18,hx20,ua,ub,uc,ud,ue,RR]
  refine A7q (row := XShip.row) (y := (⟨x20.Name,x20.Length,(IntKind.i64.wrap (r12 + (1 : Int))),x20.Line,x20.Tugs,x20.Slow⟩ : XShip)) rfl rfl hx20n rfl rfl (by rfl) ?_
  try simp only [hb15,hg16,hx17,hx18,hx20,ua,ub,uc,ud,ue,RR]
  refine B7 rfl ?_
  try simp only [hb15,hg16,hx17,hx18,hx20,ua,ub,uc,ud,ue,RR]
  refine E8 (es := List.map rI ([(0 : Int)] : List Int)) rfl rfl ?_
  obtain ⟨r21,hr21,h⟩ := ob h
  try simp only [hb15,hg16,hx17,hx18,hx20,ua,ub,uc,ud,ue,RR]
  refine A47 (Z5 _ _ _ _ hr21) (by first | rfl | kernel_rfl) (A3m rfl) rfl (uf rfl) ?_
  try simp only [hb15,hg16,hx17,hx18,hx20,ua,ub,uc,ud,ue,RR]
  refine B7 rfl ?_
  obtain ⟨p22,hp22,h⟩ := ob h
  try simp only [hb15,hg16,hx17,hx18,hx20,hp22,ua,ub,uc,ud,ue,RR]
  refine E8 (es := List.map rI ([(0 : Int)] : List Int)) rfl rfl ?_
  obtain ⟨r23,hr23,h⟩ := ob h
  try simp only [hb15,hg16,hx17,hx18,hx20,hp22,ua,ub,uc,ud,ue,RR]
  refine A47 (A6q _ _ _ _ hr23) (by first | rfl | kernel_rfl) (A3m rfl) rfl (uf rfl) ?_
  try simp only [hb15,hg16,hx17,hx18,hx20,hp22,ua,ub,uc,ud,ue,RR]
  refine B7 rfl ?_
  rcases ug r19.2 with hb24 | hb24
  ·rw [A4 hb24] at h
   rcases ug r21.2 with hb25 | hb25
   ·rw [A4 hb25] at h
    rcases ug (decide ((0 : Int) ≤ r19.1)) with hb26 | hb26
    ·rw [A4 hb26] at h
     rcases ug (decide (r21.1 < (0 : Int))) with hb27 | hb27
     ·rw [A4 hb27] at h
      rcases ug (r23.1 == (0 : Int)) with hb28 | hb28
      ·rw [A4 hb28] at h
       rcases ug (decide (x18.Start ≤ r23.2)) with hb29 | hb29
       ·rw [A4 hb29] at h
        rcases ug (decide (r23.2 ≤ x18.End)) with hb30 | hb30
        ·rw [A4 hb30] at h
         try simp only [hb15,hg16,hx17,hx18,hx20,hp22,hb24,hb25,hb26,hb27,hb28,hb29,hb30,ua,ub,uc,ud,ue,RR]
         refine E8 (es := List.map rI ([(0 : Int)] : List Int)) rfl rfl ?_
         obtain ⟨r31,hr31,h⟩ := ob h
         try simp only [hb15,hg16,hx17,hx18,hx20,hp22,hb24,hb25,hb26,hb27,hb28,hb29,hb30,ua,ub,uc,ud,ue,RR]
         refine A47 (B16 _ _ _ _ hr31) (by first | rfl | kernel_rfl) (A3m rfl) rfl (uf rfl) ?_
         try simp only [hb15,hg16,hx17,hx18,hx20,hp22,hb24,hb25,hb26,hb27,hb28,hb29,hb30,ua,ub,uc,ud,ue,RR]
         cases h
         exact ⟨⟨rfl,trivial⟩,rfl⟩
        ·rw [A3 hb30] at h
         try simp only [hb15,hg16,hx17,hx18,hx20,hp22,hb24,hb25,hb26,hb27,hb28,hb29,hb30,ua,ub,uc,ud,ue,RR]
         cases h
         exact ⟨⟨rfl,trivial⟩,rfl⟩
       ·rw [A3 hb29] at h
        try simp only [hb15,hg16,hx17,hx18,hx20,hp22,hb24,hb25,hb26,hb27,hb28,hb29,ua,ub,uc,ud,ue,RR]
        cases h
        exact ⟨⟨rfl,trivial⟩,rfl⟩
      ·rw [A3 hb28] at h
       try simp only [hb15,hg16,hx17,hx18,hx20,hp22,hb24,hb25,hb26,hb27,hb28,ua,ub,uc,ud,ue,RR]
       cases h
       exact ⟨⟨rfl,trivial⟩,rfl⟩
     ·rw [A3 hb27] at h
      try simp only [hb15,hg16,hx17,hx18,hx20,hp22,hb24,hb25,hb26,hb27,ua,ub,uc,ud,ue,RR]
      cases h
      exact ⟨⟨rfl,trivial⟩,rfl⟩
    ·rw [A3 hb26] at h
     try simp only [hb15,hg16,hx17,hx18,hx20,hp22,hb24,hb25,hb26,ua,ub,uc,ud,ue,RR]
     cases h
     exact ⟨⟨rfl,trivial⟩,rfl⟩
   ·rw [A3 hb25] at h
    try simp only [hb15,hg16,hx17,hx18,hx20,hp22,hb24,hb25,ua,ub,uc,ud,ue,RR]
    cases h
    exact ⟨⟨rfl,trivial⟩,rfl⟩
  ·rw [A3 hb24] at h
   try simp only [hb15,hg16,hx17,hx18,hx20,hp22,hb24,ua,ub,uc,ud,ue,RR]
   cases h
   exact ⟨⟨rfl,trivial⟩,rfl⟩
theorem E0c : A9 Try.prog 3 = some (cc383.strip,[2],165) := by kernel_rfl
theorem w_laws_FnGrounded (a0 : List Int) (r : Bool) (h : A0j a0 = some r) : FC Try.prog 3 [.sc (.sl (List.map r8 a0))] [.sc (.v (.bool r))] := by
 unfold A0j at h
 refine B9 (σ := ⟨[(0,vc (aL (List.map r8 a0)))],[],[]⟩) B3 E0c rfl rfl ?_
 simp only [cc383]
 rcases ug (decide ((1048576 : Int) < (a0.length : Int))) with hb1 | hb1
 ·rw [A4 hb1] at h
  try simp only [hb1,ua,ub,uc,ud,ue,RR]
  cases h
  exact ⟨⟨rfl,trivial⟩,rfl⟩
 ·rw [A3 hb1] at h
  obtain ⟨r2,hr2,h⟩ := ob h
  try simp only [hb1,ua,ub,uc,ud,ue,RR]
  refine A6 (B1c _ _ hr2) rfl rfl (uf rfl) ?_
  try simp only [hb1,ua,ub,uc,ud,ue,RR]
  refine D2 rfl rfl ?_
  try simp only [hb1,ua,ub,uc,ud,ue,RR]
  refine D2 rfl rfl ?_
  obtain ⟨r3,hr3,h⟩ := ob h
  try simp only [hb1,ua,ub,uc,ud,ue,RR]
  refine A6 (A5g _ _ _ hr3) rfl rfl (uf rfl) ?_
  try simp only [hb1,ua,ub,uc,ud,ue,RR]
  refine U3 rfl ?_
  obtain ⟨r4,hr4,h⟩ := ob h
  try simp only [hb1,ua,ub,uc,ud,ue,RR]
  refine A6 (A7i _ _ _ hr4) rfl rfl (uf rfl) ?_
  rcases ug r4 with hb5 | hb5
  ·rw [A4 hb5] at h
   rcases ug ((r3.length : Int) == (0 : Int)) with hb6 | hb6
   ·rw [A4 hb6] at h
    obtain ⟨r7,hr7,h⟩ := ob h
    try simp only [hb1,hb5,hb6,ua,ub,uc,ud,ue,RR]
    refine A6 (B2c _ _ _ hr7) rfl rfl (uf rfl) ?_
    try simp only [hb1,hb5,hb6,ua,ub,uc,ud,ue,RR]
    cases h
    exact ⟨⟨rfl,trivial⟩,rfl⟩
   ·rw [A3 hb6] at h
    obtain ⟨x8,hx8,h⟩ := ob h
    rcases ug ((x8.Passages.length : Int) == (0 : Int)) with hb9 | hb9
    ·rw [A4 hb9] at h
     try simp only [hb1,hb5,hb6,hx8,hb9,ua,ub,uc,ud,ue,RR]
     cases h
     exact ⟨⟨rfl,trivial⟩,rfl⟩
    ·rw [A3 hb9] at h
     try simp only [hb1,hb5,hb6,hx8,hb9,ua,ub,uc,ud,ue,RR]
     refine B7 rfl ?_
     obtain ⟨x10,hx10,h⟩ := ob h
     obtain ⟨x11,hx11,h⟩ := ob h
     obtain ⟨r12,hr12,h⟩ := ob h
     try simp only [hb1,hb5,hb6,hx8,hb9,hx10,hx11,ua,ub,uc,ud,ue,RR]
     refine D4 (A9j _ _ _ _ _ _ hr12) rfl rfl (uf rfl) ?_
     rcases ug (decide (r12 < x11.Draught)) with hb13 | hb13
     ·rw [A4 hb13] at h
      try simp only [hb1,hb5,hb6,hx8,hb9,hx10,hx11,hb13,ua,ub,uc,ud,ue,RR]
      refine C82 _ _ _ _ _ _ h _ ?_
      try simp only [hb1,hb5,hb6,hx8,hb9,hx10,hx11,hb13,ua,ub,uc,ud,ue,RR,List.map_nil]
     ·rw [A3 hb13] at h
      try simp only [hb1,hb5,hb6,hx8,hb9,hx10,hx11,hb13,ua,ub,uc,ud,ue,RR]
      refine C82 _ _ _ _ _ _ h _ ?_
      try simp only [hb1,hb5,hb6,hx8,hb9,hx10,hx11,hb13,ua,ub,uc,ud,ue,RR,List.map_nil]
  ·rw [A3 hb5] at h
   try simp only [hb1,hb5,ua,ub,uc,ud,ue,RR]
   cases h
   exact ⟨⟨rfl,trivial⟩,rfl⟩
end Go.Vi
