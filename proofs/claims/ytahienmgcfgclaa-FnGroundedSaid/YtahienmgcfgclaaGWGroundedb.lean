/-
  Walks: what the plain definitions compute is what the functions return. By program. No condition.
-/
import Derived.Test.YtahienmgcfgclaaGNf
import Derived.Test.YtahienmgcfgclaaChecked
import Derived.Test.YtahienmgcfgclaaGFc
import Derived.KernelRfl
import Derived.Test.YtahienmgcfgclaaGWGroundeda
namespace Go.Vi
open Go.Proofs
set_option linter.unusedSimpArgs false
set_option linter.unusedVariables false
set_option maxRecDepth 4000
set_option maxHeartbeats 2000000
open Nat renaming reduceBEq → ua, reduceMul → ub, reduceAdd → uc, reduceDiv → ud, le_of_ble_eq_true → uf
open Int renaming reduceBEq → ue
open Bool renaming eq_false_or_eq_true → ug
attribute [local irreducible] go AWP
/- 55: impl_ShipOk -/
def cc142 : ACode := (.seq (.reg [(none,.box 1 (S 0)),(none,.mv 2 (KB false))]) (.seq (.reg [fa 3 1 0,ld 4 3,(none,.call 5 71 [(S 4)]),mv 6 5,(some (6,true),.faddr 7 (S 1) 1),(some (6,true),.load 8 (S 7) false 1),(some (6,true),.call 9 52 [(S 8),(K 10),(K 400)]),(none,.pick 10 (S 6) (S 9) (KB false)),mv 11 10,(some (11,true),.faddr 12 (S 1) 2),(some (11,true),.load 13 (S 12) false 1),(some (11,true),.call 14 52 [(S 13),(K 100),(K 2000)]),(none,.pick 15 (S 11) (S 14) (KB false)),mv 16 15,(some (16,true),.faddr 17 (S 1) 3),(some (16,true),.load 18 (S 17) false 1),(some (16,true),.call 19 51 [(S 18),(K 4)]),(none,.pick 20 (S 16) (S 19) (KB false)),mv 21 20,(some (21,true),.faddr 22 (S 1) 4),(some (21,true),.load 23 (S 22) false 1),(some (21,true),.call 24 52 [(S 23),(K 0),(K 4)]),(none,.pick 25 (S 21) (S 24) (KB false)),mv 2 25]) .ret))
theorem E0t : A9 Try.prog 55 = some (cc142.strip,[2],26) := by kernel_rfl
theorem Y9 (a0 : XShip) (r : Bool) (h : M1 a0 = some r) : FC Try.prog 55 [.ag (XShip.row a0)] [.sc (.v (.bool r))] := by
 unfold M1 at h
 refine B9 (σ := ⟨[(0,va [aS a0.Name,aI a0.Length,aI a0.Draught,aI a0.Line,aI a0.Tugs,aB a0.Slow])],[],[]⟩) B3 E0t rfl rfl ?_
 simp only [cc142]
 try simp only [ua,ub,uc,ud,ue,RR]
 refine B5 rfl rfl rfl ?_
 obtain ⟨r1,hr1,h⟩ := ob h
 try simp only [ua,ub,uc,ud,ue,RR]
 refine A6 (A7h _ _ hr1) rfl rfl (uf rfl) ?_
 rcases ug r1 with hb2 | hb2
 ·rw [A4 hb2] at h
  obtain ⟨r3,hr3,h⟩ := ob h
  try simp only [hb2,ua,ub,uc,ud,ue,RR]
  refine A6 (D3 _ _ _ _ hr3) rfl rfl (uf rfl) ?_
  rcases ug r3 with hb4 | hb4
  ·rw [A4 hb4] at h
   obtain ⟨r5,hr5,h⟩ := ob h
   try simp only [hb2,hb4,ua,ub,uc,ud,ue,RR]
   refine A6 (D3 _ _ _ _ hr5) rfl rfl (uf rfl) ?_
   rcases ug r5 with hb6 | hb6
   ·rw [A4 hb6] at h
    obtain ⟨r7,hr7,h⟩ := ob h
    try simp only [hb2,hb4,hb6,ua,ub,uc,ud,ue,RR]
    refine A6 (F0 _ _ _ hr7) rfl rfl (uf rfl) ?_
    rcases ug r7 with hb8 | hb8
    ·rw [A4 hb8] at h
     obtain ⟨r9,hr9,h⟩ := ob h
     try simp only [hb2,hb4,hb6,hb8,ua,ub,uc,ud,ue,RR]
     refine A6 (D3 _ _ _ _ hr9) rfl rfl (uf rfl) ?_
     try simp only [hb2,hb4,hb6,hb8,ua,ub,uc,ud,ue,RR]
     cases h
     exact ⟨⟨rfl,trivial⟩,rfl⟩
    ·rw [A3 hb8] at h
     try simp only [hb2,hb4,hb6,hb8,ua,ub,uc,ud,ue,RR]
     cases h
     exact ⟨⟨rfl,trivial⟩,rfl⟩
   ·rw [A3 hb6] at h
    try simp only [hb2,hb4,hb6,ua,ub,uc,ud,ue,RR]
    cases h
    exact ⟨⟨rfl,trivial⟩,rfl⟩
  ·rw [A3 hb4] at h
   try simp only [hb2,hb4,ua,ub,uc,ud,ue,RR]
   cases h
   exact ⟨⟨rfl,trivial⟩,rfl⟩
 ·rw [A3 hb2] at h
  try simp only [hb2,ua,ub,uc,ud,ue,RR]
  cases h
  exact ⟨⟨rfl,trivial⟩,rfl⟩
/- 74: impl_ShipNamed -/
def B42 : ACode := .seq (.reg [(none,.keep [1,7,8,9] [] [])]) (.seq (.reg [bn 10 .lss 9 8]) (.seq (.cond (S 10) .skip (.exit 0)) (.seq (.block 1 (.seq (.reg [mv 11 9,(none,.iaddr 12 (S 7) (S 9) 6),(none,.load 13 (S 12) true 6),(none,.alloc 6 [aS [],aI 0,aI 0,aI 0,aI 0,aB false]),mv 5 11,(none,.store (S 6) (S 13) 6)]) (.seq (.reg [fa 14 6 0,ld 15 14,mv 16 1,bn 17 .eql 15 16]) (.cond (S 17) (.seq (.reg [mv 18 5,mv 4 18]) .ret) .skip)))) (.reg [(none,.bin 19 .add (S 9) (K 1)),mv 9 19]))))
def C1n : ACode := (.seq (.reg [(none,.mv 4 (K (-1)))]) .ret)
def cc146 : ACode := (.seq (.reg [(none,.mv 4 (K 0))]) (.seq (.seq (.reg [mv 7 0,(none,.len 8 (S 7)),(none,.mv 9 (K 0))]) (.block 0 (.loop B42))) C1n))
theorem D9a (a1 : List UInt8) (a0 : List XShip) : ∀ (n : Nat) (v1 : Int) (r : Int),M0 a1 a0 n v1 = some r → ∀ σ : St,σ.kept [1,7,8,9] [] [] = ⟨[(1,vc (aS a1)),(7,vc (aL (List.map XShip.row a0))),(8,vc (aI (a0.length : Int))),(9,vc (aI v1))],[],[]⟩ → go Try.prog (.code (.loop B42) :: [.blk 0,.code C1n]) (Ret [4] [.sc (.v (.int .i64 r))]) .normal (some σ) := by
 intro n
 induction n with
 | zero => intro _ r h; cases h
 | succ n ih =>
  intro v1 r h σ hσ
  rw [M0] at h
  refine B8 ?_
  rcases ug (decide (v1 < (a0.length : Int))) with hb2 | hb2
  ·rw [A4 hb2] at h
   obtain ⟨x3,hx3,h⟩ := ob h
   try simp only [hσ,hb2,hx3,B42,ua,ub,uc,ud,ue,RR]
   refine D2 rfl rfl ?_
   rcases ug (x3.Name == a1) with hb4 | hb4
   ·rw [A4 hb4] at h
    try simp only [hb2,hx3,hb4,ua,ub,uc,ud,ue,RR]
    cases h
    exact ⟨⟨rfl,trivial⟩,rfl⟩
   ·rw [A3 hb4] at h
    try simp only [hb2,hx3,hb4,ua,ub,uc,ud,ue,RR]
    refine ih _ _ h _ ?_
    try simp only [hb2,hx3,hb4,ua,ub,uc,ud,ue,RR,List.map_nil]
  ·rw [A3 hb2] at h
   try simp only [hσ,hb2,B42,C1n,ua,ub,uc,ud,ue,RR]
   cases h
   exact ⟨⟨rfl,trivial⟩,rfl⟩
theorem E0k : A9 Try.prog 74 = some (cc146.strip,[4],20) := by kernel_rfl
theorem A93 (a0 : List XShip) (a1 : List UInt8) (r : Int) (h : Y2 a0 a1 = some r) : FC Try.prog 74 [.sc (.sl (List.map XShip.row a0)),.sc (.str a1)] [.sc (.v (.int .i64 r))] := by
 unfold Y2 at h
 refine B9 (σ := ⟨[(0,vc (aL (List.map XShip.row a0))),(1,vc (aS a1))],[],[]⟩) B3 E0k rfl rfl ?_
 simp only [cc146]
 try simp only [ua,ub,uc,ud,ue,RR]
 refine D9a _ _ _ _ _ h _ ?_
 try simp only [ua,ub,uc,ud,ue,RR,List.map_nil]
/- 48: impl_FleetOk -/
def B47 : ACode := .seq (.reg [(none,.keep [0,8,9,10] [] [])]) (.seq (.reg [bn 11 .lss 10 9]) (.seq (.cond (S 11) .skip (.exit 0)) (.seq (.block 1 (.seq (.reg [mv 12 10,(none,.iaddr 13 (S 8) (S 10) 6),(none,.load 14 (S 13) true 6),(none,.alloc 4 [aS [],aI 0,aI 0,aI 0,aI 0,aB false]),mv 3 12,(none,.store (S 4) (S 14) 6)]) (.seq (.reg [(none,.load 15 (S 4) true 6),(none,.call 16 55 [(S 15)]),(none,.un 17 .not (S 16)),mv 18 17,(some (18,false),.mv 19 (S 0)),(some (18,false),.faddr 20 (S 4) 0),(some (18,false),.load 21 (S 20) false 1),(some (18,false),.call 22 74 [(S 19),(S 21)]),(some (18,false),.mv 23 (S 3)),(some (18,false),.bin 24 .neq (S 22) (S 23)),(none,.pick 25 (S 18) (KB true) (S 24))]) (.cond (S 25) (.seq (.reg [(none,.mv 2 (KB false))]) .ret) .skip)))) (.reg [(none,.bin 26 .add (S 10) (K 1)),mv 10 26]))))
def C1h : ACode := (.seq (.reg [(none,.mv 2 (KB true))]) .ret)
def cc151 : ACode := (.seq (.reg [(none,.mv 2 (KB false))]) (.seq (.seq (.reg [mv 5 0,(none,.len 6 (S 5)),(none,.bin 7 .gtr (S 6) (K 6))]) (.cond (S 7) (.seq (.reg [(none,.mv 2 (KB false))]) .ret) .skip)) (.seq (.seq (.reg [mv 8 0,(none,.len 9 (S 8)),(none,.mv 10 (K 0))]) (.block 0 (.loop B47))) C1h)))
theorem D9l (a0 : List XShip) : ∀ (n : Nat) (v2 : Int) (r : Bool),O0 a0 n v2 = some r → ∀ σ : St,σ.kept [0,8,9,10] [] [] = ⟨[(0,vc (aL (List.map XShip.row a0))),(8,vc (aL (List.map XShip.row a0))),(9,vc (aI (a0.length : Int))),(10,vc (aI v2))],[],[]⟩ → go Try.prog (.code (.loop B47) :: [.blk 0,.code C1h]) (Ret [2] [.sc (.v (.bool r))]) .normal (some σ) := by
 intro n
 induction n with
 | zero => intro _ r h; cases h
 | succ n ih =>
  intro v2 r h σ hσ
  rw [O0] at h
  refine B8 ?_
  rcases ug (decide (v2 < (a0.length : Int))) with hb3 | hb3
  ·rw [A4 hb3] at h
   obtain ⟨x4,hx4,h⟩ := ob h
   try simp only [hσ,hb3,hx4,B47,ua,ub,uc,ud,ue,RR]
   refine D2 rfl rfl ?_
   obtain ⟨r5,hr5,h⟩ := ob h
   try simp only [hb3,hx4,ua,ub,uc,ud,ue,RR]
   refine A6 (Y9 _ _ hr5) rfl rfl (uf rfl) ?_
   rcases ug r5 with hb6 | hb6
   ·rw [A4 hb6] at h
    obtain ⟨r7,hr7,h⟩ := ob h
    try simp only [hb3,hx4,hb6,ua,ub,uc,ud,ue,RR]
    refine A6 (A93 _ _ _ hr7) rfl rfl (uf rfl) ?_
    rcases ug (r7 != v2) with hb8 | hb8
    ·rw [A4 hb8] at h
     try simp only [hb3,hx4,hb6,hb8,ua,ub,uc,ud,ue,RR]
     cases h
     exact ⟨⟨rfl,trivial⟩,rfl⟩
    ·rw [A3 hb8] at h
     try simp only [hb3,hx4,hb6,hb8,ua,ub,uc,ud,ue,RR]
     refine ih _ _ h _ ?_
     try simp only [hb3,hx4,hb6,hb8,ua,ub,uc,ud,ue,RR,List.map_nil]
   ·rw [A3 hb6] at h
    try simp only [hb3,hx4,hb6,ua,ub,uc,ud,ue,RR]
    cases h
    exact ⟨⟨rfl,trivial⟩,rfl⟩
  ·rw [A3 hb3] at h
   try simp only [hσ,hb3,B47,C1h,ua,ub,uc,ud,ue,RR]
   cases h
   exact ⟨⟨rfl,trivial⟩,rfl⟩
theorem D7w : A9 Try.prog 48 = some (cc151.strip,[2],27) := by kernel_rfl
theorem B17 (a0 : List XShip) (r : Bool) (h : A0q a0 = some r) : FC Try.prog 48 [.sc (.sl (List.map XShip.row a0))] [.sc (.v (.bool r))] := by
 unfold A0q at h
 refine B9 (σ := ⟨[(0,vc (aL (List.map XShip.row a0)))],[],[]⟩) B3 D7w rfl rfl ?_
 simp only [cc151]
 rcases ug (decide ((6 : Int) < (a0.length : Int))) with hb1 | hb1
 ·rw [A4 hb1] at h
  try simp only [hb1,ua,ub,uc,ud,ue,RR]
  cases h
  exact ⟨⟨rfl,trivial⟩,rfl⟩
 ·rw [A3 hb1] at h
  try simp only [hb1,ua,ub,uc,ud,ue,RR]
  refine D9l _ _ _ _ h _ ?_
  try simp only [hb1,ua,ub,uc,ud,ue,RR,List.map_nil]
/- 49: impl_RegimeOk -/
def cc154 : ACode := (.seq (.reg [(none,.box 1 (S 0)),(none,.mv 2 (KB false))]) (.seq (.reg [fa 3 1 0,ld 4 3,(none,.call 5 52 [(S 4),(K 0),(K 60)]),mv 2 5]) .ret))
theorem D8c : A9 Try.prog 49 = some (cc154.strip,[2],6) := by kernel_rfl
theorem B1e (a0 : XRegime) (r : Bool) (h : A1o a0 = some r) : FC Try.prog 49 [.ag (XRegime.row a0)] [.sc (.v (.bool r))] := by
 unfold A1o at h
 refine B9 (σ := ⟨[(0,va [aI a0.Gap,aB a0.NoMeet])],[],[]⟩) B3 D8c rfl rfl ?_
 simp only [cc154]
 try simp only [ua,ub,uc,ud,ue,RR]
 refine B5 rfl rfl rfl ?_
 obtain ⟨r1,hr1,h⟩ := ob h
 try simp only [ua,ub,uc,ud,ue,RR]
 refine A6 (D3 _ _ _ _ hr1) rfl rfl (uf rfl) ?_
 try simp only [ua,ub,uc,ud,ue,RR]
 cases h
 exact ⟨⟨rfl,trivial⟩,rfl⟩
/- 75: impl_movesOk -/
def B4u : ACode := .seq (.reg [(none,.keep [8,9,10] [] [])]) (.seq (.reg [bn 11 .lss 10 9]) (.seq (.cond (S 11) .skip (.exit 0)) (.seq (.block 1 (.seq (.reg [(none,.iaddr 12 (S 8) (S 10) 1),ld 13 12,mv 4 13]) (.seq (.reg [mv 14 4,(none,.call 15 52 [(S 14),(K 0),(K 240)]),(none,.un 16 .not (S 15))]) (.cond (S 16) (.seq (.reg [(none,.mv 2 (KB false))]) .ret) .skip)))) (.reg [(none,.bin 17 .add (S 10) (K 1)),mv 10 17]))))
def C2q : ACode := (.seq (.reg [(none,.mv 2 (KB true))]) .ret)
def cc158 : ACode := (.seq (.reg [(none,.mv 2 (KB false))]) (.seq (.seq (.reg [mv 5 0,(none,.len 6 (S 5)),(none,.bin 7 .neq (S 6) (K 64))]) (.cond (S 7) (.seq (.reg [(none,.mv 2 (KB false))]) .ret) .skip)) (.seq (.seq (.reg [mv 8 0,(none,.len 9 (S 8)),(none,.mv 10 (K 0))]) (.block 0 (.loop B4u))) C2q)))
theorem D9c (a0 : List Int) : ∀ (n : Nat) (v2 : Int) (r : Bool),L7 a0 n v2 = some r → ∀ σ : St,σ.kept [8,9,10] [] [] = ⟨[(8,vc (aL (List.map rI a0))),(9,vc (aI (a0.length : Int))),(10,vc (aI v2))],[],[]⟩ → go Try.prog (.code (.loop B4u) :: [.blk 0,.code C2q]) (Ret [2] [.sc (.v (.bool r))]) .normal (some σ) := by
 intro n
 induction n with
 | zero => intro _ r h; cases h
 | succ n ih =>
  intro v2 r h σ hσ
  rw [L7] at h
  refine B8 ?_
  rcases ug (decide (v2 < (a0.length : Int))) with hb3 | hb3
  ·rw [A4 hb3] at h
   obtain ⟨x4,hx4,h⟩ := ob h
   obtain ⟨r5,hr5,h⟩ := ob h
   try simp only [hσ,hb3,hx4,B4u,ua,ub,uc,ud,ue,RR]
   refine A6 (D3 _ _ _ _ hr5) rfl rfl (uf rfl) ?_
   rcases ug r5 with hb6 | hb6
   ·rw [A4 hb6] at h
    try simp only [hb3,hx4,hb6,ua,ub,uc,ud,ue,RR]
    refine ih _ _ h _ ?_
    try simp only [hb3,hx4,hb6,ua,ub,uc,ud,ue,RR,List.map_nil]
   ·rw [A3 hb6] at h
    try simp only [hb3,hx4,hb6,ua,ub,uc,ud,ue,RR]
    cases h
    exact ⟨⟨rfl,trivial⟩,rfl⟩
  ·rw [A3 hb3] at h
   try simp only [hσ,hb3,B4u,C2q,ua,ub,uc,ud,ue,RR]
   cases h
   exact ⟨⟨rfl,trivial⟩,rfl⟩
theorem D9g : A9 Try.prog 75 = some (cc158.strip,[2],18) := by kernel_rfl
theorem B2j (a0 : List Int) (r : Bool) (h : A15 a0 = some r) : FC Try.prog 75 [.sc (.sl (List.map rI a0))] [.sc (.v (.bool r))] := by
 unfold A15 at h
 refine B9 (σ := ⟨[(0,vc (aL (List.map rI a0)))],[],[]⟩) B3 D9g rfl rfl ?_
 simp only [cc158]
 rcases ug ((a0.length : Int) != (64 : Int)) with hb1 | hb1
 ·rw [A4 hb1] at h
  try simp only [hb1,ua,ub,uc,ud,ue,RR]
  cases h
  exact ⟨⟨rfl,trivial⟩,rfl⟩
 ·rw [A3 hb1] at h
  try simp only [hb1,ua,ub,uc,ud,ue,RR]
  refine D9c _ _ _ _ h _ ?_
  try simp only [hb1,ua,ub,uc,ud,ue,RR,List.map_nil]
/- 50: impl_CrewOk -/
def cc161 : ACode := (.seq (.reg [(none,.box 1 (S 0)),(none,.mv 2 (KB false))]) (.seq (.reg [fa 3 1 0,ld 4 3,(none,.call 5 52 [(S 4),(K 0),(K 12)]),mv 6 5,(some (6,true),.faddr 7 (S 1) 1),(some (6,true),.load 8 (S 7) false 1),(some (6,true),.call 9 52 [(S 8),(K 0),(K 12)]),(none,.pick 10 (S 6) (S 9) (KB false)),mv 11 10,(some (11,true),.faddr 12 (S 1) 2),(some (11,true),.load 13 (S 12) false 1),(some (11,true),.call 14 24 [(S 13)]),(none,.pick 15 (S 11) (S 14) (KB false)),mv 16 15,(some (16,true),.faddr 17 (S 1) 3),(some (16,true),.load 18 (S 17) false 1),(some (16,true),.call 19 75 [(S 18)]),(none,.pick 20 (S 16) (S 19) (KB false)),mv 2 20]) .ret))
theorem D64 : A9 Try.prog 50 = some (cc161.strip,[2],21) := by kernel_rfl
theorem B4e (a0 : XCrew) (r : Bool) (h : A08 a0 = some r) : FC Try.prog 50 [.ag (XCrew.row a0)] [.sc (.v (.bool r))] := by
 unfold A08 at h
 refine B9 (σ := ⟨[(0,va [aI a0.Tugs,aI a0.Pilots,aI a0.Rest,aL (List.map rI a0.Moves)])],[],[]⟩) B3 D64 rfl rfl ?_
 simp only [cc161]
 try simp only [ua,ub,uc,ud,ue,RR]
 refine B5 rfl rfl rfl ?_
 obtain ⟨r1,hr1,h⟩ := ob h
 try simp only [ua,ub,uc,ud,ue,RR]
 refine A6 (D3 _ _ _ _ hr1) rfl rfl (uf rfl) ?_
 rcases ug r1 with hb2 | hb2
 ·rw [A4 hb2] at h
  obtain ⟨r3,hr3,h⟩ := ob h
  try simp only [hb2,ua,ub,uc,ud,ue,RR]
  refine A6 (D3 _ _ _ _ hr3) rfl rfl (uf rfl) ?_
  rcases ug r3 with hb4 | hb4
  ·rw [A4 hb4] at h
   obtain ⟨r5,hr5,h⟩ := ob h
   try simp only [hb2,hb4,ua,ub,uc,ud,ue,RR]
   refine A6 (N4 _ _ hr5) rfl rfl (uf rfl) ?_
   rcases ug r5 with hb6 | hb6
   ·rw [A4 hb6] at h
    obtain ⟨r7,hr7,h⟩ := ob h
    try simp only [hb2,hb4,hb6,ua,ub,uc,ud,ue,RR]
    refine A6 (B2j _ _ hr7) rfl rfl (uf rfl) ?_
    try simp only [hb2,hb4,hb6,ua,ub,uc,ud,ue,RR]
    cases h
    exact ⟨⟨rfl,trivial⟩,rfl⟩
   ·rw [A3 hb6] at h
    try simp only [hb2,hb4,hb6,ua,ub,uc,ud,ue,RR]
    cases h
    exact ⟨⟨rfl,trivial⟩,rfl⟩
  ·rw [A3 hb4] at h
   try simp only [hb2,hb4,ua,ub,uc,ud,ue,RR]
   cases h
   exact ⟨⟨rfl,trivial⟩,rfl⟩
 ·rw [A3 hb2] at h
  try simp only [hb2,ua,ub,uc,ud,ue,RR]
  cases h
  exact ⟨⟨rfl,trivial⟩,rfl⟩
/- 19: impl_HarbourOk -/
def cc163 : ACode := (.seq (.reg [(none,.box 1 (S 0)),(none,.mv 2 (KB false))]) (.seq (.reg [fa 3 1 0,(none,.load 4 (S 3) true 3),(none,.call 5 22 [(S 4)]),mv 6 5,(some (6,true),.faddr 7 (S 1) 3),(some (6,true),.load 8 (S 7) true 2),(some (6,true),.call 9 47 [(S 8)]),(none,.pick 10 (S 6) (S 9) (KB false)),mv 11 10,(some (11,true),.faddr 12 (S 1) 5),(some (11,true),.load 13 (S 12) false 1),(some (11,true),.call 14 48 [(S 13)]),(none,.pick 15 (S 11) (S 14) (KB false)),mv 16 15,(some (16,true),.faddr 17 (S 1) 6),(some (16,true),.load 18 (S 17) true 2),(some (16,true),.call 19 49 [(S 18)]),(none,.pick 20 (S 16) (S 19) (KB false)),mv 21 20,(some (21,true),.faddr 22 (S 1) 8),(some (21,true),.load 23 (S 22) true 4),(some (21,true),.call 24 50 [(S 23)]),(none,.pick 25 (S 21) (S 24) (KB false)),mv 2 25]) .ret))
theorem D91 : A9 Try.prog 19 = some (cc163.strip,[2],26) := by kernel_rfl
theorem A5a (a0 : XHarbour) (r : Bool) (h : S9 a0 = some r) : FC Try.prog 19 [.ag (XHarbour.row a0)] [.sc (.v (.bool r))] := by
 unfold S9 at h
 refine B9 (σ := ⟨[(0,va [aI a0.Forecast.Tide.Mean,aL (List.map XPart.row a0.Forecast.Tide.Parts),aL (List.map XSurge.row a0.Forecast.Surges),aL (List.map XPoint.row a0.Chart.Points),aL (List.map XSegment.row a0.Chart.Segments),aL (List.map XShip.row a0.Fleet),aI a0.Regime.Gap,aB a0.Regime.NoMeet,aI a0.Crew.Tugs,aI a0.Crew.Pilots,aI a0.Crew.Rest,aL (List.map rI a0.Crew.Moves)])],[],[]⟩) B3 D91 rfl rfl ?_
 simp only [cc163]
 try simp only [ua,ub,uc,ud,ue,RR]
 refine B5 rfl rfl rfl ?_
 obtain ⟨r1,hr1,h⟩ := ob h
 try simp only [ua,ub,uc,ud,ue,RR]
 refine A6 (V4 _ _ hr1) rfl rfl (uf rfl) ?_
 rcases ug r1 with hb2 | hb2
 ·rw [A4 hb2] at h
  obtain ⟨r3,hr3,h⟩ := ob h
  try simp only [hb2,ua,ub,uc,ud,ue,RR]
  refine A6 (S0 _ _ hr3) rfl rfl (uf rfl) ?_
  rcases ug r3 with hb4 | hb4
  ·rw [A4 hb4] at h
   obtain ⟨r5,hr5,h⟩ := ob h
   try simp only [hb2,hb4,ua,ub,uc,ud,ue,RR]
   refine A6 (B17 _ _ hr5) rfl rfl (uf rfl) ?_
   rcases ug r5 with hb6 | hb6
   ·rw [A4 hb6] at h
    obtain ⟨r7,hr7,h⟩ := ob h
    try simp only [hb2,hb4,hb6,ua,ub,uc,ud,ue,RR]
    refine A6 (B1e _ _ hr7) rfl rfl (uf rfl) ?_
    rcases ug r7 with hb8 | hb8
    ·rw [A4 hb8] at h
     obtain ⟨r9,hr9,h⟩ := ob h
     try simp only [hb2,hb4,hb6,hb8,ua,ub,uc,ud,ue,RR]
     refine A6 (B4e _ _ hr9) rfl rfl (uf rfl) ?_
     try simp only [hb2,hb4,hb6,hb8,ua,ub,uc,ud,ue,RR]
     cases h
     exact ⟨⟨rfl,trivial⟩,rfl⟩
    ·rw [A3 hb8] at h
     try simp only [hb2,hb4,hb6,hb8,ua,ub,uc,ud,ue,RR]
     cases h
     exact ⟨⟨rfl,trivial⟩,rfl⟩
   ·rw [A3 hb6] at h
    try simp only [hb2,hb4,hb6,ua,ub,uc,ud,ue,RR]
    cases h
    exact ⟨⟨rfl,trivial⟩,rfl⟩
  ·rw [A3 hb4] at h
   try simp only [hb2,hb4,ua,ub,uc,ud,ue,RR]
   cases h
   exact ⟨⟨rfl,trivial⟩,rfl⟩
 ·rw [A3 hb2] at h
  try simp only [hb2,ua,ub,uc,ud,ue,RR]
  cases h
  exact ⟨⟨rfl,trivial⟩,rfl⟩
/- 20: impl_callOk -/
def cc165 : ACode := (.seq (.reg [(none,.box 2 (S 0)),(none,.box 3 (S 1)),(none,.mv 4 (KB false))]) (.seq (.reg [fa 6 2 3,fa 7 6 0,ld 8 7,(none,.len 9 (S 8)),mv 5 9]) (.seq (.reg [fa 10 3 0,ld 11 10,fa 12 2 5,ld 13 12,(none,.len 14 (S 13)),(none,.call 15 51 [(S 11),(S 14)]),mv 16 15,(some (16,true),.faddr 17 (S 3) 1),(some (16,true),.load 18 (S 17) false 1),(some (16,true),.mv 19 (S 5)),(some (16,true),.call 20 51 [(S 18),(S 19)]),(none,.pick 21 (S 16) (S 20) (KB false)),mv 22 21,(some (22,true),.faddr 23 (S 3) 2),(some (22,true),.load 24 (S 23) false 1),(some (22,true),.mv 25 (S 5)),(some (22,true),.call 26 51 [(S 24),(S 25)]),(none,.pick 27 (S 22) (S 26) (KB false)),mv 28 27,(some (28,true),.faddr 29 (S 3) 1),(some (28,true),.load 30 (S 29) false 1),(some (28,true),.faddr 31 (S 3) 2),(some (28,true),.load 32 (S 31) false 1),(some (28,true),.bin 33 .neq (S 30) (S 32)),(none,.pick 34 (S 28) (S 33) (KB false)),mv 35 34,(some (35,true),.faddr 36 (S 3) 3),(some (35,true),.load 37 (S 36) false 1),(some (35,true),.call 38 24 [(S 37)]),(none,.pick 39 (S 35) (S 38) (KB false)),mv 40 39,(some (40,true),.faddr 41 (S 3) 4),(some (40,true),.load 42 (S 41) false 1),(some (40,true),.faddr 43 (S 3) 3),(some (40,true),.load 44 (S 43) false 1),(some (40,true),.call 45 52 [(S 42),(S 44),(K 2880)]),(none,.pick 46 (S 40) (S 45) (KB false)),mv 4 46]) .ret)))
theorem E0v : A9 Try.prog 20 = some (cc165.strip,[4],47) := by kernel_rfl
theorem B4n (a0 : XHarbour) (a1 : XCall) (r : Bool) (h : A1f a0 a1 = some r) : FC Try.prog 20 [.ag (XHarbour.row a0),.ag (XCall.row a1)] [.sc (.v (.bool r))] := by
 unfold A1f at h
 refine B9 (σ := ⟨[(0,va [aI a0.Forecast.Tide.Mean,aL (List.map XPart.row a0.Forecast.Tide.Parts),aL (List.map XSurge.row a0.Forecast.Surges),aL (List.map XPoint.row a0.Chart.Points),aL (List.map XSegment.row a0.Chart.Segments),aL (List.map XShip.row a0.Fleet),aI a0.Regime.Gap,aB a0.Regime.NoMeet,aI a0.Crew.Tugs,aI a0.Crew.Pilots,aI a0.Crew.Rest,aL (List.map rI a0.Crew.Moves)]),(1,va [aI a1.Ship,aI a1.From,aI a1.To,aI a1.Ready,aI a1.Due])],[],[]⟩) B3 E0v rfl rfl ?_
 simp only [cc165]
 try simp only [ua,ub,uc,ud,ue,RR]
 refine B5 rfl rfl rfl ?_
 try simp only [ua,ub,uc,ud,ue,RR]
 refine B5 rfl rfl rfl ?_
 obtain ⟨r1,hr1,h⟩ := ob h
 try simp only [ua,ub,uc,ud,ue,RR]
 refine A6 (F0 _ _ _ hr1) rfl rfl (uf rfl) ?_
 rcases ug r1 with hb2 | hb2
 ·rw [A4 hb2] at h
  obtain ⟨r3,hr3,h⟩ := ob h
  try simp only [hb2,ua,ub,uc,ud,ue,RR]
  refine A6 (F0 _ _ _ hr3) rfl rfl (uf rfl) ?_
  rcases ug r3 with hb4 | hb4
  ·rw [A4 hb4] at h
   obtain ⟨r5,hr5,h⟩ := ob h
   try simp only [hb2,hb4,ua,ub,uc,ud,ue,RR]
   refine A6 (F0 _ _ _ hr5) rfl rfl (uf rfl) ?_
   rcases ug r5 with hb6 | hb6
   ·rw [A4 hb6] at h
    rcases ug (a1.From != a1.To) with hb7 | hb7
    ·rw [A4 hb7] at h
     obtain ⟨r9,hr9,h⟩ := ob h
     try simp only [hb2,hb4,hb6,hb7,ua,ub,uc,ud,ue,RR]
     refine A6 (N4 _ _ hr9) rfl rfl (uf rfl) ?_
     rcases ug r9 with hb10 | hb10
     ·rw [A4 hb10] at h
      obtain ⟨r11,hr11,h⟩ := ob h
      try simp only [hb2,hb4,hb6,hb7,hb10,ua,ub,uc,ud,ue,RR]
      refine A6 (D3 _ _ _ _ hr11) rfl rfl (uf rfl) ?_
      try simp only [hb2,hb4,hb6,hb7,hb10,ua,ub,uc,ud,ue,RR]
      cases h
      exact ⟨⟨rfl,trivial⟩,rfl⟩
     ·rw [A3 hb10] at h
      try simp only [hb2,hb4,hb6,hb7,hb10,ua,ub,uc,ud,ue,RR]
      cases h
      exact ⟨⟨rfl,trivial⟩,rfl⟩
    ·rw [A3 hb7] at h
     try simp only [hb2,hb4,hb6,hb7,ua,ub,uc,ud,ue,RR]
     cases h
     exact ⟨⟨rfl,trivial⟩,rfl⟩
   ·rw [A3 hb6] at h
    try simp only [hb2,hb4,hb6,ua,ub,uc,ud,ue,RR]
    cases h
    exact ⟨⟨rfl,trivial⟩,rfl⟩
  ·rw [A3 hb4] at h
   try simp only [hb2,hb4,ua,ub,uc,ud,ue,RR]
   cases h
   exact ⟨⟨rfl,trivial⟩,rfl⟩
 ·rw [A3 hb2] at h
  try simp only [hb2,ua,ub,uc,ud,ue,RR]
  cases h
  exact ⟨⟨rfl,trivial⟩,rfl⟩
/- 6: impl_CallOk -/
def cc167 : ACode := (.seq (.reg [(none,.box 2 (S 0)),(none,.box 3 (S 1)),(none,.mv 4 (KB false))]) (.seq (.reg [(none,.load 5 (S 2) true 12),(none,.call 6 19 [(S 5)]),mv 7 6,(some (7,true),.load 8 (S 2) true 12),(some (7,true),.load 9 (S 3) true 5),(some (7,true),.call 10 20 [(S 8),(S 9)]),(none,.pick 11 (S 7) (S 10) (KB false)),mv 4 11]) .ret))
theorem D60 : A9 Try.prog 6 = some (cc167.strip,[4],12) := by kernel_rfl
theorem A7i (a0 : XHarbour) (a1 : XCall) (r : Bool) (h : U9 a0 a1 = some r) : FC Try.prog 6 [.ag (XHarbour.row a0),.ag (XCall.row a1)] [.sc (.v (.bool r))] := by
 unfold U9 at h
 refine B9 (σ := ⟨[(0,va [aI a0.Forecast.Tide.Mean,aL (List.map XPart.row a0.Forecast.Tide.Parts),aL (List.map XSurge.row a0.Forecast.Surges),aL (List.map XPoint.row a0.Chart.Points),aL (List.map XSegment.row a0.Chart.Segments),aL (List.map XShip.row a0.Fleet),aI a0.Regime.Gap,aB a0.Regime.NoMeet,aI a0.Crew.Tugs,aI a0.Crew.Pilots,aI a0.Crew.Rest,aL (List.map rI a0.Crew.Moves)]),(1,va [aI a1.Ship,aI a1.From,aI a1.To,aI a1.Ready,aI a1.Due])],[],[]⟩) B3 D60 rfl rfl ?_
 simp only [cc167]
 try simp only [ua,ub,uc,ud,ue,RR]
 refine B5 rfl rfl rfl ?_
 try simp only [ua,ub,uc,ud,ue,RR]
 refine B5 rfl rfl rfl ?_
 obtain ⟨r1,hr1,h⟩ := ob h
 try simp only [ua,ub,uc,ud,ue,RR]
 refine A6 (A5a _ _ hr1) rfl rfl (uf rfl) ?_
 rcases ug r1 with hb2 | hb2
 ·rw [A4 hb2] at h
  obtain ⟨r3,hr3,h⟩ := ob h
  try simp only [hb2,ua,ub,uc,ud,ue,RR]
  refine A6 (B4n _ _ _ hr3) rfl rfl (uf rfl) ?_
  try simp only [hb2,ua,ub,uc,ud,ue,RR]
  cases h
  exact ⟨⟨rfl,trivial⟩,rfl⟩
 ·rw [A3 hb2] at h
  try simp only [hb2,ua,ub,uc,ud,ue,RR]
  cases h
  exact ⟨⟨rfl,trivial⟩,rfl⟩
/- 82: impl_clone_int -/
def cc169 : ACode := (.seq (.reg [(none,.mv 2 KN)]) (.seq (.reg [mv 3 0,(none,.len 4 (S 3)),(none,.mksl 5 1 8 [.int .i64 0] (K 0) (S 4)),mv 6 0,(none,.app 7 1 8 (S 5) (S 6)),mv 2 7]) .ret))
theorem E0u : A9 Try.prog 82 = some (cc169.strip,[2],8) := by kernel_rfl
theorem A2q (a0 : List Int) (r : (List Int)) (h : C8 a0 = some r) : FC Try.prog 82 [.sc (.sl (List.map rI a0))] [.sc (.o 1 (List.map rI r))] := by
 unfold C8 at h
 refine B9 (σ := ⟨[(0,vc (aL (List.map rI a0)))],[],[]⟩) B3 E0u rfl rfl ?_
 simp only [cc169]
 obtain ⟨n1,hn1,h⟩ := ob h
 try simp only [ua,ub,uc,ud,ue,RR]
 refine C29 (es := List.map rI (List.replicate n1 (0 : Int))) rfl rfl hn1 rfl (B8u rfl) rfl ?_
 obtain ⟨hg2,h⟩ := E3 h
 try simp only [hg2,ua,ub,uc,ud,ue,RR]
 cases h
 exact ⟨⟨rfl,trivial⟩,rfl⟩
/- 83: impl_Segment_end -/
def cc171 : ACode := (.seq (.reg [(none,.box 2 (S 0)),(none,.mv 4 (K 0))]) (.seq (.seq (.reg [mv 5 1]) (.block 0 (.seq (.reg [fa 7 2 0,ld 8 7,bn 9 .eql 5 8,mv 6 9]) (.cond (S 6) (.seq (.reg [fa 10 2 1,ld 11 10,mv 4 11]) .ret) (.seq (.reg [fa 13 2 1,ld 14 13,bn 15 .eql 5 14,mv 12 15]) (.cond (S 12) (.seq (.reg [fa 16 2 0,ld 17 16,mv 4 17]) .ret) .skip)))))) (.seq (.reg [(none,.mv 4 (K (-1)))]) .ret)))
theorem D68 : A9 Try.prog 83 = some (cc171.strip,[4],18) := by kernel_rfl
theorem A33 (a0 : XSegment) (a1 : Int) (r : Int) (h : O4 a0 a1 = some r) : FC Try.prog 83 [.ag (XSegment.row a0),.sc (.int .i64 a1)] [.sc (.v (.int .i64 r))] := by
 unfold O4 at h
 refine B9 (σ := ⟨[(0,va [aI a0.A,aI a0.B,aI a0.Depth,aI a0.Minutes,aB a0.Meet]),(1,vc (aI a1))],[],[]⟩) B3 D68 rfl rfl ?_
 simp only [cc171]
 try simp only [ua,ub,uc,ud,ue,RR]
 refine B5 rfl rfl rfl ?_
 rcases ug (a1 == a0.A) with hb1 | hb1
 ·rw [A4 hb1] at h
  try simp only [hb1,ua,ub,uc,ud,ue,RR]
  cases h
  exact ⟨⟨rfl,trivial⟩,rfl⟩
 ·rw [A3 hb1] at h
  rcases ug (a1 == a0.B) with hb2 | hb2
  ·rw [A4 hb2] at h
   try simp only [hb1,hb2,ua,ub,uc,ud,ue,RR]
   cases h
   exact ⟨⟨rfl,trivial⟩,rfl⟩
  ·rw [A3 hb2] at h
   try simp only [hb1,hb2,ua,ub,uc,ud,ue,RR]
   cases h
   exact ⟨⟨rfl,trivial⟩,rfl⟩
/- 65: impl_Chart_routesFrom -/
def H1 : List (List Nat × AItem) := [([],(none,.mv 18 (S 5))),([],(none,.mv 19 (S 5))),([1],(none,.nilc 20 (S 19))),([2],(none,.load 21 (S 20) false 1)),([],(none,.mv 22 (S 3))),([4],(none,.call 23 82 [(S 22)])),([5],(none,.bslice 24 1 [.sl []] 1 [(0,(S 23))])),([3,6,5],(none,.app 25 1 24 (S 21) (S 24))),([0,0,1,2,3,4,5,6,7],(none,.nilc 26 (S 18))),([8,7,7,0,1,2,3,4,5,6,7],(none,.store (S 26) (S 25) 1))]
def F6 : List (List Nat × AItem) := [([],(none,.load 48 (S 6) true 2)),([],(none,.mv 49 (S 14))),([],(none,.mv 50 (S 2))),([],(none,.mv 51 (S 3))),([3],(none,.call 52 82 [(S 51)])),([],(none,.mv 53 (S 12))),([5],(none,.bslice 54 1 [.int .i64 0] 1 [(0,(S 53))])),([4,6,4],(none,.app 55 1 8 (S 52) (S 54))),([],(none,.load 56 (S 10) true 8)),([],(none,.mv 57 (S 5))),([0,1,2,7,8,9,7],(none,.call 58 65 [(S 48),(S 49),(S 50),(S 55),(S 56),(S 57)]))]
def B5v : ACode := .seq (.reg [(none,.keep [1,2,3,5,6,10,12,14,30,31,32,47] [1099511627776,6,10] [32000000000])]) (.cond (S 47) (.any F6) .skip)
def B5i : ACode := (.reg [(none,.bin 59 .add (S 32) (K 1)),mv 32 59])
def A8z : ACode := .seq (.reg [(none,.keep [1,2,3,5,6,10,30,31,32] [1099511627776,6,10] [32000000000])]) (.seq (.reg [bn 33 .lss 32 31]) (.seq (.cond (S 33) .skip (.exit 0)) (.seq (.block 1 (.seq (.reg [mv 34 32,(none,.iaddr 35 (S 30) (S 32) 5),(none,.load 36 (S 35) true 5),(none,.alloc 13 [aI 0,aI 0,aI 0,aI 0,aB false]),mv 12 34,(none,.store (S 13) (S 36) 5)]) (.seq (.reg [(none,.load 37 (S 13) true 5),mv 38 1,(none,.call 39 83 [(S 37),(S 38)]),mv 14 39]) (.seq (.reg [mv 40 14,(none,.bin 41 .geq (S 40) (K 0)),mv 42 41,(some (42,true),.mv 43 (S 14)),(some (42,true),.aaddr 44 (S 10) (S 43) 8 1),(some (42,true),.load 45 (S 44) false 1),(some (42,true),.un 46 .not (S 45)),(none,.pick 47 (S 42) (S 46) (KB false))]) B5v)))) B5i)))
def cc176 : ACode := (.seq (.reg [(none,.box 6 (S 0)),(none,.box 10 (S 4))]) (.seq (.seq (.reg [mv 15 1,mv 16 2,bn 17 .eql 15 16]) (.cond (S 17) (.seq (.any H1) .ret) .skip)) (.seq (.reg [mv 27 1,(none,.aaddr 28 (S 10) (S 27) 8 1),(none,.store (S 28) (KB true) 1)]) (.seq (.reg [fa 29 6 1,ld 30 29,(none,.len 31 (S 30)),(none,.mv 32 (K 0))]) (.block 0 (.loop A8z))))))
theorem D8u (rec_ : XChart → Int → Int → (List Int) → X_8_bool → (List (List Int)) → Option (List (List Int))) (h_rec : ∀ (a0 : XChart) (a1 : Int) (a2 : Int) (a3 : List Int) (a4 : X_8_bool) (a5 : List (List Int)) zr,rec_ a0 a1 a2 a3 a4 a5 = some zr → FCz Try.prog 65 [.d (.ag (XChart.row a0)),.d (.sc (.int .i64 a1)),.d (.sc (.int .i64 a2)),.d (.sc (.sl (List.map rI a3))),.d (.ag (X_8_bool.row a4)),.p] [.r 0] [(1,List.map (rL rI) a5)] [.r 0] [(1,List.map (rL rI) zr)] []) (a3 : List Int) (a5 : List (List Int)) (r2 : (List Int)) (hr2 : C8 a3 = some r2) (hg3 : (E1 a5.length ([r2] : List (List Int)).length 24) = true) : ∀ (f : Nat),F2 Try.prog H1 ⟨[(3,vc (aL (List.map rI a3))),(5,vc (.pb 1099511627776 0)),(18,vc (.pb 1099511627776 0)),(19,vc (.pb 1099511627776 0)),(20,vc (.pb 1099511627776 0)),(21,vc (.undef)),(22,vc (aL (List.map rI a3))),(23,vc (aL (List.map rI r2))),(24,vc (.own 1536)),(25,vc (.own 32000000000)),(26,vc (.pb 1099511627776 0))],[(1099511627776,[.own 32000000000])],[(32000000000,1,List.map (rL rI) (a5 ++ ([r2] : List (List Int)))),(1536,1,List.map (rL rI) ([r2] : List (List Int)))]⟩ f [true,true,true,true,true,true,true,true,true,true] ⟨[(3,vc (aL (List.map rI a3))),(5,vc (.pb 1099511627776 0)),(18,vc (.pb 1099511627776 0)),(19,vc (.pb 1099511627776 0)),(20,vc (.pb 1099511627776 0)),(21,vc (.undef)),(22,vc (aL (List.map rI a3))),(23,vc (aL (List.map rI r2))),(24,vc (.own 1536)),(25,vc (.own 32000000000)),(26,vc (.pb 1099511627776 0))],[(1099511627776,[.own 32000000000])],[(32000000000,1,List.map (rL rI) (a5 ++ ([r2] : List (List Int)))),(1536,1,List.map (rL rI) ([r2] : List (List Int)))]⟩ := by
 intro f
 induction f with
 | zero => intro h; rfl
 | succ f ih =>
  refine C3 ⟨?_,?_,?_,?_,?_,?_,?_,?_,?_,?_,trivial⟩
  ·intro h; cases h
  ·intro h; cases h
  ·intro h; cases h
  ·intro h; cases h
  ·intro h; cases h
  ·intro h; cases h
  ·intro h; cases h
  ·intro h; cases h
  ·intro h; cases h
  ·intro h; cases h
theorem D9n (rec_ : XChart → Int → Int → (List Int) → X_8_bool → (List (List Int)) → Option (List (List Int))) (h_rec : ∀ (a0 : XChart) (a1 : Int) (a2 : Int) (a3 : List Int) (a4 : X_8_bool) (a5 : List (List Int)) zr,rec_ a0 a1 a2 a3 a4 a5 = some zr → FCz Try.prog 65 [.d (.ag (XChart.row a0)),.d (.sc (.int .i64 a1)),.d (.sc (.int .i64 a2)),.d (.sc (.sl (List.map rI a3))),.d (.ag (X_8_bool.row a4)),.p] [.r 0] [(1,List.map (rL rI) a5)] [.r 0] [(1,List.map (rL rI) zr)] []) (a3 : List Int) (a5 : List (List Int)) (r2 : (List Int)) (hr2 : C8 a3 = some r2) (hg3 : (E1 a5.length ([r2] : List (List Int)).length 24) = true) : ∀ (f : Nat) (b0 : Bool) (b1 : Bool) (b2 : Bool) (b8 : Bool),F2 Try.prog H1 ⟨[(3,vc (aL (List.map rI a3))),(5,vc (.pb 1099511627776 0)),(18,vc (.pb 1099511627776 0)),(19,vc (.pb 1099511627776 0)),(20,vc (.pb 1099511627776 0)),(21,vc (.undef)),(22,vc (aL (List.map rI a3))),(23,vc (aL (List.map rI r2))),(24,vc (.own 1536)),(25,vc (.own 32000000000)),(26,vc (.pb 1099511627776 0))],[(1099511627776,[.own 32000000000])],[(32000000000,1,List.map (rL rI) (a5 ++ ([r2] : List (List Int)))),(1536,1,List.map (rL rI) ([r2] : List (List Int)))]⟩ f [b0,b1,b2,true,true,true,true,true,b8,false] ⟨[(3,vc (aL (List.map rI a3))),(5,vc (.pb 1099511627776 0)),(18,bif b0 then vc (.pb 1099511627776 0) else .undef),(19,bif b1 then vc (.pb 1099511627776 0) else .undef),(20,bif b2 then vc (.pb 1099511627776 0) else .undef),(21,vc (.undef)),(22,vc (aL (List.map rI a3))),(23,vc (aL (List.map rI r2))),(24,vc (.own 1536)),(25,vc (.own 32000000000)),(26,bif b8 then vc (.pb 1099511627776 0) else .undef)],[(1099511627776,[.undef])],[(32000000000,1,List.map (rL rI) (a5 ++ ([r2] : List (List Int)))),(1536,1,List.map (rL rI) ([r2] : List (List Int)))]⟩ := by
 intro f
 induction f with
 | zero => intro b0 b1 b2 b8 h; simp at h
 | succ f ih =>
  intro b0 b1 b2 b8
  refine C3 ⟨?_,?_,?_,?_,?_,?_,?_,?_,?_,?_,trivial⟩
  ·intro h0 hw
   obtain rfl : b0 = false := Option.some.inj h0
   refine ⟨[],[],rfl,rfl,?_⟩
   simp only [List.nil_append,List.cons_append]
   try simp only [A1,ua,ub,uc,ud,ue,RR]
   exact ih true b1 b2 b8
  ·intro h0 hw
   obtain rfl : b1 = false := Option.some.inj h0
   refine ⟨[],[],rfl,rfl,?_⟩
   simp only [List.nil_append,List.cons_append]
   try simp only [A1,ua,ub,uc,ud,ue,RR]
   exact ih b0 true b2 b8
  ·intro h0 hw
   obtain rfl : b2 = false := Option.some.inj h0
   obtain rfl : b1 = true := Option.some.inj (hw 1 (by simp))
   refine ⟨[],[],rfl,rfl,?_⟩
   simp only [List.nil_append,List.cons_append]
   try simp only [A1,ua,ub,uc,ud,ue,RR]
   exact ih b0 true true b8
  ·intro h; cases h
  ·intro h; cases h
  ·intro h; cases h
  ·intro h; cases h
  ·intro h; cases h
  ·intro h0 hw
   obtain rfl : b8 = false := Option.some.inj h0
   obtain rfl : b0 = true := Option.some.inj (hw 0 (by simp))
   obtain rfl : b1 = true := Option.some.inj (hw 1 (by simp))
   obtain rfl : b2 = true := Option.some.inj (hw 2 (by simp))
   refine ⟨[],[],rfl,rfl,?_⟩
   simp only [List.nil_append,List.cons_append]
   try simp only [A1,ua,ub,uc,ud,ue,RR]
   exact ih true true true true
  ·intro h0 hw
   obtain rfl : b0 = true := Option.some.inj (hw 0 (by simp))
   obtain rfl : b1 = true := Option.some.inj (hw 1 (by simp))
   obtain rfl : b2 = true := Option.some.inj (hw 2 (by simp))
   obtain rfl : b8 = true := Option.some.inj (hw 8 (by simp))
   refine ⟨[],[],rfl,rfl,?_⟩
   simp only [List.nil_append,List.cons_append]
   try simp only [A1,ua,ub,uc,ud,ue,RR]
   exact D8u rec_ h_rec a3 a5 r2 hr2 hg3 _
theorem D7b (rec_ : XChart → Int → Int → (List Int) → X_8_bool → (List (List Int)) → Option (List (List Int))) (h_rec : ∀ (a0 : XChart) (a1 : Int) (a2 : Int) (a3 : List Int) (a4 : X_8_bool) (a5 : List (List Int)) zr,rec_ a0 a1 a2 a3 a4 a5 = some zr → FCz Try.prog 65 [.d (.ag (XChart.row a0)),.d (.sc (.int .i64 a1)),.d (.sc (.int .i64 a2)),.d (.sc (.sl (List.map rI a3))),.d (.ag (X_8_bool.row a4)),.p] [.r 0] [(1,List.map (rL rI) a5)] [.r 0] [(1,List.map (rL rI) zr)] []) (a3 : List Int) (a5 : List (List Int)) (r2 : (List Int)) (hr2 : C8 a3 = some r2) (hg3 : (E1 a5.length ([r2] : List (List Int)).length 24) = true) : ∀ (f : Nat) (b0 : Bool) (b1 : Bool) (b2 : Bool) (b3 : Bool),F2 Try.prog H1 ⟨[(3,vc (aL (List.map rI a3))),(5,vc (.pb 1099511627776 0)),(18,vc (.pb 1099511627776 0)),(19,vc (.pb 1099511627776 0)),(20,vc (.pb 1099511627776 0)),(21,vc (.undef)),(22,vc (aL (List.map rI a3))),(23,vc (aL (List.map rI r2))),(24,vc (.own 1536)),(25,vc (.own 32000000000)),(26,vc (.pb 1099511627776 0))],[(1099511627776,[.own 32000000000])],[(32000000000,1,List.map (rL rI) (a5 ++ ([r2] : List (List Int)))),(1536,1,List.map (rL rI) ([r2] : List (List Int)))]⟩ f [b0,b1,b2,b3,true,true,true,false,false,false] ⟨[(3,vc (aL (List.map rI a3))),(5,vc (.pb 1099511627776 0)),(18,bif b0 then vc (.pb 1099511627776 0) else .undef),(19,bif b1 then vc (.pb 1099511627776 0) else .undef),(20,bif b2 then vc (.pb 1099511627776 0) else .undef),(21,bif b3 then vc (.own 32000000000) else .undef),(22,vc (aL (List.map rI a3))),(23,vc (aL (List.map rI r2))),(24,vc (.own 1536)),(25,.undef),(26,.undef)],[(1099511627776,[.own 32000000000])],[(32000000000,1,List.map (rL rI) a5),(1536,1,List.map (rL rI) ([r2] : List (List Int)))]⟩ := by
 intro f
 induction f with
 | zero => intro b0 b1 b2 b3 h; simp at h
 | succ f ih =>
  intro b0 b1 b2 b3
  refine C3 ⟨?_,?_,?_,?_,?_,?_,?_,?_,?_,?_,trivial⟩
  ·intro h0 hw
   obtain rfl : b0 = false := Option.some.inj h0
   refine ⟨[],[],rfl,rfl,?_⟩
   simp only [List.nil_append,List.cons_append]
   try simp only [A1,ua,ub,uc,ud,ue,RR]
   exact ih true b1 b2 b3
  ·intro h0 hw
   obtain rfl : b1 = false := Option.some.inj h0
   refine ⟨[],[],rfl,rfl,?_⟩
   simp only [List.nil_append,List.cons_append]
   try simp only [A1,ua,ub,uc,ud,ue,RR]
   exact ih b0 true b2 b3
  ·intro h0 hw
   obtain rfl : b2 = false := Option.some.inj h0
   obtain rfl : b1 = true := Option.some.inj (hw 1 (by simp))
   refine ⟨[],[],rfl,rfl,?_⟩
   simp only [List.nil_append,List.cons_append]
   try simp only [A1,ua,ub,uc,ud,ue,RR]
   exact ih b0 true true b3
  ·intro h0 hw
   obtain rfl : b3 = false := Option.some.inj h0
   obtain rfl : b2 = true := Option.some.inj (hw 2 (by simp))
   refine ⟨[],[],rfl,rfl,?_⟩
   simp only [List.nil_append,List.cons_append]
   try simp only [A1,ua,ub,uc,ud,ue,RR]
   exact ih b0 b1 true true
  ·intro h; cases h
  ·intro h; cases h
  ·intro h; cases h
  ·intro h0 hw
   obtain rfl : b3 = true := Option.some.inj (hw 3 (by simp))
   refine ⟨[],[],rfl,rfl,?_⟩
   simp only [List.nil_append,List.cons_append]
   try simp only [hg3,A1,ua,ub,uc,ud,ue,RR]
   exact D9n rec_ h_rec a3 a5 r2 hr2 hg3 _ b0 b1 b2 false
  ·intro _ hw; have := hw 7 (by simp); cases this
  ·intro _ hw; have := hw 8 (by simp); cases this
theorem E0m (rec_ : XChart → Int → Int → (List Int) → X_8_bool → (List (List Int)) → Option (List (List Int))) (h_rec : ∀ (a0 : XChart) (a1 : Int) (a2 : Int) (a3 : List Int) (a4 : X_8_bool) (a5 : List (List Int)) zr,rec_ a0 a1 a2 a3 a4 a5 = some zr → FCz Try.prog 65 [.d (.ag (XChart.row a0)),.d (.sc (.int .i64 a1)),.d (.sc (.int .i64 a2)),.d (.sc (.sl (List.map rI a3))),.d (.ag (X_8_bool.row a4)),.p] [.r 0] [(1,List.map (rL rI) a5)] [.r 0] [(1,List.map (rL rI) zr)] []) (a3 : List Int) (a5 : List (List Int)) (r2 : (List Int)) (hr2 : C8 a3 = some r2) (hg3 : (E1 a5.length ([r2] : List (List Int)).length 24) = true) : ∀ (f : Nat) (b0 : Bool) (b1 : Bool) (b2 : Bool) (b3 : Bool),F2 Try.prog H1 ⟨[(3,vc (aL (List.map rI a3))),(5,vc (.pb 1099511627776 0)),(18,vc (.pb 1099511627776 0)),(19,vc (.pb 1099511627776 0)),(20,vc (.pb 1099511627776 0)),(21,vc (.undef)),(22,vc (aL (List.map rI a3))),(23,vc (aL (List.map rI r2))),(24,vc (.own 1536)),(25,vc (.own 32000000000)),(26,vc (.pb 1099511627776 0))],[(1099511627776,[.own 32000000000])],[(32000000000,1,List.map (rL rI) (a5 ++ ([r2] : List (List Int)))),(1536,1,List.map (rL rI) ([r2] : List (List Int)))]⟩ f [b0,b1,b2,b3,true,true,false,false,false,false] ⟨[(3,vc (aL (List.map rI a3))),(5,vc (.pb 1099511627776 0)),(18,bif b0 then vc (.pb 1099511627776 0) else .undef),(19,bif b1 then vc (.pb 1099511627776 0) else .undef),(20,bif b2 then vc (.pb 1099511627776 0) else .undef),(21,bif b3 then vc (.own 32000000000) else .undef),(22,vc (aL (List.map rI a3))),(23,vc (.own 1472)),(24,.undef),(25,.undef),(26,.undef)],[(1099511627776,[.own 32000000000])],[(32000000000,1,List.map (rL rI) a5),(1472,1,List.map rI r2)]⟩ := by
 intro f
 induction f with
 | zero => intro b0 b1 b2 b3 h; simp at h
 | succ f ih =>
  intro b0 b1 b2 b3
  refine C3 ⟨?_,?_,?_,?_,?_,?_,?_,?_,?_,?_,trivial⟩
  ·intro h0 hw
   obtain rfl : b0 = false := Option.some.inj h0
   refine ⟨[],[],rfl,rfl,?_⟩
   simp only [List.nil_append,List.cons_append]
   try simp only [A1,ua,ub,uc,ud,ue,RR]
   exact ih true b1 b2 b3
  ·intro h0 hw
   obtain rfl : b1 = false := Option.some.inj h0
   refine ⟨[],[],rfl,rfl,?_⟩
   simp only [List.nil_append,List.cons_append]
   try simp only [A1,ua,ub,uc,ud,ue,RR]
   exact ih b0 true b2 b3
  ·intro h0 hw
   obtain rfl : b2 = false := Option.some.inj h0
   obtain rfl : b1 = true := Option.some.inj (hw 1 (by simp))
   refine ⟨[],[],rfl,rfl,?_⟩
   simp only [List.nil_append,List.cons_append]
   try simp only [A1,ua,ub,uc,ud,ue,RR]
   exact ih b0 true true b3
  ·intro h0 hw
   obtain rfl : b3 = false := Option.some.inj h0
   obtain rfl : b2 = true := Option.some.inj (hw 2 (by simp))
   refine ⟨[],[],rfl,rfl,?_⟩
   simp only [List.nil_append,List.cons_append]
   try simp only [A1,ua,ub,uc,ud,ue,RR]
   exact ih b0 b1 true true
  ·intro h; cases h
  ·intro h; cases h
  ·intro h0 hw
   refine ⟨[(none,.frz 1472)],[],rfl,rfl,?_⟩
   simp only [List.nil_append,List.cons_append]
   try simp only [A1,ua,ub,uc,ud,ue,RR]
   refine U3 rfl ?_
   try simp only [A1,ua,ub,uc,ud,ue,RR]
   refine E8 (es := List.map (rL rI) ([r2] : List (List Int))) rfl (by simp only [St.fresh,List.all_cons,List.all_nil,A1h]; simp [AV.cells,V1.cells,AC.uses]) ?_
   try simp only [A1,ua,ub,uc,ud,ue,RR]
   exact D7b rec_ h_rec a3 a5 r2 hr2 hg3 _ b0 b1 b2 b3
  ·intro _ hw; have := hw 6 (by simp); cases this
  ·intro _ hw; have := hw 6 (by simp); cases this
  ·intro _ hw; have := hw 8 (by simp); cases this
theorem D62 (rec_ : XChart → Int → Int → (List Int) → X_8_bool → (List (List Int)) → Option (List (List Int))) (h_rec : ∀ (a0 : XChart) (a1 : Int) (a2 : Int) (a3 : List Int) (a4 : X_8_bool) (a5 : List (List Int)) zr,rec_ a0 a1 a2 a3 a4 a5 = some zr → FCz Try.prog 65 [.d (.ag (XChart.row a0)),.d (.sc (.int .i64 a1)),.d (.sc (.int .i64 a2)),.d (.sc (.sl (List.map rI a3))),.d (.ag (X_8_bool.row a4)),.p] [.r 0] [(1,List.map (rL rI) a5)] [.r 0] [(1,List.map (rL rI) zr)] []) (a3 : List Int) (a5 : List (List Int)) (r2 : (List Int)) (hr2 : C8 a3 = some r2) (hg3 : (E1 a5.length ([r2] : List (List Int)).length 24) = true) : ∀ (f : Nat) (b0 : Bool) (b1 : Bool) (b2 : Bool) (b3 : Bool) (b4 : Bool),F2 Try.prog H1 ⟨[(3,vc (aL (List.map rI a3))),(5,vc (.pb 1099511627776 0)),(18,vc (.pb 1099511627776 0)),(19,vc (.pb 1099511627776 0)),(20,vc (.pb 1099511627776 0)),(21,vc (.undef)),(22,vc (aL (List.map rI a3))),(23,vc (aL (List.map rI r2))),(24,vc (.own 1536)),(25,vc (.own 32000000000)),(26,vc (.pb 1099511627776 0))],[(1099511627776,[.own 32000000000])],[(32000000000,1,List.map (rL rI) (a5 ++ ([r2] : List (List Int)))),(1536,1,List.map (rL rI) ([r2] : List (List Int)))]⟩ f [b0,b1,b2,b3,b4,false,false,false,false,false] ⟨[(3,vc (aL (List.map rI a3))),(5,vc (.pb 1099511627776 0)),(18,bif b0 then vc (.pb 1099511627776 0) else .undef),(19,bif b1 then vc (.pb 1099511627776 0) else .undef),(20,bif b2 then vc (.pb 1099511627776 0) else .undef),(21,bif b3 then vc (.own 32000000000) else .undef),(22,bif b4 then vc (aL (List.map rI a3)) else .undef),(23,.undef),(24,.undef),(25,.undef),(26,.undef)],[(1099511627776,[.own 32000000000])],[(32000000000,1,List.map (rL rI) a5)]⟩ := by
 intro f
 induction f with
 | zero => intro b0 b1 b2 b3 b4 h; simp at h
 | succ f ih =>
  intro b0 b1 b2 b3 b4
  refine C3 ⟨?_,?_,?_,?_,?_,?_,?_,?_,?_,?_,trivial⟩
  ·intro h0 hw
   obtain rfl : b0 = false := Option.some.inj h0
   refine ⟨[],[],rfl,rfl,?_⟩
   simp only [List.nil_append,List.cons_append]
   try simp only [A1,ua,ub,uc,ud,ue,RR]
   exact ih true b1 b2 b3 b4
  ·intro h0 hw
   obtain rfl : b1 = false := Option.some.inj h0
   refine ⟨[],[],rfl,rfl,?_⟩
   simp only [List.nil_append,List.cons_append]
   try simp only [A1,ua,ub,uc,ud,ue,RR]
   exact ih b0 true b2 b3 b4
  ·intro h0 hw
   obtain rfl : b2 = false := Option.some.inj h0
   obtain rfl : b1 = true := Option.some.inj (hw 1 (by simp))
   refine ⟨[],[],rfl,rfl,?_⟩
   simp only [List.nil_append,List.cons_append]
   try simp only [A1,ua,ub,uc,ud,ue,RR]
   exact ih b0 true true b3 b4
  ·intro h0 hw
   obtain rfl : b3 = false := Option.some.inj h0
   obtain rfl : b2 = true := Option.some.inj (hw 2 (by simp))
   refine ⟨[],[],rfl,rfl,?_⟩
   simp only [List.nil_append,List.cons_append]
   try simp only [A1,ua,ub,uc,ud,ue,RR]
   exact ih b0 b1 true true b4
  ·intro h0 hw
   obtain rfl : b4 = false := Option.some.inj h0
   refine ⟨[],[],rfl,rfl,?_⟩
   simp only [List.nil_append,List.cons_append]
   try simp only [A1,ua,ub,uc,ud,ue,RR]
   exact ih b0 b1 b2 b3 true
  ·intro h0 hw
   obtain rfl : b4 = true := Option.some.inj (hw 4 (by simp))
   refine ⟨[],[],rfl,rfl,?_⟩
   simp only [List.nil_append,List.cons_append]
   try simp only [A1,ua,ub,uc,ud,ue,RR]
   refine A6 (A2q _ _ hr2) rfl (by simp only [St.fresh,List.all_cons,List.all_nil,A1h]; simp [AV.cells,V1.cells,AC.uses]) (uf rfl) ?_
   try simp only [A1,ua,ub,uc,ud,ue,RR]
   exact E0m rec_ h_rec a3 a5 r2 hr2 hg3 _ b0 b1 b2 b3
  ·intro _ hw; have := hw 5 (by simp); cases this
  ·intro _ hw; have := hw 6 (by simp); cases this
  ·intro _ hw; have := hw 5 (by simp); cases this
  ·intro _ hw; have := hw 8 (by simp); cases this
theorem E1o (rec_ : XChart → Int → Int → (List Int) → X_8_bool → (List (List Int)) → Option (List (List Int))) (h_rec : ∀ (a0 : XChart) (a1 : Int) (a2 : Int) (a3 : List Int) (a4 : X_8_bool) (a5 : List (List Int)) zr,rec_ a0 a1 a2 a3 a4 a5 = some zr → FCz Try.prog 65 [.d (.ag (XChart.row a0)),.d (.sc (.int .i64 a1)),.d (.sc (.int .i64 a2)),.d (.sc (.sl (List.map rI a3))),.d (.ag (X_8_bool.row a4)),.p] [.r 0] [(1,List.map (rL rI) a5)] [.r 0] [(1,List.map (rL rI) zr)] []) (a1 : Int) (a2 : Int) (a3 : List Int) (v6 : Int) (r11 : Int) (a0 : XChart) (y7 : X_8_bool) (v8 : List (List Int)) (r18 : (List Int)) (r20 : (List (List Int))) (hr18 : C8 a3 = some r18) (hg19 : (E1 r18.length ([v6] : List Int).length 8) = true) (hr20 : rec_ a0 r11 a2 (r18 ++ ([v6] : List Int)) y7 v8 = some r20) : ∀ (f : Nat),F2 Try.prog F6 ⟨[(1,vc (aI a1)),(2,vc (aI a2)),(3,vc (aL (List.map rI a3))),(5,vc (.pb 1099511627776 0)),(6,vc (.pb 6 0)),(10,vc (.pb 10 0)),(12,vc (aI v6)),(14,vc (aI r11)),(30,vc (aL (List.map XSegment.row a0.Segments))),(31,vc (aI (a0.Segments.length : Int))),(32,vc (aI v6)),(48,va [aL (List.map XPoint.row a0.Points),aL (List.map XSegment.row a0.Segments)]),(49,vc (aI r11)),(50,vc (aI a2)),(51,vc (aL (List.map rI a3))),(52,vc (.undef)),(53,vc (aI v6)),(54,vc (.own 3456)),(55,vc (aL (List.map rI (r18 ++ ([v6] : List Int))))),(56,va [aB y7.i0,aB y7.i1,aB y7.i2,aB y7.i3,aB y7.i4,aB y7.i5,aB y7.i6,aB y7.i7]),(57,vc (.pb 1099511627776 0)),(58,.tup [])],[(1099511627776,[.own 32000000000]),(6,[aL (List.map XPoint.row a0.Points),aL (List.map XSegment.row a0.Segments)]),(10,[aB y7.i0,aB y7.i1,aB y7.i2,aB y7.i3,aB y7.i4,aB y7.i5,aB y7.i6,aB y7.i7])],[(32000000000,1,List.map (rL rI) r20),(3456,1,List.map rI ([v6] : List Int))]⟩ f [true,true,true,true,true,true,true,true,true,true,true] ⟨[(1,vc (aI a1)),(2,vc (aI a2)),(3,vc (aL (List.map rI a3))),(5,vc (.pb 1099511627776 0)),(6,vc (.pb 6 0)),(10,vc (.pb 10 0)),(12,vc (aI v6)),(14,vc (aI r11)),(30,vc (aL (List.map XSegment.row a0.Segments))),(31,vc (aI (a0.Segments.length : Int))),(32,vc (aI v6)),(48,va [aL (List.map XPoint.row a0.Points),aL (List.map XSegment.row a0.Segments)]),(49,vc (aI r11)),(50,vc (aI a2)),(51,vc (aL (List.map rI a3))),(52,vc (.undef)),(53,vc (aI v6)),(54,vc (.own 3456)),(55,vc (aL (List.map rI (r18 ++ ([v6] : List Int))))),(56,va [aB y7.i0,aB y7.i1,aB y7.i2,aB y7.i3,aB y7.i4,aB y7.i5,aB y7.i6,aB y7.i7]),(57,vc (.pb 1099511627776 0)),(58,.tup [])],[(1099511627776,[.own 32000000000]),(6,[aL (List.map XPoint.row a0.Points),aL (List.map XSegment.row a0.Segments)]),(10,[aB y7.i0,aB y7.i1,aB y7.i2,aB y7.i3,aB y7.i4,aB y7.i5,aB y7.i6,aB y7.i7])],[(32000000000,1,List.map (rL rI) r20),(3456,1,List.map rI ([v6] : List Int))]⟩ := by
 intro f
 induction f with
 | zero => intro h; rfl
 | succ f ih =>
  refine C3 ⟨?_,?_,?_,?_,?_,?_,?_,?_,?_,?_,?_,trivial⟩
  ·intro h; cases h
  ·intro h; cases h
  ·intro h; cases h
  ·intro h; cases h
  ·intro h; cases h
  ·intro h; cases h
  ·intro h; cases h
  ·intro h; cases h
  ·intro h; cases h
  ·intro h; cases h
  ·intro h; cases h
theorem E1g (rec_ : XChart → Int → Int → (List Int) → X_8_bool → (List (List Int)) → Option (List (List Int))) (h_rec : ∀ (a0 : XChart) (a1 : Int) (a2 : Int) (a3 : List Int) (a4 : X_8_bool) (a5 : List (List Int)) zr,rec_ a0 a1 a2 a3 a4 a5 = some zr → FCz Try.prog 65 [.d (.ag (XChart.row a0)),.d (.sc (.int .i64 a1)),.d (.sc (.int .i64 a2)),.d (.sc (.sl (List.map rI a3))),.d (.ag (X_8_bool.row a4)),.p] [.r 0] [(1,List.map (rL rI) a5)] [.r 0] [(1,List.map (rL rI) zr)] []) (a1 : Int) (a2 : Int) (a3 : List Int) (v6 : Int) (r11 : Int) (a0 : XChart) (y7 : X_8_bool) (v8 : List (List Int)) (r18 : (List Int)) (r20 : (List (List Int))) (hr18 : C8 a3 = some r18) (hg19 : (E1 r18.length ([v6] : List Int).length 8) = true) (hr20 : rec_ a0 r11 a2 (r18 ++ ([v6] : List Int)) y7 v8 = some r20) : ∀ (f : Nat) (b0 : Bool) (b1 : Bool) (b2 : Bool) (b8 : Bool) (b9 : Bool),F2 Try.prog F6 ⟨[(1,vc (aI a1)),(2,vc (aI a2)),(3,vc (aL (List.map rI a3))),(5,vc (.pb 1099511627776 0)),(6,vc (.pb 6 0)),(10,vc (.pb 10 0)),(12,vc (aI v6)),(14,vc (aI r11)),(30,vc (aL (List.map XSegment.row a0.Segments))),(31,vc (aI (a0.Segments.length : Int))),(32,vc (aI v6)),(48,va [aL (List.map XPoint.row a0.Points),aL (List.map XSegment.row a0.Segments)]),(49,vc (aI r11)),(50,vc (aI a2)),(51,vc (aL (List.map rI a3))),(52,vc (.undef)),(53,vc (aI v6)),(54,vc (.own 3456)),(55,vc (aL (List.map rI (r18 ++ ([v6] : List Int))))),(56,va [aB y7.i0,aB y7.i1,aB y7.i2,aB y7.i3,aB y7.i4,aB y7.i5,aB y7.i6,aB y7.i7]),(57,vc (.pb 1099511627776 0)),(58,.tup [])],[(1099511627776,[.own 32000000000]),(6,[aL (List.map XPoint.row a0.Points),aL (List.map XSegment.row a0.Segments)]),(10,[aB y7.i0,aB y7.i1,aB y7.i2,aB y7.i3,aB y7.i4,aB y7.i5,aB y7.i6,aB y7.i7])],[(32000000000,1,List.map (rL rI) r20),(3456,1,List.map rI ([v6] : List Int))]⟩ f [b0,b1,b2,true,true,true,true,true,b8,b9,false] ⟨[(1,vc (aI a1)),(2,vc (aI a2)),(3,vc (aL (List.map rI a3))),(5,vc (.pb 1099511627776 0)),(6,vc (.pb 6 0)),(10,vc (.pb 10 0)),(12,vc (aI v6)),(14,vc (aI r11)),(30,vc (aL (List.map XSegment.row a0.Segments))),(31,vc (aI (a0.Segments.length : Int))),(32,vc (aI v6)),(48,bif b0 then va [aL (List.map XPoint.row a0.Points),aL (List.map XSegment.row a0.Segments)] else .undef),(49,bif b1 then vc (aI r11) else .undef),(50,bif b2 then vc (aI a2) else .undef),(51,vc (aL (List.map rI a3))),(52,vc (.undef)),(53,vc (aI v6)),(54,vc (.own 3456)),(55,vc (.own 3328)),(56,bif b8 then va [aB y7.i0,aB y7.i1,aB y7.i2,aB y7.i3,aB y7.i4,aB y7.i5,aB y7.i6,aB y7.i7] else .undef),(57,bif b9 then vc (.pb 1099511627776 0) else .undef),(58,.undef)],[(1099511627776,[.own 32000000000]),(6,[aL (List.map XPoint.row a0.Points),aL (List.map XSegment.row a0.Segments)]),(10,[aB y7.i0,aB y7.i1,aB y7.i2,aB y7.i3,aB y7.i4,aB y7.i5,aB y7.i6,aB y7.i7])],[(32000000000,1,List.map (rL rI) v8),(3328,1,List.map rI (r18 ++ ([v6] : List Int))),(3456,1,List.map rI ([v6] : List Int))]⟩ := by
 intro f
 induction f with
 | zero => intro b0 b1 b2 b8 b9 h; simp at h
 | succ f ih =>
  intro b0 b1 b2 b8 b9
  refine C3 ⟨?_,?_,?_,?_,?_,?_,?_,?_,?_,?_,?_,trivial⟩
  ·intro h0 hw
   obtain rfl : b0 = false := Option.some.inj h0
   refine ⟨[],[],rfl,rfl,?_⟩
   simp only [List.nil_append,List.cons_append]
   try simp only [A1,ua,ub,uc,ud,ue,RR]
   exact ih true b1 b2 b8 b9
  ·intro h0 hw
   obtain rfl : b1 = false := Option.some.inj h0
   refine ⟨[],[],rfl,rfl,?_⟩
   simp only [List.nil_append,List.cons_append]
   try simp only [A1,ua,ub,uc,ud,ue,RR]
   exact ih b0 true b2 b8 b9
  ·intro h0 hw
   obtain rfl : b2 = false := Option.some.inj h0
   refine ⟨[],[],rfl,rfl,?_⟩
   simp only [List.nil_append,List.cons_append]
   try simp only [A1,ua,ub,uc,ud,ue,RR]
   exact ih b0 b1 true b8 b9
  ·intro h; cases h
  ·intro h; cases h
  ·intro h; cases h
  ·intro h; cases h
  ·intro h; cases h
  ·intro h0 hw
   obtain rfl : b8 = false := Option.some.inj h0
   refine ⟨[],[],rfl,rfl,?_⟩
   simp only [List.nil_append,List.cons_append]
   try simp only [A1,ua,ub,uc,ud,ue,RR]
   exact ih b0 b1 b2 true b9
  ·intro h0 hw
   obtain rfl : b9 = false := Option.some.inj h0
   refine ⟨[],[],rfl,rfl,?_⟩
   simp only [List.nil_append,List.cons_append]
   try simp only [A1,ua,ub,uc,ud,ue,RR]
   exact ih b0 b1 b2 b8 true
  ·intro h0 hw
   obtain rfl : b0 = true := Option.some.inj (hw 0 (by simp))
   obtain rfl : b1 = true := Option.some.inj (hw 1 (by simp))
   obtain rfl : b2 = true := Option.some.inj (hw 2 (by simp))
   obtain rfl : b8 = true := Option.some.inj (hw 8 (by simp))
   obtain rfl : b9 = true := Option.some.inj (hw 9 (by simp))
   refine ⟨[(none,.frz 3328)],[],rfl,rfl,?_⟩
   simp only [List.nil_append,List.cons_append]
   try simp only [A1,ua,ub,uc,ud,ue,RR]
   refine U3 rfl ?_
   try simp only [A1,ua,ub,uc,ud,ue,RR]
   refine B6k (h_rec _ _ _ _ _ _ _ hr20) 1099511627776 [32000000000] rfl rfl rfl rfl (by decide) rfl rfl rfl ?_
   try simp only [A1,ua,ub,uc,ud,ue,RR]
   exact E1o rec_ h_rec a1 a2 a3 v6 r11 a0 y7 v8 r18 r20 hr18 hg19 hr20 _
theorem C8r (rec_ : XChart → Int → Int → (List Int) → X_8_bool → (List (List Int)) → Option (List (List Int))) (h_rec : ∀ (a0 : XChart) (a1 : Int) (a2 : Int) (a3 : List Int) (a4 : X_8_bool) (a5 : List (List Int)) zr,rec_ a0 a1 a2 a3 a4 a5 = some zr → FCz Try.prog 65 [.d (.ag (XChart.row a0)),.d (.sc (.int .i64 a1)),.d (.sc (.int .i64 a2)),.d (.sc (.sl (List.map rI a3))),.d (.ag (X_8_bool.row a4)),.p] [.r 0] [(1,List.map (rL rI) a5)] [.r 0] [(1,List.map (rL rI) zr)] []) (a1 : Int) (a2 : Int) (a3 : List Int) (v6 : Int) (r11 : Int) (a0 : XChart) (y7 : X_8_bool) (v8 : List (List Int)) (r18 : (List Int)) (r20 : (List (List Int))) (hr18 : C8 a3 = some r18) (hg19 : (E1 r18.length ([v6] : List Int).length 8) = true) (hr20 : rec_ a0 r11 a2 (r18 ++ ([v6] : List Int)) y7 v8 = some r20) : ∀ (f : Nat) (b0 : Bool) (b1 : Bool) (b2 : Bool) (b8 : Bool) (b9 : Bool),F2 Try.prog F6 ⟨[(1,vc (aI a1)),(2,vc (aI a2)),(3,vc (aL (List.map rI a3))),(5,vc (.pb 1099511627776 0)),(6,vc (.pb 6 0)),(10,vc (.pb 10 0)),(12,vc (aI v6)),(14,vc (aI r11)),(30,vc (aL (List.map XSegment.row a0.Segments))),(31,vc (aI (a0.Segments.length : Int))),(32,vc (aI v6)),(48,va [aL (List.map XPoint.row a0.Points),aL (List.map XSegment.row a0.Segments)]),(49,vc (aI r11)),(50,vc (aI a2)),(51,vc (aL (List.map rI a3))),(52,vc (.undef)),(53,vc (aI v6)),(54,vc (.own 3456)),(55,vc (aL (List.map rI (r18 ++ ([v6] : List Int))))),(56,va [aB y7.i0,aB y7.i1,aB y7.i2,aB y7.i3,aB y7.i4,aB y7.i5,aB y7.i6,aB y7.i7]),(57,vc (.pb 1099511627776 0)),(58,.tup [])],[(1099511627776,[.own 32000000000]),(6,[aL (List.map XPoint.row a0.Points),aL (List.map XSegment.row a0.Segments)]),(10,[aB y7.i0,aB y7.i1,aB y7.i2,aB y7.i3,aB y7.i4,aB y7.i5,aB y7.i6,aB y7.i7])],[(32000000000,1,List.map (rL rI) r20),(3456,1,List.map rI ([v6] : List Int))]⟩ f [b0,b1,b2,true,true,true,true,false,b8,b9,false] ⟨[(1,vc (aI a1)),(2,vc (aI a2)),(3,vc (aL (List.map rI a3))),(5,vc (.pb 1099511627776 0)),(6,vc (.pb 6 0)),(10,vc (.pb 10 0)),(12,vc (aI v6)),(14,vc (aI r11)),(30,vc (aL (List.map XSegment.row a0.Segments))),(31,vc (aI (a0.Segments.length : Int))),(32,vc (aI v6)),(48,bif b0 then va [aL (List.map XPoint.row a0.Points),aL (List.map XSegment.row a0.Segments)] else .undef),(49,bif b1 then vc (aI r11) else .undef),(50,bif b2 then vc (aI a2) else .undef),(51,vc (aL (List.map rI a3))),(52,vc (.own 3328)),(53,vc (aI v6)),(54,vc (.own 3456)),(55,.undef),(56,bif b8 then va [aB y7.i0,aB y7.i1,aB y7.i2,aB y7.i3,aB y7.i4,aB y7.i5,aB y7.i6,aB y7.i7] else .undef),(57,bif b9 then vc (.pb 1099511627776 0) else .undef),(58,.undef)],[(1099511627776,[.own 32000000000]),(6,[aL (List.map XPoint.row a0.Points),aL (List.map XSegment.row a0.Segments)]),(10,[aB y7.i0,aB y7.i1,aB y7.i2,aB y7.i3,aB y7.i4,aB y7.i5,aB y7.i6,aB y7.i7])],[(32000000000,1,List.map (rL rI) v8),(3328,1,List.map rI r18),(3456,1,List.map rI ([v6] : List Int))]⟩ := by
 intro f
 induction f with
 | zero => intro b0 b1 b2 b8 b9 h; simp at h
 | succ f ih =>
  intro b0 b1 b2 b8 b9
  refine C3 ⟨?_,?_,?_,?_,?_,?_,?_,?_,?_,?_,?_,trivial⟩
  ·intro h0 hw
   obtain rfl : b0 = false := Option.some.inj h0
   refine ⟨[],[],rfl,rfl,?_⟩
   simp only [List.nil_append,List.cons_append]
   try simp only [A1,ua,ub,uc,ud,ue,RR]
   exact ih true b1 b2 b8 b9
  ·intro h0 hw
   obtain rfl : b1 = false := Option.some.inj h0
   refine ⟨[],[],rfl,rfl,?_⟩
   simp only [List.nil_append,List.cons_append]
   try simp only [A1,ua,ub,uc,ud,ue,RR]
   exact ih b0 true b2 b8 b9
  ·intro h0 hw
   obtain rfl : b2 = false := Option.some.inj h0
   refine ⟨[],[],rfl,rfl,?_⟩
   simp only [List.nil_append,List.cons_append]
   try simp only [A1,ua,ub,uc,ud,ue,RR]
   exact ih b0 b1 true b8 b9
  ·intro h; cases h
  ·intro h; cases h
  ·intro h; cases h
  ·intro h; cases h
  ·intro h0 hw
   refine ⟨[],[],rfl,rfl,?_⟩
   simp only [List.nil_append,List.cons_append]
   try simp only [hg19,A1,ua,ub,uc,ud,ue,RR]
   exact E1g rec_ h_rec a1 a2 a3 v6 r11 a0 y7 v8 r18 r20 hr18 hg19 hr20 _ b0 b1 b2 b8 b9
  ·intro h0 hw
   obtain rfl : b8 = false := Option.some.inj h0
   refine ⟨[],[],rfl,rfl,?_⟩
   simp only [List.nil_append,List.cons_append]
   try simp only [A1,ua,ub,uc,ud,ue,RR]
   exact ih b0 b1 b2 true b9
  ·intro h0 hw
   obtain rfl : b9 = false := Option.some.inj h0
   refine ⟨[],[],rfl,rfl,?_⟩
   simp only [List.nil_append,List.cons_append]
   try simp only [A1,ua,ub,uc,ud,ue,RR]
   exact ih b0 b1 b2 b8 true
  ·intro _ hw; have := hw 7 (by simp); cases this
theorem D9z (rec_ : XChart → Int → Int → (List Int) → X_8_bool → (List (List Int)) → Option (List (List Int))) (h_rec : ∀ (a0 : XChart) (a1 : Int) (a2 : Int) (a3 : List Int) (a4 : X_8_bool) (a5 : List (List Int)) zr,rec_ a0 a1 a2 a3 a4 a5 = some zr → FCz Try.prog 65 [.d (.ag (XChart.row a0)),.d (.sc (.int .i64 a1)),.d (.sc (.int .i64 a2)),.d (.sc (.sl (List.map rI a3))),.d (.ag (X_8_bool.row a4)),.p] [.r 0] [(1,List.map (rL rI) a5)] [.r 0] [(1,List.map (rL rI) zr)] []) (a1 : Int) (a2 : Int) (a3 : List Int) (v6 : Int) (r11 : Int) (a0 : XChart) (y7 : X_8_bool) (v8 : List (List Int)) (r18 : (List Int)) (r20 : (List (List Int))) (hr18 : C8 a3 = some r18) (hg19 : (E1 r18.length ([v6] : List Int).length 8) = true) (hr20 : rec_ a0 r11 a2 (r18 ++ ([v6] : List Int)) y7 v8 = some r20) : ∀ (f : Nat) (b0 : Bool) (b1 : Bool) (b2 : Bool) (b5 : Bool) (b8 : Bool) (b9 : Bool),F2 Try.prog F6 ⟨[(1,vc (aI a1)),(2,vc (aI a2)),(3,vc (aL (List.map rI a3))),(5,vc (.pb 1099511627776 0)),(6,vc (.pb 6 0)),(10,vc (.pb 10 0)),(12,vc (aI v6)),(14,vc (aI r11)),(30,vc (aL (List.map XSegment.row a0.Segments))),(31,vc (aI (a0.Segments.length : Int))),(32,vc (aI v6)),(48,va [aL (List.map XPoint.row a0.Points),aL (List.map XSegment.row a0.Segments)]),(49,vc (aI r11)),(50,vc (aI a2)),(51,vc (aL (List.map rI a3))),(52,vc (.undef)),(53,vc (aI v6)),(54,vc (.own 3456)),(55,vc (aL (List.map rI (r18 ++ ([v6] : List Int))))),(56,va [aB y7.i0,aB y7.i1,aB y7.i2,aB y7.i3,aB y7.i4,aB y7.i5,aB y7.i6,aB y7.i7]),(57,vc (.pb 1099511627776 0)),(58,.tup [])],[(1099511627776,[.own 32000000000]),(6,[aL (List.map XPoint.row a0.Points),aL (List.map XSegment.row a0.Segments)]),(10,[aB y7.i0,aB y7.i1,aB y7.i2,aB y7.i3,aB y7.i4,aB y7.i5,aB y7.i6,aB y7.i7])],[(32000000000,1,List.map (rL rI) r20),(3456,1,List.map rI ([v6] : List Int))]⟩ f [b0,b1,b2,true,true,b5,false,false,b8,b9,false] ⟨[(1,vc (aI a1)),(2,vc (aI a2)),(3,vc (aL (List.map rI a3))),(5,vc (.pb 1099511627776 0)),(6,vc (.pb 6 0)),(10,vc (.pb 10 0)),(12,vc (aI v6)),(14,vc (aI r11)),(30,vc (aL (List.map XSegment.row a0.Segments))),(31,vc (aI (a0.Segments.length : Int))),(32,vc (aI v6)),(48,bif b0 then va [aL (List.map XPoint.row a0.Points),aL (List.map XSegment.row a0.Segments)] else .undef),(49,bif b1 then vc (aI r11) else .undef),(50,bif b2 then vc (aI a2) else .undef),(51,vc (aL (List.map rI a3))),(52,vc (.own 3328)),(53,bif b5 then vc (aI v6) else .undef),(54,.undef),(55,.undef),(56,bif b8 then va [aB y7.i0,aB y7.i1,aB y7.i2,aB y7.i3,aB y7.i4,aB y7.i5,aB y7.i6,aB y7.i7] else .undef),(57,bif b9 then vc (.pb 1099511627776 0) else .undef),(58,.undef)],[(1099511627776,[.own 32000000000]),(6,[aL (List.map XPoint.row a0.Points),aL (List.map XSegment.row a0.Segments)]),(10,[aB y7.i0,aB y7.i1,aB y7.i2,aB y7.i3,aB y7.i4,aB y7.i5,aB y7.i6,aB y7.i7])],[(32000000000,1,List.map (rL rI) v8),(3328,1,List.map rI r18)]⟩ := by
 intro f
 induction f with
 | zero => intro b0 b1 b2 b5 b8 b9 h; simp at h
 | succ f ih =>
  intro b0 b1 b2 b5 b8 b9
  refine C3 ⟨?_,?_,?_,?_,?_,?_,?_,?_,?_,?_,?_,trivial⟩
  ·intro h0 hw
   obtain rfl : b0 = false := Option.some.inj h0
   refine ⟨[],[],rfl,rfl,?_⟩
   simp only [List.nil_append,List.cons_append]
   try simp only [A1,ua,ub,uc,ud,ue,RR]
   exact ih true b1 b2 b5 b8 b9
  ·intro h0 hw
   obtain rfl : b1 = false := Option.some.inj h0
   refine ⟨[],[],rfl,rfl,?_⟩
   simp only [List.nil_append,List.cons_append]
   try simp only [A1,ua,ub,uc,ud,ue,RR]
   exact ih b0 true b2 b5 b8 b9
  ·intro h0 hw
   obtain rfl : b2 = false := Option.some.inj h0
   refine ⟨[],[],rfl,rfl,?_⟩
   simp only [List.nil_append,List.cons_append]
   try simp only [A1,ua,ub,uc,ud,ue,RR]
   exact ih b0 b1 true b5 b8 b9
  ·intro h; cases h
  ·intro h; cases h
  ·intro h0 hw
   obtain rfl : b5 = false := Option.some.inj h0
   refine ⟨[],[],rfl,rfl,?_⟩
   simp only [List.nil_append,List.cons_append]
   try simp only [A1,ua,ub,uc,ud,ue,RR]
   exact ih b0 b1 b2 true b8 b9
  ·intro h0 hw
   obtain rfl : b5 = true := Option.some.inj (hw 5 (by simp))
   refine ⟨[],[],rfl,rfl,?_⟩
   simp only [List.nil_append,List.cons_append]
   try simp only [A1,ua,ub,uc,ud,ue,RR]
   refine E8 (es := List.map rI ([v6] : List Int)) rfl (by simp only [St.fresh,List.all_cons,List.all_nil,A1h]; simp [AV.cells,V1.cells,AC.uses]) ?_
   try simp only [A1,ua,ub,uc,ud,ue,RR]
   exact C8r rec_ h_rec a1 a2 a3 v6 r11 a0 y7 v8 r18 r20 hr18 hg19 hr20 _ b0 b1 b2 b8 b9
  ·intro _ hw; have := hw 6 (by simp); cases this
  ·intro h0 hw
   obtain rfl : b8 = false := Option.some.inj h0
   refine ⟨[],[],rfl,rfl,?_⟩
   simp only [List.nil_append,List.cons_append]
   try simp only [A1,ua,ub,uc,ud,ue,RR]
   exact ih b0 b1 b2 b5 true b9
  ·intro h0 hw
   obtain rfl : b9 = false := Option.some.inj h0
   refine ⟨[],[],rfl,rfl,?_⟩
   simp only [List.nil_append,List.cons_append]
   try simp only [A1,ua,ub,uc,ud,ue,RR]
   exact ih b0 b1 b2 b5 b8 true
  ·intro _ hw; have := hw 7 (by simp); cases this
theorem D73 (rec_ : XChart → Int → Int → (List Int) → X_8_bool → (List (List Int)) → Option (List (List Int))) (h_rec : ∀ (a0 : XChart) (a1 : Int) (a2 : Int) (a3 : List Int) (a4 : X_8_bool) (a5 : List (List Int)) zr,rec_ a0 a1 a2 a3 a4 a5 = some zr → FCz Try.prog 65 [.d (.ag (XChart.row a0)),.d (.sc (.int .i64 a1)),.d (.sc (.int .i64 a2)),.d (.sc (.sl (List.map rI a3))),.d (.ag (X_8_bool.row a4)),.p] [.r 0] [(1,List.map (rL rI) a5)] [.r 0] [(1,List.map (rL rI) zr)] []) (a1 : Int) (a2 : Int) (a3 : List Int) (v6 : Int) (r11 : Int) (a0 : XChart) (y7 : X_8_bool) (v8 : List (List Int)) (r18 : (List Int)) (r20 : (List (List Int))) (hr18 : C8 a3 = some r18) (hg19 : (E1 r18.length ([v6] : List Int).length 8) = true) (hr20 : rec_ a0 r11 a2 (r18 ++ ([v6] : List Int)) y7 v8 = some r20) : ∀ (f : Nat) (b0 : Bool) (b1 : Bool) (b2 : Bool) (b3 : Bool) (b8 : Bool) (b9 : Bool),F2 Try.prog F6 ⟨[(1,vc (aI a1)),(2,vc (aI a2)),(3,vc (aL (List.map rI a3))),(5,vc (.pb 1099511627776 0)),(6,vc (.pb 6 0)),(10,vc (.pb 10 0)),(12,vc (aI v6)),(14,vc (aI r11)),(30,vc (aL (List.map XSegment.row a0.Segments))),(31,vc (aI (a0.Segments.length : Int))),(32,vc (aI v6)),(48,va [aL (List.map XPoint.row a0.Points),aL (List.map XSegment.row a0.Segments)]),(49,vc (aI r11)),(50,vc (aI a2)),(51,vc (aL (List.map rI a3))),(52,vc (.undef)),(53,vc (aI v6)),(54,vc (.own 3456)),(55,vc (aL (List.map rI (r18 ++ ([v6] : List Int))))),(56,va [aB y7.i0,aB y7.i1,aB y7.i2,aB y7.i3,aB y7.i4,aB y7.i5,aB y7.i6,aB y7.i7]),(57,vc (.pb 1099511627776 0)),(58,.tup [])],[(1099511627776,[.own 32000000000]),(6,[aL (List.map XPoint.row a0.Points),aL (List.map XSegment.row a0.Segments)]),(10,[aB y7.i0,aB y7.i1,aB y7.i2,aB y7.i3,aB y7.i4,aB y7.i5,aB y7.i6,aB y7.i7])],[(32000000000,1,List.map (rL rI) r20),(3456,1,List.map rI ([v6] : List Int))]⟩ f [b0,b1,b2,b3,false,true,true,false,b8,b9,false] ⟨[(1,vc (aI a1)),(2,vc (aI a2)),(3,vc (aL (List.map rI a3))),(5,vc (.pb 1099511627776 0)),(6,vc (.pb 6 0)),(10,vc (.pb 10 0)),(12,vc (aI v6)),(14,vc (aI r11)),(30,vc (aL (List.map XSegment.row a0.Segments))),(31,vc (aI (a0.Segments.length : Int))),(32,vc (aI v6)),(48,bif b0 then va [aL (List.map XPoint.row a0.Points),aL (List.map XSegment.row a0.Segments)] else .undef),(49,bif b1 then vc (aI r11) else .undef),(50,bif b2 then vc (aI a2) else .undef),(51,bif b3 then vc (aL (List.map rI a3)) else .undef),(52,.undef),(53,vc (aI v6)),(54,vc (.own 3456)),(55,.undef),(56,bif b8 then va [aB y7.i0,aB y7.i1,aB y7.i2,aB y7.i3,aB y7.i4,aB y7.i5,aB y7.i6,aB y7.i7] else .undef),(57,bif b9 then vc (.pb 1099511627776 0) else .undef),(58,.undef)],[(1099511627776,[.own 32000000000]),(6,[aL (List.map XPoint.row a0.Points),aL (List.map XSegment.row a0.Segments)]),(10,[aB y7.i0,aB y7.i1,aB y7.i2,aB y7.i3,aB y7.i4,aB y7.i5,aB y7.i6,aB y7.i7])],[(32000000000,1,List.map (rL rI) v8),(3456,1,List.map rI ([v6] : List Int))]⟩ := by
 intro f
 induction f with
 | zero => intro b0 b1 b2 b3 b8 b9 h; simp at h
 | succ f ih =>
  intro b0 b1 b2 b3 b8 b9
  refine C3 ⟨?_,?_,?_,?_,?_,?_,?_,?_,?_,?_,?_,trivial⟩
  ·intro h0 hw
   obtain rfl : b0 = false := Option.some.inj h0
   refine ⟨[],[],rfl,rfl,?_⟩
   simp only [List.nil_append,List.cons_append]
   try simp only [A1,ua,ub,uc,ud,ue,RR]
   exact ih true b1 b2 b3 b8 b9
  ·intro h0 hw
   obtain rfl : b1 = false := Option.some.inj h0
   refine ⟨[],[],rfl,rfl,?_⟩
   simp only [List.nil_append,List.cons_append]
   try simp only [A1,ua,ub,uc,ud,ue,RR]
   exact ih b0 true b2 b3 b8 b9
  ·intro h0 hw
   obtain rfl : b2 = false := Option.some.inj h0
   refine ⟨[],[],rfl,rfl,?_⟩
   simp only [List.nil_append,List.cons_append]
   try simp only [A1,ua,ub,uc,ud,ue,RR]
   exact ih b0 b1 true b3 b8 b9
  ·intro h0 hw
   obtain rfl : b3 = false := Option.some.inj h0
   refine ⟨[],[],rfl,rfl,?_⟩
   simp only [List.nil_append,List.cons_append]
   try simp only [A1,ua,ub,uc,ud,ue,RR]
   exact ih b0 b1 b2 true b8 b9
  ·intro h0 hw
   obtain rfl : b3 = true := Option.some.inj (hw 3 (by simp))
   refine ⟨[],[(none,.keep [1,2,3,5,6,10,12,14,30,31,32,48,49,50,51,52,53,54,55,56,57,58] [1099511627776,6,10] [32000000000,3328,3456])],rfl,rfl,?_⟩
   simp only [List.nil_append,List.cons_append]
   try simp only [A1,ua,ub,uc,ud,ue,RR]
   refine A6 (A2q _ _ hr18) rfl (by simp only [St.fresh,List.all_cons,List.all_nil,A1h]; simp [AV.cells,V1.cells,AC.uses]) (uf rfl) ?_
   try simp only [A1,ua,ub,uc,ud,ue,RR]
   exact C8r rec_ h_rec a1 a2 a3 v6 r11 a0 y7 v8 r18 r20 hr18 hg19 hr20 _ b0 b1 b2 b8 b9
  ·intro h; cases h
  ·intro h; cases h
  ·intro _ hw; have := hw 4 (by simp); cases this
  ·intro h0 hw
   obtain rfl : b8 = false := Option.some.inj h0
   refine ⟨[],[],rfl,rfl,?_⟩
   simp only [List.nil_append,List.cons_append]
   try simp only [A1,ua,ub,uc,ud,ue,RR]
   exact ih b0 b1 b2 b3 true b9
  ·intro h0 hw
   obtain rfl : b9 = false := Option.some.inj h0
   refine ⟨[],[],rfl,rfl,?_⟩
   simp only [List.nil_append,List.cons_append]
   try simp only [A1,ua,ub,uc,ud,ue,RR]
   exact ih b0 b1 b2 b3 b8 true
  ·intro _ hw; have := hw 7 (by simp); cases this
theorem D9i (rec_ : XChart → Int → Int → (List Int) → X_8_bool → (List (List Int)) → Option (List (List Int))) (h_rec : ∀ (a0 : XChart) (a1 : Int) (a2 : Int) (a3 : List Int) (a4 : X_8_bool) (a5 : List (List Int)) zr,rec_ a0 a1 a2 a3 a4 a5 = some zr → FCz Try.prog 65 [.d (.ag (XChart.row a0)),.d (.sc (.int .i64 a1)),.d (.sc (.int .i64 a2)),.d (.sc (.sl (List.map rI a3))),.d (.ag (X_8_bool.row a4)),.p] [.r 0] [(1,List.map (rL rI) a5)] [.r 0] [(1,List.map (rL rI) zr)] []) (a1 : Int) (a2 : Int) (a3 : List Int) (v6 : Int) (r11 : Int) (a0 : XChart) (y7 : X_8_bool) (v8 : List (List Int)) (r18 : (List Int)) (r20 : (List (List Int))) (hr18 : C8 a3 = some r18) (hg19 : (E1 r18.length ([v6] : List Int).length 8) = true) (hr20 : rec_ a0 r11 a2 (r18 ++ ([v6] : List Int)) y7 v8 = some r20) : ∀ (f : Nat) (b0 : Bool) (b1 : Bool) (b2 : Bool) (b3 : Bool) (b5 : Bool) (b8 : Bool) (b9 : Bool),F2 Try.prog F6 ⟨[(1,vc (aI a1)),(2,vc (aI a2)),(3,vc (aL (List.map rI a3))),(5,vc (.pb 1099511627776 0)),(6,vc (.pb 6 0)),(10,vc (.pb 10 0)),(12,vc (aI v6)),(14,vc (aI r11)),(30,vc (aL (List.map XSegment.row a0.Segments))),(31,vc (aI (a0.Segments.length : Int))),(32,vc (aI v6)),(48,va [aL (List.map XPoint.row a0.Points),aL (List.map XSegment.row a0.Segments)]),(49,vc (aI r11)),(50,vc (aI a2)),(51,vc (aL (List.map rI a3))),(52,vc (.undef)),(53,vc (aI v6)),(54,vc (.own 3456)),(55,vc (aL (List.map rI (r18 ++ ([v6] : List Int))))),(56,va [aB y7.i0,aB y7.i1,aB y7.i2,aB y7.i3,aB y7.i4,aB y7.i5,aB y7.i6,aB y7.i7]),(57,vc (.pb 1099511627776 0)),(58,.tup [])],[(1099511627776,[.own 32000000000]),(6,[aL (List.map XPoint.row a0.Points),aL (List.map XSegment.row a0.Segments)]),(10,[aB y7.i0,aB y7.i1,aB y7.i2,aB y7.i3,aB y7.i4,aB y7.i5,aB y7.i6,aB y7.i7])],[(32000000000,1,List.map (rL rI) r20),(3456,1,List.map rI ([v6] : List Int))]⟩ f [b0,b1,b2,b3,false,b5,false,false,b8,b9,false] ⟨[(1,vc (aI a1)),(2,vc (aI a2)),(3,vc (aL (List.map rI a3))),(5,vc (.pb 1099511627776 0)),(6,vc (.pb 6 0)),(10,vc (.pb 10 0)),(12,vc (aI v6)),(14,vc (aI r11)),(30,vc (aL (List.map XSegment.row a0.Segments))),(31,vc (aI (a0.Segments.length : Int))),(32,vc (aI v6)),(48,bif b0 then va [aL (List.map XPoint.row a0.Points),aL (List.map XSegment.row a0.Segments)] else .undef),(49,bif b1 then vc (aI r11) else .undef),(50,bif b2 then vc (aI a2) else .undef),(51,bif b3 then vc (aL (List.map rI a3)) else .undef),(52,.undef),(53,bif b5 then vc (aI v6) else .undef),(54,.undef),(55,.undef),(56,bif b8 then va [aB y7.i0,aB y7.i1,aB y7.i2,aB y7.i3,aB y7.i4,aB y7.i5,aB y7.i6,aB y7.i7] else .undef),(57,bif b9 then vc (.pb 1099511627776 0) else .undef),(58,.undef)],[(1099511627776,[.own 32000000000]),(6,[aL (List.map XPoint.row a0.Points),aL (List.map XSegment.row a0.Segments)]),(10,[aB y7.i0,aB y7.i1,aB y7.i2,aB y7.i3,aB y7.i4,aB y7.i5,aB y7.i6,aB y7.i7])],[(32000000000,1,List.map (rL rI) v8)]⟩ := by
 intro f
 induction f with
 | zero => intro b0 b1 b2 b3 b5 b8 b9 h; simp at h
 | succ f ih =>
  intro b0 b1 b2 b3 b5 b8 b9
  refine C3 ⟨?_,?_,?_,?_,?_,?_,?_,?_,?_,?_,?_,trivial⟩
  ·intro h0 hw
   obtain rfl : b0 = false := Option.some.inj h0
   refine ⟨[],[],rfl,rfl,?_⟩
   simp only [List.nil_append,List.cons_append]
   try simp only [A1,ua,ub,uc,ud,ue,RR]
   exact ih true b1 b2 b3 b5 b8 b9
  ·intro h0 hw
   obtain rfl : b1 = false := Option.some.inj h0
   refine ⟨[],[],rfl,rfl,?_⟩
   simp only [List.nil_append,List.cons_append]
   try simp only [A1,ua,ub,uc,ud,ue,RR]
   exact ih b0 true b2 b3 b5 b8 b9
  ·intro h0 hw
   obtain rfl : b2 = false := Option.some.inj h0
   refine ⟨[],[],rfl,rfl,?_⟩
   simp only [List.nil_append,List.cons_append]
   try simp only [A1,ua,ub,uc,ud,ue,RR]
   exact ih b0 b1 true b3 b5 b8 b9
  ·intro h0 hw
   obtain rfl : b3 = false := Option.some.inj h0
   refine ⟨[],[],rfl,rfl,?_⟩
   simp only [List.nil_append,List.cons_append]
   try simp only [A1,ua,ub,uc,ud,ue,RR]
   exact ih b0 b1 b2 true b5 b8 b9
  ·intro h0 hw
   obtain rfl : b3 = true := Option.some.inj (hw 3 (by simp))
   refine ⟨[],[],rfl,rfl,?_⟩
   simp only [List.nil_append,List.cons_append]
   try simp only [A1,ua,ub,uc,ud,ue,RR]
   refine A6 (A2q _ _ hr18) rfl (by simp only [St.fresh,List.all_cons,List.all_nil,A1h]; simp [AV.cells,V1.cells,AC.uses]) (uf rfl) ?_
   try simp only [A1,ua,ub,uc,ud,ue,RR]
   exact D9z rec_ h_rec a1 a2 a3 v6 r11 a0 y7 v8 r18 r20 hr18 hg19 hr20 _ b0 b1 b2 b5 b8 b9
  ·intro h0 hw
   obtain rfl : b5 = false := Option.some.inj h0
   refine ⟨[],[],rfl,rfl,?_⟩
   simp only [List.nil_append,List.cons_append]
   try simp only [A1,ua,ub,uc,ud,ue,RR]
   exact ih b0 b1 b2 b3 true b8 b9
  ·intro h0 hw
   obtain rfl : b5 = true := Option.some.inj (hw 5 (by simp))
   refine ⟨[],[],rfl,rfl,?_⟩
   simp only [List.nil_append,List.cons_append]
   try simp only [A1,ua,ub,uc,ud,ue,RR]
   refine E8 (es := List.map rI ([v6] : List Int)) rfl (by simp only [St.fresh,List.all_cons,List.all_nil,A1h]; simp [AV.cells,V1.cells,AC.uses]) ?_
   try simp only [A1,ua,ub,uc,ud,ue,RR]
   exact D73 rec_ h_rec a1 a2 a3 v6 r11 a0 y7 v8 r18 r20 hr18 hg19 hr20 _ b0 b1 b2 b3 b8 b9
  ·intro _ hw; have := hw 4 (by simp); cases this
  ·intro h0 hw
   obtain rfl : b8 = false := Option.some.inj h0
   refine ⟨[],[],rfl,rfl,?_⟩
   simp only [List.nil_append,List.cons_append]
   try simp only [A1,ua,ub,uc,ud,ue,RR]
   exact ih b0 b1 b2 b3 b5 true b9
  ·intro h0 hw
   obtain rfl : b9 = false := Option.some.inj h0
   refine ⟨[],[],rfl,rfl,?_⟩
   simp only [List.nil_append,List.cons_append]
   try simp only [A1,ua,ub,uc,ud,ue,RR]
   exact ih b0 b1 b2 b3 b5 b8 true
  ·intro _ hw; have := hw 7 (by simp); cases this
theorem C8s (rec_ : XChart → Int → Int → (List Int) → X_8_bool → (List (List Int)) → Option (List (List Int))) (h_rec : ∀ (a0 : XChart) (a1 : Int) (a2 : Int) (a3 : List Int) (a4 : X_8_bool) (a5 : List (List Int)) zr,rec_ a0 a1 a2 a3 a4 a5 = some zr → FCz Try.prog 65 [.d (.ag (XChart.row a0)),.d (.sc (.int .i64 a1)),.d (.sc (.int .i64 a2)),.d (.sc (.sl (List.map rI a3))),.d (.ag (X_8_bool.row a4)),.p] [.r 0] [(1,List.map (rL rI) a5)] [.r 0] [(1,List.map (rL rI) zr)] []) (a1 : Int) (a2 : Int) (a3 : List Int) (v6 : Int) (r11 : Int) (a0 : XChart) (y7 : X_8_bool) (v8 : List (List Int)) (k_impl_Chart_routesFrom_1 : Int → (List (List Int)) → Option (List (List Int))) (hk_impl_Chart_routesFrom_1 : ∀ (v6 : Int) (v8 : List (List Int)) zr,k_impl_Chart_routesFrom_1 v6 v8 = some zr → ∀ σ : St,σ.kept [1,2,3,5,6,10,30,31,32] [1099511627776,6,10] [32000000000] = ⟨[(1,vc (aI a1)),(2,vc (aI a2)),(3,vc (aL (List.map rI a3))),(5,vc (.pb 1099511627776 0)),(6,vc (.pb 6 0)),(10,vc (.pb 10 0)),(30,vc (aL (List.map XSegment.row a0.Segments))),(31,vc (aI (a0.Segments.length : Int))),(32,vc (aI v6))],[(1099511627776,[.own 32000000000]),(6,[aL (List.map XPoint.row a0.Points),aL (List.map XSegment.row a0.Segments)]),(10,[aB y7.i0,aB y7.i1,aB y7.i2,aB y7.i3,aB y7.i4,aB y7.i5,aB y7.i6,aB y7.i7])],[(32000000000,1,List.map (rL rI) v8)]⟩ → go Try.prog (.code (.loop A8z) :: [.blk 0]) (B7f [] [] [.r 0] [(1,List.map (rL rI) zr)]) .normal (some σ)) (v16 : Bool) (r : (List (List Int))) (h : F7 rec_ a1 a2 a3 v6 r11 a0 y7 v8 k_impl_Chart_routesFrom_1 v16 = some r) (σ : St) (hσ : σ.kept [1,2,3,5,6,10,12,14,30,31,32,47] [1099511627776,6,10] [32000000000] = ⟨[(1,vc (aI a1)),(2,vc (aI a2)),(3,vc (aL (List.map rI a3))),(5,vc (.pb 1099511627776 0)),(6,vc (.pb 6 0)),(10,vc (.pb 10 0)),(12,vc (aI v6)),(14,vc (aI r11)),(30,vc (aL (List.map XSegment.row a0.Segments))),(31,vc (aI (a0.Segments.length : Int))),(32,vc (aI v6)),(47,vc (aB v16))],[(1099511627776,[.own 32000000000]),(6,[aL (List.map XPoint.row a0.Points),aL (List.map XSegment.row a0.Segments)]),(10,[aB y7.i0,aB y7.i1,aB y7.i2,aB y7.i3,aB y7.i4,aB y7.i5,aB y7.i6,aB y7.i7])],[(32000000000,1,List.map (rL rI) v8)]⟩) : go Try.prog (.code B5v :: [.blk 1,.code B5i,.code (.loop A8z),.blk 0]) (B7f [] [] [.r 0] [(1,List.map (rL rI) r)]) .normal (some σ) := by
 unfold F7 at h
 rcases ug v16 with hb17 | hb17
 ·rw [A4 hb17] at h
  try simp only [hσ,hb17,B5v,ua,ub,uc,ud,ue,RR]
  obtain ⟨r18,hr18,h⟩ := ob h
  obtain ⟨hg19,h⟩ := E3 h
  obtain ⟨r20,hr20,h⟩ := ob h
  refine A3a (ks := [1,2,3,5,6,10,12,14,30,31,32]) (bs := [1099511627776,6,10]) (rs := [32000000000]) (τ := ⟨[(1,vc (aI a1)),(2,vc (aI a2)),(3,vc (aL (List.map rI a3))),(5,vc (.pb 1099511627776 0)),(6,vc (.pb 6 0)),(10,vc (.pb 10 0)),(12,vc (aI v6)),(14,vc (aI r11)),(30,vc (aL (List.map XSegment.row a0.Segments))),(31,vc (aI (a0.Segments.length : Int))),(32,vc (aI v6)),(48,va [aL (List.map XPoint.row a0.Points),aL (List.map XSegment.row a0.Segments)]),(49,vc (aI r11)),(50,vc (aI a2)),(51,vc (aL (List.map rI a3))),(52,vc (.undef)),(53,vc (aI v6)),(54,vc (.own 3456)),(55,vc (aL (List.map rI (r18 ++ ([v6] : List Int))))),(56,va [aB y7.i0,aB y7.i1,aB y7.i2,aB y7.i3,aB y7.i4,aB y7.i5,aB y7.i6,aB y7.i7]),(57,vc (.pb 1099511627776 0)),(58,.tup [])],[(1099511627776,[.own 32000000000]),(6,[aL (List.map XPoint.row a0.Points),aL (List.map XSegment.row a0.Segments)]),(10,[aB y7.i0,aB y7.i1,aB y7.i2,aB y7.i3,aB y7.i4,aB y7.i5,aB y7.i6,aB y7.i7])],[(32000000000,1,List.map (rL rI) r20),(3456,1,List.map rI ([v6] : List Int))]⟩) rfl (D9i rec_ h_rec a1 a2 a3 v6 r11 a0 y7 v8 r18 r20 hr18 hg19 hr20 _ false false false false false false false) ?_
  try simp only [hb17,hg19,B5i,ua,ub,uc,ud,ue,RR]
  refine hk_impl_Chart_routesFrom_1 _ _ _ h _ ?_
  try simp only [hb17,hg19,ua,ub,uc,ud,ue,RR,List.map_nil]
 ·rw [A3 hb17] at h
  try simp only [hσ,hb17,B5v,B5i,ua,ub,uc,ud,ue,RR]
  refine hk_impl_Chart_routesFrom_1 _ _ _ h _ ?_
  try simp only [hb17,ua,ub,uc,ud,ue,RR,List.map_nil]
theorem E09 (rec_ : XChart → Int → Int → (List Int) → X_8_bool → (List (List Int)) → Option (List (List Int))) (h_rec : ∀ (a0 : XChart) (a1 : Int) (a2 : Int) (a3 : List Int) (a4 : X_8_bool) (a5 : List (List Int)) zr,rec_ a0 a1 a2 a3 a4 a5 = some zr → FCz Try.prog 65 [.d (.ag (XChart.row a0)),.d (.sc (.int .i64 a1)),.d (.sc (.int .i64 a2)),.d (.sc (.sl (List.map rI a3))),.d (.ag (X_8_bool.row a4)),.p] [.r 0] [(1,List.map (rL rI) a5)] [.r 0] [(1,List.map (rL rI) zr)] []) (a1 : Int) (a2 : Int) (a3 : List Int) (a0 : XChart) (y7 : X_8_bool) : ∀ (n : Nat) (v6 : Int) (v8 : List (List Int)) (r : (List (List Int))),C6 rec_ a1 a2 a3 a0 y7 n v6 v8 = some r → ∀ σ : St,σ.kept [1,2,3,5,6,10,30,31,32] [1099511627776,6,10] [32000000000] = ⟨[(1,vc (aI a1)),(2,vc (aI a2)),(3,vc (aL (List.map rI a3))),(5,vc (.pb 1099511627776 0)),(6,vc (.pb 6 0)),(10,vc (.pb 10 0)),(30,vc (aL (List.map XSegment.row a0.Segments))),(31,vc (aI (a0.Segments.length : Int))),(32,vc (aI v6))],[(1099511627776,[.own 32000000000]),(6,[aL (List.map XPoint.row a0.Points),aL (List.map XSegment.row a0.Segments)]),(10,[aB y7.i0,aB y7.i1,aB y7.i2,aB y7.i3,aB y7.i4,aB y7.i5,aB y7.i6,aB y7.i7])],[(32000000000,1,List.map (rL rI) v8)]⟩ → go Try.prog (.code (.loop A8z) :: [.blk 0]) (B7f [] [] [.r 0] [(1,List.map (rL rI) r)]) .normal (some σ) := by
 intro n
 induction n with
 | zero => intro _ _ r h; cases h
 | succ n ih =>
  intro v6 v8 r h σ hσ
  rw [C6] at h
  refine B8 ?_
  rcases ug (decide (v6 < (a0.Segments.length : Int))) with hb9 | hb9
  ·rw [A4 hb9] at h
   obtain ⟨x10,hx10,h⟩ := ob h
   try simp only [hσ,hb9,hx10,A8z,ua,ub,uc,ud,ue,RR]
   refine D2 rfl rfl ?_
   obtain ⟨r11,hr11,h⟩ := ob h
   try simp only [hb9,hx10,ua,ub,uc,ud,ue,RR]
   refine A6 (A33 _ _ _ hr11) rfl rfl (uf rfl) ?_
   rcases ug (decide ((0 : Int) ≤ r11)) with hb12 | hb12
   ·rw [A4 hb12] at h
    obtain ⟨hg13,h⟩ := E3 h
    try simp only [hb9,hx10,hb12,ua,ub,uc,ud,ue,RR]
    refine B1b rfl rfl hg13 ?_
    obtain ⟨x14,hx14,h⟩ := ob h
    have hx14n := Z7 hx14
    have hA15 : ([aB y7.i0,aB y7.i1,aB y7.i2,aB y7.i3,aB y7.i4,aB y7.i5,aB y7.i6,aB y7.i7] : List AC)[Int.toNat r11]? = some (aB x14) := B8t hx14n
    try simp only [hb9,hx10,hb12,hA15,ua,ub,uc,ud,ue,RR]
    refine C8s rec_ h_rec _ _ _ _ _ _ _ _ (C6 rec_ a1 a2 a3 a0 y7 n) ih _ _ h _ ?_
    try simp only [hb9,hx10,hb12,hA15,ua,ub,uc,ud,ue,RR,List.map_nil]
   ·rw [A3 hb12] at h
    try simp only [hb9,hx10,hb12,ua,ub,uc,ud,ue,RR]
    refine C8s rec_ h_rec _ _ _ _ _ _ _ _ (C6 rec_ a1 a2 a3 a0 y7 n) ih _ _ h _ ?_
    try simp only [hb9,hx10,hb12,ua,ub,uc,ud,ue,RR,List.map_nil]
  ·rw [A3 hb9] at h
   try simp only [hσ,hb9,A8z,ua,ub,uc,ud,ue,RR]
   cases h
   exact ⟨trivial,[32000000000],by decide,by decide,rfl,rfl⟩
theorem E1d : A9 Try.prog 65 = some (cc176.strip,[],60) := by kernel_rfl
theorem A4y (rec_ : XChart → Int → Int → (List Int) → X_8_bool → (List (List Int)) → Option (List (List Int))) (a0 : XChart) (a1 : Int) (a2 : Int) (a3 : List Int) (a4 : X_8_bool) (a5 : List (List Int)) (r : (List (List Int))) (h_rec : ∀ (a0 : XChart) (a1 : Int) (a2 : Int) (a3 : List Int) (a4 : X_8_bool) (a5 : List (List Int)) zr,rec_ a0 a1 a2 a3 a4 a5 = some zr → FCz Try.prog 65 [.d (.ag (XChart.row a0)),.d (.sc (.int .i64 a1)),.d (.sc (.int .i64 a2)),.d (.sc (.sl (List.map rI a3))),.d (.ag (X_8_bool.row a4)),.p] [.r 0] [(1,List.map (rL rI) a5)] [.r 0] [(1,List.map (rL rI) zr)] []) (h : P0 rec_ a0 a1 a2 a3 a4 a5 = some r) : FCz Try.prog 65 [.d (.ag (XChart.row a0)),.d (.sc (.int .i64 a1)),.d (.sc (.int .i64 a2)),.d (.sc (.sl (List.map rI a3))),.d (.ag (X_8_bool.row a4)),.p] [.r 0] [(1,List.map (rL rI) a5)] [.r 0] [(1,List.map (rL rI) r)] [] := by
 unfold P0 at h
 refine D5a (σ := ⟨[(0,va [aL (List.map XPoint.row a0.Points),aL (List.map XSegment.row a0.Segments)]),(1,vc (aI a1)),(2,vc (aI a2)),(3,vc (aL (List.map rI a3))),(4,va [aB a4.i0,aB a4.i1,aB a4.i2,aB a4.i3,aB a4.i4,aB a4.i5,aB a4.i6,aB a4.i7]),(5,vc (.pb 1099511627776 0))],[(1099511627776,[.own 32000000000])],[(32000000000,1,List.map (rL rI) a5)]⟩) B3 E1d rfl rfl rfl rfl ?_
 simp only [cc176]
 try simp only [ua,ub,uc,ud,ue,RR]
 refine B5 rfl rfl rfl ?_
 try simp only [ua,ub,uc,ud,ue,RR]
 refine B5 rfl rfl rfl ?_
 rcases ug (a1 == a2) with hb1 | hb1
 ·rw [A4 hb1] at h
  try simp only [hb1,ua,ub,uc,ud,ue,RR]
  obtain ⟨r2,hr2,h⟩ := ob h
  obtain ⟨hg3,h⟩ := E3 h
  refine A3a (ks := [3,5]) (bs := [1099511627776]) (rs := [32000000000]) (τ := ⟨[(3,vc (aL (List.map rI a3))),(5,vc (.pb 1099511627776 0)),(18,vc (.pb 1099511627776 0)),(19,vc (.pb 1099511627776 0)),(20,vc (.pb 1099511627776 0)),(21,vc (.undef)),(22,vc (aL (List.map rI a3))),(23,vc (aL (List.map rI r2))),(24,vc (.own 1536)),(25,vc (.own 32000000000)),(26,vc (.pb 1099511627776 0))],[(1099511627776,[.own 32000000000])],[(32000000000,1,List.map (rL rI) (a5 ++ ([r2] : List (List Int)))),(1536,1,List.map (rL rI) ([r2] : List (List Int)))]⟩) rfl (D62 rec_ h_rec a3 a5 r2 hr2 hg3 _ false false false false false) ?_
  try simp only [hb1,hg3,ua,ub,uc,ud,ue,RR]
  cases h
  exact ⟨trivial,[32000000000],by decide,by decide,rfl,rfl⟩
 ·rw [A3 hb1] at h
  obtain ⟨hg4,h⟩ := E3 h
  try simp only [hb1,ua,ub,uc,ud,ue,RR]
  refine B1b rfl rfl hg4 ?_
  have hA5 : W2 [aB a4.i0,aB a4.i1,aB a4.i2,aB a4.i3,aB a4.i4,aB a4.i5,aB a4.i6,aB a4.i7] (Int.toNat a1) [aB true] = [aB ((X_8_bool.set a4 (Int.toNat a1) true)).i0,aB ((X_8_bool.set a4 (Int.toNat a1) true)).i1,aB ((X_8_bool.set a4 (Int.toNat a1) true)).i2,aB ((X_8_bool.set a4 (Int.toNat a1) true)).i3,aB ((X_8_bool.set a4 (Int.toNat a1) true)).i4,aB ((X_8_bool.set a4 (Int.toNat a1) true)).i5,aB ((X_8_bool.set a4 (Int.toNat a1) true)).i6,aB ((X_8_bool.set a4 (Int.toNat a1) true)).i7] := X_8_bool.set_eq a4 (A3c hg4)
  have hA5g : U4 [aB a4.i0,aB a4.i1,aB a4.i2,aB a4.i3,aB a4.i4,aB a4.i5,aB a4.i6,aB a4.i7] (Int.toNat a1 + 1) = true := B58 (A3c hg4)
  have hA5h : U4 [aB a4.i1,aB a4.i2,aB a4.i3,aB a4.i4,aB a4.i5,aB a4.i6,aB a4.i7] (Int.toNat a1) = true := B2z (c := aB a4.i0) (A3c hg4)
  try simp only [hb1,hA5,hA5g,hA5h,ua,ub,uc,ud,ue,RR]
  refine E09 rec_ h_rec _ _ _ _ _ _ _ _ _ h _ ?_
  try simp only [hb1,hA5,hA5g,hA5h,ua,ub,uc,ud,ue,RR,List.map_nil]
theorem A4v : ∀ (n : Nat) (a0 : XChart) (a1 : Int) (a2 : Int) (a3 : List Int) (a4 : X_8_bool) (a5 : List (List Int)) (r : (List (List Int))),E0 n a0 a1 a2 a3 a4 a5 = some r → FCz Try.prog 65 [.d (.ag (XChart.row a0)),.d (.sc (.int .i64 a1)),.d (.sc (.int .i64 a2)),.d (.sc (.sl (List.map rI a3))),.d (.ag (X_8_bool.row a4)),.p] [.r 0] [(1,List.map (rL rI) a5)] [.r 0] [(1,List.map (rL rI) r)] [] := by
 intro n
 induction n with
 | zero => intro _ _ _ _ _ _ r h; cases h
 | succ n ih => intro a0 a1 a2 a3 a4 a5 r h; rw [E0] at h; exact A4y (E0 n) a0 a1 a2 a3 a4 a5 r ih h
theorem A5p (a0 : XChart) (a1 : Int) (a2 : Int) (a3 : List Int) (a4 : X_8_bool) (a5 : List (List Int)) (r : (List (List Int))) (h : Y7 a0 a1 a2 a3 a4 a5 = some r) : FCz Try.prog 65 [.d (.ag (XChart.row a0)),.d (.sc (.int .i64 a1)),.d (.sc (.int .i64 a2)),.d (.sc (.sl (List.map rI a3))),.d (.ag (X_8_bool.row a4)),.p] [.r 0] [(1,List.map (rL rI) a5)] [.r 0] [(1,List.map (rL rI) r)] [] := A4v bigN a0 a1 a2 a3 a4 a5 r h
/- 40: impl_RoutesBetween -/
def cc191 : ACode := (.seq (.reg [(none,.box 3 (S 0)),(none,.mv 6 KN)]) (.seq (.seq (.reg [(none,.load 8 (S 3) true 2),(none,.call 9 47 [(S 8)]),(none,.un 10 .not (S 9)),mv 11 10,(some (11,false),.mv 12 (S 1)),(some (11,false),.faddr 13 (S 3) 0),(some (11,false),.load 14 (S 13) false 1),(some (11,false),.len 15 (S 14)),(some (11,false),.call 16 51 [(S 12),(S 15)]),(some (11,false),.un 17 .not (S 16)),(none,.pick 18 (S 11) (KB true) (S 17)),mv 19 18,(some (19,false),.mv 20 (S 2)),(some (19,false),.faddr 21 (S 3) 0),(some (19,false),.load 22 (S 21) false 1),(some (19,false),.len 23 (S 22)),(some (19,false),.call 24 51 [(S 20),(S 23)]),(some (19,false),.un 25 .not (S 24)),(none,.pick 26 (S 19) (KB true) (S 25))]) (.cond (S 26) (.seq (.reg [(none,.mv 6 KN)]) .ret) .skip)) (.seq (.reg [(none,.bslice 27 1 [.sl []] 0 []),(none,.alloc 7 [.nil]),(none,.store (S 7) (S 27) 1)]) (.seq (.cal [(none,.load 28 (S 3) true 2),mv 29 1,mv 30 2,(none,.build 31 [aB false,aB false,aB false,aB false,aB false,aB false,aB false,aB false] [])] 32 65 [(S 28),(S 29),(S 30),KN,(S 31),(S 7)]) (.seq (.reg [ld 33 7,mv 6 33]) .ret)))))
theorem D82 : A9 Try.prog 40 = some (cc191.strip,[6],34) := by kernel_rfl
theorem A6t (a0 : XChart) (a1 : Int) (a2 : Int) (r : (List (List Int))) (h : P2 a0 a1 a2 = some r) : FC Try.prog 40 [.ag (XChart.row a0),.sc (.int .i64 a1),.sc (.int .i64 a2)] [.sc (.o 1 (List.map (rL rI) r))] := by
 unfold P2 at h
 refine B9 (σ := ⟨[(0,va [aL (List.map XPoint.row a0.Points),aL (List.map XSegment.row a0.Segments)]),(1,vc (aI a1)),(2,vc (aI a2))],[],[]⟩) B3 D82 rfl rfl ?_
 simp only [cc191]
 try simp only [ua,ub,uc,ud,ue,RR]
 refine B5 rfl rfl rfl ?_
 obtain ⟨r1,hr1,h⟩ := ob h
 try simp only [ua,ub,uc,ud,ue,RR]
 refine A6 (S0 _ _ hr1) rfl rfl (uf rfl) ?_
 rcases ug r1 with hb2 | hb2
 ·rw [A4 hb2] at h
  obtain ⟨r3,hr3,h⟩ := ob h
  try simp only [hb2,ua,ub,uc,ud,ue,RR]
  refine A6 (F0 _ _ _ hr3) rfl rfl (uf rfl) ?_
  rcases ug r3 with hb4 | hb4
  ·rw [A4 hb4] at h
   obtain ⟨r5,hr5,h⟩ := ob h
   try simp only [hb2,hb4,ua,ub,uc,ud,ue,RR]
   refine A6 (F0 _ _ _ hr5) rfl rfl (uf rfl) ?_
   rcases ug r5 with hb6 | hb6
   ·rw [A4 hb6] at h
    try simp only [hb2,hb4,hb6,ua,ub,uc,ud,ue,RR]
    refine E8 (es := List.map (rL rI) ([] : List (List Int))) rfl rfl ?_
    try simp only [hb2,hb4,hb6,ua,ub,uc,ud,ue,RR]
    refine D2 rfl rfl ?_
    try simp only [hb2,hb4,hb6,ua,ub,uc,ud,ue,RR]
    refine B9c ?_
    obtain ⟨r7,hr7,h⟩ := ob h
    try simp only [hb2,hb4,hb6,ua,ub,uc,ud,ue,RR]
    refine B6k (A5p _ _ _ _ _ _ _ hr7) 7 [1728] rfl rfl rfl rfl (by decide) rfl rfl rfl ?_
    try simp only [hb2,hb4,hb6,ua,ub,uc,ud,ue,RR]
    cases h
    exact ⟨⟨rfl,trivial⟩,rfl⟩
   ·rw [A3 hb6] at h
    try simp only [hb2,hb4,hb6,ua,ub,uc,ud,ue,RR]
    cases h
    exact ⟨⟨rfl,trivial⟩,rfl⟩
  ·rw [A3 hb4] at h
   try simp only [hb2,hb4,ua,ub,uc,ud,ue,RR]
   cases h
   exact ⟨⟨rfl,trivial⟩,rfl⟩
 ·rw [A3 hb2] at h
  try simp only [hb2,ua,ub,uc,ud,ue,RR]
  cases h
  exact ⟨⟨rfl,trivial⟩,rfl⟩
/- 41: impl_RouteMinutes -/
def B5u : ACode := .seq (.reg [(none,.keep [2,5,11,12,13] [2] [])]) (.seq (.reg [bn 14 .lss 13 12]) (.seq (.cond (S 14) .skip (.exit 0)) (.seq (.block 1 (.seq (.reg [(none,.iaddr 15 (S 11) (S 13) 1),ld 16 15,mv 7 16]) (.seq (.seq (.reg [mv 17 7,fa 18 2 1,ld 19 18,(none,.len 20 (S 19)),(none,.call 21 51 [(S 17),(S 20)]),(none,.un 22 .not (S 21))]) (.cond (S 22) (.seq (.reg [(none,.mv 4 (K (-1)))]) .ret) .skip)) (.reg [mv 23 5,fa 24 2 1,ld 25 24,mv 26 7,(none,.iaddr 27 (S 25) (S 26) 5),fa 28 27 3,ld 29 28,bn 30 .add 23 29,mv 5 30])))) (.reg [(none,.bin 31 .add (S 13) (K 1)),mv 13 31]))))
def C19 : ACode := (.seq (.reg [mv 32 5,mv 4 32]) .ret)
def cc195 : ACode := (.seq (.reg [(none,.box 2 (S 0)),(none,.mv 4 (K 0))]) (.seq (.seq (.reg [(none,.load 8 (S 2) true 2),(none,.call 9 47 [(S 8)]),(none,.un 10 .not (S 9))]) (.cond (S 10) (.seq (.reg [(none,.mv 4 (K (-1)))]) .ret) .skip)) (.seq (.reg [(none,.mv 5 (K 0))]) (.seq (.seq (.reg [mv 11 1,(none,.len 12 (S 11)),(none,.mv 13 (K 0))]) (.block 0 (.loop B5u))) C19))))
theorem D8b (a1 : List Int) (a0 : XChart) : ∀ (n : Nat) (v3 : Int) (v4 : Int) (r : Int),H9 a1 a0 n v3 v4 = some r → ∀ σ : St,σ.kept [2,5,11,12,13] [2] [] = ⟨[(2,vc (.pb 2 0)),(5,vc (aI v3)),(11,vc (aL (List.map rI a1))),(12,vc (aI (a1.length : Int))),(13,vc (aI v4))],[(2,[aL (List.map XPoint.row a0.Points),aL (List.map XSegment.row a0.Segments)])],[]⟩ → go Try.prog (.code (.loop B5u) :: [.blk 0,.code C19]) (Ret [4] [.sc (.v (.int .i64 r))]) .normal (some σ) := by
 intro n
 induction n with
 | zero => intro _ _ r h; cases h
 | succ n ih =>
  intro v3 v4 r h σ hσ
  rw [H9] at h
  refine B8 ?_
  rcases ug (decide (v4 < (a1.length : Int))) with hb5 | hb5
  ·rw [A4 hb5] at h
   obtain ⟨x6,hx6,h⟩ := ob h
   obtain ⟨r7,hr7,h⟩ := ob h
   try simp only [hσ,hb5,hx6,B5u,ua,ub,uc,ud,ue,RR]
   refine A6 (F0 _ _ _ hr7) rfl rfl (uf rfl) ?_
   rcases ug r7 with hb8 | hb8
   ·rw [A4 hb8] at h
    obtain ⟨x9,hx9,h⟩ := ob h
    try simp only [hb5,hx6,hb8,hx9,ua,ub,uc,ud,ue,RR]
    refine ih _ _ _ h _ ?_
    try simp only [hb5,hx6,hb8,hx9,ua,ub,uc,ud,ue,RR,List.map_nil]
   ·rw [A3 hb8] at h
    try simp only [hb5,hx6,hb8,ua,ub,uc,ud,ue,RR]
    cases h
    exact ⟨⟨rfl,trivial⟩,rfl⟩
  ·rw [A3 hb5] at h
   try simp only [hσ,hb5,B5u,C19,ua,ub,uc,ud,ue,RR]
   cases h
   exact ⟨⟨rfl,trivial⟩,rfl⟩
theorem D9d : A9 Try.prog 41 = some (cc195.strip,[4],33) := by kernel_rfl
theorem A1l (a0 : XChart) (a1 : List Int) (r : Int) (h : K5 a0 a1 = some r) : FC Try.prog 41 [.ag (XChart.row a0),.sc (.sl (List.map rI a1))] [.sc (.v (.int .i64 r))] := by
 unfold K5 at h
 refine B9 (σ := ⟨[(0,va [aL (List.map XPoint.row a0.Points),aL (List.map XSegment.row a0.Segments)]),(1,vc (aL (List.map rI a1)))],[],[]⟩) B3 D9d rfl rfl ?_
 simp only [cc195]
 try simp only [ua,ub,uc,ud,ue,RR]
 refine B5 rfl rfl rfl ?_
 obtain ⟨r1,hr1,h⟩ := ob h
 try simp only [ua,ub,uc,ud,ue,RR]
 refine A6 (S0 _ _ hr1) rfl rfl (uf rfl) ?_
 rcases ug r1 with hb2 | hb2
 ·rw [A4 hb2] at h
  try simp only [hb2,ua,ub,uc,ud,ue,RR]
  refine D8b _ _ _ _ _ _ h _ ?_
  try simp only [hb2,ua,ub,uc,ud,ue,RR,List.map_nil]
 ·rw [A3 hb2] at h
  try simp only [hb2,ua,ub,uc,ud,ue,RR]
  cases h
  exact ⟨⟨rfl,trivial⟩,rfl⟩
/- 16: impl_BestRoute -/
def B43 : ACode := .seq (.reg [(none,.keep [3,9,22,23,24] [3] [960])]) (.seq (.reg [bn 25 .lss 24 23]) (.seq (.cond (S 25) .skip (.exit 0)) (.seq (.block 1 (.seq (.reg [(none,.iaddr 26 (S 22) (S 24) 1),ld 27 26,mv 11 27]) (.seq (.drw [(some [],(none,.load 28 (S 3) true 2)),(some [],mv 29 11),(some [],(none,.call 30 41 [(S 28),(S 29)])),(some [30],(none,.load 31 (S 3) true 2)),(some [30],mv 32 9),(some [],(none,.call 33 41 [(S 31),(S 32)])),(some [],bn 34 .lss 30 33)]) (.cond (S 34) (.reg [mv 35 11,mv 9 35]) .skip)))) (.reg [(none,.bin 36 .add (S 24) (K 1)),mv 24 36]))))
def C1o : ACode := (.seq (.reg [mv 37 9,mv 6 37,(none,.mv 7 (KB true))]) .ret)
def cc200 : ACode := (.seq (.reg [(none,.box 3 (S 0)),(none,.mv 6 KN),(none,.mv 7 (KB false))]) (.seq (.reg [(none,.load 12 (S 3) true 2),mv 13 1,mv 14 2,(none,.call 15 40 [(S 12),(S 13),(S 14)]),mv 8 15]) (.seq (.seq (.reg [mv 16 8,(none,.len 17 (S 16)),(none,.bin 18 .eql (S 17) (K 0))]) (.cond (S 18) (.seq (.reg [(none,.mv 6 KN),(none,.mv 7 (KB false))]) .ret) .skip)) (.seq (.reg [mv 19 8,(none,.iaddr 20 (S 19) (K 0) 1),ld 21 20,mv 9 21]) (.seq (.seq (.reg [mv 22 8,(none,.len 23 (S 22)),(none,.mv 24 (K 0))]) (.block 0 (.loop B43))) C1o)))))
theorem E0z (r1 : (List (List Int))) (a0 : XChart) : ∀ (n : Nat) (v4 : List Int) (v5 : Int) (r : (List Int) × Bool),J1 r1 a0 n v4 v5 = some r → ∀ σ : St,σ.kept [3,9,22,23,24] [3] [960] = ⟨[(3,vc (.pb 3 0)),(9,vc (aL (List.map rI v4))),(22,vc (.own 960)),(23,vc (aI (r1.length : Int))),(24,vc (aI v5))],[(3,[aL (List.map XPoint.row a0.Points),aL (List.map XSegment.row a0.Segments)])],[(960,1,List.map (rL rI) r1)]⟩ → go Try.prog (.code (.loop B43) :: [.blk 0,.code C1o]) (Ret [6,7] [.sc (.v (.sl (List.map rI r.1))),.sc (.v (.bool r.2))]) .normal (some σ) := by
 intro n
 induction n with
 | zero => intro _ _ r h; cases h
 | succ n ih =>
  intro v4 v5 r h σ hσ
  rw [J1] at h
  refine B8 ?_
  rcases ug (decide (v5 < (r1.length : Int))) with hb6 | hb6
  ·rw [A4 hb6] at h
   obtain ⟨x7,hx7,h⟩ := ob h
   have hx7n := Z7 hx7
   try simp only [hσ,hb6,hx7,hx7n,B43,ua,ub,uc,ud,ue,RR]
   refine B7 rfl ?_
   obtain ⟨r9,hr9,h⟩ := ob h
   try simp only [hb6,hx7,hx7n,ua,ub,uc,ud,ue,RR]
   refine D4 (A1l _ _ _ hr9) rfl rfl (uf rfl) ?_
   obtain ⟨r10,hr10,h⟩ := ob h
   try simp only [hb6,hx7,hx7n,ua,ub,uc,ud,ue,RR]
   refine D4 (A1l _ _ _ hr10) rfl rfl (uf rfl) ?_
   rcases ug (decide (r9 < r10)) with hb11 | hb11
   ·rw [A4 hb11] at h
    try simp only [hb6,hx7,hx7n,hb11,ua,ub,uc,ud,ue,RR]
    refine ih _ _ _ h _ ?_
    try simp only [hb6,hx7,hx7n,hb11,ua,ub,uc,ud,ue,RR,List.map_nil]
   ·rw [A3 hb11] at h
    try simp only [hb6,hx7,hx7n,hb11,ua,ub,uc,ud,ue,RR]
    refine ih _ _ _ h _ ?_
    try simp only [hb6,hx7,hx7n,hb11,ua,ub,uc,ud,ue,RR,List.map_nil]
  ·rw [A3 hb6] at h
   try simp only [hσ,hb6,B43,C1o,ua,ub,uc,ud,ue,RR]
   cases h
   exact ⟨⟨rfl,rfl,trivial⟩,rfl⟩
theorem D6y : A9 Try.prog 16 = some (cc200.strip,[6,7],38) := by kernel_rfl
theorem B0n (a0 : XChart) (a1 : Int) (a2 : Int) (r : (List Int) × Bool) (h : X2 a0 a1 a2 = some r) : FC Try.prog 16 [.ag (XChart.row a0),.sc (.int .i64 a1),.sc (.int .i64 a2)] [.sc (.v (.sl (List.map rI r.1))),.sc (.v (.bool r.2))] := by
 unfold X2 at h
 refine B9 (σ := ⟨[(0,va [aL (List.map XPoint.row a0.Points),aL (List.map XSegment.row a0.Segments)]),(1,vc (aI a1)),(2,vc (aI a2))],[],[]⟩) B3 D6y rfl rfl ?_
 simp only [cc200]
 try simp only [ua,ub,uc,ud,ue,RR]
 refine B5 rfl rfl rfl ?_
 obtain ⟨r1,hr1,h⟩ := ob h
 try simp only [ua,ub,uc,ud,ue,RR]
 refine A6 (A6t _ _ _ _ hr1) rfl rfl (uf rfl) ?_
 rcases ug ((r1.length : Int) == (0 : Int)) with hb2 | hb2
 ·rw [A4 hb2] at h
  try simp only [hb2,ua,ub,uc,ud,ue,RR]
  cases h
  exact ⟨⟨rfl,rfl,trivial⟩,rfl⟩
 ·rw [A3 hb2] at h
  obtain ⟨x3,hx3,h⟩ := ob h
  have hx3n := Z7 hx3
  try simp only [hb2,hx3,hx3n,ua,ub,uc,ud,ue,RR]
  refine E0z _ _ _ _ _ _ h _ ?_
  try simp only [hb2,hx3,hx3n,ua,ub,uc,ud,ue,RR,List.map_nil]
/- 66: impl_Chart_points -/
def B5y : ACode := .seq (.reg [(none,.keep [1,3,8,9,22,23,24,47] [3,8] [1344])]) (.cond (S 47) (.seq (.reg [(none,.mv 6 KN),(none,.mv 7 (KB false))]) .ret) .skip)
def C2m : ACode := (.seq (.reg [mv 48 1,(none,.aaddr 49 (S 8) (S 48) 8 1),(none,.store (S 49) (KB true) 1)]) (.reg [mv 50 9,mv 51 1,(none,.bslice 52 1 [.int .i64 0] 1 [(0,(S 51))]),(none,.app 53 1 8 (S 50) (S 52)),mv 9 53]))
def C00 : ACode := (.reg [(none,.bin 54 .add (S 24) (K 1)),mv 24 54])
def A8w : ACode := .seq (.reg [(none,.keep [1,3,8,9,22,23,24] [3,8] [1344])]) (.seq (.reg [bn 25 .lss 24 23]) (.seq (.cond (S 25) .skip (.exit 0)) (.seq (.block 1 (.seq (.reg [(none,.iaddr 26 (S 22) (S 24) 1),ld 27 26,mv 11 27]) (.seq (.seq (.reg [mv 28 11,fa 29 3 1,ld 30 29,(none,.len 31 (S 30)),(none,.call 32 51 [(S 28),(S 31)]),(none,.un 33 .not (S 32))]) (.cond (S 33) (.seq (.reg [(none,.mv 6 KN),(none,.mv 7 (KB false))]) .ret) .skip)) (.seq (.reg [fa 34 3 1,ld 35 34,mv 36 11,(none,.iaddr 37 (S 35) (S 36) 5),(none,.load 38 (S 37) true 5),mv 39 1,(none,.call 40 83 [(S 38),(S 39)]),mv 1 40]) (.seq (.seq (.reg [mv 41 1,(none,.bin 42 .lss (S 41) (K 0)),mv 43 42,(some (43,false),.mv 44 (S 1)),(some (43,false),.aaddr 45 (S 8) (S 44) 8 1),(some (43,false),.load 46 (S 45) false 1),(none,.pick 47 (S 43) (KB true) (S 46))]) B5y) C2m))))) C00)))
def B05 : ACode := (.seq (.reg [mv 55 9,mv 6 55,(none,.mv 7 (KB true))]) .ret)
def cc208 : ACode := (.seq (.reg [(none,.box 3 (S 0)),(none,.mv 6 KN),(none,.mv 7 (KB false))]) (.seq (.seq (.reg [mv 12 1,fa 13 3 0,ld 14 13,(none,.len 15 (S 14)),(none,.call 16 51 [(S 12),(S 15)]),(none,.un 17 .not (S 16))]) (.cond (S 17) (.seq (.reg [(none,.mv 6 KN),(none,.mv 7 (KB false))]) .ret) .skip)) (.seq (.reg [(none,.alloc 8 [aB false,aB false,aB false,aB false,aB false,aB false,aB false,aB false])]) (.seq (.reg [mv 18 1,(none,.aaddr 19 (S 8) (S 18) 8 1),(none,.store (S 19) (KB true) 1)]) (.seq (.reg [mv 20 1,(none,.bslice 21 1 [.int .i64 0] 1 [(0,(S 20))]),mv 9 21]) (.seq (.seq (.reg [mv 22 2,(none,.len 23 (S 22)),(none,.mv 24 (K 0))]) (.block 0 (.loop A8w))) B05))))))
theorem C8t (r14 : Int) (a2 : List Int) (v6 : Int) (a0 : XChart) (v7 : X_8_bool) (v8 : List Int) (k_impl_Chart_points_1 : Int → Int → X_8_bool → (List Int) → Option ((List Int) × Bool)) (hk_impl_Chart_points_1 : ∀ (v5 : Int) (v6 : Int) (v7 : X_8_bool) (v8 : List Int) zr,k_impl_Chart_points_1 v5 v6 v7 v8 = some zr → ∀ σ : St,σ.kept [1,3,8,9,22,23,24] [3,8] [1344] = ⟨[(1,vc (aI v5)),(3,vc (.pb 3 0)),(8,vc (.pb 8 0)),(9,vc (.own 1344)),(22,vc (aL (List.map rI a2))),(23,vc (aI (a2.length : Int))),(24,vc (aI v6))],[(3,[aL (List.map XPoint.row a0.Points),aL (List.map XSegment.row a0.Segments)]),(8,[aB v7.i0,aB v7.i1,aB v7.i2,aB v7.i3,aB v7.i4,aB v7.i5,aB v7.i6,aB v7.i7])],[(1344,1,List.map rI v8)]⟩ → go Try.prog (.code (.loop A8w) :: [.blk 0,.code B05]) (Ret [6,7] [.sc (.o 1 (List.map rI zr.1)),.sc (.v (.bool zr.2))]) .normal (some σ)) (v19 : Bool) (r : (List Int) × Bool) (h : I0 r14 a2 v6 a0 v7 v8 k_impl_Chart_points_1 v19 = some r) (σ : St) (hσ : σ.kept [1,3,8,9,22,23,24,47] [3,8] [1344] = ⟨[(1,vc (aI r14)),(3,vc (.pb 3 0)),(8,vc (.pb 8 0)),(9,vc (.own 1344)),(22,vc (aL (List.map rI a2))),(23,vc (aI (a2.length : Int))),(24,vc (aI v6)),(47,vc (aB v19))],[(3,[aL (List.map XPoint.row a0.Points),aL (List.map XSegment.row a0.Segments)]),(8,[aB v7.i0,aB v7.i1,aB v7.i2,aB v7.i3,aB v7.i4,aB v7.i5,aB v7.i6,aB v7.i7])],[(1344,1,List.map rI v8)]⟩) : go Try.prog (.code B5y :: [.code C2m,.blk 1,.code C00,.code (.loop A8w),.blk 0,.code B05]) (Ret [6,7] [.sc (.o 1 (List.map rI r.1)),.sc (.v (.bool r.2))]) .normal (some σ) := by
 unfold I0 at h
 rcases ug v19 with hb20 | hb20
 ·rw [A4 hb20] at h
  try simp only [hσ,hb20,B5y,ua,ub,uc,ud,ue,RR]
  cases h
  exact ⟨⟨rfl,rfl,trivial⟩,rfl⟩
 ·rw [A3 hb20] at h
  obtain ⟨hg21,h⟩ := E3 h
  try simp only [hσ,hb20,B5y,C2m,ua,ub,uc,ud,ue,RR]
  refine B1b rfl rfl hg21 ?_
  have hA22 : W2 [aB v7.i0,aB v7.i1,aB v7.i2,aB v7.i3,aB v7.i4,aB v7.i5,aB v7.i6,aB v7.i7] (Int.toNat r14) [aB true] = [aB ((X_8_bool.set v7 (Int.toNat r14) true)).i0,aB ((X_8_bool.set v7 (Int.toNat r14) true)).i1,aB ((X_8_bool.set v7 (Int.toNat r14) true)).i2,aB ((X_8_bool.set v7 (Int.toNat r14) true)).i3,aB ((X_8_bool.set v7 (Int.toNat r14) true)).i4,aB ((X_8_bool.set v7 (Int.toNat r14) true)).i5,aB ((X_8_bool.set v7 (Int.toNat r14) true)).i6,aB ((X_8_bool.set v7 (Int.toNat r14) true)).i7] := X_8_bool.set_eq v7 (A3c hg21)
  have hA22g : U4 [aB v7.i0,aB v7.i1,aB v7.i2,aB v7.i3,aB v7.i4,aB v7.i5,aB v7.i6,aB v7.i7] (Int.toNat r14 + 1) = true := B58 (A3c hg21)
  have hA22h : U4 [aB v7.i1,aB v7.i2,aB v7.i3,aB v7.i4,aB v7.i5,aB v7.i6,aB v7.i7] (Int.toNat r14) = true := B2z (c := aB v7.i0) (A3c hg21)
  try simp only [hb20,hA22,hA22g,hA22h,ua,ub,uc,ud,ue,RR]
  refine E8 (es := List.map rI ([r14] : List Int)) rfl rfl ?_
  obtain ⟨hg23,h⟩ := E3 h
  try simp only [hb20,hA22,hA22g,hA22h,hg23,C00,ua,ub,uc,ud,ue,RR]
  refine hk_impl_Chart_points_1 _ _ _ _ _ h _ ?_
  try simp only [hb20,hA22,hA22g,hA22h,hg23,ua,ub,uc,ud,ue,RR,List.map_nil]
theorem D8g (a2 : List Int) (a0 : XChart) : ∀ (n : Nat) (v5 : Int) (v6 : Int) (v7 : X_8_bool) (v8 : List Int) (r : (List Int) × Bool),E5 a2 a0 n v5 v6 v7 v8 = some r → ∀ σ : St,σ.kept [1,3,8,9,22,23,24] [3,8] [1344] = ⟨[(1,vc (aI v5)),(3,vc (.pb 3 0)),(8,vc (.pb 8 0)),(9,vc (.own 1344)),(22,vc (aL (List.map rI a2))),(23,vc (aI (a2.length : Int))),(24,vc (aI v6))],[(3,[aL (List.map XPoint.row a0.Points),aL (List.map XSegment.row a0.Segments)]),(8,[aB v7.i0,aB v7.i1,aB v7.i2,aB v7.i3,aB v7.i4,aB v7.i5,aB v7.i6,aB v7.i7])],[(1344,1,List.map rI v8)]⟩ → go Try.prog (.code (.loop A8w) :: [.blk 0,.code B05]) (Ret [6,7] [.sc (.o 1 (List.map rI r.1)),.sc (.v (.bool r.2))]) .normal (some σ) := by
 intro n
 induction n with
 | zero => intro _ _ _ _ r h; cases h
 | succ n ih =>
  intro v5 v6 v7 v8 r h σ hσ
  rw [E5] at h
  refine B8 ?_
  rcases ug (decide (v6 < (a2.length : Int))) with hb9 | hb9
  ·rw [A4 hb9] at h
   obtain ⟨x10,hx10,h⟩ := ob h
   obtain ⟨r11,hr11,h⟩ := ob h
   try simp only [hσ,hb9,hx10,A8w,ua,ub,uc,ud,ue,RR]
   refine A6 (F0 _ _ _ hr11) rfl rfl (uf rfl) ?_
   rcases ug r11 with hb12 | hb12
   ·rw [A4 hb12] at h
    obtain ⟨x13,hx13,h⟩ := ob h
    obtain ⟨r14,hr14,h⟩ := ob h
    try simp only [hb9,hx10,hb12,hx13,ua,ub,uc,ud,ue,RR]
    refine A6 (A33 _ _ _ hr14) rfl rfl (uf rfl) ?_
    rcases ug (decide (r14 < (0 : Int))) with hb15 | hb15
    ·rw [A4 hb15] at h
     try simp only [hb9,hx10,hb12,hx13,hb15,ua,ub,uc,ud,ue,RR]
     refine C8t _ _ _ _ _ _ (E5 a2 a0 n) ih _ _ h _ ?_
     try simp only [hb9,hx10,hb12,hx13,hb15,ua,ub,uc,ud,ue,RR,List.map_nil]
    ·rw [A3 hb15] at h
     obtain ⟨hg16,h⟩ := E3 h
     try simp only [hb9,hx10,hb12,hx13,hb15,ua,ub,uc,ud,ue,RR]
     refine B1b rfl rfl hg16 ?_
     obtain ⟨x17,hx17,h⟩ := ob h
     have hx17n := Z7 hx17
     have hA18 : ([aB v7.i0,aB v7.i1,aB v7.i2,aB v7.i3,aB v7.i4,aB v7.i5,aB v7.i6,aB v7.i7] : List AC)[Int.toNat r14]? = some (aB x17) := B8t hx17n
     try simp only [hb9,hx10,hb12,hx13,hb15,hA18,ua,ub,uc,ud,ue,RR]
     refine C8t _ _ _ _ _ _ (E5 a2 a0 n) ih _ _ h _ ?_
     try simp only [hb9,hx10,hb12,hx13,hb15,hA18,ua,ub,uc,ud,ue,RR,List.map_nil]
   ·rw [A3 hb12] at h
    try simp only [hb9,hx10,hb12,ua,ub,uc,ud,ue,RR]
    cases h
    exact ⟨⟨rfl,rfl,trivial⟩,rfl⟩
  ·rw [A3 hb9] at h
   try simp only [hσ,hb9,A8w,B05,ua,ub,uc,ud,ue,RR]
   cases h
   exact ⟨⟨rfl,rfl,trivial⟩,rfl⟩
theorem D7v : A9 Try.prog 66 = some (cc208.strip,[6,7],56) := by kernel_rfl
theorem A3j (a0 : XChart) (a1 : Int) (a2 : List Int) (r : (List Int) × Bool) (h : K2 a0 a1 a2 = some r) : FC Try.prog 66 [.ag (XChart.row a0),.sc (.int .i64 a1),.sc (.sl (List.map rI a2))] [.sc (.o 1 (List.map rI r.1)),.sc (.v (.bool r.2))] := by
 unfold K2 at h
 refine B9 (σ := ⟨[(0,va [aL (List.map XPoint.row a0.Points),aL (List.map XSegment.row a0.Segments)]),(1,vc (aI a1)),(2,vc (aL (List.map rI a2)))],[],[]⟩) B3 D7v rfl rfl ?_
 simp only [cc208]
 try simp only [ua,ub,uc,ud,ue,RR]
 refine B5 rfl rfl rfl ?_
 obtain ⟨r1,hr1,h⟩ := ob h
 try simp only [ua,ub,uc,ud,ue,RR]
 refine A6 (F0 _ _ _ hr1) rfl rfl (uf rfl) ?_
 rcases ug r1 with hb2 | hb2
 ·rw [A4 hb2] at h
  try simp only [hb2,ua,ub,uc,ud,ue,RR]
  refine D2 rfl rfl ?_
  obtain ⟨hg3,h⟩ := E3 h
  try simp only [hb2,ua,ub,uc,ud,ue,RR]
  refine B1b rfl rfl hg3 ?_
  have hA4 : W2 [aB false,aB false,aB false,aB false,aB false,aB false,aB false,aB false] (Int.toNat a1) [aB true] = [aB ((X_8_bool.set (⟨false,false,false,false,false,false,false,false⟩ : X_8_bool) (Int.toNat a1) true)).i0,aB ((X_8_bool.set (⟨false,false,false,false,false,false,false,false⟩ : X_8_bool) (Int.toNat a1) true)).i1,aB ((X_8_bool.set (⟨false,false,false,false,false,false,false,false⟩ : X_8_bool) (Int.toNat a1) true)).i2,aB ((X_8_bool.set (⟨false,false,false,false,false,false,false,false⟩ : X_8_bool) (Int.toNat a1) true)).i3,aB ((X_8_bool.set (⟨false,false,false,false,false,false,false,false⟩ : X_8_bool) (Int.toNat a1) true)).i4,aB ((X_8_bool.set (⟨false,false,false,false,false,false,false,false⟩ : X_8_bool) (Int.toNat a1) true)).i5,aB ((X_8_bool.set (⟨false,false,false,false,false,false,false,false⟩ : X_8_bool) (Int.toNat a1) true)).i6,aB ((X_8_bool.set (⟨false,false,false,false,false,false,false,false⟩ : X_8_bool) (Int.toNat a1) true)).i7] := X_8_bool.set_eq (⟨false,false,false,false,false,false,false,false⟩ : X_8_bool) (A3c hg3)
  have hA4g : U4 [aB false,aB false,aB false,aB false,aB false,aB false,aB false,aB false] (Int.toNat a1 + 1) = true := B58 (A3c hg3)
  have hA4h : U4 [aB false,aB false,aB false,aB false,aB false,aB false,aB false] (Int.toNat a1) = true := B2z (c := aB false) (A3c hg3)
  try simp only [hb2,hA4,hA4g,hA4h,ua,ub,uc,ud,ue,RR]
  refine E8 (es := List.map rI ([a1] : List Int)) rfl rfl ?_
  try simp only [hb2,hA4,hA4g,hA4h,ua,ub,uc,ud,ue,RR]
  refine D8g _ _ _ _ _ _ _ _ h _ ?_
  try simp only [hb2,hA4,hA4g,hA4h,ua,ub,uc,ud,ue,RR,List.map_nil]
 ·rw [A3 hb2] at h
  try simp only [hb2,ua,ub,uc,ud,ue,RR]
  cases h
  exact ⟨⟨rfl,rfl,trivial⟩,rfl⟩
/- 42: impl_RoutePoints -/
def cc212 : ACode := (.seq (.reg [(none,.box 3 (S 0)),(none,.mv 6 KN)]) (.seq (.seq (.reg [(none,.load 9 (S 3) true 2),(none,.call 10 47 [(S 9)]),(none,.un 11 .not (S 10))]) (.cond (S 11) (.seq (.reg [(none,.mv 6 KN)]) .ret) .skip)) (.seq (.reg [(none,.load 13 (S 3) true 2),mv 14 1,mv 15 2,(none,.call 16 66 [(S 13),(S 14),(S 15)]),mv 12 16,(none,.extr 17 (S 12) 0),(none,.extr 18 (S 12) 1),mv 7 17,mv 8 18]) (.seq (.reg [mv 19 7,mv 6 19]) .ret))))
theorem E1e : A9 Try.prog 42 = some (cc212.strip,[6],20) := by kernel_rfl
theorem A1r (a0 : XChart) (a1 : Int) (a2 : List Int) (r : (List Int)) (h : H5 a0 a1 a2 = some r) : FC Try.prog 42 [.ag (XChart.row a0),.sc (.int .i64 a1),.sc (.sl (List.map rI a2))] [.sc (.o 1 (List.map rI r))] := by
 unfold H5 at h
 refine B9 (σ := ⟨[(0,va [aL (List.map XPoint.row a0.Points),aL (List.map XSegment.row a0.Segments)]),(1,vc (aI a1)),(2,vc (aL (List.map rI a2)))],[],[]⟩) B3 E1e rfl rfl ?_
 simp only [cc212]
 try simp only [ua,ub,uc,ud,ue,RR]
 refine B5 rfl rfl rfl ?_
 obtain ⟨r1,hr1,h⟩ := ob h
 try simp only [ua,ub,uc,ud,ue,RR]
 refine A6 (S0 _ _ hr1) rfl rfl (uf rfl) ?_
 rcases ug r1 with hb2 | hb2
 ·rw [A4 hb2] at h
  obtain ⟨r3,hr3,h⟩ := ob h
  try simp only [hb2,ua,ub,uc,ud,ue,RR]
  refine A6 (A3j _ _ _ _ hr3) rfl rfl (uf rfl) ?_
  try simp only [hb2,ua,ub,uc,ud,ue,RR]
  cases h
  exact ⟨⟨rfl,trivial⟩,rfl⟩
 ·rw [A3 hb2] at h
  try simp only [hb2,ua,ub,uc,ud,ue,RR]
  cases h
  exact ⟨⟨rfl,trivial⟩,rfl⟩
/- 67: impl_RouteOk -/
def cc214 : ACode := (.seq (.reg [(none,.box 3 (S 0)),(none,.mv 6 (KB false))]) (.seq (.seq (.reg [(none,.load 9 (S 3) true 2),(none,.call 10 47 [(S 9)]),(none,.un 11 .not (S 10))]) (.cond (S 11) (.seq (.reg [(none,.mv 6 (KB false))]) .ret) .skip)) (.seq (.reg [(none,.load 13 (S 3) true 2),mv 14 1,mv 15 2,(none,.call 16 66 [(S 13),(S 14),(S 15)]),mv 12 16,(none,.extr 17 (S 12) 0),(none,.extr 18 (S 12) 1),mv 7 17,mv 8 18]) (.seq (.reg [mv 19 8,mv 6 19]) .ret))))
theorem D7h : A9 Try.prog 67 = some (cc214.strip,[6],20) := by kernel_rfl
theorem A6e (a0 : XChart) (a1 : Int) (a2 : List Int) (r : Bool) (h : T0 a0 a1 a2 = some r) : FC Try.prog 67 [.ag (XChart.row a0),.sc (.int .i64 a1),.sc (.sl (List.map rI a2))] [.sc (.v (.bool r))] := by
 unfold T0 at h
 refine B9 (σ := ⟨[(0,va [aL (List.map XPoint.row a0.Points),aL (List.map XSegment.row a0.Segments)]),(1,vc (aI a1)),(2,vc (aL (List.map rI a2)))],[],[]⟩) B3 D7h rfl rfl ?_
 simp only [cc214]
 try simp only [ua,ub,uc,ud,ue,RR]
 refine B5 rfl rfl rfl ?_
 obtain ⟨r1,hr1,h⟩ := ob h
 try simp only [ua,ub,uc,ud,ue,RR]
 refine A6 (S0 _ _ hr1) rfl rfl (uf rfl) ?_
 rcases ug r1 with hb2 | hb2
 ·rw [A4 hb2] at h
  obtain ⟨r3,hr3,h⟩ := ob h
  try simp only [hb2,ua,ub,uc,ud,ue,RR]
  refine A6 (A3j _ _ _ _ hr3) rfl rfl (uf rfl) ?_
  try simp only [hb2,ua,ub,uc,ud,ue,RR]
  cases h
  exact ⟨⟨rfl,trivial⟩,rfl⟩
 ·rw [A3 hb2] at h
  try simp only [hb2,ua,ub,uc,ud,ue,RR]
  cases h
  exact ⟨⟨rfl,trivial⟩,rfl⟩
/- 56: impl_Ship_minutes -/
def cc216 : ACode := (.seq (.reg [(none,.box 2 (S 0)),(none,.box 3 (S 1)),(none,.mv 4 (K 0))]) (.seq (.seq (.reg [fa 5 2 5,ld 6 5]) (.cond (S 6) (.seq (.reg [fa 7 3 3,ld 8 7,(none,.bin 9 .mul (K 2) (S 8)),mv 4 9]) .ret) .skip)) (.seq (.reg [fa 10 3 3,ld 11 10,mv 4 11]) .ret)))
theorem D71 : A9 Try.prog 56 = some (cc216.strip,[4],12) := by kernel_rfl
theorem Q9 (a0 : XShip) (a1 : XSegment) (r : Int) (h : G5 a0 a1 = some r) : FC Try.prog 56 [.ag (XShip.row a0),.ag (XSegment.row a1)] [.sc (.v (.int .i64 r))] := by
 unfold G5 at h
 refine B9 (σ := ⟨[(0,va [aS a0.Name,aI a0.Length,aI a0.Draught,aI a0.Line,aI a0.Tugs,aB a0.Slow]),(1,va [aI a1.A,aI a1.B,aI a1.Depth,aI a1.Minutes,aB a1.Meet])],[],[]⟩) B3 D71 rfl rfl ?_
 simp only [cc216]
 try simp only [ua,ub,uc,ud,ue,RR]
 refine B5 rfl rfl rfl ?_
 try simp only [ua,ub,uc,ud,ue,RR]
 refine B5 rfl rfl rfl ?_
 rcases ug a0.Slow with hb1 | hb1
 ·rw [A4 hb1] at h
  try simp only [hb1,ua,ub,uc,ud,ue,RR]
  cases h
  exact ⟨⟨rfl,trivial⟩,rfl⟩
 ·rw [A3 hb1] at h
  try simp only [hb1,ua,ub,uc,ud,ue,RR]
  cases h
  exact ⟨⟨rfl,trivial⟩,rfl⟩
/- 23: impl_onSegment -/
def cc218 : ACode := (.seq (.reg [(none,.box 3 (S 0)),(none,.box 5 (S 2)),(none,.mv 6 (KB false))]) (.seq (.reg [(none,.load 7 (S 3) true 2),(none,.call 8 47 [(S 7)]),mv 9 8,(some (9,true),.load 10 (S 5) true 6),(some (9,true),.call 11 55 [(S 10)]),(none,.pick 12 (S 9) (S 11) (KB false)),mv 13 12,(some (13,true),.mv 14 (S 1)),(some (13,true),.faddr 15 (S 3) 1),(some (13,true),.load 16 (S 15) false 1),(some (13,true),.len 17 (S 16)),(some (13,true),.call 18 51 [(S 14),(S 17)]),(none,.pick 19 (S 13) (S 18) (KB false)),mv 6 19]) .ret))
theorem D9v : A9 Try.prog 23 = some (cc218.strip,[6],20) := by kernel_rfl
theorem A2r (a0 : XChart) (a1 : Int) (a2 : XShip) (r : Bool) (h : L6 a0 a1 a2 = some r) : FC Try.prog 23 [.ag (XChart.row a0),.sc (.int .i64 a1),.ag (XShip.row a2)] [.sc (.v (.bool r))] := by
 unfold L6 at h
 refine B9 (σ := ⟨[(0,va [aL (List.map XPoint.row a0.Points),aL (List.map XSegment.row a0.Segments)]),(1,vc (aI a1)),(2,va [aS a2.Name,aI a2.Length,aI a2.Draught,aI a2.Line,aI a2.Tugs,aB a2.Slow])],[],[]⟩) B3 D9v rfl rfl ?_
 simp only [cc218]
 try simp only [ua,ub,uc,ud,ue,RR]
 refine B5 rfl rfl rfl ?_
 try simp only [ua,ub,uc,ud,ue,RR]
 refine B5 rfl rfl rfl ?_
 obtain ⟨r1,hr1,h⟩ := ob h
 try simp only [ua,ub,uc,ud,ue,RR]
 refine A6 (S0 _ _ hr1) rfl rfl (uf rfl) ?_
 rcases ug r1 with hb2 | hb2
 ·rw [A4 hb2] at h
  obtain ⟨r3,hr3,h⟩ := ob h
  try simp only [hb2,ua,ub,uc,ud,ue,RR]
  refine A6 (Y9 _ _ hr3) rfl rfl (uf rfl) ?_
  rcases ug r3 with hb4 | hb4
  ·rw [A4 hb4] at h
   obtain ⟨r5,hr5,h⟩ := ob h
   try simp only [hb2,hb4,ua,ub,uc,ud,ue,RR]
   refine A6 (F0 _ _ _ hr5) rfl rfl (uf rfl) ?_
   try simp only [hb2,hb4,ua,ub,uc,ud,ue,RR]
   cases h
   exact ⟨⟨rfl,trivial⟩,rfl⟩
  ·rw [A3 hb4] at h
   try simp only [hb2,hb4,ua,ub,uc,ud,ue,RR]
   cases h
   exact ⟨⟨rfl,trivial⟩,rfl⟩
 ·rw [A3 hb2] at h
  try simp only [hb2,ua,ub,uc,ud,ue,RR]
  cases h
  exact ⟨⟨rfl,trivial⟩,rfl⟩
/- 78: impl_Ship_squat -/
def cc220 : ACode := (.seq (.reg [(none,.box 1 (S 0)),(none,.mv 2 (K 0))]) (.seq (.seq (.reg [fa 3 1 5,ld 4 3]) (.cond (S 4) (.seq (.reg [fa 5 1 2,ld 6 5,(none,.bin 7 .quo (S 6) (K 50)),mv 2 7]) .ret) .skip)) (.seq (.reg [fa 8 1 2,ld 9 8,(none,.bin 10 .quo (S 9) (K 20)),mv 2 10]) .ret)))
theorem D9b : A9 Try.prog 78 = some (cc220.strip,[2],11) := by kernel_rfl
theorem A9g (a0 : XShip) (r : Int) (h : A0i a0 = some r) : FC Try.prog 78 [.ag (XShip.row a0)] [.sc (.v (.int .i64 r))] := by
 unfold A0i at h
 refine B9 (σ := ⟨[(0,va [aS a0.Name,aI a0.Length,aI a0.Draught,aI a0.Line,aI a0.Tugs,aB a0.Slow])],[],[]⟩) B3 D9b rfl rfl ?_
 simp only [cc220]
 try simp only [ua,ub,uc,ud,ue,RR]
 refine B5 rfl rfl rfl ?_
 rcases ug a0.Slow with hb1 | hb1
 ·rw [A4 hb1] at h
  try simp only [hb1,ua,ub,uc,ud,ue,RR]
  cases h
  exact ⟨⟨rfl,trivial⟩,rfl⟩
 ·rw [A3 hb1] at h
  try simp only [hb1,ua,ub,uc,ud,ue,RR]
  cases h
  exact ⟨⟨rfl,trivial⟩,rfl⟩
/- 59: impl_Ship_need -/
def cc222 : ACode := (.seq (.reg [(none,.box 1 (S 0)),(none,.mv 2 (K 0))]) (.seq (.drw [(some [6],fa 3 1 2),(some [6],ld 4 3),(some [],(none,.load 5 (S 1) true 6)),(some [],(none,.call 6 78 [(S 5)])),(some [],bn 7 .add 4 6),(some [],(none,.bin 8 .add (S 7) (K 50))),(some [],mv 2 8)]) .ret))
theorem E00 : A9 Try.prog 59 = some (cc222.strip,[2],9) := by kernel_rfl
theorem A90 (a0 : XShip) (r : Int) (h : A04 a0 = some r) : FC Try.prog 59 [.ag (XShip.row a0)] [.sc (.v (.int .i64 r))] := by
 unfold A04 at h
 refine B9 (σ := ⟨[(0,va [aS a0.Name,aI a0.Length,aI a0.Draught,aI a0.Line,aI a0.Tugs,aB a0.Slow])],[],[]⟩) B3 E00 rfl rfl ?_
 simp only [cc222]
 try simp only [ua,ub,uc,ud,ue,RR]
 refine B5 rfl rfl rfl ?_
 try simp only [ua,ub,uc,ud,ue,RR]
 refine B7 rfl ?_
 obtain ⟨r1,hr1,h⟩ := ob h
 try simp only [ua,ub,uc,ud,ue,RR]
 refine D4 (A9g _ _ hr1) rfl rfl (uf rfl) ?_
 try simp only [ua,ub,uc,ud,ue,RR]
 cases h
 exact ⟨⟨rfl,trivial⟩,rfl⟩
/- 27: impl_LevelFor -/
def cc224 : ACode := (.seq (.reg [(none,.box 3 (S 0)),(none,.box 5 (S 2)),(none,.mv 6 (K 0))]) (.seq (.seq (.reg [(none,.load 7 (S 3) true 2),mv 8 1,(none,.load 9 (S 5) true 6),(none,.call 10 23 [(S 7),(S 8),(S 9)]),(none,.un 11 .not (S 10))]) (.cond (S 11) (.seq (.reg [(none,.mv 6 (K 0))]) .ret) .skip)) (.seq (.drw [(some [],(none,.load 12 (S 5) true 6)),(some [],(none,.call 13 59 [(S 12)])),(some [13],fa 14 3 1),(some [13],ld 15 14),(some [13],mv 16 1),(some [13],(none,.iaddr 17 (S 15) (S 16) 5)),(some [13],fa 18 17 2),(some [13],ld 19 18),(some [],bn 20 .sub 13 19),(some [],mv 6 20)]) .ret)))
theorem D8n : A9 Try.prog 27 = some (cc224.strip,[6],21) := by kernel_rfl
theorem A1n (a0 : XChart) (a1 : Int) (a2 : XShip) (r : Int) (h : H4 a0 a1 a2 = some r) : FC Try.prog 27 [.ag (XChart.row a0),.sc (.int .i64 a1),.ag (XShip.row a2)] [.sc (.v (.int .i64 r))] := by
 unfold H4 at h
 refine B9 (σ := ⟨[(0,va [aL (List.map XPoint.row a0.Points),aL (List.map XSegment.row a0.Segments)]),(1,vc (aI a1)),(2,va [aS a2.Name,aI a2.Length,aI a2.Draught,aI a2.Line,aI a2.Tugs,aB a2.Slow])],[],[]⟩) B3 D8n rfl rfl ?_
 simp only [cc224]
 try simp only [ua,ub,uc,ud,ue,RR]
 refine B5 rfl rfl rfl ?_
 try simp only [ua,ub,uc,ud,ue,RR]
 refine B5 rfl rfl rfl ?_
 obtain ⟨r1,hr1,h⟩ := ob h
 try simp only [ua,ub,uc,ud,ue,RR]
 refine A6 (A2r _ _ _ _ hr1) rfl rfl (uf rfl) ?_
 rcases ug r1 with hb2 | hb2
 ·rw [A4 hb2] at h
  try simp only [hb2,ua,ub,uc,ud,ue,RR]
  refine B7 rfl ?_
  obtain ⟨r3,hr3,h⟩ := ob h
  try simp only [hb2,ua,ub,uc,ud,ue,RR]
  refine D4 (A90 _ _ hr3) rfl rfl (uf rfl) ?_
  obtain ⟨x4,hx4,h⟩ := ob h
  try simp only [hb2,hx4,ua,ub,uc,ud,ue,RR]
  cases h
  exact ⟨⟨rfl,trivial⟩,rfl⟩
 ·rw [A3 hb2] at h
  try simp only [hb2,ua,ub,uc,ud,ue,RR]
  cases h
  exact ⟨⟨rfl,trivial⟩,rfl⟩
/- 89: impl_windowsOf -/
def B99 : ACode := .seq (.reg [(none,.keep [0,3,4,5] [] [384])]) (.reg [mv 22 3,mv 23 3,(none,.len 24 (S 23)),(none,.bin 25 .sub (S 24) (K 1)),mv 26 5,(none,.iaddr 27 (S 22) (S 25) 2),fa 28 27 1,(none,.store (S 28) (S 26) 1)])
def B48 : ACode := .seq (.reg [(none,.keep [0,3,4,5] [] [384])]) (.reg [mv 9 5,(none,.bin 10 .add (S 9) (K 1)),mv 5 10])
def A5u : ACode := .seq (.reg [(none,.keep [0,3,4,5] [] [384])]) (.seq (.seq (.reg [mv 7 5,(none,.bin 8 .leq (S 7) (K 2880))]) (.cond (S 8) .skip (.exit 0))) (.seq (.block 1 (.seq (.seq (.reg [mv 11 0,mv 12 5,(none,.callv 13 (S 11) [(S 12)]),(none,.un 14 .not (S 13))]) (.cond (S 14) (.seq (.reg [(none,.mv 4 (KB false))]) (.exit 1)) .skip)) (.seq (.seq (.reg [mv 15 4,(none,.un 16 .not (S 15))]) (.cond (S 16) (.seq (.reg [mv 17 3,mv 18 5,(none,.build 19 [aI 0,aI 0] [(0,1,(S 18))]),(none,.bslice 20 2 [.int .i64 0,.int .i64 0] 1 [(0,(S 19))]),(none,.app 21 2 16 (S 17) (S 20)),mv 3 21]) (.reg [(none,.mv 4 (KB true))])) .skip)) B99))) B48))
def A6y : ACode := (.seq (.reg [mv 29 3,mv 2 29]) .ret)
def cc230 : ACode := (.seq (.reg [(none,.mv 2 KN)]) (.seq (.reg [(none,.bslice 6 2 [.int .i64 0,.int .i64 0] 0 []),mv 3 6]) (.seq (.reg [(none,.mv 4 (KB false))]) (.seq (.seq (.reg [(none,.mv 5 (K 0))]) (.block 0 (.loop A5u))) A6y))))
theorem C8w (a0 : Int → Option Bool) (F_a0 : FuncId) (caps_a0 : List D) (hF_a0 : A19 Try.prog F_a0 = true) (h_a0 : ∀ z0 zr,a0 z0 = some zr → FC Try.prog F_a0 ([.sc (.int .i64 z0)] ++ caps_a0.map .sc) [.sc (.v (.bool zr))]) (v2 : Int) (k_impl_windowsOf_1 : Bool → Int → (List XWindow) → Option (List XWindow)) (hk_impl_windowsOf_1 : ∀ (v1 : Bool) (v2 : Int) (v3 : List XWindow) zr,k_impl_windowsOf_1 v1 v2 v3 = some zr → ∀ σ : St,σ.kept [0,3,4,5] [] [384] = ⟨[(0,vc (.dat (.clo F_a0 caps_a0))),(3,vc (.own 384)),(4,vc (aB v1)),(5,vc (aI v2))],[],[(384,2,List.map XWindow.row v3)]⟩ → go Try.prog (.code (.loop A5u) :: [.blk 0,.code A6y]) (Ret [2] [.sc (.o 2 (List.map XWindow.row zr))]) .normal (some σ)) (v11 : Bool) (v12 : List XWindow) (r : (List XWindow)) (h : L5 a0 v2 k_impl_windowsOf_1 v11 v12 = some r) (σ : St) (hσ : σ.kept [0,3,4,5] [] [384] = ⟨[(0,vc (.dat (.clo F_a0 caps_a0))),(3,vc (.own 384)),(4,vc (aB v11)),(5,vc (aI v2))],[],[(384,2,List.map XWindow.row v12)]⟩) : go Try.prog (.code B48 :: [.code (.loop A5u),.blk 0,.code A6y]) (Ret [2] [.sc (.o 2 (List.map XWindow.row r))]) .normal (some σ) := by
 unfold L5 at h
 try simp only [hσ,B48,ua,ub,uc,ud,ue,RR]
 refine hk_impl_windowsOf_1 _ _ _ _ h _ ?_
 try simp only [ua,ub,uc,ud,ue,RR,List.map_nil]
theorem C8z (a0 : Int → Option Bool) (F_a0 : FuncId) (caps_a0 : List D) (hF_a0 : A19 Try.prog F_a0 = true) (h_a0 : ∀ z0 zr,a0 z0 = some zr → FC Try.prog F_a0 ([.sc (.int .i64 z0)] ++ caps_a0.map .sc) [.sc (.v (.bool zr))]) (v2 : Int) (k_impl_windowsOf_1 : Bool → Int → (List XWindow) → Option (List XWindow)) (hk_impl_windowsOf_1 : ∀ (v1 : Bool) (v2 : Int) (v3 : List XWindow) zr,k_impl_windowsOf_1 v1 v2 v3 = some zr → ∀ σ : St,σ.kept [0,3,4,5] [] [384] = ⟨[(0,vc (.dat (.clo F_a0 caps_a0))),(3,vc (.own 384)),(4,vc (aB v1)),(5,vc (aI v2))],[],[(384,2,List.map XWindow.row v3)]⟩ → go Try.prog (.code (.loop A5u) :: [.blk 0,.code A6y]) (Ret [2] [.sc (.o 2 (List.map XWindow.row zr))]) .normal (some σ)) (v9 : List XWindow) (r : (List XWindow)) (h : O3 a0 v2 k_impl_windowsOf_1 v9 = some r) (σ : St) (hσ : σ.kept [0,3,4,5] [] [384] = ⟨[(0,vc (.dat (.clo F_a0 caps_a0))),(3,vc (.own 384)),(4,vc (aB true)),(5,vc (aI v2))],[],[(384,2,List.map XWindow.row v9)]⟩) : go Try.prog (.code B99 :: [.blk 1,.code B48,.code (.loop A5u),.blk 0,.code A6y]) (Ret [2] [.sc (.o 2 (List.map XWindow.row r))]) .normal (some σ) := by
 unfold O3 at h
 obtain ⟨x10,hx10,h⟩ := ob h
 have hx10n := Z7 hx10
 try simp only [hσ,hx10,B99,ua,ub,uc,ud,ue,RR]
 refine A7q (row := XWindow.row) (y := (⟨x10.From,v2⟩ : XWindow)) rfl rfl hx10n rfl rfl (by rfl) ?_
 try simp only [hx10,ua,ub,uc,ud,ue,RR]
 refine C8w a0 F_a0 caps_a0 hF_a0 h_a0 _ k_impl_windowsOf_1 hk_impl_windowsOf_1 _ _ _ h _ ?_
 try simp only [hx10,ua,ub,uc,ud,ue,RR,List.map_nil]
theorem D7s (a0 : Int → Option Bool) (F_a0 : FuncId) (caps_a0 : List D) (hF_a0 : A19 Try.prog F_a0 = true) (h_a0 : ∀ z0 zr,a0 z0 = some zr → FC Try.prog F_a0 ([.sc (.int .i64 z0)] ++ caps_a0.map .sc) [.sc (.v (.bool zr))]) : ∀ (n : Nat) (v1 : Bool) (v2 : Int) (v3 : List XWindow) (r : (List XWindow)),E4 a0 n v1 v2 v3 = some r → ∀ σ : St,σ.kept [0,3,4,5] [] [384] = ⟨[(0,vc (.dat (.clo F_a0 caps_a0))),(3,vc (.own 384)),(4,vc (aB v1)),(5,vc (aI v2))],[],[(384,2,List.map XWindow.row v3)]⟩ → go Try.prog (.code (.loop A5u) :: [.blk 0,.code A6y]) (Ret [2] [.sc (.o 2 (List.map XWindow.row r))]) .normal (some σ) := by
 intro n
 induction n with
 | zero => intro _ _ _ r h; cases h
 | succ n ih =>
  intro v1 v2 v3 r h σ hσ
  rw [E4] at h
  refine B8 ?_
  rcases ug (decide (v2 ≤ (2880 : Int))) with hb4 | hb4
  ·rw [A4 hb4] at h
   obtain ⟨r5,hr5,h⟩ := ob h
   try simp only [hσ,hb4,A5u,ua,ub,uc,ud,ue,RR]
   refine C78 (h_a0 _ _ hr5) hF_a0 rfl rfl (A3m rfl) rfl (uf rfl) ?_
   rcases ug r5 with hb6 | hb6
   ·rw [A4 hb6] at h
    rcases ug v1 with hb7 | hb7
    ·rw [A4 hb7] at h
     try simp only [hb4,hb6,hb7,ua,ub,uc,ud,ue,RR]
     refine C8z a0 F_a0 caps_a0 hF_a0 h_a0 _ (E4 a0 n) ih _ _ h _ ?_
     try simp only [hb4,hb6,hb7,ua,ub,uc,ud,ue,RR,List.map_nil]
    ·rw [A3 hb7] at h
     try simp only [hb4,hb6,hb7,ua,ub,uc,ud,ue,RR]
     refine E8 (es := List.map XWindow.row ([(⟨v2,(0 : Int)⟩ : XWindow)] : List XWindow)) rfl rfl ?_
     obtain ⟨hg8,h⟩ := E3 h
     try simp only [hb4,hb6,hb7,hg8,ua,ub,uc,ud,ue,RR]
     refine C8z a0 F_a0 caps_a0 hF_a0 h_a0 _ (E4 a0 n) ih _ _ h _ ?_
     try simp only [hb4,hb6,hb7,hg8,ua,ub,uc,ud,ue,RR,List.map_nil]
   ·rw [A3 hb6] at h
    try simp only [hb4,hb6,ua,ub,uc,ud,ue,RR]
    refine C8w a0 F_a0 caps_a0 hF_a0 h_a0 _ (E4 a0 n) ih _ _ _ h _ ?_
    try simp only [hb4,hb6,ua,ub,uc,ud,ue,RR,List.map_nil]
  ·rw [A3 hb4] at h
   try simp only [hσ,hb4,A5u,A6y,ua,ub,uc,ud,ue,RR]
   cases h
   exact ⟨⟨rfl,trivial⟩,rfl⟩
theorem E1k : A9 Try.prog 89 = some (cc230.strip,[2],30) := by kernel_rfl
theorem B0i (a0 : Int → Option Bool) (r : (List XWindow)) (F_a0 : FuncId) (caps_a0 : List D) (hF_a0 : A19 Try.prog F_a0 = true) (h_a0 : ∀ z0 zr,a0 z0 = some zr → FC Try.prog F_a0 ([.sc (.int .i64 z0)] ++ caps_a0.map .sc) [.sc (.v (.bool zr))]) (h : A06 a0 = some r) : FC Try.prog 89 [.sc (.clo F_a0 caps_a0)] [.sc (.o 2 (List.map XWindow.row r))] := by
 unfold A06 at h
 refine B9 (σ := ⟨[(0,vc (.dat (.clo F_a0 caps_a0)))],[],[]⟩) B3 E1k rfl rfl ?_
 simp only [cc230]
 try simp only [ua,ub,uc,ud,ue,RR]
 refine E8 (es := List.map XWindow.row ([] : List XWindow)) rfl rfl ?_
 try simp only [ua,ub,uc,ud,ue,RR]
 refine D7s a0 F_a0 caps_a0 hF_a0 h_a0 _ _ _ _ _ h _ ?_
 try simp only [ua,ub,uc,ud,ue,RR,List.map_nil]
/- 77: impl_Wave -/
def cc235 : ACode := (.seq (.reg [(none,.mv 4 (K 0))]) (.seq (.seq (.reg [mv 7 1,(none,.call 8 87 [(S 7)]),(none,.un 9 .not (S 8))]) (.cond (S 9) (.seq (.reg [(none,.mv 4 (K 0))]) .ret) .skip)) (.seq (.reg [mv 10 0,mv 11 1,bn 12 .rem 10 11,mv 13 1,bn 14 .add 12 13,mv 15 1,bn 16 .rem 14 15,mv 5 16]) (.seq (.reg [mv 17 1,(none,.bin 18 .quo (S 17) (K 2)),mv 6 18]) (.seq (.seq (.reg [mv 19 5,mv 20 6,bn 21 .geq 19 20]) (.cond (S 21) (.seq (.reg [mv 22 5,mv 23 6,bn 24 .sub 22 23,mv 5 24]) (.seq (.reg [mv 25 5,(none,.bin 26 .mul (K 40000) (S 25)),mv 27 6,mv 28 5,bn 29 .sub 27 28,bn 30 .mul 26 29,mv 31 6,mv 32 6,bn 33 .mul 31 32,bn 34 .quo 30 33,(none,.un 35 .neg (S 34)),mv 4 35]) .ret)) .skip)) (.seq (.reg [mv 36 5,(none,.bin 37 .mul (K 40000) (S 36)),mv 38 6,mv 39 5,bn 40 .sub 38 39,bn 41 .mul 37 40,mv 42 6,mv 43 6,bn 44 .mul 42 43,bn 45 .quo 41 44,mv 4 45]) .ret))))))
theorem D8l : A9 Try.prog 77 = some (cc235.strip,[4],46) := by kernel_rfl
theorem B8e (a0 : Int) (a1 : Int) (r : Int) (h : A2j a0 a1 = some r) : FC Try.prog 77 [.sc (.int .i64 a0),.sc (.int .i64 a1)] [.sc (.v (.int .i64 r))] := by
 unfold A2j at h
 refine B9 (σ := ⟨[(0,vc (aI a0)),(1,vc (aI a1))],[],[]⟩) B3 D8l rfl rfl ?_
 simp only [cc235]
 obtain ⟨r1,hr1,h⟩ := ob h
 try simp only [ua,ub,uc,ud,ue,RR]
 refine A6 (A50 _ _ hr1) rfl rfl (uf rfl) ?_
 rcases ug r1 with hb2 | hb2
 ·rw [A4 hb2] at h
  obtain ⟨hg3,h⟩ := A24 h
  obtain ⟨hg4,h⟩ := A24 h
  rcases ug (decide ((IntKind.i64.wrap (Int.tdiv a1 (2 : Int))) ≤ (IntKind.i64.wrap (Int.tmod (IntKind.i64.wrap ((IntKind.i64.wrap (Int.tmod a0 a1)) + a1)) a1)))) with hb5 | hb5
  ·rw [A4 hb5] at h
   obtain ⟨hg6,h⟩ := A24 h
   try simp only [hb2,hg3,hg4,hb5,hg6,ua,ub,uc,ud,ue,RR]
   cases h
   exact ⟨⟨rfl,trivial⟩,rfl⟩
  ·rw [A3 hb5] at h
   obtain ⟨hg7,h⟩ := A24 h
   try simp only [hb2,hg3,hg4,hb5,hg7,ua,ub,uc,ud,ue,RR]
   cases h
   exact ⟨⟨rfl,trivial⟩,rfl⟩
 ·rw [A3 hb2] at h
  try simp only [hb2,ua,ub,uc,ud,ue,RR]
  cases h
  exact ⟨⟨rfl,trivial⟩,rfl⟩
/- 57: impl_Tide_level -/
def B5q : ACode := .seq (.reg [(none,.keep [1,5,11,12,13] [] [])]) (.seq (.reg [bn 14 .lss 13 12]) (.seq (.cond (S 14) .skip (.exit 0)) (.seq (.block 1 (.seq (.reg [(none,.iaddr 15 (S 11) (S 13) 3),(none,.load 16 (S 15) true 3),(none,.alloc 7 [aI 0,aI 0,aI 0]),(none,.store (S 7) (S 16) 3)]) (.drw [(some [26],mv 17 5),(some [26],fa 18 7 0),(some [26],ld 19 18),(some [],mv 20 1),(some [],fa 21 7 2),(some [],ld 22 21),(some [],bn 23 .add 20 22),(some [],fa 24 7 1),(some [],ld 25 24),(some [],(none,.call 26 77 [(S 23),(S 25)])),(some [],bn 27 .mul 19 26),(some [],(none,.bin 28 .quo (S 27) (K 10000))),(some [],bn 29 .add 17 28),(some [],mv 5 29)]))) (.reg [(none,.bin 30 .add (S 13) (K 1)),mv 13 30]))))
def B9w : ACode := (.seq (.reg [mv 31 5,mv 4 31]) .ret)
def cc239 : ACode := (.seq (.reg [(none,.box 2 (S 0)),(none,.mv 4 (K 0))]) (.seq (.reg [fa 8 2 0,ld 9 8,mv 5 9]) (.seq (.seq (.reg [fa 10 2 1,ld 11 10,(none,.len 12 (S 11)),(none,.mv 13 (K 0))]) (.block 0 (.loop B5q))) B9w)))
theorem E1h (a1 : Int) (a0 : XTide) : ∀ (n : Nat) (v1 : Int) (v2 : Int) (r : Int),L0 a1 a0 n v1 v2 = some r → ∀ σ : St,σ.kept [1,5,11,12,13] [] [] = ⟨[(1,vc (aI a1)),(5,vc (aI v1)),(11,vc (aL (List.map XPart.row a0.Parts))),(12,vc (aI (a0.Parts.length : Int))),(13,vc (aI v2))],[],[]⟩ → go Try.prog (.code (.loop B5q) :: [.blk 0,.code B9w]) (Ret [4] [.sc (.v (.int .i64 r))]) .normal (some σ) := by
 intro n
 induction n with
 | zero => intro _ _ r h; cases h
 | succ n ih =>
  intro v1 v2 r h σ hσ
  rw [L0] at h
  refine B8 ?_
  rcases ug (decide (v2 < (a0.Parts.length : Int))) with hb3 | hb3
  ·rw [A4 hb3] at h
   obtain ⟨x4,hx4,h⟩ := ob h
   try simp only [hσ,hb3,hx4,B5q,ua,ub,uc,ud,ue,RR]
   refine D2 rfl rfl ?_
   try simp only [hb3,hx4,ua,ub,uc,ud,ue,RR]
   refine B7 rfl ?_
   obtain ⟨r5,hr5,h⟩ := ob h
   try simp only [hb3,hx4,ua,ub,uc,ud,ue,RR]
   refine D4 (B8e _ _ _ hr5) rfl rfl (uf rfl) ?_
   try simp only [hb3,hx4,ua,ub,uc,ud,ue,RR]
   refine ih _ _ _ h _ ?_
   try simp only [hb3,hx4,ua,ub,uc,ud,ue,RR,List.map_nil]
  ·rw [A3 hb3] at h
   try simp only [hσ,hb3,B5q,B9w,ua,ub,uc,ud,ue,RR]
   cases h
   exact ⟨⟨rfl,trivial⟩,rfl⟩
theorem D84 : A9 Try.prog 57 = some (cc239.strip,[4],32) := by kernel_rfl
theorem A4m (a0 : XTide) (a1 : Int) (r : Int) (h : V8 a0 a1 = some r) : FC Try.prog 57 [.ag (XTide.row a0),.sc (.int .i64 a1)] [.sc (.v (.int .i64 r))] := by
 unfold V8 at h
 refine B9 (σ := ⟨[(0,va [aI a0.Mean,aL (List.map XPart.row a0.Parts)]),(1,vc (aI a1))],[],[]⟩) B3 D84 rfl rfl ?_
 simp only [cc239]
 try simp only [ua,ub,uc,ud,ue,RR]
 refine B5 rfl rfl rfl ?_
 try simp only [ua,ub,uc,ud,ue,RR]
 refine E1h _ _ _ _ _ _ h _ ?_
 try simp only [ua,ub,uc,ud,ue,RR,List.map_nil]
/- 58: impl_Forecast_surge -/
def B5o : ACode := .seq (.reg [(none,.keep [1,5,9,10,11] [] [])]) (.seq (.reg [bn 12 .lss 11 10]) (.seq (.cond (S 12) .skip (.exit 0)) (.seq (.block 1 (.seq (.reg [mv 13 11,(none,.iaddr 14 (S 9) (S 11) 3),(none,.load 15 (S 14) true 3),(none,.alloc 7 [aI 0,aI 0,aI 0]),mv 6 13,(none,.store (S 7) (S 15) 3)]) (.seq (.reg [fa 16 7 0,ld 17 16,mv 18 1,bn 19 .leq 17 18]) (.cond (S 19) (.reg [mv 20 6,mv 5 20]) .skip)))) (.reg [(none,.bin 21 .add (S 11) (K 1)),mv 11 21]))))
def C0n : ACode := (.seq (.reg [mv 22 5,mv 4 22]) .ret)
def cc244 : ACode := (.seq (.reg [(none,.box 2 (S 0)),(none,.mv 4 (K 0))]) (.seq (.reg [(none,.mv 5 (K 0))]) (.seq (.seq (.reg [fa 8 2 2,ld 9 8,(none,.len 10 (S 9)),(none,.mv 11 (K 0))]) (.block 0 (.loop B5o))) C0n)))
theorem D8f (a1 : Int) (a0 : XForecast) : ∀ (n : Nat) (v1 : Int) (v2 : Int) (r : Int),E6 a1 a0 n v1 v2 = some r → ∀ σ : St,σ.kept [1,5,9,10,11] [] [] = ⟨[(1,vc (aI a1)),(5,vc (aI v1)),(9,vc (aL (List.map XSurge.row a0.Surges))),(10,vc (aI (a0.Surges.length : Int))),(11,vc (aI v2))],[],[]⟩ → go Try.prog (.code (.loop B5o) :: [.blk 0,.code C0n]) (Ret [4] [.sc (.v (.int .i64 r))]) .normal (some σ) := by
 intro n
 induction n with
 | zero => intro _ _ r h; cases h
 | succ n ih =>
  intro v1 v2 r h σ hσ
  rw [E6] at h
  refine B8 ?_
  rcases ug (decide (v2 < (a0.Surges.length : Int))) with hb3 | hb3
  ·rw [A4 hb3] at h
   obtain ⟨x4,hx4,h⟩ := ob h
   try simp only [hσ,hb3,hx4,B5o,ua,ub,uc,ud,ue,RR]
   refine D2 rfl rfl ?_
   rcases ug (decide (x4.From ≤ a1)) with hb5 | hb5
   ·rw [A4 hb5] at h
    try simp only [hb3,hx4,hb5,ua,ub,uc,ud,ue,RR]
    refine ih _ _ _ h _ ?_
    try simp only [hb3,hx4,hb5,ua,ub,uc,ud,ue,RR,List.map_nil]
   ·rw [A3 hb5] at h
    try simp only [hb3,hx4,hb5,ua,ub,uc,ud,ue,RR]
    refine ih _ _ _ h _ ?_
    try simp only [hb3,hx4,hb5,ua,ub,uc,ud,ue,RR,List.map_nil]
  ·rw [A3 hb3] at h
   try simp only [hσ,hb3,B5o,C0n,ua,ub,uc,ud,ue,RR]
   cases h
   exact ⟨⟨rfl,trivial⟩,rfl⟩
theorem E1b : A9 Try.prog 58 = some (cc244.strip,[4],23) := by kernel_rfl
theorem A2v (a0 : XForecast) (a1 : Int) (r : Int) (h : O6 a0 a1 = some r) : FC Try.prog 58 [.ag (XForecast.row a0),.sc (.int .i64 a1)] [.sc (.v (.int .i64 r))] := by
 unfold O6 at h
 refine B9 (σ := ⟨[(0,va [aI a0.Tide.Mean,aL (List.map XPart.row a0.Tide.Parts),aL (List.map XSurge.row a0.Surges)]),(1,vc (aI a1))],[],[]⟩) B3 E1b rfl rfl ?_
 simp only [cc244]
 try simp only [ua,ub,uc,ud,ue,RR]
 refine B5 rfl rfl rfl ?_
 try simp only [ua,ub,uc,ud,ue,RR]
 refine D8f _ _ _ _ _ _ h _ ?_
 try simp only [ua,ub,uc,ud,ue,RR,List.map_nil]
/- 26: impl_Forecast_low -/
def cc247 : ACode := (.seq (.reg [(none,.box 2 (S 0)),(none,.mv 4 (K 0))]) (.seq (.drw [(some [],fa 5 2 0),(some [],(none,.load 6 (S 5) true 2)),(some [],mv 7 1),(some [],(none,.call 8 57 [(S 6),(S 7)])),(some [8,13],fa 9 2 2),(some [8,13],ld 10 9),(some [8],(none,.load 11 (S 2) true 3)),(some [8],mv 12 1),(some [],(none,.call 13 58 [(S 11),(S 12)])),(some [],(none,.iaddr 14 (S 10) (S 13) 3)),(some [],fa 15 14 1),(some [],ld 16 15),(some [],bn 17 .add 8 16),(some [],mv 4 17)]) .ret))
theorem D8x : A9 Try.prog 26 = some (cc247.strip,[4],18) := by kernel_rfl
theorem Y6 (a0 : XForecast) (a1 : Int) (r : Int) (h : E7 a0 a1 = some r) : FC Try.prog 26 [.ag (XForecast.row a0),.sc (.int .i64 a1)] [.sc (.v (.int .i64 r))] := by
 unfold E7 at h
 refine B9 (σ := ⟨[(0,va [aI a0.Tide.Mean,aL (List.map XPart.row a0.Tide.Parts),aL (List.map XSurge.row a0.Surges)]),(1,vc (aI a1))],[],[]⟩) B3 D8x rfl rfl ?_
 simp only [cc247]
 try simp only [ua,ub,uc,ud,ue,RR]
 refine B5 rfl rfl rfl ?_
 try simp only [ua,ub,uc,ud,ue,RR]
 refine B7 rfl ?_
 obtain ⟨r1,hr1,h⟩ := ob h
 try simp only [ua,ub,uc,ud,ue,RR]
 refine D4 (A4m _ _ _ hr1) rfl rfl (uf rfl) ?_
 obtain ⟨r2,hr2,h⟩ := ob h
 try simp only [ua,ub,uc,ud,ue,RR]
 refine D4 (A2v _ _ _ hr2) rfl rfl (uf rfl) ?_
 obtain ⟨x3,hx3,h⟩ := ob h
 try simp only [hx3,ua,ub,uc,ud,ue,RR]
 cases h
 exact ⟨⟨rfl,trivial⟩,rfl⟩
/- 90: impl_LowWindows_1 -/
def cc249 : ACode := (.seq (.reg [(none,.mv 4 (KB false))]) (.seq (.drw [(some [],(none,.load 5 (S 1) true 3)),(some [],mv 6 0),(some [],(none,.call 7 26 [(S 5),(S 6)])),(some [7],ld 8 2),(some [],bn 9 .geq 7 8),(some [],mv 4 9)]) .ret))
theorem E1j : A9 Try.prog 90 = some (cc249.strip,[4],10) := by kernel_rfl
theorem D63 (a0 : Int) (c0 : XForecast) (c1 : Int) (r : Bool) (h : Q8 a0 c0 c1 = some r) : FC Try.prog 90 [.sc (.int .i64 a0),.sc (.pd (XForecast.row c0)),.sc (.pd (rI c1))] [.sc (.v (.bool r))] := by
 unfold Q8 at h
 refine B9 (σ := ⟨[(0,vc (aI a0)),(1,vc (.dat (.pd [.int .i64 c0.Tide.Mean,.sl (List.map XPart.row c0.Tide.Parts),.sl (List.map XSurge.row c0.Surges)]))),(2,vc (.dat (.pd [.int .i64 c1])))],[],[]⟩) B3 E1j rfl rfl ?_
 simp only [cc249]
 try simp only [ua,ub,uc,ud,ue,RR]
 refine B7 rfl ?_
 obtain ⟨r1,hr1,h⟩ := ob h
 try simp only [ua,ub,uc,ud,ue,RR]
 refine D4 (Y6 _ _ _ hr1) rfl rfl (uf rfl) ?_
 try simp only [ua,ub,uc,ud,ue,RR]
 cases h
 exact ⟨⟨rfl,trivial⟩,rfl⟩
/- 85: impl_LowWindows -/
def cc252 : ACode := (.seq (.reg [(none,.box 2 (S 0)),(none,.box 3 (S 1)),(none,.mv 4 KN)]) (.seq (.seq (.reg [(none,.load 5 (S 2) true 3),(none,.call 6 22 [(S 5)]),(none,.un 7 .not (S 6))]) (.cond (S 7) (.seq (.reg [(none,.mv 4 KN)]) .ret) .skip)) (.seq (.reg [(none,.mkf 8 90 [(S 2),(S 3)]),(none,.call 9 89 [(S 8)]),mv 4 9]) .ret)))
theorem D8s : A9 Try.prog 85 = some (cc252.strip,[4],10) := by kernel_rfl
theorem A9n (a0 : XForecast) (a1 : Int) (r : (List XWindow)) (h : A0g a0 a1 = some r) : FC Try.prog 85 [.ag (XForecast.row a0),.sc (.int .i64 a1)] [.sc (.o 2 (List.map XWindow.row r))] := by
 unfold A0g at h
 refine B9 (σ := ⟨[(0,va [aI a0.Tide.Mean,aL (List.map XPart.row a0.Tide.Parts),aL (List.map XSurge.row a0.Surges)]),(1,vc (aI a1))],[],[]⟩) B3 D8s rfl rfl ?_
 simp only [cc252]
 try simp only [ua,ub,uc,ud,ue,RR]
 refine B5 rfl rfl rfl ?_
 try simp only [ua,ub,uc,ud,ue,RR]
 refine B5 rfl rfl rfl ?_
 obtain ⟨r1,hr1,h⟩ := ob h
 try simp only [ua,ub,uc,ud,ue,RR]
 refine A6 (V4 _ _ hr1) rfl rfl (uf rfl) ?_
 rcases ug r1 with hb2 | hb2
 ·rw [A4 hb2] at h
  obtain ⟨r3,hr3,h⟩ := ob h
  try simp only [hb2,ua,ub,uc,ud,ue,RR]
  refine A6o (B0i _ _ 90 [.pd (XForecast.row a0),.pd (rI a1)] (by kernel_rfl) (fun z0 zr zh => D63 z0 a0 a1 zr zh) hr3) rfl (B1t rfl ⟨B11,trivial⟩) rfl (uf rfl) ?_
  try simp only [hb2,ua,ub,uc,ud,ue,RR]
  cases h
  exact ⟨⟨rfl,trivial⟩,rfl⟩
 ·rw [A3 hb2] at h
  try simp only [hb2,ua,ub,uc,ud,ue,RR]
  cases h
  exact ⟨⟨rfl,trivial⟩,rfl⟩
/- 25: impl_MinutesOn -/
def cc254 : ACode := (.seq (.reg [(none,.box 3 (S 0)),(none,.box 5 (S 2)),(none,.mv 6 (K 0))]) (.seq (.seq (.reg [(none,.load 7 (S 3) true 2),(none,.call 8 47 [(S 7)]),(none,.un 9 .not (S 8)),mv 10 9,(some (10,false),.load 11 (S 5) true 6),(some (10,false),.call 12 55 [(S 11)]),(some (10,false),.un 13 .not (S 12)),(none,.pick 14 (S 10) (KB true) (S 13)),mv 15 14,(some (15,false),.mv 16 (S 1)),(some (15,false),.faddr 17 (S 3) 1),(some (15,false),.load 18 (S 17) false 1),(some (15,false),.len 19 (S 18)),(some (15,false),.call 20 51 [(S 16),(S 19)]),(some (15,false),.un 21 .not (S 20)),(none,.pick 22 (S 15) (KB true) (S 21))]) (.cond (S 22) (.seq (.reg [(none,.mv 6 (K 0))]) .ret) .skip)) (.seq (.drw [(some [],(none,.load 23 (S 5) true 6)),(some [],fa 24 3 1),(some [],ld 25 24),(some [],mv 26 1),(some [],(none,.iaddr 27 (S 25) (S 26) 5)),(some [],(none,.load 28 (S 27) true 5)),(some [],(none,.call 29 56 [(S 23),(S 28)])),(some [],mv 6 29)]) .ret)))
theorem D89 : A9 Try.prog 25 = some (cc254.strip,[6],30) := by kernel_rfl
theorem A43 (a0 : XChart) (a1 : Int) (a2 : XShip) (r : Int) (h : R9 a0 a1 a2 = some r) : FC Try.prog 25 [.ag (XChart.row a0),.sc (.int .i64 a1),.ag (XShip.row a2)] [.sc (.v (.int .i64 r))] := by
 unfold R9 at h
 refine B9 (σ := ⟨[(0,va [aL (List.map XPoint.row a0.Points),aL (List.map XSegment.row a0.Segments)]),(1,vc (aI a1)),(2,va [aS a2.Name,aI a2.Length,aI a2.Draught,aI a2.Line,aI a2.Tugs,aB a2.Slow])],[],[]⟩) B3 D89 rfl rfl ?_
 simp only [cc254]
 try simp only [ua,ub,uc,ud,ue,RR]
 refine B5 rfl rfl rfl ?_
 try simp only [ua,ub,uc,ud,ue,RR]
 refine B5 rfl rfl rfl ?_
 obtain ⟨r1,hr1,h⟩ := ob h
 try simp only [ua,ub,uc,ud,ue,RR]
 refine A6 (S0 _ _ hr1) rfl rfl (uf rfl) ?_
 rcases ug r1 with hb2 | hb2
 ·rw [A4 hb2] at h
  obtain ⟨r3,hr3,h⟩ := ob h
  try simp only [hb2,ua,ub,uc,ud,ue,RR]
  refine A6 (Y9 _ _ hr3) rfl rfl (uf rfl) ?_
  rcases ug r3 with hb4 | hb4
  ·rw [A4 hb4] at h
   obtain ⟨r5,hr5,h⟩ := ob h
   try simp only [hb2,hb4,ua,ub,uc,ud,ue,RR]
   refine A6 (F0 _ _ _ hr5) rfl rfl (uf rfl) ?_
   rcases ug r5 with hb6 | hb6
   ·rw [A4 hb6] at h
    try simp only [hb2,hb4,hb6,ua,ub,uc,ud,ue,RR]
    refine B7 rfl ?_
    obtain ⟨x7,hx7,h⟩ := ob h
    obtain ⟨r9,hr9,h⟩ := ob h
    try simp only [hb2,hb4,hb6,hx7,ua,ub,uc,ud,ue,RR]
    refine D4 (Q9 _ _ _ hr9) rfl rfl (uf rfl) ?_
    try simp only [hb2,hb4,hb6,hx7,ua,ub,uc,ud,ue,RR]
    cases h
    exact ⟨⟨rfl,trivial⟩,rfl⟩
   ·rw [A3 hb6] at h
    try simp only [hb2,hb4,hb6,ua,ub,uc,ud,ue,RR]
    cases h
    exact ⟨⟨rfl,trivial⟩,rfl⟩
  ·rw [A3 hb4] at h
   try simp only [hb2,hb4,ua,ub,uc,ud,ue,RR]
   cases h
   exact ⟨⟨rfl,trivial⟩,rfl⟩
 ·rw [A3 hb2] at h
  try simp only [hb2,ua,ub,uc,ud,ue,RR]
  cases h
  exact ⟨⟨rfl,trivial⟩,rfl⟩
/- 86: impl_WindowsOk -/
def B5z : ACode := .seq (.reg [(none,.keep [0,5,6,7] [] [])]) (.seq (.reg [bn 8 .lss 7 6]) (.seq (.cond (S 8) .skip (.exit 0)) (.seq (.block 1 (.seq (.reg [mv 9 7,(none,.iaddr 10 (S 5) (S 7) 2),(none,.load 11 (S 10) true 2),(none,.alloc 4 [aI 0,aI 0]),mv 3 9,(none,.store (S 4) (S 11) 2)]) (.seq (.drw [(some [],fa 12 4 0),(some [],ld 13 12),(some [],(none,.bin 14 .lss (S 13) (K 0))),(some [],mv 15 14),(some [],(some (15,false),.faddr 16 (S 4) 0)),(some [],(some (15,false),.load 17 (S 16) false 1)),(some [],(some (15,false),.faddr 18 (S 4) 1)),(some [],(some (15,false),.load 19 (S 18) false 1)),(some [],(some (15,false),.bin 20 .gtr (S 17) (S 19))),(some [],(none,.pick 21 (S 15) (KB true) (S 20))),(some [],mv 22 21),(some [],(some (22,false),.faddr 23 (S 4) 1)),(some [],(some (22,false),.load 24 (S 23) false 1)),(some [],(some (22,false),.bin 25 .gtr (S 24) (K 2880))),(some [],(none,.pick 26 (S 22) (KB true) (S 25))),(some [],mv 27 26),(some [],(some (27,false),.mv 28 (S 3))),(some [],(some (27,false),.bin 29 .gtr (S 28) (K 0))),(some [],(some (27,false),.mv 30 (S 29))),(some [],(some (30,true),.mv 31 (S 0))),(some [],(some (30,true),.mv 32 (S 3))),(some [],(some (30,true),.bin 33 .sub (S 32) (K 1))),(some [],(some (30,true),.iaddr 34 (S 31) (S 33) 2)),(some [],(some (30,true),.faddr 35 (S 34) 1)),(some [],(some (30,true),.load 36 (S 35) false 1)),(some [],(some (30,true),.bin 37 .add (S 36) (K 1))),(some [],(some (30,true),.faddr 38 (S 4) 0)),(some [],(some (30,true),.load 39 (S 38) false 1)),(some [],(some (30,true),.bin 40 .geq (S 37) (S 39))),(some [],(some (27,false),.pick 41 (S 30) (S 40) (KB false))),(some [],(none,.pick 42 (S 27) (KB true) (S 41)))]) (.cond (S 42) (.seq (.reg [(none,.mv 2 (KB false))]) .ret) .skip)))) (.reg [(none,.bin 43 .add (S 7) (K 1)),mv 7 43]))))
def B92 : ACode := (.seq (.reg [(none,.mv 2 (KB true))]) .ret)
def cc258 : ACode := (.seq (.reg [(none,.mv 2 (KB false))]) (.seq (.seq (.reg [mv 5 0,(none,.len 6 (S 5)),(none,.mv 7 (K 0))]) (.block 0 (.loop B5z))) B92))
theorem D7l (a0 : List XWindow) : ∀ (n : Nat) (v1 : Int) (r : Bool),I9 a0 n v1 = some r → ∀ σ : St,σ.kept [0,5,6,7] [] [] = ⟨[(0,vc (aL (List.map XWindow.row a0))),(5,vc (aL (List.map XWindow.row a0))),(6,vc (aI (a0.length : Int))),(7,vc (aI v1))],[],[]⟩ → go Try.prog (.code (.loop B5z) :: [.blk 0,.code B92]) (Ret [2] [.sc (.v (.bool r))]) .normal (some σ) := by
 intro n
 induction n with
 | zero => intro _ r h; cases h
 | succ n ih =>
  intro v1 r h σ hσ
  rw [I9] at h
  refine B8 ?_
  rcases ug (decide (v1 < (a0.length : Int))) with hb2 | hb2
  ·rw [A4 hb2] at h
   obtain ⟨x3,hx3,h⟩ := ob h
   try simp only [hσ,hb2,hx3,B5z,ua,ub,uc,ud,ue,RR]
   refine D2 rfl rfl ?_
   try simp only [hb2,hx3,ua,ub,uc,ud,ue,RR]
   refine B7 rfl ?_
   rcases ug (decide (x3.From < (0 : Int))) with hb4 | hb4
   ·rw [A4 hb4] at h
    try simp only [hb2,hx3,hb4,ua,ub,uc,ud,ue,RR]
    cases h
    exact ⟨⟨rfl,trivial⟩,rfl⟩
   ·rw [A3 hb4] at h
    rcases ug (decide (x3.To < x3.From)) with hb5 | hb5
    ·rw [A4 hb5] at h
     try simp only [hb2,hx3,hb4,hb5,ua,ub,uc,ud,ue,RR]
     cases h
     exact ⟨⟨rfl,trivial⟩,rfl⟩
    ·rw [A3 hb5] at h
     rcases ug (decide ((2880 : Int) < x3.To)) with hb6 | hb6
     ·rw [A4 hb6] at h
      try simp only [hb2,hx3,hb4,hb5,hb6,ua,ub,uc,ud,ue,RR]
      cases h
      exact ⟨⟨rfl,trivial⟩,rfl⟩
     ·rw [A3 hb6] at h
      rcases ug (decide ((0 : Int) < v1)) with hb7 | hb7
      ·rw [A4 hb7] at h
       obtain ⟨x8,hx8,h⟩ := ob h
       rcases ug (decide (x3.From ≤ (IntKind.i64.wrap (x8.To + (1 : Int))))) with hb9 | hb9
       ·rw [A4 hb9] at h
        try simp only [hb2,hx3,hb4,hb5,hb6,hb7,hx8,hb9,ua,ub,uc,ud,ue,RR]
        cases h
        exact ⟨⟨rfl,trivial⟩,rfl⟩
       ·rw [A3 hb9] at h
        try simp only [hb2,hx3,hb4,hb5,hb6,hb7,hx8,hb9,ua,ub,uc,ud,ue,RR]
        refine ih _ _ h _ ?_
        try simp only [hb2,hx3,hb4,hb5,hb6,hb7,hx8,hb9,ua,ub,uc,ud,ue,RR,List.map_nil]
      ·rw [A3 hb7] at h
       try simp only [hb2,hx3,hb4,hb5,hb6,hb7,ua,ub,uc,ud,ue,RR]
       refine ih _ _ h _ ?_
       try simp only [hb2,hx3,hb4,hb5,hb6,hb7,ua,ub,uc,ud,ue,RR,List.map_nil]
  ·rw [A3 hb2] at h
   try simp only [hσ,hb2,B5z,B92,ua,ub,uc,ud,ue,RR]
   cases h
   exact ⟨⟨rfl,trivial⟩,rfl⟩
theorem D7t : A9 Try.prog 86 = some (cc258.strip,[2],44) := by kernel_rfl
theorem A45 (a0 : List XWindow) (r : Bool) (h : X5 a0 = some r) : FC Try.prog 86 [.sc (.sl (List.map XWindow.row a0))] [.sc (.v (.bool r))] := by
 unfold X5 at h
 refine B9 (σ := ⟨[(0,vc (aL (List.map XWindow.row a0)))],[],[]⟩) B3 D7t rfl rfl ?_
 simp only [cc258]
 try simp only [ua,ub,uc,ud,ue,RR]
 refine D7l _ _ _ _ h _ ?_
 try simp only [ua,ub,uc,ud,ue,RR,List.map_nil]
/- 84: impl_ShrinkWindows -/
def B5c : ACode := .seq (.reg [(none,.keep [1,5,17,18,19] [] [1024])]) (.seq (.reg [bn 20 .lss 19 18]) (.seq (.cond (S 20) .skip (.exit 0)) (.seq (.block 1 (.seq (.reg [(none,.iaddr 21 (S 17) (S 19) 2),(none,.load 22 (S 21) true 2),(none,.alloc 7 [aI 0,aI 0]),(none,.store (S 7) (S 22) 2)]) (.seq (.reg [fa 23 7 1,ld 24 23,fa 25 7 0,ld 26 25,bn 27 .sub 24 26,mv 28 1,bn 29 .geq 27 28]) (.cond (S 29) (.reg [mv 30 5,fa 31 7 0,ld 32 31,fa 33 7 1,ld 34 33,mv 35 1,bn 36 .sub 34 35,(none,.build 37 [aI 0,aI 0] [(0,1,(S 32)),(1,1,(S 36))]),(none,.bslice 38 2 [.int .i64 0,.int .i64 0] 1 [(0,(S 37))]),(none,.app 39 2 16 (S 30) (S 38)),mv 5 39]) .skip)))) (.reg [(none,.bin 40 .add (S 19) (K 1)),mv 19 40]))))
def C18 : ACode := (.seq (.reg [mv 41 5,mv 4 41]) .ret)
def cc263 : ACode := (.seq (.reg [(none,.mv 4 KN)]) (.seq (.seq (.reg [mv 8 0,(none,.call 9 86 [(S 8)]),(none,.un 10 .not (S 9)),mv 11 10,(some (11,false),.mv 12 (S 1)),(some (11,false),.call 13 24 [(S 12)]),(some (11,false),.un 14 .not (S 13)),(none,.pick 15 (S 11) (KB true) (S 14))]) (.cond (S 15) (.seq (.reg [(none,.mv 4 KN)]) .ret) .skip)) (.seq (.reg [(none,.bslice 16 2 [.int .i64 0,.int .i64 0] 0 []),mv 5 16]) (.seq (.seq (.reg [mv 17 0,(none,.len 18 (S 17)),(none,.mv 19 (K 0))]) (.block 0 (.loop B5c))) C18))))
theorem D61 (a1 : Int) (a0 : List XWindow) : ∀ (n : Nat) (v5 : Int) (v6 : List XWindow) (r : (List XWindow)),G0 a1 a0 n v5 v6 = some r → ∀ σ : St,σ.kept [1,5,17,18,19] [] [1024] = ⟨[(1,vc (aI a1)),(5,vc (.own 1024)),(17,vc (aL (List.map XWindow.row a0))),(18,vc (aI (a0.length : Int))),(19,vc (aI v5))],[],[(1024,2,List.map XWindow.row v6)]⟩ → go Try.prog (.code (.loop B5c) :: [.blk 0,.code C18]) (Ret [4] [.sc (.o 2 (List.map XWindow.row r))]) .normal (some σ) := by
 intro n
 induction n with
 | zero => intro _ _ r h; cases h
 | succ n ih =>
  intro v5 v6 r h σ hσ
  rw [G0] at h
  refine B8 ?_
  rcases ug (decide (v5 < (a0.length : Int))) with hb7 | hb7
  ·rw [A4 hb7] at h
   obtain ⟨x8,hx8,h⟩ := ob h
   try simp only [hσ,hb7,hx8,B5c,ua,ub,uc,ud,ue,RR]
   refine D2 rfl rfl ?_
   rcases ug (decide (a1 ≤ (IntKind.i64.wrap (x8.To - x8.From)))) with hb9 | hb9
   ·rw [A4 hb9] at h
    try simp only [hb7,hx8,hb9,ua,ub,uc,ud,ue,RR]
    refine E8 (es := List.map XWindow.row ([(⟨x8.From,(IntKind.i64.wrap (x8.To - a1))⟩ : XWindow)] : List XWindow)) rfl rfl ?_
    obtain ⟨hg10,h⟩ := E3 h
    try simp only [hb7,hx8,hb9,hg10,ua,ub,uc,ud,ue,RR]
    refine ih _ _ _ h _ ?_
    try simp only [hb7,hx8,hb9,hg10,ua,ub,uc,ud,ue,RR,List.map_nil]
   ·rw [A3 hb9] at h
    try simp only [hb7,hx8,hb9,ua,ub,uc,ud,ue,RR]
    refine ih _ _ _ h _ ?_
    try simp only [hb7,hx8,hb9,ua,ub,uc,ud,ue,RR,List.map_nil]
  ·rw [A3 hb7] at h
   try simp only [hσ,hb7,B5c,C18,ua,ub,uc,ud,ue,RR]
   cases h
   exact ⟨⟨rfl,trivial⟩,rfl⟩
theorem D9s : A9 Try.prog 84 = some (cc263.strip,[4],42) := by kernel_rfl
theorem A7f (a0 : List XWindow) (a1 : Int) (r : (List XWindow)) (h : P5 a0 a1 = some r) : FC Try.prog 84 [.sc (.sl (List.map XWindow.row a0)),.sc (.int .i64 a1)] [.sc (.o 2 (List.map XWindow.row r))] := by
 unfold P5 at h
 refine B9 (σ := ⟨[(0,vc (aL (List.map XWindow.row a0))),(1,vc (aI a1))],[],[]⟩) B3 D9s rfl rfl ?_
 simp only [cc263]
 obtain ⟨r1,hr1,h⟩ := ob h
 try simp only [ua,ub,uc,ud,ue,RR]
 refine A6 (A45 _ _ hr1) rfl rfl (uf rfl) ?_
 rcases ug r1 with hb2 | hb2
 ·rw [A4 hb2] at h
  obtain ⟨r3,hr3,h⟩ := ob h
  try simp only [hb2,ua,ub,uc,ud,ue,RR]
  refine A6 (N4 _ _ hr3) rfl rfl (uf rfl) ?_
  rcases ug r3 with hb4 | hb4
  ·rw [A4 hb4] at h
   try simp only [hb2,hb4,ua,ub,uc,ud,ue,RR]
   refine E8 (es := List.map XWindow.row ([] : List XWindow)) rfl rfl ?_
   try simp only [hb2,hb4,ua,ub,uc,ud,ue,RR]
   refine D61 _ _ _ _ _ _ h _ ?_
   try simp only [hb2,hb4,ua,ub,uc,ud,ue,RR,List.map_nil]
  ·rw [A3 hb4] at h
   try simp only [hb2,hb4,ua,ub,uc,ud,ue,RR]
   cases h
   exact ⟨⟨rfl,trivial⟩,rfl⟩
 ·rw [A3 hb2] at h
  try simp only [hb2,ua,ub,uc,ud,ue,RR]
  cases h
  exact ⟨⟨rfl,trivial⟩,rfl⟩
/- 68: impl_SureStarts -/
def cc266 : ACode := (.seq (.reg [(none,.box 4 (S 0)),(none,.box 5 (S 1)),(none,.box 7 (S 3)),(none,.mv 8 KN)]) (.seq (.seq (.reg [(none,.load 9 (S 4) true 3),(none,.call 10 22 [(S 9)]),(none,.un 11 .not (S 10)),mv 12 11,(some (12,false),.load 13 (S 5) true 2),(some (12,false),.mv 14 (S 2)),(some (12,false),.load 15 (S 7) true 6),(some (12,false),.call 16 23 [(S 13),(S 14),(S 15)]),(some (12,false),.un 17 .not (S 16)),(none,.pick 18 (S 12) (KB true) (S 17))]) (.cond (S 18) (.seq (.reg [(none,.mv 8 KN)]) .ret) .skip)) (.seq (.drw [(some [23],(none,.load 19 (S 4) true 3)),(some [],(none,.load 20 (S 5) true 2)),(some [],mv 21 2),(some [],(none,.load 22 (S 7) true 6)),(some [],(none,.call 23 27 [(S 20),(S 21),(S 22)])),(some [],(none,.call 24 85 [(S 19),(S 23)])),(some [23,24],(none,.load 25 (S 5) true 2)),(some [23,24],mv 26 2),(some [23,24],(none,.load 27 (S 7) true 6)),(some [],(none,.call 28 25 [(S 25),(S 26),(S 27)])),(some [],(none,.call 29 84 [(S 24),(S 28)])),(some [],mv 8 29)]) .ret)))
theorem D93 : A9 Try.prog 68 = some (cc266.strip,[8],30) := by kernel_rfl
theorem A9i (a0 : XForecast) (a1 : XChart) (a2 : Int) (a3 : XShip) (r : (List XWindow)) (h : V6 a0 a1 a2 a3 = some r) : FC Try.prog 68 [.ag (XForecast.row a0),.ag (XChart.row a1),.sc (.int .i64 a2),.ag (XShip.row a3)] [.sc (.o 2 (List.map XWindow.row r))] := by
 unfold V6 at h
 refine B9 (σ := ⟨[(0,va [aI a0.Tide.Mean,aL (List.map XPart.row a0.Tide.Parts),aL (List.map XSurge.row a0.Surges)]),(1,va [aL (List.map XPoint.row a1.Points),aL (List.map XSegment.row a1.Segments)]),(2,vc (aI a2)),(3,va [aS a3.Name,aI a3.Length,aI a3.Draught,aI a3.Line,aI a3.Tugs,aB a3.Slow])],[],[]⟩) B3 D93 rfl rfl ?_
 simp only [cc266]
 try simp only [ua,ub,uc,ud,ue,RR]
 refine B5 rfl rfl rfl ?_
 try simp only [ua,ub,uc,ud,ue,RR]
 refine B5 rfl rfl rfl ?_
 try simp only [ua,ub,uc,ud,ue,RR]
 refine B5 rfl rfl rfl ?_
 obtain ⟨r1,hr1,h⟩ := ob h
 try simp only [ua,ub,uc,ud,ue,RR]
 refine A6 (V4 _ _ hr1) rfl rfl (uf rfl) ?_
 rcases ug r1 with hb2 | hb2
 ·rw [A4 hb2] at h
  obtain ⟨r3,hr3,h⟩ := ob h
  try simp only [hb2,ua,ub,uc,ud,ue,RR]
  refine A6 (A2r _ _ _ _ hr3) rfl rfl (uf rfl) ?_
  rcases ug r3 with hb4 | hb4
  ·rw [A4 hb4] at h
   try simp only [hb2,hb4,ua,ub,uc,ud,ue,RR]
   refine B7 rfl ?_
   obtain ⟨r5,hr5,h⟩ := ob h
   try simp only [hb2,hb4,ua,ub,uc,ud,ue,RR]
   refine D4 (A1n _ _ _ _ hr5) rfl rfl (uf rfl) ?_
   obtain ⟨r6,hr6,h⟩ := ob h
   try simp only [hb2,hb4,ua,ub,uc,ud,ue,RR]
   refine D4 (A9n _ _ _ hr6) rfl rfl (uf rfl) ?_
   obtain ⟨r7,hr7,h⟩ := ob h
   try simp only [hb2,hb4,ua,ub,uc,ud,ue,RR]
   refine D4 (A43 _ _ _ _ hr7) rfl rfl (uf rfl) ?_
   obtain ⟨r9,hr9,h⟩ := ob h
   try simp only [hb2,hb4,ua,ub,uc,ud,ue,RR]
   refine A47 (A7f _ _ _ hr9) (by first | rfl | kernel_rfl) (B1t rfl ⟨B11,trivial⟩) rfl (uf rfl) ?_
   try simp only [hb2,hb4,ua,ub,uc,ud,ue,RR]
   cases h
   exact ⟨⟨rfl,trivial⟩,rfl⟩
  ·rw [A3 hb4] at h
   try simp only [hb2,hb4,ua,ub,uc,ud,ue,RR]
   cases h
   exact ⟨⟨rfl,trivial⟩,rfl⟩
 ·rw [A3 hb2] at h
  try simp only [hb2,ua,ub,uc,ud,ue,RR]
  cases h
  exact ⟨⟨rfl,trivial⟩,rfl⟩
/- 43: impl_voyageOf -/
def B5t : ACode := .seq (.reg [(none,.keep [3,4,5,6,7,10,34] [5,6,7,10] [])]) (.cond (S 34) (.seq (.reg [(none,.build 35 [.nil,.nil,.nil] []),(none,.store (S 10) (S 35) 3),(none,.mv 11 (KB false))]) .ret) .skip)
def B4v : ACode := .seq (.reg [(none,.keep [4,5,6,7,10,12,43,44,45] [5,6,7,10,12] [140288,140352,140416])]) (.seq (.reg [bn 46 .lss 45 44]) (.seq (.cond (S 46) .skip (.exit 0)) (.seq (.block 1 (.seq (.reg [mv 47 45,(none,.iaddr 48 (S 43) (S 45) 1),ld 49 48,mv 13 47,mv 14 49]) (.seq (.drw [(some [58],fa 50 12 0),(some [58],ld 51 50),(some [],fa 52 6 0),(some [],ld 53 52),(some [],mv 54 14),(some [],(none,.iaddr 55 (S 53) (S 54) 2)),(some [],fa 56 55 1),(some [],ld 57 56),(some [],(none,.bslice 58 1 [.bool false] 1 [(0,(S 57))])),(none,(none,.app 59 1 1 (S 51) (S 58))),(some [],fa 60 12 0),(none,(none,.store (S 60) (S 59) 1))]) (.seq (.drw [(some [72,73],fa 61 12 1),(some [72,73],ld 62 61),(some [],(none,.load 63 (S 7) true 6)),(some [],fa 64 6 1),(some [],ld 65 64),(some [],mv 66 4),(some [],mv 67 13),(some [],(none,.iaddr 68 (S 66) (S 67) 1)),(some [],ld 69 68),(some [],(none,.iaddr 70 (S 65) (S 69) 5)),(some [],(none,.load 71 (S 70) true 5)),(some [],(none,.call 72 56 [(S 63),(S 71)])),(some [],(none,.bslice 73 1 [.int .i64 0] 1 [(0,(S 72))])),(none,(none,.app 74 1 8 (S 62) (S 73))),(some [],fa 75 12 1),(none,(none,.store (S 75) (S 74) 1))]) (.drw [(some [85,86],fa 76 12 2),(some [85,86],ld 77 76),(some [],(none,.load 78 (S 5) true 3)),(some [],(none,.load 79 (S 6) true 2)),(some [],mv 80 4),(some [],mv 81 13),(some [],(none,.iaddr 82 (S 80) (S 81) 1)),(some [],ld 83 82),(some [],(none,.load 84 (S 7) true 6)),(some [],(none,.call 85 68 [(S 78),(S 79),(S 83),(S 84)])),(some [],(none,.bslice 86 1 [.sl []] 1 [(0,(S 85))])),(none,(none,.app 87 1 24 (S 77) (S 86))),(some [],fa 88 12 2),(none,(none,.store (S 88) (S 87) 1))]))))) (.reg [(none,.bin 89 .add (S 45) (K 1)),mv 45 89]))))
def C1l : ACode := (.seq (.reg [(none,.load 90 (S 12) true 3),(none,.store (S 10) (S 90) 3),(none,.mv 11 (KB true))]) .ret)
def C0o : ACode := (.seq (.reg [(none,.build 36 [.nil,.nil,.nil] []),(none,.alloc 12 [.nil,.nil,.nil]),(none,.store (S 12) (S 36) 3),(none,.ownb 12 0 140288 1),(none,.ownb 12 1 140352 1),(none,.ownb 12 2 140416 1)]) (.seq (.seq (.reg [(none,.load 37 (S 6) true 2),mv 38 3,mv 39 4,(none,.call 40 42 [(S 37),(S 38),(S 39)]),mv 41 4,(none,.len 42 (S 41)),(none,.frz 2560),(none,.slc 43 1 (S 40) none (some (S 42)) none),(none,.len 44 (S 43)),(none,.mv 45 (K 0))]) (.block 0 (.loop B4v))) C1l))
def cc272 : ACode := (.seq (.reg [(none,.box 5 (S 0)),(none,.box 6 (S 1)),(none,.box 7 (S 2)),(none,.alloc 10 [.nil,.nil,.nil]),(none,.mv 11 (KB false))]) (.seq (.seq (.reg [(none,.load 15 (S 5) true 3),(none,.call 16 22 [(S 15)]),(none,.un 17 .not (S 16)),mv 18 17,(some (18,false),.load 19 (S 7) true 6),(some (18,false),.call 20 55 [(S 19)]),(some (18,false),.un 21 .not (S 20)),(none,.pick 22 (S 18) (KB true) (S 21)),mv 23 22,(some (23,false),.load 24 (S 6) true 2),(some (23,false),.mv 25 (S 3)),(some (23,false),.mv 26 (S 4)),(some (23,false),.call 27 67 [(S 24),(S 25),(S 26)]),(some (23,false),.un 28 .not (S 27)),(none,.pick 29 (S 23) (KB true) (S 28)),mv 30 29,(some (30,false),.mv 31 (S 4)),(some (30,false),.len 32 (S 31)),(some (30,false),.bin 33 .eql (S 32) (K 0)),(none,.pick 34 (S 30) (KB true) (S 33))]) B5t) C0o))
theorem E05 (a4 : List Int) (a0 : XForecast) (a1 : XChart) (a2 : XShip) (y11 : List Int) (y12 : Int) : ∀ (n : Nat) (v13 : Int) (v14 : List Bool) (v15 : List Int) (v16 : List (List XWindow)) (r : Xvoyage × Bool),N1 a4 a0 a1 a2 y11 y12 n v13 v14 v15 v16 = some r → ∀ σ : St,σ.kept [4,5,6,7,10,12,43,44,45] [5,6,7,10,12] [140288,140352,140416] = ⟨[(4,vc (aL (List.map rI a4))),(5,vc (.pb 5 0)),(6,vc (.pb 6 0)),(7,vc (.pb 7 0)),(10,vc (.pb 10 0)),(12,vc (.pb 12 0)),(43,vc (aL (List.map rI y11))),(44,vc (aI y12)),(45,vc (aI v13))],[(5,[aI a0.Tide.Mean,aL (List.map XPart.row a0.Tide.Parts),aL (List.map XSurge.row a0.Surges)]),(6,[aL (List.map XPoint.row a1.Points),aL (List.map XSegment.row a1.Segments)]),(7,[aS a2.Name,aI a2.Length,aI a2.Draught,aI a2.Line,aI a2.Tugs,aB a2.Slow]),(10,[.nil,.nil,.nil]),(12,[.own 140288,.own 140352,.own 140416])],[(140288,1,List.map rB v14),(140352,1,List.map rI v15),(140416,1,List.map (rL XWindow.row) v16)]⟩ → go Try.prog (.code (.loop B4v) :: [.blk 0,.code C1l]) (Ret [.c 10 true 3,11] [.ag [.o 1 (List.map rB r.1.waits),.o 1 (List.map rI r.1.minutes),.o 1 (List.map (rL XWindow.row) r.1.sure)],.sc (.v (.bool r.2))]) .normal (some σ) := by
 intro n
 induction n with
 | zero => intro _ _ _ _ r h; cases h
 | succ n ih =>
  intro v13 v14 v15 v16 r h σ hσ
  rw [N1] at h
  refine B8 ?_
  rcases ug (decide (v13 < y12)) with hb17 | hb17
  ·rw [A4 hb17] at h
   obtain ⟨x18,hx18,h⟩ := ob h
   try simp only [hσ,hb17,hx18,B4v,ua,ub,uc,ud,ue,RR]
   refine B7 rfl ?_
   obtain ⟨x19,hx19,h⟩ := ob h
   try simp only [hb17,hx18,hx19,ua,ub,uc,ud,ue,RR]
   refine E8 (es := List.map rB ([x19.Wait] : List Bool)) rfl rfl ?_
   obtain ⟨hg20,h⟩ := E3 h
   try simp only [hb17,hx18,hx19,hg20,ua,ub,uc,ud,ue,RR]
   refine B7 rfl ?_
   try simp only [hb17,hx18,hx19,hg20,ua,ub,uc,ud,ue,RR]
   refine B7 rfl ?_
   try simp only [hb17,hx18,hx19,hg20,ua,ub,uc,ud,ue,RR]
   refine B7 rfl ?_
   obtain ⟨x21,hx21,h⟩ := ob h
   obtain ⟨x22,hx22,h⟩ := ob h
   obtain ⟨r23,hr23,h⟩ := ob h
   try simp only [hb17,hx18,hx19,hg20,hx21,hx22,ua,ub,uc,ud,ue,RR]
   refine D4 (Q9 _ _ _ hr23) rfl rfl (uf rfl) ?_
   try simp only [hb17,hx18,hx19,hg20,hx21,hx22,ua,ub,uc,ud,ue,RR]
   refine E8 (es := List.map rI ([r23] : List Int)) rfl rfl ?_
   obtain ⟨hg24,h⟩ := E3 h
   try simp only [hb17,hx18,hx19,hg20,hx21,hx22,hg24,ua,ub,uc,ud,ue,RR]
   refine B7 rfl ?_
   try simp only [hb17,hx18,hx19,hg20,hx21,hx22,hg24,ua,ub,uc,ud,ue,RR]
   refine B7 rfl ?_
   try simp only [hb17,hx18,hx19,hg20,hx21,hx22,hg24,ua,ub,uc,ud,ue,RR]
   refine B7 rfl ?_
   obtain ⟨r25,hr25,h⟩ := ob h
   try simp only [hb17,hx18,hx19,hg20,hx21,hx22,hg24,ua,ub,uc,ud,ue,RR]
   refine D4 (FC.asV (rs' := [.sc (.v (.sl (List.map XWindow.row r25)))]) (A9i _ _ _ _ _ hr25) rfl) rfl rfl (uf rfl) ?_
   try simp only [hb17,hx18,hx19,hg20,hx21,hx22,hg24,ua,ub,uc,ud,ue,RR]
   refine E8 (es := List.map (rL XWindow.row) ([r25] : List (List XWindow))) rfl rfl ?_
   obtain ⟨hg26,h⟩ := E3 h
   try simp only [hb17,hx18,hx19,hg20,hx21,hx22,hg24,hg26,ua,ub,uc,ud,ue,RR]
   refine B7 rfl ?_
   try simp only [hb17,hx18,hx19,hg20,hx21,hx22,hg24,hg26,ua,ub,uc,ud,ue,RR]
   refine B7 rfl ?_
   try simp only [hb17,hx18,hx19,hg20,hx21,hx22,hg24,hg26,ua,ub,uc,ud,ue,RR]
   refine ih _ _ _ _ _ h _ ?_
   try simp only [hb17,hx18,hx19,hg20,hx21,hx22,hg24,hg26,ua,ub,uc,ud,ue,RR,List.map_nil]
  ·rw [A3 hb17] at h
   try simp only [hσ,hb17,B4v,C1l,ua,ub,uc,ud,ue,RR]
   cases h
   try simp only [T8,ua,ub,uc,ud,ue,RR]
   exact ⟨⟨⟨rfl,rfl,rfl,trivial⟩,rfl,trivial⟩,rfl⟩
theorem B5f (a3 : Int) (a4 : List Int) (a0 : XForecast) (a1 : XChart) (a2 : XShip) (v7 : Bool) (r : Xvoyage × Bool) (h : N2 a3 a4 a0 a1 a2 v7 = some r) (σ : St) (hσ : σ.kept [3,4,5,6,7,10,34] [5,6,7,10] [] = ⟨[(3,vc (aI a3)),(4,vc (aL (List.map rI a4))),(5,vc (.pb 5 0)),(6,vc (.pb 6 0)),(7,vc (.pb 7 0)),(10,vc (.pb 10 0)),(34,vc (aB v7))],[(5,[aI a0.Tide.Mean,aL (List.map XPart.row a0.Tide.Parts),aL (List.map XSurge.row a0.Surges)]),(6,[aL (List.map XPoint.row a1.Points),aL (List.map XSegment.row a1.Segments)]),(7,[aS a2.Name,aI a2.Length,aI a2.Draught,aI a2.Line,aI a2.Tugs,aB a2.Slow]),(10,[.nil,.nil,.nil])],[]⟩) : go Try.prog (.code B5t :: [.code C0o]) (Ret [.c 10 true 3,11] [.ag [.o 1 (List.map rB r.1.waits),.o 1 (List.map rI r.1.minutes),.o 1 (List.map (rL XWindow.row) r.1.sure)],.sc (.v (.bool r.2))]) .normal (some σ) := by
 unfold N2 at h
 rcases ug v7 with hb8 | hb8
 ·rw [A4 hb8] at h
  try simp only [hσ,hb8,B5t,ua,ub,uc,ud,ue,RR]
  cases h
  try simp only [T8,ua,ub,uc,ud,ue,RR]
  exact ⟨⟨⟨rfl,rfl,rfl,trivial⟩,rfl,trivial⟩,rfl⟩
 ·rw [A3 hb8] at h
  try simp only [hσ,hb8,B5t,C0o,ua,ub,uc,ud,ue,RR]
  refine D2 rfl rfl ?_
  try simp only [hb8,ua,ub,uc,ud,ue,RR]
  refine A42 (cs' := [.own 140288,.nil,.nil]) rfl rfl rfl rfl ?_
  try simp only [hb8,ua,ub,uc,ud,ue,RR]
  refine A42 (cs' := [.own 140288,.own 140352,.nil]) rfl rfl rfl rfl ?_
  try simp only [hb8,ua,ub,uc,ud,ue,RR]
  refine A42 (cs' := [.own 140288,.own 140352,.own 140416]) rfl rfl rfl rfl ?_
  obtain ⟨r9,hr9,h⟩ := ob h
  try simp only [hb8,ua,ub,uc,ud,ue,RR]
  refine A6 (A1r _ _ _ _ hr9) rfl rfl (uf rfl) ?_
  try simp only [hb8,ua,ub,uc,ud,ue,RR]
  refine U3 rfl ?_
  obtain ⟨p10,hp10,h⟩ := ob h
  try simp only [hb8,hp10,ua,ub,uc,ud,ue,RR]
  refine E05 _ _ _ _ _ _ _ _ _ _ _ _ h _ ?_
  try simp only [hb8,hp10,ua,ub,uc,ud,ue,RR,List.map_nil]
theorem D8o : A9 Try.prog 43 = some (cc272.strip,[.c 10 true 3,11],91) := by kernel_rfl
theorem B1n (a0 : XForecast) (a1 : XChart) (a2 : XShip) (a3 : Int) (a4 : List Int) (r : Xvoyage × Bool) (h : Z4 a0 a1 a2 a3 a4 = some r) : FC Try.prog 43 [.ag (XForecast.row a0),.ag (XChart.row a1),.ag (XShip.row a2),.sc (.int .i64 a3),.sc (.sl (List.map rI a4))] [.ag [.o 1 (List.map rB r.1.waits),.o 1 (List.map rI r.1.minutes),.o 1 (List.map (rL XWindow.row) r.1.sure)],.sc (.v (.bool r.2))] := by
 unfold Z4 at h
 refine B9 (σ := ⟨[(0,va [aI a0.Tide.Mean,aL (List.map XPart.row a0.Tide.Parts),aL (List.map XSurge.row a0.Surges)]),(1,va [aL (List.map XPoint.row a1.Points),aL (List.map XSegment.row a1.Segments)]),(2,va [aS a2.Name,aI a2.Length,aI a2.Draught,aI a2.Line,aI a2.Tugs,aB a2.Slow]),(3,vc (aI a3)),(4,vc (aL (List.map rI a4)))],[],[]⟩) B3 D8o rfl rfl ?_
 simp only [cc272]
 try simp only [ua,ub,uc,ud,ue,RR]
 refine B5 rfl rfl rfl ?_
 try simp only [ua,ub,uc,ud,ue,RR]
 refine B5 rfl rfl rfl ?_
 try simp only [ua,ub,uc,ud,ue,RR]
 refine B5 rfl rfl rfl ?_
 try simp only [ua,ub,uc,ud,ue,RR]
 refine D2 rfl rfl ?_
 obtain ⟨r1,hr1,h⟩ := ob h
 try simp only [ua,ub,uc,ud,ue,RR]
 refine A6 (V4 _ _ hr1) rfl rfl (uf rfl) ?_
 rcases ug r1 with hb2 | hb2
 ·rw [A4 hb2] at h
  obtain ⟨r3,hr3,h⟩ := ob h
  try simp only [hb2,ua,ub,uc,ud,ue,RR]
  refine A6 (Y9 _ _ hr3) rfl rfl (uf rfl) ?_
  rcases ug r3 with hb4 | hb4
  ·rw [A4 hb4] at h
   obtain ⟨r5,hr5,h⟩ := ob h
   try simp only [hb2,hb4,ua,ub,uc,ud,ue,RR]
   refine A6 (A6e _ _ _ _ hr5) rfl rfl (uf rfl) ?_
   rcases ug r5 with hb6 | hb6
   ·rw [A4 hb6] at h
    try simp only [hb2,hb4,hb6,ua,ub,uc,ud,ue,RR]
    refine B5f _ _ _ _ _ _ _ h _ ?_
    try simp only [hb2,hb4,hb6,ua,ub,uc,ud,ue,RR,List.map_nil]
   ·rw [A3 hb6] at h
    try simp only [hb2,hb4,hb6,ua,ub,uc,ud,ue,RR]
    refine B5f _ _ _ _ _ _ _ h _ ?_
    try simp only [hb2,hb4,hb6,ua,ub,uc,ud,ue,RR,List.map_nil]
  ·rw [A3 hb4] at h
   try simp only [hb2,hb4,ua,ub,uc,ud,ue,RR]
   refine B5f _ _ _ _ _ _ _ h _ ?_
   try simp only [hb2,hb4,ua,ub,uc,ud,ue,RR,List.map_nil]
 ·rw [A3 hb2] at h
  try simp only [hb2,ua,ub,uc,ud,ue,RR]
  refine B5f _ _ _ _ _ _ _ h _ ?_
  try simp only [hb2,ua,ub,uc,ud,ue,RR,List.map_nil]
/- 17: impl_callVoyage -/
def B4y : ACode := .seq (.reg [(none,.keep [2,3,4,6,28] [3,4,6] [])]) (.cond (S 28) (.seq (.reg [(none,.build 29 [.nil,.nil,.nil] []),(none,.store (S 6) (S 29) 3),(none,.mv 7 (KB false))]) .ret) .skip)
def B9o : ACode := (.seq (.drw [(some [],fa 30 3 0),(some [],(none,.load 31 (S 30) true 3)),(some [],fa 32 3 3),(some [],(none,.load 33 (S 32) true 2)),(some [],fa 34 3 5),(some [],ld 35 34),(some [],fa 36 4 0),(some [],ld 37 36),(some [],(none,.iaddr 38 (S 35) (S 37) 6)),(some [],(none,.load 39 (S 38) true 6)),(some [],fa 40 4 1),(some [],ld 41 40),(some [],mv 42 2),(some [],(none,.call 43 43 [(S 31),(S 33),(S 39),(S 41),(S 42)])),(some [],(none,.extr 44 (S 43) 0)),(some [],(none,.extr 45 (S 43) 1)),(none,(none,.store (S 6) (S 44) 3)),(some [],mv 7 45)]) .ret)
def cc278 : ACode := (.seq (.reg [(none,.box 3 (S 0)),(none,.box 4 (S 1)),(none,.alloc 6 [.nil,.nil,.nil]),(none,.mv 7 (KB false))]) (.seq (.reg [fa 9 3 3,(none,.load 10 (S 9) true 2),fa 11 4 1,ld 12 11,mv 13 2,(none,.call 14 42 [(S 10),(S 12),(S 13)]),mv 8 14]) (.seq (.seq (.drw [(some [],mv 15 8),(some [],(none,.len 16 (S 15))),(some [],(none,.bin 17 .eql (S 16) (K 0))),(some [],mv 18 17),(some [],(some (18,false),.mv 19 (S 8))),(some [],(some (18,false),.mv 20 (S 8))),(some [],(some (18,false),.len 21 (S 20))),(some [],(some (18,false),.bin 22 .sub (S 21) (K 1))),(some [],(some (18,false),.iaddr 23 (S 19) (S 22) 1)),(some [],(some (18,false),.load 24 (S 23) false 1)),(some [],(some (18,false),.faddr 25 (S 4) 2)),(some [],(some (18,false),.load 26 (S 25) false 1)),(some [],(some (18,false),.bin 27 .neq (S 24) (S 26))),(some [],(none,.pick 28 (S 18) (KB true) (S 27)))]) B4y) B9o)))
theorem C8y (a2 : List Int) (a0 : XHarbour) (a1 : XCall) (v4 : Bool) (r : Xvoyage × Bool) (h : N6 a2 a0 a1 v4 = some r) (σ : St) (hσ : σ.kept [2,3,4,6,28] [3,4,6] [] = ⟨[(2,vc (aL (List.map rI a2))),(3,vc (.pb 3 0)),(4,vc (.pb 4 0)),(6,vc (.pb 6 0)),(28,vc (aB v4))],[(3,[aI a0.Forecast.Tide.Mean,aL (List.map XPart.row a0.Forecast.Tide.Parts),aL (List.map XSurge.row a0.Forecast.Surges),aL (List.map XPoint.row a0.Chart.Points),aL (List.map XSegment.row a0.Chart.Segments),aL (List.map XShip.row a0.Fleet),aI a0.Regime.Gap,aB a0.Regime.NoMeet,aI a0.Crew.Tugs,aI a0.Crew.Pilots,aI a0.Crew.Rest,aL (List.map rI a0.Crew.Moves)]),(4,[aI a1.Ship,aI a1.From,aI a1.To,aI a1.Ready,aI a1.Due]),(6,[.nil,.nil,.nil])],[]⟩) : go Try.prog (.code B4y :: [.code B9o]) (Ret [.c 6 true 3,7] [.ag [.o 1 (List.map rB r.1.waits),.o 1 (List.map rI r.1.minutes),.o 1 (List.map (rL XWindow.row) r.1.sure)],.sc (.v (.bool r.2))]) .normal (some σ) := by
 unfold N6 at h
 rcases ug v4 with hb5 | hb5
 ·rw [A4 hb5] at h
  try simp only [hσ,hb5,B4y,ua,ub,uc,ud,ue,RR]
  cases h
  try simp only [T8,ua,ub,uc,ud,ue,RR]
  exact ⟨⟨⟨rfl,rfl,rfl,trivial⟩,rfl,trivial⟩,rfl⟩
 ·rw [A3 hb5] at h
  try simp only [hσ,hb5,B4y,B9o,ua,ub,uc,ud,ue,RR]
  refine B7 rfl ?_
  obtain ⟨x6,hx6,h⟩ := ob h
  obtain ⟨r7,hr7,h⟩ := ob h
  try simp only [hb5,hx6,ua,ub,uc,ud,ue,RR]
  refine D4 (B1n _ _ _ _ _ _ hr7) rfl rfl (uf rfl) ?_
  try simp only [hb5,hx6,ua,ub,uc,ud,ue,RR]
  refine B7 rfl ?_
  try simp only [hb5,hx6,ua,ub,uc,ud,ue,RR]
  cases h
  try simp only [T8,ua,ub,uc,ud,ue,RR]
  exact ⟨⟨⟨rfl,rfl,rfl,trivial⟩,rfl,trivial⟩,rfl⟩
theorem D7g : A9 Try.prog 17 = some (cc278.strip,[.c 6 true 3,7],46) := by kernel_rfl
theorem A9h (a0 : XHarbour) (a1 : XCall) (a2 : List Int) (r : Xvoyage × Bool) (h : W1 a0 a1 a2 = some r) : FC Try.prog 17 [.ag (XHarbour.row a0),.ag (XCall.row a1),.sc (.sl (List.map rI a2))] [.ag [.o 1 (List.map rB r.1.waits),.o 1 (List.map rI r.1.minutes),.o 1 (List.map (rL XWindow.row) r.1.sure)],.sc (.v (.bool r.2))] := by
 unfold W1 at h
 refine B9 (σ := ⟨[(0,va [aI a0.Forecast.Tide.Mean,aL (List.map XPart.row a0.Forecast.Tide.Parts),aL (List.map XSurge.row a0.Forecast.Surges),aL (List.map XPoint.row a0.Chart.Points),aL (List.map XSegment.row a0.Chart.Segments),aL (List.map XShip.row a0.Fleet),aI a0.Regime.Gap,aB a0.Regime.NoMeet,aI a0.Crew.Tugs,aI a0.Crew.Pilots,aI a0.Crew.Rest,aL (List.map rI a0.Crew.Moves)]),(1,va [aI a1.Ship,aI a1.From,aI a1.To,aI a1.Ready,aI a1.Due]),(2,vc (aL (List.map rI a2)))],[],[]⟩) B3 D7g rfl rfl ?_
 simp only [cc278]
 try simp only [ua,ub,uc,ud,ue,RR]
 refine B5 rfl rfl rfl ?_
 try simp only [ua,ub,uc,ud,ue,RR]
 refine B5 rfl rfl rfl ?_
 try simp only [ua,ub,uc,ud,ue,RR]
 refine D2 rfl rfl ?_
 obtain ⟨r1,hr1,h⟩ := ob h
 try simp only [ua,ub,uc,ud,ue,RR]
 refine A6 (A1r _ _ _ _ hr1) rfl rfl (uf rfl) ?_
 try simp only [ua,ub,uc,ud,ue,RR]
 refine B7 rfl ?_
 rcases ug ((r1.length : Int) == (0 : Int)) with hb2 | hb2
 ·rw [A4 hb2] at h
  try simp only [hb2,ua,ub,uc,ud,ue,RR]
  refine C8y _ _ _ _ _ h _ ?_
  try simp only [hb2,ua,ub,uc,ud,ue,RR,List.map_nil]
 ·rw [A3 hb2] at h
  obtain ⟨x3,hx3,h⟩ := ob h
  have hx3n := Z7 hx3
  try simp only [hb2,hx3,hx3n,ua,ub,uc,ud,ue,RR]
  refine C8y _ _ _ _ _ h _ ?_
  try simp only [hb2,hx3,hx3n,ua,ub,uc,ud,ue,RR,List.map_nil]
/- 69: impl_HasMinute -/
def B40 : ACode := .seq (.reg [(none,.keep [1,7,8,9] [] [])]) (.seq (.reg [bn 10 .lss 9 8]) (.seq (.cond (S 10) .skip (.exit 0)) (.seq (.block 1 (.seq (.reg [(none,.iaddr 11 (S 7) (S 9) 2),(none,.load 12 (S 11) true 2),(none,.alloc 6 [aI 0,aI 0]),(none,.store (S 6) (S 12) 2)]) (.seq (.reg [mv 13 1,fa 14 6 0,ld 15 14,fa 16 6 1,ld 17 16,(none,.call 18 52 [(S 13),(S 15),(S 17)])]) (.cond (S 18) (.seq (.reg [(none,.mv 4 (KB true))]) .ret) .skip)))) (.reg [(none,.bin 19 .add (S 9) (K 1)),mv 9 19]))))
def C0m : ACode := (.seq (.reg [(none,.mv 4 (KB false))]) .ret)
def cc283 : ACode := (.seq (.reg [(none,.mv 4 (KB false))]) (.seq (.seq (.reg [mv 7 0,(none,.len 8 (S 7)),(none,.mv 9 (K 0))]) (.block 0 (.loop B40))) C0m))
theorem D8i (a1 : Int) (a0 : List XWindow) : ∀ (n : Nat) (v1 : Int) (r : Bool),L8 a1 a0 n v1 = some r → ∀ σ : St,σ.kept [1,7,8,9] [] [] = ⟨[(1,vc (aI a1)),(7,vc (aL (List.map XWindow.row a0))),(8,vc (aI (a0.length : Int))),(9,vc (aI v1))],[],[]⟩ → go Try.prog (.code (.loop B40) :: [.blk 0,.code C0m]) (Ret [4] [.sc (.v (.bool r))]) .normal (some σ) := by
 intro n
 induction n with
 | zero => intro _ r h; cases h
 | succ n ih =>
  intro v1 r h σ hσ
  rw [L8] at h
  refine B8 ?_
  rcases ug (decide (v1 < (a0.length : Int))) with hb2 | hb2
  ·rw [A4 hb2] at h
   obtain ⟨x3,hx3,h⟩ := ob h
   try simp only [hσ,hb2,hx3,B40,ua,ub,uc,ud,ue,RR]
   refine D2 rfl rfl ?_
   obtain ⟨r4,hr4,h⟩ := ob h
   try simp only [hb2,hx3,ua,ub,uc,ud,ue,RR]
   refine A6 (D3 _ _ _ _ hr4) rfl rfl (uf rfl) ?_
   rcases ug r4 with hb5 | hb5
   ·rw [A4 hb5] at h
    try simp only [hb2,hx3,hb5,ua,ub,uc,ud,ue,RR]
    cases h
    exact ⟨⟨rfl,trivial⟩,rfl⟩
   ·rw [A3 hb5] at h
    try simp only [hb2,hx3,hb5,ua,ub,uc,ud,ue,RR]
    refine ih _ _ h _ ?_
    try simp only [hb2,hx3,hb5,ua,ub,uc,ud,ue,RR,List.map_nil]
  ·rw [A3 hb2] at h
   try simp only [hσ,hb2,B40,C0m,ua,ub,uc,ud,ue,RR]
   cases h
   exact ⟨⟨rfl,trivial⟩,rfl⟩
theorem E0g : A9 Try.prog 69 = some (cc283.strip,[4],20) := by kernel_rfl
theorem A99 (a0 : List XWindow) (a1 : Int) (r : Bool) (h : A02 a0 a1 = some r) : FC Try.prog 69 [.sc (.sl (List.map XWindow.row a0)),.sc (.int .i64 a1)] [.sc (.v (.bool r))] := by
 unfold A02 at h
 refine B9 (σ := ⟨[(0,vc (aL (List.map XWindow.row a0))),(1,vc (aI a1))],[],[]⟩) B3 E0g rfl rfl ?_
 simp only [cc283]
 try simp only [ua,ub,uc,ud,ue,RR]
 refine D8i _ _ _ _ _ h _ ?_
 try simp only [ua,ub,uc,ud,ue,RR,List.map_nil]
/- 70: impl_NextMinute -/
def B4x : ACode := .seq (.reg [(none,.keep [1,10,11,12] [] [])]) (.seq (.reg [bn 13 .lss 12 11]) (.seq (.cond (S 13) .skip (.exit 0)) (.seq (.block 1 (.seq (.reg [(none,.iaddr 14 (S 10) (S 12) 2),(none,.load 15 (S 14) true 2),(none,.alloc 6 [aI 0,aI 0]),(none,.store (S 6) (S 15) 2)]) (.seq (.reg [fa 16 6 1,ld 17 16,mv 18 1,bn 19 .geq 17 18]) (.cond (S 19) (.seq (.reg [fa 20 6 0,ld 21 20,mv 22 1,(none,.mm 23 true (S 21) (S 22)),mv 4 23]) .ret) .skip)))) (.reg [(none,.bin 24 .add (S 12) (K 1)),mv 12 24]))))
def C0d : ACode := (.seq (.reg [(none,.mv 4 (K (-1)))]) .ret)
def cc288 : ACode := (.seq (.reg [(none,.mv 4 (K 0))]) (.seq (.seq (.reg [mv 7 0,(none,.call 8 86 [(S 7)]),(none,.un 9 .not (S 8))]) (.cond (S 9) (.seq (.reg [(none,.mv 4 (K (-1)))]) .ret) .skip)) (.seq (.seq (.reg [mv 10 0,(none,.len 11 (S 10)),(none,.mv 12 (K 0))]) (.block 0 (.loop B4x))) C0d)))
theorem D6z (a1 : Int) (a0 : List XWindow) : ∀ (n : Nat) (v3 : Int) (r : Int),K6 a1 a0 n v3 = some r → ∀ σ : St,σ.kept [1,10,11,12] [] [] = ⟨[(1,vc (aI a1)),(10,vc (aL (List.map XWindow.row a0))),(11,vc (aI (a0.length : Int))),(12,vc (aI v3))],[],[]⟩ → go Try.prog (.code (.loop B4x) :: [.blk 0,.code C0d]) (Ret [4] [.sc (.v (.int .i64 r))]) .normal (some σ) := by
 intro n
 induction n with
 | zero => intro _ r h; cases h
 | succ n ih =>
  intro v3 r h σ hσ
  rw [K6] at h
  refine B8 ?_
  rcases ug (decide (v3 < (a0.length : Int))) with hb4 | hb4
  ·rw [A4 hb4] at h
   obtain ⟨x5,hx5,h⟩ := ob h
   try simp only [hσ,hb4,hx5,B4x,ua,ub,uc,ud,ue,RR]
   refine D2 rfl rfl ?_
   rcases ug (decide (a1 ≤ x5.To)) with hb6 | hb6
   ·rw [A4 hb6] at h
    try simp only [hb4,hx5,hb6,ua,ub,uc,ud,ue,RR]
    cases h
    exact ⟨⟨rfl,trivial⟩,rfl⟩
   ·rw [A3 hb6] at h
    try simp only [hb4,hx5,hb6,ua,ub,uc,ud,ue,RR]
    refine ih _ _ h _ ?_
    try simp only [hb4,hx5,hb6,ua,ub,uc,ud,ue,RR,List.map_nil]
  ·rw [A3 hb4] at h
   try simp only [hσ,hb4,B4x,C0d,ua,ub,uc,ud,ue,RR]
   cases h
   exact ⟨⟨rfl,trivial⟩,rfl⟩
theorem E1n : A9 Try.prog 70 = some (cc288.strip,[4],25) := by kernel_rfl
theorem A9m (a0 : List XWindow) (a1 : Int) (r : Int) (h : W0 a0 a1 = some r) : FC Try.prog 70 [.sc (.sl (List.map XWindow.row a0)),.sc (.int .i64 a1)] [.sc (.v (.int .i64 r))] := by
 unfold W0 at h
 refine B9 (σ := ⟨[(0,vc (aL (List.map XWindow.row a0))),(1,vc (aI a1))],[],[]⟩) B3 E1n rfl rfl ?_
 simp only [cc288]
 obtain ⟨r1,hr1,h⟩ := ob h
 try simp only [ua,ub,uc,ud,ue,RR]
 refine A6 (A45 _ _ hr1) rfl rfl (uf rfl) ?_
 rcases ug r1 with hb2 | hb2
 ·rw [A4 hb2] at h
  try simp only [hb2,ua,ub,uc,ud,ue,RR]
  refine D6z _ _ _ _ _ h _ ?_
  try simp only [hb2,ua,ub,uc,ud,ue,RR,List.map_nil]
 ·rw [A3 hb2] at h
  try simp only [hb2,ua,ub,uc,ud,ue,RR]
  cases h
  exact ⟨⟨rfl,trivial⟩,rfl⟩
/- 44: impl_voyage_sail -/
def B5h : ACode := .seq (.reg [(none,.keep [2,6,7,9,59] [2] [1152])]) (.cond (S 59) (.seq (.reg [(none,.mv 4 KN),(none,.mv 5 (KB false))]) .ret) .skip)
def B9q : ACode := (.reg [mv 60 6,mv 61 9,(none,.bslice 62 1 [.int .i64 0] 1 [(0,(S 61))]),(none,.app 63 1 8 (S 60) (S 62)),mv 6 63])
def C11 : ACode := (.reg [mv 24 7,(none,.bin 25 .add (S 24) (K 1)),mv 7 25])
def A80 : ACode := .seq (.reg [(none,.keep [2,6,7] [2] [1152])]) (.seq (.seq (.reg [mv 19 7,fa 20 2 2,ld 21 20,(none,.len 22 (S 21)),bn 23 .lss 19 22]) (.cond (S 23) .skip (.exit 0))) (.seq (.block 1 (.seq (.drw [(some [],mv 26 6),(some [],mv 27 7),(some [],(none,.bin 28 .sub (S 27) (K 1))),(some [],(none,.iaddr 29 (S 26) (S 28) 1)),(some [],ld 30 29),(some [],fa 31 2 1),(some [],ld 32 31),(some [],mv 33 7),(some [],(none,.bin 34 .sub (S 33) (K 1))),(some [],(none,.iaddr 35 (S 32) (S 34) 1)),(some [],ld 36 35),(some [],bn 37 .add 30 36),(some [],mv 8 37)]) (.seq (.reg [fa 38 2 2,ld 39 38,mv 40 7,(none,.iaddr 41 (S 39) (S 40) 1),ld 42 41,mv 43 8,(none,.call 44 70 [(S 42),(S 43)]),mv 9 44]) (.seq (.seq (.reg [mv 45 9,(none,.bin 46 .lss (S 45) (K 0)),mv 47 46,(some (47,false),.mv 48 (S 9)),(some (47,false),.mv 49 (S 8)),(some (47,false),.bin 50 .gtr (S 48) (S 49)),(some (47,false),.mv 51 (S 50)),(some (51,true),.faddr 52 (S 2) 0),(some (51,true),.load 53 (S 52) false 1),(some (51,true),.mv 54 (S 7)),(some (51,true),.iaddr 55 (S 53) (S 54) 1),(some (51,true),.load 56 (S 55) false 1),(some (51,true),.un 57 .not (S 56)),(some (47,false),.pick 58 (S 51) (S 57) (KB false)),(none,.pick 59 (S 47) (KB true) (S 58))]) B5h) B9q)))) C11))
def B13 : ACode := (.seq (.reg [mv 64 6,mv 4 64,(none,.mv 5 (KB true))]) .ret)
def cc296 : ACode := (.seq (.reg [(none,.box 2 (S 0)),(none,.mv 4 KN),(none,.mv 5 (KB false))]) (.seq (.seq (.reg [fa 10 2 2,ld 11 10,(none,.iaddr 12 (S 11) (K 0) 1),ld 13 12,mv 14 1,(none,.call 15 69 [(S 13),(S 14)]),(none,.un 16 .not (S 15))]) (.cond (S 16) (.seq (.reg [(none,.mv 4 KN),(none,.mv 5 (KB false))]) .ret) .skip)) (.seq (.reg [mv 17 1,(none,.bslice 18 1 [.int .i64 0] 1 [(0,(S 17))]),mv 6 18]) (.seq (.seq (.reg [(none,.mv 7 (K 1))]) (.block 0 (.loop A80))) B13))))
theorem C0a (v4 : Int) (r10 : Int) (a0 : Xvoyage) (v5 : List Int) (k_impl_voyage_sail_1 : Int → (List Int) → Option ((List Int) × Bool)) (hk_impl_voyage_sail_1 : ∀ (v4 : Int) (v5 : List Int) zr,k_impl_voyage_sail_1 v4 v5 = some zr → ∀ σ : St,σ.kept [2,6,7] [2] [1152] = ⟨[(2,vc (.pb 2 0)),(6,vc (.own 1152)),(7,vc (aI v4))],[(2,[aL (List.map rB a0.waits),aL (List.map rI a0.minutes),aL (List.map (rL XWindow.row) a0.sure)])],[(1152,1,List.map rI v5)]⟩ → go Try.prog (.code (.loop A80) :: [.blk 0,.code B13]) (Ret [4,5] [.sc (.o 1 (List.map rI zr.1)),.sc (.v (.bool zr.2))]) .normal (some σ)) (v14 : Bool) (r : (List Int) × Bool) (h : F8 v4 r10 a0 v5 k_impl_voyage_sail_1 v14 = some r) (σ : St) (hσ : σ.kept [2,6,7,9,59] [2] [1152] = ⟨[(2,vc (.pb 2 0)),(6,vc (.own 1152)),(7,vc (aI v4)),(9,vc (aI r10)),(59,vc (aB v14))],[(2,[aL (List.map rB a0.waits),aL (List.map rI a0.minutes),aL (List.map (rL XWindow.row) a0.sure)])],[(1152,1,List.map rI v5)]⟩) : go Try.prog (.code B5h :: [.code B9q,.blk 1,.code C11,.code (.loop A80),.blk 0,.code B13]) (Ret [4,5] [.sc (.o 1 (List.map rI r.1)),.sc (.v (.bool r.2))]) .normal (some σ) := by
 unfold F8 at h
 rcases ug v14 with hb15 | hb15
 ·rw [A4 hb15] at h
  try simp only [hσ,hb15,B5h,ua,ub,uc,ud,ue,RR]
  cases h
  exact ⟨⟨rfl,rfl,trivial⟩,rfl⟩
 ·rw [A3 hb15] at h
  try simp only [hσ,hb15,B5h,B9q,ua,ub,uc,ud,ue,RR]
  refine E8 (es := List.map rI ([r10] : List Int)) rfl rfl ?_
  obtain ⟨hg16,h⟩ := E3 h
  try simp only [hb15,hg16,C11,ua,ub,uc,ud,ue,RR]
  refine hk_impl_voyage_sail_1 _ _ _ h _ ?_
  try simp only [hb15,hg16,ua,ub,uc,ud,ue,RR,List.map_nil]
theorem E0j (a0 : Xvoyage) : ∀ (n : Nat) (v4 : Int) (v5 : List Int) (r : (List Int) × Bool),D1 a0 n v4 v5 = some r → ∀ σ : St,σ.kept [2,6,7] [2] [1152] = ⟨[(2,vc (.pb 2 0)),(6,vc (.own 1152)),(7,vc (aI v4))],[(2,[aL (List.map rB a0.waits),aL (List.map rI a0.minutes),aL (List.map (rL XWindow.row) a0.sure)])],[(1152,1,List.map rI v5)]⟩ → go Try.prog (.code (.loop A80) :: [.blk 0,.code B13]) (Ret [4,5] [.sc (.o 1 (List.map rI r.1)),.sc (.v (.bool r.2))]) .normal (some σ) := by
 intro n
 induction n with
 | zero => intro _ _ r h; cases h
 | succ n ih =>
  intro v4 v5 r h σ hσ
  rw [D1] at h
  refine B8 ?_
  rcases ug (decide (v4 < (a0.sure.length : Int))) with hb6 | hb6
  ·rw [A4 hb6] at h
   try simp only [hσ,hb6,A80,ua,ub,uc,ud,ue,RR]
   refine B7 rfl ?_
   obtain ⟨x7,hx7,h⟩ := ob h
   have hx7n := Z7 hx7
   obtain ⟨x8,hx8,h⟩ := ob h
   obtain ⟨x9,hx9,h⟩ := ob h
   obtain ⟨r10,hr10,h⟩ := ob h
   try simp only [hb6,hx7,hx7n,hx8,hx9,ua,ub,uc,ud,ue,RR]
   refine A6 (A9m _ _ _ hr10) rfl rfl (uf rfl) ?_
   rcases ug (decide (r10 < (0 : Int))) with hb11 | hb11
   ·rw [A4 hb11] at h
    try simp only [hb6,hx7,hx7n,hx8,hx9,hb11,ua,ub,uc,ud,ue,RR]
    refine C0a _ _ _ _ (D1 a0 n) ih _ _ h _ ?_
    try simp only [hb6,hx7,hx7n,hx8,hx9,hb11,ua,ub,uc,ud,ue,RR,List.map_nil]
   ·rw [A3 hb11] at h
    rcases ug (decide ((IntKind.i64.wrap (x7 + x8)) < r10)) with hb12 | hb12
    ·rw [A4 hb12] at h
     obtain ⟨x13,hx13,h⟩ := ob h
     try simp only [hb6,hx7,hx7n,hx8,hx9,hb11,hb12,hx13,ua,ub,uc,ud,ue,RR]
     refine C0a _ _ _ _ (D1 a0 n) ih _ _ h _ ?_
     try simp only [hb6,hx7,hx7n,hx8,hx9,hb11,hb12,hx13,ua,ub,uc,ud,ue,RR,List.map_nil]
    ·rw [A3 hb12] at h
     try simp only [hb6,hx7,hx7n,hx8,hx9,hb11,hb12,ua,ub,uc,ud,ue,RR]
     refine C0a _ _ _ _ (D1 a0 n) ih _ _ h _ ?_
     try simp only [hb6,hx7,hx7n,hx8,hx9,hb11,hb12,ua,ub,uc,ud,ue,RR,List.map_nil]
  ·rw [A3 hb6] at h
   try simp only [hσ,hb6,A80,B13,ua,ub,uc,ud,ue,RR]
   cases h
   exact ⟨⟨rfl,rfl,trivial⟩,rfl⟩
theorem E0i : A9 Try.prog 44 = some (cc296.strip,[4,5],65) := by kernel_rfl
theorem A8l (a0 : Xvoyage) (a1 : Int) (r : (List Int) × Bool) (h : T6 a0 a1 = some r) : FC Try.prog 44 [.ag (Xvoyage.row a0),.sc (.int .i64 a1)] [.sc (.o 1 (List.map rI r.1)),.sc (.v (.bool r.2))] := by
 unfold T6 at h
 refine B9 (σ := ⟨[(0,va [aL (List.map rB a0.waits),aL (List.map rI a0.minutes),aL (List.map (rL XWindow.row) a0.sure)]),(1,vc (aI a1))],[],[]⟩) B3 E0i rfl rfl ?_
 simp only [cc296]
 try simp only [ua,ub,uc,ud,ue,RR]
 refine B5 rfl rfl rfl ?_
 obtain ⟨x1,hx1,h⟩ := ob h
 obtain ⟨r2,hr2,h⟩ := ob h
 try simp only [hx1,ua,ub,uc,ud,ue,RR]
 refine A6 (A99 _ _ _ hr2) rfl rfl (uf rfl) ?_
 rcases ug r2 with hb3 | hb3
 ·rw [A4 hb3] at h
  try simp only [hx1,hb3,ua,ub,uc,ud,ue,RR]
  refine E8 (es := List.map rI ([a1] : List Int)) rfl rfl ?_
  try simp only [hx1,hb3,ua,ub,uc,ud,ue,RR]
  refine E0j _ _ _ _ _ h _ ?_
  try simp only [hx1,hb3,ua,ub,uc,ud,ue,RR,List.map_nil]
 ·rw [A3 hb3] at h
  try simp only [hx1,hb3,ua,ub,uc,ud,ue,RR]
  cases h
  exact ⟨⟨rfl,rfl,trivial⟩,rfl⟩
/- 45: impl_PassagesOf -/
def B4z : ACode := .seq (.reg [(none,.keep [1,5,6,8,13,14,40,41,42] [6,8] [2432,2496])]) (.seq (.reg [bn 43 .lss 42 41]) (.seq (.cond (S 43) .skip (.exit 0)) (.seq (.block 1 (.seq (.reg [mv 44 42,(none,.iaddr 45 (S 40) (S 42) 1),ld 46 45,mv 15 44,mv 16 46]) (.seq (.seq (.reg [mv 47 5,mv 48 15,(none,.iaddr 49 (S 47) (S 48) 1),ld 50 49,(none,.call 51 24 [(S 50)]),(none,.un 52 .not (S 51))]) (.cond (S 52) (.seq (.reg [(none,.mv 12 KN)]) .ret) .skip)) (.seq (.reg [fa 53 6 1,ld 54 53,mv 55 16,(none,.iaddr 56 (S 54) (S 55) 5),(none,.load 57 (S 56) true 5),(none,.alloc 17 [aI 0,aI 0,aI 0,aI 0,aB false]),(none,.store (S 17) (S 57) 5)]) (.drw [(some [78,81],mv 58 14),(some [78],mv 59 1),(some [78],mv 60 16),(some [78],mv 61 13),(some [78],mv 62 15),(some [78],(none,.iaddr 63 (S 61) (S 62) 1)),(some [78],ld 64 63),(some [78],fa 65 17 0),(some [78],ld 66 65),(some [78],bn 67 .eql 64 66),(some [78],mv 68 5),(some [78],mv 69 15),(some [78],(none,.iaddr 70 (S 68) (S 69) 1)),(some [78],ld 71 70),(some [78],mv 72 5),(some [78],mv 73 15),(some [78],(none,.iaddr 74 (S 72) (S 73) 1)),(some [78],ld 75 74),(some [],(none,.load 76 (S 8) true 6)),(some [],(none,.load 77 (S 17) true 5)),(some [],(none,.call 78 56 [(S 76),(S 77)])),(some [],bn 79 .add 75 78),(some [],(none,.build 80 [aI 0,aI 0,aB false,aI 0,aI 0] [(0,1,(S 59)),(1,1,(S 60)),(2,1,(S 67)),(3,1,(S 71)),(4,1,(S 79))])),(some [],(none,.bslice 81 5 [.int .i64 0,.int .i64 0,.bool false,.int .i64 0,.int .i64 0] 1 [(0,(S 80))])),(none,(none,.app 82 5 40 (S 58) (S 81))),(some [],mv 14 82)]))))) (.reg [(none,.bin 83 .add (S 42) (K 1)),mv 42 83]))))
def B9u : ACode := (.seq (.reg [mv 84 14,mv 12 84]) .ret)
def cc302 : ACode := (.seq (.reg [(none,.box 6 (S 0)),(none,.box 8 (S 2)),(none,.mv 12 KN)]) (.seq (.seq (.reg [(none,.load 18 (S 6) true 2),mv 19 3,mv 20 4,(none,.call 21 67 [(S 18),(S 19),(S 20)]),(none,.un 22 .not (S 21)),mv 23 22,(some (23,false),.load 24 (S 8) true 6),(some (23,false),.call 25 55 [(S 24)]),(some (23,false),.un 26 .not (S 25)),(none,.pick 27 (S 23) (KB true) (S 26)),mv 28 27,(some (28,false),.mv 29 (S 4)),(some (28,false),.len 30 (S 29)),(some (28,false),.mv 31 (S 5)),(some (28,false),.len 32 (S 31)),(some (28,false),.bin 33 .neq (S 30) (S 32)),(none,.pick 34 (S 28) (KB true) (S 33))]) (.cond (S 34) (.seq (.reg [(none,.mv 12 KN)]) .ret) .skip)) (.seq (.reg [(none,.load 35 (S 6) true 2),mv 36 3,mv 37 4,(none,.call 38 42 [(S 35),(S 36),(S 37)]),mv 13 38]) (.seq (.reg [(none,.bslice 39 5 [.int .i64 0,.int .i64 0,.bool false,.int .i64 0,.int .i64 0] 0 []),mv 14 39]) (.seq (.seq (.reg [mv 40 4,(none,.len 41 (S 40)),(none,.mv 42 (K 0))]) (.block 0 (.loop B4z))) B9u)))))
theorem E0l (a1 : Int) (a5 : List Int) (a4 : List Int) (a0 : XChart) (a2 : XShip) (r6 : (List Int)) : ∀ (n : Nat) (v7 : Int) (v8 : List XPassage) (r : (List XPassage)),K4 a1 a5 a4 a0 a2 r6 n v7 v8 = some r → ∀ σ : St,σ.kept [1,5,6,8,13,14,40,41,42] [6,8] [2432,2496] = ⟨[(1,vc (aI a1)),(5,vc (aL (List.map rI a5))),(6,vc (.pb 6 0)),(8,vc (.pb 8 0)),(13,vc (.own 2432)),(14,vc (.own 2496)),(40,vc (aL (List.map rI a4))),(41,vc (aI (a4.length : Int))),(42,vc (aI v7))],[(6,[aL (List.map XPoint.row a0.Points),aL (List.map XSegment.row a0.Segments)]),(8,[aS a2.Name,aI a2.Length,aI a2.Draught,aI a2.Line,aI a2.Tugs,aB a2.Slow])],[(2432,1,List.map rI r6),(2496,5,List.map XPassage.row v8)]⟩ → go Try.prog (.code (.loop B4z) :: [.blk 0,.code B9u]) (Ret [12] [.sc (.o 5 (List.map XPassage.row r))]) .normal (some σ) := by
 intro n
 induction n with
 | zero => intro _ _ r h; cases h
 | succ n ih =>
  intro v7 v8 r h σ hσ
  rw [K4] at h
  refine B8 ?_
  rcases ug (decide (v7 < (a4.length : Int))) with hb9 | hb9
  ·rw [A4 hb9] at h
   obtain ⟨x10,hx10,h⟩ := ob h
   obtain ⟨x11,hx11,h⟩ := ob h
   obtain ⟨r12,hr12,h⟩ := ob h
   try simp only [hσ,hb9,hx10,hx11,B4z,ua,ub,uc,ud,ue,RR]
   refine A6 (N4 _ _ hr12) rfl rfl (uf rfl) ?_
   rcases ug r12 with hb13 | hb13
   ·rw [A4 hb13] at h
    obtain ⟨x14,hx14,h⟩ := ob h
    try simp only [hb9,hx10,hx11,hb13,hx14,ua,ub,uc,ud,ue,RR]
    refine D2 rfl rfl ?_
    try simp only [hb9,hx10,hx11,hb13,hx14,ua,ub,uc,ud,ue,RR]
    refine B7 rfl ?_
    obtain ⟨x15,hx15,h⟩ := ob h
    have hx15n := Z7 hx15
    obtain ⟨r16,hr16,h⟩ := ob h
    try simp only [hb9,hx10,hx11,hb13,hx14,hx15,hx15n,ua,ub,uc,ud,ue,RR]
    refine D4 (Q9 _ _ _ hr16) rfl rfl (uf rfl) ?_
    try simp only [hb9,hx10,hx11,hb13,hx14,hx15,hx15n,ua,ub,uc,ud,ue,RR]
    refine E8 (es := List.map XPassage.row ([(⟨a1,x10,(x15 == x14.A),x11,(IntKind.i64.wrap (x11 + r16))⟩ : XPassage)] : List XPassage)) rfl rfl ?_
    obtain ⟨hg17,h⟩ := E3 h
    try simp only [hb9,hx10,hx11,hb13,hx14,hx15,hx15n,hg17,ua,ub,uc,ud,ue,RR]
    refine B7 rfl ?_
    try simp only [hb9,hx10,hx11,hb13,hx14,hx15,hx15n,hg17,ua,ub,uc,ud,ue,RR]
    refine ih _ _ _ h _ ?_
    try simp only [hb9,hx10,hx11,hb13,hx14,hx15,hx15n,hg17,ua,ub,uc,ud,ue,RR,List.map_nil]
   ·rw [A3 hb13] at h
    try simp only [hb9,hx10,hx11,hb13,ua,ub,uc,ud,ue,RR]
    cases h
    exact ⟨⟨rfl,trivial⟩,rfl⟩
  ·rw [A3 hb9] at h
   try simp only [hσ,hb9,B4z,B9u,ua,ub,uc,ud,ue,RR]
   cases h
   exact ⟨⟨rfl,trivial⟩,rfl⟩
theorem E04 : A9 Try.prog 45 = some (cc302.strip,[12],85) := by kernel_rfl
theorem A9l (a0 : XChart) (a1 : Int) (a2 : XShip) (a3 : Int) (a4 : List Int) (a5 : List Int) (r : (List XPassage)) (h : V9 a0 a1 a2 a3 a4 a5 = some r) : FC Try.prog 45 [.ag (XChart.row a0),.sc (.int .i64 a1),.ag (XShip.row a2),.sc (.int .i64 a3),.sc (.sl (List.map rI a4)),.sc (.sl (List.map rI a5))] [.sc (.o 5 (List.map XPassage.row r))] := by
 unfold V9 at h
 refine B9 (σ := ⟨[(0,va [aL (List.map XPoint.row a0.Points),aL (List.map XSegment.row a0.Segments)]),(1,vc (aI a1)),(2,va [aS a2.Name,aI a2.Length,aI a2.Draught,aI a2.Line,aI a2.Tugs,aB a2.Slow]),(3,vc (aI a3)),(4,vc (aL (List.map rI a4))),(5,vc (aL (List.map rI a5)))],[],[]⟩) B3 E04 rfl rfl ?_
 simp only [cc302]
 try simp only [ua,ub,uc,ud,ue,RR]
 refine B5 rfl rfl rfl ?_
 try simp only [ua,ub,uc,ud,ue,RR]
 refine B5 rfl rfl rfl ?_
 obtain ⟨r1,hr1,h⟩ := ob h
 try simp only [ua,ub,uc,ud,ue,RR]
 refine A6 (A6e _ _ _ _ hr1) rfl rfl (uf rfl) ?_
 rcases ug r1 with hb2 | hb2
 ·rw [A4 hb2] at h
  obtain ⟨r3,hr3,h⟩ := ob h
  try simp only [hb2,ua,ub,uc,ud,ue,RR]
  refine A6 (Y9 _ _ hr3) rfl rfl (uf rfl) ?_
  rcases ug r3 with hb4 | hb4
  ·rw [A4 hb4] at h
   rcases ug ((a4.length : Int) != (a5.length : Int)) with hb5 | hb5
   ·rw [A4 hb5] at h
    try simp only [hb2,hb4,hb5,ua,ub,uc,ud,ue,RR]
    cases h
    exact ⟨⟨rfl,trivial⟩,rfl⟩
   ·rw [A3 hb5] at h
    obtain ⟨r6,hr6,h⟩ := ob h
    try simp only [hb2,hb4,hb5,ua,ub,uc,ud,ue,RR]
    refine A6 (A1r _ _ _ _ hr6) rfl rfl (uf rfl) ?_
    try simp only [hb2,hb4,hb5,ua,ub,uc,ud,ue,RR]
    refine E8 (es := List.map XPassage.row ([] : List XPassage)) rfl rfl ?_
    try simp only [hb2,hb4,hb5,ua,ub,uc,ud,ue,RR]
    refine E0l _ _ _ _ _ _ _ _ _ _ h _ ?_
    try simp only [hb2,hb4,hb5,ua,ub,uc,ud,ue,RR,List.map_nil]
  ·rw [A3 hb4] at h
   try simp only [hb2,hb4,ua,ub,uc,ud,ue,RR]
   cases h
   exact ⟨⟨rfl,trivial⟩,rfl⟩
 ·rw [A3 hb2] at h
  try simp only [hb2,ua,ub,uc,ud,ue,RR]
  cases h
  exact ⟨⟨rfl,trivial⟩,rfl⟩
/- 46: impl_ArrivalOf -/
def cc305 : ACode := (.seq (.reg [(none,.box 4 (S 0)),(none,.box 5 (S 1)),(none,.mv 8 (K 0))]) (.seq (.seq (.reg [(none,.load 10 (S 4) true 2),mv 11 2,(none,.call 12 41 [(S 10),(S 11)]),(none,.bin 13 .lss (S 12) (K 0)),mv 14 13,(some (14,false),.load 15 (S 5) true 6),(some (14,false),.call 16 55 [(S 15)]),(some (14,false),.un 17 .not (S 16)),(none,.pick 18 (S 14) (KB true) (S 17)),mv 19 18,(some (19,false),.mv 20 (S 2)),(some (19,false),.len 21 (S 20)),(some (19,false),.bin 22 .eql (S 21) (K 0)),(none,.pick 23 (S 19) (KB true) (S 22)),mv 24 23,(some (24,false),.mv 25 (S 2)),(some (24,false),.len 26 (S 25)),(some (24,false),.mv 27 (S 3)),(some (24,false),.len 28 (S 27)),(some (24,false),.bin 29 .neq (S 26) (S 28)),(none,.pick 30 (S 24) (KB true) (S 29))]) (.cond (S 30) (.seq (.reg [(none,.mv 8 (K (-1)))]) .ret) .skip)) (.seq (.reg [mv 31 2,(none,.len 32 (S 31)),(none,.bin 33 .sub (S 32) (K 1)),mv 9 33]) (.seq (.seq (.reg [mv 34 3,mv 35 9,(none,.iaddr 36 (S 34) (S 35) 1),ld 37 36,(none,.call 38 24 [(S 37)]),(none,.un 39 .not (S 38))]) (.cond (S 39) (.seq (.reg [(none,.mv 8 (K (-1)))]) .ret) .skip)) (.seq (.drw [(some [53],mv 40 3),(some [53],mv 41 9),(some [53],(none,.iaddr 42 (S 40) (S 41) 1)),(some [53],ld 43 42),(some [],(none,.load 44 (S 5) true 6)),(some [],fa 45 4 1),(some [],ld 46 45),(some [],mv 47 2),(some [],mv 48 9),(some [],(none,.iaddr 49 (S 47) (S 48) 1)),(some [],ld 50 49),(some [],(none,.iaddr 51 (S 46) (S 50) 5)),(some [],(none,.load 52 (S 51) true 5)),(some [],(none,.call 53 56 [(S 44),(S 52)])),(some [],bn 54 .add 43 53),(some [],mv 8 54)]) .ret)))))
theorem D7q : A9 Try.prog 46 = some (cc305.strip,[8],55) := by kernel_rfl
theorem B0k (a0 : XChart) (a1 : XShip) (a2 : List Int) (a3 : List Int) (r : Int) (h : X7 a0 a1 a2 a3 = some r) : FC Try.prog 46 [.ag (XChart.row a0),.ag (XShip.row a1),.sc (.sl (List.map rI a2)),.sc (.sl (List.map rI a3))] [.sc (.v (.int .i64 r))] := by
 unfold X7 at h
 refine B9 (σ := ⟨[(0,va [aL (List.map XPoint.row a0.Points),aL (List.map XSegment.row a0.Segments)]),(1,va [aS a1.Name,aI a1.Length,aI a1.Draught,aI a1.Line,aI a1.Tugs,aB a1.Slow]),(2,vc (aL (List.map rI a2))),(3,vc (aL (List.map rI a3)))],[],[]⟩) B3 D7q rfl rfl ?_
 simp only [cc305]
 try simp only [ua,ub,uc,ud,ue,RR]
 refine B5 rfl rfl rfl ?_
 try simp only [ua,ub,uc,ud,ue,RR]
 refine B5 rfl rfl rfl ?_
 obtain ⟨r1,hr1,h⟩ := ob h
 try simp only [ua,ub,uc,ud,ue,RR]
 refine A6 (A1l _ _ _ hr1) rfl rfl (uf rfl) ?_
 rcases ug (decide (r1 < (0 : Int))) with hb2 | hb2
 ·rw [A4 hb2] at h
  try simp only [hb2,ua,ub,uc,ud,ue,RR]
  cases h
  exact ⟨⟨rfl,trivial⟩,rfl⟩
 ·rw [A3 hb2] at h
  obtain ⟨r3,hr3,h⟩ := ob h
  try simp only [hb2,ua,ub,uc,ud,ue,RR]
  refine A6 (Y9 _ _ hr3) rfl rfl (uf rfl) ?_
  rcases ug r3 with hb4 | hb4
  ·rw [A4 hb4] at h
   rcases ug ((a2.length : Int) == (0 : Int)) with hb5 | hb5
   ·rw [A4 hb5] at h
    try simp only [hb2,hb4,hb5,ua,ub,uc,ud,ue,RR]
    cases h
    exact ⟨⟨rfl,trivial⟩,rfl⟩
   ·rw [A3 hb5] at h
    rcases ug ((a2.length : Int) != (a3.length : Int)) with hb6 | hb6
    ·rw [A4 hb6] at h
     try simp only [hb2,hb4,hb5,hb6,ua,ub,uc,ud,ue,RR]
     cases h
     exact ⟨⟨rfl,trivial⟩,rfl⟩
    ·rw [A3 hb6] at h
     obtain ⟨x7,hx7,h⟩ := ob h
     obtain ⟨r9,hr9,h⟩ := ob h
     try simp only [hb2,hb4,hb5,hb6,hx7,ua,ub,uc,ud,ue,RR]
     refine A6 (N4 _ _ hr9) rfl rfl (uf rfl) ?_
     rcases ug r9 with hb10 | hb10
     ·rw [A4 hb10] at h
      try simp only [hb2,hb4,hb5,hb6,hx7,hb10,ua,ub,uc,ud,ue,RR]
      refine B7 rfl ?_
      obtain ⟨x11,hx11,h⟩ := ob h
      obtain ⟨x12,hx12,h⟩ := ob h
      obtain ⟨r13,hr13,h⟩ := ob h
      try simp only [hb2,hb4,hb5,hb6,hx7,hb10,hx11,hx12,ua,ub,uc,ud,ue,RR]
      refine D4 (Q9 _ _ _ hr13) rfl rfl (uf rfl) ?_
      try simp only [hb2,hb4,hb5,hb6,hx7,hb10,hx11,hx12,ua,ub,uc,ud,ue,RR]
      cases h
      exact ⟨⟨rfl,trivial⟩,rfl⟩
     ·rw [A3 hb10] at h
      try simp only [hb2,hb4,hb5,hb6,hx7,hb10,ua,ub,uc,ud,ue,RR]
      cases h
      exact ⟨⟨rfl,trivial⟩,rfl⟩
  ·rw [A3 hb4] at h
   try simp only [hb2,hb4,ua,ub,uc,ud,ue,RR]
   cases h
   exact ⟨⟨rfl,trivial⟩,rfl⟩
/- 18: impl_option -/
def A2p : List (List Nat × AItem) := [([],(none,.load 72 (S 16) true 4)),([],(none,.faddr 73 (S 16) 1)),([1],(none,.load 74 (S 73) false 1)),([2],(none,.bin 75 .leq (S 74) (K 2880))),([0,0],(none,.store (S 10) (S 72) 4)),([3,4,0,1,2,3,4],(none,.mv 11 (S 75)))]
def B5e : ACode := .seq (.reg [(none,.keep [10,16,60,61,62] [10,16] [2752])]) (.seq (.reg [bn 63 .lss 62 61]) (.seq (.cond (S 63) .skip (.exit 0)) (.seq (.block 1 (.seq (.reg [(none,.iaddr 64 (S 60) (S 62) 1),ld 65 64,mv 18 65]) (.reg [fa 66 16 2,ld 67 66,mv 68 18,bn 69 .sub 67 68,fa 70 16 2,(none,.store (S 70) (S 69) 1)]))) (.reg [(none,.bin 71 .add (S 62) (K 1)),mv 62 71]))))
def B93 : ACode := (.seq (.any A2p) .ret)
def cc309 : ACode := (.seq (.reg [(none,.box 5 (S 0)),(none,.box 6 (S 1)),(none,.box 7 (S 2)),(none,.alloc 10 [aI 0,aI 0,aI 0,.nil]),(none,.mv 11 (KB false))]) (.seq (.reg [(none,.load 20 (S 7) true 3),mv 21 4,(none,.call 22 44 [(S 20),(S 21)]),mv 19 22,(none,.extr 23 (S 19) 0),(none,.extr 24 (S 19) 1),mv 12 23,mv 13 24]) (.seq (.seq (.reg [mv 25 13,(none,.un 26 .not (S 25))]) (.cond (S 26) (.seq (.reg [(none,.build 27 [aI 0,aI 0,aI 0,.nil] []),(none,.store (S 10) (S 27) 4),(none,.mv 11 (KB false))]) .ret) .skip)) (.seq (.reg [fa 28 5 5,ld 29 28,fa 30 6 0,ld 31 30,(none,.iaddr 32 (S 29) (S 31) 6),(none,.load 33 (S 32) true 6),(none,.alloc 14 [aS [],aI 0,aI 0,aI 0,aI 0,aB false]),(none,.store (S 14) (S 33) 6)]) (.seq (.reg [fa 34 5 3,(none,.load 35 (S 34) true 2),fa 36 6 0,ld 37 36,(none,.load 38 (S 14) true 6),fa 39 6 1,ld 40 39,mv 41 3,mv 42 12,(none,.call 43 45 [(S 35),(S 37),(S 38),(S 40),(S 41),(S 42)]),mv 15 43]) (.seq (.reg [mv 44 4,fa 45 5 3,(none,.load 46 (S 45) true 2),(none,.load 47 (S 14) true 6),mv 48 3,mv 49 12,(none,.call 50 46 [(S 46),(S 47),(S 48),(S 49)]),mv 51 15,(none,.build 52 [aI 0,aI 0,aI 0,.nil] [(0,1,(S 44)),(1,1,(S 50)),(3,1,(S 51))]),(none,.alloc 16 [aI 0,aI 0,aI 0,.nil]),(none,.store (S 16) (S 52) 4)]) (.seq (.reg [fa 53 16 1,ld 54 53,fa 55 6 3,ld 56 55,bn 57 .sub 54 56,fa 58 16 2,(none,.store (S 58) (S 57) 1)]) (.seq (.seq (.reg [fa 59 7 1,ld 60 59,(none,.len 61 (S 60)),(none,.mv 62 (K 0))]) (.block 0 (.loop B5e))) B93))))))))
theorem D7f (a4 : Int) (r5 : Int) (r4 : (List XPassage)) (v7 : Int) : ∀ (f : Nat) (b1 : Bool) (b2 : Bool) (b3 : Bool) (b5 : Bool),F2 Try.prog A2p ⟨[(10,vc (.pb 10 0)),(16,vc (.pb 16 0)),(72,va [aI a4,aI r5,aI v7,.own 2752]),(73,vc (.pb 16 1)),(74,vc (aI r5)),(75,vc (aB (decide (r5 ≤ (2880 : Int))))),(11,vc (aB (decide (r5 ≤ (2880 : Int)))))],[(10,[aI a4,aI r5,aI v7,.own 2752]),(16,[aI a4,aI r5,aI v7,.own 2752])],[(2752,5,List.map XPassage.row r4)]⟩ f [true,b1,b2,b3,true,b5] ⟨[(10,vc (.pb 10 0)),(16,vc (.pb 16 0)),(72,va [aI a4,aI r5,aI v7,.own 2752]),(73,bif b1 then vc (.pb 16 1) else .undef),(74,bif b2 then vc (aI r5) else .undef),(75,bif b3 then vc (aB (decide (r5 ≤ (2880 : Int)))) else .undef),(11,bif b5 then vc (aB (decide (r5 ≤ (2880 : Int)))) else .undef)],[(10,[aI a4,aI r5,aI v7,.own 2752]),(16,[aI a4,aI r5,aI v7,.own 2752])],[(2752,5,List.map XPassage.row r4)]⟩ := by
 intro f
 induction f with
 | zero =>
  intro b1 b2 b3 b5 h
  obtain rfl : b1 = true := List.all_eq_true.1 h b1 (by simp)
  obtain rfl : b2 = true := List.all_eq_true.1 h b2 (by simp)
  obtain rfl : b3 = true := List.all_eq_true.1 h b3 (by simp)
  obtain rfl : b5 = true := List.all_eq_true.1 h b5 (by simp)
  rfl
 | succ f ih =>
  intro b1 b2 b3 b5
  refine C3 ⟨?_,?_,?_,?_,?_,?_,trivial⟩
  ·intro h; cases h
  ·intro h0 hw
   obtain rfl : b1 = false := Option.some.inj h0
   refine ⟨[],[],rfl,rfl,?_⟩
   simp only [List.nil_append,List.cons_append]
   try simp only [A1,ua,ub,uc,ud,ue,RR]
   exact ih true b2 b3 b5
  ·intro h0 hw
   obtain rfl : b2 = false := Option.some.inj h0
   obtain rfl : b1 = true := Option.some.inj (hw 1 (by simp))
   refine ⟨[],[],rfl,rfl,?_⟩
   simp only [List.nil_append,List.cons_append]
   try simp only [A1,ua,ub,uc,ud,ue,RR]
   exact ih true true b3 b5
  ·intro h0 hw
   obtain rfl : b3 = false := Option.some.inj h0
   obtain rfl : b2 = true := Option.some.inj (hw 2 (by simp))
   refine ⟨[],[],rfl,rfl,?_⟩
   simp only [List.nil_append,List.cons_append]
   try simp only [A1,ua,ub,uc,ud,ue,RR]
   exact ih b1 true true b5
  ·intro h; cases h
  ·intro h0 hw
   obtain rfl : b5 = false := Option.some.inj h0
   obtain rfl : b1 = true := Option.some.inj (hw 1 (by simp))
   obtain rfl : b2 = true := Option.some.inj (hw 2 (by simp))
   obtain rfl : b3 = true := Option.some.inj (hw 3 (by simp))
   refine ⟨[],[],rfl,rfl,?_⟩
   simp only [List.nil_append,List.cons_append]
   try simp only [A1,ua,ub,uc,ud,ue,RR]
   exact ih true true true true
theorem D6o (a4 : Int) (r5 : Int) (r4 : (List XPassage)) (v7 : Int) : ∀ (f : Nat) (b0 : Bool) (b1 : Bool) (b2 : Bool) (b3 : Bool),F2 Try.prog A2p ⟨[(10,vc (.pb 10 0)),(16,vc (.pb 16 0)),(72,va [aI a4,aI r5,aI v7,.own 2752]),(73,vc (.pb 16 1)),(74,vc (aI r5)),(75,vc (aB (decide (r5 ≤ (2880 : Int))))),(11,vc (aB (decide (r5 ≤ (2880 : Int)))))],[(10,[aI a4,aI r5,aI v7,.own 2752]),(16,[aI a4,aI r5,aI v7,.own 2752])],[(2752,5,List.map XPassage.row r4)]⟩ f [b0,b1,b2,b3,false,false] ⟨[(10,vc (.pb 10 0)),(16,vc (.pb 16 0)),(72,bif b0 then va [aI a4,aI r5,aI v7,.own 2752] else .undef),(73,bif b1 then vc (.pb 16 1) else .undef),(74,bif b2 then vc (aI r5) else .undef),(75,bif b3 then vc (aB (decide (r5 ≤ (2880 : Int)))) else .undef),(11,.undef)],[(10,[aI (0 : Int),aI (0 : Int),aI (0 : Int),.nil]),(16,[aI a4,aI r5,aI v7,.own 2752])],[(2752,5,List.map XPassage.row r4)]⟩ := by
 intro f
 induction f with
 | zero => intro b0 b1 b2 b3 h; simp at h
 | succ f ih =>
  intro b0 b1 b2 b3
  refine C3 ⟨?_,?_,?_,?_,?_,?_,trivial⟩
  ·intro h0 hw
   obtain rfl : b0 = false := Option.some.inj h0
   refine ⟨[],[],rfl,rfl,?_⟩
   simp only [List.nil_append,List.cons_append]
   try simp only [A1,ua,ub,uc,ud,ue,RR]
   exact ih true b1 b2 b3
  ·intro h0 hw
   obtain rfl : b1 = false := Option.some.inj h0
   refine ⟨[],[],rfl,rfl,?_⟩
   simp only [List.nil_append,List.cons_append]
   try simp only [A1,ua,ub,uc,ud,ue,RR]
   exact ih b0 true b2 b3
  ·intro h0 hw
   obtain rfl : b2 = false := Option.some.inj h0
   obtain rfl : b1 = true := Option.some.inj (hw 1 (by simp))
   refine ⟨[],[],rfl,rfl,?_⟩
   simp only [List.nil_append,List.cons_append]
   try simp only [A1,ua,ub,uc,ud,ue,RR]
   exact ih b0 true true b3
  ·intro h0 hw
   obtain rfl : b3 = false := Option.some.inj h0
   obtain rfl : b2 = true := Option.some.inj (hw 2 (by simp))
   refine ⟨[],[],rfl,rfl,?_⟩
   simp only [List.nil_append,List.cons_append]
   try simp only [A1,ua,ub,uc,ud,ue,RR]
   exact ih b0 b1 true true
  ·intro h0 hw
   obtain rfl : b0 = true := Option.some.inj (hw 0 (by simp))
   refine ⟨[],[],rfl,rfl,?_⟩
   simp only [List.nil_append,List.cons_append]
   try simp only [A1,ua,ub,uc,ud,ue,RR]
   exact D7f a4 r5 r4 v7 _ b1 b2 b3 false
  ·intro _ hw; have := hw 4 (by simp); cases this
theorem D7i (a2 : Xvoyage) (a4 : Int) (r5 : Int) (r4 : (List XPassage)) : ∀ (n : Nat) (v6 : Int) (v7 : Int) (r : XOption × Bool),Q1 a2 a4 r5 r4 n v6 v7 = some r → ∀ σ : St,σ.kept [10,16,60,61,62] [10,16] [2752] = ⟨[(10,vc (.pb 10 0)),(16,vc (.pb 16 0)),(60,vc (aL (List.map rI a2.minutes))),(61,vc (aI (a2.minutes.length : Int))),(62,vc (aI v6))],[(10,[aI (0 : Int),aI (0 : Int),aI (0 : Int),.nil]),(16,[aI a4,aI r5,aI v7,.own 2752])],[(2752,5,List.map XPassage.row r4)]⟩ → go Try.prog (.code (.loop B5e) :: [.blk 0,.code B93]) (Ret [.c 10 true 4,11] [.ag [.v (.int .i64 r.1.Start),.v (.int .i64 r.1.Arrival),.v (.int .i64 r.1.Cost),.o 5 (List.map XPassage.row r.1.Passages)],.sc (.v (.bool r.2))]) .normal (some σ) := by
 intro n
 induction n with
 | zero => intro _ _ r h; cases h
 | succ n ih =>
  intro v6 v7 r h σ hσ
  rw [Q1] at h
  refine B8 ?_
  rcases ug (decide (v6 < (a2.minutes.length : Int))) with hb8 | hb8
  ·rw [A4 hb8] at h
   obtain ⟨x9,hx9,h⟩ := ob h
   try simp only [hσ,hb8,hx9,B5e,ua,ub,uc,ud,ue,RR]
   refine ih _ _ _ h _ ?_
   try simp only [hb8,hx9,ua,ub,uc,ud,ue,RR,List.map_nil]
  ·rw [A3 hb8] at h
   try simp only [hσ,hb8,B5e,B93,ua,ub,uc,ud,ue,RR]
   refine A3a (ks := [10,16]) (bs := [10,16]) (rs := [2752]) (τ := ⟨[(10,vc (.pb 10 0)),(16,vc (.pb 16 0)),(72,va [aI a4,aI r5,aI v7,.own 2752]),(73,vc (.pb 16 1)),(74,vc (aI r5)),(75,vc (aB (decide (r5 ≤ (2880 : Int))))),(11,vc (aB (decide (r5 ≤ (2880 : Int)))))],[(10,[aI a4,aI r5,aI v7,.own 2752]),(16,[aI a4,aI r5,aI v7,.own 2752])],[(2752,5,List.map XPassage.row r4)]⟩) rfl (D6o a4 r5 r4 v7 _ false false false false) ?_
   try simp only [hb8,ua,ub,uc,ud,ue,RR]
   cases h
   try simp only [T8,ua,ub,uc,ud,ue,RR]
   exact ⟨⟨⟨rfl,rfl,rfl,rfl,trivial⟩,rfl,trivial⟩,rfl⟩
theorem D99 : A9 Try.prog 18 = some (cc309.strip,[.c 10 true 4,11],76) := by kernel_rfl
theorem B4d (a0 : XHarbour) (a1 : XCall) (a2 : Xvoyage) (a3 : List Int) (a4 : Int) (r : XOption × Bool) (h : A1c a0 a1 a2 a3 a4 = some r) : FC Try.prog 18 [.ag (XHarbour.row a0),.ag (XCall.row a1),.ag (Xvoyage.row a2),.sc (.sl (List.map rI a3)),.sc (.int .i64 a4)] [.ag [.v (.int .i64 r.1.Start),.v (.int .i64 r.1.Arrival),.v (.int .i64 r.1.Cost),.o 5 (List.map XPassage.row r.1.Passages)],.sc (.v (.bool r.2))] := by
 unfold A1c at h
 refine B9 (σ := ⟨[(0,va [aI a0.Forecast.Tide.Mean,aL (List.map XPart.row a0.Forecast.Tide.Parts),aL (List.map XSurge.row a0.Forecast.Surges),aL (List.map XPoint.row a0.Chart.Points),aL (List.map XSegment.row a0.Chart.Segments),aL (List.map XShip.row a0.Fleet),aI a0.Regime.Gap,aB a0.Regime.NoMeet,aI a0.Crew.Tugs,aI a0.Crew.Pilots,aI a0.Crew.Rest,aL (List.map rI a0.Crew.Moves)]),(1,va [aI a1.Ship,aI a1.From,aI a1.To,aI a1.Ready,aI a1.Due]),(2,va [aL (List.map rB a2.waits),aL (List.map rI a2.minutes),aL (List.map (rL XWindow.row) a2.sure)]),(3,vc (aL (List.map rI a3))),(4,vc (aI a4))],[],[]⟩) B3 D99 rfl rfl ?_
 simp only [cc309]
 try simp only [ua,ub,uc,ud,ue,RR]
 refine B5 rfl rfl rfl ?_
 try simp only [ua,ub,uc,ud,ue,RR]
 refine B5 rfl rfl rfl ?_
 try simp only [ua,ub,uc,ud,ue,RR]
 refine B5 rfl rfl rfl ?_
 try simp only [ua,ub,uc,ud,ue,RR]
 refine D2 rfl rfl ?_
 obtain ⟨r1,hr1,h⟩ := ob h
 try simp only [ua,ub,uc,ud,ue,RR]
 refine A6 (A8l _ _ _ hr1) rfl rfl (uf rfl) ?_
 rcases ug r1.2 with hb2 | hb2
 ·rw [A4 hb2] at h
  obtain ⟨x3,hx3,h⟩ := ob h
  try simp only [hb2,hx3,ua,ub,uc,ud,ue,RR]
  refine D2 rfl rfl ?_
  obtain ⟨r4,hr4,h⟩ := ob h
  try simp only [hb2,hx3,ua,ub,uc,ud,ue,RR]
  refine A6o (A9l _ _ _ _ _ _ _ hr4) rfl (B1t rfl ⟨B11,trivial⟩) rfl (uf rfl) ?_
  obtain ⟨r5,hr5,h⟩ := ob h
  try simp only [hb2,hx3,ua,ub,uc,ud,ue,RR]
  refine A6o (B0k _ _ _ _ _ hr5) rfl (A3m rfl) rfl (uf rfl) ?_
  try simp only [hb2,hx3,ua,ub,uc,ud,ue,RR]
  refine D2 rfl rfl ?_
  try simp only [hb2,hx3,ua,ub,uc,ud,ue,RR]
  refine D7i _ _ _ _ _ _ _ _ h _ ?_
  try simp only [hb2,hx3,ua,ub,uc,ud,ue,RR,List.map_nil]
 ·rw [A3 hb2] at h
  try simp only [hb2,ua,ub,uc,ud,ue,RR]
  cases h
  try simp only [T8,ua,ub,uc,ud,ue,RR]
  exact ⟨⟨⟨rfl,rfl,rfl,rfl,trivial⟩,rfl,trivial⟩,rfl⟩
/- 5: impl_OptionsOf -/
def B9j : ACode := .seq (.reg [(none,.keep [2,3,5,7,9,10] [2,3,7] [1984,1985,1986,2560])]) (.reg [mv 52 10,(none,.bin 53 .add (S 52) (K 15)),mv 10 53])
def A6s : ACode := .seq (.reg [(none,.keep [2,3,5,7,9,10] [2,3,7] [1984,1985,1986,2560])]) (.seq (.seq (.reg [mv 43 10,fa 44 3 4,ld 45 44,bn 46 .leq 43 45,mv 47 46,(some (47,true),.mv 48 (S 9)),(some (47,true),.len 49 (S 48)),(some (47,true),.bin 50 .lss (S 49) (K 8)),(none,.pick 51 (S 47) (S 50) (KB false))]) (.cond (S 51) .skip (.exit 0))) (.seq (.block 1 (.seq (.reg [(none,.load 55 (S 2) true 12),(none,.load 56 (S 3) true 5),(none,.load 57 (S 7) true 3),mv 58 5,mv 59 10,(none,.call 60 18 [(S 55),(S 56),(S 57),(S 58),(S 59)]),mv 54 60,(none,.extr 61 (S 54) 0),(none,.extr 62 (S 54) 1),(none,.alloc 11 [aI 0,aI 0,aI 0,.nil]),(none,.store (S 11) (S 61) 4),mv 12 62]) (.seq (.reg [mv 63 12]) (.cond (S 63) (.reg [mv 64 9,(none,.load 65 (S 11) true 4),(none,.frz 3843),(none,.bslice 66 4 [.int .i64 0,.int .i64 0,.int .i64 0,.sl []] 1 [(0,(S 65))]),(none,.app 67 4 48 (S 64) (S 66)),mv 9 67]) .skip)))) B9j))
def A9a : ACode := (.seq (.reg [mv 68 9,mv 4 68]) .ret)
def cc317 : ACode := (.seq (.reg [(none,.box 2 (S 0)),(none,.box 3 (S 1)),(none,.mv 4 KN)]) (.seq (.seq (.reg [(none,.load 13 (S 2) true 12),(none,.load 14 (S 3) true 5),(none,.call 15 6 [(S 13),(S 14)]),(none,.un 16 .not (S 15))]) (.cond (S 16) (.seq (.reg [(none,.mv 4 KN)]) .ret) .skip)) (.seq (.reg [fa 18 2 3,(none,.load 19 (S 18) true 2),fa 20 3 1,ld 21 20,fa 22 3 2,ld 23 22,(none,.call 24 16 [(S 19),(S 21),(S 23)]),mv 17 24,(none,.extr 25 (S 17) 0),(none,.extr 26 (S 17) 1),mv 5 25,mv 6 26]) (.seq (.reg [(none,.load 28 (S 2) true 12),(none,.load 29 (S 3) true 5),mv 30 5,(none,.call 31 17 [(S 28),(S 29),(S 30)]),mv 27 31,(none,.extr 32 (S 27) 0),(none,.extr 33 (S 27) 1),(none,.alloc 7 [.nil,.nil,.nil]),(none,.store (S 7) (S 32) 3),mv 8 33]) (.seq (.seq (.reg [mv 34 6,(none,.un 35 .not (S 34)),mv 36 35,(some (36,false),.mv 37 (S 8)),(some (36,false),.un 38 .not (S 37)),(none,.pick 39 (S 36) (KB true) (S 38))]) (.cond (S 39) (.seq (.reg [(none,.mv 4 KN)]) .ret) .skip)) (.seq (.reg [(none,.bslice 40 4 [.int .i64 0,.int .i64 0,.int .i64 0,.sl []] 0 []),mv 9 40]) (.seq (.seq (.reg [fa 41 3 3,ld 42 41,mv 10 42]) (.block 0 (.loop A6s))) A9a)))))))
theorem C8v (r3 : (List Int) × Bool) (v7 : Int) (a0 : XHarbour) (a1 : XCall) (r4 : Xvoyage × Bool) (k_impl_OptionsOf_1 : Int → (List XOption) → Option (List XOption)) (hk_impl_OptionsOf_1 : ∀ (v7 : Int) (v8 : List XOption) zr,k_impl_OptionsOf_1 v7 v8 = some zr → ∀ σ : St,σ.kept [2,3,5,7,9,10] [2,3,7] [1984,1985,1986,2560] = ⟨[(2,vc (.pb 2 0)),(3,vc (.pb 3 0)),(5,vc (aL (List.map rI r3.1))),(7,vc (.pb 7 0)),(9,vc (.own 2560)),(10,vc (aI v7))],[(2,[aI a0.Forecast.Tide.Mean,aL (List.map XPart.row a0.Forecast.Tide.Parts),aL (List.map XSurge.row a0.Forecast.Surges),aL (List.map XPoint.row a0.Chart.Points),aL (List.map XSegment.row a0.Chart.Segments),aL (List.map XShip.row a0.Fleet),aI a0.Regime.Gap,aB a0.Regime.NoMeet,aI a0.Crew.Tugs,aI a0.Crew.Pilots,aI a0.Crew.Rest,aL (List.map rI a0.Crew.Moves)]),(3,[aI a1.Ship,aI a1.From,aI a1.To,aI a1.Ready,aI a1.Due]),(7,[.own 1984,.own 1985,.own 1986])],[(1984,1,List.map rB r4.1.waits),(1985,1,List.map rI r4.1.minutes),(1986,1,List.map (rL XWindow.row) r4.1.sure),(2560,4,List.map XOption.row v8)]⟩ → go Try.prog (.code (.loop A6s) :: [.blk 0,.code A9a]) (Ret [4] [.sc (.o 4 (List.map XOption.row zr))]) .normal (some σ)) (v14 : List XOption) (r : (List XOption)) (h : O7 r3 v7 a0 a1 r4 k_impl_OptionsOf_1 v14 = some r) (σ : St) (hσ : σ.kept [2,3,5,7,9,10] [2,3,7] [1984,1985,1986,2560] = ⟨[(2,vc (.pb 2 0)),(3,vc (.pb 3 0)),(5,vc (aL (List.map rI r3.1))),(7,vc (.pb 7 0)),(9,vc (.own 2560)),(10,vc (aI v7))],[(2,[aI a0.Forecast.Tide.Mean,aL (List.map XPart.row a0.Forecast.Tide.Parts),aL (List.map XSurge.row a0.Forecast.Surges),aL (List.map XPoint.row a0.Chart.Points),aL (List.map XSegment.row a0.Chart.Segments),aL (List.map XShip.row a0.Fleet),aI a0.Regime.Gap,aB a0.Regime.NoMeet,aI a0.Crew.Tugs,aI a0.Crew.Pilots,aI a0.Crew.Rest,aL (List.map rI a0.Crew.Moves)]),(3,[aI a1.Ship,aI a1.From,aI a1.To,aI a1.Ready,aI a1.Due]),(7,[.own 1984,.own 1985,.own 1986])],[(1984,1,List.map rB r4.1.waits),(1985,1,List.map rI r4.1.minutes),(1986,1,List.map (rL XWindow.row) r4.1.sure),(2560,4,List.map XOption.row v14)]⟩) : go Try.prog (.code B9j :: [.code (.loop A6s),.blk 0,.code A9a]) (Ret [4] [.sc (.o 4 (List.map XOption.row r))]) .normal (some σ) := by
 unfold O7 at h
 try simp only [hσ,B9j,ua,ub,uc,ud,ue,RR]
 refine hk_impl_OptionsOf_1 _ _ _ h _ ?_
 try simp only [ua,ub,uc,ud,ue,RR,List.map_nil]
theorem D94 (r3 : (List Int) × Bool) (a0 : XHarbour) (a1 : XCall) (r4 : Xvoyage × Bool) : ∀ (n : Nat) (v7 : Int) (v8 : List XOption) (r : (List XOption)),F9 r3 a0 a1 r4 n v7 v8 = some r → ∀ σ : St,σ.kept [2,3,5,7,9,10] [2,3,7] [1984,1985,1986,2560] = ⟨[(2,vc (.pb 2 0)),(3,vc (.pb 3 0)),(5,vc (aL (List.map rI r3.1))),(7,vc (.pb 7 0)),(9,vc (.own 2560)),(10,vc (aI v7))],[(2,[aI a0.Forecast.Tide.Mean,aL (List.map XPart.row a0.Forecast.Tide.Parts),aL (List.map XSurge.row a0.Forecast.Surges),aL (List.map XPoint.row a0.Chart.Points),aL (List.map XSegment.row a0.Chart.Segments),aL (List.map XShip.row a0.Fleet),aI a0.Regime.Gap,aB a0.Regime.NoMeet,aI a0.Crew.Tugs,aI a0.Crew.Pilots,aI a0.Crew.Rest,aL (List.map rI a0.Crew.Moves)]),(3,[aI a1.Ship,aI a1.From,aI a1.To,aI a1.Ready,aI a1.Due]),(7,[.own 1984,.own 1985,.own 1986])],[(1984,1,List.map rB r4.1.waits),(1985,1,List.map rI r4.1.minutes),(1986,1,List.map (rL XWindow.row) r4.1.sure),(2560,4,List.map XOption.row v8)]⟩ → go Try.prog (.code (.loop A6s) :: [.blk 0,.code A9a]) (Ret [4] [.sc (.o 4 (List.map XOption.row r))]) .normal (some σ) := by
 intro n
 induction n with
 | zero => intro _ _ r h; cases h
 | succ n ih =>
  intro v7 v8 r h σ hσ
  rw [F9] at h
  refine B8 ?_
  rcases ug (decide (v7 ≤ a1.Due)) with hb9 | hb9
  ·rw [A4 hb9] at h
   rcases ug (decide ((v8.length : Int) < (8 : Int))) with hb10 | hb10
   ·rw [A4 hb10] at h
    obtain ⟨r11,hr11,h⟩ := ob h
    try simp only [hσ,hb9,hb10,A6s,ua,ub,uc,ud,ue,RR]
    refine A6o (B4d _ _ _ _ _ _ hr11) rfl (B1t rfl ⟨rfl,rfl,rfl,B11,rfl,trivial⟩) rfl (uf rfl) ?_
    try simp only [hb9,hb10,ua,ub,uc,ud,ue,RR]
    refine D2 rfl rfl ?_
    rcases ug r11.2 with hb12 | hb12
    ·rw [A4 hb12] at h
     try simp only [hb9,hb10,hb12,ua,ub,uc,ud,ue,RR]
     refine U3 rfl ?_
     try simp only [hb9,hb10,hb12,ua,ub,uc,ud,ue,RR]
     refine E8 (es := List.map XOption.row ([r11.1] : List XOption)) rfl rfl ?_
     obtain ⟨hg13,h⟩ := E3 h
     try simp only [hb9,hb10,hb12,hg13,ua,ub,uc,ud,ue,RR]
     refine C8v _ _ _ _ _ (F9 r3 a0 a1 r4 n) ih _ _ h _ ?_
     try simp only [hb9,hb10,hb12,hg13,ua,ub,uc,ud,ue,RR,List.map_nil]
    ·rw [A3 hb12] at h
     try simp only [hb9,hb10,hb12,ua,ub,uc,ud,ue,RR]
     refine C8v _ _ _ _ _ (F9 r3 a0 a1 r4 n) ih _ _ h _ ?_
     try simp only [hb9,hb10,hb12,ua,ub,uc,ud,ue,RR,List.map_nil]
   ·rw [A3 hb10] at h
    try simp only [hσ,hb9,hb10,A6s,A9a,ua,ub,uc,ud,ue,RR]
    cases h
    exact ⟨⟨rfl,trivial⟩,rfl⟩
  ·rw [A3 hb9] at h
   try simp only [hσ,hb9,A6s,A9a,ua,ub,uc,ud,ue,RR]
   cases h
   exact ⟨⟨rfl,trivial⟩,rfl⟩
theorem E06 : A9 Try.prog 5 = some (cc317.strip,[4],69) := by kernel_rfl
theorem A5g (a0 : XHarbour) (a1 : XCall) (r : (List XOption)) (h : S4 a0 a1 = some r) : FC Try.prog 5 [.ag (XHarbour.row a0),.ag (XCall.row a1)] [.sc (.o 4 (List.map XOption.row r))] := by
 unfold S4 at h
 refine B9 (σ := ⟨[(0,va [aI a0.Forecast.Tide.Mean,aL (List.map XPart.row a0.Forecast.Tide.Parts),aL (List.map XSurge.row a0.Forecast.Surges),aL (List.map XPoint.row a0.Chart.Points),aL (List.map XSegment.row a0.Chart.Segments),aL (List.map XShip.row a0.Fleet),aI a0.Regime.Gap,aB a0.Regime.NoMeet,aI a0.Crew.Tugs,aI a0.Crew.Pilots,aI a0.Crew.Rest,aL (List.map rI a0.Crew.Moves)]),(1,va [aI a1.Ship,aI a1.From,aI a1.To,aI a1.Ready,aI a1.Due])],[],[]⟩) B3 E06 rfl rfl ?_
 simp only [cc317]
 try simp only [ua,ub,uc,ud,ue,RR]
 refine B5 rfl rfl rfl ?_
 try simp only [ua,ub,uc,ud,ue,RR]
 refine B5 rfl rfl rfl ?_
 obtain ⟨r1,hr1,h⟩ := ob h
 try simp only [ua,ub,uc,ud,ue,RR]
 refine A6 (A7i _ _ _ hr1) rfl rfl (uf rfl) ?_
 rcases ug r1 with hb2 | hb2
 ·rw [A4 hb2] at h
  obtain ⟨r3,hr3,h⟩ := ob h
  try simp only [hb2,ua,ub,uc,ud,ue,RR]
  refine A6 (B0n _ _ _ _ hr3) rfl rfl (uf rfl) ?_
  obtain ⟨r4,hr4,h⟩ := ob h
  try simp only [hb2,ua,ub,uc,ud,ue,RR]
  refine A6 (A9h _ _ _ _ hr4) rfl rfl (uf rfl) ?_
  try simp only [hb2,ua,ub,uc,ud,ue,RR]
  refine D2 rfl rfl ?_
  rcases ug r3.2 with hb5 | hb5
  ·rw [A4 hb5] at h
   rcases ug r4.2 with hb6 | hb6
   ·rw [A4 hb6] at h
    try simp only [hb2,hb5,hb6,ua,ub,uc,ud,ue,RR]
    refine E8 (es := List.map XOption.row ([] : List XOption)) rfl rfl ?_
    try simp only [hb2,hb5,hb6,ua,ub,uc,ud,ue,RR]
    refine D94 _ _ _ _ _ _ _ _ h _ ?_
    try simp only [hb2,hb5,hb6,ua,ub,uc,ud,ue,RR,List.map_nil]
   ·rw [A3 hb6] at h
    try simp only [hb2,hb5,hb6,ua,ub,uc,ud,ue,RR]
    cases h
    exact ⟨⟨rfl,trivial⟩,rfl⟩
  ·rw [A3 hb5] at h
   try simp only [hb2,hb5,ua,ub,uc,ud,ue,RR]
   cases h
   exact ⟨⟨rfl,trivial⟩,rfl⟩
 ·rw [A3 hb2] at h
  try simp only [hb2,ua,ub,uc,ud,ue,RR]
  cases h
  exact ⟨⟨rfl,trivial⟩,rfl⟩
/- 21: impl_CheapestOption -/
def B5s : ACode := .seq (.reg [(none,.keep [0,3,4,6,7,8,24] [] [])]) (.cond (S 24) (.reg [mv 25 4,mv 3 25]) .skip)
def B5p : ACode := (.reg [(none,.bin 26 .add (S 8) (K 1)),mv 8 26])
def A9d : ACode := .seq (.reg [(none,.keep [0,3,6,7,8] [] [])]) (.seq (.reg [bn 9 .lss 8 7]) (.seq (.cond (S 9) .skip (.exit 0)) (.seq (.block 1 (.seq (.reg [mv 10 8,(none,.iaddr 11 (S 6) (S 8) 4),(none,.load 12 (S 11) true 4),(none,.alloc 5 [aI 0,aI 0,aI 0,.nil]),mv 4 10,(none,.store (S 5) (S 12) 4)]) (.seq (.drw [(some [],mv 13 3),(some [],(none,.bin 14 .lss (S 13) (K 0))),(some [],mv 15 14),(some [],(some (15,false),.faddr 16 (S 5) 2)),(some [],(some (15,false),.load 17 (S 16) false 1)),(some [],(some (15,false),.mv 18 (S 0))),(some [],(some (15,false),.mv 19 (S 3))),(some [],(some (15,false),.iaddr 20 (S 18) (S 19) 4)),(some [],(some (15,false),.faddr 21 (S 20) 2)),(some [],(some (15,false),.load 22 (S 21) false 1)),(some [],(some (15,false),.bin 23 .lss (S 17) (S 22))),(some [],(none,.pick 24 (S 15) (KB true) (S 23)))]) B5s))) B5p)))
def B1k : ACode := (.seq (.reg [mv 27 3,mv 2 27]) .ret)
def cc325 : ACode := (.seq (.reg [(none,.mv 2 (K 0))]) (.seq (.reg [(none,.mv 3 (K (-1)))]) (.seq (.seq (.reg [mv 6 0,(none,.len 7 (S 6)),(none,.mv 8 (K 0))]) (.block 0 (.loop A9d))) B1k)))
theorem C8q (a0 : List XOption) (v1 : Int) (v2 : Int) (k_impl_CheapestOption_1 : Int → Int → Option Int) (hk_impl_CheapestOption_1 : ∀ (v1 : Int) (v2 : Int) zr,k_impl_CheapestOption_1 v1 v2 = some zr → ∀ σ : St,σ.kept [0,3,6,7,8] [] [] = ⟨[(0,vc (aL (List.map XOption.row a0))),(3,vc (aI v1)),(6,vc (aL (List.map XOption.row a0))),(7,vc (aI (a0.length : Int))),(8,vc (aI v2))],[],[]⟩ → go Try.prog (.code (.loop A9d) :: [.blk 0,.code B1k]) (Ret [2] [.sc (.v (.int .i64 zr))]) .normal (some σ)) (v7 : Bool) (r : Int) (h : Q7 a0 v1 v2 k_impl_CheapestOption_1 v7 = some r) (σ : St) (hσ : σ.kept [0,3,4,6,7,8,24] [] [] = ⟨[(0,vc (aL (List.map XOption.row a0))),(3,vc (aI v1)),(4,vc (aI v2)),(6,vc (aL (List.map XOption.row a0))),(7,vc (aI (a0.length : Int))),(8,vc (aI v2)),(24,vc (aB v7))],[],[]⟩) : go Try.prog (.code B5s :: [.blk 1,.code B5p,.code (.loop A9d),.blk 0,.code B1k]) (Ret [2] [.sc (.v (.int .i64 r))]) .normal (some σ) := by
 unfold Q7 at h
 rcases ug v7 with hb8 | hb8
 ·rw [A4 hb8] at h
  try simp only [hσ,hb8,B5s,B5p,ua,ub,uc,ud,ue,RR]
  refine hk_impl_CheapestOption_1 _ _ _ h _ ?_
  try simp only [hb8,ua,ub,uc,ud,ue,RR,List.map_nil]
 ·rw [A3 hb8] at h
  try simp only [hσ,hb8,B5s,B5p,ua,ub,uc,ud,ue,RR]
  refine hk_impl_CheapestOption_1 _ _ _ h _ ?_
  try simp only [hb8,ua,ub,uc,ud,ue,RR,List.map_nil]
theorem D75 (a0 : List XOption) : ∀ (n : Nat) (v1 : Int) (v2 : Int) (r : Int),H0 a0 n v1 v2 = some r → ∀ σ : St,σ.kept [0,3,6,7,8] [] [] = ⟨[(0,vc (aL (List.map XOption.row a0))),(3,vc (aI v1)),(6,vc (aL (List.map XOption.row a0))),(7,vc (aI (a0.length : Int))),(8,vc (aI v2))],[],[]⟩ → go Try.prog (.code (.loop A9d) :: [.blk 0,.code B1k]) (Ret [2] [.sc (.v (.int .i64 r))]) .normal (some σ) := by
 intro n
 induction n with
 | zero => intro _ _ r h; cases h
 | succ n ih =>
  intro v1 v2 r h σ hσ
  rw [H0] at h
  refine B8 ?_
  rcases ug (decide (v2 < (a0.length : Int))) with hb3 | hb3
  ·rw [A4 hb3] at h
   obtain ⟨x4,hx4,h⟩ := ob h
   try simp only [hσ,hb3,hx4,A9d,ua,ub,uc,ud,ue,RR]
   refine D2 rfl rfl ?_
   try simp only [hb3,hx4,ua,ub,uc,ud,ue,RR]
   refine B7 rfl ?_
   rcases ug (decide (v1 < (0 : Int))) with hb5 | hb5
   ·rw [A4 hb5] at h
    try simp only [hb3,hx4,hb5,ua,ub,uc,ud,ue,RR]
    refine C8q _ _ _ (H0 a0 n) ih _ _ h _ ?_
    try simp only [hb3,hx4,hb5,ua,ub,uc,ud,ue,RR,List.map_nil]
   ·rw [A3 hb5] at h
    obtain ⟨x6,hx6,h⟩ := ob h
    try simp only [hb3,hx4,hb5,hx6,ua,ub,uc,ud,ue,RR]
    refine C8q _ _ _ (H0 a0 n) ih _ _ h _ ?_
    try simp only [hb3,hx4,hb5,hx6,ua,ub,uc,ud,ue,RR,List.map_nil]
  ·rw [A3 hb3] at h
   try simp only [hσ,hb3,A9d,B1k,ua,ub,uc,ud,ue,RR]
   cases h
   exact ⟨⟨rfl,trivial⟩,rfl⟩
theorem D90 : A9 Try.prog 21 = some (cc325.strip,[2],28) := by kernel_rfl
theorem A6h (a0 : List XOption) (r : Int) (h : A0z a0 = some r) : FC Try.prog 21 [.sc (.sl (List.map XOption.row a0))] [.sc (.v (.int .i64 r))] := by
 unfold A0z at h
 refine B9 (σ := ⟨[(0,vc (aL (List.map XOption.row a0)))],[],[]⟩) B3 D90 rfl rfl ?_
 simp only [cc325]
 try simp only [ua,ub,uc,ud,ue,RR]
 refine D75 _ _ _ _ _ h _ ?_
 try simp only [ua,ub,uc,ud,ue,RR,List.map_nil]
/- 7: impl_FloorOf -/
def cc329 : ACode := (.seq (.reg [(none,.box 2 (S 0)),(none,.box 3 (S 1)),(none,.mv 4 (K 0))]) (.seq (.reg [(none,.load 6 (S 2) true 12),(none,.load 7 (S 3) true 5),(none,.call 8 5 [(S 6),(S 7)]),mv 5 8]) (.seq (.seq (.reg [mv 9 5,(none,.len 10 (S 9)),(none,.bin 11 .eql (S 10) (K 0))]) (.cond (S 11) (.seq (.reg [(none,.mv 4 (K (-1)))]) .ret) .skip)) (.seq (.reg [mv 12 5,mv 13 5,(none,.call 14 21 [(S 13)]),(none,.iaddr 15 (S 12) (S 14) 4),fa 16 15 2,ld 17 16,mv 4 17]) .ret))))
theorem D74 : A9 Try.prog 7 = some (cc329.strip,[4],18) := by kernel_rfl
theorem B2c (a0 : XHarbour) (a1 : XCall) (r : Int) (h : A13 a0 a1 = some r) : FC Try.prog 7 [.ag (XHarbour.row a0),.ag (XCall.row a1)] [.sc (.v (.int .i64 r))] := by
 unfold A13 at h
 refine B9 (σ := ⟨[(0,va [aI a0.Forecast.Tide.Mean,aL (List.map XPart.row a0.Forecast.Tide.Parts),aL (List.map XSurge.row a0.Forecast.Surges),aL (List.map XPoint.row a0.Chart.Points),aL (List.map XSegment.row a0.Chart.Segments),aL (List.map XShip.row a0.Fleet),aI a0.Regime.Gap,aB a0.Regime.NoMeet,aI a0.Crew.Tugs,aI a0.Crew.Pilots,aI a0.Crew.Rest,aL (List.map rI a0.Crew.Moves)]),(1,va [aI a1.Ship,aI a1.From,aI a1.To,aI a1.Ready,aI a1.Due])],[],[]⟩) B3 D74 rfl rfl ?_
 simp only [cc329]
 try simp only [ua,ub,uc,ud,ue,RR]
 refine B5 rfl rfl rfl ?_
 try simp only [ua,ub,uc,ud,ue,RR]
 refine B5 rfl rfl rfl ?_
 obtain ⟨r1,hr1,h⟩ := ob h
 try simp only [ua,ub,uc,ud,ue,RR]
 refine A6 (A5g _ _ _ hr1) rfl rfl (uf rfl) ?_
 rcases ug ((r1.length : Int) == (0 : Int)) with hb2 | hb2
 ·rw [A4 hb2] at h
  try simp only [hb2,ua,ub,uc,ud,ue,RR]
  cases h
  exact ⟨⟨rfl,trivial⟩,rfl⟩
 ·rw [A3 hb2] at h
  obtain ⟨r3,hr3,h⟩ := ob h
  try simp only [hb2,ua,ub,uc,ud,ue,RR]
  refine A6o (A6h _ _ hr3) rfl (A3m rfl) rfl (uf rfl) ?_
  obtain ⟨x4,hx4,h⟩ := ob h
  have hx4n := Z7 hx4
  try simp only [hb2,hx4,hx4n,ua,ub,uc,ud,ue,RR]
  cases h
  exact ⟨⟨rfl,trivial⟩,rfl⟩
end Go.Vi
