/-
  Walks: what the plain definitions compute is what the functions return. By program. No condition.
-/
import Derived.Test.YtahienmgcfgclaaGNf
import Derived.Test.YtahienmgcfgclaaChecked
import Derived.Test.YtahienmgcfgclaaGFc
import Derived.KernelRfl
namespace Go.Vi
open Go.Proofs
set_option linter.unusedSimpArgs false
set_option linter.unusedVariables false
set_option maxRecDepth 4000
set_option maxHeartbeats 2000000
open Nat renaming reduceBEq → ua, reduceMul → ub, reduceAdd → uc, reduceDiv → ud, le_of_ble_eq_true → uf
open Int renaming reduceBEq → ue
open Bool renaming eq_false_or_eq_true → ug
attribute [local irreducible] go AWP
theorem B3 : Try.prog.follows .mixedOrders = true := by kernel_rfl
/- 12: spec_l01New -/
def cc0 : ACode := .seq (.reg [(none,.keep [0,3,4] [] [])]) (.seq (.seq (.reg [mv 8 4,mv 9 0,(none,.len 10 (S 9)),bn 11 .lss 8 10,mv 12 11,(some (12,true),.mv 13 (S 4)),(some (12,true),.bin 14 .lss (S 13) (K 4000)),(none,.pick 15 (S 12) (S 14) (KB false))]) (.cond (S 15) .skip (.exit 0))) (.seq (.block 1 (.reg [mv 18 3,(none,.bin 19 .mul (S 18) (K 79)),mv 20 0,mv 21 4,(none,.iaddr 22 (S 20) (S 21) 1),ld 23 22,(none,.conv 24 .i64 (S 23)),bn 25 .add 19 24,(none,.bin 26 .add (S 25) (K 7)),(none,.bin 27 .and (S 26) (K 1073741823)),mv 3 27])) (.reg [mv 16 4,(none,.bin 17 .add (S 16) (K 1)),mv 4 17])))
def cc1 : ACode := .seq (.reg [(none,.keep [0,3] [] [])]) (.seq (.reg [mv 28 0,mv 29 3,(none,.build 30 [.nil,aI 0,aI 0] [(0,1,(S 28)),(2,1,(S 29))]),(none,.box 31 (S 30)),mv 2 31]) .ret)
def cc2 : ACode := (.seq (.reg [(none,.mv 2 (.c (.v (.sc .undef))))]) (.seq (.reg [mv 5 0,(none,.len 6 (S 5)),(none,.bin 7 .add (K 1976) (S 6)),mv 3 7]) (.seq (.seq (.reg [(none,.mv 4 (K 0))]) (.block 0 (.loop cc0))) cc1)))
theorem ww3 (a0 : List Int) (v1 : Int) (r : Xl01Cur) (h : U2 a0 v1 = some r) (σ : St) (hσ : σ.kept [0,3] [] [] = ⟨[(0,vc (aL (List.map r8 a0))),(3,vc (aI v1))],[],[]⟩) : go Try.prog (.code cc1 :: []) (C2o [2] [.sl (List.map r8 r.b),.int .i64 r.i,.int .i64 r.h]) .normal (some σ) := by
 unfold U2 at h
 try simp only [hσ,cc1,ua,ub,uc,ud,ue,RR]
 refine B5 rfl rfl rfl ?_
 try simp only [ua,ub,uc,ud,ue,RR]
 cases h
 exact ⟨_,31,rfl,rfl,rfl,rfl⟩
theorem ww4 (a0 : List Int) : ∀ (n : Nat) (v1 : Int) (v2 : Int) (r : Xl01Cur),P3 a0 n v1 v2 = some r → ∀ σ : St,σ.kept [0,3,4] [] [] = ⟨[(0,vc (aL (List.map r8 a0))),(3,vc (aI v1)),(4,vc (aI v2))],[],[]⟩ → go Try.prog (.code (.loop cc0) :: [.blk 0,.code cc1]) (C2o [2] [.sl (List.map r8 r.b),.int .i64 r.i,.int .i64 r.h]) .normal (some σ) := by
 intro n
 induction n with
 | zero => intro _ _ r h; cases h
 | succ n ih =>
  intro v1 v2 r h σ hσ
  rw [P3] at h
  refine B8 ?_
  rcases ug (decide (v2 < (a0.length : Int))) with hb3 | hb3
  ·rw [A4 hb3] at h
   rcases ug (decide (v2 < (4000 : Int))) with hb4 | hb4
   ·rw [A4 hb4] at h
    obtain ⟨x5,hx5,h⟩ := ob h
    try simp only [hσ,hb3,hb4,hx5,cc0,ua,ub,uc,ud,ue,RR]
    refine ih _ _ _ h _ ?_
    try simp only [hb3,hb4,hx5,ua,ub,uc,ud,ue,RR,List.map_nil]
   ·rw [A3 hb4] at h
    try simp only [hσ,hb3,hb4,cc0,ua,ub,uc,ud,ue,RR]
    refine ww3 _ _ _ h _ ?_
    try simp only [hb3,hb4,ua,ub,uc,ud,ue,RR,List.map_nil]
  ·rw [A3 hb3] at h
   try simp only [hσ,hb3,cc0,ua,ub,uc,ud,ue,RR]
   refine ww3 _ _ _ h _ ?_
   try simp only [hb3,ua,ub,uc,ud,ue,RR,List.map_nil]
theorem ee5 : A9 Try.prog 12 = some (cc2.strip,[2],32) := by kernel_rfl
theorem B4k (a0 : List Int) (r : Xl01Cur) (h : A09 a0 = some r) : FCn Try.prog 12 [.sc (.sl (List.map r8 a0))] [.sl (List.map r8 r.b),.int .i64 r.i,.int .i64 r.h] := by
 unfold A09 at h
 refine D38 (σ := ⟨[(0,vc (aL (List.map r8 a0)))],[],[]⟩) B3 ee5 rfl rfl ?_
 simp only [cc2]
 try simp only [ua,ub,uc,ud,ue,RR]
 refine ww4 _ _ _ _ _ h _ ?_
 try simp only [ua,ub,uc,ud,ue,RR,List.map_nil]
/- 39: spec_l01Byte -/
def cc6 : ACode := (.seq (.reg [(none,.mv 2 (K 0))]) (.seq (.reg [mv 4 0,mv 5 0,(none,.nilc 6 (S 5)),fa 7 6 2,ld 8 7,(none,.bin 9 .mul (S 8) (K 6364136223846793005)),(none,.bin 10 .add (S 9) (K 1442695040888963407)),(none,.nilc 11 (S 4)),fa 12 11 2,(none,.store (S 12) (S 10) 1)]) (.seq (.drw [(some [],mv 13 0),(some [],(none,.nilc 14 (S 13))),(some [],fa 15 14 2),(some [],ld 16 15),(some [],(none,.bin 17 .shr (S 16) (.c (.v (.sc (.dat (.int .u64 33))))))),(some [],mv 18 0),(some [],(none,.nilc 19 (S 18))),(some [],fa 20 19 2),(some [],ld 21 20),(some [],(none,.bin 22 .shr (S 21) (.c (.v (.sc (.dat (.int .u64 45))))))),(some [],bn 23 .xor 17 22),(some [],(none,.bin 24 .and (S 23) (K 255))),(some [],mv 3 24)]) (.seq (.seq (.drw [(some [],mv 25 0),(some [],(none,.nilc 26 (S 25))),(some [],fa 27 26 1),(some [],ld 28 27),(some [],mv 29 0),(some [],(none,.nilc 30 (S 29))),(some [],fa 31 30 0),(some [],ld 32 31),(some [],(none,.len 33 (S 32))),(some [],bn 34 .lss 28 33)]) (.cond (S 34) (.seq (.drw [(some [],mv 35 3),(some [],mv 36 0),(some [],(none,.nilc 37 (S 36))),(some [],fa 38 37 0),(some [],ld 39 38),(some [],mv 40 0),(some [],(none,.nilc 41 (S 40))),(some [],fa 42 41 1),(some [],ld 43 42),(some [],(none,.iaddr 44 (S 39) (S 43) 1)),(some [],ld 45 44),(some [],(none,.conv 46 .i64 (S 45))),(some [],bn 47 .add 35 46),(some [],(none,.bin 48 .and (S 47) (K 255))),(some [],mv 3 48)]) (.reg [mv 49 0,mv 50 0,(none,.nilc 51 (S 50)),fa 52 51 1,ld 53 52,(none,.bin 54 .add (S 53) (K 1)),(none,.nilc 55 (S 49)),fa 56 55 1,(none,.store (S 56) (S 54) 1)])) .skip)) (.seq (.reg [mv 57 3,mv 2 57]) .ret)))))
theorem ee7 : A9 Try.prog 39 = some (cc6.strip,[2],58) := by kernel_rfl
theorem A0p (a0 : Xl01Cur) (r : Int × Xl01Cur) (h : M7 a0 = some r) : FCy Try.prog 39 [.p] [.sl (List.map r8 a0.b),.int .i64 a0.i,.int .i64 a0.h] [.sl (List.map r8 r.2.b),.int .i64 r.2.i,.int .i64 r.2.h] [.sc (.v (.int .i64 r.1))] := by
 unfold M7 at h
 refine A0b (σ := ⟨[(0,vc (.pb 1099511627776 0))],[(1099511627776,[aL (List.map r8 a0.b),aI a0.i,aI a0.h])],[]⟩) B3 ee7 rfl rfl ?_
 simp only [cc6]
 try simp only [ua,ub,uc,ud,ue,RR]
 refine B7 rfl ?_
 try simp only [ua,ub,uc,ud,ue,RR]
 refine B7 rfl ?_
 rcases ug (decide (a0.i < (a0.b.length : Int))) with hb1 | hb1
 ·rw [A4 hb1] at h
  try simp only [hb1,ua,ub,uc,ud,ue,RR]
  refine B7 rfl ?_
  obtain ⟨x2,hx2,h⟩ := ob h
  try simp only [hb1,hx2,ua,ub,uc,ud,ue,RR]
  cases h
  exact ⟨⟨rfl,trivial⟩,rfl⟩
 ·rw [A3 hb1] at h
  try simp only [hb1,ua,ub,uc,ud,ue,RR]
  cases h
  exact ⟨⟨rfl,trivial⟩,rfl⟩
/- 15: spec_l01Below -/
def cc8 : ACode := (.seq (.reg [(none,.mv 4 (K 0))]) (.seq (.seq (.reg [mv 9 1,(none,.bin 10 .leq (S 9) (K 0))]) (.cond (S 10) (.seq (.reg [(none,.mv 4 (K 0))]) .ret) .skip)) (.seq (.seq (.reg [mv 11 1,(none,.bin 12 .leq (S 11) (K 256))]) (.cond (S 12) (.seq (.reg [mv 13 0,(none,.call 14 39 [(S 13)]),mv 15 1,bn 16 .rem 14 15,mv 4 16]) .ret) .skip)) (.seq (.reg [mv 17 0,(none,.call 18 39 [(S 17)]),mv 5 18]) (.seq (.reg [mv 19 0,(none,.call 20 39 [(S 19)]),mv 6 20]) (.seq (.reg [mv 21 0,(none,.call 22 39 [(S 21)]),mv 7 22]) (.seq (.reg [mv 23 0,(none,.call 24 39 [(S 23)]),mv 8 24]) (.seq (.reg [mv 25 5,(none,.bin 26 .mul (S 25) (K 16777216)),mv 27 6,(none,.bin 28 .mul (S 27) (K 65536)),bn 29 .add 26 28,mv 30 7,(none,.bin 31 .mul (S 30) (K 256)),bn 32 .add 29 31,mv 33 8,bn 34 .add 32 33,mv 35 1,bn 36 .rem 34 35,mv 4 36]) .ret))))))))
theorem ee9 : A9 Try.prog 15 = some (cc8.strip,[4],37) := by kernel_rfl
theorem B0 (a0 : Xl01Cur) (a1 : Int) (r : Int × Xl01Cur) (h : A5 a0 a1 = some r) : FCy Try.prog 15 [.p,.d (.sc (.int .i64 a1))] [.sl (List.map r8 a0.b),.int .i64 a0.i,.int .i64 a0.h] [.sl (List.map r8 r.2.b),.int .i64 r.2.i,.int .i64 r.2.h] [.sc (.v (.int .i64 r.1))] := by
 unfold A5 at h
 refine A0b (σ := ⟨[(0,vc (.pb 1099511627776 0)),(1,vc (aI a1))],[(1099511627776,[aL (List.map r8 a0.b),aI a0.i,aI a0.h])],[]⟩) B3 ee9 rfl rfl ?_
 simp only [cc8]
 rcases ug (decide (a1 ≤ (0 : Int))) with hb1 | hb1
 ·rw [A4 hb1] at h
  try simp only [hb1,ua,ub,uc,ud,ue,RR]
  cases h
  exact ⟨⟨rfl,trivial⟩,rfl⟩
 ·rw [A3 hb1] at h
  rcases ug (decide (a1 ≤ (256 : Int))) with hb2 | hb2
  ·rw [A4 hb2] at h
   obtain ⟨r3,hr3,h⟩ := ob h
   try simp only [hb1,hb2,ua,ub,uc,ud,ue,RR]
   refine B2 (A0p _ _ hr3) 1099511627776 rfl rfl rfl ?_
   obtain ⟨hg4,h⟩ := A24 h
   try simp only [hb1,hb2,hg4,ua,ub,uc,ud,ue,RR]
   cases h
   exact ⟨⟨rfl,trivial⟩,rfl⟩
  ·rw [A3 hb2] at h
   obtain ⟨r5,hr5,h⟩ := ob h
   try simp only [hb1,hb2,ua,ub,uc,ud,ue,RR]
   refine B2 (A0p _ _ hr5) 1099511627776 rfl rfl rfl ?_
   obtain ⟨r6,hr6,h⟩ := ob h
   try simp only [hb1,hb2,ua,ub,uc,ud,ue,RR]
   refine B2 (A0p _ _ hr6) 1099511627776 rfl rfl rfl ?_
   obtain ⟨r7,hr7,h⟩ := ob h
   try simp only [hb1,hb2,ua,ub,uc,ud,ue,RR]
   refine B2 (A0p _ _ hr7) 1099511627776 rfl rfl rfl ?_
   obtain ⟨r9,hr9,h⟩ := ob h
   try simp only [hb1,hb2,ua,ub,uc,ud,ue,RR]
   refine B2 (A0p _ _ hr9) 1099511627776 rfl rfl rfl ?_
   obtain ⟨hg10,h⟩ := A24 h
   try simp only [hb1,hb2,hg10,ua,ub,uc,ud,ue,RR]
   cases h
   exact ⟨⟨rfl,trivial⟩,rfl⟩
/- 88: spec_l01Pick -/
def cc10 : ACode := (.seq (.reg [(none,.mv 4 (K 0))]) (.seq (.reg [mv 5 1,mv 6 0,mv 7 1,(none,.len 8 (S 7)),(none,.call 9 15 [(S 6),(S 8)]),(none,.iaddr 10 (S 5) (S 9) 1),ld 11 10,mv 4 11]) .ret))
theorem E2e : A9 Try.prog 88 = some (cc10.strip,[4],12) := by kernel_rfl
theorem B2d (a0 : Xl01Cur) (a1 : List Int) (r : Int × Xl01Cur) (h : A0t a0 a1 = some r) : FCy Try.prog 88 [.p,.d (.sc (.sl (List.map rI a1)))] [.sl (List.map r8 a0.b),.int .i64 a0.i,.int .i64 a0.h] [.sl (List.map r8 r.2.b),.int .i64 r.2.i,.int .i64 r.2.h] [.sc (.v (.int .i64 r.1))] := by
 unfold A0t at h
 refine A0b (σ := ⟨[(0,vc (.pb 1099511627776 0)),(1,vc (aL (List.map rI a1)))],[(1099511627776,[aL (List.map r8 a0.b),aI a0.i,aI a0.h])],[]⟩) B3 E2e rfl rfl ?_
 simp only [cc10]
 obtain ⟨r1,hr1,h⟩ := ob h
 try simp only [ua,ub,uc,ud,ue,RR]
 refine B2 (B0 _ _ _ hr1) 1099511627776 rfl rfl rfl ?_
 obtain ⟨x2,hx2,h⟩ := ob h
 try simp only [hx2,ua,ub,uc,ud,ue,RR]
 cases h
 exact ⟨⟨rfl,trivial⟩,rfl⟩
/- 79: spec_l02Part -/
def cc12 : ACode := (.seq (.reg [(none,.alloc 2 [aI 0,aI 0,aI 0])]) (.seq (.reg [mv 4 0,(none,.call 5 15 [(S 4),(K 300)]),mv 6 0,(none,.bslice 7 1 [.int .i64 0] 5 [(0,(K 744)),(1,(K 720)),(2,(K 1440)),(3,(K 372)),(4,(K 240))]),(none,.frz 448),(none,.call 8 88 [(S 6),(S 7)]),(none,.build 9 [aI 0,aI 0,aI 0] [(0,1,(S 5)),(1,1,(S 8))]),(none,.alloc 3 [aI 0,aI 0,aI 0]),(none,.store (S 3) (S 9) 3)]) (.seq (.reg [mv 10 0,fa 11 3 1,ld 12 11,(none,.call 13 15 [(S 10),(S 12)]),fa 14 3 2,(none,.store (S 14) (S 13) 1)]) (.seq (.reg [(none,.load 15 (S 3) true 3),(none,.store (S 2) (S 15) 3)]) .ret))))
theorem E2n : A9 Try.prog 79 = some (cc12.strip,[.c 2 true 3],16) := by kernel_rfl
theorem B18 (a0 : Xl01Cur) (r : XPart × Xl01Cur) (h : I3 a0 = some r) : FCy Try.prog 79 [.p] [.sl (List.map r8 a0.b),.int .i64 a0.i,.int .i64 a0.h] [.sl (List.map r8 r.2.b),.int .i64 r.2.i,.int .i64 r.2.h] [.ag [.v (.int .i64 r.1.Amp),.v (.int .i64 r.1.Period),.v (.int .i64 r.1.Phase)]] := by
 unfold I3 at h
 refine A0b (σ := ⟨[(0,vc (.pb 1099511627776 0))],[(1099511627776,[aL (List.map r8 a0.b),aI a0.i,aI a0.h])],[]⟩) B3 E2n rfl rfl ?_
 simp only [cc12]
 try simp only [ua,ub,uc,ud,ue,RR]
 refine D2 rfl rfl ?_
 obtain ⟨r1,hr1,h⟩ := ob h
 try simp only [ua,ub,uc,ud,ue,RR]
 refine B2 (B0 _ _ _ hr1) 1099511627776 rfl rfl rfl ?_
 try simp only [ua,ub,uc,ud,ue,RR]
 refine E8 (es := List.map rI ([(744 : Int),(720 : Int),(1440 : Int),(372 : Int),(240 : Int)] : List Int)) rfl rfl ?_
 try simp only [ua,ub,uc,ud,ue,RR]
 refine U3 rfl ?_
 obtain ⟨r2,hr2,h⟩ := ob h
 try simp only [ua,ub,uc,ud,ue,RR]
 refine B2 (B2d _ _ _ hr2) 1099511627776 rfl rfl rfl ?_
 try simp only [ua,ub,uc,ud,ue,RR]
 refine D2 rfl rfl ?_
 obtain ⟨r3,hr3,h⟩ := ob h
 try simp only [ua,ub,uc,ud,ue,RR]
 refine B2 (B0 _ _ _ hr3) 1099511627776 rfl rfl rfl ?_
 try simp only [ua,ub,uc,ud,ue,RR]
 cases h
 try simp only [T8,ua,ub,uc,ud,ue,RR]
 exact ⟨⟨⟨rfl,rfl,rfl,trivial⟩,trivial⟩,rfl⟩
/- 62: spec_l02Draw -/
def Q6 : List (List Nat × AItem) := [([],(none,.faddr 15 (S 3) 1)),([0],(none,.load 16 (S 15) false 1)),([],(none,.mv 17 (S 0))),([2],(none,.call 18 79 [(S 17)])),([3],(none,.bslice 19 3 [.int .i64 0,.int .i64 0,.int .i64 0] 1 [(0,(S 18))])),([1,4,3],(none,.app 20 3 24 (S 16) (S 19))),([0,1,2,3,4,5],(none,.faddr 21 (S 3) 1)),([6,5,5,0,1,2,3,4,5],(none,.store (S 21) (S 20) 1))]
def C14 : ACode := .seq (.reg [(none,.keep [0,2,3,4] [1099511627776,2,3] [131136])]) (.seq (.seq (.reg [mv 11 4,(none,.bin 12 .gtr (S 11) (K 0))]) (.cond (S 12) .skip (.exit 0))) (.seq (.block 1 (.any Q6)) (.reg [mv 13 4,(none,.bin 14 .sub (S 13) (K 1)),mv 4 14])))
def C59 : ACode := (.seq (.reg [(none,.frz 131136),(none,.load 22 (S 3) true 2),(none,.store (S 2) (S 22) 2)]) .ret)
def cc16 : ACode := (.seq (.reg [(none,.alloc 2 [aI 0,.nil])]) (.seq (.reg [mv 5 0,(none,.call 6 15 [(S 5),(K 300)]),(none,.build 7 [aI 0,.nil] [(0,1,(S 6))]),(none,.alloc 3 [aI 0,.nil]),(none,.store (S 3) (S 7) 2),(none,.ownb 3 1 131136 3)]) (.seq (.seq (.reg [mv 8 0,(none,.call 9 15 [(S 8),(K 2)]),(none,.bin 10 .add (K 1) (S 9)),mv 4 10]) (.block 0 (.loop C14))) C59)))
theorem E10 (r1 : Int × Xl01Cur) (v3 : Int) (v4 : List Int) (v5 : Int) (v6 : Int) (v7 : List XPart) (r9 : XPart × Xl01Cur) (hr9 : I3 (⟨v4,v5,v6⟩ : Xl01Cur) = some r9) (hg10 : (E1 v7.length ([r9.1] : List XPart).length 24) = true) : ∀ (f : Nat),F2 Try.prog Q6 ⟨[(0,vc (.pb 1099511627776 0)),(2,vc (.pb 2 0)),(3,vc (.pb 3 0)),(4,vc (aI v3)),(15,vc (.pb 3 1)),(16,vc (.undef)),(17,vc (.pb 1099511627776 0)),(18,va [aI r9.1.Amp,aI r9.1.Period,aI r9.1.Phase]),(19,vc (.own 1216)),(20,vc (.own 131136)),(21,vc (.pb 3 1))],[(1099511627776,[aL (List.map r8 r9.2.b),aI r9.2.i,aI r9.2.h]),(2,[aI (0 : Int),.nil]),(3,[aI r1.1,.own 131136])],[(131136,3,List.map XPart.row (v7 ++ ([r9.1] : List XPart))),(1216,3,List.map XPart.row ([r9.1] : List XPart))]⟩ f [true,true,true,true,true,true,true,true] ⟨[(0,vc (.pb 1099511627776 0)),(2,vc (.pb 2 0)),(3,vc (.pb 3 0)),(4,vc (aI v3)),(15,vc (.pb 3 1)),(16,vc (.undef)),(17,vc (.pb 1099511627776 0)),(18,va [aI r9.1.Amp,aI r9.1.Period,aI r9.1.Phase]),(19,vc (.own 1216)),(20,vc (.own 131136)),(21,vc (.pb 3 1))],[(1099511627776,[aL (List.map r8 r9.2.b),aI r9.2.i,aI r9.2.h]),(2,[aI (0 : Int),.nil]),(3,[aI r1.1,.own 131136])],[(131136,3,List.map XPart.row (v7 ++ ([r9.1] : List XPart))),(1216,3,List.map XPart.row ([r9.1] : List XPart))]⟩ := by
 intro f
 induction f with
 | zero => intro h; rfl
 | succ f ih =>
  refine C3 ⟨?_,?_,?_,?_,?_,?_,?_,?_,trivial⟩
  ·intro h; cases h
  ·intro h; cases h
  ·intro h; cases h
  ·intro h; cases h
  ·intro h; cases h
  ·intro h; cases h
  ·intro h; cases h
  ·intro h; cases h
theorem E1u (r1 : Int × Xl01Cur) (v3 : Int) (v4 : List Int) (v5 : Int) (v6 : Int) (v7 : List XPart) (r9 : XPart × Xl01Cur) (hr9 : I3 (⟨v4,v5,v6⟩ : Xl01Cur) = some r9) (hg10 : (E1 v7.length ([r9.1] : List XPart).length 24) = true) : ∀ (f : Nat) (b0 : Bool) (b6 : Bool),F2 Try.prog Q6 ⟨[(0,vc (.pb 1099511627776 0)),(2,vc (.pb 2 0)),(3,vc (.pb 3 0)),(4,vc (aI v3)),(15,vc (.pb 3 1)),(16,vc (.undef)),(17,vc (.pb 1099511627776 0)),(18,va [aI r9.1.Amp,aI r9.1.Period,aI r9.1.Phase]),(19,vc (.own 1216)),(20,vc (.own 131136)),(21,vc (.pb 3 1))],[(1099511627776,[aL (List.map r8 r9.2.b),aI r9.2.i,aI r9.2.h]),(2,[aI (0 : Int),.nil]),(3,[aI r1.1,.own 131136])],[(131136,3,List.map XPart.row (v7 ++ ([r9.1] : List XPart))),(1216,3,List.map XPart.row ([r9.1] : List XPart))]⟩ f [b0,true,true,true,true,true,b6,false] ⟨[(0,vc (.pb 1099511627776 0)),(2,vc (.pb 2 0)),(3,vc (.pb 3 0)),(4,vc (aI v3)),(15,bif b0 then vc (.pb 3 1) else .undef),(16,vc (.undef)),(17,vc (.pb 1099511627776 0)),(18,va [aI r9.1.Amp,aI r9.1.Period,aI r9.1.Phase]),(19,vc (.own 1216)),(20,vc (.own 131136)),(21,bif b6 then vc (.pb 3 1) else .undef)],[(1099511627776,[aL (List.map r8 r9.2.b),aI r9.2.i,aI r9.2.h]),(2,[aI (0 : Int),.nil]),(3,[aI r1.1,.undef])],[(131136,3,List.map XPart.row (v7 ++ ([r9.1] : List XPart))),(1216,3,List.map XPart.row ([r9.1] : List XPart))]⟩ := by
 intro f
 induction f with
 | zero => intro b0 b6 h; simp at h
 | succ f ih =>
  intro b0 b6
  refine C3 ⟨?_,?_,?_,?_,?_,?_,?_,?_,trivial⟩
  ·intro h0 hw
   obtain rfl : b0 = false := Option.some.inj h0
   refine ⟨[],[],rfl,rfl,?_⟩
   simp only [List.nil_append,List.cons_append]
   try simp only [A1,ua,ub,uc,ud,ue,RR]
   exact ih true b6
  ·intro h; cases h
  ·intro h; cases h
  ·intro h; cases h
  ·intro h; cases h
  ·intro h; cases h
  ·intro h0 hw
   obtain rfl : b6 = false := Option.some.inj h0
   obtain rfl : b0 = true := Option.some.inj (hw 0 (by simp))
   refine ⟨[],[],rfl,rfl,?_⟩
   simp only [List.nil_append,List.cons_append]
   try simp only [A1,ua,ub,uc,ud,ue,RR]
   exact ih true true
  ·intro h0 hw
   obtain rfl : b0 = true := Option.some.inj (hw 0 (by simp))
   obtain rfl : b6 = true := Option.some.inj (hw 6 (by simp))
   refine ⟨[],[],rfl,rfl,?_⟩
   simp only [List.nil_append,List.cons_append]
   try simp only [A1,ua,ub,uc,ud,ue,RR]
   exact E10 r1 v3 v4 v5 v6 v7 r9 hr9 hg10 _
theorem E14 (r1 : Int × Xl01Cur) (v3 : Int) (v4 : List Int) (v5 : Int) (v6 : Int) (v7 : List XPart) (r9 : XPart × Xl01Cur) (hr9 : I3 (⟨v4,v5,v6⟩ : Xl01Cur) = some r9) (hg10 : (E1 v7.length ([r9.1] : List XPart).length 24) = true) : ∀ (f : Nat) (b0 : Bool) (b1 : Bool),F2 Try.prog Q6 ⟨[(0,vc (.pb 1099511627776 0)),(2,vc (.pb 2 0)),(3,vc (.pb 3 0)),(4,vc (aI v3)),(15,vc (.pb 3 1)),(16,vc (.undef)),(17,vc (.pb 1099511627776 0)),(18,va [aI r9.1.Amp,aI r9.1.Period,aI r9.1.Phase]),(19,vc (.own 1216)),(20,vc (.own 131136)),(21,vc (.pb 3 1))],[(1099511627776,[aL (List.map r8 r9.2.b),aI r9.2.i,aI r9.2.h]),(2,[aI (0 : Int),.nil]),(3,[aI r1.1,.own 131136])],[(131136,3,List.map XPart.row (v7 ++ ([r9.1] : List XPart))),(1216,3,List.map XPart.row ([r9.1] : List XPart))]⟩ f [b0,b1,true,true,true,false,false,false] ⟨[(0,vc (.pb 1099511627776 0)),(2,vc (.pb 2 0)),(3,vc (.pb 3 0)),(4,vc (aI v3)),(15,bif b0 then vc (.pb 3 1) else .undef),(16,bif b1 then vc (.own 131136) else .undef),(17,vc (.pb 1099511627776 0)),(18,va [aI r9.1.Amp,aI r9.1.Period,aI r9.1.Phase]),(19,vc (.own 1216)),(20,.undef),(21,.undef)],[(1099511627776,[aL (List.map r8 r9.2.b),aI r9.2.i,aI r9.2.h]),(2,[aI (0 : Int),.nil]),(3,[aI r1.1,.own 131136])],[(131136,3,List.map XPart.row v7),(1216,3,List.map XPart.row ([r9.1] : List XPart))]⟩ := by
 intro f
 induction f with
 | zero => intro b0 b1 h; simp at h
 | succ f ih =>
  intro b0 b1
  refine C3 ⟨?_,?_,?_,?_,?_,?_,?_,?_,trivial⟩
  ·intro h0 hw
   obtain rfl : b0 = false := Option.some.inj h0
   refine ⟨[],[],rfl,rfl,?_⟩
   simp only [List.nil_append,List.cons_append]
   try simp only [A1,ua,ub,uc,ud,ue,RR]
   exact ih true b1
  ·intro h0 hw
   obtain rfl : b1 = false := Option.some.inj h0
   obtain rfl : b0 = true := Option.some.inj (hw 0 (by simp))
   refine ⟨[],[],rfl,rfl,?_⟩
   simp only [List.nil_append,List.cons_append]
   try simp only [A1,ua,ub,uc,ud,ue,RR]
   exact ih true true
  ·intro h; cases h
  ·intro h; cases h
  ·intro h; cases h
  ·intro h0 hw
   obtain rfl : b1 = true := Option.some.inj (hw 1 (by simp))
   refine ⟨[],[],rfl,rfl,?_⟩
   simp only [List.nil_append,List.cons_append]
   try simp only [hg10,A1,ua,ub,uc,ud,ue,RR]
   exact E1u r1 v3 v4 v5 v6 v7 r9 hr9 hg10 _ b0 false
  ·intro _ hw; have := hw 5 (by simp); cases this
  ·intro _ hw; have := hw 6 (by simp); cases this
theorem E26 (r1 : Int × Xl01Cur) (v3 : Int) (v4 : List Int) (v5 : Int) (v6 : Int) (v7 : List XPart) (r9 : XPart × Xl01Cur) (hr9 : I3 (⟨v4,v5,v6⟩ : Xl01Cur) = some r9) (hg10 : (E1 v7.length ([r9.1] : List XPart).length 24) = true) : ∀ (f : Nat) (b0 : Bool) (b1 : Bool),F2 Try.prog Q6 ⟨[(0,vc (.pb 1099511627776 0)),(2,vc (.pb 2 0)),(3,vc (.pb 3 0)),(4,vc (aI v3)),(15,vc (.pb 3 1)),(16,vc (.undef)),(17,vc (.pb 1099511627776 0)),(18,va [aI r9.1.Amp,aI r9.1.Period,aI r9.1.Phase]),(19,vc (.own 1216)),(20,vc (.own 131136)),(21,vc (.pb 3 1))],[(1099511627776,[aL (List.map r8 r9.2.b),aI r9.2.i,aI r9.2.h]),(2,[aI (0 : Int),.nil]),(3,[aI r1.1,.own 131136])],[(131136,3,List.map XPart.row (v7 ++ ([r9.1] : List XPart))),(1216,3,List.map XPart.row ([r9.1] : List XPart))]⟩ f [b0,b1,true,true,false,false,false,false] ⟨[(0,vc (.pb 1099511627776 0)),(2,vc (.pb 2 0)),(3,vc (.pb 3 0)),(4,vc (aI v3)),(15,bif b0 then vc (.pb 3 1) else .undef),(16,bif b1 then vc (.own 131136) else .undef),(17,vc (.pb 1099511627776 0)),(18,va [aI r9.1.Amp,aI r9.1.Period,aI r9.1.Phase]),(19,.undef),(20,.undef),(21,.undef)],[(1099511627776,[aL (List.map r8 r9.2.b),aI r9.2.i,aI r9.2.h]),(2,[aI (0 : Int),.nil]),(3,[aI r1.1,.own 131136])],[(131136,3,List.map XPart.row v7)]⟩ := by
 intro f
 induction f with
 | zero => intro b0 b1 h; simp at h
 | succ f ih =>
  intro b0 b1
  refine C3 ⟨?_,?_,?_,?_,?_,?_,?_,?_,trivial⟩
  ·intro h0 hw
   obtain rfl : b0 = false := Option.some.inj h0
   refine ⟨[],[],rfl,rfl,?_⟩
   simp only [List.nil_append,List.cons_append]
   try simp only [A1,ua,ub,uc,ud,ue,RR]
   exact ih true b1
  ·intro h0 hw
   obtain rfl : b1 = false := Option.some.inj h0
   obtain rfl : b0 = true := Option.some.inj (hw 0 (by simp))
   refine ⟨[],[],rfl,rfl,?_⟩
   simp only [List.nil_append,List.cons_append]
   try simp only [A1,ua,ub,uc,ud,ue,RR]
   exact ih true true
  ·intro h; cases h
  ·intro h; cases h
  ·intro h0 hw
   refine ⟨[],[],rfl,rfl,?_⟩
   simp only [List.nil_append,List.cons_append]
   try simp only [A1,ua,ub,uc,ud,ue,RR]
   refine E8 (es := List.map XPart.row ([r9.1] : List XPart)) rfl (by simp only [St.fresh,List.all_cons,List.all_nil,A1h]; simp [AV.cells,V1.cells,AC.uses]) ?_
   try simp only [A1,ua,ub,uc,ud,ue,RR]
   exact E14 r1 v3 v4 v5 v6 v7 r9 hr9 hg10 _ b0 b1
  ·intro _ hw; have := hw 4 (by simp); cases this
  ·intro _ hw; have := hw 4 (by simp); cases this
  ·intro _ hw; have := hw 6 (by simp); cases this
theorem E2z (r1 : Int × Xl01Cur) (v3 : Int) (v4 : List Int) (v5 : Int) (v6 : Int) (v7 : List XPart) (r9 : XPart × Xl01Cur) (hr9 : I3 (⟨v4,v5,v6⟩ : Xl01Cur) = some r9) (hg10 : (E1 v7.length ([r9.1] : List XPart).length 24) = true) : ∀ (f : Nat) (b0 : Bool) (b1 : Bool) (b2 : Bool),F2 Try.prog Q6 ⟨[(0,vc (.pb 1099511627776 0)),(2,vc (.pb 2 0)),(3,vc (.pb 3 0)),(4,vc (aI v3)),(15,vc (.pb 3 1)),(16,vc (.undef)),(17,vc (.pb 1099511627776 0)),(18,va [aI r9.1.Amp,aI r9.1.Period,aI r9.1.Phase]),(19,vc (.own 1216)),(20,vc (.own 131136)),(21,vc (.pb 3 1))],[(1099511627776,[aL (List.map r8 r9.2.b),aI r9.2.i,aI r9.2.h]),(2,[aI (0 : Int),.nil]),(3,[aI r1.1,.own 131136])],[(131136,3,List.map XPart.row (v7 ++ ([r9.1] : List XPart))),(1216,3,List.map XPart.row ([r9.1] : List XPart))]⟩ f [b0,b1,b2,false,false,false,false,false] ⟨[(0,vc (.pb 1099511627776 0)),(2,vc (.pb 2 0)),(3,vc (.pb 3 0)),(4,vc (aI v3)),(15,bif b0 then vc (.pb 3 1) else .undef),(16,bif b1 then vc (.own 131136) else .undef),(17,bif b2 then vc (.pb 1099511627776 0) else .undef),(18,.undef),(19,.undef),(20,.undef),(21,.undef)],[(1099511627776,[aL (List.map r8 v4),aI v5,aI v6]),(2,[aI (0 : Int),.nil]),(3,[aI r1.1,.own 131136])],[(131136,3,List.map XPart.row v7)]⟩ := by
 intro f
 induction f with
 | zero => intro b0 b1 b2 h; simp at h
 | succ f ih =>
  intro b0 b1 b2
  refine C3 ⟨?_,?_,?_,?_,?_,?_,?_,?_,trivial⟩
  ·intro h0 hw
   obtain rfl : b0 = false := Option.some.inj h0
   refine ⟨[],[],rfl,rfl,?_⟩
   simp only [List.nil_append,List.cons_append]
   try simp only [A1,ua,ub,uc,ud,ue,RR]
   exact ih true b1 b2
  ·intro h0 hw
   obtain rfl : b1 = false := Option.some.inj h0
   obtain rfl : b0 = true := Option.some.inj (hw 0 (by simp))
   refine ⟨[],[],rfl,rfl,?_⟩
   simp only [List.nil_append,List.cons_append]
   try simp only [A1,ua,ub,uc,ud,ue,RR]
   exact ih true true b2
  ·intro h0 hw
   obtain rfl : b2 = false := Option.some.inj h0
   refine ⟨[],[],rfl,rfl,?_⟩
   simp only [List.nil_append,List.cons_append]
   try simp only [A1,ua,ub,uc,ud,ue,RR]
   exact ih b0 b1 true
  ·intro h0 hw
   obtain rfl : b2 = true := Option.some.inj (hw 2 (by simp))
   refine ⟨[],[],rfl,rfl,?_⟩
   simp only [List.nil_append,List.cons_append]
   try simp only [A1,ua,ub,uc,ud,ue,RR]
   refine B2 (B18 _ _ hr9) 1099511627776 rfl rfl rfl ?_
   try simp only [A1,ua,ub,uc,ud,ue,RR]
   exact E26 r1 v3 v4 v5 v6 v7 r9 hr9 hg10 _ b0 b1
  ·intro _ hw; have := hw 3 (by simp); cases this
  ·intro _ hw; have := hw 4 (by simp); cases this
  ·intro _ hw; have := hw 3 (by simp); cases this
  ·intro _ hw; have := hw 6 (by simp); cases this
theorem E1r (r1 : Int × Xl01Cur) : ∀ (n : Nat) (v3 : Int) (v4 : List Int) (v5 : Int) (v6 : Int) (v7 : List XPart) (r : XTide × Xl01Cur),N7 r1 n v3 v4 v5 v6 v7 = some r → ∀ σ : St,σ.kept [0,2,3,4] [1099511627776,2,3] [131136] = ⟨[(0,vc (.pb 1099511627776 0)),(2,vc (.pb 2 0)),(3,vc (.pb 3 0)),(4,vc (aI v3))],[(1099511627776,[aL (List.map r8 v4),aI v5,aI v6]),(2,[aI (0 : Int),.nil]),(3,[aI r1.1,.own 131136])],[(131136,3,List.map XPart.row v7)]⟩ → go Try.prog (.code (.loop C14) :: [.blk 0,.code C59]) (A8d [.c 2 true 2] [.ag [.v (.int .i64 r.1.Mean),.v (.sl (List.map XPart.row r.1.Parts))]] [.sl (List.map r8 r.2.b),.int .i64 r.2.i,.int .i64 r.2.h]) .normal (some σ) := by
 intro n
 induction n with
 | zero => intro _ _ _ _ _ r h; cases h
 | succ n ih =>
  intro v3 v4 v5 v6 v7 r h σ hσ
  rw [N7] at h
  refine B8 ?_
  rcases ug (decide ((0 : Int) < v3)) with hb8 | hb8
  ·rw [A4 hb8] at h
   try simp only [hσ,hb8,C14,ua,ub,uc,ud,ue,RR]
   obtain ⟨r9,hr9,h⟩ := ob h
   obtain ⟨hg10,h⟩ := E3 h
   refine A3a (ks := [0,2,3,4]) (bs := [1099511627776,2,3]) (rs := [131136]) (τ := ⟨[(0,vc (.pb 1099511627776 0)),(2,vc (.pb 2 0)),(3,vc (.pb 3 0)),(4,vc (aI v3)),(15,vc (.pb 3 1)),(16,vc (.undef)),(17,vc (.pb 1099511627776 0)),(18,va [aI r9.1.Amp,aI r9.1.Period,aI r9.1.Phase]),(19,vc (.own 1216)),(20,vc (.own 131136)),(21,vc (.pb 3 1))],[(1099511627776,[aL (List.map r8 r9.2.b),aI r9.2.i,aI r9.2.h]),(2,[aI (0 : Int),.nil]),(3,[aI r1.1,.own 131136])],[(131136,3,List.map XPart.row (v7 ++ ([r9.1] : List XPart))),(1216,3,List.map XPart.row ([r9.1] : List XPart))]⟩) rfl (E2z r1 v3 v4 v5 v6 v7 r9 hr9 hg10 _ false false false) ?_
   try simp only [hb8,hg10,ua,ub,uc,ud,ue,RR]
   refine ih _ _ _ _ _ _ h _ ?_
   try simp only [hb8,hg10,ua,ub,uc,ud,ue,RR,List.map_nil]
  ·rw [A3 hb8] at h
   try simp only [hσ,hb8,C14,C59,ua,ub,uc,ud,ue,RR]
   refine U3 rfl ?_
   try simp only [hb8,ua,ub,uc,ud,ue,RR]
   cases h
   try simp only [T8,ua,ub,uc,ud,ue,RR]
   exact ⟨⟨⟨rfl,rfl,trivial⟩,trivial⟩,rfl⟩
theorem E12 : A9 Try.prog 62 = some (cc16.strip,[.c 2 true 2],23) := by kernel_rfl
theorem B26 (a0 : Xl01Cur) (r : XTide × Xl01Cur) (h : A0v a0 = some r) : FCy Try.prog 62 [.p] [.sl (List.map r8 a0.b),.int .i64 a0.i,.int .i64 a0.h] [.sl (List.map r8 r.2.b),.int .i64 r.2.i,.int .i64 r.2.h] [.ag [.v (.int .i64 r.1.Mean),.v (.sl (List.map XPart.row r.1.Parts))]] := by
 unfold A0v at h
 refine A0b (σ := ⟨[(0,vc (.pb 1099511627776 0))],[(1099511627776,[aL (List.map r8 a0.b),aI a0.i,aI a0.h])],[]⟩) B3 E12 rfl rfl ?_
 simp only [cc16]
 try simp only [ua,ub,uc,ud,ue,RR]
 refine D2 rfl rfl ?_
 obtain ⟨r1,hr1,h⟩ := ob h
 try simp only [ua,ub,uc,ud,ue,RR]
 refine B2 (B0 _ _ _ hr1) 1099511627776 rfl rfl rfl ?_
 try simp only [ua,ub,uc,ud,ue,RR]
 refine D2 rfl rfl ?_
 try simp only [ua,ub,uc,ud,ue,RR]
 refine A42 (cs' := [aI r1.1,.own 131136]) rfl rfl rfl rfl ?_
 obtain ⟨r2,hr2,h⟩ := ob h
 try simp only [ua,ub,uc,ud,ue,RR]
 refine B2 (B0 _ _ _ hr2) 1099511627776 rfl rfl rfl ?_
 try simp only [ua,ub,uc,ud,ue,RR]
 refine E1r _ _ _ _ _ _ _ _ h _ ?_
 try simp only [ua,ub,uc,ud,ue,RR,List.map_nil]
/- 33: spec_l03Draw -/
def Q4 : List (List Nat × AItem) := [([],(none,.faddr 20 (S 3) 2)),([0],(none,.load 21 (S 20) false 1)),([],(none,.mv 22 (S 4))),([],(none,.mv 23 (S 6))),([],(none,.mv 24 (S 6))),([],(none,.mv 25 (S 0))),([5],(none,.call 26 15 [(S 25),(K 60)])),([4,6],(none,.bin 27 .add (S 24) (S 26))),([2,3,7],(none,.build 28 [aI 0,aI 0,aI 0] [(0,1,(S 22)),(1,1,(S 23)),(2,1,(S 27))])),([8],(none,.bslice 29 3 [.int .i64 0,.int .i64 0,.int .i64 0] 1 [(0,(S 28))])),([1,9,6],(none,.app 30 3 24 (S 21) (S 29))),([0,1,2,3,4,5,6,7,8,9,10],(none,.faddr 31 (S 3) 2)),([11,10,10,0,1,2,3,4,5,6,7,8,9,10],(none,.store (S 31) (S 30) 1))]
def C2a : ACode := .seq (.reg [(none,.keep [0,2,3,4,5] [1099511627776,2,3] [131200])]) (.seq (.seq (.reg [mv 13 5,(none,.bin 14 .gtr (S 13) (K 0))]) (.cond (S 14) .skip (.exit 0))) (.seq (.block 1 (.seq (.reg [mv 17 0,(none,.call 18 15 [(S 17),(K 60)]),(none,.bin 19 .sub (S 18) (K 40)),mv 6 19]) (.seq (.any Q4) (.reg [mv 32 4,(none,.bin 33 .add (S 32) (K 100)),mv 34 0,(none,.call 35 15 [(S 34),(K 700)]),bn 36 .add 33 35,mv 4 36])))) (.reg [mv 15 5,(none,.bin 16 .sub (S 15) (K 1)),mv 5 16])))
def C73 : ACode := (.seq (.reg [(none,.frz 131200),(none,.load 37 (S 3) true 3),(none,.store (S 2) (S 37) 3)]) .ret)
def cc26 : ACode := (.seq (.reg [(none,.alloc 2 [aI 0,.nil,.nil])]) (.seq (.reg [mv 7 0,(none,.call 8 62 [(S 7)]),(none,.build 9 [aI 0,.nil,.nil] [(0,2,(S 8))]),(none,.alloc 3 [aI 0,.nil,.nil]),(none,.store (S 3) (S 9) 3),(none,.ownb 3 2 131200 3)]) (.seq (.reg [(none,.mv 4 (K 0))]) (.seq (.seq (.reg [mv 10 0,(none,.call 11 15 [(S 10),(K 3)]),(none,.bin 12 .add (K 1) (S 11)),mv 5 12]) (.block 0 (.loop C2a))) C73))))
theorem E27 (r1 : XTide × Xl01Cur) (v3 : Int) (v4 : Int) (v8 : List XSurge) (r10 : Int × Xl01Cur) (r11 : Int × Xl01Cur) (hr11 : A5 r10.2 (60 : Int) = some r11) (hg12 : (E1 v8.length ([(⟨v3,(IntKind.i64.wrap (r10.1 - (40 : Int))),(IntKind.i64.wrap ((IntKind.i64.wrap (r10.1 - (40 : Int))) + r11.1))⟩ : XSurge)] : List XSurge).length 24) = true) : ∀ (f : Nat),F2 Try.prog Q4 ⟨[(0,vc (.pb 1099511627776 0)),(2,vc (.pb 2 0)),(3,vc (.pb 3 0)),(4,vc (aI v3)),(5,vc (aI v4)),(6,vc (aI (IntKind.i64.wrap (r10.1 - (40 : Int))))),(20,vc (.pb 3 2)),(21,vc (.undef)),(22,vc (aI v3)),(23,vc (aI (IntKind.i64.wrap (r10.1 - (40 : Int))))),(24,vc (aI (IntKind.i64.wrap (r10.1 - (40 : Int))))),(25,vc (.pb 1099511627776 0)),(26,vc (aI r11.1)),(27,vc (aI (IntKind.i64.wrap ((IntKind.i64.wrap (r10.1 - (40 : Int))) + r11.1)))),(28,va [aI v3,aI (IntKind.i64.wrap (r10.1 - (40 : Int))),aI (IntKind.i64.wrap ((IntKind.i64.wrap (r10.1 - (40 : Int))) + r11.1))]),(29,vc (.own 1856)),(30,vc (.own 131200)),(31,vc (.pb 3 2))],[(1099511627776,[aL (List.map r8 r11.2.b),aI r11.2.i,aI r11.2.h]),(2,[aI (0 : Int),.nil,.nil]),(3,[aI r1.1.Mean,aL (List.map XPart.row r1.1.Parts),.own 131200])],[(131200,3,List.map XSurge.row (v8 ++ ([(⟨v3,(IntKind.i64.wrap (r10.1 - (40 : Int))),(IntKind.i64.wrap ((IntKind.i64.wrap (r10.1 - (40 : Int))) + r11.1))⟩ : XSurge)] : List XSurge))),(1856,3,List.map XSurge.row ([(⟨v3,(IntKind.i64.wrap (r10.1 - (40 : Int))),(IntKind.i64.wrap ((IntKind.i64.wrap (r10.1 - (40 : Int))) + r11.1))⟩ : XSurge)] : List XSurge))]⟩ f [true,true,true,true,true,true,true,true,true,true,true,true,true] ⟨[(0,vc (.pb 1099511627776 0)),(2,vc (.pb 2 0)),(3,vc (.pb 3 0)),(4,vc (aI v3)),(5,vc (aI v4)),(6,vc (aI (IntKind.i64.wrap (r10.1 - (40 : Int))))),(20,vc (.pb 3 2)),(21,vc (.undef)),(22,vc (aI v3)),(23,vc (aI (IntKind.i64.wrap (r10.1 - (40 : Int))))),(24,vc (aI (IntKind.i64.wrap (r10.1 - (40 : Int))))),(25,vc (.pb 1099511627776 0)),(26,vc (aI r11.1)),(27,vc (aI (IntKind.i64.wrap ((IntKind.i64.wrap (r10.1 - (40 : Int))) + r11.1)))),(28,va [aI v3,aI (IntKind.i64.wrap (r10.1 - (40 : Int))),aI (IntKind.i64.wrap ((IntKind.i64.wrap (r10.1 - (40 : Int))) + r11.1))]),(29,vc (.own 1856)),(30,vc (.own 131200)),(31,vc (.pb 3 2))],[(1099511627776,[aL (List.map r8 r11.2.b),aI r11.2.i,aI r11.2.h]),(2,[aI (0 : Int),.nil,.nil]),(3,[aI r1.1.Mean,aL (List.map XPart.row r1.1.Parts),.own 131200])],[(131200,3,List.map XSurge.row (v8 ++ ([(⟨v3,(IntKind.i64.wrap (r10.1 - (40 : Int))),(IntKind.i64.wrap ((IntKind.i64.wrap (r10.1 - (40 : Int))) + r11.1))⟩ : XSurge)] : List XSurge))),(1856,3,List.map XSurge.row ([(⟨v3,(IntKind.i64.wrap (r10.1 - (40 : Int))),(IntKind.i64.wrap ((IntKind.i64.wrap (r10.1 - (40 : Int))) + r11.1))⟩ : XSurge)] : List XSurge))]⟩ := by
 intro f
 induction f with
 | zero => intro h; rfl
 | succ f ih =>
  refine C3 ⟨?_,?_,?_,?_,?_,?_,?_,?_,?_,?_,?_,?_,?_,trivial⟩
  ·intro h; cases h
  ·intro h; cases h
  ·intro h; cases h
  ·intro h; cases h
  ·intro h; cases h
  ·intro h; cases h
  ·intro h; cases h
  ·intro h; cases h
  ·intro h; cases h
  ·intro h; cases h
  ·intro h; cases h
  ·intro h; cases h
  ·intro h; cases h
theorem E2y (r1 : XTide × Xl01Cur) (v3 : Int) (v4 : Int) (v8 : List XSurge) (r10 : Int × Xl01Cur) (r11 : Int × Xl01Cur) (hr11 : A5 r10.2 (60 : Int) = some r11) (hg12 : (E1 v8.length ([(⟨v3,(IntKind.i64.wrap (r10.1 - (40 : Int))),(IntKind.i64.wrap ((IntKind.i64.wrap (r10.1 - (40 : Int))) + r11.1))⟩ : XSurge)] : List XSurge).length 24) = true) : ∀ (f : Nat) (b0 : Bool) (b2 : Bool) (b3 : Bool) (b4 : Bool) (b7 : Bool) (b11 : Bool),F2 Try.prog Q4 ⟨[(0,vc (.pb 1099511627776 0)),(2,vc (.pb 2 0)),(3,vc (.pb 3 0)),(4,vc (aI v3)),(5,vc (aI v4)),(6,vc (aI (IntKind.i64.wrap (r10.1 - (40 : Int))))),(20,vc (.pb 3 2)),(21,vc (.undef)),(22,vc (aI v3)),(23,vc (aI (IntKind.i64.wrap (r10.1 - (40 : Int))))),(24,vc (aI (IntKind.i64.wrap (r10.1 - (40 : Int))))),(25,vc (.pb 1099511627776 0)),(26,vc (aI r11.1)),(27,vc (aI (IntKind.i64.wrap ((IntKind.i64.wrap (r10.1 - (40 : Int))) + r11.1)))),(28,va [aI v3,aI (IntKind.i64.wrap (r10.1 - (40 : Int))),aI (IntKind.i64.wrap ((IntKind.i64.wrap (r10.1 - (40 : Int))) + r11.1))]),(29,vc (.own 1856)),(30,vc (.own 131200)),(31,vc (.pb 3 2))],[(1099511627776,[aL (List.map r8 r11.2.b),aI r11.2.i,aI r11.2.h]),(2,[aI (0 : Int),.nil,.nil]),(3,[aI r1.1.Mean,aL (List.map XPart.row r1.1.Parts),.own 131200])],[(131200,3,List.map XSurge.row (v8 ++ ([(⟨v3,(IntKind.i64.wrap (r10.1 - (40 : Int))),(IntKind.i64.wrap ((IntKind.i64.wrap (r10.1 - (40 : Int))) + r11.1))⟩ : XSurge)] : List XSurge))),(1856,3,List.map XSurge.row ([(⟨v3,(IntKind.i64.wrap (r10.1 - (40 : Int))),(IntKind.i64.wrap ((IntKind.i64.wrap (r10.1 - (40 : Int))) + r11.1))⟩ : XSurge)] : List XSurge))]⟩ f [b0,true,b2,b3,b4,true,true,b7,true,true,true,b11,false] ⟨[(0,vc (.pb 1099511627776 0)),(2,vc (.pb 2 0)),(3,vc (.pb 3 0)),(4,vc (aI v3)),(5,vc (aI v4)),(6,vc (aI (IntKind.i64.wrap (r10.1 - (40 : Int))))),(20,bif b0 then vc (.pb 3 2) else .undef),(21,vc (.undef)),(22,bif b2 then vc (aI v3) else .undef),(23,bif b3 then vc (aI (IntKind.i64.wrap (r10.1 - (40 : Int)))) else .undef),(24,bif b4 then vc (aI (IntKind.i64.wrap (r10.1 - (40 : Int)))) else .undef),(25,vc (.pb 1099511627776 0)),(26,vc (aI r11.1)),(27,bif b7 then vc (aI (IntKind.i64.wrap ((IntKind.i64.wrap (r10.1 - (40 : Int))) + r11.1))) else .undef),(28,va [aI v3,aI (IntKind.i64.wrap (r10.1 - (40 : Int))),aI (IntKind.i64.wrap ((IntKind.i64.wrap (r10.1 - (40 : Int))) + r11.1))]),(29,vc (.own 1856)),(30,vc (.own 131200)),(31,bif b11 then vc (.pb 3 2) else .undef)],[(1099511627776,[aL (List.map r8 r11.2.b),aI r11.2.i,aI r11.2.h]),(2,[aI (0 : Int),.nil,.nil]),(3,[aI r1.1.Mean,aL (List.map XPart.row r1.1.Parts),.undef])],[(131200,3,List.map XSurge.row (v8 ++ ([(⟨v3,(IntKind.i64.wrap (r10.1 - (40 : Int))),(IntKind.i64.wrap ((IntKind.i64.wrap (r10.1 - (40 : Int))) + r11.1))⟩ : XSurge)] : List XSurge))),(1856,3,List.map XSurge.row ([(⟨v3,(IntKind.i64.wrap (r10.1 - (40 : Int))),(IntKind.i64.wrap ((IntKind.i64.wrap (r10.1 - (40 : Int))) + r11.1))⟩ : XSurge)] : List XSurge))]⟩ := by
 intro f
 induction f with
 | zero => intro b0 b2 b3 b4 b7 b11 h; simp at h
 | succ f ih =>
  intro b0 b2 b3 b4 b7 b11
  refine C3 ⟨?_,?_,?_,?_,?_,?_,?_,?_,?_,?_,?_,?_,?_,trivial⟩
  ·intro h0 hw
   obtain rfl : b0 = false := Option.some.inj h0
   refine ⟨[],[],rfl,rfl,?_⟩
   simp only [List.nil_append,List.cons_append]
   try simp only [A1,ua,ub,uc,ud,ue,RR]
   exact ih true b2 b3 b4 b7 b11
  ·intro h; cases h
  ·intro h0 hw
   obtain rfl : b2 = false := Option.some.inj h0
   refine ⟨[],[],rfl,rfl,?_⟩
   simp only [List.nil_append,List.cons_append]
   try simp only [A1,ua,ub,uc,ud,ue,RR]
   exact ih b0 true b3 b4 b7 b11
  ·intro h0 hw
   obtain rfl : b3 = false := Option.some.inj h0
   refine ⟨[],[],rfl,rfl,?_⟩
   simp only [List.nil_append,List.cons_append]
   try simp only [A1,ua,ub,uc,ud,ue,RR]
   exact ih b0 b2 true b4 b7 b11
  ·intro h0 hw
   obtain rfl : b4 = false := Option.some.inj h0
   refine ⟨[],[],rfl,rfl,?_⟩
   simp only [List.nil_append,List.cons_append]
   try simp only [A1,ua,ub,uc,ud,ue,RR]
   exact ih b0 b2 b3 true b7 b11
  ·intro h; cases h
  ·intro h; cases h
  ·intro h0 hw
   obtain rfl : b7 = false := Option.some.inj h0
   obtain rfl : b4 = true := Option.some.inj (hw 4 (by simp))
   refine ⟨[],[],rfl,rfl,?_⟩
   simp only [List.nil_append,List.cons_append]
   try simp only [A1,ua,ub,uc,ud,ue,RR]
   exact ih b0 b2 b3 true true b11
  ·intro h; cases h
  ·intro h; cases h
  ·intro h; cases h
  ·intro h0 hw
   obtain rfl : b11 = false := Option.some.inj h0
   obtain rfl : b0 = true := Option.some.inj (hw 0 (by simp))
   obtain rfl : b2 = true := Option.some.inj (hw 2 (by simp))
   obtain rfl : b3 = true := Option.some.inj (hw 3 (by simp))
   obtain rfl : b4 = true := Option.some.inj (hw 4 (by simp))
   obtain rfl : b7 = true := Option.some.inj (hw 7 (by simp))
   refine ⟨[],[],rfl,rfl,?_⟩
   simp only [List.nil_append,List.cons_append]
   try simp only [A1,ua,ub,uc,ud,ue,RR]
   exact ih true true true true true true
  ·intro h0 hw
   obtain rfl : b0 = true := Option.some.inj (hw 0 (by simp))
   obtain rfl : b2 = true := Option.some.inj (hw 2 (by simp))
   obtain rfl : b3 = true := Option.some.inj (hw 3 (by simp))
   obtain rfl : b4 = true := Option.some.inj (hw 4 (by simp))
   obtain rfl : b7 = true := Option.some.inj (hw 7 (by simp))
   obtain rfl : b11 = true := Option.some.inj (hw 11 (by simp))
   refine ⟨[],[],rfl,rfl,?_⟩
   simp only [List.nil_append,List.cons_append]
   try simp only [A1,ua,ub,uc,ud,ue,RR]
   exact E27 r1 v3 v4 v8 r10 r11 hr11 hg12 _
theorem E2v (r1 : XTide × Xl01Cur) (v3 : Int) (v4 : Int) (v8 : List XSurge) (r10 : Int × Xl01Cur) (r11 : Int × Xl01Cur) (hr11 : A5 r10.2 (60 : Int) = some r11) (hg12 : (E1 v8.length ([(⟨v3,(IntKind.i64.wrap (r10.1 - (40 : Int))),(IntKind.i64.wrap ((IntKind.i64.wrap (r10.1 - (40 : Int))) + r11.1))⟩ : XSurge)] : List XSurge).length 24) = true) : ∀ (f : Nat) (b0 : Bool) (b1 : Bool) (b2 : Bool) (b3 : Bool) (b4 : Bool) (b7 : Bool),F2 Try.prog Q4 ⟨[(0,vc (.pb 1099511627776 0)),(2,vc (.pb 2 0)),(3,vc (.pb 3 0)),(4,vc (aI v3)),(5,vc (aI v4)),(6,vc (aI (IntKind.i64.wrap (r10.1 - (40 : Int))))),(20,vc (.pb 3 2)),(21,vc (.undef)),(22,vc (aI v3)),(23,vc (aI (IntKind.i64.wrap (r10.1 - (40 : Int))))),(24,vc (aI (IntKind.i64.wrap (r10.1 - (40 : Int))))),(25,vc (.pb 1099511627776 0)),(26,vc (aI r11.1)),(27,vc (aI (IntKind.i64.wrap ((IntKind.i64.wrap (r10.1 - (40 : Int))) + r11.1)))),(28,va [aI v3,aI (IntKind.i64.wrap (r10.1 - (40 : Int))),aI (IntKind.i64.wrap ((IntKind.i64.wrap (r10.1 - (40 : Int))) + r11.1))]),(29,vc (.own 1856)),(30,vc (.own 131200)),(31,vc (.pb 3 2))],[(1099511627776,[aL (List.map r8 r11.2.b),aI r11.2.i,aI r11.2.h]),(2,[aI (0 : Int),.nil,.nil]),(3,[aI r1.1.Mean,aL (List.map XPart.row r1.1.Parts),.own 131200])],[(131200,3,List.map XSurge.row (v8 ++ ([(⟨v3,(IntKind.i64.wrap (r10.1 - (40 : Int))),(IntKind.i64.wrap ((IntKind.i64.wrap (r10.1 - (40 : Int))) + r11.1))⟩ : XSurge)] : List XSurge))),(1856,3,List.map XSurge.row ([(⟨v3,(IntKind.i64.wrap (r10.1 - (40 : Int))),(IntKind.i64.wrap ((IntKind.i64.wrap (r10.1 - (40 : Int))) + r11.1))⟩ : XSurge)] : List XSurge))]⟩ f [b0,b1,b2,b3,b4,true,true,b7,true,true,false,false,false] ⟨[(0,vc (.pb 1099511627776 0)),(2,vc (.pb 2 0)),(3,vc (.pb 3 0)),(4,vc (aI v3)),(5,vc (aI v4)),(6,vc (aI (IntKind.i64.wrap (r10.1 - (40 : Int))))),(20,bif b0 then vc (.pb 3 2) else .undef),(21,bif b1 then vc (.own 131200) else .undef),(22,bif b2 then vc (aI v3) else .undef),(23,bif b3 then vc (aI (IntKind.i64.wrap (r10.1 - (40 : Int)))) else .undef),(24,bif b4 then vc (aI (IntKind.i64.wrap (r10.1 - (40 : Int)))) else .undef),(25,vc (.pb 1099511627776 0)),(26,vc (aI r11.1)),(27,bif b7 then vc (aI (IntKind.i64.wrap ((IntKind.i64.wrap (r10.1 - (40 : Int))) + r11.1))) else .undef),(28,va [aI v3,aI (IntKind.i64.wrap (r10.1 - (40 : Int))),aI (IntKind.i64.wrap ((IntKind.i64.wrap (r10.1 - (40 : Int))) + r11.1))]),(29,vc (.own 1856)),(30,.undef),(31,.undef)],[(1099511627776,[aL (List.map r8 r11.2.b),aI r11.2.i,aI r11.2.h]),(2,[aI (0 : Int),.nil,.nil]),(3,[aI r1.1.Mean,aL (List.map XPart.row r1.1.Parts),.own 131200])],[(131200,3,List.map XSurge.row v8),(1856,3,List.map XSurge.row ([(⟨v3,(IntKind.i64.wrap (r10.1 - (40 : Int))),(IntKind.i64.wrap ((IntKind.i64.wrap (r10.1 - (40 : Int))) + r11.1))⟩ : XSurge)] : List XSurge))]⟩ := by
 intro f
 induction f with
 | zero => intro b0 b1 b2 b3 b4 b7 h; simp at h
 | succ f ih =>
  intro b0 b1 b2 b3 b4 b7
  refine C3 ⟨?_,?_,?_,?_,?_,?_,?_,?_,?_,?_,?_,?_,?_,trivial⟩
  ·intro h0 hw
   obtain rfl : b0 = false := Option.some.inj h0
   refine ⟨[],[],rfl,rfl,?_⟩
   simp only [List.nil_append,List.cons_append]
   try simp only [A1,ua,ub,uc,ud,ue,RR]
   exact ih true b1 b2 b3 b4 b7
  ·intro h0 hw
   obtain rfl : b1 = false := Option.some.inj h0
   obtain rfl : b0 = true := Option.some.inj (hw 0 (by simp))
   refine ⟨[],[],rfl,rfl,?_⟩
   simp only [List.nil_append,List.cons_append]
   try simp only [A1,ua,ub,uc,ud,ue,RR]
   exact ih true true b2 b3 b4 b7
  ·intro h0 hw
   obtain rfl : b2 = false := Option.some.inj h0
   refine ⟨[],[],rfl,rfl,?_⟩
   simp only [List.nil_append,List.cons_append]
   try simp only [A1,ua,ub,uc,ud,ue,RR]
   exact ih b0 b1 true b3 b4 b7
  ·intro h0 hw
   obtain rfl : b3 = false := Option.some.inj h0
   refine ⟨[],[],rfl,rfl,?_⟩
   simp only [List.nil_append,List.cons_append]
   try simp only [A1,ua,ub,uc,ud,ue,RR]
   exact ih b0 b1 b2 true b4 b7
  ·intro h0 hw
   obtain rfl : b4 = false := Option.some.inj h0
   refine ⟨[],[],rfl,rfl,?_⟩
   simp only [List.nil_append,List.cons_append]
   try simp only [A1,ua,ub,uc,ud,ue,RR]
   exact ih b0 b1 b2 b3 true b7
  ·intro h; cases h
  ·intro h; cases h
  ·intro h0 hw
   obtain rfl : b7 = false := Option.some.inj h0
   obtain rfl : b4 = true := Option.some.inj (hw 4 (by simp))
   refine ⟨[],[],rfl,rfl,?_⟩
   simp only [List.nil_append,List.cons_append]
   try simp only [A1,ua,ub,uc,ud,ue,RR]
   exact ih b0 b1 b2 b3 true true
  ·intro h; cases h
  ·intro h; cases h
  ·intro h0 hw
   obtain rfl : b1 = true := Option.some.inj (hw 1 (by simp))
   refine ⟨[],[],rfl,rfl,?_⟩
   simp only [List.nil_append,List.cons_append]
   try simp only [hg12,A1,ua,ub,uc,ud,ue,RR]
   exact E2y r1 v3 v4 v8 r10 r11 hr11 hg12 _ b0 b2 b3 b4 b7 false
  ·intro _ hw; have := hw 10 (by simp); cases this
  ·intro _ hw; have := hw 11 (by simp); cases this
theorem E2s (r1 : XTide × Xl01Cur) (v3 : Int) (v4 : Int) (v8 : List XSurge) (r10 : Int × Xl01Cur) (r11 : Int × Xl01Cur) (hr11 : A5 r10.2 (60 : Int) = some r11) (hg12 : (E1 v8.length ([(⟨v3,(IntKind.i64.wrap (r10.1 - (40 : Int))),(IntKind.i64.wrap ((IntKind.i64.wrap (r10.1 - (40 : Int))) + r11.1))⟩ : XSurge)] : List XSurge).length 24) = true) : ∀ (f : Nat) (b0 : Bool) (b1 : Bool) (b2 : Bool) (b3 : Bool) (b4 : Bool) (b7 : Bool) (b8 : Bool),F2 Try.prog Q4 ⟨[(0,vc (.pb 1099511627776 0)),(2,vc (.pb 2 0)),(3,vc (.pb 3 0)),(4,vc (aI v3)),(5,vc (aI v4)),(6,vc (aI (IntKind.i64.wrap (r10.1 - (40 : Int))))),(20,vc (.pb 3 2)),(21,vc (.undef)),(22,vc (aI v3)),(23,vc (aI (IntKind.i64.wrap (r10.1 - (40 : Int))))),(24,vc (aI (IntKind.i64.wrap (r10.1 - (40 : Int))))),(25,vc (.pb 1099511627776 0)),(26,vc (aI r11.1)),(27,vc (aI (IntKind.i64.wrap ((IntKind.i64.wrap (r10.1 - (40 : Int))) + r11.1)))),(28,va [aI v3,aI (IntKind.i64.wrap (r10.1 - (40 : Int))),aI (IntKind.i64.wrap ((IntKind.i64.wrap (r10.1 - (40 : Int))) + r11.1))]),(29,vc (.own 1856)),(30,vc (.own 131200)),(31,vc (.pb 3 2))],[(1099511627776,[aL (List.map r8 r11.2.b),aI r11.2.i,aI r11.2.h]),(2,[aI (0 : Int),.nil,.nil]),(3,[aI r1.1.Mean,aL (List.map XPart.row r1.1.Parts),.own 131200])],[(131200,3,List.map XSurge.row (v8 ++ ([(⟨v3,(IntKind.i64.wrap (r10.1 - (40 : Int))),(IntKind.i64.wrap ((IntKind.i64.wrap (r10.1 - (40 : Int))) + r11.1))⟩ : XSurge)] : List XSurge))),(1856,3,List.map XSurge.row ([(⟨v3,(IntKind.i64.wrap (r10.1 - (40 : Int))),(IntKind.i64.wrap ((IntKind.i64.wrap (r10.1 - (40 : Int))) + r11.1))⟩ : XSurge)] : List XSurge))]⟩ f [b0,b1,b2,b3,b4,true,true,b7,b8,false,false,false,false] ⟨[(0,vc (.pb 1099511627776 0)),(2,vc (.pb 2 0)),(3,vc (.pb 3 0)),(4,vc (aI v3)),(5,vc (aI v4)),(6,vc (aI (IntKind.i64.wrap (r10.1 - (40 : Int))))),(20,bif b0 then vc (.pb 3 2) else .undef),(21,bif b1 then vc (.own 131200) else .undef),(22,bif b2 then vc (aI v3) else .undef),(23,bif b3 then vc (aI (IntKind.i64.wrap (r10.1 - (40 : Int)))) else .undef),(24,bif b4 then vc (aI (IntKind.i64.wrap (r10.1 - (40 : Int)))) else .undef),(25,vc (.pb 1099511627776 0)),(26,vc (aI r11.1)),(27,bif b7 then vc (aI (IntKind.i64.wrap ((IntKind.i64.wrap (r10.1 - (40 : Int))) + r11.1))) else .undef),(28,bif b8 then va [aI v3,aI (IntKind.i64.wrap (r10.1 - (40 : Int))),aI (IntKind.i64.wrap ((IntKind.i64.wrap (r10.1 - (40 : Int))) + r11.1))] else .undef),(29,.undef),(30,.undef),(31,.undef)],[(1099511627776,[aL (List.map r8 r11.2.b),aI r11.2.i,aI r11.2.h]),(2,[aI (0 : Int),.nil,.nil]),(3,[aI r1.1.Mean,aL (List.map XPart.row r1.1.Parts),.own 131200])],[(131200,3,List.map XSurge.row v8)]⟩ := by
 intro f
 induction f with
 | zero => intro b0 b1 b2 b3 b4 b7 b8 h; simp at h
 | succ f ih =>
  intro b0 b1 b2 b3 b4 b7 b8
  refine C3 ⟨?_,?_,?_,?_,?_,?_,?_,?_,?_,?_,?_,?_,?_,trivial⟩
  ·intro h0 hw
   obtain rfl : b0 = false := Option.some.inj h0
   refine ⟨[],[],rfl,rfl,?_⟩
   simp only [List.nil_append,List.cons_append]
   try simp only [A1,ua,ub,uc,ud,ue,RR]
   exact ih true b1 b2 b3 b4 b7 b8
  ·intro h0 hw
   obtain rfl : b1 = false := Option.some.inj h0
   obtain rfl : b0 = true := Option.some.inj (hw 0 (by simp))
   refine ⟨[],[],rfl,rfl,?_⟩
   simp only [List.nil_append,List.cons_append]
   try simp only [A1,ua,ub,uc,ud,ue,RR]
   exact ih true true b2 b3 b4 b7 b8
  ·intro h0 hw
   obtain rfl : b2 = false := Option.some.inj h0
   refine ⟨[],[],rfl,rfl,?_⟩
   simp only [List.nil_append,List.cons_append]
   try simp only [A1,ua,ub,uc,ud,ue,RR]
   exact ih b0 b1 true b3 b4 b7 b8
  ·intro h0 hw
   obtain rfl : b3 = false := Option.some.inj h0
   refine ⟨[],[],rfl,rfl,?_⟩
   simp only [List.nil_append,List.cons_append]
   try simp only [A1,ua,ub,uc,ud,ue,RR]
   exact ih b0 b1 b2 true b4 b7 b8
  ·intro h0 hw
   obtain rfl : b4 = false := Option.some.inj h0
   refine ⟨[],[],rfl,rfl,?_⟩
   simp only [List.nil_append,List.cons_append]
   try simp only [A1,ua,ub,uc,ud,ue,RR]
   exact ih b0 b1 b2 b3 true b7 b8
  ·intro h; cases h
  ·intro h; cases h
  ·intro h0 hw
   obtain rfl : b7 = false := Option.some.inj h0
   obtain rfl : b4 = true := Option.some.inj (hw 4 (by simp))
   refine ⟨[],[],rfl,rfl,?_⟩
   simp only [List.nil_append,List.cons_append]
   try simp only [A1,ua,ub,uc,ud,ue,RR]
   exact ih b0 b1 b2 b3 true true b8
  ·intro h0 hw
   obtain rfl : b8 = false := Option.some.inj h0
   obtain rfl : b2 = true := Option.some.inj (hw 2 (by simp))
   obtain rfl : b3 = true := Option.some.inj (hw 3 (by simp))
   obtain rfl : b7 = true := Option.some.inj (hw 7 (by simp))
   refine ⟨[],[],rfl,rfl,?_⟩
   simp only [List.nil_append,List.cons_append]
   try simp only [A1,ua,ub,uc,ud,ue,RR]
   exact ih b0 b1 true true b4 true true
  ·intro h0 hw
   obtain rfl : b8 = true := Option.some.inj (hw 8 (by simp))
   refine ⟨[],[],rfl,rfl,?_⟩
   simp only [List.nil_append,List.cons_append]
   try simp only [A1,ua,ub,uc,ud,ue,RR]
   refine E8 (es := List.map XSurge.row ([(⟨v3,(IntKind.i64.wrap (r10.1 - (40 : Int))),(IntKind.i64.wrap ((IntKind.i64.wrap (r10.1 - (40 : Int))) + r11.1))⟩ : XSurge)] : List XSurge)) rfl (by simp only [St.fresh,List.all_cons,List.all_nil,A1h]; simp [AV.cells,V1.cells,AC.uses]) ?_
   try simp only [A1,ua,ub,uc,ud,ue,RR]
   exact E2v r1 v3 v4 v8 r10 r11 hr11 hg12 _ b0 b1 b2 b3 b4 b7
  ·intro _ hw; have := hw 9 (by simp); cases this
  ·intro _ hw; have := hw 9 (by simp); cases this
  ·intro _ hw; have := hw 11 (by simp); cases this
theorem E24 (r1 : XTide × Xl01Cur) (v3 : Int) (v4 : Int) (v8 : List XSurge) (r10 : Int × Xl01Cur) (r11 : Int × Xl01Cur) (hr11 : A5 r10.2 (60 : Int) = some r11) (hg12 : (E1 v8.length ([(⟨v3,(IntKind.i64.wrap (r10.1 - (40 : Int))),(IntKind.i64.wrap ((IntKind.i64.wrap (r10.1 - (40 : Int))) + r11.1))⟩ : XSurge)] : List XSurge).length 24) = true) : ∀ (f : Nat) (b0 : Bool) (b1 : Bool) (b2 : Bool) (b3 : Bool) (b4 : Bool) (b5 : Bool),F2 Try.prog Q4 ⟨[(0,vc (.pb 1099511627776 0)),(2,vc (.pb 2 0)),(3,vc (.pb 3 0)),(4,vc (aI v3)),(5,vc (aI v4)),(6,vc (aI (IntKind.i64.wrap (r10.1 - (40 : Int))))),(20,vc (.pb 3 2)),(21,vc (.undef)),(22,vc (aI v3)),(23,vc (aI (IntKind.i64.wrap (r10.1 - (40 : Int))))),(24,vc (aI (IntKind.i64.wrap (r10.1 - (40 : Int))))),(25,vc (.pb 1099511627776 0)),(26,vc (aI r11.1)),(27,vc (aI (IntKind.i64.wrap ((IntKind.i64.wrap (r10.1 - (40 : Int))) + r11.1)))),(28,va [aI v3,aI (IntKind.i64.wrap (r10.1 - (40 : Int))),aI (IntKind.i64.wrap ((IntKind.i64.wrap (r10.1 - (40 : Int))) + r11.1))]),(29,vc (.own 1856)),(30,vc (.own 131200)),(31,vc (.pb 3 2))],[(1099511627776,[aL (List.map r8 r11.2.b),aI r11.2.i,aI r11.2.h]),(2,[aI (0 : Int),.nil,.nil]),(3,[aI r1.1.Mean,aL (List.map XPart.row r1.1.Parts),.own 131200])],[(131200,3,List.map XSurge.row (v8 ++ ([(⟨v3,(IntKind.i64.wrap (r10.1 - (40 : Int))),(IntKind.i64.wrap ((IntKind.i64.wrap (r10.1 - (40 : Int))) + r11.1))⟩ : XSurge)] : List XSurge))),(1856,3,List.map XSurge.row ([(⟨v3,(IntKind.i64.wrap (r10.1 - (40 : Int))),(IntKind.i64.wrap ((IntKind.i64.wrap (r10.1 - (40 : Int))) + r11.1))⟩ : XSurge)] : List XSurge))]⟩ f [b0,b1,b2,b3,b4,b5,false,false,false,false,false,false,false] ⟨[(0,vc (.pb 1099511627776 0)),(2,vc (.pb 2 0)),(3,vc (.pb 3 0)),(4,vc (aI v3)),(5,vc (aI v4)),(6,vc (aI (IntKind.i64.wrap (r10.1 - (40 : Int))))),(20,bif b0 then vc (.pb 3 2) else .undef),(21,bif b1 then vc (.own 131200) else .undef),(22,bif b2 then vc (aI v3) else .undef),(23,bif b3 then vc (aI (IntKind.i64.wrap (r10.1 - (40 : Int)))) else .undef),(24,bif b4 then vc (aI (IntKind.i64.wrap (r10.1 - (40 : Int)))) else .undef),(25,bif b5 then vc (.pb 1099511627776 0) else .undef),(26,.undef),(27,.undef),(28,.undef),(29,.undef),(30,.undef),(31,.undef)],[(1099511627776,[aL (List.map r8 r10.2.b),aI r10.2.i,aI r10.2.h]),(2,[aI (0 : Int),.nil,.nil]),(3,[aI r1.1.Mean,aL (List.map XPart.row r1.1.Parts),.own 131200])],[(131200,3,List.map XSurge.row v8)]⟩ := by
 intro f
 induction f with
 | zero => intro b0 b1 b2 b3 b4 b5 h; simp at h
 | succ f ih =>
  intro b0 b1 b2 b3 b4 b5
  refine C3 ⟨?_,?_,?_,?_,?_,?_,?_,?_,?_,?_,?_,?_,?_,trivial⟩
  ·intro h0 hw
   obtain rfl : b0 = false := Option.some.inj h0
   refine ⟨[],[],rfl,rfl,?_⟩
   simp only [List.nil_append,List.cons_append]
   try simp only [A1,ua,ub,uc,ud,ue,RR]
   exact ih true b1 b2 b3 b4 b5
  ·intro h0 hw
   obtain rfl : b1 = false := Option.some.inj h0
   obtain rfl : b0 = true := Option.some.inj (hw 0 (by simp))
   refine ⟨[],[],rfl,rfl,?_⟩
   simp only [List.nil_append,List.cons_append]
   try simp only [A1,ua,ub,uc,ud,ue,RR]
   exact ih true true b2 b3 b4 b5
  ·intro h0 hw
   obtain rfl : b2 = false := Option.some.inj h0
   refine ⟨[],[],rfl,rfl,?_⟩
   simp only [List.nil_append,List.cons_append]
   try simp only [A1,ua,ub,uc,ud,ue,RR]
   exact ih b0 b1 true b3 b4 b5
  ·intro h0 hw
   obtain rfl : b3 = false := Option.some.inj h0
   refine ⟨[],[],rfl,rfl,?_⟩
   simp only [List.nil_append,List.cons_append]
   try simp only [A1,ua,ub,uc,ud,ue,RR]
   exact ih b0 b1 b2 true b4 b5
  ·intro h0 hw
   obtain rfl : b4 = false := Option.some.inj h0
   refine ⟨[],[],rfl,rfl,?_⟩
   simp only [List.nil_append,List.cons_append]
   try simp only [A1,ua,ub,uc,ud,ue,RR]
   exact ih b0 b1 b2 b3 true b5
  ·intro h0 hw
   obtain rfl : b5 = false := Option.some.inj h0
   refine ⟨[],[],rfl,rfl,?_⟩
   simp only [List.nil_append,List.cons_append]
   try simp only [A1,ua,ub,uc,ud,ue,RR]
   exact ih b0 b1 b2 b3 b4 true
  ·intro h0 hw
   obtain rfl : b5 = true := Option.some.inj (hw 5 (by simp))
   refine ⟨[],[],rfl,rfl,?_⟩
   simp only [List.nil_append,List.cons_append]
   try simp only [A1,ua,ub,uc,ud,ue,RR]
   refine B2 (B0 _ _ _ hr11) 1099511627776 rfl rfl rfl ?_
   try simp only [A1,ua,ub,uc,ud,ue,RR]
   exact E2s r1 v3 v4 v8 r10 r11 hr11 hg12 _ b0 b1 b2 b3 b4 false false
  ·intro _ hw; have := hw 6 (by simp); cases this
  ·intro _ hw; have := hw 7 (by simp); cases this
  ·intro _ hw; have := hw 8 (by simp); cases this
  ·intro _ hw; have := hw 9 (by simp); cases this
  ·intro _ hw; have := hw 6 (by simp); cases this
  ·intro _ hw; have := hw 11 (by simp); cases this
theorem E15 (r1 : XTide × Xl01Cur) : ∀ (n : Nat) (v3 : Int) (v4 : Int) (v5 : List Int) (v6 : Int) (v7 : Int) (v8 : List XSurge) (r : XForecast × Xl01Cur),J3 r1 n v3 v4 v5 v6 v7 v8 = some r → ∀ σ : St,σ.kept [0,2,3,4,5] [1099511627776,2,3] [131200] = ⟨[(0,vc (.pb 1099511627776 0)),(2,vc (.pb 2 0)),(3,vc (.pb 3 0)),(4,vc (aI v3)),(5,vc (aI v4))],[(1099511627776,[aL (List.map r8 v5),aI v6,aI v7]),(2,[aI (0 : Int),.nil,.nil]),(3,[aI r1.1.Mean,aL (List.map XPart.row r1.1.Parts),.own 131200])],[(131200,3,List.map XSurge.row v8)]⟩ → go Try.prog (.code (.loop C2a) :: [.blk 0,.code C73]) (A8d [.c 2 true 3] [.ag [.v (.int .i64 r.1.Tide.Mean),.v (.sl (List.map XPart.row r.1.Tide.Parts)),.v (.sl (List.map XSurge.row r.1.Surges))]] [.sl (List.map r8 r.2.b),.int .i64 r.2.i,.int .i64 r.2.h]) .normal (some σ) := by
 intro n
 induction n with
 | zero => intro _ _ _ _ _ _ r h; cases h
 | succ n ih =>
  intro v3 v4 v5 v6 v7 v8 r h σ hσ
  rw [J3] at h
  refine B8 ?_
  rcases ug (decide ((0 : Int) < v4)) with hb9 | hb9
  ·rw [A4 hb9] at h
   obtain ⟨r10,hr10,h⟩ := ob h
   try simp only [hσ,hb9,C2a,ua,ub,uc,ud,ue,RR]
   refine B2 (B0 _ _ _ hr10) 1099511627776 rfl rfl rfl ?_
   try simp only [hb9,ua,ub,uc,ud,ue,RR]
   obtain ⟨r11,hr11,h⟩ := ob h
   obtain ⟨hg12,h⟩ := E3 h
   refine A3a (ks := [0,2,3,4,5,6]) (bs := [1099511627776,2,3]) (rs := [131200]) (τ := ⟨[(0,vc (.pb 1099511627776 0)),(2,vc (.pb 2 0)),(3,vc (.pb 3 0)),(4,vc (aI v3)),(5,vc (aI v4)),(6,vc (aI (IntKind.i64.wrap (r10.1 - (40 : Int))))),(20,vc (.pb 3 2)),(21,vc (.undef)),(22,vc (aI v3)),(23,vc (aI (IntKind.i64.wrap (r10.1 - (40 : Int))))),(24,vc (aI (IntKind.i64.wrap (r10.1 - (40 : Int))))),(25,vc (.pb 1099511627776 0)),(26,vc (aI r11.1)),(27,vc (aI (IntKind.i64.wrap ((IntKind.i64.wrap (r10.1 - (40 : Int))) + r11.1)))),(28,va [aI v3,aI (IntKind.i64.wrap (r10.1 - (40 : Int))),aI (IntKind.i64.wrap ((IntKind.i64.wrap (r10.1 - (40 : Int))) + r11.1))]),(29,vc (.own 1856)),(30,vc (.own 131200)),(31,vc (.pb 3 2))],[(1099511627776,[aL (List.map r8 r11.2.b),aI r11.2.i,aI r11.2.h]),(2,[aI (0 : Int),.nil,.nil]),(3,[aI r1.1.Mean,aL (List.map XPart.row r1.1.Parts),.own 131200])],[(131200,3,List.map XSurge.row (v8 ++ ([(⟨v3,(IntKind.i64.wrap (r10.1 - (40 : Int))),(IntKind.i64.wrap ((IntKind.i64.wrap (r10.1 - (40 : Int))) + r11.1))⟩ : XSurge)] : List XSurge))),(1856,3,List.map XSurge.row ([(⟨v3,(IntKind.i64.wrap (r10.1 - (40 : Int))),(IntKind.i64.wrap ((IntKind.i64.wrap (r10.1 - (40 : Int))) + r11.1))⟩ : XSurge)] : List XSurge))]⟩) rfl (E24 r1 v3 v4 v8 r10 r11 hr11 hg12 _ false false false false false false) ?_
   obtain ⟨r13,hr13,h⟩ := ob h
   try simp only [hb9,hg12,ua,ub,uc,ud,ue,RR]
   refine B2 (B0 _ _ _ hr13) 1099511627776 rfl rfl rfl ?_
   try simp only [hb9,hg12,ua,ub,uc,ud,ue,RR]
   refine ih _ _ _ _ _ _ _ h _ ?_
   try simp only [hb9,hg12,ua,ub,uc,ud,ue,RR,List.map_nil]
  ·rw [A3 hb9] at h
   try simp only [hσ,hb9,C2a,C73,ua,ub,uc,ud,ue,RR]
   refine U3 rfl ?_
   try simp only [hb9,ua,ub,uc,ud,ue,RR]
   cases h
   try simp only [T8,ua,ub,uc,ud,ue,RR]
   exact ⟨⟨⟨rfl,rfl,rfl,trivial⟩,trivial⟩,rfl⟩
theorem E18 : A9 Try.prog 33 = some (cc26.strip,[.c 2 true 3],38) := by kernel_rfl
theorem B2n (a0 : Xl01Cur) (r : XForecast × Xl01Cur) (h : X1 a0 = some r) : FCy Try.prog 33 [.p] [.sl (List.map r8 a0.b),.int .i64 a0.i,.int .i64 a0.h] [.sl (List.map r8 r.2.b),.int .i64 r.2.i,.int .i64 r.2.h] [.ag [.v (.int .i64 r.1.Tide.Mean),.v (.sl (List.map XPart.row r.1.Tide.Parts)),.v (.sl (List.map XSurge.row r.1.Surges))]] := by
 unfold X1 at h
 refine A0b (σ := ⟨[(0,vc (.pb 1099511627776 0))],[(1099511627776,[aL (List.map r8 a0.b),aI a0.i,aI a0.h])],[]⟩) B3 E18 rfl rfl ?_
 simp only [cc26]
 try simp only [ua,ub,uc,ud,ue,RR]
 refine D2 rfl rfl ?_
 obtain ⟨r1,hr1,h⟩ := ob h
 try simp only [ua,ub,uc,ud,ue,RR]
 refine B2 (B26 _ _ hr1) 1099511627776 rfl rfl rfl ?_
 try simp only [ua,ub,uc,ud,ue,RR]
 refine D2 rfl rfl ?_
 try simp only [ua,ub,uc,ud,ue,RR]
 refine A42 (cs' := [aI r1.1.Mean,aL (List.map XPart.row r1.1.Parts),.own 131200]) rfl rfl rfl rfl ?_
 obtain ⟨r2,hr2,h⟩ := ob h
 try simp only [ua,ub,uc,ud,ue,RR]
 refine B2 (B0 _ _ _ hr2) 1099511627776 rfl rfl rfl ?_
 try simp only [ua,ub,uc,ud,ue,RR]
 refine E15 _ _ _ _ _ _ _ _ _ h _ ?_
 try simp only [ua,ub,uc,ud,ue,RR,List.map_nil]
/- 38: spec_l01Once -/
def cc34 : ACode := (.seq (.reg [(none,.mv 4 (KB false))]) (.seq (.reg [mv 5 0,mv 6 1,(none,.call 7 15 [(S 5),(S 6)]),(none,.bin 8 .eql (S 7) (K 0)),mv 4 8]) .ret))
theorem E11 : A9 Try.prog 38 = some (cc34.strip,[4],9) := by kernel_rfl
theorem S2 (a0 : Xl01Cur) (a1 : Int) (r : Bool × Xl01Cur) (h : G2 a0 a1 = some r) : FCy Try.prog 38 [.p,.d (.sc (.int .i64 a1))] [.sl (List.map r8 a0.b),.int .i64 a0.i,.int .i64 a0.h] [.sl (List.map r8 r.2.b),.int .i64 r.2.i,.int .i64 r.2.h] [.sc (.v (.bool r.1))] := by
 unfold G2 at h
 refine A0b (σ := ⟨[(0,vc (.pb 1099511627776 0)),(1,vc (aI a1))],[(1099511627776,[aL (List.map r8 a0.b),aI a0.i,aI a0.h])],[]⟩) B3 E11 rfl rfl ?_
 simp only [cc34]
 obtain ⟨r1,hr1,h⟩ := ob h
 try simp only [ua,ub,uc,ud,ue,RR]
 refine B2 (B0 _ _ _ hr1) 1099511627776 rfl rfl rfl ?_
 try simp only [ua,ub,uc,ud,ue,RR]
 cases h
 exact ⟨⟨rfl,trivial⟩,rfl⟩
/- 34: spec_l05Draw -/
def N3 : List (List Nat × AItem) := [([],(none,.faddr 39 (S 3) 1)),([0],(none,.load 40 (S 39) false 1)),([],(none,.mv 41 (S 0))),([2],(none,.call 42 15 [(S 41),(K 300)])),([3],(none,.bin 43 .add (K 700) (S 42))),([],(none,.mv 44 (S 0))),([5,3],(none,.call 45 15 [(S 44),(K 30)])),([6],(none,.bin 46 .add (K 20) (S 45))),([4,7],(none,.build 47 [aI 0,aI 0,aI 0,aI 0,aB false] [(0,1,(K 3)),(1,1,(K 1)),(2,1,(S 43)),(3,1,(S 46)),(4,1,(KB true))])),([8],(none,.bslice 48 5 [.int .i64 0,.int .i64 0,.int .i64 0,.int .i64 0,.bool false] 1 [(0,(S 47))])),([1,9,6],(none,.app 49 5 40 (S 40) (S 48))),([0,1,2,3,4,5,6,7,8,9,10],(none,.faddr 50 (S 3) 1)),([11,10,10,0,1,2,3,4,5,6,7,8,9,10],(none,.store (S 50) (S 49) 1))]
def Q5 : List (List Nat × AItem) := [([],(none,.faddr 59 (S 3) 1)),([0],(none,.load 60 (S 59) false 1)),([],(none,.mv 61 (S 0))),([2],(none,.call 62 15 [(S 61),(K 300)])),([3],(none,.bin 63 .add (K 800) (S 62))),([4],(none,.build 64 [aI 0,aI 0,aI 0,aI 0,aB false] [(0,1,(K 2)),(1,1,(K 4)),(2,1,(S 63)),(3,1,(K 15))])),([5],(none,.bslice 65 5 [.int .i64 0,.int .i64 0,.int .i64 0,.int .i64 0,.bool false] 1 [(0,(S 64))])),([1,6,3],(none,.app 66 5 40 (S 60) (S 65))),([0,1,2,3,4,5,6,7],(none,.faddr 67 (S 3) 1)),([8,7,7,0,1,2,3,4,5,6,7],(none,.store (S 67) (S 66) 1))]
def C67 : ACode := .seq (.reg [(none,.keep [0,2,3] [1099511627776,2,3] [640,2240])]) (.seq (.seq (.reg [mv 51 0,(none,.call 52 38 [(S 51),(K 3)])]) (.cond (S 52) (.seq (.reg [fa 53 3 0,ld 54 53,(none,.build 55 [aS [],aB false] [(0,1,(KS [100,111,99,107])),(1,1,(KB true))]),(none,.bslice 56 2 [.str [],.bool false] 1 [(0,(S 55))]),(none,.app 57 2 24 (S 54) (S 56)),fa 58 3 0,(none,.store (S 58) (S 57) 1)]) (.any Q5)) .skip)) (.seq (.reg [(none,.frz 640),(none,.frz 2240),(none,.load 68 (S 3) true 2),(none,.store (S 2) (S 68) 2)]) .ret))
def cc37 : ACode := (.seq (.reg [(none,.alloc 2 [.nil,.nil])]) (.seq (.reg [(none,.build 4 [aS [],aB false] [(0,1,(KS [115,101,97])),(1,1,(KB true))]),(none,.build 5 [aS [],aB false] [(0,1,(KS [98,97,114]))]),mv 6 0,(none,.call 7 38 [(S 6),(K 2)]),(none,.build 8 [aS [],aB false] [(0,1,(KS [114,111,97,100])),(1,1,(S 7))]),(none,.build 9 [aS [],aB false] [(0,1,(KS [113,117,97,121])),(1,1,(KB true))]),(none,.bslice 10 2 [.str [],.bool false] 4 [(0,(S 4)),(1,(S 5)),(2,(S 8)),(3,(S 9))]),(none,.build 11 [.nil,.nil] [(0,1,(S 10))]),(none,.alloc 3 [.nil,.nil]),(none,.store (S 3) (S 11) 2)]) (.seq (.reg [mv 12 0,(none,.call 13 15 [(S 12),(K 300)]),(none,.bin 14 .add (K 900) (S 13)),mv 15 0,(none,.call 16 15 [(S 15),(K 40)]),(none,.bin 17 .add (K 10) (S 16)),(none,.build 18 [aI 0,aI 0,aI 0,aI 0,aB false] [(0,1,(K 0)),(1,1,(K 1)),(2,1,(S 14)),(3,1,(S 17))]),mv 19 0,(none,.call 20 15 [(S 19),(K 300)]),(none,.bin 21 .add (K 800) (S 20)),mv 22 0,(none,.call 23 15 [(S 22),(K 30)]),(none,.bin 24 .add (K 10) (S 23)),mv 25 0,(none,.call 26 38 [(S 25),(K 2)]),(none,.build 27 [aI 0,aI 0,aI 0,aI 0,aB false] [(0,1,(K 1)),(1,1,(K 2)),(2,1,(S 21)),(3,1,(S 24)),(4,1,(S 26))]),mv 28 0,(none,.call 29 15 [(S 28),(K 200)]),(none,.bin 30 .add (K 900) (S 29)),mv 31 0,(none,.call 32 15 [(S 31),(K 20)]),(none,.bin 33 .add (K 5) (S 32)),(none,.build 34 [aI 0,aI 0,aI 0,aI 0,aB false] [(0,1,(K 2)),(1,1,(K 3)),(2,1,(S 30)),(3,1,(S 33))]),(none,.bslice 35 5 [.int .i64 0,.int .i64 0,.int .i64 0,.int .i64 0,.bool false] 3 [(0,(S 18)),(1,(S 27)),(2,(S 34))]),fa 36 3 1,(none,.store (S 36) (S 35) 1)]) (.seq (.seq (.reg [mv 37 0,(none,.call 38 38 [(S 37),(K 3)])]) (.cond (S 38) (.any N3) .skip)) C67))))
theorem E3b (r1 : Bool × Xl01Cur) (r2 : Int × Xl01Cur) (r3 : Int × Xl01Cur) (r4 : Int × Xl01Cur) (r5 : Int × Xl01Cur) (r6 : Bool × Xl01Cur) (r7 : Int × Xl01Cur) (r9 : Int × Xl01Cur) (r10 : Bool × Xl01Cur) (r12 : Int × Xl01Cur) (r13 : Int × Xl01Cur) (hr12 : A5 r10.2 (300 : Int) = some r12) (hr13 : A5 r12.2 (30 : Int) = some r13) (hg14 : (E1 ([(⟨(0 : Int),(1 : Int),(IntKind.i64.wrap ((900 : Int) + r2.1)),(IntKind.i64.wrap ((10 : Int) + r3.1)),false⟩ : XSegment),(⟨(1 : Int),(2 : Int),(IntKind.i64.wrap ((800 : Int) + r4.1)),(IntKind.i64.wrap ((10 : Int) + r5.1)),r6.1⟩ : XSegment),(⟨(2 : Int),(3 : Int),(IntKind.i64.wrap ((900 : Int) + r7.1)),(IntKind.i64.wrap ((5 : Int) + r9.1)),false⟩ : XSegment)] : List XSegment).length ([(⟨(3 : Int),(1 : Int),(IntKind.i64.wrap ((700 : Int) + r12.1)),(IntKind.i64.wrap ((20 : Int) + r13.1)),true⟩ : XSegment)] : List XSegment).length 40) = true) : ∀ (f : Nat),F2 Try.prog N3 ⟨[(0,vc (.pb 1099511627776 0)),(2,vc (.pb 2 0)),(3,vc (.pb 3 0)),(39,vc (.pb 3 1)),(40,vc (.undef)),(41,vc (.pb 1099511627776 0)),(42,vc (aI r12.1)),(43,vc (aI (IntKind.i64.wrap ((700 : Int) + r12.1)))),(44,vc (.pb 1099511627776 0)),(45,vc (aI r13.1)),(46,vc (aI (IntKind.i64.wrap ((20 : Int) + r13.1)))),(47,va [aI (3 : Int),aI (1 : Int),aI (IntKind.i64.wrap ((700 : Int) + r12.1)),aI (IntKind.i64.wrap ((20 : Int) + r13.1)),aB true]),(48,vc (.own 3072)),(49,vc (.own 2240)),(50,vc (.pb 3 1))],[(1099511627776,[aL (List.map r8 r13.2.b),aI r13.2.i,aI r13.2.h]),(2,[.nil,.nil]),(3,[.own 640,.own 2240])],[(640,2,List.map XPoint.row ([(⟨([115,101,97] : List UInt8),true⟩ : XPoint),(⟨([98,97,114] : List UInt8),false⟩ : XPoint),(⟨([114,111,97,100] : List UInt8),r1.1⟩ : XPoint),(⟨([113,117,97,121] : List UInt8),true⟩ : XPoint)] : List XPoint)),(2240,5,List.map XSegment.row (([(⟨(0 : Int),(1 : Int),(IntKind.i64.wrap ((900 : Int) + r2.1)),(IntKind.i64.wrap ((10 : Int) + r3.1)),false⟩ : XSegment),(⟨(1 : Int),(2 : Int),(IntKind.i64.wrap ((800 : Int) + r4.1)),(IntKind.i64.wrap ((10 : Int) + r5.1)),r6.1⟩ : XSegment),(⟨(2 : Int),(3 : Int),(IntKind.i64.wrap ((900 : Int) + r7.1)),(IntKind.i64.wrap ((5 : Int) + r9.1)),false⟩ : XSegment)] : List XSegment) ++ ([(⟨(3 : Int),(1 : Int),(IntKind.i64.wrap ((700 : Int) + r12.1)),(IntKind.i64.wrap ((20 : Int) + r13.1)),true⟩ : XSegment)] : List XSegment))),(3072,5,List.map XSegment.row ([(⟨(3 : Int),(1 : Int),(IntKind.i64.wrap ((700 : Int) + r12.1)),(IntKind.i64.wrap ((20 : Int) + r13.1)),true⟩ : XSegment)] : List XSegment))]⟩ f [true,true,true,true,true,true,true,true,true,true,true,true,true] ⟨[(0,vc (.pb 1099511627776 0)),(2,vc (.pb 2 0)),(3,vc (.pb 3 0)),(39,vc (.pb 3 1)),(40,vc (.undef)),(41,vc (.pb 1099511627776 0)),(42,vc (aI r12.1)),(43,vc (aI (IntKind.i64.wrap ((700 : Int) + r12.1)))),(44,vc (.pb 1099511627776 0)),(45,vc (aI r13.1)),(46,vc (aI (IntKind.i64.wrap ((20 : Int) + r13.1)))),(47,va [aI (3 : Int),aI (1 : Int),aI (IntKind.i64.wrap ((700 : Int) + r12.1)),aI (IntKind.i64.wrap ((20 : Int) + r13.1)),aB true]),(48,vc (.own 3072)),(49,vc (.own 2240)),(50,vc (.pb 3 1))],[(1099511627776,[aL (List.map r8 r13.2.b),aI r13.2.i,aI r13.2.h]),(2,[.nil,.nil]),(3,[.own 640,.own 2240])],[(640,2,List.map XPoint.row ([(⟨([115,101,97] : List UInt8),true⟩ : XPoint),(⟨([98,97,114] : List UInt8),false⟩ : XPoint),(⟨([114,111,97,100] : List UInt8),r1.1⟩ : XPoint),(⟨([113,117,97,121] : List UInt8),true⟩ : XPoint)] : List XPoint)),(2240,5,List.map XSegment.row (([(⟨(0 : Int),(1 : Int),(IntKind.i64.wrap ((900 : Int) + r2.1)),(IntKind.i64.wrap ((10 : Int) + r3.1)),false⟩ : XSegment),(⟨(1 : Int),(2 : Int),(IntKind.i64.wrap ((800 : Int) + r4.1)),(IntKind.i64.wrap ((10 : Int) + r5.1)),r6.1⟩ : XSegment),(⟨(2 : Int),(3 : Int),(IntKind.i64.wrap ((900 : Int) + r7.1)),(IntKind.i64.wrap ((5 : Int) + r9.1)),false⟩ : XSegment)] : List XSegment) ++ ([(⟨(3 : Int),(1 : Int),(IntKind.i64.wrap ((700 : Int) + r12.1)),(IntKind.i64.wrap ((20 : Int) + r13.1)),true⟩ : XSegment)] : List XSegment))),(3072,5,List.map XSegment.row ([(⟨(3 : Int),(1 : Int),(IntKind.i64.wrap ((700 : Int) + r12.1)),(IntKind.i64.wrap ((20 : Int) + r13.1)),true⟩ : XSegment)] : List XSegment))]⟩ := by
 intro f
 induction f with
 | zero => intro h; rfl
 | succ f ih =>
  refine C3 ⟨?_,?_,?_,?_,?_,?_,?_,?_,?_,?_,?_,?_,?_,trivial⟩
  ·intro h; cases h
  ·intro h; cases h
  ·intro h; cases h
  ·intro h; cases h
  ·intro h; cases h
  ·intro h; cases h
  ·intro h; cases h
  ·intro h; cases h
  ·intro h; cases h
  ·intro h; cases h
  ·intro h; cases h
  ·intro h; cases h
  ·intro h; cases h
theorem E1z (r1 : Bool × Xl01Cur) (r2 : Int × Xl01Cur) (r3 : Int × Xl01Cur) (r4 : Int × Xl01Cur) (r5 : Int × Xl01Cur) (r6 : Bool × Xl01Cur) (r7 : Int × Xl01Cur) (r9 : Int × Xl01Cur) (r10 : Bool × Xl01Cur) (r12 : Int × Xl01Cur) (r13 : Int × Xl01Cur) (hr12 : A5 r10.2 (300 : Int) = some r12) (hr13 : A5 r12.2 (30 : Int) = some r13) (hg14 : (E1 ([(⟨(0 : Int),(1 : Int),(IntKind.i64.wrap ((900 : Int) + r2.1)),(IntKind.i64.wrap ((10 : Int) + r3.1)),false⟩ : XSegment),(⟨(1 : Int),(2 : Int),(IntKind.i64.wrap ((800 : Int) + r4.1)),(IntKind.i64.wrap ((10 : Int) + r5.1)),r6.1⟩ : XSegment),(⟨(2 : Int),(3 : Int),(IntKind.i64.wrap ((900 : Int) + r7.1)),(IntKind.i64.wrap ((5 : Int) + r9.1)),false⟩ : XSegment)] : List XSegment).length ([(⟨(3 : Int),(1 : Int),(IntKind.i64.wrap ((700 : Int) + r12.1)),(IntKind.i64.wrap ((20 : Int) + r13.1)),true⟩ : XSegment)] : List XSegment).length 40) = true) : ∀ (f : Nat) (b0 : Bool) (b4 : Bool) (b7 : Bool) (b11 : Bool),F2 Try.prog N3 ⟨[(0,vc (.pb 1099511627776 0)),(2,vc (.pb 2 0)),(3,vc (.pb 3 0)),(39,vc (.pb 3 1)),(40,vc (.undef)),(41,vc (.pb 1099511627776 0)),(42,vc (aI r12.1)),(43,vc (aI (IntKind.i64.wrap ((700 : Int) + r12.1)))),(44,vc (.pb 1099511627776 0)),(45,vc (aI r13.1)),(46,vc (aI (IntKind.i64.wrap ((20 : Int) + r13.1)))),(47,va [aI (3 : Int),aI (1 : Int),aI (IntKind.i64.wrap ((700 : Int) + r12.1)),aI (IntKind.i64.wrap ((20 : Int) + r13.1)),aB true]),(48,vc (.own 3072)),(49,vc (.own 2240)),(50,vc (.pb 3 1))],[(1099511627776,[aL (List.map r8 r13.2.b),aI r13.2.i,aI r13.2.h]),(2,[.nil,.nil]),(3,[.own 640,.own 2240])],[(640,2,List.map XPoint.row ([(⟨([115,101,97] : List UInt8),true⟩ : XPoint),(⟨([98,97,114] : List UInt8),false⟩ : XPoint),(⟨([114,111,97,100] : List UInt8),r1.1⟩ : XPoint),(⟨([113,117,97,121] : List UInt8),true⟩ : XPoint)] : List XPoint)),(2240,5,List.map XSegment.row (([(⟨(0 : Int),(1 : Int),(IntKind.i64.wrap ((900 : Int) + r2.1)),(IntKind.i64.wrap ((10 : Int) + r3.1)),false⟩ : XSegment),(⟨(1 : Int),(2 : Int),(IntKind.i64.wrap ((800 : Int) + r4.1)),(IntKind.i64.wrap ((10 : Int) + r5.1)),r6.1⟩ : XSegment),(⟨(2 : Int),(3 : Int),(IntKind.i64.wrap ((900 : Int) + r7.1)),(IntKind.i64.wrap ((5 : Int) + r9.1)),false⟩ : XSegment)] : List XSegment) ++ ([(⟨(3 : Int),(1 : Int),(IntKind.i64.wrap ((700 : Int) + r12.1)),(IntKind.i64.wrap ((20 : Int) + r13.1)),true⟩ : XSegment)] : List XSegment))),(3072,5,List.map XSegment.row ([(⟨(3 : Int),(1 : Int),(IntKind.i64.wrap ((700 : Int) + r12.1)),(IntKind.i64.wrap ((20 : Int) + r13.1)),true⟩ : XSegment)] : List XSegment))]⟩ f [b0,true,true,true,b4,true,true,b7,true,true,true,b11,false] ⟨[(0,vc (.pb 1099511627776 0)),(2,vc (.pb 2 0)),(3,vc (.pb 3 0)),(39,bif b0 then vc (.pb 3 1) else .undef),(40,vc (.undef)),(41,vc (.pb 1099511627776 0)),(42,vc (aI r12.1)),(43,bif b4 then vc (aI (IntKind.i64.wrap ((700 : Int) + r12.1))) else .undef),(44,vc (.pb 1099511627776 0)),(45,vc (aI r13.1)),(46,bif b7 then vc (aI (IntKind.i64.wrap ((20 : Int) + r13.1))) else .undef),(47,va [aI (3 : Int),aI (1 : Int),aI (IntKind.i64.wrap ((700 : Int) + r12.1)),aI (IntKind.i64.wrap ((20 : Int) + r13.1)),aB true]),(48,vc (.own 3072)),(49,vc (.own 2240)),(50,bif b11 then vc (.pb 3 1) else .undef)],[(1099511627776,[aL (List.map r8 r13.2.b),aI r13.2.i,aI r13.2.h]),(2,[.nil,.nil]),(3,[.own 640,.undef])],[(640,2,List.map XPoint.row ([(⟨([115,101,97] : List UInt8),true⟩ : XPoint),(⟨([98,97,114] : List UInt8),false⟩ : XPoint),(⟨([114,111,97,100] : List UInt8),r1.1⟩ : XPoint),(⟨([113,117,97,121] : List UInt8),true⟩ : XPoint)] : List XPoint)),(2240,5,List.map XSegment.row (([(⟨(0 : Int),(1 : Int),(IntKind.i64.wrap ((900 : Int) + r2.1)),(IntKind.i64.wrap ((10 : Int) + r3.1)),false⟩ : XSegment),(⟨(1 : Int),(2 : Int),(IntKind.i64.wrap ((800 : Int) + r4.1)),(IntKind.i64.wrap ((10 : Int) + r5.1)),r6.1⟩ : XSegment),(⟨(2 : Int),(3 : Int),(IntKind.i64.wrap ((900 : Int) + r7.1)),(IntKind.i64.wrap ((5 : Int) + r9.1)),false⟩ : XSegment)] : List XSegment) ++ ([(⟨(3 : Int),(1 : Int),(IntKind.i64.wrap ((700 : Int) + r12.1)),(IntKind.i64.wrap ((20 : Int) + r13.1)),true⟩ : XSegment)] : List XSegment))),(3072,5,List.map XSegment.row ([(⟨(3 : Int),(1 : Int),(IntKind.i64.wrap ((700 : Int) + r12.1)),(IntKind.i64.wrap ((20 : Int) + r13.1)),true⟩ : XSegment)] : List XSegment))]⟩ := by
 intro f
 induction f with
 | zero => intro b0 b4 b7 b11 h; simp at h
 | succ f ih =>
  intro b0 b4 b7 b11
  refine C3 ⟨?_,?_,?_,?_,?_,?_,?_,?_,?_,?_,?_,?_,?_,trivial⟩
  ·intro h0 hw
   obtain rfl : b0 = false := Option.some.inj h0
   refine ⟨[],[],rfl,rfl,?_⟩
   simp only [List.nil_append,List.cons_append]
   try simp only [A1,ua,ub,uc,ud,ue,RR]
   exact ih true b4 b7 b11
  ·intro h; cases h
  ·intro h; cases h
  ·intro h; cases h
  ·intro h0 hw
   obtain rfl : b4 = false := Option.some.inj h0
   refine ⟨[],[],rfl,rfl,?_⟩
   simp only [List.nil_append,List.cons_append]
   try simp only [A1,ua,ub,uc,ud,ue,RR]
   exact ih b0 true b7 b11
  ·intro h; cases h
  ·intro h; cases h
  ·intro h0 hw
   obtain rfl : b7 = false := Option.some.inj h0
   refine ⟨[],[],rfl,rfl,?_⟩
   simp only [List.nil_append,List.cons_append]
   try simp only [A1,ua,ub,uc,ud,ue,RR]
   exact ih b0 b4 true b11
  ·intro h; cases h
  ·intro h; cases h
  ·intro h; cases h
  ·intro h0 hw
   obtain rfl : b11 = false := Option.some.inj h0
   obtain rfl : b0 = true := Option.some.inj (hw 0 (by simp))
   obtain rfl : b4 = true := Option.some.inj (hw 4 (by simp))
   obtain rfl : b7 = true := Option.some.inj (hw 7 (by simp))
   refine ⟨[],[],rfl,rfl,?_⟩
   simp only [List.nil_append,List.cons_append]
   try simp only [A1,ua,ub,uc,ud,ue,RR]
   exact ih true true true true
  ·intro h0 hw
   obtain rfl : b0 = true := Option.some.inj (hw 0 (by simp))
   obtain rfl : b4 = true := Option.some.inj (hw 4 (by simp))
   obtain rfl : b7 = true := Option.some.inj (hw 7 (by simp))
   obtain rfl : b11 = true := Option.some.inj (hw 11 (by simp))
   refine ⟨[],[],rfl,rfl,?_⟩
   simp only [List.nil_append,List.cons_append]
   try simp only [A1,ua,ub,uc,ud,ue,RR]
   exact E3b r1 r2 r3 r4 r5 r6 r7 r9 r10 r12 r13 hr12 hr13 hg14 _
theorem E22 (r1 : Bool × Xl01Cur) (r2 : Int × Xl01Cur) (r3 : Int × Xl01Cur) (r4 : Int × Xl01Cur) (r5 : Int × Xl01Cur) (r6 : Bool × Xl01Cur) (r7 : Int × Xl01Cur) (r9 : Int × Xl01Cur) (r10 : Bool × Xl01Cur) (r12 : Int × Xl01Cur) (r13 : Int × Xl01Cur) (hr12 : A5 r10.2 (300 : Int) = some r12) (hr13 : A5 r12.2 (30 : Int) = some r13) (hg14 : (E1 ([(⟨(0 : Int),(1 : Int),(IntKind.i64.wrap ((900 : Int) + r2.1)),(IntKind.i64.wrap ((10 : Int) + r3.1)),false⟩ : XSegment),(⟨(1 : Int),(2 : Int),(IntKind.i64.wrap ((800 : Int) + r4.1)),(IntKind.i64.wrap ((10 : Int) + r5.1)),r6.1⟩ : XSegment),(⟨(2 : Int),(3 : Int),(IntKind.i64.wrap ((900 : Int) + r7.1)),(IntKind.i64.wrap ((5 : Int) + r9.1)),false⟩ : XSegment)] : List XSegment).length ([(⟨(3 : Int),(1 : Int),(IntKind.i64.wrap ((700 : Int) + r12.1)),(IntKind.i64.wrap ((20 : Int) + r13.1)),true⟩ : XSegment)] : List XSegment).length 40) = true) : ∀ (f : Nat) (b0 : Bool) (b1 : Bool) (b4 : Bool) (b7 : Bool),F2 Try.prog N3 ⟨[(0,vc (.pb 1099511627776 0)),(2,vc (.pb 2 0)),(3,vc (.pb 3 0)),(39,vc (.pb 3 1)),(40,vc (.undef)),(41,vc (.pb 1099511627776 0)),(42,vc (aI r12.1)),(43,vc (aI (IntKind.i64.wrap ((700 : Int) + r12.1)))),(44,vc (.pb 1099511627776 0)),(45,vc (aI r13.1)),(46,vc (aI (IntKind.i64.wrap ((20 : Int) + r13.1)))),(47,va [aI (3 : Int),aI (1 : Int),aI (IntKind.i64.wrap ((700 : Int) + r12.1)),aI (IntKind.i64.wrap ((20 : Int) + r13.1)),aB true]),(48,vc (.own 3072)),(49,vc (.own 2240)),(50,vc (.pb 3 1))],[(1099511627776,[aL (List.map r8 r13.2.b),aI r13.2.i,aI r13.2.h]),(2,[.nil,.nil]),(3,[.own 640,.own 2240])],[(640,2,List.map XPoint.row ([(⟨([115,101,97] : List UInt8),true⟩ : XPoint),(⟨([98,97,114] : List UInt8),false⟩ : XPoint),(⟨([114,111,97,100] : List UInt8),r1.1⟩ : XPoint),(⟨([113,117,97,121] : List UInt8),true⟩ : XPoint)] : List XPoint)),(2240,5,List.map XSegment.row (([(⟨(0 : Int),(1 : Int),(IntKind.i64.wrap ((900 : Int) + r2.1)),(IntKind.i64.wrap ((10 : Int) + r3.1)),false⟩ : XSegment),(⟨(1 : Int),(2 : Int),(IntKind.i64.wrap ((800 : Int) + r4.1)),(IntKind.i64.wrap ((10 : Int) + r5.1)),r6.1⟩ : XSegment),(⟨(2 : Int),(3 : Int),(IntKind.i64.wrap ((900 : Int) + r7.1)),(IntKind.i64.wrap ((5 : Int) + r9.1)),false⟩ : XSegment)] : List XSegment) ++ ([(⟨(3 : Int),(1 : Int),(IntKind.i64.wrap ((700 : Int) + r12.1)),(IntKind.i64.wrap ((20 : Int) + r13.1)),true⟩ : XSegment)] : List XSegment))),(3072,5,List.map XSegment.row ([(⟨(3 : Int),(1 : Int),(IntKind.i64.wrap ((700 : Int) + r12.1)),(IntKind.i64.wrap ((20 : Int) + r13.1)),true⟩ : XSegment)] : List XSegment))]⟩ f [b0,b1,true,true,b4,true,true,b7,true,true,false,false,false] ⟨[(0,vc (.pb 1099511627776 0)),(2,vc (.pb 2 0)),(3,vc (.pb 3 0)),(39,bif b0 then vc (.pb 3 1) else .undef),(40,bif b1 then vc (.own 2240) else .undef),(41,vc (.pb 1099511627776 0)),(42,vc (aI r12.1)),(43,bif b4 then vc (aI (IntKind.i64.wrap ((700 : Int) + r12.1))) else .undef),(44,vc (.pb 1099511627776 0)),(45,vc (aI r13.1)),(46,bif b7 then vc (aI (IntKind.i64.wrap ((20 : Int) + r13.1))) else .undef),(47,va [aI (3 : Int),aI (1 : Int),aI (IntKind.i64.wrap ((700 : Int) + r12.1)),aI (IntKind.i64.wrap ((20 : Int) + r13.1)),aB true]),(48,vc (.own 3072)),(49,.undef),(50,.undef)],[(1099511627776,[aL (List.map r8 r13.2.b),aI r13.2.i,aI r13.2.h]),(2,[.nil,.nil]),(3,[.own 640,.own 2240])],[(640,2,List.map XPoint.row ([(⟨([115,101,97] : List UInt8),true⟩ : XPoint),(⟨([98,97,114] : List UInt8),false⟩ : XPoint),(⟨([114,111,97,100] : List UInt8),r1.1⟩ : XPoint),(⟨([113,117,97,121] : List UInt8),true⟩ : XPoint)] : List XPoint)),(2240,5,List.map XSegment.row ([(⟨(0 : Int),(1 : Int),(IntKind.i64.wrap ((900 : Int) + r2.1)),(IntKind.i64.wrap ((10 : Int) + r3.1)),false⟩ : XSegment),(⟨(1 : Int),(2 : Int),(IntKind.i64.wrap ((800 : Int) + r4.1)),(IntKind.i64.wrap ((10 : Int) + r5.1)),r6.1⟩ : XSegment),(⟨(2 : Int),(3 : Int),(IntKind.i64.wrap ((900 : Int) + r7.1)),(IntKind.i64.wrap ((5 : Int) + r9.1)),false⟩ : XSegment)] : List XSegment)),(3072,5,List.map XSegment.row ([(⟨(3 : Int),(1 : Int),(IntKind.i64.wrap ((700 : Int) + r12.1)),(IntKind.i64.wrap ((20 : Int) + r13.1)),true⟩ : XSegment)] : List XSegment))]⟩ := by
 intro f
 induction f with
 | zero => intro b0 b1 b4 b7 h; simp at h
 | succ f ih =>
  intro b0 b1 b4 b7
  refine C3 ⟨?_,?_,?_,?_,?_,?_,?_,?_,?_,?_,?_,?_,?_,trivial⟩
  ·intro h0 hw
   obtain rfl : b0 = false := Option.some.inj h0
   refine ⟨[],[],rfl,rfl,?_⟩
   simp only [List.nil_append,List.cons_append]
   try simp only [A1,ua,ub,uc,ud,ue,RR]
   exact ih true b1 b4 b7
  ·intro h0 hw
   obtain rfl : b1 = false := Option.some.inj h0
   obtain rfl : b0 = true := Option.some.inj (hw 0 (by simp))
   refine ⟨[],[],rfl,rfl,?_⟩
   simp only [List.nil_append,List.cons_append]
   try simp only [A1,ua,ub,uc,ud,ue,RR]
   exact ih true true b4 b7
  ·intro h; cases h
  ·intro h; cases h
  ·intro h0 hw
   obtain rfl : b4 = false := Option.some.inj h0
   refine ⟨[],[],rfl,rfl,?_⟩
   simp only [List.nil_append,List.cons_append]
   try simp only [A1,ua,ub,uc,ud,ue,RR]
   exact ih b0 b1 true b7
  ·intro h; cases h
  ·intro h; cases h
  ·intro h0 hw
   obtain rfl : b7 = false := Option.some.inj h0
   refine ⟨[],[],rfl,rfl,?_⟩
   simp only [List.nil_append,List.cons_append]
   try simp only [A1,ua,ub,uc,ud,ue,RR]
   exact ih b0 b1 b4 true
  ·intro h; cases h
  ·intro h; cases h
  ·intro h0 hw
   obtain rfl : b1 = true := Option.some.inj (hw 1 (by simp))
   refine ⟨[],[],rfl,rfl,?_⟩
   simp only [List.nil_append,List.cons_append]
   try simp only [hg14,A1,ua,ub,uc,ud,ue,RR]
   exact E1z r1 r2 r3 r4 r5 r6 r7 r9 r10 r12 r13 hr12 hr13 hg14 _ b0 b4 b7 false
  ·intro _ hw; have := hw 10 (by simp); cases this
  ·intro _ hw; have := hw 11 (by simp); cases this
theorem E2k (r1 : Bool × Xl01Cur) (r2 : Int × Xl01Cur) (r3 : Int × Xl01Cur) (r4 : Int × Xl01Cur) (r5 : Int × Xl01Cur) (r6 : Bool × Xl01Cur) (r7 : Int × Xl01Cur) (r9 : Int × Xl01Cur) (r10 : Bool × Xl01Cur) (r12 : Int × Xl01Cur) (r13 : Int × Xl01Cur) (hr12 : A5 r10.2 (300 : Int) = some r12) (hr13 : A5 r12.2 (30 : Int) = some r13) (hg14 : (E1 ([(⟨(0 : Int),(1 : Int),(IntKind.i64.wrap ((900 : Int) + r2.1)),(IntKind.i64.wrap ((10 : Int) + r3.1)),false⟩ : XSegment),(⟨(1 : Int),(2 : Int),(IntKind.i64.wrap ((800 : Int) + r4.1)),(IntKind.i64.wrap ((10 : Int) + r5.1)),r6.1⟩ : XSegment),(⟨(2 : Int),(3 : Int),(IntKind.i64.wrap ((900 : Int) + r7.1)),(IntKind.i64.wrap ((5 : Int) + r9.1)),false⟩ : XSegment)] : List XSegment).length ([(⟨(3 : Int),(1 : Int),(IntKind.i64.wrap ((700 : Int) + r12.1)),(IntKind.i64.wrap ((20 : Int) + r13.1)),true⟩ : XSegment)] : List XSegment).length 40) = true) : ∀ (f : Nat) (b0 : Bool) (b1 : Bool) (b4 : Bool) (b7 : Bool) (b8 : Bool),F2 Try.prog N3 ⟨[(0,vc (.pb 1099511627776 0)),(2,vc (.pb 2 0)),(3,vc (.pb 3 0)),(39,vc (.pb 3 1)),(40,vc (.undef)),(41,vc (.pb 1099511627776 0)),(42,vc (aI r12.1)),(43,vc (aI (IntKind.i64.wrap ((700 : Int) + r12.1)))),(44,vc (.pb 1099511627776 0)),(45,vc (aI r13.1)),(46,vc (aI (IntKind.i64.wrap ((20 : Int) + r13.1)))),(47,va [aI (3 : Int),aI (1 : Int),aI (IntKind.i64.wrap ((700 : Int) + r12.1)),aI (IntKind.i64.wrap ((20 : Int) + r13.1)),aB true]),(48,vc (.own 3072)),(49,vc (.own 2240)),(50,vc (.pb 3 1))],[(1099511627776,[aL (List.map r8 r13.2.b),aI r13.2.i,aI r13.2.h]),(2,[.nil,.nil]),(3,[.own 640,.own 2240])],[(640,2,List.map XPoint.row ([(⟨([115,101,97] : List UInt8),true⟩ : XPoint),(⟨([98,97,114] : List UInt8),false⟩ : XPoint),(⟨([114,111,97,100] : List UInt8),r1.1⟩ : XPoint),(⟨([113,117,97,121] : List UInt8),true⟩ : XPoint)] : List XPoint)),(2240,5,List.map XSegment.row (([(⟨(0 : Int),(1 : Int),(IntKind.i64.wrap ((900 : Int) + r2.1)),(IntKind.i64.wrap ((10 : Int) + r3.1)),false⟩ : XSegment),(⟨(1 : Int),(2 : Int),(IntKind.i64.wrap ((800 : Int) + r4.1)),(IntKind.i64.wrap ((10 : Int) + r5.1)),r6.1⟩ : XSegment),(⟨(2 : Int),(3 : Int),(IntKind.i64.wrap ((900 : Int) + r7.1)),(IntKind.i64.wrap ((5 : Int) + r9.1)),false⟩ : XSegment)] : List XSegment) ++ ([(⟨(3 : Int),(1 : Int),(IntKind.i64.wrap ((700 : Int) + r12.1)),(IntKind.i64.wrap ((20 : Int) + r13.1)),true⟩ : XSegment)] : List XSegment))),(3072,5,List.map XSegment.row ([(⟨(3 : Int),(1 : Int),(IntKind.i64.wrap ((700 : Int) + r12.1)),(IntKind.i64.wrap ((20 : Int) + r13.1)),true⟩ : XSegment)] : List XSegment))]⟩ f [b0,b1,true,true,b4,true,true,b7,b8,false,false,false,false] ⟨[(0,vc (.pb 1099511627776 0)),(2,vc (.pb 2 0)),(3,vc (.pb 3 0)),(39,bif b0 then vc (.pb 3 1) else .undef),(40,bif b1 then vc (.own 2240) else .undef),(41,vc (.pb 1099511627776 0)),(42,vc (aI r12.1)),(43,bif b4 then vc (aI (IntKind.i64.wrap ((700 : Int) + r12.1))) else .undef),(44,vc (.pb 1099511627776 0)),(45,vc (aI r13.1)),(46,bif b7 then vc (aI (IntKind.i64.wrap ((20 : Int) + r13.1))) else .undef),(47,bif b8 then va [aI (3 : Int),aI (1 : Int),aI (IntKind.i64.wrap ((700 : Int) + r12.1)),aI (IntKind.i64.wrap ((20 : Int) + r13.1)),aB true] else .undef),(48,.undef),(49,.undef),(50,.undef)],[(1099511627776,[aL (List.map r8 r13.2.b),aI r13.2.i,aI r13.2.h]),(2,[.nil,.nil]),(3,[.own 640,.own 2240])],[(640,2,List.map XPoint.row ([(⟨([115,101,97] : List UInt8),true⟩ : XPoint),(⟨([98,97,114] : List UInt8),false⟩ : XPoint),(⟨([114,111,97,100] : List UInt8),r1.1⟩ : XPoint),(⟨([113,117,97,121] : List UInt8),true⟩ : XPoint)] : List XPoint)),(2240,5,List.map XSegment.row ([(⟨(0 : Int),(1 : Int),(IntKind.i64.wrap ((900 : Int) + r2.1)),(IntKind.i64.wrap ((10 : Int) + r3.1)),false⟩ : XSegment),(⟨(1 : Int),(2 : Int),(IntKind.i64.wrap ((800 : Int) + r4.1)),(IntKind.i64.wrap ((10 : Int) + r5.1)),r6.1⟩ : XSegment),(⟨(2 : Int),(3 : Int),(IntKind.i64.wrap ((900 : Int) + r7.1)),(IntKind.i64.wrap ((5 : Int) + r9.1)),false⟩ : XSegment)] : List XSegment))]⟩ := by
 intro f
 induction f with
 | zero => intro b0 b1 b4 b7 b8 h; simp at h
 | succ f ih =>
  intro b0 b1 b4 b7 b8
  refine C3 ⟨?_,?_,?_,?_,?_,?_,?_,?_,?_,?_,?_,?_,?_,trivial⟩
  ·intro h0 hw
   obtain rfl : b0 = false := Option.some.inj h0
   refine ⟨[],[],rfl,rfl,?_⟩
   simp only [List.nil_append,List.cons_append]
   try simp only [A1,ua,ub,uc,ud,ue,RR]
   exact ih true b1 b4 b7 b8
  ·intro h0 hw
   obtain rfl : b1 = false := Option.some.inj h0
   obtain rfl : b0 = true := Option.some.inj (hw 0 (by simp))
   refine ⟨[],[],rfl,rfl,?_⟩
   simp only [List.nil_append,List.cons_append]
   try simp only [A1,ua,ub,uc,ud,ue,RR]
   exact ih true true b4 b7 b8
  ·intro h; cases h
  ·intro h; cases h
  ·intro h0 hw
   obtain rfl : b4 = false := Option.some.inj h0
   refine ⟨[],[],rfl,rfl,?_⟩
   simp only [List.nil_append,List.cons_append]
   try simp only [A1,ua,ub,uc,ud,ue,RR]
   exact ih b0 b1 true b7 b8
  ·intro h; cases h
  ·intro h; cases h
  ·intro h0 hw
   obtain rfl : b7 = false := Option.some.inj h0
   refine ⟨[],[],rfl,rfl,?_⟩
   simp only [List.nil_append,List.cons_append]
   try simp only [A1,ua,ub,uc,ud,ue,RR]
   exact ih b0 b1 b4 true b8
  ·intro h0 hw
   obtain rfl : b8 = false := Option.some.inj h0
   obtain rfl : b4 = true := Option.some.inj (hw 4 (by simp))
   obtain rfl : b7 = true := Option.some.inj (hw 7 (by simp))
   refine ⟨[],[],rfl,rfl,?_⟩
   simp only [List.nil_append,List.cons_append]
   try simp only [A1,ua,ub,uc,ud,ue,RR]
   exact ih b0 b1 true true true
  ·intro h0 hw
   obtain rfl : b8 = true := Option.some.inj (hw 8 (by simp))
   refine ⟨[],[],rfl,rfl,?_⟩
   simp only [List.nil_append,List.cons_append]
   try simp only [A1,ua,ub,uc,ud,ue,RR]
   refine E8 (es := List.map XSegment.row ([(⟨(3 : Int),(1 : Int),(IntKind.i64.wrap ((700 : Int) + r12.1)),(IntKind.i64.wrap ((20 : Int) + r13.1)),true⟩ : XSegment)] : List XSegment)) rfl (by simp only [St.fresh,List.all_cons,List.all_nil,A1h]; simp [AV.cells,V1.cells,AC.uses]) ?_
   try simp only [A1,ua,ub,uc,ud,ue,RR]
   exact E22 r1 r2 r3 r4 r5 r6 r7 r9 r10 r12 r13 hr12 hr13 hg14 _ b0 b1 b4 b7
  ·intro _ hw; have := hw 9 (by simp); cases this
  ·intro _ hw; have := hw 9 (by simp); cases this
  ·intro _ hw; have := hw 11 (by simp); cases this
theorem E1v (r1 : Bool × Xl01Cur) (r2 : Int × Xl01Cur) (r3 : Int × Xl01Cur) (r4 : Int × Xl01Cur) (r5 : Int × Xl01Cur) (r6 : Bool × Xl01Cur) (r7 : Int × Xl01Cur) (r9 : Int × Xl01Cur) (r10 : Bool × Xl01Cur) (r12 : Int × Xl01Cur) (r13 : Int × Xl01Cur) (hr12 : A5 r10.2 (300 : Int) = some r12) (hr13 : A5 r12.2 (30 : Int) = some r13) (hg14 : (E1 ([(⟨(0 : Int),(1 : Int),(IntKind.i64.wrap ((900 : Int) + r2.1)),(IntKind.i64.wrap ((10 : Int) + r3.1)),false⟩ : XSegment),(⟨(1 : Int),(2 : Int),(IntKind.i64.wrap ((800 : Int) + r4.1)),(IntKind.i64.wrap ((10 : Int) + r5.1)),r6.1⟩ : XSegment),(⟨(2 : Int),(3 : Int),(IntKind.i64.wrap ((900 : Int) + r7.1)),(IntKind.i64.wrap ((5 : Int) + r9.1)),false⟩ : XSegment)] : List XSegment).length ([(⟨(3 : Int),(1 : Int),(IntKind.i64.wrap ((700 : Int) + r12.1)),(IntKind.i64.wrap ((20 : Int) + r13.1)),true⟩ : XSegment)] : List XSegment).length 40) = true) : ∀ (f : Nat) (b0 : Bool) (b1 : Bool) (b4 : Bool) (b5 : Bool),F2 Try.prog N3 ⟨[(0,vc (.pb 1099511627776 0)),(2,vc (.pb 2 0)),(3,vc (.pb 3 0)),(39,vc (.pb 3 1)),(40,vc (.undef)),(41,vc (.pb 1099511627776 0)),(42,vc (aI r12.1)),(43,vc (aI (IntKind.i64.wrap ((700 : Int) + r12.1)))),(44,vc (.pb 1099511627776 0)),(45,vc (aI r13.1)),(46,vc (aI (IntKind.i64.wrap ((20 : Int) + r13.1)))),(47,va [aI (3 : Int),aI (1 : Int),aI (IntKind.i64.wrap ((700 : Int) + r12.1)),aI (IntKind.i64.wrap ((20 : Int) + r13.1)),aB true]),(48,vc (.own 3072)),(49,vc (.own 2240)),(50,vc (.pb 3 1))],[(1099511627776,[aL (List.map r8 r13.2.b),aI r13.2.i,aI r13.2.h]),(2,[.nil,.nil]),(3,[.own 640,.own 2240])],[(640,2,List.map XPoint.row ([(⟨([115,101,97] : List UInt8),true⟩ : XPoint),(⟨([98,97,114] : List UInt8),false⟩ : XPoint),(⟨([114,111,97,100] : List UInt8),r1.1⟩ : XPoint),(⟨([113,117,97,121] : List UInt8),true⟩ : XPoint)] : List XPoint)),(2240,5,List.map XSegment.row (([(⟨(0 : Int),(1 : Int),(IntKind.i64.wrap ((900 : Int) + r2.1)),(IntKind.i64.wrap ((10 : Int) + r3.1)),false⟩ : XSegment),(⟨(1 : Int),(2 : Int),(IntKind.i64.wrap ((800 : Int) + r4.1)),(IntKind.i64.wrap ((10 : Int) + r5.1)),r6.1⟩ : XSegment),(⟨(2 : Int),(3 : Int),(IntKind.i64.wrap ((900 : Int) + r7.1)),(IntKind.i64.wrap ((5 : Int) + r9.1)),false⟩ : XSegment)] : List XSegment) ++ ([(⟨(3 : Int),(1 : Int),(IntKind.i64.wrap ((700 : Int) + r12.1)),(IntKind.i64.wrap ((20 : Int) + r13.1)),true⟩ : XSegment)] : List XSegment))),(3072,5,List.map XSegment.row ([(⟨(3 : Int),(1 : Int),(IntKind.i64.wrap ((700 : Int) + r12.1)),(IntKind.i64.wrap ((20 : Int) + r13.1)),true⟩ : XSegment)] : List XSegment))]⟩ f [b0,b1,true,true,b4,b5,false,false,false,false,false,false,false] ⟨[(0,vc (.pb 1099511627776 0)),(2,vc (.pb 2 0)),(3,vc (.pb 3 0)),(39,bif b0 then vc (.pb 3 1) else .undef),(40,bif b1 then vc (.own 2240) else .undef),(41,vc (.pb 1099511627776 0)),(42,vc (aI r12.1)),(43,bif b4 then vc (aI (IntKind.i64.wrap ((700 : Int) + r12.1))) else .undef),(44,bif b5 then vc (.pb 1099511627776 0) else .undef),(45,.undef),(46,.undef),(47,.undef),(48,.undef),(49,.undef),(50,.undef)],[(1099511627776,[aL (List.map r8 r12.2.b),aI r12.2.i,aI r12.2.h]),(2,[.nil,.nil]),(3,[.own 640,.own 2240])],[(640,2,List.map XPoint.row ([(⟨([115,101,97] : List UInt8),true⟩ : XPoint),(⟨([98,97,114] : List UInt8),false⟩ : XPoint),(⟨([114,111,97,100] : List UInt8),r1.1⟩ : XPoint),(⟨([113,117,97,121] : List UInt8),true⟩ : XPoint)] : List XPoint)),(2240,5,List.map XSegment.row ([(⟨(0 : Int),(1 : Int),(IntKind.i64.wrap ((900 : Int) + r2.1)),(IntKind.i64.wrap ((10 : Int) + r3.1)),false⟩ : XSegment),(⟨(1 : Int),(2 : Int),(IntKind.i64.wrap ((800 : Int) + r4.1)),(IntKind.i64.wrap ((10 : Int) + r5.1)),r6.1⟩ : XSegment),(⟨(2 : Int),(3 : Int),(IntKind.i64.wrap ((900 : Int) + r7.1)),(IntKind.i64.wrap ((5 : Int) + r9.1)),false⟩ : XSegment)] : List XSegment))]⟩ := by
 intro f
 induction f with
 | zero => intro b0 b1 b4 b5 h; simp at h
 | succ f ih =>
  intro b0 b1 b4 b5
  refine C3 ⟨?_,?_,?_,?_,?_,?_,?_,?_,?_,?_,?_,?_,?_,trivial⟩
  ·intro h0 hw
   obtain rfl : b0 = false := Option.some.inj h0
   refine ⟨[],[],rfl,rfl,?_⟩
   simp only [List.nil_append,List.cons_append]
   try simp only [A1,ua,ub,uc,ud,ue,RR]
   exact ih true b1 b4 b5
  ·intro h0 hw
   obtain rfl : b1 = false := Option.some.inj h0
   obtain rfl : b0 = true := Option.some.inj (hw 0 (by simp))
   refine ⟨[],[],rfl,rfl,?_⟩
   simp only [List.nil_append,List.cons_append]
   try simp only [A1,ua,ub,uc,ud,ue,RR]
   exact ih true true b4 b5
  ·intro h; cases h
  ·intro h; cases h
  ·intro h0 hw
   obtain rfl : b4 = false := Option.some.inj h0
   refine ⟨[],[],rfl,rfl,?_⟩
   simp only [List.nil_append,List.cons_append]
   try simp only [A1,ua,ub,uc,ud,ue,RR]
   exact ih b0 b1 true b5
  ·intro h0 hw
   obtain rfl : b5 = false := Option.some.inj h0
   refine ⟨[],[],rfl,rfl,?_⟩
   simp only [List.nil_append,List.cons_append]
   try simp only [A1,ua,ub,uc,ud,ue,RR]
   exact ih b0 b1 b4 true
  ·intro h0 hw
   obtain rfl : b5 = true := Option.some.inj (hw 5 (by simp))
   refine ⟨[],[],rfl,rfl,?_⟩
   simp only [List.nil_append,List.cons_append]
   try simp only [A1,ua,ub,uc,ud,ue,RR]
   refine B2 (B0 _ _ _ hr13) 1099511627776 rfl rfl rfl ?_
   try simp only [A1,ua,ub,uc,ud,ue,RR]
   exact E2k r1 r2 r3 r4 r5 r6 r7 r9 r10 r12 r13 hr12 hr13 hg14 _ b0 b1 b4 false false
  ·intro _ hw; have := hw 6 (by simp); cases this
  ·intro _ hw; have := hw 7 (by simp); cases this
  ·intro _ hw; have := hw 8 (by simp); cases this
  ·intro _ hw; have := hw 9 (by simp); cases this
  ·intro _ hw; have := hw 6 (by simp); cases this
  ·intro _ hw; have := hw 11 (by simp); cases this
theorem E2j (r1 : Bool × Xl01Cur) (r2 : Int × Xl01Cur) (r3 : Int × Xl01Cur) (r4 : Int × Xl01Cur) (r5 : Int × Xl01Cur) (r6 : Bool × Xl01Cur) (r7 : Int × Xl01Cur) (r9 : Int × Xl01Cur) (r10 : Bool × Xl01Cur) (r12 : Int × Xl01Cur) (r13 : Int × Xl01Cur) (hr12 : A5 r10.2 (300 : Int) = some r12) (hr13 : A5 r12.2 (30 : Int) = some r13) (hg14 : (E1 ([(⟨(0 : Int),(1 : Int),(IntKind.i64.wrap ((900 : Int) + r2.1)),(IntKind.i64.wrap ((10 : Int) + r3.1)),false⟩ : XSegment),(⟨(1 : Int),(2 : Int),(IntKind.i64.wrap ((800 : Int) + r4.1)),(IntKind.i64.wrap ((10 : Int) + r5.1)),r6.1⟩ : XSegment),(⟨(2 : Int),(3 : Int),(IntKind.i64.wrap ((900 : Int) + r7.1)),(IntKind.i64.wrap ((5 : Int) + r9.1)),false⟩ : XSegment)] : List XSegment).length ([(⟨(3 : Int),(1 : Int),(IntKind.i64.wrap ((700 : Int) + r12.1)),(IntKind.i64.wrap ((20 : Int) + r13.1)),true⟩ : XSegment)] : List XSegment).length 40) = true) : ∀ (f : Nat) (b0 : Bool) (b1 : Bool) (b2 : Bool) (b5 : Bool),F2 Try.prog N3 ⟨[(0,vc (.pb 1099511627776 0)),(2,vc (.pb 2 0)),(3,vc (.pb 3 0)),(39,vc (.pb 3 1)),(40,vc (.undef)),(41,vc (.pb 1099511627776 0)),(42,vc (aI r12.1)),(43,vc (aI (IntKind.i64.wrap ((700 : Int) + r12.1)))),(44,vc (.pb 1099511627776 0)),(45,vc (aI r13.1)),(46,vc (aI (IntKind.i64.wrap ((20 : Int) + r13.1)))),(47,va [aI (3 : Int),aI (1 : Int),aI (IntKind.i64.wrap ((700 : Int) + r12.1)),aI (IntKind.i64.wrap ((20 : Int) + r13.1)),aB true]),(48,vc (.own 3072)),(49,vc (.own 2240)),(50,vc (.pb 3 1))],[(1099511627776,[aL (List.map r8 r13.2.b),aI r13.2.i,aI r13.2.h]),(2,[.nil,.nil]),(3,[.own 640,.own 2240])],[(640,2,List.map XPoint.row ([(⟨([115,101,97] : List UInt8),true⟩ : XPoint),(⟨([98,97,114] : List UInt8),false⟩ : XPoint),(⟨([114,111,97,100] : List UInt8),r1.1⟩ : XPoint),(⟨([113,117,97,121] : List UInt8),true⟩ : XPoint)] : List XPoint)),(2240,5,List.map XSegment.row (([(⟨(0 : Int),(1 : Int),(IntKind.i64.wrap ((900 : Int) + r2.1)),(IntKind.i64.wrap ((10 : Int) + r3.1)),false⟩ : XSegment),(⟨(1 : Int),(2 : Int),(IntKind.i64.wrap ((800 : Int) + r4.1)),(IntKind.i64.wrap ((10 : Int) + r5.1)),r6.1⟩ : XSegment),(⟨(2 : Int),(3 : Int),(IntKind.i64.wrap ((900 : Int) + r7.1)),(IntKind.i64.wrap ((5 : Int) + r9.1)),false⟩ : XSegment)] : List XSegment) ++ ([(⟨(3 : Int),(1 : Int),(IntKind.i64.wrap ((700 : Int) + r12.1)),(IntKind.i64.wrap ((20 : Int) + r13.1)),true⟩ : XSegment)] : List XSegment))),(3072,5,List.map XSegment.row ([(⟨(3 : Int),(1 : Int),(IntKind.i64.wrap ((700 : Int) + r12.1)),(IntKind.i64.wrap ((20 : Int) + r13.1)),true⟩ : XSegment)] : List XSegment))]⟩ f [b0,b1,b2,false,false,b5,false,false,false,false,false,false,false] ⟨[(0,vc (.pb 1099511627776 0)),(2,vc (.pb 2 0)),(3,vc (.pb 3 0)),(39,bif b0 then vc (.pb 3 1) else .undef),(40,bif b1 then vc (.own 2240) else .undef),(41,bif b2 then vc (.pb 1099511627776 0) else .undef),(42,.undef),(43,.undef),(44,bif b5 then vc (.pb 1099511627776 0) else .undef),(45,.undef),(46,.undef),(47,.undef),(48,.undef),(49,.undef),(50,.undef)],[(1099511627776,[aL (List.map r8 r10.2.b),aI r10.2.i,aI r10.2.h]),(2,[.nil,.nil]),(3,[.own 640,.own 2240])],[(640,2,List.map XPoint.row ([(⟨([115,101,97] : List UInt8),true⟩ : XPoint),(⟨([98,97,114] : List UInt8),false⟩ : XPoint),(⟨([114,111,97,100] : List UInt8),r1.1⟩ : XPoint),(⟨([113,117,97,121] : List UInt8),true⟩ : XPoint)] : List XPoint)),(2240,5,List.map XSegment.row ([(⟨(0 : Int),(1 : Int),(IntKind.i64.wrap ((900 : Int) + r2.1)),(IntKind.i64.wrap ((10 : Int) + r3.1)),false⟩ : XSegment),(⟨(1 : Int),(2 : Int),(IntKind.i64.wrap ((800 : Int) + r4.1)),(IntKind.i64.wrap ((10 : Int) + r5.1)),r6.1⟩ : XSegment),(⟨(2 : Int),(3 : Int),(IntKind.i64.wrap ((900 : Int) + r7.1)),(IntKind.i64.wrap ((5 : Int) + r9.1)),false⟩ : XSegment)] : List XSegment))]⟩ := by
 intro f
 induction f with
 | zero => intro b0 b1 b2 b5 h; simp at h
 | succ f ih =>
  intro b0 b1 b2 b5
  refine C3 ⟨?_,?_,?_,?_,?_,?_,?_,?_,?_,?_,?_,?_,?_,trivial⟩
  ·intro h0 hw
   obtain rfl : b0 = false := Option.some.inj h0
   refine ⟨[],[],rfl,rfl,?_⟩
   simp only [List.nil_append,List.cons_append]
   try simp only [A1,ua,ub,uc,ud,ue,RR]
   exact ih true b1 b2 b5
  ·intro h0 hw
   obtain rfl : b1 = false := Option.some.inj h0
   obtain rfl : b0 = true := Option.some.inj (hw 0 (by simp))
   refine ⟨[],[],rfl,rfl,?_⟩
   simp only [List.nil_append,List.cons_append]
   try simp only [A1,ua,ub,uc,ud,ue,RR]
   exact ih true true b2 b5
  ·intro h0 hw
   obtain rfl : b2 = false := Option.some.inj h0
   refine ⟨[],[],rfl,rfl,?_⟩
   simp only [List.nil_append,List.cons_append]
   try simp only [A1,ua,ub,uc,ud,ue,RR]
   exact ih b0 b1 true b5
  ·intro h0 hw
   obtain rfl : b2 = true := Option.some.inj (hw 2 (by simp))
   refine ⟨[],[],rfl,rfl,?_⟩
   simp only [List.nil_append,List.cons_append]
   try simp only [A1,ua,ub,uc,ud,ue,RR]
   refine B2 (B0 _ _ _ hr12) 1099511627776 rfl rfl rfl ?_
   try simp only [A1,ua,ub,uc,ud,ue,RR]
   exact E1v r1 r2 r3 r4 r5 r6 r7 r9 r10 r12 r13 hr12 hr13 hg14 _ b0 b1 false b5
  ·intro _ hw; have := hw 3 (by simp); cases this
  ·intro h0 hw
   obtain rfl : b5 = false := Option.some.inj h0
   refine ⟨[],[],rfl,rfl,?_⟩
   simp only [List.nil_append,List.cons_append]
   try simp only [A1,ua,ub,uc,ud,ue,RR]
   exact ih b0 b1 b2 true
  ·intro _ hw; have := hw 3 (by simp); cases this
  ·intro _ hw; have := hw 6 (by simp); cases this
  ·intro _ hw; have := hw 4 (by simp); cases this
  ·intro _ hw; have := hw 8 (by simp); cases this
  ·intro _ hw; have := hw 9 (by simp); cases this
  ·intro _ hw; have := hw 3 (by simp); cases this
  ·intro _ hw; have := hw 11 (by simp); cases this
theorem E13 (v18 : List XPoint) (v19 : List XSegment) (r20 : Bool × Xl01Cur) (r23 : Int × Xl01Cur) (hr23 : A5 r20.2 (300 : Int) = some r23) (hg24 : (E1 v19.length ([(⟨(2 : Int),(4 : Int),(IntKind.i64.wrap ((800 : Int) + r23.1)),(15 : Int),false⟩ : XSegment)] : List XSegment).length 40) = true) : ∀ (f : Nat),F2 Try.prog Q5 ⟨[(0,vc (.pb 1099511627776 0)),(2,vc (.pb 2 0)),(3,vc (.pb 3 0)),(59,vc (.pb 3 1)),(60,vc (.undef)),(61,vc (.pb 1099511627776 0)),(62,vc (aI r23.1)),(63,vc (aI (IntKind.i64.wrap ((800 : Int) + r23.1)))),(64,va [aI (2 : Int),aI (4 : Int),aI (IntKind.i64.wrap ((800 : Int) + r23.1)),aI (15 : Int),aB false]),(65,vc (.own 4160)),(66,vc (.own 2240)),(67,vc (.pb 3 1))],[(1099511627776,[aL (List.map r8 r23.2.b),aI r23.2.i,aI r23.2.h]),(2,[.nil,.nil]),(3,[.own 640,.own 2240])],[(640,2,List.map XPoint.row (v18 ++ ([(⟨([100,111,99,107] : List UInt8),true⟩ : XPoint)] : List XPoint))),(2240,5,List.map XSegment.row (v19 ++ ([(⟨(2 : Int),(4 : Int),(IntKind.i64.wrap ((800 : Int) + r23.1)),(15 : Int),false⟩ : XSegment)] : List XSegment))),(4160,5,List.map XSegment.row ([(⟨(2 : Int),(4 : Int),(IntKind.i64.wrap ((800 : Int) + r23.1)),(15 : Int),false⟩ : XSegment)] : List XSegment))]⟩ f [true,true,true,true,true,true,true,true,true,true] ⟨[(0,vc (.pb 1099511627776 0)),(2,vc (.pb 2 0)),(3,vc (.pb 3 0)),(59,vc (.pb 3 1)),(60,vc (.undef)),(61,vc (.pb 1099511627776 0)),(62,vc (aI r23.1)),(63,vc (aI (IntKind.i64.wrap ((800 : Int) + r23.1)))),(64,va [aI (2 : Int),aI (4 : Int),aI (IntKind.i64.wrap ((800 : Int) + r23.1)),aI (15 : Int),aB false]),(65,vc (.own 4160)),(66,vc (.own 2240)),(67,vc (.pb 3 1))],[(1099511627776,[aL (List.map r8 r23.2.b),aI r23.2.i,aI r23.2.h]),(2,[.nil,.nil]),(3,[.own 640,.own 2240])],[(640,2,List.map XPoint.row (v18 ++ ([(⟨([100,111,99,107] : List UInt8),true⟩ : XPoint)] : List XPoint))),(2240,5,List.map XSegment.row (v19 ++ ([(⟨(2 : Int),(4 : Int),(IntKind.i64.wrap ((800 : Int) + r23.1)),(15 : Int),false⟩ : XSegment)] : List XSegment))),(4160,5,List.map XSegment.row ([(⟨(2 : Int),(4 : Int),(IntKind.i64.wrap ((800 : Int) + r23.1)),(15 : Int),false⟩ : XSegment)] : List XSegment))]⟩ := by
 intro f
 induction f with
 | zero => intro h; rfl
 | succ f ih =>
  refine C3 ⟨?_,?_,?_,?_,?_,?_,?_,?_,?_,?_,trivial⟩
  ·intro h; cases h
  ·intro h; cases h
  ·intro h; cases h
  ·intro h; cases h
  ·intro h; cases h
  ·intro h; cases h
  ·intro h; cases h
  ·intro h; cases h
  ·intro h; cases h
  ·intro h; cases h
theorem E1w (v18 : List XPoint) (v19 : List XSegment) (r20 : Bool × Xl01Cur) (r23 : Int × Xl01Cur) (hr23 : A5 r20.2 (300 : Int) = some r23) (hg24 : (E1 v19.length ([(⟨(2 : Int),(4 : Int),(IntKind.i64.wrap ((800 : Int) + r23.1)),(15 : Int),false⟩ : XSegment)] : List XSegment).length 40) = true) : ∀ (f : Nat) (b0 : Bool) (b4 : Bool) (b8 : Bool),F2 Try.prog Q5 ⟨[(0,vc (.pb 1099511627776 0)),(2,vc (.pb 2 0)),(3,vc (.pb 3 0)),(59,vc (.pb 3 1)),(60,vc (.undef)),(61,vc (.pb 1099511627776 0)),(62,vc (aI r23.1)),(63,vc (aI (IntKind.i64.wrap ((800 : Int) + r23.1)))),(64,va [aI (2 : Int),aI (4 : Int),aI (IntKind.i64.wrap ((800 : Int) + r23.1)),aI (15 : Int),aB false]),(65,vc (.own 4160)),(66,vc (.own 2240)),(67,vc (.pb 3 1))],[(1099511627776,[aL (List.map r8 r23.2.b),aI r23.2.i,aI r23.2.h]),(2,[.nil,.nil]),(3,[.own 640,.own 2240])],[(640,2,List.map XPoint.row (v18 ++ ([(⟨([100,111,99,107] : List UInt8),true⟩ : XPoint)] : List XPoint))),(2240,5,List.map XSegment.row (v19 ++ ([(⟨(2 : Int),(4 : Int),(IntKind.i64.wrap ((800 : Int) + r23.1)),(15 : Int),false⟩ : XSegment)] : List XSegment))),(4160,5,List.map XSegment.row ([(⟨(2 : Int),(4 : Int),(IntKind.i64.wrap ((800 : Int) + r23.1)),(15 : Int),false⟩ : XSegment)] : List XSegment))]⟩ f [b0,true,true,true,b4,true,true,true,b8,false] ⟨[(0,vc (.pb 1099511627776 0)),(2,vc (.pb 2 0)),(3,vc (.pb 3 0)),(59,bif b0 then vc (.pb 3 1) else .undef),(60,vc (.undef)),(61,vc (.pb 1099511627776 0)),(62,vc (aI r23.1)),(63,bif b4 then vc (aI (IntKind.i64.wrap ((800 : Int) + r23.1))) else .undef),(64,va [aI (2 : Int),aI (4 : Int),aI (IntKind.i64.wrap ((800 : Int) + r23.1)),aI (15 : Int),aB false]),(65,vc (.own 4160)),(66,vc (.own 2240)),(67,bif b8 then vc (.pb 3 1) else .undef)],[(1099511627776,[aL (List.map r8 r23.2.b),aI r23.2.i,aI r23.2.h]),(2,[.nil,.nil]),(3,[.own 640,.undef])],[(640,2,List.map XPoint.row (v18 ++ ([(⟨([100,111,99,107] : List UInt8),true⟩ : XPoint)] : List XPoint))),(2240,5,List.map XSegment.row (v19 ++ ([(⟨(2 : Int),(4 : Int),(IntKind.i64.wrap ((800 : Int) + r23.1)),(15 : Int),false⟩ : XSegment)] : List XSegment))),(4160,5,List.map XSegment.row ([(⟨(2 : Int),(4 : Int),(IntKind.i64.wrap ((800 : Int) + r23.1)),(15 : Int),false⟩ : XSegment)] : List XSegment))]⟩ := by
 intro f
 induction f with
 | zero => intro b0 b4 b8 h; simp at h
 | succ f ih =>
  intro b0 b4 b8
  refine C3 ⟨?_,?_,?_,?_,?_,?_,?_,?_,?_,?_,trivial⟩
  ·intro h0 hw
   obtain rfl : b0 = false := Option.some.inj h0
   refine ⟨[],[],rfl,rfl,?_⟩
   simp only [List.nil_append,List.cons_append]
   try simp only [A1,ua,ub,uc,ud,ue,RR]
   exact ih true b4 b8
  ·intro h; cases h
  ·intro h; cases h
  ·intro h; cases h
  ·intro h0 hw
   obtain rfl : b4 = false := Option.some.inj h0
   refine ⟨[],[],rfl,rfl,?_⟩
   simp only [List.nil_append,List.cons_append]
   try simp only [A1,ua,ub,uc,ud,ue,RR]
   exact ih b0 true b8
  ·intro h; cases h
  ·intro h; cases h
  ·intro h; cases h
  ·intro h0 hw
   obtain rfl : b8 = false := Option.some.inj h0
   obtain rfl : b0 = true := Option.some.inj (hw 0 (by simp))
   obtain rfl : b4 = true := Option.some.inj (hw 4 (by simp))
   refine ⟨[],[],rfl,rfl,?_⟩
   simp only [List.nil_append,List.cons_append]
   try simp only [A1,ua,ub,uc,ud,ue,RR]
   exact ih true true true
  ·intro h0 hw
   obtain rfl : b0 = true := Option.some.inj (hw 0 (by simp))
   obtain rfl : b4 = true := Option.some.inj (hw 4 (by simp))
   obtain rfl : b8 = true := Option.some.inj (hw 8 (by simp))
   refine ⟨[],[],rfl,rfl,?_⟩
   simp only [List.nil_append,List.cons_append]
   try simp only [A1,ua,ub,uc,ud,ue,RR]
   exact E13 v18 v19 r20 r23 hr23 hg24 _
theorem E29 (v18 : List XPoint) (v19 : List XSegment) (r20 : Bool × Xl01Cur) (r23 : Int × Xl01Cur) (hr23 : A5 r20.2 (300 : Int) = some r23) (hg24 : (E1 v19.length ([(⟨(2 : Int),(4 : Int),(IntKind.i64.wrap ((800 : Int) + r23.1)),(15 : Int),false⟩ : XSegment)] : List XSegment).length 40) = true) : ∀ (f : Nat) (b0 : Bool) (b1 : Bool) (b4 : Bool),F2 Try.prog Q5 ⟨[(0,vc (.pb 1099511627776 0)),(2,vc (.pb 2 0)),(3,vc (.pb 3 0)),(59,vc (.pb 3 1)),(60,vc (.undef)),(61,vc (.pb 1099511627776 0)),(62,vc (aI r23.1)),(63,vc (aI (IntKind.i64.wrap ((800 : Int) + r23.1)))),(64,va [aI (2 : Int),aI (4 : Int),aI (IntKind.i64.wrap ((800 : Int) + r23.1)),aI (15 : Int),aB false]),(65,vc (.own 4160)),(66,vc (.own 2240)),(67,vc (.pb 3 1))],[(1099511627776,[aL (List.map r8 r23.2.b),aI r23.2.i,aI r23.2.h]),(2,[.nil,.nil]),(3,[.own 640,.own 2240])],[(640,2,List.map XPoint.row (v18 ++ ([(⟨([100,111,99,107] : List UInt8),true⟩ : XPoint)] : List XPoint))),(2240,5,List.map XSegment.row (v19 ++ ([(⟨(2 : Int),(4 : Int),(IntKind.i64.wrap ((800 : Int) + r23.1)),(15 : Int),false⟩ : XSegment)] : List XSegment))),(4160,5,List.map XSegment.row ([(⟨(2 : Int),(4 : Int),(IntKind.i64.wrap ((800 : Int) + r23.1)),(15 : Int),false⟩ : XSegment)] : List XSegment))]⟩ f [b0,b1,true,true,b4,true,true,false,false,false] ⟨[(0,vc (.pb 1099511627776 0)),(2,vc (.pb 2 0)),(3,vc (.pb 3 0)),(59,bif b0 then vc (.pb 3 1) else .undef),(60,bif b1 then vc (.own 2240) else .undef),(61,vc (.pb 1099511627776 0)),(62,vc (aI r23.1)),(63,bif b4 then vc (aI (IntKind.i64.wrap ((800 : Int) + r23.1))) else .undef),(64,va [aI (2 : Int),aI (4 : Int),aI (IntKind.i64.wrap ((800 : Int) + r23.1)),aI (15 : Int),aB false]),(65,vc (.own 4160)),(66,.undef),(67,.undef)],[(1099511627776,[aL (List.map r8 r23.2.b),aI r23.2.i,aI r23.2.h]),(2,[.nil,.nil]),(3,[.own 640,.own 2240])],[(640,2,List.map XPoint.row (v18 ++ ([(⟨([100,111,99,107] : List UInt8),true⟩ : XPoint)] : List XPoint))),(2240,5,List.map XSegment.row v19),(4160,5,List.map XSegment.row ([(⟨(2 : Int),(4 : Int),(IntKind.i64.wrap ((800 : Int) + r23.1)),(15 : Int),false⟩ : XSegment)] : List XSegment))]⟩ := by
 intro f
 induction f with
 | zero => intro b0 b1 b4 h; simp at h
 | succ f ih =>
  intro b0 b1 b4
  refine C3 ⟨?_,?_,?_,?_,?_,?_,?_,?_,?_,?_,trivial⟩
  ·intro h0 hw
   obtain rfl : b0 = false := Option.some.inj h0
   refine ⟨[],[],rfl,rfl,?_⟩
   simp only [List.nil_append,List.cons_append]
   try simp only [A1,ua,ub,uc,ud,ue,RR]
   exact ih true b1 b4
  ·intro h0 hw
   obtain rfl : b1 = false := Option.some.inj h0
   obtain rfl : b0 = true := Option.some.inj (hw 0 (by simp))
   refine ⟨[],[],rfl,rfl,?_⟩
   simp only [List.nil_append,List.cons_append]
   try simp only [A1,ua,ub,uc,ud,ue,RR]
   exact ih true true b4
  ·intro h; cases h
  ·intro h; cases h
  ·intro h0 hw
   obtain rfl : b4 = false := Option.some.inj h0
   refine ⟨[],[],rfl,rfl,?_⟩
   simp only [List.nil_append,List.cons_append]
   try simp only [A1,ua,ub,uc,ud,ue,RR]
   exact ih b0 b1 true
  ·intro h; cases h
  ·intro h; cases h
  ·intro h0 hw
   obtain rfl : b1 = true := Option.some.inj (hw 1 (by simp))
   refine ⟨[],[],rfl,rfl,?_⟩
   simp only [List.nil_append,List.cons_append]
   try simp only [hg24,A1,ua,ub,uc,ud,ue,RR]
   exact E1w v18 v19 r20 r23 hr23 hg24 _ b0 b4 false
  ·intro _ hw; have := hw 7 (by simp); cases this
  ·intro _ hw; have := hw 8 (by simp); cases this
theorem E16 (v18 : List XPoint) (v19 : List XSegment) (r20 : Bool × Xl01Cur) (r23 : Int × Xl01Cur) (hr23 : A5 r20.2 (300 : Int) = some r23) (hg24 : (E1 v19.length ([(⟨(2 : Int),(4 : Int),(IntKind.i64.wrap ((800 : Int) + r23.1)),(15 : Int),false⟩ : XSegment)] : List XSegment).length 40) = true) : ∀ (f : Nat) (b0 : Bool) (b1 : Bool) (b4 : Bool) (b5 : Bool),F2 Try.prog Q5 ⟨[(0,vc (.pb 1099511627776 0)),(2,vc (.pb 2 0)),(3,vc (.pb 3 0)),(59,vc (.pb 3 1)),(60,vc (.undef)),(61,vc (.pb 1099511627776 0)),(62,vc (aI r23.1)),(63,vc (aI (IntKind.i64.wrap ((800 : Int) + r23.1)))),(64,va [aI (2 : Int),aI (4 : Int),aI (IntKind.i64.wrap ((800 : Int) + r23.1)),aI (15 : Int),aB false]),(65,vc (.own 4160)),(66,vc (.own 2240)),(67,vc (.pb 3 1))],[(1099511627776,[aL (List.map r8 r23.2.b),aI r23.2.i,aI r23.2.h]),(2,[.nil,.nil]),(3,[.own 640,.own 2240])],[(640,2,List.map XPoint.row (v18 ++ ([(⟨([100,111,99,107] : List UInt8),true⟩ : XPoint)] : List XPoint))),(2240,5,List.map XSegment.row (v19 ++ ([(⟨(2 : Int),(4 : Int),(IntKind.i64.wrap ((800 : Int) + r23.1)),(15 : Int),false⟩ : XSegment)] : List XSegment))),(4160,5,List.map XSegment.row ([(⟨(2 : Int),(4 : Int),(IntKind.i64.wrap ((800 : Int) + r23.1)),(15 : Int),false⟩ : XSegment)] : List XSegment))]⟩ f [b0,b1,true,true,b4,b5,false,false,false,false] ⟨[(0,vc (.pb 1099511627776 0)),(2,vc (.pb 2 0)),(3,vc (.pb 3 0)),(59,bif b0 then vc (.pb 3 1) else .undef),(60,bif b1 then vc (.own 2240) else .undef),(61,vc (.pb 1099511627776 0)),(62,vc (aI r23.1)),(63,bif b4 then vc (aI (IntKind.i64.wrap ((800 : Int) + r23.1))) else .undef),(64,bif b5 then va [aI (2 : Int),aI (4 : Int),aI (IntKind.i64.wrap ((800 : Int) + r23.1)),aI (15 : Int),aB false] else .undef),(65,.undef),(66,.undef),(67,.undef)],[(1099511627776,[aL (List.map r8 r23.2.b),aI r23.2.i,aI r23.2.h]),(2,[.nil,.nil]),(3,[.own 640,.own 2240])],[(640,2,List.map XPoint.row (v18 ++ ([(⟨([100,111,99,107] : List UInt8),true⟩ : XPoint)] : List XPoint))),(2240,5,List.map XSegment.row v19)]⟩ := by
 intro f
 induction f with
 | zero => intro b0 b1 b4 b5 h; simp at h
 | succ f ih =>
  intro b0 b1 b4 b5
  refine C3 ⟨?_,?_,?_,?_,?_,?_,?_,?_,?_,?_,trivial⟩
  ·intro h0 hw
   obtain rfl : b0 = false := Option.some.inj h0
   refine ⟨[],[],rfl,rfl,?_⟩
   simp only [List.nil_append,List.cons_append]
   try simp only [A1,ua,ub,uc,ud,ue,RR]
   exact ih true b1 b4 b5
  ·intro h0 hw
   obtain rfl : b1 = false := Option.some.inj h0
   obtain rfl : b0 = true := Option.some.inj (hw 0 (by simp))
   refine ⟨[],[],rfl,rfl,?_⟩
   simp only [List.nil_append,List.cons_append]
   try simp only [A1,ua,ub,uc,ud,ue,RR]
   exact ih true true b4 b5
  ·intro h; cases h
  ·intro h; cases h
  ·intro h0 hw
   obtain rfl : b4 = false := Option.some.inj h0
   refine ⟨[],[],rfl,rfl,?_⟩
   simp only [List.nil_append,List.cons_append]
   try simp only [A1,ua,ub,uc,ud,ue,RR]
   exact ih b0 b1 true b5
  ·intro h0 hw
   obtain rfl : b5 = false := Option.some.inj h0
   obtain rfl : b4 = true := Option.some.inj (hw 4 (by simp))
   refine ⟨[],[],rfl,rfl,?_⟩
   simp only [List.nil_append,List.cons_append]
   try simp only [A1,ua,ub,uc,ud,ue,RR]
   exact ih b0 b1 true true
  ·intro h0 hw
   obtain rfl : b5 = true := Option.some.inj (hw 5 (by simp))
   refine ⟨[],[],rfl,rfl,?_⟩
   simp only [List.nil_append,List.cons_append]
   try simp only [A1,ua,ub,uc,ud,ue,RR]
   refine E8 (es := List.map XSegment.row ([(⟨(2 : Int),(4 : Int),(IntKind.i64.wrap ((800 : Int) + r23.1)),(15 : Int),false⟩ : XSegment)] : List XSegment)) rfl (by simp only [St.fresh,List.all_cons,List.all_nil,A1h]; simp [AV.cells,V1.cells,AC.uses]) ?_
   try simp only [A1,ua,ub,uc,ud,ue,RR]
   exact E29 v18 v19 r20 r23 hr23 hg24 _ b0 b1 b4
  ·intro _ hw; have := hw 6 (by simp); cases this
  ·intro _ hw; have := hw 6 (by simp); cases this
  ·intro _ hw; have := hw 8 (by simp); cases this
theorem E2w (v18 : List XPoint) (v19 : List XSegment) (r20 : Bool × Xl01Cur) (r23 : Int × Xl01Cur) (hr23 : A5 r20.2 (300 : Int) = some r23) (hg24 : (E1 v19.length ([(⟨(2 : Int),(4 : Int),(IntKind.i64.wrap ((800 : Int) + r23.1)),(15 : Int),false⟩ : XSegment)] : List XSegment).length 40) = true) : ∀ (f : Nat) (b0 : Bool) (b1 : Bool) (b2 : Bool),F2 Try.prog Q5 ⟨[(0,vc (.pb 1099511627776 0)),(2,vc (.pb 2 0)),(3,vc (.pb 3 0)),(59,vc (.pb 3 1)),(60,vc (.undef)),(61,vc (.pb 1099511627776 0)),(62,vc (aI r23.1)),(63,vc (aI (IntKind.i64.wrap ((800 : Int) + r23.1)))),(64,va [aI (2 : Int),aI (4 : Int),aI (IntKind.i64.wrap ((800 : Int) + r23.1)),aI (15 : Int),aB false]),(65,vc (.own 4160)),(66,vc (.own 2240)),(67,vc (.pb 3 1))],[(1099511627776,[aL (List.map r8 r23.2.b),aI r23.2.i,aI r23.2.h]),(2,[.nil,.nil]),(3,[.own 640,.own 2240])],[(640,2,List.map XPoint.row (v18 ++ ([(⟨([100,111,99,107] : List UInt8),true⟩ : XPoint)] : List XPoint))),(2240,5,List.map XSegment.row (v19 ++ ([(⟨(2 : Int),(4 : Int),(IntKind.i64.wrap ((800 : Int) + r23.1)),(15 : Int),false⟩ : XSegment)] : List XSegment))),(4160,5,List.map XSegment.row ([(⟨(2 : Int),(4 : Int),(IntKind.i64.wrap ((800 : Int) + r23.1)),(15 : Int),false⟩ : XSegment)] : List XSegment))]⟩ f [b0,b1,b2,false,false,false,false,false,false,false] ⟨[(0,vc (.pb 1099511627776 0)),(2,vc (.pb 2 0)),(3,vc (.pb 3 0)),(59,bif b0 then vc (.pb 3 1) else .undef),(60,bif b1 then vc (.own 2240) else .undef),(61,bif b2 then vc (.pb 1099511627776 0) else .undef),(62,.undef),(63,.undef),(64,.undef),(65,.undef),(66,.undef),(67,.undef)],[(1099511627776,[aL (List.map r8 r20.2.b),aI r20.2.i,aI r20.2.h]),(2,[.nil,.nil]),(3,[.own 640,.own 2240])],[(640,2,List.map XPoint.row (v18 ++ ([(⟨([100,111,99,107] : List UInt8),true⟩ : XPoint)] : List XPoint))),(2240,5,List.map XSegment.row v19)]⟩ := by
 intro f
 induction f with
 | zero => intro b0 b1 b2 h; simp at h
 | succ f ih =>
  intro b0 b1 b2
  refine C3 ⟨?_,?_,?_,?_,?_,?_,?_,?_,?_,?_,trivial⟩
  ·intro h0 hw
   obtain rfl : b0 = false := Option.some.inj h0
   refine ⟨[],[],rfl,rfl,?_⟩
   simp only [List.nil_append,List.cons_append]
   try simp only [A1,ua,ub,uc,ud,ue,RR]
   exact ih true b1 b2
  ·intro h0 hw
   obtain rfl : b1 = false := Option.some.inj h0
   obtain rfl : b0 = true := Option.some.inj (hw 0 (by simp))
   refine ⟨[],[],rfl,rfl,?_⟩
   simp only [List.nil_append,List.cons_append]
   try simp only [A1,ua,ub,uc,ud,ue,RR]
   exact ih true true b2
  ·intro h0 hw
   obtain rfl : b2 = false := Option.some.inj h0
   refine ⟨[],[],rfl,rfl,?_⟩
   simp only [List.nil_append,List.cons_append]
   try simp only [A1,ua,ub,uc,ud,ue,RR]
   exact ih b0 b1 true
  ·intro h0 hw
   obtain rfl : b2 = true := Option.some.inj (hw 2 (by simp))
   refine ⟨[],[],rfl,rfl,?_⟩
   simp only [List.nil_append,List.cons_append]
   try simp only [A1,ua,ub,uc,ud,ue,RR]
   refine B2 (B0 _ _ _ hr23) 1099511627776 rfl rfl rfl ?_
   try simp only [A1,ua,ub,uc,ud,ue,RR]
   exact E16 v18 v19 r20 r23 hr23 hg24 _ b0 b1 false false
  ·intro _ hw; have := hw 3 (by simp); cases this
  ·intro _ hw; have := hw 4 (by simp); cases this
  ·intro _ hw; have := hw 5 (by simp); cases this
  ·intro _ hw; have := hw 6 (by simp); cases this
  ·intro _ hw; have := hw 3 (by simp); cases this
  ·intro _ hw; have := hw 8 (by simp); cases this
theorem D4w (v15 : List Int) (v16 : Int) (v17 : Int) (v18 : List XPoint) (v19 : List XSegment) (r : XChart × Xl01Cur) (h : S7 v15 v16 v17 v18 v19 = some r) (σ : St) (hσ : σ.kept [0,2,3] [1099511627776,2,3] [640,2240] = ⟨[(0,vc (.pb 1099511627776 0)),(2,vc (.pb 2 0)),(3,vc (.pb 3 0))],[(1099511627776,[aL (List.map r8 v15),aI v16,aI v17]),(2,[.nil,.nil]),(3,[.own 640,.own 2240])],[(640,2,List.map XPoint.row v18),(2240,5,List.map XSegment.row v19)]⟩) : go Try.prog (.code C67 :: []) (A8d [.c 2 true 2] [.ag [.v (.sl (List.map XPoint.row r.1.Points)),.v (.sl (List.map XSegment.row r.1.Segments))]] [.sl (List.map r8 r.2.b),.int .i64 r.2.i,.int .i64 r.2.h]) .normal (some σ) := by
 unfold S7 at h
 obtain ⟨r20,hr20,h⟩ := ob h
 try simp only [hσ,C67,ua,ub,uc,ud,ue,RR]
 refine B2 (S2 _ _ _ hr20) 1099511627776 rfl rfl rfl ?_
 rcases ug r20.1 with hb21 | hb21
 ·rw [A4 hb21] at h
  try simp only [hb21,ua,ub,uc,ud,ue,RR]
  refine E8 (es := List.map XPoint.row ([(⟨([100,111,99,107] : List UInt8),true⟩ : XPoint)] : List XPoint)) rfl rfl ?_
  obtain ⟨hg22,h⟩ := E3 h
  try simp only [hb21,hg22,ua,ub,uc,ud,ue,RR]
  obtain ⟨r23,hr23,h⟩ := ob h
  obtain ⟨hg24,h⟩ := E3 h
  refine A3a (ks := [0,2,3]) (bs := [1099511627776,2,3]) (rs := [640,2240]) (τ := ⟨[(0,vc (.pb 1099511627776 0)),(2,vc (.pb 2 0)),(3,vc (.pb 3 0)),(59,vc (.pb 3 1)),(60,vc (.undef)),(61,vc (.pb 1099511627776 0)),(62,vc (aI r23.1)),(63,vc (aI (IntKind.i64.wrap ((800 : Int) + r23.1)))),(64,va [aI (2 : Int),aI (4 : Int),aI (IntKind.i64.wrap ((800 : Int) + r23.1)),aI (15 : Int),aB false]),(65,vc (.own 4160)),(66,vc (.own 2240)),(67,vc (.pb 3 1))],[(1099511627776,[aL (List.map r8 r23.2.b),aI r23.2.i,aI r23.2.h]),(2,[.nil,.nil]),(3,[.own 640,.own 2240])],[(640,2,List.map XPoint.row (v18 ++ ([(⟨([100,111,99,107] : List UInt8),true⟩ : XPoint)] : List XPoint))),(2240,5,List.map XSegment.row (v19 ++ ([(⟨(2 : Int),(4 : Int),(IntKind.i64.wrap ((800 : Int) + r23.1)),(15 : Int),false⟩ : XSegment)] : List XSegment))),(4160,5,List.map XSegment.row ([(⟨(2 : Int),(4 : Int),(IntKind.i64.wrap ((800 : Int) + r23.1)),(15 : Int),false⟩ : XSegment)] : List XSegment))]⟩) rfl (E2w v18 v19 r20 r23 hr23 hg24 _ false false false) ?_
  try simp only [hb21,hg22,hg24,ua,ub,uc,ud,ue,RR]
  refine U3 rfl ?_
  try simp only [hb21,hg22,hg24,ua,ub,uc,ud,ue,RR]
  refine U3 rfl ?_
  try simp only [hb21,hg22,hg24,ua,ub,uc,ud,ue,RR]
  cases h
  try simp only [T8,ua,ub,uc,ud,ue,RR]
  exact ⟨⟨⟨rfl,rfl,trivial⟩,trivial⟩,rfl⟩
 ·rw [A3 hb21] at h
  try simp only [hb21,ua,ub,uc,ud,ue,RR]
  refine U3 rfl ?_
  try simp only [hb21,ua,ub,uc,ud,ue,RR]
  refine U3 rfl ?_
  try simp only [hb21,ua,ub,uc,ud,ue,RR]
  cases h
  try simp only [T8,ua,ub,uc,ud,ue,RR]
  exact ⟨⟨⟨rfl,rfl,trivial⟩,trivial⟩,rfl⟩
theorem E28 : A9 Try.prog 34 = some (cc37.strip,[.c 2 true 2],69) := by kernel_rfl
theorem B25 (a0 : Xl01Cur) (r : XChart × Xl01Cur) (h : A0y a0 = some r) : FCy Try.prog 34 [.p] [.sl (List.map r8 a0.b),.int .i64 a0.i,.int .i64 a0.h] [.sl (List.map r8 r.2.b),.int .i64 r.2.i,.int .i64 r.2.h] [.ag [.v (.sl (List.map XPoint.row r.1.Points)),.v (.sl (List.map XSegment.row r.1.Segments))]] := by
 unfold A0y at h
 refine A0b (σ := ⟨[(0,vc (.pb 1099511627776 0))],[(1099511627776,[aL (List.map r8 a0.b),aI a0.i,aI a0.h])],[]⟩) B3 E28 rfl rfl ?_
 simp only [cc37]
 try simp only [ua,ub,uc,ud,ue,RR]
 refine D2 rfl rfl ?_
 obtain ⟨r1,hr1,h⟩ := ob h
 try simp only [ua,ub,uc,ud,ue,RR]
 refine B2 (S2 _ _ _ hr1) 1099511627776 rfl rfl rfl ?_
 try simp only [ua,ub,uc,ud,ue,RR]
 refine E8 (es := List.map XPoint.row ([(⟨([115,101,97] : List UInt8),true⟩ : XPoint),(⟨([98,97,114] : List UInt8),false⟩ : XPoint),(⟨([114,111,97,100] : List UInt8),r1.1⟩ : XPoint),(⟨([113,117,97,121] : List UInt8),true⟩ : XPoint)] : List XPoint)) rfl rfl ?_
 try simp only [ua,ub,uc,ud,ue,RR]
 refine D2 rfl rfl ?_
 obtain ⟨r2,hr2,h⟩ := ob h
 try simp only [ua,ub,uc,ud,ue,RR]
 refine B2 (B0 _ _ _ hr2) 1099511627776 rfl rfl rfl ?_
 obtain ⟨r3,hr3,h⟩ := ob h
 try simp only [ua,ub,uc,ud,ue,RR]
 refine B2 (B0 _ _ _ hr3) 1099511627776 rfl rfl rfl ?_
 obtain ⟨r4,hr4,h⟩ := ob h
 try simp only [ua,ub,uc,ud,ue,RR]
 refine B2 (B0 _ _ _ hr4) 1099511627776 rfl rfl rfl ?_
 obtain ⟨r5,hr5,h⟩ := ob h
 try simp only [ua,ub,uc,ud,ue,RR]
 refine B2 (B0 _ _ _ hr5) 1099511627776 rfl rfl rfl ?_
 obtain ⟨r6,hr6,h⟩ := ob h
 try simp only [ua,ub,uc,ud,ue,RR]
 refine B2 (S2 _ _ _ hr6) 1099511627776 rfl rfl rfl ?_
 obtain ⟨r7,hr7,h⟩ := ob h
 try simp only [ua,ub,uc,ud,ue,RR]
 refine B2 (B0 _ _ _ hr7) 1099511627776 rfl rfl rfl ?_
 obtain ⟨r9,hr9,h⟩ := ob h
 try simp only [ua,ub,uc,ud,ue,RR]
 refine B2 (B0 _ _ _ hr9) 1099511627776 rfl rfl rfl ?_
 try simp only [ua,ub,uc,ud,ue,RR]
 refine E8 (es := List.map XSegment.row ([(⟨(0 : Int),(1 : Int),(IntKind.i64.wrap ((900 : Int) + r2.1)),(IntKind.i64.wrap ((10 : Int) + r3.1)),false⟩ : XSegment),(⟨(1 : Int),(2 : Int),(IntKind.i64.wrap ((800 : Int) + r4.1)),(IntKind.i64.wrap ((10 : Int) + r5.1)),r6.1⟩ : XSegment),(⟨(2 : Int),(3 : Int),(IntKind.i64.wrap ((900 : Int) + r7.1)),(IntKind.i64.wrap ((5 : Int) + r9.1)),false⟩ : XSegment)] : List XSegment)) rfl rfl ?_
 obtain ⟨r10,hr10,h⟩ := ob h
 try simp only [ua,ub,uc,ud,ue,RR]
 refine B2 (S2 _ _ _ hr10) 1099511627776 rfl rfl rfl ?_
 rcases ug r10.1 with hb11 | hb11
 ·rw [A4 hb11] at h
  try simp only [hb11,ua,ub,uc,ud,ue,RR]
  obtain ⟨r12,hr12,h⟩ := ob h
  obtain ⟨r13,hr13,h⟩ := ob h
  obtain ⟨hg14,h⟩ := E3 h
  refine A3a (ks := [0,2,3]) (bs := [1099511627776,2,3]) (rs := [640,2240]) (τ := ⟨[(0,vc (.pb 1099511627776 0)),(2,vc (.pb 2 0)),(3,vc (.pb 3 0)),(39,vc (.pb 3 1)),(40,vc (.undef)),(41,vc (.pb 1099511627776 0)),(42,vc (aI r12.1)),(43,vc (aI (IntKind.i64.wrap ((700 : Int) + r12.1)))),(44,vc (.pb 1099511627776 0)),(45,vc (aI r13.1)),(46,vc (aI (IntKind.i64.wrap ((20 : Int) + r13.1)))),(47,va [aI (3 : Int),aI (1 : Int),aI (IntKind.i64.wrap ((700 : Int) + r12.1)),aI (IntKind.i64.wrap ((20 : Int) + r13.1)),aB true]),(48,vc (.own 3072)),(49,vc (.own 2240)),(50,vc (.pb 3 1))],[(1099511627776,[aL (List.map r8 r13.2.b),aI r13.2.i,aI r13.2.h]),(2,[.nil,.nil]),(3,[.own 640,.own 2240])],[(640,2,List.map XPoint.row ([(⟨([115,101,97] : List UInt8),true⟩ : XPoint),(⟨([98,97,114] : List UInt8),false⟩ : XPoint),(⟨([114,111,97,100] : List UInt8),r1.1⟩ : XPoint),(⟨([113,117,97,121] : List UInt8),true⟩ : XPoint)] : List XPoint)),(2240,5,List.map XSegment.row (([(⟨(0 : Int),(1 : Int),(IntKind.i64.wrap ((900 : Int) + r2.1)),(IntKind.i64.wrap ((10 : Int) + r3.1)),false⟩ : XSegment),(⟨(1 : Int),(2 : Int),(IntKind.i64.wrap ((800 : Int) + r4.1)),(IntKind.i64.wrap ((10 : Int) + r5.1)),r6.1⟩ : XSegment),(⟨(2 : Int),(3 : Int),(IntKind.i64.wrap ((900 : Int) + r7.1)),(IntKind.i64.wrap ((5 : Int) + r9.1)),false⟩ : XSegment)] : List XSegment) ++ ([(⟨(3 : Int),(1 : Int),(IntKind.i64.wrap ((700 : Int) + r12.1)),(IntKind.i64.wrap ((20 : Int) + r13.1)),true⟩ : XSegment)] : List XSegment))),(3072,5,List.map XSegment.row ([(⟨(3 : Int),(1 : Int),(IntKind.i64.wrap ((700 : Int) + r12.1)),(IntKind.i64.wrap ((20 : Int) + r13.1)),true⟩ : XSegment)] : List XSegment))]⟩) rfl (E2j r1 r2 r3 r4 r5 r6 r7 r9 r10 r12 r13 hr12 hr13 hg14 _ false false false false) ?_
  try simp only [hb11,hg14,ua,ub,uc,ud,ue,RR]
  refine D4w _ _ _ _ _ _ h _ ?_
  try simp only [hb11,hg14,ua,ub,uc,ud,ue,RR,List.map_nil]
 ·rw [A3 hb11] at h
  try simp only [hb11,ua,ub,uc,ud,ue,RR]
  refine D4w _ _ _ _ _ _ h _ ?_
  try simp only [hb11,ua,ub,uc,ud,ue,RR,List.map_nil]
/- 80: spec_FormatInt -/
def C2j : ACode := .seq (.reg [(none,.keep [0,3] [] [])]) (.seq (.seq (.reg [mv 25 0,(none,.bin 26 .gtr (S 25) (K 9))]) (.cond (S 26) .skip (.exit 0))) (.block 1 (.seq (.reg [mv 27 0,(none,.bin 28 .rem (S 27) (K 10)),(none,.bin 29 .add (K 48) (S 28)),(none,.conv 30 .u8 (S 29)),(none,.bslice 31 1 [.int .u8 0] 1 [(0,(S 30))]),(none,.sconv 32 (S 31)),mv 33 3,bn 34 .add 32 33,mv 3 34]) (.reg [mv 35 0,(none,.bin 36 .quo (S 35) (K 10)),mv 0 36]))))
def C8a : ACode := (.seq (.reg [mv 37 0,(none,.bin 38 .add (K 48) (S 37)),(none,.conv 39 .u8 (S 38)),(none,.bslice 40 1 [.int .u8 0] 1 [(0,(S 39))]),(none,.sconv 41 (S 40)),mv 42 3,bn 43 .add 41 42,mv 2 43]) .ret)
def cc53 : ACode := (.seq (.reg [(none,.mv 2 (KS []))]) (.seq (.seq (.reg [mv 4 0,(none,.bin 5 .lss (S 4) (K 0))]) (.cond (S 5) (.seq (.seq (.reg [mv 6 0,(none,.bin 7 .quo (S 6) (K 10)),(none,.bin 8 .eql (S 7) (K 0))]) (.cond (S 8) (.seq (.reg [mv 9 0,(none,.bin 10 .sub (K 48) (S 9)),(none,.conv 11 .u8 (S 10)),(none,.bslice 12 1 [.int .u8 0] 1 [(0,(S 11))]),(none,.sconv 13 (S 12)),(none,.bin 14 .add (KS [45]) (S 13)),mv 2 14]) .ret) .skip)) (.seq (.drw [(some [22],mv 15 0),(some [22],(none,.bin 16 .quo (S 15) (K 10))),(some [22],(none,.call 17 80 [(S 16)])),(some [17],mv 18 0),(some [17],(none,.bin 19 .rem (S 18) (K 10))),(some [17],(none,.bin 20 .sub (K 48) (S 19))),(some [17],(none,.conv 21 .u8 (S 20))),(some [17],(none,.bslice 22 1 [.int .u8 0] 1 [(0,(S 21))])),(some [17],(none,.sconv 23 (S 22))),(some [],bn 24 .add 17 23),(some [],mv 2 24)]) .ret)) .skip)) (.seq (.reg [(none,.mv 3 (KS []))]) (.seq (.block 0 (.loop C2j)) C8a))))
theorem E1q (rec_ : Int → Option (List UInt8)) (h_rec : ∀ (a0 : Int) zr,rec_ a0 = some zr → FC Try.prog 80 [.sc (.int .i64 a0)] [.sc (.v (.str zr))]) : ∀ (n : Nat) (v6 : Int) (v7 : List UInt8) (r : (List UInt8)),A0c rec_ n v6 v7 = some r → ∀ σ : St,σ.kept [0,3] [] [] = ⟨[(0,vc (aI v6)),(3,vc (aS v7))],[],[]⟩ → go Try.prog (.code (.loop C2j) :: [.blk 0,.code C8a]) (Ret [2] [.sc (.v (.str r))]) .normal (some σ) := by
 intro n
 induction n with
 | zero => intro _ _ r h; cases h
 | succ n ih =>
  intro v6 v7 r h σ hσ
  rw [A0c] at h
  refine B8 ?_
  rcases ug (decide ((9 : Int) < v6)) with hb8 | hb8
  ·rw [A4 hb8] at h
   try simp only [hσ,hb8,C2j,ua,ub,uc,ud,ue,RR]
   refine E8 (es := List.map r8 ([(IntKind.u8.wrap (IntKind.i64.wrap ((48 : Int) + (IntKind.i64.wrap (Int.tmod v6 (10 : Int))))))] : List Int)) rfl rfl ?_
   obtain ⟨hg9,h⟩ := E3 h
   try simp only [hb8,hg9,ua,ub,uc,ud,ue,RR]
   refine ih _ _ _ h _ ?_
   try simp only [hb8,hg9,ua,ub,uc,ud,ue,RR,List.map_nil]
  ·rw [A3 hb8] at h
   try simp only [hσ,hb8,C2j,C8a,ua,ub,uc,ud,ue,RR]
   refine E8 (es := List.map r8 ([(IntKind.u8.wrap (IntKind.i64.wrap ((48 : Int) + v6)))] : List Int)) rfl rfl ?_
   obtain ⟨hg10,h⟩ := E3 h
   try simp only [hb8,hg10,ua,ub,uc,ud,ue,RR]
   cases h
   exact ⟨⟨rfl,trivial⟩,rfl⟩
theorem E1t : A9 Try.prog 80 = some (cc53.strip,[2],44) := by kernel_rfl
theorem A78 (rec_ : Int → Option (List UInt8)) (a0 : Int) (r : (List UInt8)) (h_rec : ∀ (a0 : Int) zr,rec_ a0 = some zr → FC Try.prog 80 [.sc (.int .i64 a0)] [.sc (.v (.str zr))]) (h : A1s rec_ a0 = some r) : FC Try.prog 80 [.sc (.int .i64 a0)] [.sc (.v (.str r))] := by
 unfold A1s at h
 refine B9 (σ := ⟨[(0,vc (aI a0))],[],[]⟩) B3 E1t rfl rfl ?_
 simp only [cc53]
 rcases ug (decide (a0 < (0 : Int))) with hb1 | hb1
 ·rw [A4 hb1] at h
  rcases ug ((IntKind.i64.wrap (Int.tdiv a0 (10 : Int))) == (0 : Int)) with hb2 | hb2
  ·rw [A4 hb2] at h
   try simp only [hb1,hb2,ua,ub,uc,ud,ue,RR]
   refine E8 (es := List.map r8 ([(IntKind.u8.wrap (IntKind.i64.wrap ((48 : Int) - a0)))] : List Int)) rfl rfl ?_
   obtain ⟨hg3,h⟩ := E3 h
   try simp only [hb1,hb2,hg3,ua,ub,uc,ud,ue,RR]
   cases h
   exact ⟨⟨rfl,trivial⟩,rfl⟩
  ·rw [A3 hb2] at h
   try simp only [hb1,hb2,ua,ub,uc,ud,ue,RR]
   refine B7 rfl ?_
   obtain ⟨r4,hr4,h⟩ := ob h
   try simp only [hb1,hb2,ua,ub,uc,ud,ue,RR]
   refine D4 (h_rec _ _ hr4) rfl rfl (uf rfl) ?_
   try simp only [hb1,hb2,ua,ub,uc,ud,ue,RR]
   refine D5u (m := .row 22 1 (List.map r8 ([(IntKind.u8.wrap (IntKind.i64.wrap ((48 : Int) - (IntKind.i64.wrap (Int.tmod a0 (10 : Int))))))] : List Int))) rfl rfl (B0f rfl) ?_
   obtain ⟨hg5,h⟩ := E3 h
   try simp only [hb1,hb2,hg5,ua,ub,uc,ud,ue,RR]
   cases h
   exact ⟨⟨rfl,trivial⟩,rfl⟩
 ·rw [A3 hb1] at h
  try simp only [hb1,ua,ub,uc,ud,ue,RR]
  refine E1q rec_ h_rec _ _ _ _ h _ ?_
  try simp only [hb1,ua,ub,uc,ud,ue,RR,List.map_nil]
theorem A8i : ∀ (n : Nat) (a0 : Int) (r : (List UInt8)),T7 n a0 = some r → FC Try.prog 80 [.sc (.int .i64 a0)] [.sc (.v (.str r))] := by
 intro n
 induction n with
 | zero => intro _ r h; cases h
 | succ n ih => intro a0 r h; rw [T7] at h; exact A78 (T7 n) a0 r ih h
theorem B0d (a0 : Int) (r : (List UInt8)) (h : A2t a0 = some r) : FC Try.prog 80 [.sc (.int .i64 a0)] [.sc (.v (.str r))] := A8i bigN a0 r h
/- 63: spec_l06Ship -/
def cc56 : ACode := (.seq (.reg [(none,.alloc 4 [aS [],aI 0,aI 0,aI 0,aI 0,aB false])]) (.seq (.reg [mv 5 1,(none,.call 6 80 [(S 5)]),(none,.bin 7 .add (KS [115]) (S 6)),mv 8 0,(none,.call 9 15 [(S 8),(K 200)]),(none,.bin 10 .add (K 40) (S 9)),mv 11 0,(none,.call 12 15 [(S 11),(K 500)]),(none,.bin 13 .add (K 600) (S 12)),mv 14 0,(none,.call 15 15 [(S 14),(K 4)]),mv 16 0,(none,.call 17 15 [(S 16),(K 3)]),mv 18 0,(none,.call 19 38 [(S 18),(K 4)]),(none,.build 20 [aS [],aI 0,aI 0,aI 0,aI 0,aB false] [(0,1,(S 7)),(1,1,(S 10)),(2,1,(S 13)),(3,1,(S 15)),(4,1,(S 17)),(5,1,(S 19))]),(none,.store (S 4) (S 20) 6)]) .ret))
theorem E2c : A9 Try.prog 63 = some (cc56.strip,[.c 4 true 6],21) := by kernel_rfl
theorem B15 (a0 : Xl01Cur) (a1 : Int) (r : XShip × Xl01Cur) (h : W8 a0 a1 = some r) : FCy Try.prog 63 [.p,.d (.sc (.int .i64 a1))] [.sl (List.map r8 a0.b),.int .i64 a0.i,.int .i64 a0.h] [.sl (List.map r8 r.2.b),.int .i64 r.2.i,.int .i64 r.2.h] [.ag [.v (.str r.1.Name),.v (.int .i64 r.1.Length),.v (.int .i64 r.1.Draught),.v (.int .i64 r.1.Line),.v (.int .i64 r.1.Tugs),.v (.bool r.1.Slow)]] := by
 unfold W8 at h
 refine A0b (σ := ⟨[(0,vc (.pb 1099511627776 0)),(1,vc (aI a1))],[(1099511627776,[aL (List.map r8 a0.b),aI a0.i,aI a0.h])],[]⟩) B3 E2c rfl rfl ?_
 simp only [cc56]
 try simp only [ua,ub,uc,ud,ue,RR]
 refine D2 rfl rfl ?_
 obtain ⟨r1,hr1,h⟩ := ob h
 try simp only [ua,ub,uc,ud,ue,RR]
 refine A6 (B0d _ _ hr1) rfl rfl (uf rfl) ?_
 obtain ⟨hg2,h⟩ := E3 h
 obtain ⟨r3,hr3,h⟩ := ob h
 try simp only [hg2,ua,ub,uc,ud,ue,RR]
 refine B2 (B0 _ _ _ hr3) 1099511627776 rfl rfl rfl ?_
 obtain ⟨r4,hr4,h⟩ := ob h
 try simp only [hg2,ua,ub,uc,ud,ue,RR]
 refine B2 (B0 _ _ _ hr4) 1099511627776 rfl rfl rfl ?_
 obtain ⟨r5,hr5,h⟩ := ob h
 try simp only [hg2,ua,ub,uc,ud,ue,RR]
 refine B2 (B0 _ _ _ hr5) 1099511627776 rfl rfl rfl ?_
 obtain ⟨r6,hr6,h⟩ := ob h
 try simp only [hg2,ua,ub,uc,ud,ue,RR]
 refine B2 (B0 _ _ _ hr6) 1099511627776 rfl rfl rfl ?_
 obtain ⟨r7,hr7,h⟩ := ob h
 try simp only [hg2,ua,ub,uc,ud,ue,RR]
 refine B2 (S2 _ _ _ hr7) 1099511627776 rfl rfl rfl ?_
 try simp only [hg2,ua,ub,uc,ud,ue,RR]
 cases h
 try simp only [T8,ua,ub,uc,ud,ue,RR]
 exact ⟨⟨⟨rfl,rfl,rfl,rfl,rfl,rfl,trivial⟩,trivial⟩,rfl⟩
/- 35: spec_l06Fleet -/
def C1u : ACode := .seq (.reg [(none,.keep [0,5,6] [1099511627776] [448])]) (.seq (.seq (.reg [mv 12 6,(none,.bin 13 .gtr (S 12) (K 0))]) (.cond (S 13) .skip (.exit 0))) (.seq (.block 1 (.reg [mv 16 5,mv 17 0,mv 18 5,(none,.len 19 (S 18)),(none,.call 20 63 [(S 17),(S 19)]),(none,.bslice 21 6 [.str [],.int .i64 0,.int .i64 0,.int .i64 0,.int .i64 0,.bool false] 1 [(0,(S 20))]),(none,.app 22 6 56 (S 16) (S 21)),mv 5 22])) (.reg [mv 14 6,(none,.bin 15 .sub (S 14) (K 1)),mv 6 15])))
def C44 : ACode := (.seq (.reg [mv 23 5,mv 4 23]) .ret)
def cc60 : ACode := (.seq (.reg [(none,.mv 4 KN)]) (.seq (.reg [(none,.bslice 7 6 [.str [],.int .i64 0,.int .i64 0,.int .i64 0,.int .i64 0,.bool false] 0 []),mv 5 7]) (.seq (.seq (.reg [mv 8 0,mv 9 1,(none,.call 10 15 [(S 8),(S 9)]),(none,.bin 11 .add (K 1) (S 10)),mv 6 11]) (.block 0 (.loop C1u))) C44)))
theorem E23 : ∀ (n : Nat) (v2 : Int) (v3 : List Int) (v4 : Int) (v5 : Int) (v6 : List XShip) (r : (List XShip) × Xl01Cur),N0 n v2 v3 v4 v5 v6 = some r → ∀ σ : St,σ.kept [0,5,6] [1099511627776] [448] = ⟨[(0,vc (.pb 1099511627776 0)),(5,vc (.own 448)),(6,vc (aI v2))],[(1099511627776,[aL (List.map r8 v3),aI v4,aI v5])],[(448,6,List.map XShip.row v6)]⟩ → go Try.prog (.code (.loop C1u) :: [.blk 0,.code C44]) (C7o [4] [.sc (.o 6 (List.map XShip.row r.1))] [.sl (List.map r8 r.2.b),.int .i64 r.2.i,.int .i64 r.2.h]) .normal (some σ) := by
 intro n
 induction n with
 | zero => intro _ _ _ _ _ r h; cases h
 | succ n ih =>
  intro v2 v3 v4 v5 v6 r h σ hσ
  rw [N0] at h
  refine B8 ?_
  rcases ug (decide ((0 : Int) < v2)) with hb7 | hb7
  ·rw [A4 hb7] at h
   obtain ⟨r9,hr9,h⟩ := ob h
   try simp only [hσ,hb7,C1u,ua,ub,uc,ud,ue,RR]
   refine B2 (B15 _ _ _ hr9) 1099511627776 rfl rfl rfl ?_
   try simp only [hb7,ua,ub,uc,ud,ue,RR]
   refine E8 (es := List.map XShip.row ([r9.1] : List XShip)) rfl rfl ?_
   obtain ⟨hg10,h⟩ := E3 h
   try simp only [hb7,hg10,ua,ub,uc,ud,ue,RR]
   refine ih _ _ _ _ _ _ h _ ?_
   try simp only [hb7,hg10,ua,ub,uc,ud,ue,RR,List.map_nil]
  ·rw [A3 hb7] at h
   try simp only [hσ,hb7,C1u,C44,ua,ub,uc,ud,ue,RR]
   cases h
   exact ⟨⟨⟨rfl,trivial⟩,rfl⟩,rfl⟩
theorem E2t : A9 Try.prog 35 = some (cc60.strip,[4],24) := by kernel_rfl
theorem B0v (a0 : Xl01Cur) (a1 : Int) (r : (List XShip) × Xl01Cur) (h : Z3 a0 a1 = some r) : FCo Try.prog 35 [.p,.d (.sc (.int .i64 a1))] [.sl (List.map r8 a0.b),.int .i64 a0.i,.int .i64 a0.h] [.sl (List.map r8 r.2.b),.int .i64 r.2.i,.int .i64 r.2.h] [.sc (.o 6 (List.map XShip.row r.1))] := by
 unfold Z3 at h
 refine D37 (σ := ⟨[(0,vc (.pb 1099511627776 0)),(1,vc (aI a1))],[(1099511627776,[aL (List.map r8 a0.b),aI a0.i,aI a0.h])],[]⟩) B3 E2t rfl rfl ?_
 simp only [cc60]
 try simp only [ua,ub,uc,ud,ue,RR]
 refine E8 (es := List.map XShip.row ([] : List XShip)) rfl rfl ?_
 obtain ⟨r1,hr1,h⟩ := ob h
 try simp only [ua,ub,uc,ud,ue,RR]
 refine B2 (B0 _ _ _ hr1) 1099511627776 rfl rfl rfl ?_
 try simp only [ua,ub,uc,ud,ue,RR]
 refine E23 _ _ _ _ _ _ _ h _ ?_
 try simp only [ua,ub,uc,ud,ue,RR,List.map_nil]
/- 36: spec_l09Regime -/
def cc63 : ACode := (.seq (.reg [(none,.alloc 2 [aI 0,aB false])]) (.seq (.reg [mv 3 0,(none,.call 4 15 [(S 3),(K 30)]),mv 5 0,(none,.call 6 38 [(S 5),(K 4)]),(none,.build 7 [aI 0,aB false] [(0,1,(S 4)),(1,1,(S 6))]),(none,.store (S 2) (S 7) 2)]) .ret))
theorem E2i : A9 Try.prog 36 = some (cc63.strip,[.c 2 true 2],8) := by kernel_rfl
theorem B0h (a0 : Xl01Cur) (r : XRegime × Xl01Cur) (h : X4 a0 = some r) : FCy Try.prog 36 [.p] [.sl (List.map r8 a0.b),.int .i64 a0.i,.int .i64 a0.h] [.sl (List.map r8 r.2.b),.int .i64 r.2.i,.int .i64 r.2.h] [.ag [.v (.int .i64 r.1.Gap),.v (.bool r.1.NoMeet)]] := by
 unfold X4 at h
 refine A0b (σ := ⟨[(0,vc (.pb 1099511627776 0))],[(1099511627776,[aL (List.map r8 a0.b),aI a0.i,aI a0.h])],[]⟩) B3 E2i rfl rfl ?_
 simp only [cc63]
 try simp only [ua,ub,uc,ud,ue,RR]
 refine D2 rfl rfl ?_
 obtain ⟨r1,hr1,h⟩ := ob h
 try simp only [ua,ub,uc,ud,ue,RR]
 refine B2 (B0 _ _ _ hr1) 1099511627776 rfl rfl rfl ?_
 obtain ⟨r2,hr2,h⟩ := ob h
 try simp only [ua,ub,uc,ud,ue,RR]
 refine B2 (S2 _ _ _ hr2) 1099511627776 rfl rfl rfl ?_
 try simp only [ua,ub,uc,ud,ue,RR]
 cases h
 try simp only [T8,ua,ub,uc,ud,ue,RR]
 exact ⟨⟨⟨rfl,rfl,trivial⟩,trivial⟩,rfl⟩
/- 81: spec_StayingMoves -/
def cc65 : ACode := (.seq (.reg [(none,.mv 0 KN)]) (.seq (.reg [(none,.mksl 1 1 8 [.int .i64 0] (K 64) (K 64)),mv 0 1]) .ret))
theorem E2h : A9 Try.prog 81 = some (cc65.strip,[0],2) := by kernel_rfl
theorem A7n (r : (List Int)) (h : Y5 = some r) : FC Try.prog 81 [] [.sc (.o 1 (List.map rI r))] := by
 unfold Y5 at h
 refine B9 (σ := ⟨[],[],[]⟩) B3 E2h rfl rfl ?_
 simp only [cc65]
 obtain ⟨n1,hn1,h⟩ := ob h
 try simp only [ua,ub,uc,ud,ue,RR]
 refine C29 (es := List.map rI (List.replicate n1 (0 : Int))) rfl rfl hn1 rfl (B8u rfl) rfl ?_
 try simp only [ua,ub,uc,ud,ue,RR]
 cases h
 exact ⟨⟨rfl,trivial⟩,rfl⟩
/- 64: spec_l13Moves -/
def B64 : ACode := .seq (.reg [(none,.keep [0,3,7,8] [1099511627776] [320])]) (.seq (.reg [bn 9 .lss 8 7]) (.seq (.cond (S 9) .skip (.exit 0)) (.seq (.block 1 (.seq (.reg [mv 10 8,mv 4 10]) (.seq (.reg [mv 11 4,(none,.bin 12 .rem (S 11) (K 9)),(none,.bin 13 .neq (S 12) (K 0))]) (.cond (S 13) (.reg [mv 14 3,mv 15 4,mv 16 0,(none,.call 17 15 [(S 16),(K 5)]),(none,.bin 18 .mul (K 5) (S 17)),(none,.iaddr 19 (S 14) (S 15) 1),(none,.store (S 19) (S 18) 1)]) .skip)))) (.reg [(none,.bin 20 .add (S 8) (K 1)),mv 8 20]))))
def C68 : ACode := (.seq (.reg [(none,.frz 320),mv 21 3,mv 2 21]) .ret)
def cc69 : ACode := (.seq (.reg [(none,.mv 2 KN)]) (.seq (.reg [(none,.call 5 81 []),mv 3 5]) (.seq (.seq (.reg [mv 6 3,(none,.len 7 (S 6)),(none,.mv 8 (K 0))]) (.block 0 (.loop B64))) C68)))
theorem E21 (r1 : (List Int)) : ∀ (n : Nat) (v2 : Int) (v3 : List Int) (v4 : Int) (v5 : Int) (v6 : List Int) (r : (List Int) × Xl01Cur),K0 r1 n v2 v3 v4 v5 v6 = some r → ∀ σ : St,σ.kept [0,3,7,8] [1099511627776] [320] = ⟨[(0,vc (.pb 1099511627776 0)),(3,vc (.own 320)),(7,vc (aI (r1.length : Int))),(8,vc (aI v2))],[(1099511627776,[aL (List.map r8 v3),aI v4,aI v5])],[(320,1,List.map rI v6)]⟩ → go Try.prog (.code (.loop B64) :: [.blk 0,.code C68]) (A8d [2] [.sc (.v (.sl (List.map rI r.1)))] [.sl (List.map r8 r.2.b),.int .i64 r.2.i,.int .i64 r.2.h]) .normal (some σ) := by
 intro n
 induction n with
 | zero => intro _ _ _ _ _ r h; cases h
 | succ n ih =>
  intro v2 v3 v4 v5 v6 r h σ hσ
  rw [K0] at h
  refine B8 ?_
  rcases ug (decide (v2 < (r1.length : Int))) with hb7 | hb7
  ·rw [A4 hb7] at h
   rcases ug ((IntKind.i64.wrap (Int.tmod v2 (9 : Int))) != (0 : Int)) with hb8 | hb8
   ·rw [A4 hb8] at h
    obtain ⟨r9,hr9,h⟩ := ob h
    try simp only [hσ,hb7,hb8,B64,ua,ub,uc,ud,ue,RR]
    refine B2 (B0 _ _ _ hr9) 1099511627776 rfl rfl rfl ?_
    obtain ⟨x10,hx10,h⟩ := ob h
    have hx10n := Z7 hx10
    try simp only [hb7,hb8,hx10,ua,ub,uc,ud,ue,RR]
    refine A7q (row := rI) (y := (IntKind.i64.wrap ((5 : Int) * r9.1))) rfl rfl hx10n rfl rfl (by rfl) ?_
    try simp only [hb7,hb8,hx10,ua,ub,uc,ud,ue,RR]
    refine ih _ _ _ _ _ _ h _ ?_
    try simp only [hb7,hb8,hx10,ua,ub,uc,ud,ue,RR,List.map_nil]
   ·rw [A3 hb8] at h
    try simp only [hσ,hb7,hb8,B64,ua,ub,uc,ud,ue,RR]
    refine ih _ _ _ _ _ _ h _ ?_
    try simp only [hb7,hb8,ua,ub,uc,ud,ue,RR,List.map_nil]
  ·rw [A3 hb7] at h
   try simp only [hσ,hb7,B64,C68,ua,ub,uc,ud,ue,RR]
   refine U3 rfl ?_
   try simp only [hb7,ua,ub,uc,ud,ue,RR]
   cases h
   exact ⟨⟨rfl,trivial⟩,rfl⟩
theorem E25 : A9 Try.prog 64 = some (cc69.strip,[2],22) := by kernel_rfl
theorem B1z (a0 : Xl01Cur) (r : (List Int) × Xl01Cur) (h : A0a a0 = some r) : FCy Try.prog 64 [.p] [.sl (List.map r8 a0.b),.int .i64 a0.i,.int .i64 a0.h] [.sl (List.map r8 r.2.b),.int .i64 r.2.i,.int .i64 r.2.h] [.sc (.v (.sl (List.map rI r.1)))] := by
 unfold A0a at h
 refine A0b (σ := ⟨[(0,vc (.pb 1099511627776 0))],[(1099511627776,[aL (List.map r8 a0.b),aI a0.i,aI a0.h])],[]⟩) B3 E25 rfl rfl ?_
 simp only [cc69]
 obtain ⟨r1,hr1,h⟩ := ob h
 try simp only [ua,ub,uc,ud,ue,RR]
 refine A6 (A7n _ hr1) rfl rfl (uf rfl) ?_
 try simp only [ua,ub,uc,ud,ue,RR]
 refine E21 _ _ _ _ _ _ _ _ h _ ?_
 try simp only [ua,ub,uc,ud,ue,RR,List.map_nil]
/- 37: spec_l14Crew -/
def cc72 : ACode := (.seq (.reg [(none,.alloc 2 [aI 0,aI 0,aI 0,.nil])]) (.seq (.reg [mv 3 0,(none,.call 4 15 [(S 3),(K 4)]),(none,.bin 5 .add (K 1) (S 4)),mv 6 0,(none,.call 7 15 [(S 6),(K 3)]),(none,.bin 8 .add (K 1) (S 7)),mv 9 0,(none,.call 10 15 [(S 9),(K 60)]),mv 11 0,(none,.call 12 64 [(S 11)]),(none,.build 13 [aI 0,aI 0,aI 0,.nil] [(0,1,(S 5)),(1,1,(S 8)),(2,1,(S 10)),(3,1,(S 12))]),(none,.store (S 2) (S 13) 4)]) .ret))
theorem E2m : A9 Try.prog 37 = some (cc72.strip,[.c 2 true 4],14) := by kernel_rfl
theorem B2i (a0 : Xl01Cur) (r : XCrew × Xl01Cur) (h : A0r a0 = some r) : FCy Try.prog 37 [.p] [.sl (List.map r8 a0.b),.int .i64 a0.i,.int .i64 a0.h] [.sl (List.map r8 r.2.b),.int .i64 r.2.i,.int .i64 r.2.h] [.ag [.v (.int .i64 r.1.Tugs),.v (.int .i64 r.1.Pilots),.v (.int .i64 r.1.Rest),.v (.sl (List.map rI r.1.Moves))]] := by
 unfold A0r at h
 refine A0b (σ := ⟨[(0,vc (.pb 1099511627776 0))],[(1099511627776,[aL (List.map r8 a0.b),aI a0.i,aI a0.h])],[]⟩) B3 E2m rfl rfl ?_
 simp only [cc72]
 try simp only [ua,ub,uc,ud,ue,RR]
 refine D2 rfl rfl ?_
 obtain ⟨r1,hr1,h⟩ := ob h
 try simp only [ua,ub,uc,ud,ue,RR]
 refine B2 (B0 _ _ _ hr1) 1099511627776 rfl rfl rfl ?_
 obtain ⟨r2,hr2,h⟩ := ob h
 try simp only [ua,ub,uc,ud,ue,RR]
 refine B2 (B0 _ _ _ hr2) 1099511627776 rfl rfl rfl ?_
 obtain ⟨r3,hr3,h⟩ := ob h
 try simp only [ua,ub,uc,ud,ue,RR]
 refine B2 (B0 _ _ _ hr3) 1099511627776 rfl rfl rfl ?_
 obtain ⟨r4,hr4,h⟩ := ob h
 try simp only [ua,ub,uc,ud,ue,RR]
 refine B2 (B1z _ _ hr4) 1099511627776 rfl rfl rfl ?_
 try simp only [ua,ub,uc,ud,ue,RR]
 cases h
 try simp only [T8,ua,ub,uc,ud,ue,RR]
 exact ⟨⟨⟨rfl,rfl,rfl,rfl,trivial⟩,trivial⟩,rfl⟩
/- 13: spec_l15Harbour -/
def C2e : ACode := .seq (.reg [(none,.keep [0,2,3,26,27] [1099511627776,2,3] [640])]) (.seq (.reg [bn 28 .lss 27 26]) (.seq (.cond (S 28) .skip (.exit 0)) (.seq (.block 1 (.seq (.reg [mv 29 27,mv 4 29]) (.drw [(some [],fa 30 3 5),(some [],ld 31 30),(some [],mv 32 4),(some [],fa 33 3 5),(some [],ld 34 33),(some [],mv 35 4),(some [],(none,.iaddr 36 (S 34) (S 35) 6)),(some [],fa 37 36 4),(some [],ld 38 37),(some [],(none,.mm 39 false (S 38) (K 1))),(some [],(none,.iaddr 40 (S 31) (S 32) 6)),(some [],fa 41 40 4),(none,(none,.store (S 41) (S 39) 1))]))) (.reg [(none,.bin 42 .add (S 27) (K 1)),mv 27 42]))))
def C6k : ACode := (.seq (.reg [(none,.frz 640),(none,.load 43 (S 3) true 12),(none,.store (S 2) (S 43) 12)]) .ret)
def cc76 : ACode := (.seq (.reg [(none,.alloc 2 [aI 0,.nil,.nil,.nil,.nil,.nil,aI 0,aB false,aI 0,aI 0,aI 0,.nil])]) (.seq (.reg [mv 5 0,(none,.call 6 33 [(S 5)]),mv 7 0,(none,.call 8 34 [(S 7)]),mv 9 0,(none,.call 10 35 [(S 9),(K 3)]),mv 11 0,(none,.call 12 36 [(S 11)]),mv 13 0,(none,.call 14 37 [(S 13)]),(none,.build 15 [aI 0,.nil,.nil,.nil,.nil,.nil,aI 0,aB false,aI 0,aI 0,aI 0,.nil] [(0,3,(S 6)),(3,2,(S 8)),(5,1,(S 10)),(6,2,(S 12)),(8,4,(S 14))]),(none,.alloc 3 [aI 0,.nil,.nil,.nil,.nil,.nil,aI 0,aB false,aI 0,aI 0,aI 0,.nil]),(none,.store (S 3) (S 15) 12)]) (.seq (.reg [fa 16 3 0,fa 17 16 0,fa 18 17 0,ld 19 18,(none,.bin 20 .add (S 19) (K 150)),fa 21 3 0,fa 22 21 0,fa 23 22 0,(none,.store (S 23) (S 20) 1)]) (.seq (.seq (.reg [fa 24 3 5,ld 25 24,(none,.len 26 (S 25)),(none,.mv 27 (K 0))]) (.block 0 (.loop C2e))) C6k))))
theorem E2q (r3 : (List XShip) × Xl01Cur) (r5 : XCrew × Xl01Cur) (r1 : XForecast × Xl01Cur) (r2 : XChart × Xl01Cur) (r4 : XRegime × Xl01Cur) (y7 : Int) : ∀ (n : Nat) (v6 : Int) (v8 : List XShip) (r : XHarbour × Xl01Cur),K1 r3 r5 r1 r2 r4 y7 n v6 v8 = some r → ∀ σ : St,σ.kept [0,2,3,26,27] [1099511627776,2,3] [640] = ⟨[(0,vc (.pb 1099511627776 0)),(2,vc (.pb 2 0)),(3,vc (.pb 3 0)),(26,vc (aI (r3.1.length : Int))),(27,vc (aI v6))],[(1099511627776,[aL (List.map r8 r5.2.b),aI r5.2.i,aI r5.2.h]),(2,[aI (0 : Int),.nil,.nil,.nil,.nil,.nil,aI (0 : Int),aB false,aI (0 : Int),aI (0 : Int),aI (0 : Int),.nil]),(3,[aI y7,aL (List.map XPart.row r1.1.Tide.Parts),aL (List.map XSurge.row r1.1.Surges),aL (List.map XPoint.row r2.1.Points),aL (List.map XSegment.row r2.1.Segments),.own 640,aI r4.1.Gap,aB r4.1.NoMeet,aI r5.1.Tugs,aI r5.1.Pilots,aI r5.1.Rest,aL (List.map rI r5.1.Moves)])],[(640,6,List.map XShip.row v8)]⟩ → go Try.prog (.code (.loop C2e) :: [.blk 0,.code C6k]) (A8d [.c 2 true 12] [.ag [.v (.int .i64 r.1.Forecast.Tide.Mean),.v (.sl (List.map XPart.row r.1.Forecast.Tide.Parts)),.v (.sl (List.map XSurge.row r.1.Forecast.Surges)),.v (.sl (List.map XPoint.row r.1.Chart.Points)),.v (.sl (List.map XSegment.row r.1.Chart.Segments)),.v (.sl (List.map XShip.row r.1.Fleet)),.v (.int .i64 r.1.Regime.Gap),.v (.bool r.1.Regime.NoMeet),.v (.int .i64 r.1.Crew.Tugs),.v (.int .i64 r.1.Crew.Pilots),.v (.int .i64 r.1.Crew.Rest),.v (.sl (List.map rI r.1.Crew.Moves))]] [.sl (List.map r8 r.2.b),.int .i64 r.2.i,.int .i64 r.2.h]) .normal (some σ) := by
 intro n
 induction n with
 | zero => intro _ _ r h; cases h
 | succ n ih =>
  intro v6 v8 r h σ hσ
  rw [K1] at h
  refine B8 ?_
  rcases ug (decide (v6 < (r3.1.length : Int))) with hb9 | hb9
  ·rw [A4 hb9] at h
   try simp only [hσ,hb9,C2e,ua,ub,uc,ud,ue,RR]
   refine B7 rfl ?_
   obtain ⟨x10,hx10,h⟩ := ob h
   have hx10n := Z7 hx10
   try simp only [hb9,hx10,hx10n,ua,ub,uc,ud,ue,RR]
   refine A7q (row := XShip.row) (y := (⟨x10.Name,x10.Length,x10.Draught,x10.Line,(if (1 : Int) < x10.Tugs then (1 : Int) else x10.Tugs),x10.Slow⟩ : XShip)) rfl rfl hx10n rfl rfl (by rfl) ?_
   try simp only [hb9,hx10,hx10n,ua,ub,uc,ud,ue,RR]
   refine B7 rfl ?_
   try simp only [hb9,hx10,hx10n,ua,ub,uc,ud,ue,RR]
   refine ih _ _ _ h _ ?_
   try simp only [hb9,hx10,hx10n,ua,ub,uc,ud,ue,RR,List.map_nil]
  ·rw [A3 hb9] at h
   try simp only [hσ,hb9,C2e,C6k,ua,ub,uc,ud,ue,RR]
   refine U3 rfl ?_
   try simp only [hb9,ua,ub,uc,ud,ue,RR]
   cases h
   try simp only [T8,ua,ub,uc,ud,ue,RR]
   exact ⟨⟨⟨rfl,rfl,rfl,rfl,rfl,rfl,rfl,rfl,rfl,rfl,rfl,rfl,trivial⟩,trivial⟩,rfl⟩
theorem E2x : A9 Try.prog 13 = some (cc76.strip,[.c 2 true 12],44) := by kernel_rfl
theorem A9p (a0 : Xl01Cur) (r : XHarbour × Xl01Cur) (h : V2 a0 = some r) : FCy Try.prog 13 [.p] [.sl (List.map r8 a0.b),.int .i64 a0.i,.int .i64 a0.h] [.sl (List.map r8 r.2.b),.int .i64 r.2.i,.int .i64 r.2.h] [.ag [.v (.int .i64 r.1.Forecast.Tide.Mean),.v (.sl (List.map XPart.row r.1.Forecast.Tide.Parts)),.v (.sl (List.map XSurge.row r.1.Forecast.Surges)),.v (.sl (List.map XPoint.row r.1.Chart.Points)),.v (.sl (List.map XSegment.row r.1.Chart.Segments)),.v (.sl (List.map XShip.row r.1.Fleet)),.v (.int .i64 r.1.Regime.Gap),.v (.bool r.1.Regime.NoMeet),.v (.int .i64 r.1.Crew.Tugs),.v (.int .i64 r.1.Crew.Pilots),.v (.int .i64 r.1.Crew.Rest),.v (.sl (List.map rI r.1.Crew.Moves))]] := by
 unfold V2 at h
 refine A0b (σ := ⟨[(0,vc (.pb 1099511627776 0))],[(1099511627776,[aL (List.map r8 a0.b),aI a0.i,aI a0.h])],[]⟩) B3 E2x rfl rfl ?_
 simp only [cc76]
 try simp only [ua,ub,uc,ud,ue,RR]
 refine D2 rfl rfl ?_
 obtain ⟨r1,hr1,h⟩ := ob h
 try simp only [ua,ub,uc,ud,ue,RR]
 refine B2 (B2n _ _ hr1) 1099511627776 rfl rfl rfl ?_
 obtain ⟨r2,hr2,h⟩ := ob h
 try simp only [ua,ub,uc,ud,ue,RR]
 refine B2 (B25 _ _ hr2) 1099511627776 rfl rfl rfl ?_
 obtain ⟨r3,hr3,h⟩ := ob h
 try simp only [ua,ub,uc,ud,ue,RR]
 refine C58 (B0v _ _ _ hr3) 1099511627776 rfl rfl rfl rfl ?_
 obtain ⟨r4,hr4,h⟩ := ob h
 try simp only [ua,ub,uc,ud,ue,RR]
 refine B2 (B0h _ _ hr4) 1099511627776 rfl rfl rfl ?_
 obtain ⟨r5,hr5,h⟩ := ob h
 try simp only [ua,ub,uc,ud,ue,RR]
 refine B2 (B2i _ _ hr5) 1099511627776 rfl rfl rfl ?_
 try simp only [ua,ub,uc,ud,ue,RR]
 refine D2 rfl rfl ?_
 try simp only [ua,ub,uc,ud,ue,RR]
 refine E2q _ _ _ _ _ _ _ _ _ _ h _ ?_
 try simp only [ua,ub,uc,ud,ue,RR,List.map_nil]
/- 14: spec_l15Call -/
def A0h : List (List Nat × AItem) := [([],(none,.faddr 15 (S 5) 3)),([0],(none,.load 16 (S 15) false 1)),([1],(none,.bin 17 .add (S 16) (K 60))),([],(none,.mv 18 (S 0))),([3],(none,.call 19 15 [(S 18),(K 400)])),([2,4],(none,.bin 20 .add (S 17) (S 19))),([0,1,2,3,4,5],(none,.faddr 21 (S 5) 4)),([6,5,4,0,1,2,3,4,5],(none,.store (S 21) (S 20) 1))]
def C55 : ACode := .seq (.reg [(none,.keep [0,4,5] [1099511627776,4,5] [])]) (.seq (.any A0h) (.seq (.reg [(none,.load 22 (S 5) true 5),(none,.store (S 4) (S 22) 5)]) .ret))
def cc80 : ACode := (.seq (.reg [(none,.alloc 4 [aI 0,aI 0,aI 0,aI 0,aI 0])]) (.seq (.reg [mv 6 1,mv 7 0,(none,.call 8 15 [(S 7),(K 30)]),(none,.bin 9 .mul (K 15) (S 8)),(none,.build 10 [aI 0,aI 0,aI 0,aI 0,aI 0] [(0,1,(S 6)),(2,1,(K 3)),(3,1,(S 9))]),(none,.alloc 5 [aI 0,aI 0,aI 0,aI 0,aI 0]),(none,.store (S 5) (S 10) 5)]) (.seq (.seq (.reg [mv 11 0,(none,.call 12 38 [(S 11),(K 3)])]) (.cond (S 12) (.seq (.reg [fa 13 5 1,(none,.store (S 13) (K 3) 1)]) (.reg [fa 14 5 2,(none,.store (S 14) (K 0) 1)])) .skip)) C55)))
theorem E2a (r2 : Bool × Xl01Cur) (a1 : Int) (v4 : Int) (v5 : Int) (v6 : Int) (r7 : Int × Xl01Cur) (hr7 : A5 r2.2 (400 : Int) = some r7) : ∀ (f : Nat),F2 Try.prog A0h ⟨[(0,vc (.pb 1099511627776 0)),(4,vc (.pb 4 0)),(5,vc (.pb 5 0)),(15,vc (.pb 5 3)),(16,vc (aI v6)),(17,vc (aI (IntKind.i64.wrap (v6 + (60 : Int))))),(18,vc (.pb 1099511627776 0)),(19,vc (aI r7.1)),(20,vc (aI (IntKind.i64.wrap ((IntKind.i64.wrap (v6 + (60 : Int))) + r7.1)))),(21,vc (.pb 5 4))],[(1099511627776,[aL (List.map r8 r7.2.b),aI r7.2.i,aI r7.2.h]),(4,[aI (0 : Int),aI (0 : Int),aI (0 : Int),aI (0 : Int),aI (0 : Int)]),(5,[aI a1,aI v4,aI v5,aI v6,aI (IntKind.i64.wrap ((IntKind.i64.wrap (v6 + (60 : Int))) + r7.1))])],[]⟩ f [true,true,true,true,true,true,true,true] ⟨[(0,vc (.pb 1099511627776 0)),(4,vc (.pb 4 0)),(5,vc (.pb 5 0)),(15,vc (.pb 5 3)),(16,vc (aI v6)),(17,vc (aI (IntKind.i64.wrap (v6 + (60 : Int))))),(18,vc (.pb 1099511627776 0)),(19,vc (aI r7.1)),(20,vc (aI (IntKind.i64.wrap ((IntKind.i64.wrap (v6 + (60 : Int))) + r7.1)))),(21,vc (.pb 5 4))],[(1099511627776,[aL (List.map r8 r7.2.b),aI r7.2.i,aI r7.2.h]),(4,[aI (0 : Int),aI (0 : Int),aI (0 : Int),aI (0 : Int),aI (0 : Int)]),(5,[aI a1,aI v4,aI v5,aI v6,aI (IntKind.i64.wrap ((IntKind.i64.wrap (v6 + (60 : Int))) + r7.1))])],[]⟩ := by
 intro f
 induction f with
 | zero => intro h; rfl
 | succ f ih =>
  refine C3 ⟨?_,?_,?_,?_,?_,?_,?_,?_,trivial⟩
  ·intro h; cases h
  ·intro h; cases h
  ·intro h; cases h
  ·intro h; cases h
  ·intro h; cases h
  ·intro h; cases h
  ·intro h; cases h
  ·intro h; cases h
theorem E3c (r2 : Bool × Xl01Cur) (a1 : Int) (v4 : Int) (v5 : Int) (v6 : Int) (r7 : Int × Xl01Cur) (hr7 : A5 r2.2 (400 : Int) = some r7) : ∀ (f : Nat) (b0 : Bool) (b1 : Bool) (b2 : Bool) (b5 : Bool) (b6 : Bool),F2 Try.prog A0h ⟨[(0,vc (.pb 1099511627776 0)),(4,vc (.pb 4 0)),(5,vc (.pb 5 0)),(15,vc (.pb 5 3)),(16,vc (aI v6)),(17,vc (aI (IntKind.i64.wrap (v6 + (60 : Int))))),(18,vc (.pb 1099511627776 0)),(19,vc (aI r7.1)),(20,vc (aI (IntKind.i64.wrap ((IntKind.i64.wrap (v6 + (60 : Int))) + r7.1)))),(21,vc (.pb 5 4))],[(1099511627776,[aL (List.map r8 r7.2.b),aI r7.2.i,aI r7.2.h]),(4,[aI (0 : Int),aI (0 : Int),aI (0 : Int),aI (0 : Int),aI (0 : Int)]),(5,[aI a1,aI v4,aI v5,aI v6,aI (IntKind.i64.wrap ((IntKind.i64.wrap (v6 + (60 : Int))) + r7.1))])],[]⟩ f [b0,b1,b2,true,true,b5,b6,false] ⟨[(0,vc (.pb 1099511627776 0)),(4,vc (.pb 4 0)),(5,vc (.pb 5 0)),(15,bif b0 then vc (.pb 5 3) else .undef),(16,bif b1 then vc (aI v6) else .undef),(17,bif b2 then vc (aI (IntKind.i64.wrap (v6 + (60 : Int)))) else .undef),(18,vc (.pb 1099511627776 0)),(19,vc (aI r7.1)),(20,bif b5 then vc (aI (IntKind.i64.wrap ((IntKind.i64.wrap (v6 + (60 : Int))) + r7.1))) else .undef),(21,bif b6 then vc (.pb 5 4) else .undef)],[(1099511627776,[aL (List.map r8 r7.2.b),aI r7.2.i,aI r7.2.h]),(4,[aI (0 : Int),aI (0 : Int),aI (0 : Int),aI (0 : Int),aI (0 : Int)]),(5,[aI a1,aI v4,aI v5,aI v6,aI (0 : Int)])],[]⟩ := by
 intro f
 induction f with
 | zero => intro b0 b1 b2 b5 b6 h; simp at h
 | succ f ih =>
  intro b0 b1 b2 b5 b6
  refine C3 ⟨?_,?_,?_,?_,?_,?_,?_,?_,trivial⟩
  ·intro h0 hw
   obtain rfl : b0 = false := Option.some.inj h0
   refine ⟨[],[],rfl,rfl,?_⟩
   simp only [List.nil_append,List.cons_append]
   try simp only [A1,ua,ub,uc,ud,ue,RR]
   exact ih true b1 b2 b5 b6
  ·intro h0 hw
   obtain rfl : b1 = false := Option.some.inj h0
   obtain rfl : b0 = true := Option.some.inj (hw 0 (by simp))
   refine ⟨[],[],rfl,rfl,?_⟩
   simp only [List.nil_append,List.cons_append]
   try simp only [A1,ua,ub,uc,ud,ue,RR]
   exact ih true true b2 b5 b6
  ·intro h0 hw
   obtain rfl : b2 = false := Option.some.inj h0
   obtain rfl : b1 = true := Option.some.inj (hw 1 (by simp))
   refine ⟨[],[],rfl,rfl,?_⟩
   simp only [List.nil_append,List.cons_append]
   try simp only [A1,ua,ub,uc,ud,ue,RR]
   exact ih b0 true true b5 b6
  ·intro h; cases h
  ·intro h; cases h
  ·intro h0 hw
   obtain rfl : b5 = false := Option.some.inj h0
   obtain rfl : b2 = true := Option.some.inj (hw 2 (by simp))
   refine ⟨[],[],rfl,rfl,?_⟩
   simp only [List.nil_append,List.cons_append]
   try simp only [A1,ua,ub,uc,ud,ue,RR]
   exact ih b0 b1 true true b6
  ·intro h0 hw
   obtain rfl : b6 = false := Option.some.inj h0
   obtain rfl : b0 = true := Option.some.inj (hw 0 (by simp))
   obtain rfl : b1 = true := Option.some.inj (hw 1 (by simp))
   obtain rfl : b2 = true := Option.some.inj (hw 2 (by simp))
   obtain rfl : b5 = true := Option.some.inj (hw 5 (by simp))
   refine ⟨[],[],rfl,rfl,?_⟩
   simp only [List.nil_append,List.cons_append]
   try simp only [A1,ua,ub,uc,ud,ue,RR]
   exact ih true true true true true
  ·intro h0 hw
   obtain rfl : b0 = true := Option.some.inj (hw 0 (by simp))
   obtain rfl : b1 = true := Option.some.inj (hw 1 (by simp))
   obtain rfl : b2 = true := Option.some.inj (hw 2 (by simp))
   obtain rfl : b5 = true := Option.some.inj (hw 5 (by simp))
   obtain rfl : b6 = true := Option.some.inj (hw 6 (by simp))
   refine ⟨[],[],rfl,rfl,?_⟩
   simp only [List.nil_append,List.cons_append]
   try simp only [A1,ua,ub,uc,ud,ue,RR]
   exact E2a r2 a1 v4 v5 v6 r7 hr7 _
theorem E2b (r2 : Bool × Xl01Cur) (a1 : Int) (v4 : Int) (v5 : Int) (v6 : Int) (r7 : Int × Xl01Cur) (hr7 : A5 r2.2 (400 : Int) = some r7) : ∀ (f : Nat) (b0 : Bool) (b1 : Bool) (b2 : Bool) (b3 : Bool),F2 Try.prog A0h ⟨[(0,vc (.pb 1099511627776 0)),(4,vc (.pb 4 0)),(5,vc (.pb 5 0)),(15,vc (.pb 5 3)),(16,vc (aI v6)),(17,vc (aI (IntKind.i64.wrap (v6 + (60 : Int))))),(18,vc (.pb 1099511627776 0)),(19,vc (aI r7.1)),(20,vc (aI (IntKind.i64.wrap ((IntKind.i64.wrap (v6 + (60 : Int))) + r7.1)))),(21,vc (.pb 5 4))],[(1099511627776,[aL (List.map r8 r7.2.b),aI r7.2.i,aI r7.2.h]),(4,[aI (0 : Int),aI (0 : Int),aI (0 : Int),aI (0 : Int),aI (0 : Int)]),(5,[aI a1,aI v4,aI v5,aI v6,aI (IntKind.i64.wrap ((IntKind.i64.wrap (v6 + (60 : Int))) + r7.1))])],[]⟩ f [b0,b1,b2,b3,false,false,false,false] ⟨[(0,vc (.pb 1099511627776 0)),(4,vc (.pb 4 0)),(5,vc (.pb 5 0)),(15,bif b0 then vc (.pb 5 3) else .undef),(16,bif b1 then vc (aI v6) else .undef),(17,bif b2 then vc (aI (IntKind.i64.wrap (v6 + (60 : Int)))) else .undef),(18,bif b3 then vc (.pb 1099511627776 0) else .undef),(19,.undef),(20,.undef),(21,.undef)],[(1099511627776,[aL (List.map r8 r2.2.b),aI r2.2.i,aI r2.2.h]),(4,[aI (0 : Int),aI (0 : Int),aI (0 : Int),aI (0 : Int),aI (0 : Int)]),(5,[aI a1,aI v4,aI v5,aI v6,aI (0 : Int)])],[]⟩ := by
 intro f
 induction f with
 | zero => intro b0 b1 b2 b3 h; simp at h
 | succ f ih =>
  intro b0 b1 b2 b3
  refine C3 ⟨?_,?_,?_,?_,?_,?_,?_,?_,trivial⟩
  ·intro h0 hw
   obtain rfl : b0 = false := Option.some.inj h0
   refine ⟨[],[],rfl,rfl,?_⟩
   simp only [List.nil_append,List.cons_append]
   try simp only [A1,ua,ub,uc,ud,ue,RR]
   exact ih true b1 b2 b3
  ·intro h0 hw
   obtain rfl : b1 = false := Option.some.inj h0
   obtain rfl : b0 = true := Option.some.inj (hw 0 (by simp))
   refine ⟨[],[],rfl,rfl,?_⟩
   simp only [List.nil_append,List.cons_append]
   try simp only [A1,ua,ub,uc,ud,ue,RR]
   exact ih true true b2 b3
  ·intro h0 hw
   obtain rfl : b2 = false := Option.some.inj h0
   obtain rfl : b1 = true := Option.some.inj (hw 1 (by simp))
   refine ⟨[],[],rfl,rfl,?_⟩
   simp only [List.nil_append,List.cons_append]
   try simp only [A1,ua,ub,uc,ud,ue,RR]
   exact ih b0 true true b3
  ·intro h0 hw
   obtain rfl : b3 = false := Option.some.inj h0
   refine ⟨[],[],rfl,rfl,?_⟩
   simp only [List.nil_append,List.cons_append]
   try simp only [A1,ua,ub,uc,ud,ue,RR]
   exact ih b0 b1 b2 true
  ·intro h0 hw
   obtain rfl : b3 = true := Option.some.inj (hw 3 (by simp))
   refine ⟨[],[],rfl,rfl,?_⟩
   simp only [List.nil_append,List.cons_append]
   try simp only [A1,ua,ub,uc,ud,ue,RR]
   refine B2 (B0 _ _ _ hr7) 1099511627776 rfl rfl rfl ?_
   try simp only [A1,ua,ub,uc,ud,ue,RR]
   exact E3c r2 a1 v4 v5 v6 r7 hr7 _ b0 b1 b2 false false
  ·intro _ hw; have := hw 4 (by simp); cases this
  ·intro _ hw; have := hw 4 (by simp); cases this
  ·intro _ hw; have := hw 6 (by simp); cases this
theorem D4f (r2 : Bool × Xl01Cur) (a1 : Int) (v4 : Int) (v5 : Int) (v6 : Int) (r : XCall × Xl01Cur) (h : X8 r2 a1 v4 v5 v6 = some r) (σ : St) (hσ : σ.kept [0,4,5] [1099511627776,4,5] [] = ⟨[(0,vc (.pb 1099511627776 0)),(4,vc (.pb 4 0)),(5,vc (.pb 5 0))],[(1099511627776,[aL (List.map r8 r2.2.b),aI r2.2.i,aI r2.2.h]),(4,[aI (0 : Int),aI (0 : Int),aI (0 : Int),aI (0 : Int),aI (0 : Int)]),(5,[aI a1,aI v4,aI v5,aI v6,aI (0 : Int)])],[]⟩) : go Try.prog (.code C55 :: []) (A8d [.c 4 true 5] [.ag [.v (.int .i64 r.1.Ship),.v (.int .i64 r.1.From),.v (.int .i64 r.1.To),.v (.int .i64 r.1.Ready),.v (.int .i64 r.1.Due)]] [.sl (List.map r8 r.2.b),.int .i64 r.2.i,.int .i64 r.2.h]) .normal (some σ) := by
 unfold X8 at h
 try simp only [hσ,C55,ua,ub,uc,ud,ue,RR]
 obtain ⟨r7,hr7,h⟩ := ob h
 refine A3a (ks := [0,4,5]) (bs := [1099511627776,4,5]) (rs := []) (τ := ⟨[(0,vc (.pb 1099511627776 0)),(4,vc (.pb 4 0)),(5,vc (.pb 5 0)),(15,vc (.pb 5 3)),(16,vc (aI v6)),(17,vc (aI (IntKind.i64.wrap (v6 + (60 : Int))))),(18,vc (.pb 1099511627776 0)),(19,vc (aI r7.1)),(20,vc (aI (IntKind.i64.wrap ((IntKind.i64.wrap (v6 + (60 : Int))) + r7.1)))),(21,vc (.pb 5 4))],[(1099511627776,[aL (List.map r8 r7.2.b),aI r7.2.i,aI r7.2.h]),(4,[aI (0 : Int),aI (0 : Int),aI (0 : Int),aI (0 : Int),aI (0 : Int)]),(5,[aI a1,aI v4,aI v5,aI v6,aI (IntKind.i64.wrap ((IntKind.i64.wrap (v6 + (60 : Int))) + r7.1))])],[]⟩) rfl (E2b r2 a1 v4 v5 v6 r7 hr7 _ false false false false) ?_
 try simp only [ua,ub,uc,ud,ue,RR]
 cases h
 try simp only [T8,ua,ub,uc,ud,ue,RR]
 exact ⟨⟨⟨rfl,rfl,rfl,rfl,rfl,trivial⟩,trivial⟩,rfl⟩
theorem E2u : A9 Try.prog 14 = some (cc80.strip,[.c 4 true 5],23) := by kernel_rfl
theorem B2e (a0 : Xl01Cur) (a1 : Int) (r : XCall × Xl01Cur) (h : J9 a0 a1 = some r) : FCy Try.prog 14 [.p,.d (.sc (.int .i64 a1))] [.sl (List.map r8 a0.b),.int .i64 a0.i,.int .i64 a0.h] [.sl (List.map r8 r.2.b),.int .i64 r.2.i,.int .i64 r.2.h] [.ag [.v (.int .i64 r.1.Ship),.v (.int .i64 r.1.From),.v (.int .i64 r.1.To),.v (.int .i64 r.1.Ready),.v (.int .i64 r.1.Due)]] := by
 unfold J9 at h
 refine A0b (σ := ⟨[(0,vc (.pb 1099511627776 0)),(1,vc (aI a1))],[(1099511627776,[aL (List.map r8 a0.b),aI a0.i,aI a0.h])],[]⟩) B3 E2u rfl rfl ?_
 simp only [cc80]
 try simp only [ua,ub,uc,ud,ue,RR]
 refine D2 rfl rfl ?_
 obtain ⟨r1,hr1,h⟩ := ob h
 try simp only [ua,ub,uc,ud,ue,RR]
 refine B2 (B0 _ _ _ hr1) 1099511627776 rfl rfl rfl ?_
 try simp only [ua,ub,uc,ud,ue,RR]
 refine D2 rfl rfl ?_
 obtain ⟨r2,hr2,h⟩ := ob h
 try simp only [ua,ub,uc,ud,ue,RR]
 refine B2 (S2 _ _ _ hr2) 1099511627776 rfl rfl rfl ?_
 rcases ug r2.1 with hb3 | hb3
 ·rw [A4 hb3] at h
  try simp only [hb3,ua,ub,uc,ud,ue,RR]
  refine D4f _ _ _ _ _ _ h _ ?_
  try simp only [hb3,ua,ub,uc,ud,ue,RR,List.map_nil]
 ·rw [A3 hb3] at h
  try simp only [hb3,ua,ub,uc,ud,ue,RR]
  refine D4f _ _ _ _ _ _ h _ ?_
  try simp only [hb3,ua,ub,uc,ud,ue,RR,List.map_nil]
/- 4: spec_MakeCall -/
def O8 : List (List Nat × AItem) := [([],(none,.load 10 (S 5) true 12)),([],(none,.mv 11 (S 4))),([],(none,.mv 12 (S 4))),([],(none,.faddr 13 (S 5) 5)),([3],(none,.load 14 (S 13) false 1)),([4],(none,.len 15 (S 14))),([2,5],(none,.call 16 15 [(S 12),(S 15)])),([1,6,6],(none,.call 17 14 [(S 11),(S 16)])),([0,7,0],(none,.store (S 2) (S 10) 12)),([7,8,0,1,2,3,4,5,6,7,8],(none,.store (S 3) (S 17) 5))]
def cc86 : ACode := (.seq (.reg [(none,.alloc 2 [aI 0,.nil,.nil,.nil,.nil,.nil,aI 0,aB false,aI 0,aI 0,aI 0,.nil]),(none,.alloc 3 [aI 0,aI 0,aI 0,aI 0,aI 0])]) (.seq (.reg [mv 6 0,(none,.call 7 12 [(S 6)]),mv 4 7]) (.seq (.reg [mv 8 4,(none,.call 9 13 [(S 8)]),(none,.alloc 5 [aI 0,.nil,.nil,.nil,.nil,.nil,aI 0,aB false,aI 0,aI 0,aI 0,.nil]),(none,.store (S 5) (S 9) 12)]) (.seq (.any O8) .ret))))
theorem E2o (r2 : XHarbour × Xl01Cur) (r3 : Int × Xl01Cur) (r4 : XCall × Xl01Cur) (hr3 : A5 r2.2 (r2.1.Fleet.length : Int) = some r3) (hr4 : J9 r3.2 r3.1 = some r4) : ∀ (f : Nat),F2 Try.prog O8 ⟨[(2,vc (.pb 2 0)),(3,vc (.pb 3 0)),(4,vc (.pb 7 0)),(5,vc (.pb 5 0)),(10,va [aI r2.1.Forecast.Tide.Mean,aL (List.map XPart.row r2.1.Forecast.Tide.Parts),aL (List.map XSurge.row r2.1.Forecast.Surges),aL (List.map XPoint.row r2.1.Chart.Points),aL (List.map XSegment.row r2.1.Chart.Segments),aL (List.map XShip.row r2.1.Fleet),aI r2.1.Regime.Gap,aB r2.1.Regime.NoMeet,aI r2.1.Crew.Tugs,aI r2.1.Crew.Pilots,aI r2.1.Crew.Rest,aL (List.map rI r2.1.Crew.Moves)]),(11,vc (.pb 7 0)),(12,vc (.pb 7 0)),(13,vc (.pb 5 5)),(14,vc (aL (List.map XShip.row r2.1.Fleet))),(15,vc (aI (r2.1.Fleet.length : Int))),(16,vc (aI r3.1)),(17,va [aI r4.1.Ship,aI r4.1.From,aI r4.1.To,aI r4.1.Ready,aI r4.1.Due])],[(2,[aI r2.1.Forecast.Tide.Mean,aL (List.map XPart.row r2.1.Forecast.Tide.Parts),aL (List.map XSurge.row r2.1.Forecast.Surges),aL (List.map XPoint.row r2.1.Chart.Points),aL (List.map XSegment.row r2.1.Chart.Segments),aL (List.map XShip.row r2.1.Fleet),aI r2.1.Regime.Gap,aB r2.1.Regime.NoMeet,aI r2.1.Crew.Tugs,aI r2.1.Crew.Pilots,aI r2.1.Crew.Rest,aL (List.map rI r2.1.Crew.Moves)]),(3,[aI r4.1.Ship,aI r4.1.From,aI r4.1.To,aI r4.1.Ready,aI r4.1.Due]),(7,[aL (List.map r8 r4.2.b),aI r4.2.i,aI r4.2.h]),(5,[aI r2.1.Forecast.Tide.Mean,aL (List.map XPart.row r2.1.Forecast.Tide.Parts),aL (List.map XSurge.row r2.1.Forecast.Surges),aL (List.map XPoint.row r2.1.Chart.Points),aL (List.map XSegment.row r2.1.Chart.Segments),aL (List.map XShip.row r2.1.Fleet),aI r2.1.Regime.Gap,aB r2.1.Regime.NoMeet,aI r2.1.Crew.Tugs,aI r2.1.Crew.Pilots,aI r2.1.Crew.Rest,aL (List.map rI r2.1.Crew.Moves)])],[]⟩ f [true,true,true,true,true,true,true,true,true,true] ⟨[(2,vc (.pb 2 0)),(3,vc (.pb 3 0)),(4,vc (.pb 7 0)),(5,vc (.pb 5 0)),(10,va [aI r2.1.Forecast.Tide.Mean,aL (List.map XPart.row r2.1.Forecast.Tide.Parts),aL (List.map XSurge.row r2.1.Forecast.Surges),aL (List.map XPoint.row r2.1.Chart.Points),aL (List.map XSegment.row r2.1.Chart.Segments),aL (List.map XShip.row r2.1.Fleet),aI r2.1.Regime.Gap,aB r2.1.Regime.NoMeet,aI r2.1.Crew.Tugs,aI r2.1.Crew.Pilots,aI r2.1.Crew.Rest,aL (List.map rI r2.1.Crew.Moves)]),(11,vc (.pb 7 0)),(12,vc (.pb 7 0)),(13,vc (.pb 5 5)),(14,vc (aL (List.map XShip.row r2.1.Fleet))),(15,vc (aI (r2.1.Fleet.length : Int))),(16,vc (aI r3.1)),(17,va [aI r4.1.Ship,aI r4.1.From,aI r4.1.To,aI r4.1.Ready,aI r4.1.Due])],[(2,[aI r2.1.Forecast.Tide.Mean,aL (List.map XPart.row r2.1.Forecast.Tide.Parts),aL (List.map XSurge.row r2.1.Forecast.Surges),aL (List.map XPoint.row r2.1.Chart.Points),aL (List.map XSegment.row r2.1.Chart.Segments),aL (List.map XShip.row r2.1.Fleet),aI r2.1.Regime.Gap,aB r2.1.Regime.NoMeet,aI r2.1.Crew.Tugs,aI r2.1.Crew.Pilots,aI r2.1.Crew.Rest,aL (List.map rI r2.1.Crew.Moves)]),(3,[aI r4.1.Ship,aI r4.1.From,aI r4.1.To,aI r4.1.Ready,aI r4.1.Due]),(7,[aL (List.map r8 r4.2.b),aI r4.2.i,aI r4.2.h]),(5,[aI r2.1.Forecast.Tide.Mean,aL (List.map XPart.row r2.1.Forecast.Tide.Parts),aL (List.map XSurge.row r2.1.Forecast.Surges),aL (List.map XPoint.row r2.1.Chart.Points),aL (List.map XSegment.row r2.1.Chart.Segments),aL (List.map XShip.row r2.1.Fleet),aI r2.1.Regime.Gap,aB r2.1.Regime.NoMeet,aI r2.1.Crew.Tugs,aI r2.1.Crew.Pilots,aI r2.1.Crew.Rest,aL (List.map rI r2.1.Crew.Moves)])],[]⟩ := by
 intro f
 induction f with
 | zero => intro h; rfl
 | succ f ih =>
  refine C3 ⟨?_,?_,?_,?_,?_,?_,?_,?_,?_,?_,trivial⟩
  ·intro h; cases h
  ·intro h; cases h
  ·intro h; cases h
  ·intro h; cases h
  ·intro h; cases h
  ·intro h; cases h
  ·intro h; cases h
  ·intro h; cases h
  ·intro h; cases h
  ·intro h; cases h
theorem E17 (r2 : XHarbour × Xl01Cur) (r3 : Int × Xl01Cur) (r4 : XCall × Xl01Cur) (hr3 : A5 r2.2 (r2.1.Fleet.length : Int) = some r3) (hr4 : J9 r3.2 r3.1 = some r4) : ∀ (f : Nat) (b3 : Bool) (b4 : Bool),F2 Try.prog O8 ⟨[(2,vc (.pb 2 0)),(3,vc (.pb 3 0)),(4,vc (.pb 7 0)),(5,vc (.pb 5 0)),(10,va [aI r2.1.Forecast.Tide.Mean,aL (List.map XPart.row r2.1.Forecast.Tide.Parts),aL (List.map XSurge.row r2.1.Forecast.Surges),aL (List.map XPoint.row r2.1.Chart.Points),aL (List.map XSegment.row r2.1.Chart.Segments),aL (List.map XShip.row r2.1.Fleet),aI r2.1.Regime.Gap,aB r2.1.Regime.NoMeet,aI r2.1.Crew.Tugs,aI r2.1.Crew.Pilots,aI r2.1.Crew.Rest,aL (List.map rI r2.1.Crew.Moves)]),(11,vc (.pb 7 0)),(12,vc (.pb 7 0)),(13,vc (.pb 5 5)),(14,vc (aL (List.map XShip.row r2.1.Fleet))),(15,vc (aI (r2.1.Fleet.length : Int))),(16,vc (aI r3.1)),(17,va [aI r4.1.Ship,aI r4.1.From,aI r4.1.To,aI r4.1.Ready,aI r4.1.Due])],[(2,[aI r2.1.Forecast.Tide.Mean,aL (List.map XPart.row r2.1.Forecast.Tide.Parts),aL (List.map XSurge.row r2.1.Forecast.Surges),aL (List.map XPoint.row r2.1.Chart.Points),aL (List.map XSegment.row r2.1.Chart.Segments),aL (List.map XShip.row r2.1.Fleet),aI r2.1.Regime.Gap,aB r2.1.Regime.NoMeet,aI r2.1.Crew.Tugs,aI r2.1.Crew.Pilots,aI r2.1.Crew.Rest,aL (List.map rI r2.1.Crew.Moves)]),(3,[aI r4.1.Ship,aI r4.1.From,aI r4.1.To,aI r4.1.Ready,aI r4.1.Due]),(7,[aL (List.map r8 r4.2.b),aI r4.2.i,aI r4.2.h]),(5,[aI r2.1.Forecast.Tide.Mean,aL (List.map XPart.row r2.1.Forecast.Tide.Parts),aL (List.map XSurge.row r2.1.Forecast.Surges),aL (List.map XPoint.row r2.1.Chart.Points),aL (List.map XSegment.row r2.1.Chart.Segments),aL (List.map XShip.row r2.1.Fleet),aI r2.1.Regime.Gap,aB r2.1.Regime.NoMeet,aI r2.1.Crew.Tugs,aI r2.1.Crew.Pilots,aI r2.1.Crew.Rest,aL (List.map rI r2.1.Crew.Moves)])],[]⟩ f [true,true,true,b3,b4,true,true,true,true,false] ⟨[(2,vc (.pb 2 0)),(3,vc (.pb 3 0)),(4,vc (.pb 7 0)),(5,vc (.pb 5 0)),(10,va [aI r2.1.Forecast.Tide.Mean,aL (List.map XPart.row r2.1.Forecast.Tide.Parts),aL (List.map XSurge.row r2.1.Forecast.Surges),aL (List.map XPoint.row r2.1.Chart.Points),aL (List.map XSegment.row r2.1.Chart.Segments),aL (List.map XShip.row r2.1.Fleet),aI r2.1.Regime.Gap,aB r2.1.Regime.NoMeet,aI r2.1.Crew.Tugs,aI r2.1.Crew.Pilots,aI r2.1.Crew.Rest,aL (List.map rI r2.1.Crew.Moves)]),(11,vc (.pb 7 0)),(12,vc (.pb 7 0)),(13,bif b3 then vc (.pb 5 5) else .undef),(14,bif b4 then vc (aL (List.map XShip.row r2.1.Fleet)) else .undef),(15,vc (aI (r2.1.Fleet.length : Int))),(16,vc (aI r3.1)),(17,va [aI r4.1.Ship,aI r4.1.From,aI r4.1.To,aI r4.1.Ready,aI r4.1.Due])],[(2,[aI r2.1.Forecast.Tide.Mean,aL (List.map XPart.row r2.1.Forecast.Tide.Parts),aL (List.map XSurge.row r2.1.Forecast.Surges),aL (List.map XPoint.row r2.1.Chart.Points),aL (List.map XSegment.row r2.1.Chart.Segments),aL (List.map XShip.row r2.1.Fleet),aI r2.1.Regime.Gap,aB r2.1.Regime.NoMeet,aI r2.1.Crew.Tugs,aI r2.1.Crew.Pilots,aI r2.1.Crew.Rest,aL (List.map rI r2.1.Crew.Moves)]),(3,[aI (0 : Int),aI (0 : Int),aI (0 : Int),aI (0 : Int),aI (0 : Int)]),(7,[aL (List.map r8 r4.2.b),aI r4.2.i,aI r4.2.h]),(5,[aI r2.1.Forecast.Tide.Mean,aL (List.map XPart.row r2.1.Forecast.Tide.Parts),aL (List.map XSurge.row r2.1.Forecast.Surges),aL (List.map XPoint.row r2.1.Chart.Points),aL (List.map XSegment.row r2.1.Chart.Segments),aL (List.map XShip.row r2.1.Fleet),aI r2.1.Regime.Gap,aB r2.1.Regime.NoMeet,aI r2.1.Crew.Tugs,aI r2.1.Crew.Pilots,aI r2.1.Crew.Rest,aL (List.map rI r2.1.Crew.Moves)])],[]⟩ := by
 intro f
 induction f with
 | zero => intro b3 b4 h; simp at h
 | succ f ih =>
  intro b3 b4
  refine C3 ⟨?_,?_,?_,?_,?_,?_,?_,?_,?_,?_,trivial⟩
  ·intro h; cases h
  ·intro h; cases h
  ·intro h; cases h
  ·intro h0 hw
   obtain rfl : b3 = false := Option.some.inj h0
   refine ⟨[],[],rfl,rfl,?_⟩
   simp only [List.nil_append,List.cons_append]
   try simp only [A1,ua,ub,uc,ud,ue,RR]
   exact ih true b4
  ·intro h0 hw
   obtain rfl : b4 = false := Option.some.inj h0
   obtain rfl : b3 = true := Option.some.inj (hw 3 (by simp))
   refine ⟨[],[],rfl,rfl,?_⟩
   simp only [List.nil_append,List.cons_append]
   try simp only [A1,ua,ub,uc,ud,ue,RR]
   exact ih true true
  ·intro h; cases h
  ·intro h; cases h
  ·intro h; cases h
  ·intro h; cases h
  ·intro h0 hw
   obtain rfl : b3 = true := Option.some.inj (hw 3 (by simp))
   obtain rfl : b4 = true := Option.some.inj (hw 4 (by simp))
   refine ⟨[],[],rfl,rfl,?_⟩
   simp only [List.nil_append,List.cons_append]
   try simp only [A1,ua,ub,uc,ud,ue,RR]
   exact E2o r2 r3 r4 hr3 hr4 _
theorem E2p (r2 : XHarbour × Xl01Cur) (r3 : Int × Xl01Cur) (r4 : XCall × Xl01Cur) (hr3 : A5 r2.2 (r2.1.Fleet.length : Int) = some r3) (hr4 : J9 r3.2 r3.1 = some r4) : ∀ (f : Nat) (b0 : Bool) (b3 : Bool) (b4 : Bool),F2 Try.prog O8 ⟨[(2,vc (.pb 2 0)),(3,vc (.pb 3 0)),(4,vc (.pb 7 0)),(5,vc (.pb 5 0)),(10,va [aI r2.1.Forecast.Tide.Mean,aL (List.map XPart.row r2.1.Forecast.Tide.Parts),aL (List.map XSurge.row r2.1.Forecast.Surges),aL (List.map XPoint.row r2.1.Chart.Points),aL (List.map XSegment.row r2.1.Chart.Segments),aL (List.map XShip.row r2.1.Fleet),aI r2.1.Regime.Gap,aB r2.1.Regime.NoMeet,aI r2.1.Crew.Tugs,aI r2.1.Crew.Pilots,aI r2.1.Crew.Rest,aL (List.map rI r2.1.Crew.Moves)]),(11,vc (.pb 7 0)),(12,vc (.pb 7 0)),(13,vc (.pb 5 5)),(14,vc (aL (List.map XShip.row r2.1.Fleet))),(15,vc (aI (r2.1.Fleet.length : Int))),(16,vc (aI r3.1)),(17,va [aI r4.1.Ship,aI r4.1.From,aI r4.1.To,aI r4.1.Ready,aI r4.1.Due])],[(2,[aI r2.1.Forecast.Tide.Mean,aL (List.map XPart.row r2.1.Forecast.Tide.Parts),aL (List.map XSurge.row r2.1.Forecast.Surges),aL (List.map XPoint.row r2.1.Chart.Points),aL (List.map XSegment.row r2.1.Chart.Segments),aL (List.map XShip.row r2.1.Fleet),aI r2.1.Regime.Gap,aB r2.1.Regime.NoMeet,aI r2.1.Crew.Tugs,aI r2.1.Crew.Pilots,aI r2.1.Crew.Rest,aL (List.map rI r2.1.Crew.Moves)]),(3,[aI r4.1.Ship,aI r4.1.From,aI r4.1.To,aI r4.1.Ready,aI r4.1.Due]),(7,[aL (List.map r8 r4.2.b),aI r4.2.i,aI r4.2.h]),(5,[aI r2.1.Forecast.Tide.Mean,aL (List.map XPart.row r2.1.Forecast.Tide.Parts),aL (List.map XSurge.row r2.1.Forecast.Surges),aL (List.map XPoint.row r2.1.Chart.Points),aL (List.map XSegment.row r2.1.Chart.Segments),aL (List.map XShip.row r2.1.Fleet),aI r2.1.Regime.Gap,aB r2.1.Regime.NoMeet,aI r2.1.Crew.Tugs,aI r2.1.Crew.Pilots,aI r2.1.Crew.Rest,aL (List.map rI r2.1.Crew.Moves)])],[]⟩ f [b0,true,true,b3,b4,true,true,true,false,false] ⟨[(2,vc (.pb 2 0)),(3,vc (.pb 3 0)),(4,vc (.pb 7 0)),(5,vc (.pb 5 0)),(10,bif b0 then va [aI r2.1.Forecast.Tide.Mean,aL (List.map XPart.row r2.1.Forecast.Tide.Parts),aL (List.map XSurge.row r2.1.Forecast.Surges),aL (List.map XPoint.row r2.1.Chart.Points),aL (List.map XSegment.row r2.1.Chart.Segments),aL (List.map XShip.row r2.1.Fleet),aI r2.1.Regime.Gap,aB r2.1.Regime.NoMeet,aI r2.1.Crew.Tugs,aI r2.1.Crew.Pilots,aI r2.1.Crew.Rest,aL (List.map rI r2.1.Crew.Moves)] else .undef),(11,vc (.pb 7 0)),(12,vc (.pb 7 0)),(13,bif b3 then vc (.pb 5 5) else .undef),(14,bif b4 then vc (aL (List.map XShip.row r2.1.Fleet)) else .undef),(15,vc (aI (r2.1.Fleet.length : Int))),(16,vc (aI r3.1)),(17,va [aI r4.1.Ship,aI r4.1.From,aI r4.1.To,aI r4.1.Ready,aI r4.1.Due])],[(2,[aI (0 : Int),.nil,.nil,.nil,.nil,.nil,aI (0 : Int),aB false,aI (0 : Int),aI (0 : Int),aI (0 : Int),.nil]),(3,[aI (0 : Int),aI (0 : Int),aI (0 : Int),aI (0 : Int),aI (0 : Int)]),(7,[aL (List.map r8 r4.2.b),aI r4.2.i,aI r4.2.h]),(5,[aI r2.1.Forecast.Tide.Mean,aL (List.map XPart.row r2.1.Forecast.Tide.Parts),aL (List.map XSurge.row r2.1.Forecast.Surges),aL (List.map XPoint.row r2.1.Chart.Points),aL (List.map XSegment.row r2.1.Chart.Segments),aL (List.map XShip.row r2.1.Fleet),aI r2.1.Regime.Gap,aB r2.1.Regime.NoMeet,aI r2.1.Crew.Tugs,aI r2.1.Crew.Pilots,aI r2.1.Crew.Rest,aL (List.map rI r2.1.Crew.Moves)])],[]⟩ := by
 intro f
 induction f with
 | zero => intro b0 b3 b4 h; simp at h
 | succ f ih =>
  intro b0 b3 b4
  refine C3 ⟨?_,?_,?_,?_,?_,?_,?_,?_,?_,?_,trivial⟩
  ·intro h0 hw
   obtain rfl : b0 = false := Option.some.inj h0
   refine ⟨[],[],rfl,rfl,?_⟩
   simp only [List.nil_append,List.cons_append]
   try simp only [A1,ua,ub,uc,ud,ue,RR]
   exact ih true b3 b4
  ·intro h; cases h
  ·intro h; cases h
  ·intro h0 hw
   obtain rfl : b3 = false := Option.some.inj h0
   refine ⟨[],[],rfl,rfl,?_⟩
   simp only [List.nil_append,List.cons_append]
   try simp only [A1,ua,ub,uc,ud,ue,RR]
   exact ih b0 true b4
  ·intro h0 hw
   obtain rfl : b4 = false := Option.some.inj h0
   obtain rfl : b3 = true := Option.some.inj (hw 3 (by simp))
   refine ⟨[],[],rfl,rfl,?_⟩
   simp only [List.nil_append,List.cons_append]
   try simp only [A1,ua,ub,uc,ud,ue,RR]
   exact ih b0 true true
  ·intro h; cases h
  ·intro h; cases h
  ·intro h; cases h
  ·intro h0 hw
   obtain rfl : b0 = true := Option.some.inj (hw 0 (by simp))
   refine ⟨[],[],rfl,rfl,?_⟩
   simp only [List.nil_append,List.cons_append]
   try simp only [A1,ua,ub,uc,ud,ue,RR]
   exact E17 r2 r3 r4 hr3 hr4 _ b3 b4
  ·intro _ hw; have := hw 8 (by simp); cases this
theorem E1s (r2 : XHarbour × Xl01Cur) (r3 : Int × Xl01Cur) (r4 : XCall × Xl01Cur) (hr3 : A5 r2.2 (r2.1.Fleet.length : Int) = some r3) (hr4 : J9 r3.2 r3.1 = some r4) : ∀ (f : Nat) (b0 : Bool) (b1 : Bool) (b3 : Bool) (b4 : Bool),F2 Try.prog O8 ⟨[(2,vc (.pb 2 0)),(3,vc (.pb 3 0)),(4,vc (.pb 7 0)),(5,vc (.pb 5 0)),(10,va [aI r2.1.Forecast.Tide.Mean,aL (List.map XPart.row r2.1.Forecast.Tide.Parts),aL (List.map XSurge.row r2.1.Forecast.Surges),aL (List.map XPoint.row r2.1.Chart.Points),aL (List.map XSegment.row r2.1.Chart.Segments),aL (List.map XShip.row r2.1.Fleet),aI r2.1.Regime.Gap,aB r2.1.Regime.NoMeet,aI r2.1.Crew.Tugs,aI r2.1.Crew.Pilots,aI r2.1.Crew.Rest,aL (List.map rI r2.1.Crew.Moves)]),(11,vc (.pb 7 0)),(12,vc (.pb 7 0)),(13,vc (.pb 5 5)),(14,vc (aL (List.map XShip.row r2.1.Fleet))),(15,vc (aI (r2.1.Fleet.length : Int))),(16,vc (aI r3.1)),(17,va [aI r4.1.Ship,aI r4.1.From,aI r4.1.To,aI r4.1.Ready,aI r4.1.Due])],[(2,[aI r2.1.Forecast.Tide.Mean,aL (List.map XPart.row r2.1.Forecast.Tide.Parts),aL (List.map XSurge.row r2.1.Forecast.Surges),aL (List.map XPoint.row r2.1.Chart.Points),aL (List.map XSegment.row r2.1.Chart.Segments),aL (List.map XShip.row r2.1.Fleet),aI r2.1.Regime.Gap,aB r2.1.Regime.NoMeet,aI r2.1.Crew.Tugs,aI r2.1.Crew.Pilots,aI r2.1.Crew.Rest,aL (List.map rI r2.1.Crew.Moves)]),(3,[aI r4.1.Ship,aI r4.1.From,aI r4.1.To,aI r4.1.Ready,aI r4.1.Due]),(7,[aL (List.map r8 r4.2.b),aI r4.2.i,aI r4.2.h]),(5,[aI r2.1.Forecast.Tide.Mean,aL (List.map XPart.row r2.1.Forecast.Tide.Parts),aL (List.map XSurge.row r2.1.Forecast.Surges),aL (List.map XPoint.row r2.1.Chart.Points),aL (List.map XSegment.row r2.1.Chart.Segments),aL (List.map XShip.row r2.1.Fleet),aI r2.1.Regime.Gap,aB r2.1.Regime.NoMeet,aI r2.1.Crew.Tugs,aI r2.1.Crew.Pilots,aI r2.1.Crew.Rest,aL (List.map rI r2.1.Crew.Moves)])],[]⟩ f [b0,b1,true,b3,b4,true,true,false,false,false] ⟨[(2,vc (.pb 2 0)),(3,vc (.pb 3 0)),(4,vc (.pb 7 0)),(5,vc (.pb 5 0)),(10,bif b0 then va [aI r2.1.Forecast.Tide.Mean,aL (List.map XPart.row r2.1.Forecast.Tide.Parts),aL (List.map XSurge.row r2.1.Forecast.Surges),aL (List.map XPoint.row r2.1.Chart.Points),aL (List.map XSegment.row r2.1.Chart.Segments),aL (List.map XShip.row r2.1.Fleet),aI r2.1.Regime.Gap,aB r2.1.Regime.NoMeet,aI r2.1.Crew.Tugs,aI r2.1.Crew.Pilots,aI r2.1.Crew.Rest,aL (List.map rI r2.1.Crew.Moves)] else .undef),(11,bif b1 then vc (.pb 7 0) else .undef),(12,vc (.pb 7 0)),(13,bif b3 then vc (.pb 5 5) else .undef),(14,bif b4 then vc (aL (List.map XShip.row r2.1.Fleet)) else .undef),(15,vc (aI (r2.1.Fleet.length : Int))),(16,vc (aI r3.1)),(17,.undef)],[(2,[aI (0 : Int),.nil,.nil,.nil,.nil,.nil,aI (0 : Int),aB false,aI (0 : Int),aI (0 : Int),aI (0 : Int),.nil]),(3,[aI (0 : Int),aI (0 : Int),aI (0 : Int),aI (0 : Int),aI (0 : Int)]),(7,[aL (List.map r8 r3.2.b),aI r3.2.i,aI r3.2.h]),(5,[aI r2.1.Forecast.Tide.Mean,aL (List.map XPart.row r2.1.Forecast.Tide.Parts),aL (List.map XSurge.row r2.1.Forecast.Surges),aL (List.map XPoint.row r2.1.Chart.Points),aL (List.map XSegment.row r2.1.Chart.Segments),aL (List.map XShip.row r2.1.Fleet),aI r2.1.Regime.Gap,aB r2.1.Regime.NoMeet,aI r2.1.Crew.Tugs,aI r2.1.Crew.Pilots,aI r2.1.Crew.Rest,aL (List.map rI r2.1.Crew.Moves)])],[]⟩ := by
 intro f
 induction f with
 | zero => intro b0 b1 b3 b4 h; simp at h
 | succ f ih =>
  intro b0 b1 b3 b4
  refine C3 ⟨?_,?_,?_,?_,?_,?_,?_,?_,?_,?_,trivial⟩
  ·intro h0 hw
   obtain rfl : b0 = false := Option.some.inj h0
   refine ⟨[],[],rfl,rfl,?_⟩
   simp only [List.nil_append,List.cons_append]
   try simp only [A1,ua,ub,uc,ud,ue,RR]
   exact ih true b1 b3 b4
  ·intro h0 hw
   obtain rfl : b1 = false := Option.some.inj h0
   refine ⟨[],[],rfl,rfl,?_⟩
   simp only [List.nil_append,List.cons_append]
   try simp only [A1,ua,ub,uc,ud,ue,RR]
   exact ih b0 true b3 b4
  ·intro h; cases h
  ·intro h0 hw
   obtain rfl : b3 = false := Option.some.inj h0
   refine ⟨[],[],rfl,rfl,?_⟩
   simp only [List.nil_append,List.cons_append]
   try simp only [A1,ua,ub,uc,ud,ue,RR]
   exact ih b0 b1 true b4
  ·intro h0 hw
   obtain rfl : b4 = false := Option.some.inj h0
   obtain rfl : b3 = true := Option.some.inj (hw 3 (by simp))
   refine ⟨[],[],rfl,rfl,?_⟩
   simp only [List.nil_append,List.cons_append]
   try simp only [A1,ua,ub,uc,ud,ue,RR]
   exact ih b0 b1 true true
  ·intro h; cases h
  ·intro h; cases h
  ·intro h0 hw
   obtain rfl : b1 = true := Option.some.inj (hw 1 (by simp))
   refine ⟨[],[],rfl,rfl,?_⟩
   simp only [List.nil_append,List.cons_append]
   try simp only [A1,ua,ub,uc,ud,ue,RR]
   refine B2 (B2e _ _ _ hr4) 7 rfl rfl rfl ?_
   try simp only [A1,ua,ub,uc,ud,ue,RR]
   exact E2p r2 r3 r4 hr3 hr4 _ b0 b3 b4
  ·intro _ hw; have := hw 7 (by simp); cases this
  ·intro _ hw; have := hw 7 (by simp); cases this
theorem E2g (r2 : XHarbour × Xl01Cur) (r3 : Int × Xl01Cur) (r4 : XCall × Xl01Cur) (hr3 : A5 r2.2 (r2.1.Fleet.length : Int) = some r3) (hr4 : J9 r3.2 r3.1 = some r4) : ∀ (f : Nat) (b0 : Bool) (b1 : Bool) (b2 : Bool) (b3 : Bool) (b4 : Bool) (b5 : Bool),F2 Try.prog O8 ⟨[(2,vc (.pb 2 0)),(3,vc (.pb 3 0)),(4,vc (.pb 7 0)),(5,vc (.pb 5 0)),(10,va [aI r2.1.Forecast.Tide.Mean,aL (List.map XPart.row r2.1.Forecast.Tide.Parts),aL (List.map XSurge.row r2.1.Forecast.Surges),aL (List.map XPoint.row r2.1.Chart.Points),aL (List.map XSegment.row r2.1.Chart.Segments),aL (List.map XShip.row r2.1.Fleet),aI r2.1.Regime.Gap,aB r2.1.Regime.NoMeet,aI r2.1.Crew.Tugs,aI r2.1.Crew.Pilots,aI r2.1.Crew.Rest,aL (List.map rI r2.1.Crew.Moves)]),(11,vc (.pb 7 0)),(12,vc (.pb 7 0)),(13,vc (.pb 5 5)),(14,vc (aL (List.map XShip.row r2.1.Fleet))),(15,vc (aI (r2.1.Fleet.length : Int))),(16,vc (aI r3.1)),(17,va [aI r4.1.Ship,aI r4.1.From,aI r4.1.To,aI r4.1.Ready,aI r4.1.Due])],[(2,[aI r2.1.Forecast.Tide.Mean,aL (List.map XPart.row r2.1.Forecast.Tide.Parts),aL (List.map XSurge.row r2.1.Forecast.Surges),aL (List.map XPoint.row r2.1.Chart.Points),aL (List.map XSegment.row r2.1.Chart.Segments),aL (List.map XShip.row r2.1.Fleet),aI r2.1.Regime.Gap,aB r2.1.Regime.NoMeet,aI r2.1.Crew.Tugs,aI r2.1.Crew.Pilots,aI r2.1.Crew.Rest,aL (List.map rI r2.1.Crew.Moves)]),(3,[aI r4.1.Ship,aI r4.1.From,aI r4.1.To,aI r4.1.Ready,aI r4.1.Due]),(7,[aL (List.map r8 r4.2.b),aI r4.2.i,aI r4.2.h]),(5,[aI r2.1.Forecast.Tide.Mean,aL (List.map XPart.row r2.1.Forecast.Tide.Parts),aL (List.map XSurge.row r2.1.Forecast.Surges),aL (List.map XPoint.row r2.1.Chart.Points),aL (List.map XSegment.row r2.1.Chart.Segments),aL (List.map XShip.row r2.1.Fleet),aI r2.1.Regime.Gap,aB r2.1.Regime.NoMeet,aI r2.1.Crew.Tugs,aI r2.1.Crew.Pilots,aI r2.1.Crew.Rest,aL (List.map rI r2.1.Crew.Moves)])],[]⟩ f [b0,b1,b2,b3,b4,b5,false,false,false,false] ⟨[(2,vc (.pb 2 0)),(3,vc (.pb 3 0)),(4,vc (.pb 7 0)),(5,vc (.pb 5 0)),(10,bif b0 then va [aI r2.1.Forecast.Tide.Mean,aL (List.map XPart.row r2.1.Forecast.Tide.Parts),aL (List.map XSurge.row r2.1.Forecast.Surges),aL (List.map XPoint.row r2.1.Chart.Points),aL (List.map XSegment.row r2.1.Chart.Segments),aL (List.map XShip.row r2.1.Fleet),aI r2.1.Regime.Gap,aB r2.1.Regime.NoMeet,aI r2.1.Crew.Tugs,aI r2.1.Crew.Pilots,aI r2.1.Crew.Rest,aL (List.map rI r2.1.Crew.Moves)] else .undef),(11,bif b1 then vc (.pb 7 0) else .undef),(12,bif b2 then vc (.pb 7 0) else .undef),(13,bif b3 then vc (.pb 5 5) else .undef),(14,bif b4 then vc (aL (List.map XShip.row r2.1.Fleet)) else .undef),(15,bif b5 then vc (aI (r2.1.Fleet.length : Int)) else .undef),(16,.undef),(17,.undef)],[(2,[aI (0 : Int),.nil,.nil,.nil,.nil,.nil,aI (0 : Int),aB false,aI (0 : Int),aI (0 : Int),aI (0 : Int),.nil]),(3,[aI (0 : Int),aI (0 : Int),aI (0 : Int),aI (0 : Int),aI (0 : Int)]),(7,[aL (List.map r8 r2.2.b),aI r2.2.i,aI r2.2.h]),(5,[aI r2.1.Forecast.Tide.Mean,aL (List.map XPart.row r2.1.Forecast.Tide.Parts),aL (List.map XSurge.row r2.1.Forecast.Surges),aL (List.map XPoint.row r2.1.Chart.Points),aL (List.map XSegment.row r2.1.Chart.Segments),aL (List.map XShip.row r2.1.Fleet),aI r2.1.Regime.Gap,aB r2.1.Regime.NoMeet,aI r2.1.Crew.Tugs,aI r2.1.Crew.Pilots,aI r2.1.Crew.Rest,aL (List.map rI r2.1.Crew.Moves)])],[]⟩ := by
 intro f
 induction f with
 | zero => intro b0 b1 b2 b3 b4 b5 h; simp at h
 | succ f ih =>
  intro b0 b1 b2 b3 b4 b5
  refine C3 ⟨?_,?_,?_,?_,?_,?_,?_,?_,?_,?_,trivial⟩
  ·intro h0 hw
   obtain rfl : b0 = false := Option.some.inj h0
   refine ⟨[],[],rfl,rfl,?_⟩
   simp only [List.nil_append,List.cons_append]
   try simp only [A1,ua,ub,uc,ud,ue,RR]
   exact ih true b1 b2 b3 b4 b5
  ·intro h0 hw
   obtain rfl : b1 = false := Option.some.inj h0
   refine ⟨[],[],rfl,rfl,?_⟩
   simp only [List.nil_append,List.cons_append]
   try simp only [A1,ua,ub,uc,ud,ue,RR]
   exact ih b0 true b2 b3 b4 b5
  ·intro h0 hw
   obtain rfl : b2 = false := Option.some.inj h0
   refine ⟨[],[],rfl,rfl,?_⟩
   simp only [List.nil_append,List.cons_append]
   try simp only [A1,ua,ub,uc,ud,ue,RR]
   exact ih b0 b1 true b3 b4 b5
  ·intro h0 hw
   obtain rfl : b3 = false := Option.some.inj h0
   refine ⟨[],[],rfl,rfl,?_⟩
   simp only [List.nil_append,List.cons_append]
   try simp only [A1,ua,ub,uc,ud,ue,RR]
   exact ih b0 b1 b2 true b4 b5
  ·intro h0 hw
   obtain rfl : b4 = false := Option.some.inj h0
   obtain rfl : b3 = true := Option.some.inj (hw 3 (by simp))
   refine ⟨[],[],rfl,rfl,?_⟩
   simp only [List.nil_append,List.cons_append]
   try simp only [A1,ua,ub,uc,ud,ue,RR]
   exact ih b0 b1 b2 true true b5
  ·intro h0 hw
   obtain rfl : b5 = false := Option.some.inj h0
   obtain rfl : b4 = true := Option.some.inj (hw 4 (by simp))
   refine ⟨[],[],rfl,rfl,?_⟩
   simp only [List.nil_append,List.cons_append]
   try simp only [A1,ua,ub,uc,ud,ue,RR]
   exact ih b0 b1 b2 b3 true true
  ·intro h0 hw
   obtain rfl : b2 = true := Option.some.inj (hw 2 (by simp))
   obtain rfl : b5 = true := Option.some.inj (hw 5 (by simp))
   refine ⟨[],[],rfl,rfl,?_⟩
   simp only [List.nil_append,List.cons_append]
   try simp only [A1,ua,ub,uc,ud,ue,RR]
   refine B2 (B0 _ _ _ hr3) 7 rfl rfl rfl ?_
   try simp only [A1,ua,ub,uc,ud,ue,RR]
   exact E1s r2 r3 r4 hr3 hr4 _ b0 b1 b3 b4
  ·intro _ hw; have := hw 6 (by simp); cases this
  ·intro _ hw; have := hw 7 (by simp); cases this
  ·intro _ hw; have := hw 7 (by simp); cases this
theorem E2r : A9 Try.prog 4 = some (cc86.strip,[.c 2 true 12,.c 3 true 5],18) := by kernel_rfl
theorem B1c (a0 : List Int) (r : XHarbour × XCall) (h : A0d a0 = some r) : FC Try.prog 4 [.sc (.sl (List.map r8 a0))] [.ag [.v (.int .i64 r.1.Forecast.Tide.Mean),.v (.sl (List.map XPart.row r.1.Forecast.Tide.Parts)),.v (.sl (List.map XSurge.row r.1.Forecast.Surges)),.v (.sl (List.map XPoint.row r.1.Chart.Points)),.v (.sl (List.map XSegment.row r.1.Chart.Segments)),.v (.sl (List.map XShip.row r.1.Fleet)),.v (.int .i64 r.1.Regime.Gap),.v (.bool r.1.Regime.NoMeet),.v (.int .i64 r.1.Crew.Tugs),.v (.int .i64 r.1.Crew.Pilots),.v (.int .i64 r.1.Crew.Rest),.v (.sl (List.map rI r.1.Crew.Moves))],.ag [.v (.int .i64 r.2.Ship),.v (.int .i64 r.2.From),.v (.int .i64 r.2.To),.v (.int .i64 r.2.Ready),.v (.int .i64 r.2.Due)]] := by
 unfold A0d at h
 refine B9 (σ := ⟨[(0,vc (aL (List.map r8 a0)))],[],[]⟩) B3 E2r rfl rfl ?_
 simp only [cc86]
 try simp only [ua,ub,uc,ud,ue,RR]
 refine D2 rfl rfl ?_
 try simp only [ua,ub,uc,ud,ue,RR]
 refine D2 rfl rfl ?_
 obtain ⟨r1,hr1,h⟩ := ob h
 try simp only [ua,ub,uc,ud,ue,RR]
 refine C7f (B4k _ _ hr1) rfl rfl ?_
 obtain ⟨r2,hr2,h⟩ := ob h
 try simp only [ua,ub,uc,ud,ue,RR]
 refine B2 (A9p _ _ hr2) 7 rfl rfl rfl ?_
 try simp only [ua,ub,uc,ud,ue,RR]
 refine D2 rfl rfl ?_
 try simp only [ua,ub,uc,ud,ue,RR]
 obtain ⟨r3,hr3,h⟩ := ob h
 obtain ⟨r4,hr4,h⟩ := ob h
 refine A3a (ks := [2,3,4,5]) (bs := [2,3,7,5]) (rs := []) (τ := ⟨[(2,vc (.pb 2 0)),(3,vc (.pb 3 0)),(4,vc (.pb 7 0)),(5,vc (.pb 5 0)),(10,va [aI r2.1.Forecast.Tide.Mean,aL (List.map XPart.row r2.1.Forecast.Tide.Parts),aL (List.map XSurge.row r2.1.Forecast.Surges),aL (List.map XPoint.row r2.1.Chart.Points),aL (List.map XSegment.row r2.1.Chart.Segments),aL (List.map XShip.row r2.1.Fleet),aI r2.1.Regime.Gap,aB r2.1.Regime.NoMeet,aI r2.1.Crew.Tugs,aI r2.1.Crew.Pilots,aI r2.1.Crew.Rest,aL (List.map rI r2.1.Crew.Moves)]),(11,vc (.pb 7 0)),(12,vc (.pb 7 0)),(13,vc (.pb 5 5)),(14,vc (aL (List.map XShip.row r2.1.Fleet))),(15,vc (aI (r2.1.Fleet.length : Int))),(16,vc (aI r3.1)),(17,va [aI r4.1.Ship,aI r4.1.From,aI r4.1.To,aI r4.1.Ready,aI r4.1.Due])],[(2,[aI r2.1.Forecast.Tide.Mean,aL (List.map XPart.row r2.1.Forecast.Tide.Parts),aL (List.map XSurge.row r2.1.Forecast.Surges),aL (List.map XPoint.row r2.1.Chart.Points),aL (List.map XSegment.row r2.1.Chart.Segments),aL (List.map XShip.row r2.1.Fleet),aI r2.1.Regime.Gap,aB r2.1.Regime.NoMeet,aI r2.1.Crew.Tugs,aI r2.1.Crew.Pilots,aI r2.1.Crew.Rest,aL (List.map rI r2.1.Crew.Moves)]),(3,[aI r4.1.Ship,aI r4.1.From,aI r4.1.To,aI r4.1.Ready,aI r4.1.Due]),(7,[aL (List.map r8 r4.2.b),aI r4.2.i,aI r4.2.h]),(5,[aI r2.1.Forecast.Tide.Mean,aL (List.map XPart.row r2.1.Forecast.Tide.Parts),aL (List.map XSurge.row r2.1.Forecast.Surges),aL (List.map XPoint.row r2.1.Chart.Points),aL (List.map XSegment.row r2.1.Chart.Segments),aL (List.map XShip.row r2.1.Fleet),aI r2.1.Regime.Gap,aB r2.1.Regime.NoMeet,aI r2.1.Crew.Tugs,aI r2.1.Crew.Pilots,aI r2.1.Crew.Rest,aL (List.map rI r2.1.Crew.Moves)])],[]⟩) rfl (E2g r2 r3 r4 hr3 hr4 _ false false false false false false) ?_
 try simp only [ua,ub,uc,ud,ue,RR]
 cases h
 try simp only [T8,ua,ub,uc,ud,ue,RR]
 exact ⟨⟨⟨rfl,rfl,rfl,rfl,rfl,rfl,rfl,rfl,rfl,rfl,rfl,rfl,trivial⟩,⟨rfl,rfl,rfl,rfl,rfl,trivial⟩,trivial⟩,rfl⟩
/- 52: impl_within -/
def cc93 : ACode := (.seq (.reg [(none,.mv 6 (KB false))]) (.seq (.reg [mv 7 1,mv 8 0,bn 9 .leq 7 8,mv 10 9,(some (10,true),.mv 11 (S 0)),(some (10,true),.mv 12 (S 2)),(some (10,true),.bin 13 .leq (S 11) (S 12)),(none,.pick 14 (S 10) (S 13) (KB false)),mv 6 14]) .ret))
theorem E2d : A9 Try.prog 52 = some (cc93.strip,[6],15) := by kernel_rfl
theorem D3 (a0 : Int) (a1 : Int) (a2 : Int) (r : Bool) (h : C5 a0 a1 a2 = some r) : FC Try.prog 52 [.sc (.int .i64 a0),.sc (.int .i64 a1),.sc (.int .i64 a2)] [.sc (.v (.bool r))] := by
 unfold C5 at h
 refine B9 (σ := ⟨[(0,vc (aI a0)),(1,vc (aI a1)),(2,vc (aI a2))],[],[]⟩) B3 E2d rfl rfl ?_
 simp only [cc93]
 rcases ug (decide (a1 ≤ a0)) with hb1 | hb1
 ·rw [A4 hb1] at h
  try simp only [hb1,ua,ub,uc,ud,ue,RR]
  cases h
  exact ⟨⟨rfl,trivial⟩,rfl⟩
 ·rw [A3 hb1] at h
  try simp only [hb1,ua,ub,uc,ud,ue,RR]
  cases h
  exact ⟨⟨rfl,trivial⟩,rfl⟩
/- 87: impl_isPeriod -/
def cc95 : ACode := (.seq (.reg [(none,.mv 2 (KB false))]) (.seq (.reg [mv 3 0,(none,.call 4 52 [(S 3),(K 4),(K 2880)]),mv 5 4,(some (5,true),.mv 6 (S 0)),(some (5,true),.bin 7 .rem (S 6) (K 4)),(some (5,true),.bin 8 .eql (S 7) (K 0)),(none,.pick 9 (S 5) (S 8) (KB false)),mv 2 9]) .ret))
theorem E3a : A9 Try.prog 87 = some (cc95.strip,[2],10) := by kernel_rfl
theorem A50 (a0 : Int) (r : Bool) (h : U7 a0 = some r) : FC Try.prog 87 [.sc (.int .i64 a0)] [.sc (.v (.bool r))] := by
 unfold U7 at h
 refine B9 (σ := ⟨[(0,vc (aI a0))],[],[]⟩) B3 E3a rfl rfl ?_
 simp only [cc95]
 obtain ⟨r1,hr1,h⟩ := ob h
 try simp only [ua,ub,uc,ud,ue,RR]
 refine A6 (D3 _ _ _ _ hr1) rfl rfl (uf rfl) ?_
 rcases ug r1 with hb2 | hb2
 ·rw [A4 hb2] at h
  try simp only [hb2,ua,ub,uc,ud,ue,RR]
  cases h
  exact ⟨⟨rfl,trivial⟩,rfl⟩
 ·rw [A3 hb2] at h
  try simp only [hb2,ua,ub,uc,ud,ue,RR]
  cases h
  exact ⟨⟨rfl,trivial⟩,rfl⟩
/- 76: impl_PartOk -/
def cc97 : ACode := (.seq (.reg [(none,.box 1 (S 0)),(none,.mv 2 (KB false))]) (.seq (.reg [fa 3 1 0,ld 4 3,(none,.call 5 52 [(S 4),(K 0),(K 1000)]),mv 6 5,(some (6,true),.faddr 7 (S 1) 1),(some (6,true),.load 8 (S 7) false 1),(some (6,true),.call 9 87 [(S 8)]),(none,.pick 10 (S 6) (S 9) (KB false)),mv 11 10,(some (11,true),.faddr 12 (S 1) 2),(some (11,true),.load 13 (S 12) false 1),(some (11,true),.faddr 14 (S 1) 1),(some (11,true),.load 15 (S 14) false 1),(some (11,true),.bin 16 .sub (S 15) (K 1)),(some (11,true),.call 17 52 [(S 13),(K 0),(S 16)]),(none,.pick 18 (S 11) (S 17) (KB false)),mv 2 18]) .ret))
theorem E19 : A9 Try.prog 76 = some (cc97.strip,[2],19) := by kernel_rfl
theorem B4s (a0 : XPart) (r : Bool) (h : A1d a0 = some r) : FC Try.prog 76 [.ag (XPart.row a0)] [.sc (.v (.bool r))] := by
 unfold A1d at h
 refine B9 (σ := ⟨[(0,va [aI a0.Amp,aI a0.Period,aI a0.Phase])],[],[]⟩) B3 E19 rfl rfl ?_
 simp only [cc97]
 try simp only [ua,ub,uc,ud,ue,RR]
 refine B5 rfl rfl rfl ?_
 obtain ⟨r1,hr1,h⟩ := ob h
 try simp only [ua,ub,uc,ud,ue,RR]
 refine A6 (D3 _ _ _ _ hr1) rfl rfl (uf rfl) ?_
 rcases ug r1 with hb2 | hb2
 ·rw [A4 hb2] at h
  obtain ⟨r3,hr3,h⟩ := ob h
  try simp only [hb2,ua,ub,uc,ud,ue,RR]
  refine A6 (A50 _ _ hr3) rfl rfl (uf rfl) ?_
  rcases ug r3 with hb4 | hb4
  ·rw [A4 hb4] at h
   obtain ⟨r5,hr5,h⟩ := ob h
   try simp only [hb2,hb4,ua,ub,uc,ud,ue,RR]
   refine A6 (D3 _ _ _ _ hr5) rfl rfl (uf rfl) ?_
   try simp only [hb2,hb4,ua,ub,uc,ud,ue,RR]
   cases h
   exact ⟨⟨rfl,trivial⟩,rfl⟩
  ·rw [A3 hb4] at h
   try simp only [hb2,hb4,ua,ub,uc,ud,ue,RR]
   cases h
   exact ⟨⟨rfl,trivial⟩,rfl⟩
 ·rw [A3 hb2] at h
  try simp only [hb2,ua,ub,uc,ud,ue,RR]
  cases h
  exact ⟨⟨rfl,trivial⟩,rfl⟩
/- 53: impl_TideOk -/
def C0z : ACode := .seq (.reg [(none,.keep [16,17,18] [] [])]) (.seq (.reg [bn 19 .lss 18 17]) (.seq (.cond (S 19) .skip (.exit 0)) (.seq (.block 1 (.seq (.reg [(none,.iaddr 20 (S 16) (S 18) 3),(none,.load 21 (S 20) true 3),(none,.alloc 4 [aI 0,aI 0,aI 0]),(none,.store (S 4) (S 21) 3)]) (.seq (.reg [(none,.load 22 (S 4) true 3),(none,.call 23 76 [(S 22)]),(none,.un 24 .not (S 23))]) (.cond (S 24) (.seq (.reg [(none,.mv 2 (KB false))]) .ret) .skip)))) (.reg [(none,.bin 25 .add (S 18) (K 1)),mv 18 25]))))
def C1m : ACode := (.seq (.reg [(none,.mv 2 (KB true))]) .ret)
def cc101 : ACode := (.seq (.reg [(none,.box 1 (S 0)),(none,.mv 2 (KB false))]) (.seq (.seq (.reg [fa 5 1 0,ld 6 5,(none,.call 7 52 [(S 6),(K (-1000)),(K 1000)]),(none,.un 8 .not (S 7)),mv 9 8,(some (9,false),.faddr 10 (S 1) 1),(some (9,false),.load 11 (S 10) false 1),(some (9,false),.len 12 (S 11)),(some (9,false),.bin 13 .gtr (S 12) (K 4)),(none,.pick 14 (S 9) (KB true) (S 13))]) (.cond (S 14) (.seq (.reg [(none,.mv 2 (KB false))]) .ret) .skip)) (.seq (.seq (.reg [fa 15 1 1,ld 16 15,(none,.len 17 (S 16)),(none,.mv 18 (K 0))]) (.block 0 (.loop C0z))) C1m)))
theorem D88 (a0 : XTide) : ∀ (n : Nat) (v4 : Int) (r : Bool),P6 a0 n v4 = some r → ∀ σ : St,σ.kept [16,17,18] [] [] = ⟨[(16,vc (aL (List.map XPart.row a0.Parts))),(17,vc (aI (a0.Parts.length : Int))),(18,vc (aI v4))],[],[]⟩ → go Try.prog (.code (.loop C0z) :: [.blk 0,.code C1m]) (Ret [2] [.sc (.v (.bool r))]) .normal (some σ) := by
 intro n
 induction n with
 | zero => intro _ r h; cases h
 | succ n ih =>
  intro v4 r h σ hσ
  rw [P6] at h
  refine B8 ?_
  rcases ug (decide (v4 < (a0.Parts.length : Int))) with hb5 | hb5
  ·rw [A4 hb5] at h
   obtain ⟨x6,hx6,h⟩ := ob h
   try simp only [hσ,hb5,hx6,C0z,ua,ub,uc,ud,ue,RR]
   refine D2 rfl rfl ?_
   obtain ⟨r7,hr7,h⟩ := ob h
   try simp only [hb5,hx6,ua,ub,uc,ud,ue,RR]
   refine A6 (B4s _ _ hr7) rfl rfl (uf rfl) ?_
   rcases ug r7 with hb8 | hb8
   ·rw [A4 hb8] at h
    try simp only [hb5,hx6,hb8,ua,ub,uc,ud,ue,RR]
    refine ih _ _ h _ ?_
    try simp only [hb5,hx6,hb8,ua,ub,uc,ud,ue,RR,List.map_nil]
   ·rw [A3 hb8] at h
    try simp only [hb5,hx6,hb8,ua,ub,uc,ud,ue,RR]
    cases h
    exact ⟨⟨rfl,trivial⟩,rfl⟩
  ·rw [A3 hb5] at h
   try simp only [hσ,hb5,C0z,C1m,ua,ub,uc,ud,ue,RR]
   cases h
   exact ⟨⟨rfl,trivial⟩,rfl⟩
theorem E0q : A9 Try.prog 53 = some (cc101.strip,[2],26) := by kernel_rfl
theorem B4j (a0 : XTide) (r : Bool) (h : A07 a0 = some r) : FC Try.prog 53 [.ag (XTide.row a0)] [.sc (.v (.bool r))] := by
 unfold A07 at h
 refine B9 (σ := ⟨[(0,va [aI a0.Mean,aL (List.map XPart.row a0.Parts)])],[],[]⟩) B3 E0q rfl rfl ?_
 simp only [cc101]
 try simp only [ua,ub,uc,ud,ue,RR]
 refine B5 rfl rfl rfl ?_
 obtain ⟨r1,hr1,h⟩ := ob h
 try simp only [ua,ub,uc,ud,ue,RR]
 refine A6 (D3 _ _ _ _ hr1) rfl rfl (uf rfl) ?_
 rcases ug r1 with hb2 | hb2
 ·rw [A4 hb2] at h
  rcases ug (decide ((4 : Int) < (a0.Parts.length : Int))) with hb3 | hb3
  ·rw [A4 hb3] at h
   try simp only [hb2,hb3,ua,ub,uc,ud,ue,RR]
   cases h
   exact ⟨⟨rfl,trivial⟩,rfl⟩
  ·rw [A3 hb3] at h
   try simp only [hb2,hb3,ua,ub,uc,ud,ue,RR]
   refine D88 _ _ _ _ h _ ?_
   try simp only [hb2,hb3,ua,ub,uc,ud,ue,RR,List.map_nil]
 ·rw [A3 hb2] at h
  try simp only [hb2,ua,ub,uc,ud,ue,RR]
  cases h
  exact ⟨⟨rfl,trivial⟩,rfl⟩
/- 24: impl_isMinute -/
def cc104 : ACode := (.seq (.reg [(none,.mv 2 (KB false))]) (.seq (.reg [mv 3 0,(none,.call 4 52 [(S 3),(K 0),(K 2880)]),mv 2 4]) .ret))
theorem D65 : A9 Try.prog 24 = some (cc104.strip,[2],5) := by kernel_rfl
theorem N4 (a0 : Int) (r : Bool) (h : G3 a0 = some r) : FC Try.prog 24 [.sc (.int .i64 a0)] [.sc (.v (.bool r))] := by
 unfold G3 at h
 refine B9 (σ := ⟨[(0,vc (aI a0))],[],[]⟩) B3 D65 rfl rfl ?_
 simp only [cc104]
 obtain ⟨r1,hr1,h⟩ := ob h
 try simp only [ua,ub,uc,ud,ue,RR]
 refine A6 (D3 _ _ _ _ hr1) rfl rfl (uf rfl) ?_
 try simp only [ua,ub,uc,ud,ue,RR]
 cases h
 exact ⟨⟨rfl,trivial⟩,rfl⟩
/- 54: impl_SurgeOk -/
def cc106 : ACode := (.seq (.reg [(none,.box 1 (S 0)),(none,.mv 2 (KB false))]) (.seq (.reg [fa 3 1 0,ld 4 3,(none,.call 5 24 [(S 4)]),mv 6 5,(some (6,true),.faddr 7 (S 1) 1),(some (6,true),.load 8 (S 7) false 1),(some (6,true),.bin 9 .leq (K (-500)) (S 8)),(none,.pick 10 (S 6) (S 9) (KB false)),mv 11 10,(some (11,true),.faddr 12 (S 1) 1),(some (11,true),.load 13 (S 12) false 1),(some (11,true),.faddr 14 (S 1) 2),(some (11,true),.load 15 (S 14) false 1),(some (11,true),.bin 16 .leq (S 13) (S 15)),(none,.pick 17 (S 11) (S 16) (KB false)),mv 18 17,(some (18,true),.faddr 19 (S 1) 2),(some (18,true),.load 20 (S 19) false 1),(some (18,true),.bin 21 .leq (S 20) (K 500)),(none,.pick 22 (S 18) (S 21) (KB false)),mv 2 22]) .ret))
theorem D7x : A9 Try.prog 54 = some (cc106.strip,[2],23) := by kernel_rfl
theorem B2g (a0 : XSurge) (r : Bool) (h : A0x a0 = some r) : FC Try.prog 54 [.ag (XSurge.row a0)] [.sc (.v (.bool r))] := by
 unfold A0x at h
 refine B9 (σ := ⟨[(0,va [aI a0.From,aI a0.Low,aI a0.High])],[],[]⟩) B3 D7x rfl rfl ?_
 simp only [cc106]
 try simp only [ua,ub,uc,ud,ue,RR]
 refine B5 rfl rfl rfl ?_
 obtain ⟨r1,hr1,h⟩ := ob h
 try simp only [ua,ub,uc,ud,ue,RR]
 refine A6 (N4 _ _ hr1) rfl rfl (uf rfl) ?_
 rcases ug r1 with hb2 | hb2
 ·rw [A4 hb2] at h
  rcases ug (decide ((-500 : Int) ≤ a0.Low)) with hb3 | hb3
  ·rw [A4 hb3] at h
   rcases ug (decide (a0.Low ≤ a0.High)) with hb4 | hb4
   ·rw [A4 hb4] at h
    try simp only [hb2,hb3,hb4,ua,ub,uc,ud,ue,RR]
    cases h
    exact ⟨⟨rfl,trivial⟩,rfl⟩
   ·rw [A3 hb4] at h
    try simp only [hb2,hb3,hb4,ua,ub,uc,ud,ue,RR]
    cases h
    exact ⟨⟨rfl,trivial⟩,rfl⟩
  ·rw [A3 hb3] at h
   try simp only [hb2,hb3,ua,ub,uc,ud,ue,RR]
   cases h
   exact ⟨⟨rfl,trivial⟩,rfl⟩
 ·rw [A3 hb2] at h
  try simp only [hb2,ua,ub,uc,ud,ue,RR]
  cases h
  exact ⟨⟨rfl,trivial⟩,rfl⟩
/- 22: impl_ForecastOk -/
def B5r : ACode := .seq (.reg [(none,.keep [1,25,26,27] [1] [])]) (.seq (.reg [bn 28 .lss 27 26]) (.seq (.cond (S 28) .skip (.exit 0)) (.seq (.block 1 (.seq (.reg [mv 29 27,(none,.iaddr 30 (S 25) (S 27) 3),(none,.load 31 (S 30) true 3),(none,.alloc 4 [aI 0,aI 0,aI 0]),mv 3 29,(none,.store (S 4) (S 31) 3)]) (.seq (.drw [(some [],(none,.load 32 (S 4) true 3)),(some [],(none,.call 33 54 [(S 32)])),(some [],(none,.un 34 .not (S 33))),(some [],mv 35 34),(some [],(some (35,false),.mv 36 (S 3))),(some [],(some (35,false),.bin 37 .gtr (S 36) (K 0))),(some [],(some (35,false),.mv 38 (S 37))),(some [],(some (38,true),.faddr 39 (S 1) 2)),(some [],(some (38,true),.load 40 (S 39) false 1)),(some [],(some (38,true),.mv 41 (S 3))),(some [],(some (38,true),.bin 42 .sub (S 41) (K 1))),(some [],(some (38,true),.iaddr 43 (S 40) (S 42) 3)),(some [],(some (38,true),.faddr 44 (S 43) 0)),(some [],(some (38,true),.load 45 (S 44) false 1)),(some [],(some (38,true),.faddr 46 (S 4) 0)),(some [],(some (38,true),.load 47 (S 46) false 1)),(some [],(some (38,true),.bin 48 .geq (S 45) (S 47))),(some [],(some (35,false),.pick 49 (S 38) (S 48) (KB false))),(some [],(none,.pick 50 (S 35) (KB true) (S 49)))]) (.cond (S 50) (.seq (.reg [(none,.mv 2 (KB false))]) .ret) .skip)))) (.reg [(none,.bin 51 .add (S 27) (K 1)),mv 27 51]))))
def C2p : ACode := (.seq (.reg [(none,.mv 2 (KB true))]) .ret)
def cc110 : ACode := (.seq (.reg [(none,.box 1 (S 0)),(none,.mv 2 (KB false))]) (.seq (.seq (.reg [fa 5 1 0,(none,.load 6 (S 5) true 2),(none,.call 7 53 [(S 6)]),(none,.un 8 .not (S 7)),mv 9 8,(some (9,false),.faddr 10 (S 1) 2),(some (9,false),.load 11 (S 10) false 1),(some (9,false),.len 12 (S 11)),(some (9,false),.call 13 52 [(S 12),(K 1),(K 6)]),(some (9,false),.un 14 .not (S 13)),(none,.pick 15 (S 9) (KB true) (S 14)),mv 16 15,(some (16,false),.faddr 17 (S 1) 2),(some (16,false),.load 18 (S 17) false 1),(some (16,false),.iaddr 19 (S 18) (K 0) 3),(some (16,false),.faddr 20 (S 19) 0),(some (16,false),.load 21 (S 20) false 1),(some (16,false),.bin 22 .neq (S 21) (K 0)),(none,.pick 23 (S 16) (KB true) (S 22))]) (.cond (S 23) (.seq (.reg [(none,.mv 2 (KB false))]) .ret) .skip)) (.seq (.seq (.reg [fa 24 1 2,ld 25 24,(none,.len 26 (S 25)),(none,.mv 27 (K 0))]) (.block 0 (.loop B5r))) C2p)))
theorem D96 (a0 : XForecast) : ∀ (n : Nat) (v7 : Int) (r : Bool),H7 a0 n v7 = some r → ∀ σ : St,σ.kept [1,25,26,27] [1] [] = ⟨[(1,vc (.pb 1 0)),(25,vc (aL (List.map XSurge.row a0.Surges))),(26,vc (aI (a0.Surges.length : Int))),(27,vc (aI v7))],[(1,[aI a0.Tide.Mean,aL (List.map XPart.row a0.Tide.Parts),aL (List.map XSurge.row a0.Surges)])],[]⟩ → go Try.prog (.code (.loop B5r) :: [.blk 0,.code C2p]) (Ret [2] [.sc (.v (.bool r))]) .normal (some σ) := by
 intro n
 induction n with
 | zero => intro _ r h; cases h
 | succ n ih =>
  intro v7 r h σ hσ
  rw [H7] at h
  refine B8 ?_
  rcases ug (decide (v7 < (a0.Surges.length : Int))) with hb8 | hb8
  ·rw [A4 hb8] at h
   obtain ⟨x9,hx9,h⟩ := ob h
   try simp only [hσ,hb8,hx9,B5r,ua,ub,uc,ud,ue,RR]
   refine D2 rfl rfl ?_
   try simp only [hb8,hx9,ua,ub,uc,ud,ue,RR]
   refine B7 rfl ?_
   obtain ⟨r10,hr10,h⟩ := ob h
   try simp only [hb8,hx9,ua,ub,uc,ud,ue,RR]
   refine D4 (B2g _ _ hr10) rfl rfl (uf rfl) ?_
   rcases ug r10 with hb11 | hb11
   ·rw [A4 hb11] at h
    rcases ug (decide ((0 : Int) < v7)) with hb12 | hb12
    ·rw [A4 hb12] at h
     obtain ⟨x13,hx13,h⟩ := ob h
     rcases ug (decide (x9.From ≤ x13.From)) with hb14 | hb14
     ·rw [A4 hb14] at h
      try simp only [hb8,hx9,hb11,hb12,hx13,hb14,ua,ub,uc,ud,ue,RR]
      cases h
      exact ⟨⟨rfl,trivial⟩,rfl⟩
     ·rw [A3 hb14] at h
      try simp only [hb8,hx9,hb11,hb12,hx13,hb14,ua,ub,uc,ud,ue,RR]
      refine ih _ _ h _ ?_
      try simp only [hb8,hx9,hb11,hb12,hx13,hb14,ua,ub,uc,ud,ue,RR,List.map_nil]
    ·rw [A3 hb12] at h
     try simp only [hb8,hx9,hb11,hb12,ua,ub,uc,ud,ue,RR]
     refine ih _ _ h _ ?_
     try simp only [hb8,hx9,hb11,hb12,ua,ub,uc,ud,ue,RR,List.map_nil]
   ·rw [A3 hb11] at h
    try simp only [hb8,hx9,hb11,ua,ub,uc,ud,ue,RR]
    cases h
    exact ⟨⟨rfl,trivial⟩,rfl⟩
  ·rw [A3 hb8] at h
   try simp only [hσ,hb8,B5r,C2p,ua,ub,uc,ud,ue,RR]
   cases h
   exact ⟨⟨rfl,trivial⟩,rfl⟩
theorem E07 : A9 Try.prog 22 = some (cc110.strip,[2],52) := by kernel_rfl
theorem V4 (a0 : XForecast) (r : Bool) (h : H8 a0 = some r) : FC Try.prog 22 [.ag (XForecast.row a0)] [.sc (.v (.bool r))] := by
 unfold H8 at h
 refine B9 (σ := ⟨[(0,va [aI a0.Tide.Mean,aL (List.map XPart.row a0.Tide.Parts),aL (List.map XSurge.row a0.Surges)])],[],[]⟩) B3 E07 rfl rfl ?_
 simp only [cc110]
 try simp only [ua,ub,uc,ud,ue,RR]
 refine B5 rfl rfl rfl ?_
 obtain ⟨r1,hr1,h⟩ := ob h
 try simp only [ua,ub,uc,ud,ue,RR]
 refine A6 (B4j _ _ hr1) rfl rfl (uf rfl) ?_
 rcases ug r1 with hb2 | hb2
 ·rw [A4 hb2] at h
  obtain ⟨r3,hr3,h⟩ := ob h
  try simp only [hb2,ua,ub,uc,ud,ue,RR]
  refine A6 (D3 _ _ _ _ hr3) rfl rfl (uf rfl) ?_
  rcases ug r3 with hb4 | hb4
  ·rw [A4 hb4] at h
   obtain ⟨x5,hx5,h⟩ := ob h
   rcases ug (x5.From != (0 : Int)) with hb6 | hb6
   ·rw [A4 hb6] at h
    try simp only [hb2,hb4,hx5,hb6,ua,ub,uc,ud,ue,RR]
    cases h
    exact ⟨⟨rfl,trivial⟩,rfl⟩
   ·rw [A3 hb6] at h
    try simp only [hb2,hb4,hx5,hb6,ua,ub,uc,ud,ue,RR]
    refine D96 _ _ _ _ h _ ?_
    try simp only [hb2,hb4,hx5,hb6,ua,ub,uc,ud,ue,RR,List.map_nil]
  ·rw [A3 hb4] at h
   try simp only [hb2,hb4,ua,ub,uc,ud,ue,RR]
   cases h
   exact ⟨⟨rfl,trivial⟩,rfl⟩
 ·rw [A3 hb2] at h
  try simp only [hb2,ua,ub,uc,ud,ue,RR]
  cases h
  exact ⟨⟨rfl,trivial⟩,rfl⟩
/- 71: impl_IsName -/
def A6u : ACode := .seq (.reg [(none,.keep [0,3,4] [] [])]) (.seq (.reg [mv 25 4,(none,.un 26 .not (S 25)),mv 27 26,(some (27,true),.mv 28 (S 3)),(some (27,true),.bin 29 .eql (S 28) (K 0)),(some (27,true),.mv 30 (S 29)),(some (30,false),.mv 31 (S 0)),(some (30,false),.mv 32 (S 3)),(some (30,false),.idx 33 (S 31) (S 32)),(some (30,false),.bin 34 .lss (S 33) (K8 48)),(some (27,true),.pick 35 (S 30) (KB true) (S 34)),(some (27,true),.mv 36 (S 35)),(some (36,false),.mv 37 (S 0)),(some (36,false),.mv 38 (S 3)),(some (36,false),.idx 39 (S 37) (S 38)),(some (36,false),.bin 40 .gtr (S 39) (K8 57)),(some (27,true),.pick 41 (S 36) (KB true) (S 40)),(none,.pick 42 (S 27) (S 41) (KB false))]) (.cond (S 42) (.seq (.reg [(none,.mv 2 (KB false))]) .ret) .skip))
def B44 : ACode := .seq (.reg [(none,.keep [0,3] [] [])]) (.reg [mv 13 3,(none,.bin 14 .add (S 13) (K 1)),mv 3 14])
def A4p : ACode := .seq (.reg [(none,.keep [0,3] [] [])]) (.seq (.seq (.reg [mv 9 3,mv 10 0,(none,.slen 11 (S 10)),bn 12 .lss 9 11]) (.cond (S 12) .skip (.exit 0))) (.seq (.block 1 (.seq (.reg [mv 15 0,mv 16 3,(none,.idx 17 (S 15) (S 16)),(none,.bin 18 .geq (S 17) (K8 97)),mv 19 18,(some (19,true),.mv 20 (S 0)),(some (19,true),.mv 21 (S 3)),(some (19,true),.idx 22 (S 20) (S 21)),(some (19,true),.bin 23 .leq (S 22) (K8 122)),(none,.pick 24 (S 19) (S 23) (KB false)),mv 4 24]) A6u)) B44))
def A6w : ACode := (.seq (.reg [(none,.mv 2 (KB true))]) .ret)
def cc117 : ACode := (.seq (.reg [(none,.mv 2 (KB false))]) (.seq (.seq (.reg [mv 5 0,(none,.slen 6 (S 5)),(none,.call 7 52 [(S 6),(K 1),(K 8)]),(none,.un 8 .not (S 7))]) (.cond (S 8) (.seq (.reg [(none,.mv 2 (KB false))]) .ret) .skip)) (.seq (.seq (.reg [(none,.mv 3 (K 0))]) (.block 0 (.loop A4p))) A6w)))
theorem C84 (a0 : List UInt8) (v3 : Int) (k_impl_IsName_1 : Int → Option Bool) (hk_impl_IsName_1 : ∀ (v3 : Int) zr,k_impl_IsName_1 v3 = some zr → ∀ σ : St,σ.kept [0,3] [] [] = ⟨[(0,vc (aS a0)),(3,vc (aI v3))],[],[]⟩ → go Try.prog (.code (.loop A4p) :: [.blk 0,.code A6w]) (Ret [2] [.sc (.v (.bool zr))]) .normal (some σ)) (r : Bool) (h : Z8 a0 v3 k_impl_IsName_1 = some r) (σ : St) (hσ : σ.kept [0,3] [] [] = ⟨[(0,vc (aS a0)),(3,vc (aI v3))],[],[]⟩) : go Try.prog (.code B44 :: [.code (.loop A4p),.blk 0,.code A6w]) (Ret [2] [.sc (.v (.bool r))]) .normal (some σ) := by
 unfold Z8 at h
 try simp only [hσ,B44,ua,ub,uc,ud,ue,RR]
 refine hk_impl_IsName_1 _ _ h _ ?_
 try simp only [ua,ub,uc,ud,ue,RR,List.map_nil]
theorem C80 (a0 : List UInt8) (v3 : Int) (k_impl_IsName_1 : Int → Option Bool) (hk_impl_IsName_1 : ∀ (v3 : Int) zr,k_impl_IsName_1 v3 = some zr → ∀ σ : St,σ.kept [0,3] [] [] = ⟨[(0,vc (aS a0)),(3,vc (aI v3))],[],[]⟩ → go Try.prog (.code (.loop A4p) :: [.blk 0,.code A6w]) (Ret [2] [.sc (.v (.bool zr))]) .normal (some σ)) (v7 : Bool) (r : Bool) (h : Z9 a0 v3 k_impl_IsName_1 v7 = some r) (σ : St) (hσ : σ.kept [0,3,4] [] [] = ⟨[(0,vc (aS a0)),(3,vc (aI v3)),(4,vc (aB v7))],[],[]⟩) : go Try.prog (.code A6u :: [.blk 1,.code B44,.code (.loop A4p),.blk 0,.code A6w]) (Ret [2] [.sc (.v (.bool r))]) .normal (some σ) := by
 unfold Z9 at h
 rcases ug v7 with hb8 | hb8
 ·rw [A4 hb8] at h
  try simp only [hσ,hb8,A6u,ua,ub,uc,ud,ue,RR]
  refine C84 _ _ k_impl_IsName_1 hk_impl_IsName_1 _ h _ ?_
  try simp only [hb8,ua,ub,uc,ud,ue,RR,List.map_nil]
 ·rw [A3 hb8] at h
  rcases ug (v3 == (0 : Int)) with hb9 | hb9
  ·rw [A4 hb9] at h
   try simp only [hσ,hb8,hb9,A6u,ua,ub,uc,ud,ue,RR]
   cases h
   exact ⟨⟨rfl,trivial⟩,rfl⟩
  ·rw [A3 hb9] at h
   obtain ⟨b10,hb10,h⟩ := ob h
   rcases ug (decide ((b10.toNat : Int) < (48 : Int))) with hb11 | hb11
   ·rw [A4 hb11] at h
    try simp only [hσ,hb8,hb9,hb10,hb11,A6u,ua,ub,uc,ud,ue,RR]
    cases h
    exact ⟨⟨rfl,trivial⟩,rfl⟩
   ·rw [A3 hb11] at h
    rcases ug (decide ((57 : Int) < (b10.toNat : Int))) with hb12 | hb12
    ·rw [A4 hb12] at h
     try simp only [hσ,hb8,hb9,hb10,hb11,hb12,A6u,ua,ub,uc,ud,ue,RR]
     cases h
     exact ⟨⟨rfl,trivial⟩,rfl⟩
    ·rw [A3 hb12] at h
     try simp only [hσ,hb8,hb9,hb10,hb11,hb12,A6u,ua,ub,uc,ud,ue,RR]
     refine C84 _ _ k_impl_IsName_1 hk_impl_IsName_1 _ h _ ?_
     try simp only [hb8,hb9,hb10,hb11,hb12,ua,ub,uc,ud,ue,RR,List.map_nil]
theorem D8w (a0 : List UInt8) : ∀ (n : Nat) (v3 : Int) (r : Bool),I6 a0 n v3 = some r → ∀ σ : St,σ.kept [0,3] [] [] = ⟨[(0,vc (aS a0)),(3,vc (aI v3))],[],[]⟩ → go Try.prog (.code (.loop A4p) :: [.blk 0,.code A6w]) (Ret [2] [.sc (.v (.bool r))]) .normal (some σ) := by
 intro n
 induction n with
 | zero => intro _ r h; cases h
 | succ n ih =>
  intro v3 r h σ hσ
  rw [I6] at h
  refine B8 ?_
  rcases ug (decide (v3 < (a0.length : Int))) with hb4 | hb4
  ·rw [A4 hb4] at h
   obtain ⟨b5,hb5,h⟩ := ob h
   rcases ug (decide ((97 : Int) ≤ (b5.toNat : Int))) with hb6 | hb6
   ·rw [A4 hb6] at h
    try simp only [hσ,hb4,hb5,hb6,A4p,ua,ub,uc,ud,ue,RR]
    refine C80 _ _ (I6 a0 n) ih _ _ h _ ?_
    try simp only [hb4,hb5,hb6,ua,ub,uc,ud,ue,RR,List.map_nil]
   ·rw [A3 hb6] at h
    try simp only [hσ,hb4,hb5,hb6,A4p,ua,ub,uc,ud,ue,RR]
    refine C80 _ _ (I6 a0 n) ih _ _ h _ ?_
    try simp only [hb4,hb5,hb6,ua,ub,uc,ud,ue,RR,List.map_nil]
  ·rw [A3 hb4] at h
   try simp only [hσ,hb4,A4p,A6w,ua,ub,uc,ud,ue,RR]
   cases h
   exact ⟨⟨rfl,trivial⟩,rfl⟩
theorem D92 : A9 Try.prog 71 = some (cc117.strip,[2],43) := by kernel_rfl
theorem A7h (a0 : List UInt8) (r : Bool) (h : Y8 a0 = some r) : FC Try.prog 71 [.sc (.str a0)] [.sc (.v (.bool r))] := by
 unfold Y8 at h
 refine B9 (σ := ⟨[(0,vc (aS a0))],[],[]⟩) B3 D92 rfl rfl ?_
 simp only [cc117]
 obtain ⟨r1,hr1,h⟩ := ob h
 try simp only [ua,ub,uc,ud,ue,RR]
 refine A6 (D3 _ _ _ _ hr1) rfl rfl (uf rfl) ?_
 rcases ug r1 with hb2 | hb2
 ·rw [A4 hb2] at h
  try simp only [hb2,ua,ub,uc,ud,ue,RR]
  refine D8w _ _ _ _ h _ ?_
  try simp only [hb2,ua,ub,uc,ud,ue,RR,List.map_nil]
 ·rw [A3 hb2] at h
  try simp only [hb2,ua,ub,uc,ud,ue,RR]
  cases h
  exact ⟨⟨rfl,trivial⟩,rfl⟩
/- 72: impl_PointNamed -/
def B5g : ACode := .seq (.reg [(none,.keep [1,8,9,10] [] [])]) (.seq (.reg [bn 11 .lss 10 9]) (.seq (.cond (S 11) .skip (.exit 0)) (.seq (.block 1 (.seq (.reg [mv 12 10,(none,.iaddr 13 (S 8) (S 10) 2),(none,.load 14 (S 13) true 2),(none,.alloc 6 [aS [],aB false]),mv 5 12,(none,.store (S 6) (S 14) 2)]) (.seq (.reg [fa 15 6 0,ld 16 15,mv 17 1,bn 18 .eql 16 17]) (.cond (S 18) (.seq (.reg [mv 19 5,mv 4 19]) .ret) .skip)))) (.reg [(none,.bin 20 .add (S 10) (K 1)),mv 10 20]))))
def C17 : ACode := (.seq (.reg [(none,.mv 4 (K (-1)))]) .ret)
def cc124 : ACode := (.seq (.reg [(none,.box 2 (S 0)),(none,.mv 4 (K 0))]) (.seq (.seq (.reg [fa 7 2 0,ld 8 7,(none,.len 9 (S 8)),(none,.mv 10 (K 0))]) (.block 0 (.loop B5g))) C17))
theorem D6u (a1 : List UInt8) (a0 : XChart) : ∀ (n : Nat) (v1 : Int) (r : Int),K7 a1 a0 n v1 = some r → ∀ σ : St,σ.kept [1,8,9,10] [] [] = ⟨[(1,vc (aS a1)),(8,vc (aL (List.map XPoint.row a0.Points))),(9,vc (aI (a0.Points.length : Int))),(10,vc (aI v1))],[],[]⟩ → go Try.prog (.code (.loop B5g) :: [.blk 0,.code C17]) (Ret [4] [.sc (.v (.int .i64 r))]) .normal (some σ) := by
 intro n
 induction n with
 | zero => intro _ r h; cases h
 | succ n ih =>
  intro v1 r h σ hσ
  rw [K7] at h
  refine B8 ?_
  rcases ug (decide (v1 < (a0.Points.length : Int))) with hb2 | hb2
  ·rw [A4 hb2] at h
   obtain ⟨x3,hx3,h⟩ := ob h
   try simp only [hσ,hb2,hx3,B5g,ua,ub,uc,ud,ue,RR]
   refine D2 rfl rfl ?_
   rcases ug (x3.Name == a1) with hb4 | hb4
   ·rw [A4 hb4] at h
    try simp only [hb2,hx3,hb4,ua,ub,uc,ud,ue,RR]
    cases h
    exact ⟨⟨rfl,trivial⟩,rfl⟩
   ·rw [A3 hb4] at h
    try simp only [hb2,hx3,hb4,ua,ub,uc,ud,ue,RR]
    refine ih _ _ h _ ?_
    try simp only [hb2,hx3,hb4,ua,ub,uc,ud,ue,RR,List.map_nil]
  ·rw [A3 hb2] at h
   try simp only [hσ,hb2,B5g,C17,ua,ub,uc,ud,ue,RR]
   cases h
   exact ⟨⟨rfl,trivial⟩,rfl⟩
theorem D77 : A9 Try.prog 72 = some (cc124.strip,[4],21) := by kernel_rfl
theorem A9o (a0 : XChart) (a1 : List UInt8) (r : Int) (h : V7 a0 a1 = some r) : FC Try.prog 72 [.ag (XChart.row a0),.sc (.str a1)] [.sc (.v (.int .i64 r))] := by
 unfold V7 at h
 refine B9 (σ := ⟨[(0,va [aL (List.map XPoint.row a0.Points),aL (List.map XSegment.row a0.Segments)]),(1,vc (aS a1))],[],[]⟩) B3 D77 rfl rfl ?_
 simp only [cc124]
 try simp only [ua,ub,uc,ud,ue,RR]
 refine B5 rfl rfl rfl ?_
 try simp only [ua,ub,uc,ud,ue,RR]
 refine D6u _ _ _ _ _ h _ ?_
 try simp only [ua,ub,uc,ud,ue,RR,List.map_nil]
/- 51: impl_isIndex -/
def cc127 : ACode := (.seq (.reg [(none,.mv 4 (KB false))]) (.seq (.reg [mv 5 0,(none,.bin 6 .geq (S 5) (K 0)),mv 7 6,(some (7,true),.mv 8 (S 0)),(some (7,true),.mv 9 (S 1)),(some (7,true),.bin 10 .lss (S 8) (S 9)),(none,.pick 11 (S 7) (S 10) (KB false)),mv 4 11]) .ret))
theorem D6w : A9 Try.prog 51 = some (cc127.strip,[4],12) := by kernel_rfl
theorem F0 (a0 : Int) (a1 : Int) (r : Bool) (h : C7 a0 a1 = some r) : FC Try.prog 51 [.sc (.int .i64 a0),.sc (.int .i64 a1)] [.sc (.v (.bool r))] := by
 unfold C7 at h
 refine B9 (σ := ⟨[(0,vc (aI a0)),(1,vc (aI a1))],[],[]⟩) B3 D6w rfl rfl ?_
 simp only [cc127]
 rcases ug (decide ((0 : Int) ≤ a0)) with hb1 | hb1
 ·rw [A4 hb1] at h
  try simp only [hb1,ua,ub,uc,ud,ue,RR]
  cases h
  exact ⟨⟨rfl,trivial⟩,rfl⟩
 ·rw [A3 hb1] at h
  try simp only [hb1,ua,ub,uc,ud,ue,RR]
  cases h
  exact ⟨⟨rfl,trivial⟩,rfl⟩
/- 73: impl_Segment_joins -/
def cc129 : ACode := (.seq (.reg [(none,.box 3 (S 0)),(none,.mv 6 (KB false))]) (.seq (.reg [fa 7 3 0,ld 8 7,mv 9 1,bn 10 .eql 8 9,mv 11 10,(some (11,true),.faddr 12 (S 3) 1),(some (11,true),.load 13 (S 12) false 1),(some (11,true),.mv 14 (S 2)),(some (11,true),.bin 15 .eql (S 13) (S 14)),(none,.pick 16 (S 11) (S 15) (KB false)),mv 17 16,(some (17,false),.faddr 18 (S 3) 0),(some (17,false),.load 19 (S 18) false 1),(some (17,false),.mv 20 (S 2)),(some (17,false),.bin 21 .eql (S 19) (S 20)),(some (17,false),.mv 22 (S 21)),(some (22,true),.faddr 23 (S 3) 1),(some (22,true),.load 24 (S 23) false 1),(some (22,true),.mv 25 (S 1)),(some (22,true),.bin 26 .eql (S 24) (S 25)),(some (17,false),.pick 27 (S 22) (S 26) (KB false)),(none,.pick 28 (S 17) (KB true) (S 27)),mv 6 28]) .ret))
theorem E0n : A9 Try.prog 73 = some (cc129.strip,[6],29) := by kernel_rfl
theorem A7a (a0 : XSegment) (a1 : Int) (a2 : Int) (r : Bool) (h : Q3 a0 a1 a2 = some r) : FC Try.prog 73 [.ag (XSegment.row a0),.sc (.int .i64 a1),.sc (.int .i64 a2)] [.sc (.v (.bool r))] := by
 unfold Q3 at h
 refine B9 (σ := ⟨[(0,va [aI a0.A,aI a0.B,aI a0.Depth,aI a0.Minutes,aB a0.Meet]),(1,vc (aI a1)),(2,vc (aI a2))],[],[]⟩) B3 E0n rfl rfl ?_
 simp only [cc129]
 try simp only [ua,ub,uc,ud,ue,RR]
 refine B5 rfl rfl rfl ?_
 rcases ug (a0.A == a1) with hb1 | hb1
 ·rw [A4 hb1] at h
  rcases ug (a0.B == a2) with hb2 | hb2
  ·rw [A4 hb2] at h
   try simp only [hb1,hb2,ua,ub,uc,ud,ue,RR]
   cases h
   exact ⟨⟨rfl,trivial⟩,rfl⟩
  ·rw [A3 hb2] at h
   rcases ug (a0.A == a2) with hb3 | hb3
   ·rw [A4 hb3] at h
    try simp only [hb1,hb2,hb3,ua,ub,uc,ud,ue,RR]
    cases h
    exact ⟨⟨rfl,trivial⟩,rfl⟩
   ·rw [A3 hb3] at h
    try simp only [hb1,hb2,hb3,ua,ub,uc,ud,ue,RR]
    cases h
    exact ⟨⟨rfl,trivial⟩,rfl⟩
 ·rw [A3 hb1] at h
  rcases ug (a0.A == a2) with hb4 | hb4
  ·rw [A4 hb4] at h
   try simp only [hb1,hb4,ua,ub,uc,ud,ue,RR]
   cases h
   exact ⟨⟨rfl,trivial⟩,rfl⟩
  ·rw [A3 hb4] at h
   try simp only [hb1,hb4,ua,ub,uc,ud,ue,RR]
   cases h
   exact ⟨⟨rfl,trivial⟩,rfl⟩
/- 47: impl_ChartOk -/
def B5j : ACode := .seq (.reg [(none,.keep [1,20,21,22] [1] [])]) (.seq (.reg [bn 23 .lss 22 21]) (.seq (.cond (S 23) .skip (.exit 0)) (.seq (.block 1 (.seq (.reg [mv 24 22,(none,.iaddr 25 (S 20) (S 22) 2),(none,.load 26 (S 25) true 2),(none,.alloc 4 [aS [],aB false]),mv 3 24,(none,.store (S 4) (S 26) 2)]) (.seq (.reg [fa 27 4 0,ld 28 27,(none,.call 29 71 [(S 28)]),(none,.un 30 .not (S 29)),mv 31 30,(some (31,false),.load 32 (S 1) true 2),(some (31,false),.faddr 33 (S 4) 0),(some (31,false),.load 34 (S 33) false 1),(some (31,false),.call 35 72 [(S 32),(S 34)]),(some (31,false),.mv 36 (S 3)),(some (31,false),.bin 37 .neq (S 35) (S 36)),(none,.pick 38 (S 31) (KB true) (S 37))]) (.cond (S 38) (.seq (.reg [(none,.mv 2 (KB false))]) .ret) .skip)))) (.reg [(none,.bin 39 .add (S 22) (K 1)),mv 22 39]))))
def B5x : ACode := .seq (.reg [(none,.keep [1,6,41,42,43,86,87,88] [1,6] [])]) (.seq (.reg [bn 89 .lss 88 87]) (.seq (.cond (S 89) .skip (.exit 4)) (.seq (.block 5 (.seq (.reg [(none,.iaddr 90 (S 86) (S 88) 5),(none,.load 91 (S 90) true 5),(none,.alloc 8 [aI 0,aI 0,aI 0,aI 0,aB false]),(none,.store (S 8) (S 91) 5)]) (.seq (.reg [(none,.load 92 (S 8) true 5),fa 93 6 0,ld 94 93,fa 95 6 1,ld 96 95,(none,.call 97 73 [(S 92),(S 94),(S 96)])]) (.cond (S 97) (.seq (.reg [(none,.mv 2 (KB false))]) .ret) .skip)))) (.reg [(none,.bin 98 .add (S 88) (K 1)),mv 88 98]))))
def C2g : ACode := (.reg [(none,.bin 99 .add (S 43) (K 1)),mv 43 99])
def A89 : ACode := .seq (.reg [(none,.keep [1,41,42,43] [1] [])]) (.seq (.reg [bn 44 .lss 43 42]) (.seq (.cond (S 44) .skip (.exit 2)) (.seq (.block 3 (.seq (.reg [mv 45 43,(none,.iaddr 46 (S 41) (S 43) 5),(none,.load 47 (S 46) true 5),(none,.alloc 6 [aI 0,aI 0,aI 0,aI 0,aB false]),mv 5 45,(none,.store (S 6) (S 47) 5)]) (.seq (.seq (.reg [fa 48 6 0,ld 49 48,fa 50 1 0,ld 51 50,(none,.len 52 (S 51)),(none,.call 53 51 [(S 49),(S 52)]),(none,.un 54 .not (S 53)),mv 55 54,(some (55,false),.faddr 56 (S 6) 1),(some (55,false),.load 57 (S 56) false 1),(some (55,false),.faddr 58 (S 1) 0),(some (55,false),.load 59 (S 58) false 1),(some (55,false),.len 60 (S 59)),(some (55,false),.call 61 51 [(S 57),(S 60)]),(some (55,false),.un 62 .not (S 61)),(none,.pick 63 (S 55) (KB true) (S 62)),mv 64 63,(some (64,false),.faddr 65 (S 6) 0),(some (64,false),.load 66 (S 65) false 1),(some (64,false),.faddr 67 (S 6) 1),(some (64,false),.load 68 (S 67) false 1),(some (64,false),.bin 69 .eql (S 66) (S 68)),(none,.pick 70 (S 64) (KB true) (S 69)),mv 71 70,(some (71,false),.faddr 72 (S 6) 2),(some (71,false),.load 73 (S 72) false 1),(some (71,false),.call 74 52 [(S 73),(K 0),(K 3000)]),(some (71,false),.un 75 .not (S 74)),(none,.pick 76 (S 71) (KB true) (S 75)),mv 77 76,(some (77,false),.faddr 78 (S 6) 3),(some (77,false),.load 79 (S 78) false 1),(some (77,false),.call 80 52 [(S 79),(K 1),(K 240)]),(some (77,false),.un 81 .not (S 80)),(none,.pick 82 (S 77) (KB true) (S 81))]) (.cond (S 82) (.seq (.reg [(none,.mv 2 (KB false))]) .ret) .skip)) (.seq (.reg [fa 83 1 1,ld 84 83,mv 85 5,(none,.slc 86 5 (S 84) none (some (S 85)) none),(none,.len 87 (S 86)),(none,.mv 88 (K 0))]) (.block 4 (.loop B5x)))))) C2g)))
def B03 : ACode := (.seq (.reg [(none,.mv 2 (KB true))]) .ret)
def C1e : ACode := (.seq (.seq (.reg [fa 40 1 1,ld 41 40,(none,.len 42 (S 41)),(none,.mv 43 (K 0))]) (.block 2 (.loop A89))) B03)
def cc137 : ACode := (.seq (.reg [(none,.box 1 (S 0)),(none,.mv 2 (KB false))]) (.seq (.seq (.reg [fa 9 1 0,ld 10 9,(none,.len 11 (S 10)),(none,.bin 12 .gtr (S 11) (K 8)),mv 13 12,(some (13,false),.faddr 14 (S 1) 1),(some (13,false),.load 15 (S 14) false 1),(some (13,false),.len 16 (S 15)),(some (13,false),.bin 17 .gtr (S 16) (K 10)),(none,.pick 18 (S 13) (KB true) (S 17))]) (.cond (S 18) (.seq (.reg [(none,.mv 2 (KB false))]) .ret) .skip)) (.seq (.seq (.reg [fa 19 1 0,ld 20 19,(none,.len 21 (S 20)),(none,.mv 22 (K 0))]) (.block 0 (.loop B5j))) C1e)))
theorem D8q (a0 : XChart) (v11 : Int) (x13 : XSegment) (y24 : List XSegment) (y25 : Int) (k_impl_ChartOk_2 : Int → Option Bool) (hk_impl_ChartOk_2 : ∀ (v11 : Int) zr,k_impl_ChartOk_2 v11 = some zr → ∀ σ : St,σ.kept [1,41,42,43] [1] [] = ⟨[(1,vc (.pb 1 0)),(41,vc (aL (List.map XSegment.row a0.Segments))),(42,vc (aI (a0.Segments.length : Int))),(43,vc (aI v11))],[(1,[aL (List.map XPoint.row a0.Points),aL (List.map XSegment.row a0.Segments)])],[]⟩ → go Try.prog (.code (.loop A89) :: [.blk 2,.code B03]) (Ret [2] [.sc (.v (.bool zr))]) .normal (some σ)) : ∀ (n : Nat) (v26 : Int) (r : Bool),N8 a0 v11 x13 y24 y25 k_impl_ChartOk_2 n v26 = some r → ∀ σ : St,σ.kept [1,6,41,42,43,86,87,88] [1,6] [] = ⟨[(1,vc (.pb 1 0)),(6,vc (.pb 6 0)),(41,vc (aL (List.map XSegment.row a0.Segments))),(42,vc (aI (a0.Segments.length : Int))),(43,vc (aI v11)),(86,vc (aL (List.map XSegment.row y24))),(87,vc (aI y25)),(88,vc (aI v26))],[(1,[aL (List.map XPoint.row a0.Points),aL (List.map XSegment.row a0.Segments)]),(6,[aI x13.A,aI x13.B,aI x13.Depth,aI x13.Minutes,aB x13.Meet])],[]⟩ → go Try.prog (.code (.loop B5x) :: [.blk 4,.blk 3,.code C2g,.code (.loop A89),.blk 2,.code B03]) (Ret [2] [.sc (.v (.bool r))]) .normal (some σ) := by
 intro n
 induction n with
 | zero => intro _ r h; cases h
 | succ n ih =>
  intro v26 r h σ hσ
  rw [N8] at h
  refine B8 ?_
  rcases ug (decide (v26 < y25)) with hb27 | hb27
  ·rw [A4 hb27] at h
   obtain ⟨x28,hx28,h⟩ := ob h
   try simp only [hσ,hb27,hx28,B5x,ua,ub,uc,ud,ue,RR]
   refine D2 rfl rfl ?_
   obtain ⟨r29,hr29,h⟩ := ob h
   try simp only [hb27,hx28,ua,ub,uc,ud,ue,RR]
   refine A6 (A7a _ _ _ _ hr29) rfl rfl (uf rfl) ?_
   rcases ug r29 with hb30 | hb30
   ·rw [A4 hb30] at h
    try simp only [hb27,hx28,hb30,ua,ub,uc,ud,ue,RR]
    cases h
    exact ⟨⟨rfl,trivial⟩,rfl⟩
   ·rw [A3 hb30] at h
    try simp only [hb27,hx28,hb30,ua,ub,uc,ud,ue,RR]
    refine ih _ _ h _ ?_
    try simp only [hb27,hx28,hb30,ua,ub,uc,ud,ue,RR,List.map_nil]
  ·rw [A3 hb27] at h
   try simp only [hσ,hb27,B5x,C2g,ua,ub,uc,ud,ue,RR]
   refine hk_impl_ChartOk_2 _ _ h _ ?_
   try simp only [hb27,ua,ub,uc,ud,ue,RR,List.map_nil]
theorem D6v (a0 : XChart) : ∀ (n : Nat) (v11 : Int) (r : Bool),G4 a0 n v11 = some r → ∀ σ : St,σ.kept [1,41,42,43] [1] [] = ⟨[(1,vc (.pb 1 0)),(41,vc (aL (List.map XSegment.row a0.Segments))),(42,vc (aI (a0.Segments.length : Int))),(43,vc (aI v11))],[(1,[aL (List.map XPoint.row a0.Points),aL (List.map XSegment.row a0.Segments)])],[]⟩ → go Try.prog (.code (.loop A89) :: [.blk 2,.code B03]) (Ret [2] [.sc (.v (.bool r))]) .normal (some σ) := by
 intro n
 induction n with
 | zero => intro _ r h; cases h
 | succ n ih =>
  intro v11 r h σ hσ
  rw [G4] at h
  refine B8 ?_
  rcases ug (decide (v11 < (a0.Segments.length : Int))) with hb12 | hb12
  ·rw [A4 hb12] at h
   obtain ⟨x13,hx13,h⟩ := ob h
   try simp only [hσ,hb12,hx13,A89,ua,ub,uc,ud,ue,RR]
   refine D2 rfl rfl ?_
   obtain ⟨r14,hr14,h⟩ := ob h
   try simp only [hb12,hx13,ua,ub,uc,ud,ue,RR]
   refine A6 (F0 _ _ _ hr14) rfl rfl (uf rfl) ?_
   rcases ug r14 with hb15 | hb15
   ·rw [A4 hb15] at h
    obtain ⟨r16,hr16,h⟩ := ob h
    try simp only [hb12,hx13,hb15,ua,ub,uc,ud,ue,RR]
    refine A6 (F0 _ _ _ hr16) rfl rfl (uf rfl) ?_
    rcases ug r16 with hb17 | hb17
    ·rw [A4 hb17] at h
     rcases ug (x13.A == x13.B) with hb18 | hb18
     ·rw [A4 hb18] at h
      try simp only [hb12,hx13,hb15,hb17,hb18,ua,ub,uc,ud,ue,RR]
      cases h
      exact ⟨⟨rfl,trivial⟩,rfl⟩
     ·rw [A3 hb18] at h
      obtain ⟨r19,hr19,h⟩ := ob h
      try simp only [hb12,hx13,hb15,hb17,hb18,ua,ub,uc,ud,ue,RR]
      refine A6 (D3 _ _ _ _ hr19) rfl rfl (uf rfl) ?_
      rcases ug r19 with hb20 | hb20
      ·rw [A4 hb20] at h
       obtain ⟨r21,hr21,h⟩ := ob h
       try simp only [hb12,hx13,hb15,hb17,hb18,hb20,ua,ub,uc,ud,ue,RR]
       refine A6 (D3 _ _ _ _ hr21) rfl rfl (uf rfl) ?_
       rcases ug r21 with hb22 | hb22
       ·rw [A4 hb22] at h
        obtain ⟨p23,hp23,h⟩ := ob h
        try simp only [hb12,hx13,hb15,hb17,hb18,hb20,hb22,hp23,ua,ub,uc,ud,ue,RR]
        refine D8q _ _ _ _ _ (G4 a0 n) ih _ _ _ h _ ?_
        try simp only [hb12,hx13,hb15,hb17,hb18,hb20,hb22,hp23,ua,ub,uc,ud,ue,RR,List.map_nil]
       ·rw [A3 hb22] at h
        try simp only [hb12,hx13,hb15,hb17,hb18,hb20,hb22,ua,ub,uc,ud,ue,RR]
        cases h
        exact ⟨⟨rfl,trivial⟩,rfl⟩
      ·rw [A3 hb20] at h
       try simp only [hb12,hx13,hb15,hb17,hb18,hb20,ua,ub,uc,ud,ue,RR]
       cases h
       exact ⟨⟨rfl,trivial⟩,rfl⟩
    ·rw [A3 hb17] at h
     try simp only [hb12,hx13,hb15,hb17,ua,ub,uc,ud,ue,RR]
     cases h
     exact ⟨⟨rfl,trivial⟩,rfl⟩
   ·rw [A3 hb15] at h
    try simp only [hb12,hx13,hb15,ua,ub,uc,ud,ue,RR]
    cases h
    exact ⟨⟨rfl,trivial⟩,rfl⟩
  ·rw [A3 hb12] at h
   try simp only [hσ,hb12,A89,B03,ua,ub,uc,ud,ue,RR]
   cases h
   exact ⟨⟨rfl,trivial⟩,rfl⟩
theorem D8d (a0 : XChart) : ∀ (n : Nat) (v3 : Int) (r : Bool),N9 a0 n v3 = some r → ∀ σ : St,σ.kept [1,20,21,22] [1] [] = ⟨[(1,vc (.pb 1 0)),(20,vc (aL (List.map XPoint.row a0.Points))),(21,vc (aI (a0.Points.length : Int))),(22,vc (aI v3))],[(1,[aL (List.map XPoint.row a0.Points),aL (List.map XSegment.row a0.Segments)])],[]⟩ → go Try.prog (.code (.loop B5j) :: [.blk 0,.code C1e]) (Ret [2] [.sc (.v (.bool r))]) .normal (some σ) := by
 intro n
 induction n with
 | zero => intro _ r h; cases h
 | succ n ih =>
  intro v3 r h σ hσ
  rw [N9] at h
  refine B8 ?_
  rcases ug (decide (v3 < (a0.Points.length : Int))) with hb4 | hb4
  ·rw [A4 hb4] at h
   obtain ⟨x5,hx5,h⟩ := ob h
   try simp only [hσ,hb4,hx5,B5j,ua,ub,uc,ud,ue,RR]
   refine D2 rfl rfl ?_
   obtain ⟨r6,hr6,h⟩ := ob h
   try simp only [hb4,hx5,ua,ub,uc,ud,ue,RR]
   refine A6 (A7h _ _ hr6) rfl rfl (uf rfl) ?_
   rcases ug r6 with hb7 | hb7
   ·rw [A4 hb7] at h
    obtain ⟨r9,hr9,h⟩ := ob h
    try simp only [hb4,hx5,hb7,ua,ub,uc,ud,ue,RR]
    refine A6 (A9o _ _ _ hr9) rfl rfl (uf rfl) ?_
    rcases ug (r9 != v3) with hb10 | hb10
    ·rw [A4 hb10] at h
     try simp only [hb4,hx5,hb7,hb10,ua,ub,uc,ud,ue,RR]
     cases h
     exact ⟨⟨rfl,trivial⟩,rfl⟩
    ·rw [A3 hb10] at h
     try simp only [hb4,hx5,hb7,hb10,ua,ub,uc,ud,ue,RR]
     refine ih _ _ h _ ?_
     try simp only [hb4,hx5,hb7,hb10,ua,ub,uc,ud,ue,RR,List.map_nil]
   ·rw [A3 hb7] at h
    try simp only [hb4,hx5,hb7,ua,ub,uc,ud,ue,RR]
    cases h
    exact ⟨⟨rfl,trivial⟩,rfl⟩
  ·rw [A3 hb4] at h
   try simp only [hσ,hb4,B5j,C1e,ua,ub,uc,ud,ue,RR]
   refine D6v _ _ _ _ h _ ?_
   try simp only [hb4,ua,ub,uc,ud,ue,RR,List.map_nil]
theorem D9f : A9 Try.prog 47 = some (cc137.strip,[2],100) := by kernel_rfl
theorem S0 (a0 : XChart) (r : Bool) (h : I2 a0 = some r) : FC Try.prog 47 [.ag (XChart.row a0)] [.sc (.v (.bool r))] := by
 unfold I2 at h
 refine B9 (σ := ⟨[(0,va [aL (List.map XPoint.row a0.Points),aL (List.map XSegment.row a0.Segments)])],[],[]⟩) B3 D9f rfl rfl ?_
 simp only [cc137]
 try simp only [ua,ub,uc,ud,ue,RR]
 refine B5 rfl rfl rfl ?_
 rcases ug (decide ((8 : Int) < (a0.Points.length : Int))) with hb1 | hb1
 ·rw [A4 hb1] at h
  try simp only [hb1,ua,ub,uc,ud,ue,RR]
  cases h
  exact ⟨⟨rfl,trivial⟩,rfl⟩
 ·rw [A3 hb1] at h
  rcases ug (decide ((10 : Int) < (a0.Segments.length : Int))) with hb2 | hb2
  ·rw [A4 hb2] at h
   try simp only [hb1,hb2,ua,ub,uc,ud,ue,RR]
   cases h
   exact ⟨⟨rfl,trivial⟩,rfl⟩
  ·rw [A3 hb2] at h
   try simp only [hb1,hb2,ua,ub,uc,ud,ue,RR]
   refine D8d _ _ _ _ h _ ?_
   try simp only [hb1,hb2,ua,ub,uc,ud,ue,RR,List.map_nil]
end Go.Vi
