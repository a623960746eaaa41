/-
Walks. No condition.
-/
import Derived.Test.YtmgfndipofbbaaaGreatANf
import Derived.Test.YtmgfndipofbbaaaGreatChecked
import Derived.Test.YtmgfndipofbbaaaGreatAFc
import Derived.KernelRfl
import Derived.Test.YtmgfndipofbbaaaGreatAWAdverseb
namespace Go.Vi
open Go.Proofs
set_option linter.all false
set_option maxRecDepth 4000
set_option maxHeartbeats 2000000
open Nat renaming reduceBEq → A, reduceMul → B, reduceAdd → C, reduceDiv → E, le_of_ble_eq_true → uf
open Int renaming reduceBEq → F
attribute [local irreducible] go AWP
open List renaming map → O, map_nil → U, all_eq_true → V, all_cons → W, all_nil → Y, cons_append → Z, nil_append → zA
open XOption renaming row → P
open Tryz renaming prog → Q
open XHarbour renaming row → X
open XPassage renaming row → I
open XSegment renaming row → zB
open XDuty renaming row → zC
open XCall renaming row → zD
open XSurge renaming row → zE
open XPoint renaming row → zF
open Bool renaming true → G, false → H
open Option renaming some → L, none → N
/- 393:math_bits_Len64 -/
def D2c:ACode:= .seq (.reg [(N,.keep [0,2] [] [])]) (.seq (.reg [mv 19 2,mv 20 0,(N,.conv 21 .u8 (S 20)),(N,.idx 22 (KS [0,1,2,2,3,3,3,3,4,4,4,4,4,4,4,4,5,5,5,5,5,5,5,5,5,5,5,5,5,5,5,5,6,6,6,6,6,6,6,6,6,6,6,6,6,6,6,6,6,6,6,6,6,6,6,6,6,6,6,6,6,6,6,6,7,7,7,7,7,7,7,7,7,7,7,7,7,7,7,7,7,7,7,7,7,7,7,7,7,7,7,7,7,7,7,7,7,7,7,7,7,7,7,7,7,7,7,7,7,7,7,7,7,7,7,7,7,7,7,7,7,7,7,7,7,7,7,7,8,8,8,8,8,8,8,8,8,8,8,8,8,8,8,8,8,8,8,8,8,8,8,8,8,8,8,8,8,8,8,8,8,8,8,8,8,8,8,8,8,8,8,8,8,8,8,8,8,8,8,8,8,8,8,8,8,8,8,8,8,8,8,8,8,8,8,8,8,8,8,8,8,8,8,8,8,8,8,8,8,8,8,8,8,8,8,8,8,8,8,8,8,8,8,8,8,8,8,8,8,8,8,8,8,8,8,8,8,8,8,8,8,8,8,8,8,8,8,8,8,8,8,8,8,8,8,8]) (S 21)),(N,.conv 23 .i64 (S 22)),bn 24 .add 19 23,mv 2 24]) .ret)
def C2z:ACode:= .seq (.reg [(N,.keep [0,2] [] [])]) (.seq (.seq (.reg [mv 13 0,(N,.bin 14 .geq (S 13) (.c (.v (.sc (.dat (.int .u64 256))))))]) (.cond (S 14) (.seq (.reg [mv 15 0,(N,.bin 16 .shr (S 15) (.c (.v (.sc (.dat (.int .u64 8)))))),mv 0 16]) (.reg [mv 17 2,(N,.bin 18 .add (S 17) (K 8)),mv 2 18])) .skip)) D2c)
def C4h:ACode:= .seq (.reg [(N,.keep [0,2] [] [])]) (.seq (.seq (.reg [mv 7 0,(N,.bin 8 .geq (S 7) (.c (.v (.sc (.dat (.int .u64 65536))))))]) (.cond (S 8) (.seq (.reg [mv 9 0,(N,.bin 10 .shr (S 9) (.c (.v (.sc (.dat (.int .u64 16)))))),mv 0 10]) (.reg [mv 11 2,(N,.bin 12 .add (S 11) (K 16)),mv 2 12])) .skip)) C2z)
def cc409:ACode:=(.seq (.reg [(N,.mv 2 (K 0))]) (.seq (.seq (.reg [mv 3 0,(N,.bin 4 .geq (S 3) (.c (.v (.sc (.dat (.int .u64 4294967296))))))]) (.cond (S 4) (.seq (.reg [mv 5 0,(N,.bin 6 .shr (S 5) (.c (.v (.sc (.dat (.int .u64 32)))))),mv 0 6]) (.reg [(N,.mv 2 (K 32))])) .skip)) C4h))
theorem D83(v8 v9 r:Int)(h:W6 v8 v9=L r)(σ:St)(hσ:σ.kept [0,2] [] []=⟨[(0,vc (.dat (.int .u64 v8))),(2,vc (aI v9))],[],[]⟩):go Q (.code D2c:: []) (Ret [2] [.sc (.v (.int .i64 r))]) .normal (L σ):=by
 unfold W6 at h
 obtain⟨b10,h10,h⟩:=ob h
 try simp only[hσ,h10,D2c,A,B,C,E,F,J]
 cases h
 trivial
theorem D9j(v5 v6 r:Int)(h:A0y v5 v6=L r)(σ:St)(hσ:σ.kept [0,2] [] []=⟨[(0,vc (.dat (.int .u64 v5))),(2,vc (aI v6))],[],[]⟩):go Q (.code C2z:: []) (Ret [2] [.sc (.v (.int .i64 r))]) .normal (L σ):=by
 unfold A0y at h
 rcases ic h with ⟨h7,h⟩|⟨h7,h⟩
 ·try simp only[hσ,h7,C2z,A,B,C,E,F,J]
  refine D83 _ _ _ h _ ?_
  try simp only[h7,A,B,C,E,F,J,U]
 ·try simp only[hσ,h7,C2z,A,B,C,E,F,J]
  refine D83 _ _ _ h _ ?_
  try simp only[h7,A,B,C,E,F,J,U]
theorem D8z(v2 v3 r:Int)(h:A0z v2 v3=L r)(σ:St)(hσ:σ.kept [0,2] [] []=⟨[(0,vc (.dat (.int .u64 v2))),(2,vc (aI v3))],[],[]⟩):go Q (.code C4h:: []) (Ret [2] [.sc (.v (.int .i64 r))]) .normal (L σ):=by
 unfold A0z at h
 rcases ic h with ⟨h4,h⟩|⟨h4,h⟩
 ·try simp only[hσ,h4,C4h,A,B,C,E,F,J]
  refine D9j _ _ _ h _ ?_
  try simp only[h4,A,B,C,E,F,J,U]
 ·try simp only[hσ,h4,C4h,A,B,C,E,F,J]
  refine D9j _ _ _ h _ ?_
  try simp only[h4,A,B,C,E,F,J,U]
theorem E7s:B0 Q 393=L (cc409.strip,[2],25):=by kernel_rfl
theorem B51(a0 r:Int)(h:A32 a0=L r):FC Q 393 [.sc (.int .u64 a0)] [.sc (.v (.int .i64 r))]:=by
 unfold A32 at h
 refine D3 B4 E7s rfl ?_
 simp only[cc409,A,B,C,E,F,J]
 rcases ic h with ⟨h1,h⟩|⟨h1,h⟩
 ·try simp only[h1,A,B,C,E,F,J]
  refine D8z _ _ _ h _ ?_
  try simp only[h1,A,B,C,E,F,J,U]
 ·try simp only[h1,A,B,C,E,F,J]
  refine D8z _ _ _ h _ ?_
  try simp only[h1,A,B,C,E,F,J,U]
/- 380:math_bits_Len -/
def cc414:ACode:=(.seq (.reg [(N,.mv 2 (K 0))]) (.seq (.cond (KB H) (.seq (.reg [mv 3 0,(N,.conv 4 .u32 (S 3)),ca 5 392 [S 4],mv 2 5]) .ret) .skip) (.seq (.reg [mv 6 0,ca 7 393 [S 6],mv 2 7]) .ret)))
theorem F0u:B0 Q 380=L (cc414.strip,[2],8):=by kernel_rfl
theorem B7t(a0 r:Int)(h:A1v a0=L r):FC Q 380 [.sc (.int .u64 a0)] [.sc (.v (.int .i64 r))]:=by
 unfold A1v at h
 refine D3 B4 F0u rfl ?_
 simp only[cc414,A,B,C,E,F,J]
 obtain⟨r1,h1,h⟩:=ob h
 try simp only[A,B,C,E,F,J]
 refine A4 (B51 _ _ h1) rfl rfl (uf rfl) ?_
 try simp only[A,B,C,E,F,J]
 cases h
 trivial
/- 365:impl_leastPersons -/
def C2u:ACode:= .seq (.reg [(N,.keep [0,3,4,5,6,7,8,9] [] [896,1024])]) (.seq (.reg [mv 81 9,(N,.bin 82 .eql (S 81) (K 0))]) (.cond (S 82) (.exit 2) .skip))
def D2d:ACode:=(.reg [mv 55 9,(N,.bin 56 .sub (S 55) (K 1)),mv 57 8,bn 58 .and 56 57,mv 9 58])
def B5g:ACode:= .seq (.reg [(N,.keep [0,3,4,5,6,7,8,9] [] [896,1024])]) (.seq (.block 3 (.seq (.seq (.reg [mv 59 4,mv 60 9,mv 61 7,(N,.bin 62 .shl (K 1) (S 61)),bn 63 .or 60 62,ia 64 59 63 1,ld 65 64]) (.cond (S 65) (.drw [o0 (mv 66 5),o0 (mv 67 6),o0 (mv 68 5),o0 (mv 69 6),o0 (ia 70 68 69 1),o0 (ld 71 70),o0 (mv 72 5),o0 (mv 73 8),o0 (mv 74 9),o0 (bn 75 .andNot 73 74),o0 (ia 76 72 75 1),o0 (ld 77 76),o0 (N,.bin 78 .add (K 1) (S 77)),o0 (N,.mm 79 H (S 71) (S 78)),o0 (ia 80 66 67 1),(N,so 80 79 1)]) .skip)) C2u)) D2d)
def C9o:ACode:= .seq (.reg [(N,.keep [0,3,4,5,6,7,8] [] [896,1024])]) (.seq (.reg [mv 49 5,mv 50 6,mv 51 0,ln 52 51,ia 53 49 50 1,so 53 52 1]) (.seq (.reg [mv 54 8,mv 9 54]) (.block 2 (.loop B5g))))
def B5s:ACode:=(.reg [mv 22 6,(N,.bin 23 .add (S 22) (K 1)),mv 6 23])
def A7r:ACode:= .seq (.reg [(N,.keep [0,3,4,5,6] [] [896,1024])]) (.seq (.seq (.reg [mv 19 6,mv 20 3,bn 21 .lss 19 20]) (.cond (S 21) .skip (.exit 0))) (.seq (.block 1 (.seq (.reg [mv 24 6,(N,.conv 25 .u64 (S 24)),ca 26 380 [S 25],(N,.bin 27 .sub (S 26) (K 1)),mv 7 27]) (.seq (.reg [mv 28 6,mv 29 7,(N,.bin 30 .shl (K 1) (S 29)),bn 31 .andNot 28 30,mv 8 31]) (.seq (.reg [mv 32 4,mv 33 6,mv 34 4,mv 35 8,ia 36 34 35 1,ld 37 36,mv 38 37,(L (38,G),.mv 39 (S 8)),(L (38,G),.conv 40 .u64 (S 39)),(L (38,G),.mv 41 (S 0)),(L (38,G),.mv 42 (S 7)),(L (38,G),.iaddr 43 (S 41) (S 42) 1),(L (38,G),.load 44 (S 43) H 1),(L (38,G),.bin 45 .andNot (S 40) (S 44)),(L (38,G),.bin 46 .eql (S 45) (.c (.v (.sc (.dat (.int .u64 0)))))),pa 47 38 46,ia 48 32 33 1,so 48 47 1]) C9o)))) B5s))
def A8k:ACode:=(.seq (.reg [mv 83 5,mv 84 3,(N,.bin 85 .sub (S 84) (K 1)),ia 86 83 85 1,ld 87 86,mv 2 87]) .ret)
def cc423:ACode:=(.seq (.reg [(N,.mv 2 (K 0))]) (.seq (.reg [mv 10 0,ln 11 10,(N,.bin 12 .shl (K 1) (S 11)),mv 3 12]) (.seq (.reg [mv 13 3,(N,.mksl 14 1 1 [.bool H] (S 13) (S 13)),mv 4 14]) (.seq (.reg [mv 15 3,(N,.mksl 16 1 8 [.int .i64 0] (S 15) (S 15)),mv 5 16]) (.seq (.reg [mv 17 4,(N,.iaddr 18 (S 17) (K 0) 1),(N,.store (S 18) (KB G) 1)]) (.seq (.seq (.reg [(N,.mv 6 (K 1))]) (.block 0 (.loop A7r))) A8k))))))
theorem D85(a0:List Int)(y5 v6:Int)(v17 v18 v21:Int)(v19:List Bool)(C4:Int→(List Bool)→(List Int)→Option Int)(P9:∀(v6:Int) (v7:List Bool) (v8:List Int) zr,C4 v6 v7 v8=L zr→∀σ:St,σ.kept [0,3,4,5,6] [] [896,1024]=⟨[(0,vc (aL (O rU a0))),(3,vc (aI y5)),(4,vc (.own 896)),(5,vc (.own 1024)),(6,vc (aI v6))],[],[(896,1,O rB v7),(1024,1,O rI v8)]⟩→go Q (.code (.loop A7r):: [.blk 0,.code A8k]) (Ret [2] [.sc (.v (.int .i64 zr))]) .normal (L σ))(A1u:Int→(List Int)→Option Int)(B1v:∀(v21:Int) (v22:List Int) zr,A1u v21 v22=L zr→∀σ:St,σ.kept [0,3,4,5,6,7,8,9] [] [896,1024]=⟨[(0,vc (aL (O rU a0))),(3,vc (aI y5)),(4,vc (.own 896)),(5,vc (.own 1024)),(6,vc (aI v6)),(7,vc (aI v17)),(8,vc (aI v18)),(9,vc (aI v21))],[],[(896,1,O rB v19),(1024,1,O rI v22)]⟩→go Q (.code (.loop B5g):: [.blk 2,.blk 1,.code B5s,.code (.loop A7r),.blk 0,.code A8k]) (Ret [2] [.sc (.v (.int .i64 zr))]) .normal (L σ))(v28:List Int)(r:Int)(h:S8 a0 y5 v6 v17 v18 v21 v19 C4 A1u v28=L r)(σ:St)(hσ:σ.kept [0,3,4,5,6,7,8,9] [] [896,1024]=⟨[(0,vc (aL (O rU a0))),(3,vc (aI y5)),(4,vc (.own 896)),(5,vc (.own 1024)),(6,vc (aI v6)),(7,vc (aI v17)),(8,vc (aI v18)),(9,vc (aI v21))],[],[(896,1,O rB v19),(1024,1,O rI v28)]⟩):go Q (.code C2u:: [.blk 3,.code D2d,.code (.loop B5g),.blk 2,.blk 1,.code B5s,.code (.loop A7r),.blk 0,.code A8k]) (Ret [2] [.sc (.v (.int .i64 r))]) .normal (L σ):=by
 unfold S8 at h
 rcases ic h with ⟨h29,h⟩|⟨h29,h⟩
 ·try simp only[hσ,h29,C2u,B5s,A,B,C,E,F,J]
  refine P9 _ _ _ _ h _ ?_
  try simp only[h29,A,B,C,E,F,J,U]
 ·try simp only[hσ,h29,C2u,D2d,A,B,C,E,F,J]
  refine B1v _ _ _ h _ ?_
  try simp only[h29,A,B,C,E,F,J,U]
theorem F2k(a0:List Int)(y5 v6:Int)(v17 v18:Int)(v19:List Bool)(C4:Int→(List Bool)→(List Int)→Option Int)(P9:∀(v6:Int) (v7:List Bool) (v8:List Int) zr,C4 v6 v7 v8=L zr→∀σ:St,σ.kept [0,3,4,5,6] [] [896,1024]=⟨[(0,vc (aL (O rU a0))),(3,vc (aI y5)),(4,vc (.own 896)),(5,vc (.own 1024)),(6,vc (aI v6))],[],[(896,1,O rB v7),(1024,1,O rI v8)]⟩→go Q (.code (.loop A7r):: [.blk 0,.code A8k]) (Ret [2] [.sc (.v (.int .i64 zr))]) .normal (L σ)):∀(n:Nat) (v21:Int) (v22:List Int) (r:Int),I3 a0 y5 v6 v17 v18 v19 C4 n v21 v22=L r→∀σ:St,σ.kept [0,3,4,5,6,7,8,9] [] [896,1024]=⟨[(0,vc (aL (O rU a0))),(3,vc (aI y5)),(4,vc (.own 896)),(5,vc (.own 1024)),(6,vc (aI v6)),(7,vc (aI v17)),(8,vc (aI v18)),(9,vc (aI v21))],[],[(896,1,O rB v19),(1024,1,O rI v22)]⟩→go Q (.code (.loop B5g):: [.blk 2,.blk 1,.code B5s,.code (.loop A7r),.blk 0,.code A8k]) (Ret [2] [.sc (.v (.int .i64 r))]) .normal (L σ):=by
 intro n
 induction n with
 | zero=>intro _ _ r h; cases h
 | succ n ih=>
  intro v21 v22 r h σ hσ
  rw[I3] at h
  refine B8 ?_
  obtain⟨h23,h⟩:=A0u h
  obtain⟨x24,h24,h⟩:=ob h
  have h24n:=P7 h24
  rcases ic h with ⟨h25,h⟩|⟨h25,h⟩
  ·try simp only[hσ,h23,h24,h24n,h25,B5g,A,B,C,E,F,J]
   refine C6 rfl ?_
   obtain⟨x26,h26,h⟩:=ob h
   have h26n:=P7 h26
   obtain⟨x27,h27,h⟩:=ob h
   have h27n:=P7 h27
   try simp only[h23,h24,h24n,h25,h26,h26n,h27,h27n,A,B,C,E,F,J]
   refine A5y (row:=rI) (y:=(if(IntKind.i64.wrap ((1:Int)+x27))<x26 then(IntKind.i64.wrap ((1:Int)+x27)) else x26)) rfl rfl h26n rfl rfl (by rfl) ?_
   try simp only[h23,h24,h24n,h25,h26,h26n,h27,h27n,A,B,C,E,F,J]
   refine C6 rfl ?_
   try simp only[h23,h24,h24n,h25,h26,h26n,h27,h27n,A,B,C,E,F,J]
   refine D85 _ _ _ _ _ _ _ C4 P9 (I3 a0 y5 v6 v17 v18 v19 C4 n) ih _ _ h _ ?_
   try simp only[h23,h24,h24n,h25,h26,h26n,h27,h27n,A,B,C,E,F,J,U]
  ·try simp only[hσ,h23,h24,h24n,h25,B5g,A,B,C,E,F,J]
   refine D85 _ _ _ _ _ _ _ C4 P9 (I3 a0 y5 v6 v17 v18 v19 C4 n) ih _ _ h _ ?_
   try simp only[h23,h24,h24n,h25,A,B,C,E,F,J,U]
theorem D86(a0:List Int)(y5 v6:Int)(v8:List Int)(C4:Int→(List Bool)→(List Int)→Option Int)(P9:∀(v6:Int) (v7:List Bool) (v8:List Int) zr,C4 v6 v7 v8=L zr→∀σ:St,σ.kept [0,3,4,5,6] [] [896,1024]=⟨[(0,vc (aL (O rU a0))),(3,vc (aI y5)),(4,vc (.own 896)),(5,vc (.own 1024)),(6,vc (aI v6))],[],[(896,1,O rB v7),(1024,1,O rI v8)]⟩→go Q (.code (.loop A7r):: [.blk 0,.code A8k]) (Ret [2] [.sc (.v (.int .i64 zr))]) .normal (L σ))(v17 v18:Int)(v19:List Bool)(r:Int)(h:S9 a0 y5 v6 v8 C4 v17 v18 v19=L r)(σ:St)(hσ:σ.kept [0,3,4,5,6,7,8] [] [896,1024]=⟨[(0,vc (aL (O rU a0))),(3,vc (aI y5)),(4,vc (.own 896)),(5,vc (.own 1024)),(6,vc (aI v6)),(7,vc (aI v17)),(8,vc (aI v18))],[],[(896,1,O rB v19),(1024,1,O rI v8)]⟩):go Q (.code C9o:: [.blk 1,.code B5s,.code (.loop A7r),.blk 0,.code A8k]) (Ret [2] [.sc (.v (.int .i64 r))]) .normal (L σ):=by
 unfold S9 at h
 obtain⟨x20,h20,h⟩:=ob h
 have h20n:=P7 h20
 try simp only[hσ,h20,C9o,A,B,C,E,F,J]
 refine A5y (row:=rI) (y:=(a0.length:Int)) rfl rfl h20n rfl rfl (by rfl) ?_
 try simp only[h20,A,B,C,E,F,J]
 refine F2k _ _ _ _ _ _ C4 P9 _ _ _ _ h _ ?_
 try simp only[h20,A,B,C,E,F,J,U]
theorem F1n(a0:List Int)(y5:Int):∀(n:Nat) (v6:Int) (v7:List Bool) (v8:List Int) (r:Int),G1 a0 y5 n v6 v7 v8=L r→∀σ:St,σ.kept [0,3,4,5,6] [] [896,1024]=⟨[(0,vc (aL (O rU a0))),(3,vc (aI y5)),(4,vc (.own 896)),(5,vc (.own 1024)),(6,vc (aI v6))],[],[(896,1,O rB v7),(1024,1,O rI v8)]⟩→go Q (.code (.loop A7r):: [.blk 0,.code A8k]) (Ret [2] [.sc (.v (.int .i64 r))]) .normal (L σ):=by
 intro n
 induction n with
 | zero=>intro _ _ _ r h; cases h
 | succ n ih=>
  intro v6 v7 v8 r h σ hσ
  rw[G1] at h
  refine B8 ?_
  rcases ic h with ⟨h9,h⟩|⟨h9,h⟩
  ·obtain⟨r10,h10,h⟩:=ob h
   try simp only[hσ,h9,A7r,A,B,C,E,F,J]
   refine A4 (B7t _ _ h10) rfl rfl (uf rfl) ?_
   obtain⟨h11,h⟩:=A0u h
   obtain⟨x12,h12,h⟩:=ob h
   have h12n:=P7 h12
   rcases ic h with ⟨h13,h⟩|⟨h13,h⟩
   ·obtain⟨x14,h14,h⟩:=ob h
    obtain⟨x15,h15,h⟩:=ob h
    have h15n:=P7 h15
    try simp only[h9,h11,h12,h12n,h13,h14,h15,A,B,C,E,F,J]
    refine A5y (row:=rB) (y:=((K0 .andNot .u64 (IntKind.u64.wrap (K0 .andNot .i64 v6 (A0v .i64 (1:Int) (IntKind.i64.wrap (r10 - (1:Int)))))) x14)==(0:Int))) rfl rfl h15n rfl rfl (by rfl) ?_
    try simp only[h9,h11,h12,h12n,h13,h14,h15,A,B,C,E,F,J]
    refine D86 _ _ _ _ (G1 a0 y5 n) ih _ _ _ _ h _ ?_
    try simp only[h9,h11,h12,h12n,h13,h14,h15,A,B,C,E,F,J,U]
   ·obtain⟨x16,h16,h⟩:=ob h
    have h16n:=P7 h16
    try simp only[h9,h11,h12,h12n,h13,h16,A,B,C,E,F,J]
    refine A5y (row:=rB) (y:=false) rfl rfl h16n rfl rfl (by rfl) ?_
    try simp only[h9,h11,h12,h12n,h13,h16,A,B,C,E,F,J]
    refine D86 _ _ _ _ (G1 a0 y5 n) ih _ _ _ _ h _ ?_
    try simp only[h9,h11,h12,h12n,h13,h16,A,B,C,E,F,J,U]
  ·obtain⟨x30,h30,h⟩:=ob h
   have h30n:=P7 h30
   try simp only[hσ,h9,h30,h30n,A7r,A8k,A,B,C,E,F,J]
   cases h
   trivial
theorem F02:B0 Q 365=L (cc423.strip,[2],88):=by kernel_rfl
theorem B3p(a0:List Int)(r:Int)(h:A01 a0=L r):FC Q 365 [.sc (.sl (O rU a0))] [.sc (.v (.int .i64 r))]:=by
 unfold A01 at h
 refine D3 B4 F02 rfl ?_
 simp only[cc423,A,B,C,E,F,J]
 obtain⟨h1,h⟩:=A0u h
 obtain⟨n2,hn2,h⟩:=ob h
 try simp only[h1,A,B,C,E,F,J]
 refine B17 (es:=O rB (List.replicate n2 H)) rfl rfl hn2 rfl (A90 rfl) rfl ?_
 obtain⟨n3,hn3,h⟩:=ob h
 try simp only[h1,A,B,C,E,F,J]
 refine B17 (es:=O rI (List.replicate n3 (0:Int))) rfl rfl hn3 rfl (A90 rfl) rfl ?_
 obtain⟨x4,h4,h⟩:=ob h
 have h4n:=P7 h4
 try simp only[h1,h4,A,B,C,E,F,J]
 refine A5y (row:=rB) (y:=true) rfl rfl h4n rfl rfl (by rfl) ?_
 try simp only[h1,h4,A,B,C,E,F,J]
 refine F1n _ _ _ _ _ _ _ h _ ?_
 try simp only[h1,h4,A,B,C,E,F,J,U]
/- 366:impl_coverer_cover -/
def C4j:ACode:= .seq (.reg [(N,.keep [0,3,4] [99999999999] [90000,90001])]) (.seq (.reg [mv 109 0,(N,.nilc 110 (S 109)),fa 111 110 2,ld 112 111,mv 113 4,ia 114 112 113 1,ld 115 114,(N,.bin 116 .eql (S 115) (.c (.v (.sc (.dat (.int .u64 0))))))]) (.cond (S 116) (.seq (.reg [mv 117 0,mv 118 0,(N,.nilc 119 (S 118)),fa 120 119 2,ld 121 120,mv 122 4,(N,.slc 123 1 (S 121) N (L (S 122)) N),(N,.cut 123),(N,.nilc 124 (S 117)),fa 125 124 2,so 125 123 1]) (.exit 0)) .skip))
def C9k:ACode:= .seq (.reg [(N,.keep [0,3,4] [99999999999] [90000,90001])]) (.seq (.seq (.drw [o0 (mv 50 0),o0 (N,.nilc 51 (S 50)),o0 (fa 52 51 2),o0 (ld 53 52),o0 (mv 54 4),o0 (ia 55 53 54 1),o0 (ld 56 55),o0 (mv 57 0),o0 (N,.nilc 58 (S 57)),o0 (fa 59 58 0),o0 (ld 60 59),o0 (mv 61 3),o0 (ia 62 60 61 1),o0 (ld 63 62),o0 (bn 64 .andNot 56 63),o0 (N,.bin 65 .eql (S 64) (.c (.v (.sc (.dat (.int .u64 0))))))]) (.cond (S 65) (.seq (.drw [o0 (mv 66 0),o0 (N,.nilc 67 (S 66)),o0 (fa 68 67 2),o0 (ld 69 68),o0 (mv 70 4),o0 (ia 71 69 70 1),o0 (ld 72 71),o0 (mv 73 3),o0 (N,.bin 74 .shl (.c (.v (.sc (.dat (.int .u64 1))))) (S 73)),o0 (bn 75 .or 72 74),o0 (ia 76 69 70 1),(N,so 76 75 1)]) (.seq (.reg [mv 77 0,mv 78 0,(N,.nilc 79 (S 78)),fa 80 79 3,ld 81 80,mv 82 4,(N,.bslice 83 1 [.int .i64 0] 1 [(0,(S 82))]),(N,.app 84 1 8 (S 81) (S 83)),(N,.nilc 85 (S 77)),fa 86 85 3,so 86 84 1]) (.seq (.seq (.reg [mv 87 0,ca 88 366 [S 87]]) (.cond (S 88) (.seq (.reg [(N,.mv 2 (KB G))]) .ret) .skip)) (.seq (.reg [mv 89 0,mv 90 0,(N,.nilc 91 (S 90)),fa 92 91 3,ld 93 92,mv 94 3,(N,.slc 95 1 (S 93) N (L (S 94)) N),(N,.cut 95),(N,.nilc 96 (S 89)),fa 97 96 3,so 97 95 1]) (.drw [o0 (mv 98 0),o0 (N,.nilc 99 (S 98)),o0 (fa 100 99 2),o0 (ld 101 100),o0 (mv 102 4),o0 (ia 103 101 102 1),o0 (ld 104 103),o0 (mv 105 3),o0 (N,.bin 106 .shl (.c (.v (.sc (.dat (.int .u64 1))))) (S 105)),o0 (bn 107 .andNot 104 106),o0 (ia 108 101 102 1),(N,so 108 107 1)]))))) .skip)) C4j)
def C3i:ACode:=(.reg [mv 32 4,(N,.bin 33 .add (S 32) (K 1)),mv 4 33])
def A8e:ACode:= .seq (.reg [(N,.keep [0,3,4] [99999999999] [90000,90001])]) (.seq (.seq (.reg [mv 17 4,mv 18 0,(N,.nilc 19 (S 18)),fa 20 19 2,ld 21 20,ln 22 21,bn 23 .leq 17 22,mv 24 23,(L (24,G),.mv 25 (S 4)),(L (24,G),.mv 26 (S 0)),(L (24,G),.nilc 27 (S 26)),(L (24,G),.faddr 28 (S 27) 1),(L (24,G),.load 29 (S 28) H 1),(L (24,G),.bin 30 .lss (S 25) (S 29)),pa 31 24 30]) (.cond (S 31) .skip (.exit 0))) (.seq (.block 1 (.seq (.seq (.reg [mv 34 4,mv 35 0,(N,.nilc 36 (S 35)),fa 37 36 2,ld 38 37,ln 39 38,bn 40 .eql 34 39]) (.cond (S 40) (.reg [mv 41 0,mv 42 0,(N,.nilc 43 (S 42)),fa 44 43 2,ld 45 44,(N,.bslice 46 1 [.int .u64 0] 1 [(0,(.c (.v (.sc (.dat (.int .u64 0))))))]),(N,.app 47 1 8 (S 45) (S 46)),(N,.nilc 48 (S 41)),fa 49 48 2,so 49 47 1]) .skip)) C9k)) C3i))
def A9v:ACode:=(.seq (.reg [(N,.mv 2 (KB H))]) .ret)
def cc434:ACode:=(.seq (.reg [(N,.mv 2 (KB H))]) (.seq (.reg [mv 5 0,(N,.nilc 6 (S 5)),fa 7 6 3,ld 8 7,ln 9 8,mv 3 9]) (.seq (.seq (.reg [mv 10 3,mv 11 0,(N,.nilc 12 (S 11)),fa 13 12 0,ld 14 13,ln 15 14,bn 16 .eql 10 15]) (.cond (S 16) (.seq (.reg [(N,.mv 2 (KB G))]) .ret) .skip)) (.seq (.seq (.reg [(N,.mv 4 (K 0))]) (.block 0 (.loop A8e))) A9v))))
theorem D9f(rec_:Xcoverer→Option (Bool × Xcoverer))(h_rec:∀(a0:Xcoverer) zr,rec_ a0=L zr→FCz Q 366 [.p] (K4 a0) (K3 a0) (K4 zr.2) (K3 zr.2) [.sc (.v (.bool zr.1))])(a0:Xcoverer)(v2:Int)(F6:Int→(List Int)→Int→(List Int)→(List Int)→Option (Bool × Xcoverer))(A0w:∀(v2:Int) (v3:List Int) (v4:Int) (v5 v6:List Int) zr,F6 v2 v3 v4 v5 v6=L zr→∀σ:St,σ.kept [0,3,4] [99999999999] [90000,90001]=⟨[(0,vc (.pb 99999999999 0)),(3,vc (aI (a0.who.length:Int))),(4,vc (aI v2))],[(99999999999,[aL (O rU v3),aI v4,.own 90000,.own 90001])],[(90000,1,O rU v5),(90001,1,O rI v6)]⟩→go Q (.code (.loop A8e):: [.blk 0,.code A9v]) (A88 [2] [.sc (.v (.bool zr.1))] (K4 zr.2) (K3 zr.2)) .normal (L σ))(v22:List Int)(v23:Int)(v24 v25:List Int)(r:Bool × Xcoverer)(h:N2 rec_ a0 v2 F6 v22 v23 v24 v25=L r)(σ:St)(hσ:σ.kept [0,3,4] [99999999999] [90000,90001]=⟨[(0,vc (.pb 99999999999 0)),(3,vc (aI (a0.who.length:Int))),(4,vc (aI v2))],[(99999999999,[aL (O rU v22),aI v23,.own 90000,.own 90001])],[(90000,1,O rU v24),(90001,1,O rI v25)]⟩):go Q (.code C4j:: [.blk 1,.code C3i,.code (.loop A8e),.blk 0,.code A9v]) (A88 [2] [.sc (.v (.bool r.1))] (K4 r.2) (K3 r.2)) .normal (L σ):=by
 unfold N2 at h
 obtain⟨x26,h26,h⟩:=ob h
 have h26n:=P7 h26
 rcases ic h with ⟨h27,h⟩|⟨h27,h⟩
 ·obtain⟨p28,h28,h⟩:=ob h
  try simp only[hσ,h26,h26n,h27,C4j,A,B,C,E,F,J]
  refine A67 rfl rfl h28 (by rfl) ?_
  try simp only[h26,h26n,h27,A9v,A,B,C,E,F,J]
  cases h
  exact⟨⟨rfl,⟨⟩⟩,[90000,90001],by decide,by decide,rfl,rfl⟩
 ·try simp only[hσ,h26,h26n,h27,C4j,C3i,A,B,C,E,F,J]
  refine A0w _ _ _ _ _ _ h _ ?_
  try simp only[h26,h26n,h27,A,B,C,E,F,J,U]
theorem D9n(rec_:Xcoverer→Option (Bool × Xcoverer))(h_rec:∀(a0:Xcoverer) zr,rec_ a0=L zr→FCz Q 366 [.p] (K4 a0) (K3 a0) (K4 zr.2) (K3 zr.2) [.sc (.v (.bool zr.1))])(a0:Xcoverer)(v2:Int)(v3:List Int)(v4:Int)(v6:List Int)(F6:Int→(List Int)→Int→(List Int)→(List Int)→Option (Bool × Xcoverer))(A0w:∀(v2:Int) (v3:List Int) (v4:Int) (v5 v6:List Int) zr,F6 v2 v3 v4 v5 v6=L zr→∀σ:St,σ.kept [0,3,4] [99999999999] [90000,90001]=⟨[(0,vc (.pb 99999999999 0)),(3,vc (aI (a0.who.length:Int))),(4,vc (aI v2))],[(99999999999,[aL (O rU v3),aI v4,.own 90000,.own 90001])],[(90000,1,O rU v5),(90001,1,O rI v6)]⟩→go Q (.code (.loop A8e):: [.blk 0,.code A9v]) (A88 [2] [.sc (.v (.bool zr.1))] (K4 zr.2) (K3 zr.2)) .normal (L σ))(v11:List Int)(r:Bool × Xcoverer)(h:Q2 rec_ a0 v2 v3 v4 v6 F6 v11=L r)(σ:St)(hσ:σ.kept [0,3,4] [99999999999] [90000,90001]=⟨[(0,vc (.pb 99999999999 0)),(3,vc (aI (a0.who.length:Int))),(4,vc (aI v2))],[(99999999999,[aL (O rU v3),aI v4,.own 90000,.own 90001])],[(90000,1,O rU v11),(90001,1,O rI v6)]⟩):go Q (.code C9k:: [.blk 1,.code C3i,.code (.loop A8e),.blk 0,.code A9v]) (A88 [2] [.sc (.v (.bool r.1))] (K4 r.2) (K3 r.2)) .normal (L σ):=by
 unfold Q2 at h
 try simp only[hσ,C9k,A,B,C,E,F,J]
 refine C6 rfl ?_
 obtain⟨x12,h12,h⟩:=ob h
 have h12n:=P7 h12
 obtain⟨x13,h13,h⟩:=ob h
 rcases ic h with ⟨h14,h⟩|⟨h14,h⟩
 ·try simp only[h12,h12n,h13,h14,A,B,C,E,F,J]
  refine C6 rfl ?_
  obtain⟨h15,h⟩:=A0u h
  try simp only[h12,h12n,h13,h14,h15,A,B,C,E,F,J]
  refine A5y (row:=rU) (y:=(K0 .or .u64 x12 (A0v .u64 (1:Int) (a0.who.length:Int)))) rfl rfl h12n rfl rfl (by rfl) ?_
  try simp only[h12,h12n,h13,h14,h15,A,B,C,E,F,J]
  refine C6 rfl ?_
  try simp only[h12,h12n,h13,h14,h15,A,B,C,E,F,J]
  refine D8 (es:=O rI ([v2]:List Int)) rfl rfl ?_
  obtain⟨h16,h⟩:=E2 h
  obtain⟨r17,h17,h⟩:=ob h
  try simp only[h12,h12n,h13,h14,h15,h16,A,B,C,E,F,J]
  refine A76 (h_rec _ _ h17) 99999999999 [90000,90001] rfl rfl rfl rfl (by decide) rfl rfl rfl ?_
  rcases ic h with ⟨h18,h⟩|⟨h18,h⟩
  ·try simp only[h12,h12n,h13,h14,h15,h16,h18,A,B,C,E,F,J]
   cases h
   exact⟨⟨rfl,⟨⟩⟩,[90000,90001],by decide,by decide,rfl,rfl⟩
  ·obtain⟨p19,h19,h⟩:=ob h
   try simp only[h12,h12n,h13,h14,h15,h16,h18,A,B,C,E,F,J]
   refine A67 rfl rfl h19 (by rfl) ?_
   try simp only[h12,h12n,h13,h14,h15,h16,h18,A,B,C,E,F,J]
   refine C6 rfl ?_
   obtain⟨x20,h20,h⟩:=ob h
   have h20n:=P7 h20
   obtain⟨h21,h⟩:=A0u h
   try simp only[h12,h12n,h13,h14,h15,h16,h18,h20,h20n,h21,A,B,C,E,F,J]
   refine A5y (row:=rU) (y:=(K0 .andNot .u64 x20 (A0v .u64 (1:Int) (a0.who.length:Int)))) rfl rfl h20n rfl rfl (by rfl) ?_
   try simp only[h12,h12n,h13,h14,h15,h16,h18,h20,h20n,h21,A,B,C,E,F,J]
   refine C6 rfl ?_
   try simp only[h12,h12n,h13,h14,h15,h16,h18,h20,h20n,h21,A,B,C,E,F,J]
   refine D9f rec_ h_rec _ _ F6 A0w _ _ _ _ _ h _ ?_
   try simp only[h12,h12n,h13,h14,h15,h16,h18,h20,h20n,h21,A,B,C,E,F,J,U]
 ·try simp only[h12,h12n,h13,h14,A,B,C,E,F,J]
  refine D9f rec_ h_rec _ _ F6 A0w _ _ _ _ _ h _ ?_
  try simp only[h12,h12n,h13,h14,A,B,C,E,F,J,U]
theorem E70(rec_:Xcoverer→Option (Bool × Xcoverer))(h_rec:∀(a0:Xcoverer) zr,rec_ a0=L zr→FCz Q 366 [.p] (K4 a0) (K3 a0) (K4 zr.2) (K3 zr.2) [.sc (.v (.bool zr.1))])(a0:Xcoverer):∀(n:Nat) (v2:Int) (v3:List Int) (v4:Int) (v5 v6:List Int) (r:Bool × Xcoverer),G2 rec_ a0 n v2 v3 v4 v5 v6=L r→∀σ:St,σ.kept [0,3,4] [99999999999] [90000,90001]=⟨[(0,vc (.pb 99999999999 0)),(3,vc (aI (a0.who.length:Int))),(4,vc (aI v2))],[(99999999999,[aL (O rU v3),aI v4,.own 90000,.own 90001])],[(90000,1,O rU v5),(90001,1,O rI v6)]⟩→go Q (.code (.loop A8e):: [.blk 0,.code A9v]) (A88 [2] [.sc (.v (.bool r.1))] (K4 r.2) (K3 r.2)) .normal (L σ):=by
 intro n
 induction n with
 | zero=>intro _ _ _ _ _ r h; cases h
 | succ n ih=>
  intro v2 v3 v4 v5 v6 r h σ hσ
  rw[G2] at h
  refine B8 ?_
  rcases ic h with ⟨h7,h⟩|⟨h7,h⟩
  ·rcases ic h with ⟨h8,h⟩|⟨h8,h⟩
   ·rcases ic h with ⟨h9,h⟩|⟨h9,h⟩
    ·try simp only[hσ,h7,h8,h9,A8e,A,B,C,E,F,J]
     refine D8 (es:=O rU ([(0:Int)]:List Int)) rfl rfl ?_
     obtain⟨h10,h⟩:=E2 h
     try simp only[h7,h8,h9,h10,A,B,C,E,F,J]
     refine D9n rec_ h_rec _ _ _ _ _ (G2 rec_ a0 n) ih _ _ h _ ?_
     try simp only[h7,h8,h9,h10,A,B,C,E,F,J,U]
    ·try simp only[hσ,h7,h8,h9,A8e,A,B,C,E,F,J]
     refine D9n rec_ h_rec _ _ _ _ _ (G2 rec_ a0 n) ih _ _ h _ ?_
     try simp only[h7,h8,h9,A,B,C,E,F,J,U]
   ·try simp only[hσ,h7,h8,A8e,A9v,A,B,C,E,F,J]
    cases h
    exact⟨⟨rfl,⟨⟩⟩,[90000,90001],by decide,by decide,rfl,rfl⟩
  ·try simp only[hσ,h7,A8e,A9v,A,B,C,E,F,J]
   cases h
   exact⟨⟨rfl,⟨⟩⟩,[90000,90001],by decide,by decide,rfl,rfl⟩
theorem E8u:B0 Q 366=L (cc434.strip,[2],126):=by kernel_rfl
theorem B1r(rec_:Xcoverer→Option (Bool × Xcoverer))(a0:Xcoverer)(r:Bool × Xcoverer)(h_rec:∀(a0:Xcoverer) zr,rec_ a0=L zr→FCz Q 366 [.p] (K4 a0) (K3 a0) (K4 zr.2) (K3 zr.2) [.sc (.v (.bool zr.1))])(h:X0 rec_ a0=L r):FCz Q 366 [.p] (K4 a0) (K3 a0) (K4 r.2) (K3 r.2) [.sc (.v (.bool r.1))]:=by
 unfold X0 at h
 refine C41 (σ:=⟨[(0,vc (.pb 99999999999 0))],[(99999999999,[aL (O rU a0.sets),aI a0.most,.own 90000,.own 90001])],[(90000,1,O rU a0.groups),(90001,1,O rI a0.who)]⟩) B4 E8u rfl rfl rfl rfl ?_
 simp only[cc434]
 rcases ic h with ⟨h1,h⟩|⟨h1,h⟩
 ·try simp only[h1,A,B,C,E,F,J]
  cases h
  exact⟨⟨rfl,⟨⟩⟩,[90000,90001],by decide,by decide,rfl,rfl⟩
 ·try simp only[h1,A,B,C,E,F,J]
  refine E70 rec_ h_rec _ _ _ _ _ _ _ _ h _ ?_
  try simp only[h1,A,B,C,E,F,J,U]
theorem B1w:∀(n:Nat) (a0:Xcoverer) (r:Bool × Xcoverer),G4 n a0=L r→FCz Q 366 [.p] (K4 a0) (K3 a0) (K4 r.2) (K3 r.2) [.sc (.v (.bool r.1))]:=by
 intro n
 induction n with
 | zero=>intro _ r h; cases h
 | succ n ih=>intro a0 r h; rw[G4] at h; exact B1r (G4 n) a0 r ih h
theorem B2w(a0:Xcoverer)(r:Bool × Xcoverer)(h:A4o a0=L r):FCz Q 366 [.p] (K4 a0) (K3 a0) (K4 r.2) (K3 r.2) [.sc (.v (.bool r.1))]:=B1w bigN a0 r h
/- 336:impl_LeastCover -/
def cc439:ACode:=(.seq (.reg [(N,.mv 6 KN),(N,.mv 7 (K 0)),(N,.mv 8 (KB H))]) (.seq (.seq (.reg [mv 11 0,mv 12 1,mv 13 2,ca 14 363 [S 11,S 12,S 13],nt 15 14]) (.cond (S 15) (.seq (.reg [(N,.mv 6 KN),(N,.mv 7 (K 0)),(N,.mv 8 (KB H))]) .ret) .skip)) (.seq (.reg [mv 16 0,mv 17 1,mv 18 2,ca 19 364 [S 16,S 17,S 18],mv 9 19]) (.seq (.reg [mv 20 9,mv 21 9,ca 22 365 [S 21],(N,.build 23 [.nil,aI 0,.nil,.nil] [(0,1,(S 20)),(1,1,(S 22))]),bo 24 23,(N,.ownb 24 2 152704 1),(N,.ownb 24 3 152768 1),mv 10 24]) (.seq (.reg [mv 25 10,(N,.frz 1216),ca 26 366 [S 25]]) (.seq (.drw [o0 (mv 27 10),o0 (N,.nilc 28 (S 27)),o0 (fa 29 28 3),o0 (ld 30 29),o0 (mv 31 10),o0 (N,.nilc 32 (S 31)),o0 (fa 33 32 1),o0 (ld 34 33),o0 (mv 6 30),o0 (mv 7 34),o0 (N,.mv 8 (KB G))]) .ret))))))
theorem E7m:B0 Q 336=L (cc439.strip,[6,7,8],35):=by kernel_rfl
theorem B55(a0:Int)(a1:List Int)(a2:List XDuty)(r:(List Int) × Int × Bool)(h:W0 a0 a1 a2=L r):FC Q 336 [.sc (.int .i64 a0),.sc (.sl (O rI a1)),.sc (.sl (O zC a2))] [.sc (.o 1 (O rI r.1)),.sc (.v (.int .i64 r.2.1)),.sc (.v (.bool r.2.2))]:=by
 unfold W0 at h
 refine D3 B4 E7m rfl ?_
 simp only[cc439,A,B,C,E,F,J]
 obtain⟨r1,h1,h⟩:=ob h
 try simp only[A,B,C,E,F,J]
 refine A4 (B66 _ _ _ _ h1) rfl rfl (uf rfl) ?_
 rcases ic h with ⟨h2,h⟩|⟨h2,h⟩
 ·obtain⟨r3,h3,h⟩:=ob h
  try simp only[h2,A,B,C,E,F,J]
  refine A4 (B7w _ _ _ _ h3) rfl rfl (uf rfl) ?_
  obtain⟨r4,h4,h⟩:=ob h
  try simp only[h2,A,B,C,E,F,J]
  refine W4 (B3p _ _ h4) rfl (W7 rfl) rfl (uf rfl) ?_
  try simp only[h2,A,B,C,E,F,J]
  refine B7 rfl rfl rfl ?_
  try simp only[h2,A,B,C,E,F,J]
  refine A30 (cs':= [.own 1216,aI r4,.own 152704,.nil]) rfl rfl rfl rfl ?_
  try simp only[h2,A,B,C,E,F,J]
  refine A30 (cs':= [.own 1216,aI r4,.own 152704,.own 152768]) rfl rfl rfl rfl ?_
  try simp only[h2,A,B,C,E,F,J]
  refine U4 rfl ?_
  obtain⟨r5,h5,h⟩:=ob h
  try simp only[h2,A,B,C,E,F,J]
  refine A76 (B2w _ _ h5) 24 [152704,152768] rfl rfl rfl rfl (by decide) rfl rfl rfl ?_
  try simp only[h2,A,B,C,E,F,J]
  refine C6 rfl ?_
  try simp only[h2,A,B,C,E,F,J]
  cases h
  trivial
 ·try simp only[h2,A,B,C,E,F,J]
  cases h
  trivial
/- 280:impl_coverFits -/
def cc441:ACode:=(.seq (.reg [(N,.mv 8 (KB H))]) (.seq (.seq (.reg [mv 12 2,ln 13 12,mv 14 3,bn 15 .leq 13 14]) (.cond (S 15) (.seq (.reg [(N,.mv 8 (KB G))]) .ret) .skip)) (.seq (.reg [mv 17 0,mv 18 1,mv 19 2,ca 20 336 [S 17,S 18,S 19],mv 16 20,xt 21 16 0,xt 22 16 1,xt 23 16 2,mv 9 21,mv 10 22,mv 11 23]) (.seq (.reg [mv 24 10,mv 25 3,bn 26 .leq 24 25,mv 8 26]) .ret))))
theorem F3t:B0 Q 280=L (cc441.strip,[8],27):=by kernel_rfl
theorem B0c(a0:Int)(a1:List Int)(a2:List XDuty)(a3:Int)(r:Bool)(h:A06 a0 a1 a2 a3=L r):FC Q 280 [.sc (.int .i64 a0),.sc (.sl (O rI a1)),.sc (.sl (O zC a2)),.sc (.int .i64 a3)] [.sc (.v (.bool r))]:=by
 unfold A06 at h
 refine D3 B4 F3t rfl ?_
 simp only[cc441,A,B,C,E,F,J]
 rcases ic h with ⟨h1,h⟩|⟨h1,h⟩
 ·try simp only[h1,A,B,C,E,F,J]
  cases h
  trivial
 ·obtain⟨r2,h2,h⟩:=ob h
  try simp only[h1,A,B,C,E,F,J]
  refine A4 (B55 _ _ _ _ h2) rfl rfl (uf rfl) ?_
  try simp only[h1,A,B,C,E,F,J]
  cases h
  trivial
/- 202:impl_crewFits -/
def C2y:ACode:= .seq (.reg [(N,.keep [2,5,6,13,14,15] [2] [704,768])]) (.seq (.reg [bn 16 .lss 15 14]) (.seq (.cond (S 16) .skip (.exit 0)) (.seq (.block 1 (.seq (.reg [ia 17 13 15 4,lw 18 17 4,(N,.alloc 8 [aI 0,aI 0,aI 0,.nil]),so 8 18 4]) (.seq (.reg [mv 19 5,fa 20 8 3,ld 21 20,(N,.app 22 5 40 (S 19) (S 21)),mv 5 22]) (.seq (.reg [fa 23 8 3,ld 24 23,ln 25 24,(N,.bin 26 .gtr (S 25) (K 0))]) (.cond (S 26) (.drw [(L [42,43],mv 27 6),o0 (fa 28 2 3),o0 (lw 29 28 2),o0 (fa 30 8 3),o0 (ld 31 30),o0 (N,.iaddr 32 (S 31) (K 0) 5),o0 (lw 33 32 5),o0 (fa 34 8 3),o0 (ld 35 34),o0 (fa 36 8 3),o0 (ld 37 36),o0 (ln 38 37),o0 (N,.bin 39 .sub (S 38) (K 1)),o0 (ia 40 35 39 5),o0 (lw 41 40 5),o0 (ca 42 278 [S 29,S 33,S 41]),o0 (N,.bslice 43 4 [.int .i64 0,.int .i64 0,.int .i64 0,.int .i64 0] 1 [(0,(S 42))]),(N,(N,.app 44 4 32 (S 27) (S 43))),o0 (mv 6 44)]) .skip))))) (.reg [(N,.bin 45 .add (S 15) (K 1)),mv 15 45]))))
def D0m:ACode:=(.seq (.reg [fa 47 2 3,lw 48 47 2,fa 49 2 5,ld 50 49,mv 51 5,ca 52 279 [S 48,S 50,S 51],mv 46 52,xt 53 46 0,xt 54 46 1,mv 9 53,mv 10 54]) (.seq (.reg [mv 55 10,mv 56 55,(L (56,G),.faddr 57 (S 2) 8),(L (56,G),.faddr 58 (S 57) 3),(L (56,G),.load 59 (S 58) H 1),(L (56,G),.mv 60 (S 9)),(L (56,G),.faddr 61 (S 2) 8),(L (56,G),.faddr 62 (S 61) 0),(L (56,G),.load 63 (S 62) H 1),(L (56,G),.call 64 280 [(K 0),(S 59),(S 60),(S 63)]),pa 65 56 64,mv 66 65,(L (66,G),.faddr 67 (S 2) 8),(L (66,G),.faddr 68 (S 67) 2),(L (66,G),.load 69 (S 68) H 1),(L (66,G),.faddr 70 (S 2) 8),(L (66,G),.faddr 71 (S 70) 3),(L (66,G),.load 72 (S 71) H 1),(L (66,G),.mv 73 (S 6)),(L (66,G),.faddr 74 (S 2) 8),(L (66,G),.faddr 75 (S 74) 1),(L (66,G),.load 76 (S 75) H 1),(L (66,G),.call 77 280 [(S 69),(S 72),(S 73),(S 76)]),pa 78 66 77,mv 4 78]) .ret))
def cc445:ACode:=(.seq (.reg [bo 2 0,(N,.mv 4 (KB H))]) (.seq (.reg [(N,.bslice 11 5 [.int .i64 0,.int .i64 0,.bool H,.int .i64 0,.int .i64 0] 0 []),(N,.bslice 12 4 [.int .i64 0,.int .i64 0,.int .i64 0,.int .i64 0] 0 []),mv 5 11,mv 6 12]) (.seq (.seq (.reg [mv 13 1,ln 14 13,(N,.mv 15 (K 0))]) (.block 0 (.loop C2y))) D0m)))
theorem F2r(a1:List XOption)(a0:XHarbour):∀(n:Nat) (v1:Int) (v2:List XPassage) (v3:List XDuty) (r:Bool),Q5 a1 a0 n v1 v2 v3=L r→∀σ:St,σ.kept [2,5,6,13,14,15] [2] [704,768]=⟨[(2,vc (.pb 2 0)),(5,vc (.own 704)),(6,vc (.own 768)),(13,vc (aL (O P a1))),(14,vc (aI (a1.length:Int))),(15,vc (aI v1))],[(2,(dm a0.row))],[(704,5,O I v2),(768,4,O zC v3)]⟩→go Q (.code (.loop C2y):: [.blk 0,.code D0m]) (Ret [4] [.sc (.v (.bool r))]) .normal (L σ):=by
 intro n
 induction n with
 | zero=>intro _ _ _ r h; cases h
 | succ n ih=>
  intro v1 v2 v3 r h σ hσ
  rw[Q5] at h
  refine B8 ?_
  rcases ic h with ⟨h4,h⟩|⟨h4,h⟩
  ·obtain⟨x5,h5,h⟩:=ob h
   try simp only[hσ,h4,h5,C2y,A,B,C,E,F,J]
   refine E0 rfl rfl ?_
   obtain⟨h6,h⟩:=E2 h
   rcases ic h with ⟨h7,h⟩|⟨h7,h⟩
   ·try simp only[h4,h5,h6,h7,A,B,C,E,F,J]
    refine C6 rfl ?_
    obtain⟨x8,h8,h⟩:=ob h
    obtain⟨x9,h9,h⟩:=ob h
    obtain⟨r10,h10,h⟩:=ob h
    try simp only[h4,h5,h6,h7,h8,h9,A,B,C,E,F,J]
    refine E6 (B6m _ _ _ _ h10) rfl rfl (uf rfl) ?_
    try simp only[h4,h5,h6,h7,h8,h9,A,B,C,E,F,J]
    refine D8 (es:=O zC ([r10]:List XDuty)) rfl rfl ?_
    obtain⟨h11,h⟩:=E2 h
    try simp only[h4,h5,h6,h7,h8,h9,h11,A,B,C,E,F,J]
    refine C6 rfl ?_
    try simp only[h4,h5,h6,h7,h8,h9,h11,A,B,C,E,F,J]
    refine ih _ _ _ _ h _ ?_
    try simp only[h4,h5,h6,h7,h8,h9,h11,A,B,C,E,F,J,U]
   ·try simp only[h4,h5,h6,h7,A,B,C,E,F,J]
    refine ih _ _ _ _ h _ ?_
    try simp only[h4,h5,h6,h7,A,B,C,E,F,J,U]
  ·obtain⟨r12,h12,h⟩:=ob h
   try simp only[hσ,h4,C2y,D0m,A,B,C,E,F,J]
   refine W4 (B7b _ _ _ _ h12) rfl (A82 rfl ⟨A8v,rfl,⟨⟩⟩) rfl (uf rfl) ?_
   rcases ic h with ⟨h13,h⟩|⟨h13,h⟩
   ·obtain⟨r14,h14,h⟩:=ob h
    try simp only[h4,h13,A,B,C,E,F,J]
    refine W4 (B0c _ _ _ _ _ h14) rfl (W7 rfl) rfl (uf rfl) ?_
    rcases ic h with ⟨h15,h⟩|⟨h15,h⟩
    ·obtain⟨r16,h16,h⟩:=ob h
     try simp only[h4,h13,h15,A,B,C,E,F,J]
     refine W4 (B0c _ _ _ _ _ h16) rfl (W7 rfl) rfl (uf rfl) ?_
     try simp only[h4,h13,h15,A,B,C,E,F,J]
     cases h
     trivial
    ·try simp only[h4,h13,h15,A,B,C,E,F,J]
     cases h
     trivial
   ·try simp only[h4,h13,A,B,C,E,F,J]
    cases h
    trivial
theorem F3q:B0 Q 202=L (cc445.strip,[4],79):=by kernel_rfl
theorem B9p(a0:XHarbour)(a1:List XOption)(r:Bool)(h:S5 a0 a1=L r):FC Q 202 [.ag (X a0),.sc (.sl (O P a1))] [.sc (.v (.bool r))]:=by
 unfold S5 at h
 refine D3 B4 F3q rfl ?_
 simp only[cc445,A,B,C,E,F,J]
 try simp only[A,B,C,E,F,J]
 refine B7 rfl rfl rfl ?_
 try simp only[A,B,C,E,F,J]
 refine D8 (es:=O I ([]:List XPassage)) rfl rfl ?_
 try simp only[A,B,C,E,F,J]
 refine D8 (es:=O zC ([]:List XDuty)) rfl rfl ?_
 try simp only[A,B,C,E,F,J]
 refine F2r _ _ _ _ _ _ _ h _ ?_
 try simp only[A,B,C,E,F,J,U]
/- 106:impl_fitsTo -/
def A05:List (List Nat × AItem):= [([],(N,.load 25 (S 3) G 12)),([],(N,.mv 26 (S 1))),([1],(N,.call 27 203 [(S 26)])),([],(N,.load 28 (S 5) G 4)),([3],(N,.bslice 29 4 [.int .i64 0,.int .i64 0,.int .i64 0,.sl []] 1 [(0,(S 28))])),([2,4,2],(N,.app 30 4 48 (S 27) (S 29))),([0,5,5],(N,.call 31 202 [(S 25),(S 30)])),([6,6,0,1,2,3,4,5,6],(N,.mv 6 (S 31)))]
def C22:ACode:= .seq (.reg [(N,.keep [1,3,5,9,10,11] [3,5] [])]) (.seq (.reg [bn 12 .lss 11 10]) (.seq (.cond (S 12) .skip (.exit 0)) (.seq (.block 1 (.seq (.reg [ia 13 9 11 4,lw 14 13 4,(N,.alloc 8 [aI 0,aI 0,aI 0,.nil]),so 8 14 4]) (.seq (.reg [fa 15 3 3,lw 16 15 2,fa 17 3 6,lw 18 17 2,fa 19 8 3,ld 20 19,fa 21 5 3,ld 22 21,ca 23 201 [S 16,S 18,S 20,S 22]]) (.cond (S 23) (.seq (.reg [(N,.mv 6 (KB H))]) .ret) .skip)))) (.reg [(N,.bin 24 .add (S 11) (K 1)),mv 11 24]))))
def D0n:ACode:=(.seq (.any A05) .ret)
def cc450:ACode:=(.seq (.reg [bo 3 0,bo 5 2,(N,.mv 6 (KB H))]) (.seq (.seq (.reg [mv 9 1,ln 10 9,(N,.mv 11 (K 0))]) (.block 0 (.loop C22))) D0n))
abbrev D2(a1:List XOption)(a0:XHarbour)(a2:XOption)(r9:Bool)(wo2_:AV)(c0_ c1_:Bool)(c2_ c3_:Bool)(c4_ c5_:Bool)(c6_ c7_:Bool)(bx_:List (Nat × List AC))(rs_:Rows):St:=⟨[(1,vc (aL (O P a1))),(3,vc (.pb 3 0)),(5,vc (.pb 5 0)),(25,bif c0_ then va (dm a0.row) else .undef),(26,bif c1_ then vc (aL (O P a1)) else .undef),(27,bif c2_ then wo2_ else .undef),(28,bif c3_ then va (dm a2.row) else .undef),(29,bif c4_ then vc (.own 1856) else .undef),(30,bif c5_ then vc (.own 1728) else .undef),(31,bif c6_ then vc (aB r9) else .undef),(6,bif c7_ then vc (aB r9) else .undef)],bx_,rs_⟩
abbrev W1(a1:List XOption)(a0:XHarbour)(a2:XOption)(r6:(List XOption))(r9:Bool):St:=(D2 a1 a0 a2 r9 (vc (.undef)) G G G G G G G G [(3,(dm a0.row)),(5,(dm a2.row))] [(1728,4,O P (r6++([a2]:List XOption))),(1856,4,O P ([a2]:List XOption))])
theorem E8f(a1:List XOption)(a0:XHarbour)(a2:XOption)(r6:(List XOption))(r9:Bool)(h6:J4 a1=L r6)(h7:(D4 r6.length ([a2]:List XOption).length 48)=G)(h9:S5 a0 (r6++([a2]:List XOption))=L r9):∀(f:Nat) (b0 b6 b7:Bool),E8 Q A05 (W1 a1 a0 a2 r6 r9) f [b0,G,G,G,G,G,b6,b7] (D2 a1 a0 a2 r9 (vc (.undef)) b0 G G G G G b6 b7 [(3,(dm a0.row)),(5,(dm a2.row))] [(1728,4,O P (r6++([a2]:List XOption))),(1856,4,O P ([a2]:List XOption))]):=by
 intro f
 induction f with
 | zero=>
  intro b0 b6 b7 h
  obtain rfl:b0=G:=V.1 h b0 (by simp)
  obtain rfl:b6=G:=V.1 h b6 (by simp)
  obtain rfl:b7=G:=V.1 h b7 (by simp)
  rfl
 | succ f ih=>
  intro b0 b6 b7
  refine B6 ⟨?_,?_,?_,?_,?_,?_,?_,?_,⟨⟩⟩
  ·intro h0 hw
   obtain rfl:=hz h0 rfl
   refine np ?_
   try simp only[D2,cdt,cdf,A1,A,B,C,E,F,J]
   exact ih G b6 b7
  ·intro h; cases h
  ·intro h; cases h
  ·intro h; cases h
  ·intro h; cases h
  ·intro h; cases h
  ·intro h0 hw
   obtain rfl:=hz h0 rfl
   obtain rfl:=hq hw 0 rfl rfl
   refine np ?_
   try simp only[D2,cdt,cdf,A1,A,B,C,E,F,J]
   refine W4 (B9p _ _ _ h9) rfl (W7 rfl) (by simp only[St.fresh,W,Y,Q1]; simp[AV.cells,V1.cells,AC.uses]) (uf rfl) ?_
   try simp only[A1,A,B,C,E,F,J]
   exact ih G G b7
  ·intro h0 hw
   obtain rfl:=hz h0 rfl
   obtain rfl:=hq hw 0 rfl rfl
   obtain rfl:=hq hw 6 rfl rfl
   refine np ?_
   try simp only[D2,cdt,cdf,A1,A,B,C,E,F,J]
   exact ih G G G
theorem D9d(a1:List XOption)(a0:XHarbour)(a2:XOption)(r6:(List XOption))(r9:Bool)(h6:J4 a1=L r6)(h7:(D4 r6.length ([a2]:List XOption).length 48)=G)(h9:S5 a0 (r6++([a2]:List XOption))=L r9):∀(f:Nat) (b0:Bool),E8 Q A05 (W1 a1 a0 a2 r6 r9) f [b0,G,G,G,G,H,H,H] (D2 a1 a0 a2 r9 (vc (.own 1728)) b0 G G G G H H H [(3,(dm a0.row)),(5,(dm a2.row))] [(1728,4,O P r6),(1856,4,O P ([a2]:List XOption))]):=by
 intro f
 induction f with
 | zero=>intro b0 h; simp at h
 | succ f ih=>
  intro b0
  refine B6 ⟨?_,?_,?_,?_,?_,?_,?_,?_,⟨⟩⟩
  ·intro h0 hw
   obtain rfl:=hz h0 rfl
   refine np ?_
   try simp only[D2,cdt,cdf,A1,A,B,C,E,F,J]
   exact ih G
  ·intro h; cases h
  ·intro h; cases h
  ·intro h; cases h
  ·intro h; cases h
  ·intro h0 hw
   refine np ?_
   try simp only[h7,D2,cdt,cdf,A1,A,B,C,E,F,J]
   exact E8f a1 a0 a2 r6 r9 h6 h7 h9 _ b0 H H
  ·intro _ hw; have:=hw 5 (by simp); cases this
  ·intro _ hw; have:=hw 6 (by simp); cases this
theorem F39(a1:List XOption)(a0:XHarbour)(a2:XOption)(r6:(List XOption))(r9:Bool)(h6:J4 a1=L r6)(h7:(D4 r6.length ([a2]:List XOption).length 48)=G)(h9:S5 a0 (r6++([a2]:List XOption))=L r9):∀(f:Nat) (b0 b3:Bool),E8 Q A05 (W1 a1 a0 a2 r6 r9) f [b0,G,G,b3,H,H,H,H] (D2 a1 a0 a2 r9 (vc (.own 1728)) b0 G G b3 H H H H [(3,(dm a0.row)),(5,(dm a2.row))] [(1728,4,O P r6)]):=by
 intro f
 induction f with
 | zero=>intro b0 b3 h; simp at h
 | succ f ih=>
  intro b0 b3
  refine B6 ⟨?_,?_,?_,?_,?_,?_,?_,?_,⟨⟩⟩
  ·intro h0 hw
   obtain rfl:=hz h0 rfl
   refine np ?_
   try simp only[D2,cdt,cdf,A1,A,B,C,E,F,J]
   exact ih G b3
  ·intro h; cases h
  ·intro h; cases h
  ·intro h0 hw
   obtain rfl:=hz h0 rfl
   refine np ?_
   try simp only[D2,cdt,cdf,A1,A,B,C,E,F,J]
   exact ih b0 G
  ·intro h0 hw
   obtain rfl:=hq hw 3 rfl rfl
   refine np ?_
   try simp only[D2,cdt,cdf,A1,A,B,C,E,F,J]
   refine D8 (es:=O P ([a2]:List XOption)) rfl (by simp only[St.fresh,W,Y,Q1]; simp[AV.cells,V1.cells,AC.uses]) ?_
   try simp only[A1,A,B,C,E,F,J]
   exact D9d a1 a0 a2 r6 r9 h6 h7 h9 _ b0
  ·intro _ hw; have:=hw 4 (by simp); cases this
  ·intro _ hw; have:=hw 5 (by simp); cases this
  ·intro _ hw; have:=hw 6 (by simp); cases this
theorem F2q(a1:List XOption)(a0:XHarbour)(a2:XOption)(r6:(List XOption))(r9:Bool)(h6:J4 a1=L r6)(h7:(D4 r6.length ([a2]:List XOption).length 48)=G)(h9:S5 a0 (r6++([a2]:List XOption))=L r9):∀(f:Nat) (b0 b1:Bool),E8 Q A05 (W1 a1 a0 a2 r6 r9) f [b0,b1,H,G,G,H,H,H] (D2 a1 a0 a2 r9 (vc (.own 1728)) b0 b1 H G G H H H [(3,(dm a0.row)),(5,(dm a2.row))] [(1856,4,O P ([a2]:List XOption))]):=by
 intro f
 induction f with
 | zero=>intro b0 b1 h; simp at h
 | succ f ih=>
  intro b0 b1
  refine B6 ⟨?_,?_,?_,?_,?_,?_,?_,?_,⟨⟩⟩
  ·intro h0 hw
   obtain rfl:=hz h0 rfl
   refine np ?_
   try simp only[D2,cdt,cdf,A1,A,B,C,E,F,J]
   exact ih G b1
  ·intro h0 hw
   obtain rfl:=hz h0 rfl
   refine np ?_
   try simp only[D2,cdt,cdf,A1,A,B,C,E,F,J]
   exact ih b0 G
  ·intro h0 hw
   obtain rfl:=hq hw 1 rfl rfl
   refine⟨[],[(N,.keep [1,3,5,25,26,27,28,29,30,31,6] [3,5] [1728,1856])],rfl,rfl,?_⟩
   try simp only[D2,cdt,cdf,zA,Z,A1,A,B,C,E,F,J]
   refine A4 (A7z _ _ h6) rfl (by simp only[St.fresh,W,Y,Q1]; simp[AV.cells,V1.cells,AC.uses]) (uf rfl) ?_
   try simp only[A1,A,B,C,E,F,J]
   exact D9d a1 a0 a2 r6 r9 h6 h7 h9 _ b0
  ·intro h; cases h
  ·intro h; cases h
  ·intro _ hw; have:=hw 2 (by simp); cases this
  ·intro _ hw; have:=hw 5 (by simp); cases this
  ·intro _ hw; have:=hw 6 (by simp); cases this
theorem E9i(a1:List XOption)(a0:XHarbour)(a2:XOption)(r6:(List XOption))(r9:Bool)(h6:J4 a1=L r6)(h7:(D4 r6.length ([a2]:List XOption).length 48)=G)(h9:S5 a0 (r6++([a2]:List XOption))=L r9):∀(f:Nat) (b0 b1 b3:Bool),E8 Q A05 (W1 a1 a0 a2 r6 r9) f [b0,b1,H,b3,H,H,H,H] (D2 a1 a0 a2 r9 (vc (.own 1728)) b0 b1 H b3 H H H H [(3,(dm a0.row)),(5,(dm a2.row))] []):=by
 intro f
 induction f with
 | zero=>intro b0 b1 b3 h; simp at h
 | succ f ih=>
  intro b0 b1 b3
  refine B6 ⟨?_,?_,?_,?_,?_,?_,?_,?_,⟨⟩⟩
  ·intro h0 hw
   obtain rfl:=hz h0 rfl
   refine np ?_
   try simp only[D2,cdt,cdf,A1,A,B,C,E,F,J]
   exact ih G b1 b3
  ·intro h0 hw
   obtain rfl:=hz h0 rfl
   refine np ?_
   try simp only[D2,cdt,cdf,A1,A,B,C,E,F,J]
   exact ih b0 G b3
  ·intro h0 hw
   obtain rfl:=hq hw 1 rfl rfl
   refine np ?_
   try simp only[D2,cdt,cdf,A1,A,B,C,E,F,J]
   refine A4 (A7z _ _ h6) rfl (by simp only[St.fresh,W,Y,Q1]; simp[AV.cells,V1.cells,AC.uses]) (uf rfl) ?_
   try simp only[A1,A,B,C,E,F,J]
   exact F39 a1 a0 a2 r6 r9 h6 h7 h9 _ b0 b3
  ·intro h0 hw
   obtain rfl:=hz h0 rfl
   refine np ?_
   try simp only[D2,cdt,cdf,A1,A,B,C,E,F,J]
   exact ih b0 b1 G
  ·intro h0 hw
   obtain rfl:=hq hw 3 rfl rfl
   refine np ?_
   try simp only[D2,cdt,cdf,A1,A,B,C,E,F,J]
   refine D8 (es:=O P ([a2]:List XOption)) rfl (by simp only[St.fresh,W,Y,Q1]; simp[AV.cells,V1.cells,AC.uses]) ?_
   try simp only[A1,A,B,C,E,F,J]
   exact F2q a1 a0 a2 r6 r9 h6 h7 h9 _ b0 b1
  ·intro _ hw; have:=hw 2 (by simp); cases this
  ·intro _ hw; have:=hw 5 (by simp); cases this
  ·intro _ hw; have:=hw 6 (by simp); cases this
theorem F2y(a1:List XOption)(a0:XHarbour)(a2:XOption):∀(n:Nat) (v1:Int) (r:Bool),A0c a1 a0 a2 n v1=L r→∀σ:St,σ.kept [1,3,5,9,10,11] [3,5] []=⟨[(1,vc (aL (O P a1))),(3,vc (.pb 3 0)),(5,vc (.pb 5 0)),(9,vc (aL (O P a1))),(10,vc (aI (a1.length:Int))),(11,vc (aI v1))],[(3,(dm a0.row)),(5,(dm a2.row))],[]⟩→go Q (.code (.loop C22):: [.blk 0,.code D0n]) (Ret [6] [.sc (.v (.bool r))]) .normal (L σ):=by
 intro n
 induction n with
 | zero=>intro _ r h; cases h
 | succ n ih=>
  intro v1 r h σ hσ
  rw[A0c] at h
  refine B8 ?_
  rcases ic h with ⟨h2,h⟩|⟨h2,h⟩
  ·obtain⟨x3,h3,h⟩:=ob h
   try simp only[hσ,h2,h3,C22,A,B,C,E,F,J]
   refine E0 rfl rfl ?_
   obtain⟨r4,h4,h⟩:=ob h
   try simp only[h2,h3,A,B,C,E,F,J]
   refine A4 (B97 _ _ _ _ _ h4) rfl rfl (uf rfl) ?_
   rcases ic h with ⟨h5,h⟩|⟨h5,h⟩
   ·try simp only[h2,h3,h5,A,B,C,E,F,J]
    cases h
    trivial
   ·try simp only[h2,h3,h5,A,B,C,E,F,J]
    refine ih _ _ h _ ?_
    try simp only[h2,h3,h5,A,B,C,E,F,J,U]
  ·try simp only[hσ,h2,C22,D0n,A,B,C,E,F,J]
   obtain⟨r6,h6,h⟩:=ob h
   obtain⟨h7,h⟩:=E2 h
   obtain⟨r9,h9,h⟩:=ob h
   refine A37 (ks:= [1,3,5]) (bs:= [3,5]) (rs:= []) (τ:=(W1 a1 a0 a2 r6 r9)) rfl (E9i a1 a0 a2 r6 r9 h6 h7 h9 _ H H H) ?_
   simp only[W1,D2,cdt]
   try simp only[h2,h7,A,B,C,E,F,J]
   cases h
   trivial
theorem E9c:B0 Q 106=L (cc450.strip,[6],32):=by kernel_rfl
theorem C2k(a0:XHarbour)(a1:List XOption)(a2:XOption)(r:Bool)(h:A6z a0 a1 a2=L r):FC Q 106 [.ag (X a0),.sc (.sl (O P a1)),.ag (P a2)] [.sc (.v (.bool r))]:=by
 unfold A6z at h
 refine D3 B4 E9c rfl ?_
 simp only[cc450,A,B,C,E,F,J]
 try simp only[A,B,C,E,F,J]
 refine B7 rfl rfl rfl ?_
 try simp only[A,B,C,E,F,J]
 refine B7 rfl rfl rfl ?_
 try simp only[A,B,C,E,F,J]
 refine F2y _ _ _ _ _ _ h _ ?_
 try simp only[A,B,C,E,F,J,U]
/- 179:impl_planner_search -/
def N8:List (List Nat × AItem):= [([],(N,.mv 40 (S 0))),([],(N,.mv 41 (S 0))),([],(N,.mv 42 (S 0))),([],(N,.mv 43 (S 0))),([3],(N,.nilc 44 (S 43))),([4],(N,.faddr 45 (S 44) 15)),([5],(N,.load 46 (S 45) H 1)),([6],(N,.call 47 121 [(S 46)])),([],(N,.load 48 (S 2) G 2)),([0,0,3,4,5,6,7],(N,.nilc 49 (S 40))),([9,0,3,4,5,6,7],(N,.faddr 50 (S 49) 16)),([10,7,7,0,3,4,5,6,7],(N,.store (S 50) (S 47) 1)),([1,0,1,3,4,5,6,7,8,9,10,11],(N,.nilc 51 (S 41))),([12,0,1,3,4,5,6,7,8,9,10,11],(N,.faddr 52 (S 51) 17)),([13,8,11,0,1,3,4,5,6,7,8,9,10,11],(N,.store (S 52) (S 48) 2)),([2,0,1,2,3,4,5,6,7,8,9,10,11,12,13,14],(N,.nilc 53 (S 42))),([15,0,1,2,3,4,5,6,7,8,9,10,11,12,13,14],(N,.faddr 54 (S 53) 19)),([16,14,0,1,2,3,4,5,6,7,8,9,10,11,12,13,14],(N,.store (S 54) (KB G) 1))]
def G3:List (List Nat × AItem):= [([],(N,.mv 79 (S 0))),([],(N,.mv 80 (S 0))),([],(N,.mv 81 (S 0))),([2],(N,.nilc 82 (S 81))),([3],(N,.faddr 83 (S 82) 14)),([4],(N,.load 84 (S 83) H 1)),([],(N,.load 85 (S 5) G 4)),([6],(N,.bslice 86 4 [.int .i64 0,.int .i64 0,.int .i64 0,.sl []] 1 [(0,(S 85))])),([5,7],(N,.app 87 4 48 (S 84) (S 86))),([],(N,.mv 88 (S 0))),([9],(N,.nilc 89 (S 88))),([10],(N,.faddr 90 (S 89) 15)),([11],(N,.load 91 (S 90) H 1)),([],(N,.mv 92 (S 4))),([13],(N,.bslice 93 1 [.int .i64 0] 1 [(0,(S 92))])),([12,14,8],(N,.app 94 1 8 (S 91) (S 93))),([0,0,2,3,4,5,6,7,8,12,15],(N,.nilc 95 (S 79))),([16,0,2,3,4,5,6,7,8,12,15],(N,.faddr 96 (S 95) 14)),([17,8,15,0,2,3,4,5,6,7,8,12,15],(N,.store (S 96) (S 87) 1)),([1,0,1,2,3,4,5,6,7,8,9,10,11,12,13,14,15,16,17,18],(N,.nilc 97 (S 80))),([19,0,1,2,3,4,5,6,7,8,9,10,11,12,13,14,15,16,17,18],(N,.faddr 98 (S 97) 15)),([20,15,18,0,1,2,3,4,5,6,7,8,9,10,11,12,13,14,15,16,17,18],(N,.store (S 98) (S 94) 1))]
def J1:List (List Nat × AItem):= [([],(N,.mv 101 (S 0))),([],(N,.mv 102 (S 0))),([],(N,.mv 103 (S 0))),([2],(N,.nilc 104 (S 103))),([3],(N,.faddr 105 (S 104) 14)),([4],(N,.load 106 (S 105) H 1)),([],(N,.mv 107 (S 3))),([5,6],(N,.slc 108 4 (S 106) N (L (S 107)) N)),([],(N,.mv 109 (S 0))),([8],(N,.nilc 110 (S 109))),([9],(N,.faddr 111 (S 110) 15)),([10],(N,.load 112 (S 111) H 1)),([],(N,.mv 113 (S 3))),([11,12],(N,.slc 114 1 (S 112) N (L (S 113)) N)),([0,0,2,3,4,5,6,7,11],(N,.nilc 115 (S 101))),([14,0,2,3,4,5,6,7,11],(N,.faddr 116 (S 115) 14)),([15,7,0,2,3,4,5,6,7,11],(N,.store (S 116) (S 108) 1)),([1,0,1,2,3,4,5,6,7,8,9,10,11,12,13,14,15,16],(N,.nilc 117 (S 102))),([17,0,1,2,3,4,5,6,7,8,9,10,11,12,13,14,15,16],(N,.faddr 118 (S 117) 15)),([18,13,16,0,1,2,3,4,5,6,7,8,9,10,11,12,13,14,15,16],(N,.store (S 118) (S 114) 1))]
def C3r:ACode:= .seq (.reg [(N,.keep [0,3,61,62,63] [99999999999] [90000,90001,90002])]) (.seq (.reg [bn 64 .lss 63 62]) (.seq (.cond (S 64) .skip (.exit 0)) (.seq (.block 1 (.seq (.reg [mv 65 63,ia 66 61 63 4,lw 67 66 4,(N,.alloc 5 [aI 0,aI 0,aI 0,.nil]),mv 4 65,so 5 67 4]) (.seq (.seq (.drw [o0 (mv 68 0),o0 (N,.nilc 69 (S 68)),o0 (fa 70 69 0),o0 (lw 71 70 12),o0 (mv 72 0),o0 (N,.nilc 73 (S 72)),o0 (fa 74 73 14),o0 (ld 75 74),o0 (lw 76 5 4),o0 (ca 77 106 [S 71,S 75,S 76]),o0 (nt 78 77)]) (.cond (S 78) (.exit 1) .skip)) (.seq (.any G3) (.seq (.cal [mv 99 0] 100 179 [(S 99)]) (.any J1)))))) (.reg [(N,.bin 119 .add (S 63) (K 1)),mv 63 119]))))
def C4f:ACode:= .seq (.reg [(N,.keep [0,2] [99999999999,2] [90000,90001,90002])]) (.seq (.reg [mv 28 0,(N,.nilc 29 (S 28)),fa 30 29 14,ld 31 30,ln 32 31,mv 3 32]) (.seq (.seq (.reg [mv 33 3,mv 34 0,(N,.nilc 35 (S 34)),fa 36 35 12,ld 37 36,ln 38 37,bn 39 .eql 33 38]) (.cond (S 39) (.seq (.any N8) .ret) .skip)) (.seq (.reg [mv 55 0,(N,.nilc 56 (S 55)),fa 57 56 12,ld 58 57,mv 59 3,ia 60 58 59 1,ld 61 60,ln 62 61,(N,.mv 63 (K 0))]) (.block 0 (.loop C3r)))))
def cc460:ACode:=(.seq (.drw [(L [2],mv 6 0),(L [2],(N,.nilc 7 (S 6))),(L [2],fa 8 7 13),(L [2],ld 9 8),(L [2],mv 10 0),(L [2],(N,.nilc 11 (S 10))),(L [2],fa 12 11 14),(L [2],ld 13 12),(L [2],(N,.callv 14 (S 9) [(S 13)])),(L [14],(N,.alloc 2 [aI 0,aI 0])),(N,so 2 14 2)]) (.seq (.seq (.drw [o0 (mv 15 0),o0 (N,.nilc 16 (S 15)),o0 (fa 17 16 19),o0 (ld 18 17),o0 (mv 19 18),o0 (L (19,G),.load 20 (S 2) G 2),o0 (L (19,G),.mv 21 (S 0)),o0 (L (19,G),.nilc 22 (S 21)),o0 (L (19,G),.faddr 23 (S 22) 17),o0 (L (19,G),.load 24 (S 23) G 2),o0 (L (19,G),.call 25 265 [(S 20),(S 24)]),o0 (L (19,G),.un 26 .not (S 25)),o0 (pa 27 19 26)]) (.cond (S 27) .ret .skip)) C4f))
abbrev A7(r1:Xweight)(c0_ c1_:Bool)(c2_ c3_:Bool)(c4_ c5_:Bool)(c6_ c7_:Bool)(c8_ c9_:Bool)(c10_ c12_:Bool)(c13_ c15_ c16_:Bool)(bx_:List (Nat × List AC))(rs_:Rows):St:=⟨[(0,vc (.pb 99999999999 0)),(2,vc (.pb 2 0)),(40,bif c0_ then vc (.pb 99999999999 0) else .undef),(41,bif c1_ then vc (.pb 99999999999 0) else .undef),(42,bif c2_ then vc (.pb 99999999999 0) else .undef),(43,bif c3_ then vc (.pb 99999999999 0) else .undef),(44,bif c4_ then vc (.pb 99999999999 0) else .undef),(45,bif c5_ then vc (.pb 99999999999 15) else .undef),(46,bif c6_ then vc (.own 90001) else .undef),(47,bif c7_ then vc (.own 3008) else .undef),(48,bif c8_ then va [aI r1.i0,aI r1.i1] else .undef),(49,bif c9_ then vc (.pb 99999999999 0) else .undef),(50,bif c10_ then vc (.pb 99999999999 16) else .undef),(51,bif c12_ then vc (.pb 99999999999 0) else .undef),(52,bif c13_ then vc (.pb 99999999999 17) else .undef),(53,bif c15_ then vc (.pb 99999999999 0) else .undef),(54,bif c16_ then vc (.pb 99999999999 19) else .undef)],bx_,rs_⟩
abbrev K5(F_w0:FuncId)(caps_w0:List D)(a0:Xplanner)(r1:Xweight)(r7:(List Int)):St:=(A7 r1 G G G G G G G G G G G G G G G [(99999999999,(dm a0.h.row++ [aL (O (rL P) a0.choices),.dat (.clo F_w0 caps_w0),.own 90000,.own 90001,.own 3008,aI r1.i0,aI r1.i1,aB G])),(2,[aI r1.i0,aI r1.i1])] [(90000,4,O P a0.plan),(90001,1,O rI a0.choice),(90002,1,O rI a0.best),(3008,1,O rI r7)])
theorem F3w(F_w0:FuncId)(caps_w0:List D)(a0:Xplanner)(r1:Xweight)(v5:Bool)(r7:(List Int))(h7:D5 a0.choice=L r7):∀(f:Nat) (b15:Bool),E8 Q N8 (K5 F_w0 caps_w0 a0 r1 r7) f [G,G,G,G,G,G,G,G,G,G,G,G,G,G,G,b15,G,G] (A7 r1 G G G G G G G G G G G G G b15 G [(99999999999,(dm a0.h.row++ [aL (O (rL P) a0.choices),.dat (.clo F_w0 caps_w0),.own 90000,.own 90001,.own 3008,aI r1.i0,aI r1.i1,aB G])),(2,[aI r1.i0,aI r1.i1])] [(90000,4,O P a0.plan),(90001,1,O rI a0.choice),(90002,1,O rI a0.best),(3008,1,O rI r7)]):=by
 intro f
 induction f with
 | zero=>
  intro b15 h
  obtain rfl:b15=G:=V.1 h b15 (by simp)
  rfl
 | succ f ih=>
  intro b15
  refine B6 ⟨?_,?_,?_,?_,?_,?_,?_,?_,?_,?_,?_,?_,?_,?_,?_,?_,?_,?_,⟨⟩⟩
  ·intro h; cases h
  ·intro h; cases h
  ·intro h; cases h
  ·intro h; cases h
  ·intro h; cases h
  ·intro h; cases h
  ·intro h; cases h
  ·intro h; cases h
  ·intro h; cases h
  ·intro h; cases h
  ·intro h; cases h
  ·intro h; cases h
  ·intro h; cases h
  ·intro h; cases h
  ·intro h; cases h
  ·intro h0 hw
   obtain rfl:=hz h0 rfl
   refine np ?_
   try simp only[A7,cdt,cdf,A1,A,B,C,E,F,J]
   exact ih G
  ·intro h; cases h
  ·intro h; cases h
theorem F4t(F_w0:FuncId)(caps_w0:List D)(a0:Xplanner)(r1:Xweight)(v5:Bool)(r7:(List Int))(h7:D5 a0.choice=L r7):∀(f:Nat) (b2 b12:Bool) (b15 b16:Bool),E8 Q N8 (K5 F_w0 caps_w0 a0 r1 r7) f [G,G,b2,G,G,G,G,G,G,G,G,G,b12,G,G,b15,b16,H] (A7 r1 G G b2 G G G G G G G G b12 G b15 b16 [(99999999999,(dm a0.h.row++ [aL (O (rL P) a0.choices),.dat (.clo F_w0 caps_w0),.own 90000,.own 90001,.own 3008,aI r1.i0,aI r1.i1,aB v5])),(2,[aI r1.i0,aI r1.i1])] [(90000,4,O P a0.plan),(90001,1,O rI a0.choice),(90002,1,O rI a0.best),(3008,1,O rI r7)]):=by
 intro f
 induction f with
 | zero=>intro b2 b12 b15 b16 h; simp at h
 | succ f ih=>
  intro b2 b12 b15 b16
  refine B6 ⟨?_,?_,?_,?_,?_,?_,?_,?_,?_,?_,?_,?_,?_,?_,?_,?_,?_,?_,⟨⟩⟩
  ·intro h; cases h
  ·intro h; cases h
  ·intro h0 hw
   obtain rfl:=hz h0 rfl
   refine np ?_
   try simp only[A7,cdt,cdf,A1,A,B,C,E,F,J]
   exact ih G b12 b15 b16
  ·intro h; cases h
  ·intro h; cases h
  ·intro h; cases h
  ·intro h; cases h
  ·intro h; cases h
  ·intro h; cases h
  ·intro h; cases h
  ·intro h; cases h
  ·intro h; cases h
  ·intro h0 hw
   obtain rfl:=hz h0 rfl
   refine np ?_
   try simp only[A7,cdt,cdf,A1,A,B,C,E,F,J]
   exact ih b2 G b15 b16
  ·intro h; cases h
  ·intro h; cases h
  ·intro h0 hw
   obtain rfl:=hz h0 rfl
   obtain rfl:=hq hw 2 rfl rfl
   obtain rfl:=hq hw 12 rfl rfl
   refine np ?_
   try simp only[A7,cdt,cdf,A1,A,B,C,E,F,J]
   exact ih G G G b16
  ·intro h0 hw
   obtain rfl:=hz h0 rfl
   obtain rfl:=hq hw 2 rfl rfl
   obtain rfl:=hq hw 12 rfl rfl
   obtain rfl:=hq hw 15 rfl rfl
   refine np ?_
   try simp only[A7,cdt,cdf,A1,A,B,C,E,F,J]
   exact ih G G G G
  ·intro h0 hw
   obtain rfl:=hq hw 2 rfl rfl
   obtain rfl:=hq hw 12 rfl rfl
   obtain rfl:=hq hw 16 rfl rfl
   refine np ?_
   try simp only[A7,cdt,cdf,A1,A,B,C,E,F,J]
   exact F3w F_w0 caps_w0 a0 r1 v5 r7 h7 _ b15
theorem E9y(F_w0:FuncId)(caps_w0:List D)(a0:Xplanner)(r1:Xweight)(v5:Bool)(r7:(List Int))(h7:D5 a0.choice=L r7):∀(f:Nat) (b1 b2:Bool) (b8 b9:Bool) (b12 b13:Bool),E8 Q N8 (K5 F_w0 caps_w0 a0 r1 r7) f [G,b1,b2,G,G,G,G,G,b8,b9,G,G,b12,b13,H,H,H,H] (A7 r1 G b1 b2 G G G G G b8 b9 G b12 b13 H H [(99999999999,(dm a0.h.row++ [aL (O (rL P) a0.choices),.dat (.clo F_w0 caps_w0),.own 90000,.own 90001,.own 3008,aI a0.least.i0,aI a0.least.i1,aB v5])),(2,[aI r1.i0,aI r1.i1])] [(90000,4,O P a0.plan),(90001,1,O rI a0.choice),(90002,1,O rI a0.best),(3008,1,O rI r7)]):=by
 intro f
 induction f with
 | zero=>intro b1 b2 b8 b9 b12 b13 h; simp at h
 | succ f ih=>
  intro b1 b2 b8 b9 b12 b13
  refine B6 ⟨?_,?_,?_,?_,?_,?_,?_,?_,?_,?_,?_,?_,?_,?_,?_,?_,?_,?_,⟨⟩⟩
  ·intro h; cases h
  ·intro h0 hw
   obtain rfl:=hz h0 rfl
   refine np ?_
   try simp only[A7,cdt,cdf,A1,A,B,C,E,F,J]
   exact ih G b2 b8 b9 b12 b13
  ·intro h0 hw
   obtain rfl:=hz h0 rfl
   refine np ?_
   try simp only[A7,cdt,cdf,A1,A,B,C,E,F,J]
   exact ih b1 G b8 b9 b12 b13
  ·intro h; cases h
  ·intro h; cases h
  ·intro h; cases h
  ·intro h; cases h
  ·intro h; cases h
  ·intro h0 hw
   obtain rfl:=hz h0 rfl
   refine np ?_
   try simp only[A7,cdt,cdf,A1,A,B,C,E,F,J]
   exact ih b1 b2 G b9 b12 b13
  ·intro h0 hw
   obtain rfl:=hz h0 rfl
   refine np ?_
   try simp only[A7,cdt,cdf,A1,A,B,C,E,F,J]
   exact ih b1 b2 b8 G b12 b13
  ·intro h; cases h
  ·intro h; cases h
  ·intro h0 hw
   obtain rfl:=hz h0 rfl
   obtain rfl:=hq hw 1 rfl rfl
   obtain rfl:=hq hw 8 rfl rfl
   obtain rfl:=hq hw 9 rfl rfl
   refine np ?_
   try simp only[A7,cdt,cdf,A1,A,B,C,E,F,J]
   exact ih G b2 G G G b13
  ·intro h0 hw
   obtain rfl:=hz h0 rfl
   obtain rfl:=hq hw 1 rfl rfl
   obtain rfl:=hq hw 8 rfl rfl
   obtain rfl:=hq hw 9 rfl rfl
   obtain rfl:=hq hw 12 rfl rfl
   refine np ?_
   try simp only[A7,cdt,cdf,A1,A,B,C,E,F,J]
   exact ih G b2 G G G G
  ·intro h0 hw
   obtain rfl:=hq hw 1 rfl rfl
   obtain rfl:=hq hw 8 rfl rfl
   obtain rfl:=hq hw 9 rfl rfl
   obtain rfl:=hq hw 13 rfl rfl
   refine np ?_
   try simp only[A7,cdt,cdf,A1,A,B,C,E,F,J]
   exact F4t F_w0 caps_w0 a0 r1 v5 r7 h7 _ b2 b12 H H
  ·intro _ hw; have:=hw 14 (by simp); cases this
  ·intro _ hw; have:=hw 15 (by simp); cases this
  ·intro _ hw; have:=hw 16 (by simp); cases this
theorem F3d(F_w0:FuncId)(caps_w0:List D)(a0:Xplanner)(r1:Xweight)(v5:Bool)(r7:(List Int))(h7:D5 a0.choice=L r7):∀(f:Nat) (b0 b1:Bool) (b2 b3:Bool) (b4 b5:Bool) (b8 b9 b10:Bool),E8 Q N8 (K5 F_w0 caps_w0 a0 r1 r7) f [b0,b1,b2,b3,b4,b5,G,G,b8,b9,b10,H,H,H,H,H,H,H] (A7 r1 b0 b1 b2 b3 b4 b5 G G b8 b9 b10 H H H H [(99999999999,(dm a0.h.row++ [aL (O (rL P) a0.choices),.dat (.clo F_w0 caps_w0),.own 90000,.own 90001,.own 90002,aI a0.least.i0,aI a0.least.i1,aB v5])),(2,[aI r1.i0,aI r1.i1])] [(90000,4,O P a0.plan),(90001,1,O rI a0.choice),(90002,1,O rI a0.best),(3008,1,O rI r7)]):=by
 intro f
 induction f with
 | zero=>intro b0 b1 b2 b3 b4 b5 b8 b9 b10 h; simp at h
 | succ f ih=>
  intro b0 b1 b2 b3 b4 b5 b8 b9 b10
  refine B6 ⟨?_,?_,?_,?_,?_,?_,?_,?_,?_,?_,?_,?_,?_,?_,?_,?_,?_,?_,⟨⟩⟩
  ·intro h0 hw
   obtain rfl:=hz h0 rfl
   refine np ?_
   try simp only[A7,cdt,cdf,A1,A,B,C,E,F,J]
   exact ih G b1 b2 b3 b4 b5 b8 b9 b10
  ·intro h0 hw
   obtain rfl:=hz h0 rfl
   refine np ?_
   try simp only[A7,cdt,cdf,A1,A,B,C,E,F,J]
   exact ih b0 G b2 b3 b4 b5 b8 b9 b10
  ·intro h0 hw
   obtain rfl:=hz h0 rfl
   refine np ?_
   try simp only[A7,cdt,cdf,A1,A,B,C,E,F,J]
   exact ih b0 b1 G b3 b4 b5 b8 b9 b10
  ·intro h0 hw
   obtain rfl:=hz h0 rfl
   refine np ?_
   try simp only[A7,cdt,cdf,A1,A,B,C,E,F,J]
   exact ih b0 b1 b2 G b4 b5 b8 b9 b10
  ·intro h0 hw
   obtain rfl:=hz h0 rfl
   obtain rfl:=hq hw 3 rfl rfl
   refine np ?_
   try simp only[A7,cdt,cdf,A1,A,B,C,E,F,J]
   exact ih b0 b1 b2 G G b5 b8 b9 b10
  ·intro h0 hw
   obtain rfl:=hz h0 rfl
   obtain rfl:=hq hw 4 rfl rfl
   refine np ?_
   try simp only[A7,cdt,cdf,A1,A,B,C,E,F,J]
   exact ih b0 b1 b2 b3 G G b8 b9 b10
  ·intro h; cases h
  ·intro h; cases h
  ·intro h0 hw
   obtain rfl:=hz h0 rfl
   refine np ?_
   try simp only[A7,cdt,cdf,A1,A,B,C,E,F,J]
   exact ih b0 b1 b2 b3 b4 b5 G b9 b10
  ·intro h0 hw
   obtain rfl:=hz h0 rfl
   obtain rfl:=hq hw 0 rfl rfl
   obtain rfl:=hq hw 3 rfl rfl
   obtain rfl:=hq hw 4 rfl rfl
   obtain rfl:=hq hw 5 rfl rfl
   refine np ?_
   try simp only[A7,cdt,cdf,A1,A,B,C,E,F,J]
   exact ih G b1 b2 G G G b8 G b10
  ·intro h0 hw
   obtain rfl:=hz h0 rfl
   obtain rfl:=hq hw 0 rfl rfl
   obtain rfl:=hq hw 3 rfl rfl
   obtain rfl:=hq hw 4 rfl rfl
   obtain rfl:=hq hw 5 rfl rfl
   obtain rfl:=hq hw 9 rfl rfl
   refine np ?_
   try simp only[A7,cdt,cdf,A1,A,B,C,E,F,J]
   exact ih G b1 b2 G G G b8 G G
  ·intro h0 hw
   obtain rfl:=hq hw 0 rfl rfl
   obtain rfl:=hq hw 3 rfl rfl
   obtain rfl:=hq hw 4 rfl rfl
   obtain rfl:=hq hw 5 rfl rfl
   obtain rfl:=hq hw 10 rfl rfl
   refine np ?_
   try simp only[A7,cdt,cdf,A1,A,B,C,E,F,J]
   exact E9y F_w0 caps_w0 a0 r1 v5 r7 h7 _ b1 b2 b8 b9 H H
  ·intro _ hw; have:=hw 11 (by simp); cases this
  ·intro _ hw; have:=hw 12 (by simp); cases this
  ·intro _ hw; have:=hw 13 (by simp); cases this
  ·intro _ hw; have:=hw 11 (by simp); cases this
  ·intro _ hw; have:=hw 15 (by simp); cases this
  ·intro _ hw; have:=hw 16 (by simp); cases this
theorem E8r(F_w0:FuncId)(caps_w0:List D)(a0:Xplanner)(r1:Xweight)(v5:Bool)(r7:(List Int))(h7:D5 a0.choice=L r7):∀(f:Nat) (b0 b1:Bool) (b2 b3:Bool) (b4 b5:Bool) (b6 b8:Bool),E8 Q N8 (K5 F_w0 caps_w0 a0 r1 r7) f [b0,b1,b2,b3,b4,b5,b6,H,b8,H,H,H,H,H,H,H,H,H] (A7 r1 b0 b1 b2 b3 b4 b5 b6 H b8 H H H H H H [(99999999999,(dm a0.h.row++ [aL (O (rL P) a0.choices),.dat (.clo F_w0 caps_w0),.own 90000,.own 90001,.own 90002,aI a0.least.i0,aI a0.least.i1,aB v5])),(2,[aI r1.i0,aI r1.i1])] [(90000,4,O P a0.plan),(90001,1,O rI a0.choice),(90002,1,O rI a0.best)]):=by
 intro f
 induction f with
 | zero=>intro b0 b1 b2 b3 b4 b5 b6 b8 h; simp at h
 | succ f ih=>
  intro b0 b1 b2 b3 b4 b5 b6 b8
  refine B6 ⟨?_,?_,?_,?_,?_,?_,?_,?_,?_,?_,?_,?_,?_,?_,?_,?_,?_,?_,⟨⟩⟩
  ·intro h0 hw
   obtain rfl:=hz h0 rfl
   refine np ?_
   try simp only[A7,cdt,cdf,A1,A,B,C,E,F,J]
   exact ih G b1 b2 b3 b4 b5 b6 b8
  ·intro h0 hw
   obtain rfl:=hz h0 rfl
   refine np ?_
   try simp only[A7,cdt,cdf,A1,A,B,C,E,F,J]
   exact ih b0 G b2 b3 b4 b5 b6 b8
  ·intro h0 hw
   obtain rfl:=hz h0 rfl
   refine np ?_
   try simp only[A7,cdt,cdf,A1,A,B,C,E,F,J]
   exact ih b0 b1 G b3 b4 b5 b6 b8
  ·intro h0 hw
   obtain rfl:=hz h0 rfl
   refine np ?_
   try simp only[A7,cdt,cdf,A1,A,B,C,E,F,J]
   exact ih b0 b1 b2 G b4 b5 b6 b8
  ·intro h0 hw
   obtain rfl:=hz h0 rfl
   obtain rfl:=hq hw 3 rfl rfl
   refine np ?_
   try simp only[A7,cdt,cdf,A1,A,B,C,E,F,J]
   exact ih b0 b1 b2 G G b5 b6 b8
  ·intro h0 hw
   obtain rfl:=hz h0 rfl
   obtain rfl:=hq hw 4 rfl rfl
   refine np ?_
   try simp only[A7,cdt,cdf,A1,A,B,C,E,F,J]
   exact ih b0 b1 b2 b3 G G b6 b8
  ·intro h0 hw
   obtain rfl:=hz h0 rfl
   obtain rfl:=hq hw 5 rfl rfl
   refine np ?_
   try simp only[A7,cdt,cdf,A1,A,B,C,E,F,J]
   exact ih b0 b1 b2 b3 b4 G G b8
  ·intro h0 hw
   obtain rfl:=hq hw 6 rfl rfl
   refine np ?_
   try simp only[A7,cdt,cdf,A1,A,B,C,E,F,J]
   refine W4 (A4v _ _ h7) rfl (A82 rfl ⟨A8v,⟨⟩⟩) (by simp only[St.fresh,W,Y,Q1]; simp[AV.cells,V1.cells,AC.uses]) (uf rfl) ?_
   try simp only[A1,A,B,C,E,F,J]
   exact F3d F_w0 caps_w0 a0 r1 v5 r7 h7 _ b0 b1 b2 b3 b4 b5 b8 H H
  ·intro h0 hw
   obtain rfl:=hz h0 rfl
   refine np ?_
   try simp only[A7,cdt,cdf,A1,A,B,C,E,F,J]
   exact ih b0 b1 b2 b3 b4 b5 b6 G
  ·intro _ hw; have:=hw 7 (by simp); cases this
  ·intro _ hw; have:=hw 9 (by simp); cases this
  ·intro _ hw; have:=hw 10 (by simp); cases this
  ·intro _ hw; have:=hw 7 (by simp); cases this
  ·intro _ hw; have:=hw 12 (by simp); cases this
  ·intro _ hw; have:=hw 13 (by simp); cases this
  ·intro _ hw; have:=hw 7 (by simp); cases this
  ·intro _ hw; have:=hw 15 (by simp); cases this
  ·intro _ hw; have:=hw 16 (by simp); cases this
abbrev A2(a0:Xplanner)(x8:List XOption)(v9:Int)(x19:XOption)(wo5_ wo12_:AV)(c0_ c1_:Bool)(c2_ c3_:Bool)(c4_ c5_:Bool)(c6_ c7_:Bool)(c8_ c9_:Bool)(c10_ c11_:Bool)(c12_ c13_:Bool)(c14_ c15_:Bool)(c16_ c17_:Bool)(c19_ c20_:Bool)(bx_:List (Nat × List AC))(rs_:Rows):St:=⟨[(0,vc (.pb 99999999999 0)),(3,vc (aI (a0.plan.length:Int))),(4,vc (aI v9)),(5,vc (.pb 5 0)),(61,vc (aL (O P x8))),(62,vc (aI (x8.length:Int))),(63,vc (aI v9)),(79,bif c0_ then vc (.pb 99999999999 0) else .undef),(80,bif c1_ then vc (.pb 99999999999 0) else .undef),(81,bif c2_ then vc (.pb 99999999999 0) else .undef),(82,bif c3_ then vc (.pb 99999999999 0) else .undef),(83,bif c4_ then vc (.pb 99999999999 14) else .undef),(84,bif c5_ then wo5_ else .undef),(85,bif c6_ then va (dm x19.row) else .undef),(86,bif c7_ then vc (.own 5504) else .undef),(87,bif c8_ then vc (.own 90000) else .undef),(88,bif c9_ then vc (.pb 99999999999 0) else .undef),(89,bif c10_ then vc (.pb 99999999999 0) else .undef),(90,bif c11_ then vc (.pb 99999999999 15) else .undef),(91,bif c12_ then wo12_ else .undef),(92,bif c13_ then vc (aI v9) else .undef),(93,bif c14_ then vc (.own 5952) else .undef),(94,bif c15_ then vc (.own 90001) else .undef),(95,bif c16_ then vc (.pb 99999999999 0) else .undef),(96,bif c17_ then vc (.pb 99999999999 14) else .undef),(97,bif c19_ then vc (.pb 99999999999 0) else .undef),(98,bif c20_ then vc (.pb 99999999999 15) else .undef)],bx_,rs_⟩
abbrev F1(F_w0:FuncId)(caps_w0:List D)(a0:Xplanner)(x8:List XOption)(v9:Int)(v10:XHarbour)(v11:List (List XOption))(v12 v13:Int)(v14:Bool)(v15:List XOption)(v16 v17:List Int)(x19:XOption):St:=(A2 a0 x8 v9 x19 (vc (.undef)) (vc (.undef)) G G G G G G G G G G G G G G G G G G G G [(99999999999,(dm v10.row++ [aL (O (rL P) v11),.dat (.clo F_w0 caps_w0),.own 90000,.own 90001,.own 90002,aI v12,aI v13,aB v14])),(5,(dm x19.row))] [(90000,4,O P (v15++([x19]:List XOption))),(90001,1,O rI (v16++([v9]:List Int))),(90002,1,O rI v17),(5504,4,O P ([x19]:List XOption)),(5952,1,O rI ([v9]:List Int))])
theorem F0s(F_w0:FuncId)(caps_w0:List D)(a0:Xplanner)(x8:List XOption)(v9:Int)(v10:XHarbour)(v11:List (List XOption))(v12 v13:Int)(v14:Bool)(v15:List XOption)(v16 v17:List Int)(x19:XOption)(h22:(D4 v15.length ([x19]:List XOption).length 48)=G)(h23:(D4 v16.length ([v9]:List Int).length 8)=G):∀(f:Nat) (b19:Bool),E8 Q G3 (F1 F_w0 caps_w0 a0 x8 v9 v10 v11 v12 v13 v14 v15 v16 v17 x19) f [G,G,G,G,G,G,G,G,G,G,G,G,G,G,G,G,G,G,G,b19,G,G] (A2 a0 x8 v9 x19 (vc (.undef)) (vc (.undef)) G G G G G G G G G G G G G G G G G G b19 G [(99999999999,(dm v10.row++ [aL (O (rL P) v11),.dat (.clo F_w0 caps_w0),.own 90000,.own 90001,.own 90002,aI v12,aI v13,aB v14])),(5,(dm x19.row))] [(90000,4,O P (v15++([x19]:List XOption))),(90001,1,O rI (v16++([v9]:List Int))),(90002,1,O rI v17),(5504,4,O P ([x19]:List XOption)),(5952,1,O rI ([v9]:List Int))]):=by
 intro f
 induction f with
 | zero=>
  intro b19 h
  obtain rfl:b19=G:=V.1 h b19 (by simp)
  rfl
 | succ f ih=>
  intro b19
  refine B6 ⟨?_,?_,?_,?_,?_,?_,?_,?_,?_,?_,?_,?_,?_,?_,?_,?_,?_,?_,?_,?_,?_,?_,⟨⟩⟩
  ·intro h; cases h
  ·intro h; cases h
  ·intro h; cases h
  ·intro h; cases h
  ·intro h; cases h
  ·intro h; cases h
  ·intro h; cases h
  ·intro h; cases h
  ·intro h; cases h
  ·intro h; cases h
  ·intro h; cases h
  ·intro h; cases h
  ·intro h; cases h
  ·intro h; cases h
  ·intro h; cases h
  ·intro h; cases h
  ·intro h; cases h
  ·intro h; cases h
  ·intro h; cases h
  ·intro h0 hw
   obtain rfl:=hz h0 rfl
   refine np ?_
   try simp only[A2,cdt,cdf,A1,A,B,C,E,F,J]
   exact ih G
  ·intro h; cases h
  ·intro h; cases h
theorem F1q(F_w0:FuncId)(caps_w0:List D)(a0:Xplanner)(x8:List XOption)(v9:Int)(v10:XHarbour)(v11:List (List XOption))(v12 v13:Int)(v14:Bool)(v15:List XOption)(v16 v17:List Int)(x19:XOption)(h22:(D4 v15.length ([x19]:List XOption).length 48)=G)(h23:(D4 v16.length ([v9]:List Int).length 8)=G):∀(f:Nat) (b1 b9:Bool) (b10 b11:Bool) (b16 b19 b20:Bool),E8 Q G3 (F1 F_w0 caps_w0 a0 x8 v9 v10 v11 v12 v13 v14 v15 v16 v17 x19) f [G,b1,G,G,G,G,G,G,G,b9,b10,b11,G,G,G,G,b16,G,G,b19,b20,H] (A2 a0 x8 v9 x19 (vc (.undef)) (vc (.undef)) G b1 G G G G G G G b9 b10 b11 G G G G b16 G b19 b20 [(99999999999,(dm v10.row++ [aL (O (rL P) v11),.dat (.clo F_w0 caps_w0),.own 90000,.undef,.own 90002,aI v12,aI v13,aB v14])),(5,(dm x19.row))] [(90000,4,O P (v15++([x19]:List XOption))),(90001,1,O rI (v16++([v9]:List Int))),(90002,1,O rI v17),(5504,4,O P ([x19]:List XOption)),(5952,1,O rI ([v9]:List Int))]):=by
 intro f
 induction f with
 | zero=>intro b1 b9 b10 b11 b16 b19 b20 h; simp at h
 | succ f ih=>
  intro b1 b9 b10 b11 b16 b19 b20
  refine B6 ⟨?_,?_,?_,?_,?_,?_,?_,?_,?_,?_,?_,?_,?_,?_,?_,?_,?_,?_,?_,?_,?_,?_,⟨⟩⟩
  ·intro h; cases h
  ·intro h0 hw
   obtain rfl:=hz h0 rfl
   refine np ?_
   try simp only[A2,cdt,cdf,A1,A,B,C,E,F,J]
   exact ih G b9 b10 b11 b16 b19 b20
  ·intro h; cases h
  ·intro h; cases h
  ·intro h; cases h
  ·intro h; cases h
  ·intro h; cases h
  ·intro h; cases h
  ·intro h; cases h
  ·intro h0 hw
   obtain rfl:=hz h0 rfl
   refine np ?_
   try simp only[A2,cdt,cdf,A1,A,B,C,E,F,J]
   exact ih b1 G b10 b11 b16 b19 b20
  ·intro h0 hw
   obtain rfl:=hz h0 rfl
   obtain rfl:=hq hw 9 rfl rfl
   refine np ?_
   try simp only[A2,cdt,cdf,A1,A,B,C,E,F,J]
   exact ih b1 G G b11 b16 b19 b20
  ·intro h0 hw
   obtain rfl:=hz h0 rfl
   obtain rfl:=hq hw 10 rfl rfl
   refine np ?_
   try simp only[A2,cdt,cdf,A1,A,B,C,E,F,J]
   exact ih b1 b9 G G b16 b19 b20
  ·intro h; cases h
  ·intro h; cases h
  ·intro h; cases h
  ·intro h; cases h
  ·intro h0 hw
   obtain rfl:=hz h0 rfl
   refine np ?_
   try simp only[A2,cdt,cdf,A1,A,B,C,E,F,J]
   exact ih b1 b9 b10 b11 G b19 b20
  ·intro h; cases h
  ·intro h; cases h
  ·intro h0 hw
   obtain rfl:=hz h0 rfl
   obtain rfl:=hq hw 1 rfl rfl
   obtain rfl:=hq hw 9 rfl rfl
   obtain rfl:=hq hw 10 rfl rfl
   obtain rfl:=hq hw 11 rfl rfl
   obtain rfl:=hq hw 16 rfl rfl
   refine np ?_
   try simp only[A2,cdt,cdf,A1,A,B,C,E,F,J]
   exact ih G G G G G G b20
  ·intro h0 hw
   obtain rfl:=hz h0 rfl
   obtain rfl:=hq hw 1 rfl rfl
   obtain rfl:=hq hw 9 rfl rfl
   obtain rfl:=hq hw 10 rfl rfl
   obtain rfl:=hq hw 11 rfl rfl
   obtain rfl:=hq hw 16 rfl rfl
   obtain rfl:=hq hw 19 rfl rfl
   refine np ?_
   try simp only[A2,cdt,cdf,A1,A,B,C,E,F,J]
   exact ih G G G G G G G
  ·intro h0 hw
   obtain rfl:=hq hw 1 rfl rfl
   obtain rfl:=hq hw 9 rfl rfl
   obtain rfl:=hq hw 10 rfl rfl
   obtain rfl:=hq hw 11 rfl rfl
   obtain rfl:=hq hw 16 rfl rfl
   obtain rfl:=hq hw 20 rfl rfl
   refine np ?_
   try simp only[A2,cdt,cdf,A1,A,B,C,E,F,J]
   exact F0s F_w0 caps_w0 a0 x8 v9 v10 v11 v12 v13 v14 v15 v16 v17 x19 h22 h23 _ b19
theorem F0t(F_w0:FuncId)(caps_w0:List D)(a0:Xplanner)(x8:List XOption)(v9:Int)(v10:XHarbour)(v11:List (List XOption))(v12 v13:Int)(v14:Bool)(v15:List XOption)(v16 v17:List Int)(x19:XOption)(h22:(D4 v15.length ([x19]:List XOption).length 48)=G)(h23:(D4 v16.length ([v9]:List Int).length 8)=G):∀(f:Nat) (b0 b1:Bool) (b2 b3:Bool) (b4 b9:Bool) (b10 b11:Bool) (b16 b17:Bool),E8 Q G3 (F1 F_w0 caps_w0 a0 x8 v9 v10 v11 v12 v13 v14 v15 v16 v17 x19) f [b0,b1,b2,b3,b4,G,G,G,G,b9,b10,b11,G,G,G,G,b16,b17,H,H,H,H] (A2 a0 x8 v9 x19 (vc (.undef)) (vc (.undef)) b0 b1 b2 b3 b4 G G G G b9 b10 b11 G G G G b16 b17 H H [(99999999999,(dm v10.row++ [aL (O (rL P) v11),.dat (.clo F_w0 caps_w0),.undef,.undef,.own 90002,aI v12,aI v13,aB v14])),(5,(dm x19.row))] [(90000,4,O P (v15++([x19]:List XOption))),(90001,1,O rI (v16++([v9]:List Int))),(90002,1,O rI v17),(5504,4,O P ([x19]:List XOption)),(5952,1,O rI ([v9]:List Int))]):=by
 intro f
 induction f with
 | zero=>intro b0 b1 b2 b3 b4 b9 b10 b11 b16 b17 h; simp at h
 | succ f ih=>
  intro b0 b1 b2 b3 b4 b9 b10 b11 b16 b17
  refine B6 ⟨?_,?_,?_,?_,?_,?_,?_,?_,?_,?_,?_,?_,?_,?_,?_,?_,?_,?_,?_,?_,?_,?_,⟨⟩⟩
  ·intro h0 hw
   obtain rfl:=hz h0 rfl
   refine np ?_
   try simp only[A2,cdt,cdf,A1,A,B,C,E,F,J]
   exact ih G b1 b2 b3 b4 b9 b10 b11 b16 b17
  ·intro h0 hw
   obtain rfl:=hz h0 rfl
   refine np ?_
   try simp only[A2,cdt,cdf,A1,A,B,C,E,F,J]
   exact ih b0 G b2 b3 b4 b9 b10 b11 b16 b17
  ·intro h0 hw
   obtain rfl:=hz h0 rfl
   refine np ?_
   try simp only[A2,cdt,cdf,A1,A,B,C,E,F,J]
   exact ih b0 b1 G b3 b4 b9 b10 b11 b16 b17
  ·intro h0 hw
   obtain rfl:=hz h0 rfl
   obtain rfl:=hq hw 2 rfl rfl
   refine np ?_
   try simp only[A2,cdt,cdf,A1,A,B,C,E,F,J]
   exact ih b0 b1 G G b4 b9 b10 b11 b16 b17
  ·intro h0 hw
   obtain rfl:=hz h0 rfl
   obtain rfl:=hq hw 3 rfl rfl
   refine np ?_
   try simp only[A2,cdt,cdf,A1,A,B,C,E,F,J]
   exact ih b0 b1 b2 G G b9 b10 b11 b16 b17
  ·intro h; cases h
  ·intro h; cases h
  ·intro h; cases h
  ·intro h; cases h
  ·intro h0 hw
   obtain rfl:=hz h0 rfl
   refine np ?_
   try simp only[A2,cdt,cdf,A1,A,B,C,E,F,J]
   exact ih b0 b1 b2 b3 b4 G b10 b11 b16 b17
  ·intro h0 hw
   obtain rfl:=hz h0 rfl
   obtain rfl:=hq hw 9 rfl rfl
   refine np ?_
   try simp only[A2,cdt,cdf,A1,A,B,C,E,F,J]
   exact ih b0 b1 b2 b3 b4 G G b11 b16 b17
  ·intro h0 hw
   obtain rfl:=hz h0 rfl
   obtain rfl:=hq hw 10 rfl rfl
   refine np ?_
   try simp only[A2,cdt,cdf,A1,A,B,C,E,F,J]
   exact ih b0 b1 b2 b3 b4 b9 G G b16 b17
  ·intro h; cases h
  ·intro h; cases h
  ·intro h; cases h
  ·intro h; cases h
  ·intro h0 hw
   obtain rfl:=hz h0 rfl
   obtain rfl:=hq hw 0 rfl rfl
   obtain rfl:=hq hw 2 rfl rfl
   obtain rfl:=hq hw 3 rfl rfl
   obtain rfl:=hq hw 4 rfl rfl
   refine np ?_
   try simp only[A2,cdt,cdf,A1,A,B,C,E,F,J]
   exact ih G b1 G G G b9 b10 b11 G b17
  ·intro h0 hw
   obtain rfl:=hz h0 rfl
   obtain rfl:=hq hw 0 rfl rfl
   obtain rfl:=hq hw 2 rfl rfl
   obtain rfl:=hq hw 3 rfl rfl
   obtain rfl:=hq hw 4 rfl rfl
   obtain rfl:=hq hw 16 rfl rfl
   refine np ?_
   try simp only[A2,cdt,cdf,A1,A,B,C,E,F,J]
   exact ih G b1 G G G b9 b10 b11 G G
  ·intro h0 hw
   obtain rfl:=hq hw 0 rfl rfl
   obtain rfl:=hq hw 2 rfl rfl
   obtain rfl:=hq hw 3 rfl rfl
   obtain rfl:=hq hw 4 rfl rfl
   obtain rfl:=hq hw 17 rfl rfl
   refine np ?_
   try simp only[A2,cdt,cdf,A1,A,B,C,E,F,J]
   exact F1q F_w0 caps_w0 a0 x8 v9 v10 v11 v12 v13 v14 v15 v16 v17 x19 h22 h23 _ b1 b9 b10 b11 b16 H H
  ·intro _ hw; have:=hw 18 (by simp); cases this
  ·intro _ hw; have:=hw 19 (by simp); cases this
  ·intro _ hw; have:=hw 20 (by simp); cases this
theorem D87(F_w0:FuncId)(caps_w0:List D)(a0:Xplanner)(x8:List XOption)(v9:Int)(v10:XHarbour)(v11:List (List XOption))(v12 v13:Int)(v14:Bool)(v15:List XOption)(v16 v17:List Int)(x19:XOption)(h22:(D4 v15.length ([x19]:List XOption).length 48)=G)(h23:(D4 v16.length ([v9]:List Int).length 8)=G):∀(f:Nat) (b0 b1:Bool) (b2 b3:Bool) (b4 b9:Bool) (b10 b11 b12:Bool),E8 Q G3 (F1 F_w0 caps_w0 a0 x8 v9 v10 v11 v12 v13 v14 v15 v16 v17 x19) f [b0,b1,b2,b3,b4,G,G,G,G,b9,b10,b11,b12,G,G,H,H,H,H,H,H,H] (A2 a0 x8 v9 x19 (vc (.undef)) (vc (.own 90001)) b0 b1 b2 b3 b4 G G G G b9 b10 b11 b12 G G H H H H H [(99999999999,(dm v10.row++ [aL (O (rL P) v11),.dat (.clo F_w0 caps_w0),.undef,.own 90001,.own 90002,aI v12,aI v13,aB v14])),(5,(dm x19.row))] [(90000,4,O P (v15++([x19]:List XOption))),(90001,1,O rI v16),(90002,1,O rI v17),(5504,4,O P ([x19]:List XOption)),(5952,1,O rI ([v9]:List Int))]):=by
 intro f
 induction f with
 | zero=>intro b0 b1 b2 b3 b4 b9 b10 b11 b12 h; simp at h
 | succ f ih=>
  intro b0 b1 b2 b3 b4 b9 b10 b11 b12
  refine B6 ⟨?_,?_,?_,?_,?_,?_,?_,?_,?_,?_,?_,?_,?_,?_,?_,?_,?_,?_,?_,?_,?_,?_,⟨⟩⟩
  ·intro h0 hw
   obtain rfl:=hz h0 rfl
   refine np ?_
   try simp only[A2,cdt,cdf,A1,A,B,C,E,F,J]
   exact ih G b1 b2 b3 b4 b9 b10 b11 b12
  ·intro h0 hw
   obtain rfl:=hz h0 rfl
   refine np ?_
   try simp only[A2,cdt,cdf,A1,A,B,C,E,F,J]
   exact ih b0 G b2 b3 b4 b9 b10 b11 b12
  ·intro h0 hw
   obtain rfl:=hz h0 rfl
   refine np ?_
   try simp only[A2,cdt,cdf,A1,A,B,C,E,F,J]
   exact ih b0 b1 G b3 b4 b9 b10 b11 b12
  ·intro h0 hw
   obtain rfl:=hz h0 rfl
   obtain rfl:=hq hw 2 rfl rfl
   refine np ?_
   try simp only[A2,cdt,cdf,A1,A,B,C,E,F,J]
   exact ih b0 b1 G G b4 b9 b10 b11 b12
  ·intro h0 hw
   obtain rfl:=hz h0 rfl
   obtain rfl:=hq hw 3 rfl rfl
   refine np ?_
   try simp only[A2,cdt,cdf,A1,A,B,C,E,F,J]
   exact ih b0 b1 b2 G G b9 b10 b11 b12
  ·intro h; cases h
  ·intro h; cases h
  ·intro h; cases h
  ·intro h; cases h
  ·intro h0 hw
   obtain rfl:=hz h0 rfl
   refine np ?_
   try simp only[A2,cdt,cdf,A1,A,B,C,E,F,J]
   exact ih b0 b1 b2 b3 b4 G b10 b11 b12
  ·intro h0 hw
   obtain rfl:=hz h0 rfl
   obtain rfl:=hq hw 9 rfl rfl
   refine np ?_
   try simp only[A2,cdt,cdf,A1,A,B,C,E,F,J]
   exact ih b0 b1 b2 b3 b4 G G b11 b12
  ·intro h0 hw
   obtain rfl:=hz h0 rfl
   obtain rfl:=hq hw 10 rfl rfl
   refine np ?_
   try simp only[A2,cdt,cdf,A1,A,B,C,E,F,J]
   exact ih b0 b1 b2 b3 b4 b9 G G b12
  ·intro h0 hw
   obtain rfl:=hz h0 rfl
   obtain rfl:=hq hw 11 rfl rfl
   refine np ?_
   try simp only[A2,cdt,cdf,A1,A,B,C,E,F,J]
   exact ih b0 b1 b2 b3 b4 b9 b10 G G
  ·intro h; cases h
  ·intro h; cases h
  ·intro h0 hw
   obtain rfl:=hq hw 12 rfl rfl
   refine np ?_
   try simp only[h23,A2,cdt,cdf,A1,A,B,C,E,F,J]
   exact F0t F_w0 caps_w0 a0 x8 v9 v10 v11 v12 v13 v14 v15 v16 v17 x19 h22 h23 _ b0 b1 b2 b3 b4 b9 b10 b11 H H
  ·intro _ hw; have:=hw 15 (by simp); cases this
  ·intro _ hw; have:=hw 16 (by simp); cases this
  ·intro _ hw; have:=hw 17 (by simp); cases this
  ·intro _ hw; have:=hw 15 (by simp); cases this
  ·intro _ hw; have:=hw 19 (by simp); cases this
  ·intro _ hw; have:=hw 20 (by simp); cases this
theorem E9d(F_w0:FuncId)(caps_w0:List D)(a0:Xplanner)(x8:List XOption)(v9:Int)(v10:XHarbour)(v11:List (List XOption))(v12 v13:Int)(v14:Bool)(v15:List XOption)(v16 v17:List Int)(x19:XOption)(h22:(D4 v15.length ([x19]:List XOption).length 48)=G)(h23:(D4 v16.length ([v9]:List Int).length 8)=G):∀(f:Nat) (b0 b1:Bool) (b2 b3:Bool) (b4 b9:Bool) (b10 b11:Bool) (b12 b13:Bool),E8 Q G3 (F1 F_w0 caps_w0 a0 x8 v9 v10 v11 v12 v13 v14 v15 v16 v17 x19) f [b0,b1,b2,b3,b4,G,G,G,G,b9,b10,b11,b12,b13,H,H,H,H,H,H,H,H] (A2 a0 x8 v9 x19 (vc (.undef)) (vc (.own 90001)) b0 b1 b2 b3 b4 G G G G b9 b10 b11 b12 b13 H H H H H H [(99999999999,(dm v10.row++ [aL (O (rL P) v11),.dat (.clo F_w0 caps_w0),.undef,.own 90001,.own 90002,aI v12,aI v13,aB v14])),(5,(dm x19.row))] [(90000,4,O P (v15++([x19]:List XOption))),(90001,1,O rI v16),(90002,1,O rI v17),(5504,4,O P ([x19]:List XOption))]):=by
 intro f
 induction f with
 | zero=>intro b0 b1 b2 b3 b4 b9 b10 b11 b12 b13 h; simp at h
 | succ f ih=>
  intro b0 b1 b2 b3 b4 b9 b10 b11 b12 b13
  refine B6 ⟨?_,?_,?_,?_,?_,?_,?_,?_,?_,?_,?_,?_,?_,?_,?_,?_,?_,?_,?_,?_,?_,?_,⟨⟩⟩
  ·intro h0 hw
   obtain rfl:=hz h0 rfl
   refine np ?_
   try simp only[A2,cdt,cdf,A1,A,B,C,E,F,J]
   exact ih G b1 b2 b3 b4 b9 b10 b11 b12 b13
  ·intro h0 hw
   obtain rfl:=hz h0 rfl
   refine np ?_
   try simp only[A2,cdt,cdf,A1,A,B,C,E,F,J]
   exact ih b0 G b2 b3 b4 b9 b10 b11 b12 b13
  ·intro h0 hw
   obtain rfl:=hz h0 rfl
   refine np ?_
   try simp only[A2,cdt,cdf,A1,A,B,C,E,F,J]
   exact ih b0 b1 G b3 b4 b9 b10 b11 b12 b13
  ·intro h0 hw
   obtain rfl:=hz h0 rfl
   obtain rfl:=hq hw 2 rfl rfl
   refine np ?_
   try simp only[A2,cdt,cdf,A1,A,B,C,E,F,J]
   exact ih b0 b1 G G b4 b9 b10 b11 b12 b13
  ·intro h0 hw
   obtain rfl:=hz h0 rfl
   obtain rfl:=hq hw 3 rfl rfl
   refine np ?_
   try simp only[A2,cdt,cdf,A1,A,B,C,E,F,J]
   exact ih b0 b1 b2 G G b9 b10 b11 b12 b13
  ·intro h; cases h
  ·intro h; cases h
  ·intro h; cases h
  ·intro h; cases h
  ·intro h0 hw
   obtain rfl:=hz h0 rfl
   refine np ?_
   try simp only[A2,cdt,cdf,A1,A,B,C,E,F,J]
   exact ih b0 b1 b2 b3 b4 G b10 b11 b12 b13
  ·intro h0 hw
   obtain rfl:=hz h0 rfl
   obtain rfl:=hq hw 9 rfl rfl
   refine np ?_
   try simp only[A2,cdt,cdf,A1,A,B,C,E,F,J]
   exact ih b0 b1 b2 b3 b4 G G b11 b12 b13
  ·intro h0 hw
   obtain rfl:=hz h0 rfl
   obtain rfl:=hq hw 10 rfl rfl
   refine np ?_
   try simp only[A2,cdt,cdf,A1,A,B,C,E,F,J]
   exact ih b0 b1 b2 b3 b4 b9 G G b12 b13
  ·intro h0 hw
   obtain rfl:=hz h0 rfl
   obtain rfl:=hq hw 11 rfl rfl
   refine np ?_
   try simp only[A2,cdt,cdf,A1,A,B,C,E,F,J]
   exact ih b0 b1 b2 b3 b4 b9 b10 G G b13
  ·intro h0 hw
   obtain rfl:=hz h0 rfl
   refine np ?_
   try simp only[A2,cdt,cdf,A1,A,B,C,E,F,J]
   exact ih b0 b1 b2 b3 b4 b9 b10 b11 b12 G
  ·intro h0 hw
   obtain rfl:=hq hw 13 rfl rfl
   refine np ?_
   try simp only[A2,cdt,cdf,A1,A,B,C,E,F,J]
   refine D8 (es:=O rI ([v9]:List Int)) rfl (by simp only[St.fresh,W,Y,Q1]; simp[AV.cells,V1.cells,AC.uses]) ?_
   try simp only[A1,A,B,C,E,F,J]
   exact D87 F_w0 caps_w0 a0 x8 v9 v10 v11 v12 v13 v14 v15 v16 v17 x19 h22 h23 _ b0 b1 b2 b3 b4 b9 b10 b11 b12
  ·intro _ hw; have:=hw 14 (by simp); cases this
  ·intro _ hw; have:=hw 15 (by simp); cases this
  ·intro _ hw; have:=hw 16 (by simp); cases this
  ·intro _ hw; have:=hw 17 (by simp); cases this
  ·intro _ hw; have:=hw 14 (by simp); cases this
  ·intro _ hw; have:=hw 19 (by simp); cases this
  ·intro _ hw; have:=hw 20 (by simp); cases this
theorem D80(F_w0:FuncId)(caps_w0:List D)(a0:Xplanner)(x8:List XOption)(v9:Int)(v10:XHarbour)(v11:List (List XOption))(v12 v13:Int)(v14:Bool)(v15:List XOption)(v16 v17:List Int)(x19:XOption)(h22:(D4 v15.length ([x19]:List XOption).length 48)=G)(h23:(D4 v16.length ([v9]:List Int).length 8)=G):∀(f:Nat) (b0 b1:Bool) (b2 b3:Bool) (b4 b5:Bool) (b9 b10:Bool) (b11 b12:Bool),E8 Q G3 (F1 F_w0 caps_w0 a0 x8 v9 v10 v11 v12 v13 v14 v15 v16 v17 x19) f [b0,b1,b2,b3,b4,b5,G,G,H,b9,b10,b11,b12,G,G,H,H,H,H,H,H,H] (A2 a0 x8 v9 x19 (vc (.own 90000)) (vc (.own 90001)) b0 b1 b2 b3 b4 b5 G G H b9 b10 b11 b12 G G H H H H H [(99999999999,(dm v10.row++ [aL (O (rL P) v11),.dat (.clo F_w0 caps_w0),.own 90000,.own 90001,.own 90002,aI v12,aI v13,aB v14])),(5,(dm x19.row))] [(90000,4,O P v15),(90001,1,O rI v16),(90002,1,O rI v17),(5504,4,O P ([x19]:List XOption)),(5952,1,O rI ([v9]:List Int))]):=by
 intro f
 induction f with
 | zero=>intro b0 b1 b2 b3 b4 b5 b9 b10 b11 b12 h; simp at h
 | succ f ih=>
  intro b0 b1 b2 b3 b4 b5 b9 b10 b11 b12
  refine B6 ⟨?_,?_,?_,?_,?_,?_,?_,?_,?_,?_,?_,?_,?_,?_,?_,?_,?_,?_,?_,?_,?_,?_,⟨⟩⟩
  ·intro h0 hw
   obtain rfl:=hz h0 rfl
   refine np ?_
   try simp only[A2,cdt,cdf,A1,A,B,C,E,F,J]
   exact ih G b1 b2 b3 b4 b5 b9 b10 b11 b12
  ·intro h0 hw
   obtain rfl:=hz h0 rfl
   refine np ?_
   try simp only[A2,cdt,cdf,A1,A,B,C,E,F,J]
   exact ih b0 G b2 b3 b4 b5 b9 b10 b11 b12
  ·intro h0 hw
   obtain rfl:=hz h0 rfl
   refine np ?_
   try simp only[A2,cdt,cdf,A1,A,B,C,E,F,J]
   exact ih b0 b1 G b3 b4 b5 b9 b10 b11 b12
  ·intro h0 hw
   obtain rfl:=hz h0 rfl
   obtain rfl:=hq hw 2 rfl rfl
   refine np ?_
   try simp only[A2,cdt,cdf,A1,A,B,C,E,F,J]
   exact ih b0 b1 G G b4 b5 b9 b10 b11 b12
  ·intro h0 hw
   obtain rfl:=hz h0 rfl
   obtain rfl:=hq hw 3 rfl rfl
   refine np ?_
   try simp only[A2,cdt,cdf,A1,A,B,C,E,F,J]
   exact ih b0 b1 b2 G G b5 b9 b10 b11 b12
  ·intro h0 hw
   obtain rfl:=hz h0 rfl
   obtain rfl:=hq hw 4 rfl rfl
   refine np ?_
   try simp only[A2,cdt,cdf,A1,A,B,C,E,F,J]
   exact ih b0 b1 b2 b3 G G b9 b10 b11 b12
  ·intro h; cases h
  ·intro h; cases h
  ·intro h0 hw
   obtain rfl:=hq hw 5 rfl rfl
   refine np ?_
   try simp only[h22,A2,cdt,cdf,A1,A,B,C,E,F,J]
   exact D87 F_w0 caps_w0 a0 x8 v9 v10 v11 v12 v13 v14 v15 v16 v17 x19 h22 h23 _ b0 b1 b2 b3 b4 b9 b10 b11 b12
  ·intro h0 hw
   obtain rfl:=hz h0 rfl
   refine np ?_
   try simp only[A2,cdt,cdf,A1,A,B,C,E,F,J]
   exact ih b0 b1 b2 b3 b4 b5 G b10 b11 b12
  ·intro h0 hw
   obtain rfl:=hz h0 rfl
   obtain rfl:=hq hw 9 rfl rfl
   refine np ?_
   try simp only[A2,cdt,cdf,A1,A,B,C,E,F,J]
   exact ih b0 b1 b2 b3 b4 b5 G G b11 b12
  ·intro h0 hw
   obtain rfl:=hz h0 rfl
   obtain rfl:=hq hw 10 rfl rfl
   refine np ?_
   try simp only[A2,cdt,cdf,A1,A,B,C,E,F,J]
   exact ih b0 b1 b2 b3 b4 b5 b9 G G b12
  ·intro h0 hw
   obtain rfl:=hz h0 rfl
   obtain rfl:=hq hw 11 rfl rfl
   refine np ?_
   try simp only[A2,cdt,cdf,A1,A,B,C,E,F,J]
   exact ih b0 b1 b2 b3 b4 b5 b9 b10 G G
  ·intro h; cases h
  ·intro h; cases h
  ·intro _ hw; have:=hw 8 (by simp); cases this
  ·intro _ hw; have:=hw 8 (by simp); cases this
  ·intro _ hw; have:=hw 16 (by simp); cases this
  ·intro _ hw; have:=hw 17 (by simp); cases this
  ·intro _ hw; have:=hw 8 (by simp); cases this
  ·intro _ hw; have:=hw 19 (by simp); cases this
  ·intro _ hw; have:=hw 20 (by simp); cases this
theorem F4e(F_w0:FuncId)(caps_w0:List D)(a0:Xplanner)(x8:List XOption)(v9:Int)(v10:XHarbour)(v11:List (List XOption))(v12 v13:Int)(v14:Bool)(v15:List XOption)(v16 v17:List Int)(x19:XOption)(h22:(D4 v15.length ([x19]:List XOption).length 48)=G)(h23:(D4 v16.length ([v9]:List Int).length 8)=G):∀(f:Nat) (b0 b1:Bool) (b2 b3:Bool) (b4 b5:Bool) (b9 b10:Bool) (b11 b12 b13:Bool),E8 Q G3 (F1 F_w0 caps_w0 a0 x8 v9 v10 v11 v12 v13 v14 v15 v16 v17 x19) f [b0,b1,b2,b3,b4,b5,G,G,H,b9,b10,b11,b12,b13,H,H,H,H,H,H,H,H] (A2 a0 x8 v9 x19 (vc (.own 90000)) (vc (.own 90001)) b0 b1 b2 b3 b4 b5 G G H b9 b10 b11 b12 b13 H H H H H H [(99999999999,(dm v10.row++ [aL (O (rL P) v11),.dat (.clo F_w0 caps_w0),.own 90000,.own 90001,.own 90002,aI v12,aI v13,aB v14])),(5,(dm x19.row))] [(90000,4,O P v15),(90001,1,O rI v16),(90002,1,O rI v17),(5504,4,O P ([x19]:List XOption))]):=by
 intro f
 induction f with
 | zero=>intro b0 b1 b2 b3 b4 b5 b9 b10 b11 b12 b13 h; simp at h
 | succ f ih=>
  intro b0 b1 b2 b3 b4 b5 b9 b10 b11 b12 b13
  refine B6 ⟨?_,?_,?_,?_,?_,?_,?_,?_,?_,?_,?_,?_,?_,?_,?_,?_,?_,?_,?_,?_,?_,?_,⟨⟩⟩
  ·intro h0 hw
   obtain rfl:=hz h0 rfl
   refine np ?_
   try simp only[A2,cdt,cdf,A1,A,B,C,E,F,J]
   exact ih G b1 b2 b3 b4 b5 b9 b10 b11 b12 b13
  ·intro h0 hw
   obtain rfl:=hz h0 rfl
   refine np ?_
   try simp only[A2,cdt,cdf,A1,A,B,C,E,F,J]
   exact ih b0 G b2 b3 b4 b5 b9 b10 b11 b12 b13
  ·intro h0 hw
   obtain rfl:=hz h0 rfl
   refine np ?_
   try simp only[A2,cdt,cdf,A1,A,B,C,E,F,J]
   exact ih b0 b1 G b3 b4 b5 b9 b10 b11 b12 b13
  ·intro h0 hw
   obtain rfl:=hz h0 rfl
   obtain rfl:=hq hw 2 rfl rfl
   refine np ?_
   try simp only[A2,cdt,cdf,A1,A,B,C,E,F,J]
   exact ih b0 b1 G G b4 b5 b9 b10 b11 b12 b13
  ·intro h0 hw
   obtain rfl:=hz h0 rfl
   obtain rfl:=hq hw 3 rfl rfl
   refine np ?_
   try simp only[A2,cdt,cdf,A1,A,B,C,E,F,J]
   exact ih b0 b1 b2 G G b5 b9 b10 b11 b12 b13
  ·intro h0 hw
   obtain rfl:=hz h0 rfl
   obtain rfl:=hq hw 4 rfl rfl
   refine np ?_
   try simp only[A2,cdt,cdf,A1,A,B,C,E,F,J]
   exact ih b0 b1 b2 b3 G G b9 b10 b11 b12 b13
  ·intro h; cases h
  ·intro h; cases h
  ·intro h0 hw
   obtain rfl:=hq hw 5 rfl rfl
   refine np ?_
   try simp only[h22,A2,cdt,cdf,A1,A,B,C,E,F,J]
   exact E9d F_w0 caps_w0 a0 x8 v9 v10 v11 v12 v13 v14 v15 v16 v17 x19 h22 h23 _ b0 b1 b2 b3 b4 b9 b10 b11 b12 b13
  ·intro h0 hw
   obtain rfl:=hz h0 rfl
   refine np ?_
   try simp only[A2,cdt,cdf,A1,A,B,C,E,F,J]
   exact ih b0 b1 b2 b3 b4 b5 G b10 b11 b12 b13
  ·intro h0 hw
   obtain rfl:=hz h0 rfl
   obtain rfl:=hq hw 9 rfl rfl
   refine np ?_
   try simp only[A2,cdt,cdf,A1,A,B,C,E,F,J]
   exact ih b0 b1 b2 b3 b4 b5 G G b11 b12 b13
  ·intro h0 hw
   obtain rfl:=hz h0 rfl
   obtain rfl:=hq hw 10 rfl rfl
   refine np ?_
   try simp only[A2,cdt,cdf,A1,A,B,C,E,F,J]
   exact ih b0 b1 b2 b3 b4 b5 b9 G G b12 b13
  ·intro h0 hw
   obtain rfl:=hz h0 rfl
   obtain rfl:=hq hw 11 rfl rfl
   refine np ?_
   try simp only[A2,cdt,cdf,A1,A,B,C,E,F,J]
   exact ih b0 b1 b2 b3 b4 b5 b9 b10 G G b13
  ·intro h0 hw
   obtain rfl:=hz h0 rfl
   refine np ?_
   try simp only[A2,cdt,cdf,A1,A,B,C,E,F,J]
   exact ih b0 b1 b2 b3 b4 b5 b9 b10 b11 b12 G
  ·intro h0 hw
   obtain rfl:=hq hw 13 rfl rfl
   refine np ?_
   try simp only[A2,cdt,cdf,A1,A,B,C,E,F,J]
   refine D8 (es:=O rI ([v9]:List Int)) rfl (by simp only[St.fresh,W,Y,Q1]; simp[AV.cells,V1.cells,AC.uses]) ?_
   try simp only[A1,A,B,C,E,F,J]
   exact D80 F_w0 caps_w0 a0 x8 v9 v10 v11 v12 v13 v14 v15 v16 v17 x19 h22 h23 _ b0 b1 b2 b3 b4 b5 b9 b10 b11 b12
  ·intro _ hw; have:=hw 14 (by simp); cases this
  ·intro _ hw; have:=hw 8 (by simp); cases this
  ·intro _ hw; have:=hw 16 (by simp); cases this
  ·intro _ hw; have:=hw 17 (by simp); cases this
  ·intro _ hw; have:=hw 8 (by simp); cases this
  ·intro _ hw; have:=hw 19 (by simp); cases this
  ·intro _ hw; have:=hw 20 (by simp); cases this
theorem F34(F_w0:FuncId)(caps_w0:List D)(a0:Xplanner)(x8:List XOption)(v9:Int)(v10:XHarbour)(v11:List (List XOption))(v12 v13:Int)(v14:Bool)(v15:List XOption)(v16 v17:List Int)(x19:XOption)(h22:(D4 v15.length ([x19]:List XOption).length 48)=G)(h23:(D4 v16.length ([v9]:List Int).length 8)=G):∀(f:Nat) (b0 b1:Bool) (b2 b3:Bool) (b4 b5:Bool) (b6 b9:Bool) (b10 b11 b12:Bool),E8 Q G3 (F1 F_w0 caps_w0 a0 x8 v9 v10 v11 v12 v13 v14 v15 v16 v17 x19) f [b0,b1,b2,b3,b4,b5,b6,H,H,b9,b10,b11,b12,G,G,H,H,H,H,H,H,H] (A2 a0 x8 v9 x19 (vc (.own 90000)) (vc (.own 90001)) b0 b1 b2 b3 b4 b5 b6 H H b9 b10 b11 b12 G G H H H H H [(99999999999,(dm v10.row++ [aL (O (rL P) v11),.dat (.clo F_w0 caps_w0),.own 90000,.own 90001,.own 90002,aI v12,aI v13,aB v14])),(5,(dm x19.row))] [(90000,4,O P v15),(90001,1,O rI v16),(90002,1,O rI v17),(5952,1,O rI ([v9]:List Int))]):=by
 intro f
 induction f with
 | zero=>intro b0 b1 b2 b3 b4 b5 b6 b9 b10 b11 b12 h; simp at h
 | succ f ih=>
  intro b0 b1 b2 b3 b4 b5 b6 b9 b10 b11 b12
  refine B6 ⟨?_,?_,?_,?_,?_,?_,?_,?_,?_,?_,?_,?_,?_,?_,?_,?_,?_,?_,?_,?_,?_,?_,⟨⟩⟩
  ·intro h0 hw
   obtain rfl:=hz h0 rfl
   refine np ?_
   try simp only[A2,cdt,cdf,A1,A,B,C,E,F,J]
   exact ih G b1 b2 b3 b4 b5 b6 b9 b10 b11 b12
  ·intro h0 hw
   obtain rfl:=hz h0 rfl
   refine np ?_
   try simp only[A2,cdt,cdf,A1,A,B,C,E,F,J]
   exact ih b0 G b2 b3 b4 b5 b6 b9 b10 b11 b12
  ·intro h0 hw
   obtain rfl:=hz h0 rfl
   refine np ?_
   try simp only[A2,cdt,cdf,A1,A,B,C,E,F,J]
   exact ih b0 b1 G b3 b4 b5 b6 b9 b10 b11 b12
  ·intro h0 hw
   obtain rfl:=hz h0 rfl
   obtain rfl:=hq hw 2 rfl rfl
   refine np ?_
   try simp only[A2,cdt,cdf,A1,A,B,C,E,F,J]
   exact ih b0 b1 G G b4 b5 b6 b9 b10 b11 b12
  ·intro h0 hw
   obtain rfl:=hz h0 rfl
   obtain rfl:=hq hw 3 rfl rfl
   refine np ?_
   try simp only[A2,cdt,cdf,A1,A,B,C,E,F,J]
   exact ih b0 b1 b2 G G b5 b6 b9 b10 b11 b12
  ·intro h0 hw
   obtain rfl:=hz h0 rfl
   obtain rfl:=hq hw 4 rfl rfl
   refine np ?_
   try simp only[A2,cdt,cdf,A1,A,B,C,E,F,J]
   exact ih b0 b1 b2 b3 G G b6 b9 b10 b11 b12
  ·intro h0 hw
   obtain rfl:=hz h0 rfl
   refine np ?_
   try simp only[A2,cdt,cdf,A1,A,B,C,E,F,J]
   exact ih b0 b1 b2 b3 b4 b5 G b9 b10 b11 b12
  ·intro h0 hw
   obtain rfl:=hq hw 6 rfl rfl
   refine⟨[],[(N,.keep [0,3,4,5,61,62,63,79,80,81,82,83,84,85,86,87,88,89,90,91,92,93,94,95,96,97,98] [99999999999,5] [90000,90001,90002,5504,5952])],rfl,rfl,?_⟩
   try simp only[A2,cdt,cdf,zA,Z,A1,A,B,C,E,F,J]
   refine D8 (es:=O P ([x19]:List XOption)) rfl (by simp only[St.fresh,W,Y,Q1]; simp[AV.cells,V1.cells,AC.uses]) ?_
   try simp only[A1,A,B,C,E,F,J]
   exact D80 F_w0 caps_w0 a0 x8 v9 v10 v11 v12 v13 v14 v15 v16 v17 x19 h22 h23 _ b0 b1 b2 b3 b4 b5 b9 b10 b11 b12
  ·intro _ hw; have:=hw 7 (by simp); cases this
  ·intro h0 hw
   obtain rfl:=hz h0 rfl
   refine np ?_
   try simp only[A2,cdt,cdf,A1,A,B,C,E,F,J]
   exact ih b0 b1 b2 b3 b4 b5 b6 G b10 b11 b12
  ·intro h0 hw
   obtain rfl:=hz h0 rfl
   obtain rfl:=hq hw 9 rfl rfl
   refine np ?_
   try simp only[A2,cdt,cdf,A1,A,B,C,E,F,J]
   exact ih b0 b1 b2 b3 b4 b5 b6 G G b11 b12
  ·intro h0 hw
   obtain rfl:=hz h0 rfl
   obtain rfl:=hq hw 10 rfl rfl
   refine np ?_
   try simp only[A2,cdt,cdf,A1,A,B,C,E,F,J]
   exact ih b0 b1 b2 b3 b4 b5 b6 b9 G G b12
  ·intro h0 hw
   obtain rfl:=hz h0 rfl
   obtain rfl:=hq hw 11 rfl rfl
   refine np ?_
   try simp only[A2,cdt,cdf,A1,A,B,C,E,F,J]
   exact ih b0 b1 b2 b3 b4 b5 b6 b9 b10 G G
  ·intro h; cases h
  ·intro h; cases h
  ·intro _ hw; have:=hw 8 (by simp); cases this
  ·intro _ hw; have:=hw 7 (by simp); cases this
  ·intro _ hw; have:=hw 16 (by simp); cases this
  ·intro _ hw; have:=hw 17 (by simp); cases this
  ·intro _ hw; have:=hw 7 (by simp); cases this
  ·intro _ hw; have:=hw 19 (by simp); cases this
  ·intro _ hw; have:=hw 20 (by simp); cases this
theorem F4v(F_w0:FuncId)(caps_w0:List D)(a0:Xplanner)(x8:List XOption)(v9:Int)(v10:XHarbour)(v11:List (List XOption))(v12 v13:Int)(v14:Bool)(v15:List XOption)(v16 v17:List Int)(x19:XOption)(h22:(D4 v15.length ([x19]:List XOption).length 48)=G)(h23:(D4 v16.length ([v9]:List Int).length 8)=G):∀(f:Nat) (b0 b1:Bool) (b2 b3:Bool) (b4 b5:Bool) (b6 b9:Bool) (b10 b11:Bool) (b12 b13:Bool),E8 Q G3 (F1 F_w0 caps_w0 a0 x8 v9 v10 v11 v12 v13 v14 v15 v16 v17 x19) f [b0,b1,b2,b3,b4,b5,b6,H,H,b9,b10,b11,b12,b13,H,H,H,H,H,H,H,H] (A2 a0 x8 v9 x19 (vc (.own 90000)) (vc (.own 90001)) b0 b1 b2 b3 b4 b5 b6 H H b9 b10 b11 b12 b13 H H H H H H [(99999999999,(dm v10.row++ [aL (O (rL P) v11),.dat (.clo F_w0 caps_w0),.own 90000,.own 90001,.own 90002,aI v12,aI v13,aB v14])),(5,(dm x19.row))] [(90000,4,O P v15),(90001,1,O rI v16),(90002,1,O rI v17)]):=by
 intro f
 induction f with
 | zero=>intro b0 b1 b2 b3 b4 b5 b6 b9 b10 b11 b12 b13 h; simp at h
 | succ f ih=>
  intro b0 b1 b2 b3 b4 b5 b6 b9 b10 b11 b12 b13
  refine B6 ⟨?_,?_,?_,?_,?_,?_,?_,?_,?_,?_,?_,?_,?_,?_,?_,?_,?_,?_,?_,?_,?_,?_,⟨⟩⟩
  ·intro h0 hw
   obtain rfl:=hz h0 rfl
   refine np ?_
   try simp only[A2,cdt,cdf,A1,A,B,C,E,F,J]
   exact ih G b1 b2 b3 b4 b5 b6 b9 b10 b11 b12 b13
  ·intro h0 hw
   obtain rfl:=hz h0 rfl
   refine np ?_
   try simp only[A2,cdt,cdf,A1,A,B,C,E,F,J]
   exact ih b0 G b2 b3 b4 b5 b6 b9 b10 b11 b12 b13
  ·intro h0 hw
   obtain rfl:=hz h0 rfl
   refine np ?_
   try simp only[A2,cdt,cdf,A1,A,B,C,E,F,J]
   exact ih b0 b1 G b3 b4 b5 b6 b9 b10 b11 b12 b13
  ·intro h0 hw
   obtain rfl:=hz h0 rfl
   obtain rfl:=hq hw 2 rfl rfl
   refine np ?_
   try simp only[A2,cdt,cdf,A1,A,B,C,E,F,J]
   exact ih b0 b1 G G b4 b5 b6 b9 b10 b11 b12 b13
  ·intro h0 hw
   obtain rfl:=hz h0 rfl
   obtain rfl:=hq hw 3 rfl rfl
   refine np ?_
   try simp only[A2,cdt,cdf,A1,A,B,C,E,F,J]
   exact ih b0 b1 b2 G G b5 b6 b9 b10 b11 b12 b13
  ·intro h0 hw
   obtain rfl:=hz h0 rfl
   obtain rfl:=hq hw 4 rfl rfl
   refine np ?_
   try simp only[A2,cdt,cdf,A1,A,B,C,E,F,J]
   exact ih b0 b1 b2 b3 G G b6 b9 b10 b11 b12 b13
  ·intro h0 hw
   obtain rfl:=hz h0 rfl
   refine np ?_
   try simp only[A2,cdt,cdf,A1,A,B,C,E,F,J]
   exact ih b0 b1 b2 b3 b4 b5 G b9 b10 b11 b12 b13
  ·intro h0 hw
   obtain rfl:=hq hw 6 rfl rfl
   refine np ?_
   try simp only[A2,cdt,cdf,A1,A,B,C,E,F,J]
   refine D8 (es:=O P ([x19]:List XOption)) rfl (by simp only[St.fresh,W,Y,Q1]; simp[AV.cells,V1.cells,AC.uses]) ?_
   try simp only[A1,A,B,C,E,F,J]
   exact F4e F_w0 caps_w0 a0 x8 v9 v10 v11 v12 v13 v14 v15 v16 v17 x19 h22 h23 _ b0 b1 b2 b3 b4 b5 b9 b10 b11 b12 b13
  ·intro _ hw; have:=hw 7 (by simp); cases this
  ·intro h0 hw
   obtain rfl:=hz h0 rfl
   refine np ?_
   try simp only[A2,cdt,cdf,A1,A,B,C,E,F,J]
   exact ih b0 b1 b2 b3 b4 b5 b6 G b10 b11 b12 b13
  ·intro h0 hw
   obtain rfl:=hz h0 rfl
   obtain rfl:=hq hw 9 rfl rfl
   refine np ?_
   try simp only[A2,cdt,cdf,A1,A,B,C,E,F,J]
   exact ih b0 b1 b2 b3 b4 b5 b6 G G b11 b12 b13
  ·intro h0 hw
   obtain rfl:=hz h0 rfl
   obtain rfl:=hq hw 10 rfl rfl
   refine np ?_
   try simp only[A2,cdt,cdf,A1,A,B,C,E,F,J]
   exact ih b0 b1 b2 b3 b4 b5 b6 b9 G G b12 b13
  ·intro h0 hw
   obtain rfl:=hz h0 rfl
   obtain rfl:=hq hw 11 rfl rfl
   refine np ?_
   try simp only[A2,cdt,cdf,A1,A,B,C,E,F,J]
   exact ih b0 b1 b2 b3 b4 b5 b6 b9 b10 G G b13
  ·intro h0 hw
   obtain rfl:=hz h0 rfl
   refine np ?_
   try simp only[A2,cdt,cdf,A1,A,B,C,E,F,J]
   exact ih b0 b1 b2 b3 b4 b5 b6 b9 b10 b11 b12 G
  ·intro h0 hw
   obtain rfl:=hq hw 13 rfl rfl
   refine np ?_
   try simp only[A2,cdt,cdf,A1,A,B,C,E,F,J]
   refine D8 (es:=O rI ([v9]:List Int)) rfl (by simp only[St.fresh,W,Y,Q1]; simp[AV.cells,V1.cells,AC.uses]) ?_
   try simp only[A1,A,B,C,E,F,J]
   exact F34 F_w0 caps_w0 a0 x8 v9 v10 v11 v12 v13 v14 v15 v16 v17 x19 h22 h23 _ b0 b1 b2 b3 b4 b5 b6 b9 b10 b11 b12
  ·intro _ hw; have:=hw 14 (by simp); cases this
  ·intro _ hw; have:=hw 7 (by simp); cases this
  ·intro _ hw; have:=hw 16 (by simp); cases this
  ·intro _ hw; have:=hw 17 (by simp); cases this
  ·intro _ hw; have:=hw 7 (by simp); cases this
  ·intro _ hw; have:=hw 19 (by simp); cases this
  ·intro _ hw; have:=hw 20 (by simp); cases this
abbrev A3(a0:Xplanner)(x8:List XOption)(v9:Int)(wo5_ wo11_:AV)(c0_ c1_:Bool)(c2_ c3_:Bool)(c4_ c5_:Bool)(c6_ c7_:Bool)(c8_ c9_:Bool)(c10_ c11_:Bool)(c12_ c13_:Bool)(c14_ c15_:Bool)(c17_ c18_:Bool)(bx_:List (Nat × List AC))(rs_:Rows):St:=⟨[(0,vc (.pb 99999999999 0)),(3,vc (aI (a0.plan.length:Int))),(61,vc (aL (O P x8))),(62,vc (aI (x8.length:Int))),(63,vc (aI v9)),(101,bif c0_ then vc (.pb 99999999999 0) else .undef),(102,bif c1_ then vc (.pb 99999999999 0) else .undef),(103,bif c2_ then vc (.pb 99999999999 0) else .undef),(104,bif c3_ then vc (.pb 99999999999 0) else .undef),(105,bif c4_ then vc (.pb 99999999999 14) else .undef),(106,bif c5_ then wo5_ else .undef),(107,bif c6_ then vc (aI (a0.plan.length:Int)) else .undef),(108,bif c7_ then vc (.own 90000) else .undef),(109,bif c8_ then vc (.pb 99999999999 0) else .undef),(110,bif c9_ then vc (.pb 99999999999 0) else .undef),(111,bif c10_ then vc (.pb 99999999999 15) else .undef),(112,bif c11_ then wo11_ else .undef),(113,bif c12_ then vc (aI (a0.plan.length:Int)) else .undef),(114,bif c13_ then vc (.own 90001) else .undef),(115,bif c14_ then vc (.pb 99999999999 0) else .undef),(116,bif c15_ then vc (.pb 99999999999 14) else .undef),(117,bif c17_ then vc (.pb 99999999999 0) else .undef),(118,bif c18_ then vc (.pb 99999999999 15) else .undef)],bx_,rs_⟩
abbrev H3(F_w0:FuncId)(caps_w0:List D)(a0:Xplanner)(x8:List XOption)(v9:Int)(r24:Xplanner)(p25 p26:Nat × Nat):St:=(A3 a0 x8 v9 (vc (.undef)) (vc (.undef)) G G G G G G G G G G G G G G G G G G [(99999999999,(dm r24.h.row++ [aL (O (rL P) r24.choices),.dat (.clo F_w0 caps_w0),.own 90000,.own 90001,.own 90002,aI r24.least.i0,aI r24.least.i1,aB r24.found]))] [(90000,4,O P (r24.plan.take p25.2)),(90001,1,O rI (r24.choice.take p26.2)),(90002,1,O rI r24.best)])
theorem E98(F_w0:FuncId)(caps_w0:List D)(a0:Xplanner)(x8:List XOption)(v9:Int)(r24:Xplanner)(p25 p26:Nat × Nat)(h25:bnd (r24.plan.length:Int) (a0.plan.length:Int) 0 r24.plan.length=L p25)(h26:bnd (r24.choice.length:Int) (a0.plan.length:Int) 0 r24.choice.length=L p26):∀(f:Nat) (b17:Bool),E8 Q J1 (H3 F_w0 caps_w0 a0 x8 v9 r24 p25 p26) f [G,G,G,G,G,G,G,G,G,G,G,G,G,G,G,G,G,b17,G,G] (A3 a0 x8 v9 (vc (.undef)) (vc (.undef)) G G G G G G G G G G G G G G G G b17 G [(99999999999,(dm r24.h.row++ [aL (O (rL P) r24.choices),.dat (.clo F_w0 caps_w0),.own 90000,.own 90001,.own 90002,aI r24.least.i0,aI r24.least.i1,aB r24.found]))] [(90000,4,O P (r24.plan.take p25.2)),(90001,1,O rI (r24.choice.take p26.2)),(90002,1,O rI r24.best)]):=by
 intro f
 induction f with
 | zero=>
  intro b17 h
  obtain rfl:b17=G:=V.1 h b17 (by simp)
  rfl
 | succ f ih=>
  intro b17
  refine B6 ⟨?_,?_,?_,?_,?_,?_,?_,?_,?_,?_,?_,?_,?_,?_,?_,?_,?_,?_,?_,?_,⟨⟩⟩
  ·intro h; cases h
  ·intro h; cases h
  ·intro h; cases h
  ·intro h; cases h
  ·intro h; cases h
  ·intro h; cases h
  ·intro h; cases h
  ·intro h; cases h
  ·intro h; cases h
  ·intro h; cases h
  ·intro h; cases h
  ·intro h; cases h
  ·intro h; cases h
  ·intro h; cases h
  ·intro h; cases h
  ·intro h; cases h
  ·intro h; cases h
  ·intro h0 hw
   obtain rfl:=hz h0 rfl
   refine np ?_
   try simp only[A3,cdt,cdf,A1,A,B,C,E,F,J]
   exact ih G
  ·intro h; cases h
  ·intro h; cases h
theorem D8w(F_w0:FuncId)(caps_w0:List D)(a0:Xplanner)(x8:List XOption)(v9:Int)(r24:Xplanner)(p25 p26:Nat × Nat)(h25:bnd (r24.plan.length:Int) (a0.plan.length:Int) 0 r24.plan.length=L p25)(h26:bnd (r24.choice.length:Int) (a0.plan.length:Int) 0 r24.choice.length=L p26):∀(f:Nat) (b1 b8:Bool) (b9 b10:Bool) (b14 b17 b18:Bool),E8 Q J1 (H3 F_w0 caps_w0 a0 x8 v9 r24 p25 p26) f [G,b1,G,G,G,G,G,G,b8,b9,b10,G,G,G,b14,G,G,b17,b18,H] (A3 a0 x8 v9 (vc (.undef)) (vc (.undef)) G b1 G G G G G G b8 b9 b10 G G G b14 G b17 b18 [(99999999999,(dm r24.h.row++ [aL (O (rL P) r24.choices),.dat (.clo F_w0 caps_w0),.own 90000,.undef,.own 90002,aI r24.least.i0,aI r24.least.i1,aB r24.found]))] [(90000,4,O P (r24.plan.take p25.2)),(90001,1,O rI (r24.choice.take p26.2)),(90002,1,O rI r24.best)]):=by
 intro f
 induction f with
 | zero=>intro b1 b8 b9 b10 b14 b17 b18 h; simp at h
 | succ f ih=>
  intro b1 b8 b9 b10 b14 b17 b18
  refine B6 ⟨?_,?_,?_,?_,?_,?_,?_,?_,?_,?_,?_,?_,?_,?_,?_,?_,?_,?_,?_,?_,⟨⟩⟩
  ·intro h; cases h
  ·intro h0 hw
   obtain rfl:=hz h0 rfl
   refine np ?_
   try simp only[A3,cdt,cdf,A1,A,B,C,E,F,J]
   exact ih G b8 b9 b10 b14 b17 b18
  ·intro h; cases h
  ·intro h; cases h
  ·intro h; cases h
  ·intro h; cases h
  ·intro h; cases h
  ·intro h; cases h
  ·intro h0 hw
   obtain rfl:=hz h0 rfl
   refine np ?_
   try simp only[A3,cdt,cdf,A1,A,B,C,E,F,J]
   exact ih b1 G b9 b10 b14 b17 b18
  ·intro h0 hw
   obtain rfl:=hz h0 rfl
   obtain rfl:=hq hw 8 rfl rfl
   refine np ?_
   try simp only[A3,cdt,cdf,A1,A,B,C,E,F,J]
   exact ih b1 G G b10 b14 b17 b18
  ·intro h0 hw
   obtain rfl:=hz h0 rfl
   obtain rfl:=hq hw 9 rfl rfl
   refine np ?_
   try simp only[A3,cdt,cdf,A1,A,B,C,E,F,J]
   exact ih b1 b8 G G b14 b17 b18
  ·intro h; cases h
  ·intro h; cases h
  ·intro h; cases h
  ·intro h0 hw
   obtain rfl:=hz h0 rfl
   refine np ?_
   try simp only[A3,cdt,cdf,A1,A,B,C,E,F,J]
   exact ih b1 b8 b9 b10 G b17 b18
  ·intro h; cases h
  ·intro h; cases h
  ·intro h0 hw
   obtain rfl:=hz h0 rfl
   obtain rfl:=hq hw 1 rfl rfl
   obtain rfl:=hq hw 8 rfl rfl
   obtain rfl:=hq hw 9 rfl rfl
   obtain rfl:=hq hw 10 rfl rfl
   obtain rfl:=hq hw 14 rfl rfl
   refine np ?_
   try simp only[A3,cdt,cdf,A1,A,B,C,E,F,J]
   exact ih G G G G G G b18
  ·intro h0 hw
   obtain rfl:=hz h0 rfl
   obtain rfl:=hq hw 1 rfl rfl
   obtain rfl:=hq hw 8 rfl rfl
   obtain rfl:=hq hw 9 rfl rfl
   obtain rfl:=hq hw 10 rfl rfl
   obtain rfl:=hq hw 14 rfl rfl
   obtain rfl:=hq hw 17 rfl rfl
   refine np ?_
   try simp only[A3,cdt,cdf,A1,A,B,C,E,F,J]
   exact ih G G G G G G G
  ·intro h0 hw
   obtain rfl:=hq hw 1 rfl rfl
   obtain rfl:=hq hw 8 rfl rfl
   obtain rfl:=hq hw 9 rfl rfl
   obtain rfl:=hq hw 10 rfl rfl
   obtain rfl:=hq hw 14 rfl rfl
   obtain rfl:=hq hw 18 rfl rfl
   refine np ?_
   try simp only[A3,cdt,cdf,A1,A,B,C,E,F,J]
   exact E98 F_w0 caps_w0 a0 x8 v9 r24 p25 p26 h25 h26 _ b17
theorem D84(F_w0:FuncId)(caps_w0:List D)(a0:Xplanner)(x8:List XOption)(v9:Int)(r24:Xplanner)(p25 p26:Nat × Nat)(h25:bnd (r24.plan.length:Int) (a0.plan.length:Int) 0 r24.plan.length=L p25)(h26:bnd (r24.choice.length:Int) (a0.plan.length:Int) 0 r24.choice.length=L p26):∀(f:Nat) (b0 b1:Bool) (b2 b3:Bool) (b4 b8:Bool) (b9 b10:Bool) (b14 b15:Bool),E8 Q J1 (H3 F_w0 caps_w0 a0 x8 v9 r24 p25 p26) f [b0,b1,b2,b3,b4,G,G,G,b8,b9,b10,G,G,G,b14,b15,H,H,H,H] (A3 a0 x8 v9 (vc (.undef)) (vc (.undef)) b0 b1 b2 b3 b4 G G G b8 b9 b10 G G G b14 b15 H H [(99999999999,(dm r24.h.row++ [aL (O (rL P) r24.choices),.dat (.clo F_w0 caps_w0),.undef,.undef,.own 90002,aI r24.least.i0,aI r24.least.i1,aB r24.found]))] [(90000,4,O P (r24.plan.take p25.2)),(90001,1,O rI (r24.choice.take p26.2)),(90002,1,O rI r24.best)]):=by
 intro f
 induction f with
 | zero=>intro b0 b1 b2 b3 b4 b8 b9 b10 b14 b15 h; simp at h
 | succ f ih=>
  intro b0 b1 b2 b3 b4 b8 b9 b10 b14 b15
  refine B6 ⟨?_,?_,?_,?_,?_,?_,?_,?_,?_,?_,?_,?_,?_,?_,?_,?_,?_,?_,?_,?_,⟨⟩⟩
  ·intro h0 hw
   obtain rfl:=hz h0 rfl
   refine np ?_
   try simp only[A3,cdt,cdf,A1,A,B,C,E,F,J]
   exact ih G b1 b2 b3 b4 b8 b9 b10 b14 b15
  ·intro h0 hw
   obtain rfl:=hz h0 rfl
   refine np ?_
   try simp only[A3,cdt,cdf,A1,A,B,C,E,F,J]
   exact ih b0 G b2 b3 b4 b8 b9 b10 b14 b15
  ·intro h0 hw
   obtain rfl:=hz h0 rfl
   refine np ?_
   try simp only[A3,cdt,cdf,A1,A,B,C,E,F,J]
   exact ih b0 b1 G b3 b4 b8 b9 b10 b14 b15
  ·intro h0 hw
   obtain rfl:=hz h0 rfl
   obtain rfl:=hq hw 2 rfl rfl
   refine np ?_
   try simp only[A3,cdt,cdf,A1,A,B,C,E,F,J]
   exact ih b0 b1 G G b4 b8 b9 b10 b14 b15
  ·intro h0 hw
   obtain rfl:=hz h0 rfl
   obtain rfl:=hq hw 3 rfl rfl
   refine np ?_
   try simp only[A3,cdt,cdf,A1,A,B,C,E,F,J]
   exact ih b0 b1 b2 G G b8 b9 b10 b14 b15
  ·intro h; cases h
  ·intro h; cases h
  ·intro h; cases h
  ·intro h0 hw
   obtain rfl:=hz h0 rfl
   refine np ?_
   try simp only[A3,cdt,cdf,A1,A,B,C,E,F,J]
   exact ih b0 b1 b2 b3 b4 G b9 b10 b14 b15
  ·intro h0 hw
   obtain rfl:=hz h0 rfl
   obtain rfl:=hq hw 8 rfl rfl
   refine np ?_
   try simp only[A3,cdt,cdf,A1,A,B,C,E,F,J]
   exact ih b0 b1 b2 b3 b4 G G b10 b14 b15
  ·intro h0 hw
   obtain rfl:=hz h0 rfl
   obtain rfl:=hq hw 9 rfl rfl
   refine np ?_
   try simp only[A3,cdt,cdf,A1,A,B,C,E,F,J]
   exact ih b0 b1 b2 b3 b4 b8 G G b14 b15
  ·intro h; cases h
  ·intro h; cases h
  ·intro h; cases h
  ·intro h0 hw
   obtain rfl:=hz h0 rfl
   obtain rfl:=hq hw 0 rfl rfl
   obtain rfl:=hq hw 2 rfl rfl
   obtain rfl:=hq hw 3 rfl rfl
   obtain rfl:=hq hw 4 rfl rfl
   refine np ?_
   try simp only[A3,cdt,cdf,A1,A,B,C,E,F,J]
   exact ih G b1 G G G b8 b9 b10 G b15
  ·intro h0 hw
   obtain rfl:=hz h0 rfl
   obtain rfl:=hq hw 0 rfl rfl
   obtain rfl:=hq hw 2 rfl rfl
   obtain rfl:=hq hw 3 rfl rfl
   obtain rfl:=hq hw 4 rfl rfl
   obtain rfl:=hq hw 14 rfl rfl
   refine np ?_
   try simp only[A3,cdt,cdf,A1,A,B,C,E,F,J]
   exact ih G b1 G G G b8 b9 b10 G G
  ·intro h0 hw
   obtain rfl:=hq hw 0 rfl rfl
   obtain rfl:=hq hw 2 rfl rfl
   obtain rfl:=hq hw 3 rfl rfl
   obtain rfl:=hq hw 4 rfl rfl
   obtain rfl:=hq hw 15 rfl rfl
   refine np ?_
   try simp only[A3,cdt,cdf,A1,A,B,C,E,F,J]
   exact D8w F_w0 caps_w0 a0 x8 v9 r24 p25 p26 h25 h26 _ b1 b8 b9 b10 b14 H H
  ·intro _ hw; have:=hw 16 (by simp); cases this
  ·intro _ hw; have:=hw 17 (by simp); cases this
  ·intro _ hw; have:=hw 18 (by simp); cases this
theorem F3i(F_w0:FuncId)(caps_w0:List D)(a0:Xplanner)(x8:List XOption)(v9:Int)(r24:Xplanner)(p25 p26:Nat × Nat)(h25:bnd (r24.plan.length:Int) (a0.plan.length:Int) 0 r24.plan.length=L p25)(h26:bnd (r24.choice.length:Int) (a0.plan.length:Int) 0 r24.choice.length=L p26):∀(f:Nat) (b1 b8:Bool) (b9 b10:Bool) (b12 b14:Bool),E8 Q J1 (H3 F_w0 caps_w0 a0 x8 v9 r24 p25 p26) f [G,b1,G,G,G,G,G,G,b8,b9,b10,G,b12,H,b14,G,G,H,H,H] (A3 a0 x8 v9 (vc (.undef)) (vc (.own 90001)) G b1 G G G G G G b8 b9 b10 G b12 H b14 G H H [(99999999999,(dm r24.h.row++ [aL (O (rL P) r24.choices),.dat (.clo F_w0 caps_w0),.own 90000,.own 90001,.own 90002,aI r24.least.i0,aI r24.least.i1,aB r24.found]))] [(90000,4,O P (r24.plan.take p25.2)),(90001,1,O rI r24.choice),(90002,1,O rI r24.best)]):=by
 intro f
 induction f with
 | zero=>intro b1 b8 b9 b10 b12 b14 h; simp at h
 | succ f ih=>
  intro b1 b8 b9 b10 b12 b14
  refine B6 ⟨?_,?_,?_,?_,?_,?_,?_,?_,?_,?_,?_,?_,?_,?_,?_,?_,?_,?_,?_,?_,⟨⟩⟩
  ·intro h; cases h
  ·intro h0 hw
   obtain rfl:=hz h0 rfl
   refine np ?_
   try simp only[A3,cdt,cdf,A1,A,B,C,E,F,J]
   exact ih G b8 b9 b10 b12 b14
  ·intro h; cases h
  ·intro h; cases h
  ·intro h; cases h
  ·intro h; cases h
  ·intro h; cases h
  ·intro h; cases h
  ·intro h0 hw
   obtain rfl:=hz h0 rfl
   refine np ?_
   try simp only[A3,cdt,cdf,A1,A,B,C,E,F,J]
   exact ih b1 G b9 b10 b12 b14
  ·intro h0 hw
   obtain rfl:=hz h0 rfl
   obtain rfl:=hq hw 8 rfl rfl
   refine np ?_
   try simp only[A3,cdt,cdf,A1,A,B,C,E,F,J]
   exact ih b1 G G b10 b12 b14
  ·intro h0 hw
   obtain rfl:=hz h0 rfl
   obtain rfl:=hq hw 9 rfl rfl
   refine np ?_
   try simp only[A3,cdt,cdf,A1,A,B,C,E,F,J]
   exact ih b1 b8 G G b12 b14
  ·intro h; cases h
  ·intro h0 hw
   obtain rfl:=hz h0 rfl
   refine np ?_
   try simp only[A3,cdt,cdf,A1,A,B,C,E,F,J]
   exact ih b1 b8 b9 b10 G b14
  ·intro h0 hw
   obtain rfl:=hq hw 12 rfl rfl
   refine⟨[],[(N,.cut 114)],rfl,rfl,?_⟩
   try simp only[A3,cdt,cdf,zA,Z,A1,A,B,C,E,F,J]
   refine A67 rfl rfl h26 (by rfl) ?_
   try simp only[A1,A,B,C,E,F,J]
   exact D8w F_w0 caps_w0 a0 x8 v9 r24 p25 p26 h25 h26 _ b1 b8 b9 b10 b14 H H
  ·intro h0 hw
   obtain rfl:=hz h0 rfl
   refine np ?_
   try simp only[A3,cdt,cdf,A1,A,B,C,E,F,J]
   exact ih b1 b8 b9 b10 b12 G
  ·intro h; cases h
  ·intro h; cases h
  ·intro _ hw; have:=hw 13 (by simp); cases this
  ·intro _ hw; have:=hw 17 (by simp); cases this
  ·intro _ hw; have:=hw 18 (by simp); cases this
theorem E8e(F_w0:FuncId)(caps_w0:List D)(a0:Xplanner)(x8:List XOption)(v9:Int)(r24:Xplanner)(p25 p26:Nat × Nat)(h25:bnd (r24.plan.length:Int) (a0.plan.length:Int) 0 r24.plan.length=L p25)(h26:bnd (r24.choice.length:Int) (a0.plan.length:Int) 0 r24.choice.length=L p26):∀(f:Nat) (b0 b1:Bool) (b2 b3:Bool) (b4 b8:Bool) (b9 b10:Bool) (b11 b12:Bool) (b14 b15:Bool),E8 Q J1 (H3 F_w0 caps_w0 a0 x8 v9 r24 p25 p26) f [b0,b1,b2,b3,b4,G,G,G,b8,b9,b10,b11,b12,H,b14,b15,H,H,H,H] (A3 a0 x8 v9 (vc (.undef)) (vc (.own 90001)) b0 b1 b2 b3 b4 G G G b8 b9 b10 b11 b12 H b14 b15 H H [(99999999999,(dm r24.h.row++ [aL (O (rL P) r24.choices),.dat (.clo F_w0 caps_w0),.undef,.own 90001,.own 90002,aI r24.least.i0,aI r24.least.i1,aB r24.found]))] [(90000,4,O P (r24.plan.take p25.2)),(90001,1,O rI r24.choice),(90002,1,O rI r24.best)]):=by
 intro f
 induction f with
 | zero=>intro b0 b1 b2 b3 b4 b8 b9 b10 b11 b12 b14 b15 h; simp at h
 | succ f ih=>
  intro b0 b1 b2 b3 b4 b8 b9 b10 b11 b12 b14 b15
  refine B6 ⟨?_,?_,?_,?_,?_,?_,?_,?_,?_,?_,?_,?_,?_,?_,?_,?_,?_,?_,?_,?_,⟨⟩⟩
  ·intro h0 hw
   obtain rfl:=hz h0 rfl
   refine np ?_
   try simp only[A3,cdt,cdf,A1,A,B,C,E,F,J]
   exact ih G b1 b2 b3 b4 b8 b9 b10 b11 b12 b14 b15
  ·intro h0 hw
   obtain rfl:=hz h0 rfl
   refine np ?_
   try simp only[A3,cdt,cdf,A1,A,B,C,E,F,J]
   exact ih b0 G b2 b3 b4 b8 b9 b10 b11 b12 b14 b15
  ·intro h0 hw
   obtain rfl:=hz h0 rfl
   refine np ?_
   try simp only[A3,cdt,cdf,A1,A,B,C,E,F,J]
   exact ih b0 b1 G b3 b4 b8 b9 b10 b11 b12 b14 b15
  ·intro h0 hw
   obtain rfl:=hz h0 rfl
   obtain rfl:=hq hw 2 rfl rfl
   refine np ?_
   try simp only[A3,cdt,cdf,A1,A,B,C,E,F,J]
   exact ih b0 b1 G G b4 b8 b9 b10 b11 b12 b14 b15
  ·intro h0 hw
   obtain rfl:=hz h0 rfl
   obtain rfl:=hq hw 3 rfl rfl
   refine np ?_
   try simp only[A3,cdt,cdf,A1,A,B,C,E,F,J]
   exact ih b0 b1 b2 G G b8 b9 b10 b11 b12 b14 b15
  ·intro h; cases h
  ·intro h; cases h
  ·intro h; cases h
  ·intro h0 hw
   obtain rfl:=hz h0 rfl
   refine np ?_
   try simp only[A3,cdt,cdf,A1,A,B,C,E,F,J]
   exact ih b0 b1 b2 b3 b4 G b9 b10 b11 b12 b14 b15
  ·intro h0 hw
   obtain rfl:=hz h0 rfl
   obtain rfl:=hq hw 8 rfl rfl
   refine np ?_
   try simp only[A3,cdt,cdf,A1,A,B,C,E,F,J]
   exact ih b0 b1 b2 b3 b4 G G b10 b11 b12 b14 b15
  ·intro h0 hw
   obtain rfl:=hz h0 rfl
   obtain rfl:=hq hw 9 rfl rfl
   refine np ?_
   try simp only[A3,cdt,cdf,A1,A,B,C,E,F,J]
   exact ih b0 b1 b2 b3 b4 b8 G G b11 b12 b14 b15
  ·intro h0 hw
   obtain rfl:=hz h0 rfl
   obtain rfl:=hq hw 10 rfl rfl
   refine np ?_
   try simp only[A3,cdt,cdf,A1,A,B,C,E,F,J]
   exact ih b0 b1 b2 b3 b4 b8 b9 G G b12 b14 b15
  ·intro h0 hw
   obtain rfl:=hz h0 rfl
   refine np ?_
   try simp only[A3,cdt,cdf,A1,A,B,C,E,F,J]
   exact ih b0 b1 b2 b3 b4 b8 b9 b10 b11 G b14 b15
  ·intro h0 hw
   obtain rfl:=hq hw 11 rfl rfl
   obtain rfl:=hq hw 12 rfl rfl
   refine⟨[],[(N,.cut 114)],rfl,rfl,?_⟩
   try simp only[A3,cdt,cdf,zA,Z,A1,A,B,C,E,F,J]
   refine A67 rfl rfl h26 (by rfl) ?_
   try simp only[A1,A,B,C,E,F,J]
   exact D84 F_w0 caps_w0 a0 x8 v9 r24 p25 p26 h25 h26 _ b0 b1 b2 b3 b4 b8 b9 b10 b14 b15
  ·intro h0 hw
   obtain rfl:=hz h0 rfl
   obtain rfl:=hq hw 0 rfl rfl
   obtain rfl:=hq hw 2 rfl rfl
   obtain rfl:=hq hw 3 rfl rfl
   obtain rfl:=hq hw 4 rfl rfl
   obtain rfl:=hq hw 11 rfl rfl
   refine np ?_
   try simp only[A3,cdt,cdf,A1,A,B,C,E,F,J]
   exact ih G b1 G G G b8 b9 b10 G b12 G b15
  ·intro h0 hw
   obtain rfl:=hz h0 rfl
   obtain rfl:=hq hw 0 rfl rfl
   obtain rfl:=hq hw 2 rfl rfl
   obtain rfl:=hq hw 3 rfl rfl
   obtain rfl:=hq hw 4 rfl rfl
   obtain rfl:=hq hw 11 rfl rfl
   obtain rfl:=hq hw 14 rfl rfl
   refine np ?_
   try simp only[A3,cdt,cdf,A1,A,B,C,E,F,J]
   exact ih G b1 G G G b8 b9 b10 G b12 G G
  ·intro h0 hw
   obtain rfl:=hq hw 0 rfl rfl
   obtain rfl:=hq hw 2 rfl rfl
   obtain rfl:=hq hw 3 rfl rfl
   obtain rfl:=hq hw 4 rfl rfl
   obtain rfl:=hq hw 11 rfl rfl
   obtain rfl:=hq hw 15 rfl rfl
   refine np ?_
   try simp only[A3,cdt,cdf,A1,A,B,C,E,F,J]
   exact F3i F_w0 caps_w0 a0 x8 v9 r24 p25 p26 h25 h26 _ b1 b8 b9 b10 b12 b14
  ·intro _ hw; have:=hw 13 (by simp); cases this
  ·intro _ hw; have:=hw 17 (by simp); cases this
  ·intro _ hw; have:=hw 18 (by simp); cases this
theorem F3r(F_w0:FuncId)(caps_w0:List D)(a0:Xplanner)(x8:List XOption)(v9:Int)(r24:Xplanner)(p25 p26:Nat × Nat)(h25:bnd (r24.plan.length:Int) (a0.plan.length:Int) 0 r24.plan.length=L p25)(h26:bnd (r24.choice.length:Int) (a0.plan.length:Int) 0 r24.choice.length=L p26):∀(f:Nat) (b0 b1:Bool) (b2 b3:Bool) (b4 b5:Bool) (b6 b8:Bool) (b9 b10:Bool),E8 Q J1 (H3 F_w0 caps_w0 a0 x8 v9 r24 p25 p26) f [b0,b1,b2,b3,b4,b5,b6,H,b8,b9,b10,G,G,G,H,H,H,H,H,H] (A3 a0 x8 v9 (vc (.own 90000)) (vc (.undef)) b0 b1 b2 b3 b4 b5 b6 H b8 b9 b10 G G G H H H H [(99999999999,(dm r24.h.row++ [aL (O (rL P) r24.choices),.dat (.clo F_w0 caps_w0),.own 90000,.undef,.own 90002,aI r24.least.i0,aI r24.least.i1,aB r24.found]))] [(90000,4,O P r24.plan),(90001,1,O rI (r24.choice.take p26.2)),(90002,1,O rI r24.best)]):=by
 intro f
 induction f with
 | zero=>intro b0 b1 b2 b3 b4 b5 b6 b8 b9 b10 h; simp at h
 | succ f ih=>
  intro b0 b1 b2 b3 b4 b5 b6 b8 b9 b10
  refine B6 ⟨?_,?_,?_,?_,?_,?_,?_,?_,?_,?_,?_,?_,?_,?_,?_,?_,?_,?_,?_,?_,⟨⟩⟩
  ·intro h0 hw
   obtain rfl:=hz h0 rfl
   refine np ?_
   try simp only[A3,cdt,cdf,A1,A,B,C,E,F,J]
   exact ih G b1 b2 b3 b4 b5 b6 b8 b9 b10
  ·intro h0 hw
   obtain rfl:=hz h0 rfl
   refine np ?_
   try simp only[A3,cdt,cdf,A1,A,B,C,E,F,J]
   exact ih b0 G b2 b3 b4 b5 b6 b8 b9 b10
  ·intro h0 hw
   obtain rfl:=hz h0 rfl
   refine np ?_
   try simp only[A3,cdt,cdf,A1,A,B,C,E,F,J]
   exact ih b0 b1 G b3 b4 b5 b6 b8 b9 b10
  ·intro h0 hw
   obtain rfl:=hz h0 rfl
   obtain rfl:=hq hw 2 rfl rfl
   refine np ?_
   try simp only[A3,cdt,cdf,A1,A,B,C,E,F,J]
   exact ih b0 b1 G G b4 b5 b6 b8 b9 b10
  ·intro h0 hw
   obtain rfl:=hz h0 rfl
   obtain rfl:=hq hw 3 rfl rfl
   refine np ?_
   try simp only[A3,cdt,cdf,A1,A,B,C,E,F,J]
   exact ih b0 b1 b2 G G b5 b6 b8 b9 b10
  ·intro h0 hw
   obtain rfl:=hz h0 rfl
   obtain rfl:=hq hw 4 rfl rfl
   refine np ?_
   try simp only[A3,cdt,cdf,A1,A,B,C,E,F,J]
   exact ih b0 b1 b2 b3 G G b6 b8 b9 b10
  ·intro h0 hw
   obtain rfl:=hz h0 rfl
   refine np ?_
   try simp only[A3,cdt,cdf,A1,A,B,C,E,F,J]
   exact ih b0 b1 b2 b3 b4 b5 G b8 b9 b10
  ·intro h0 hw
   obtain rfl:=hq hw 5 rfl rfl
   obtain rfl:=hq hw 6 rfl rfl
   refine⟨[],[(N,.cut 108)],rfl,rfl,?_⟩
   try simp only[A3,cdt,cdf,zA,Z,A1,A,B,C,E,F,J]
   refine A67 rfl rfl h25 (by rfl) ?_
   try simp only[A1,A,B,C,E,F,J]
   exact D84 F_w0 caps_w0 a0 x8 v9 r24 p25 p26 h25 h26 _ b0 b1 b2 b3 b4 b8 b9 b10 H H
  ·intro h0 hw
   obtain rfl:=hz h0 rfl
   refine np ?_
   try simp only[A3,cdt,cdf,A1,A,B,C,E,F,J]
   exact ih b0 b1 b2 b3 b4 b5 b6 G b9 b10
  ·intro h0 hw
   obtain rfl:=hz h0 rfl
   obtain rfl:=hq hw 8 rfl rfl
   refine np ?_
   try simp only[A3,cdt,cdf,A1,A,B,C,E,F,J]
   exact ih b0 b1 b2 b3 b4 b5 b6 G G b10
  ·intro h0 hw
   obtain rfl:=hz h0 rfl
   obtain rfl:=hq hw 9 rfl rfl
   refine np ?_
   try simp only[A3,cdt,cdf,A1,A,B,C,E,F,J]
   exact ih b0 b1 b2 b3 b4 b5 b6 b8 G G
  ·intro h; cases h
  ·intro h; cases h
  ·intro h; cases h
  ·intro _ hw; have:=hw 7 (by simp); cases this
  ·intro _ hw; have:=hw 14 (by simp); cases this
  ·intro _ hw; have:=hw 15 (by simp); cases this
  ·intro _ hw; have:=hw 7 (by simp); cases this
  ·intro _ hw; have:=hw 17 (by simp); cases this
  ·intro _ hw; have:=hw 18 (by simp); cases this
theorem F0r(F_w0:FuncId)(caps_w0:List D)(a0:Xplanner)(x8:List XOption)(v9:Int)(r24:Xplanner)(p25 p26:Nat × Nat)(h25:bnd (r24.plan.length:Int) (a0.plan.length:Int) 0 r24.plan.length=L p25)(h26:bnd (r24.choice.length:Int) (a0.plan.length:Int) 0 r24.choice.length=L p26):∀(f:Nat) (b0 b1:Bool) (b2 b3:Bool) (b4 b5:Bool) (b6 b8:Bool) (b9 b10:Bool) (b11 b12:Bool),E8 Q J1 (H3 F_w0 caps_w0 a0 x8 v9 r24 p25 p26) f [b0,b1,b2,b3,b4,b5,b6,H,b8,b9,b10,b11,b12,H,H,H,H,H,H,H] (A3 a0 x8 v9 (vc (.own 90000)) (vc (.own 90001)) b0 b1 b2 b3 b4 b5 b6 H b8 b9 b10 b11 b12 H H H H H [(99999999999,(dm r24.h.row++ [aL (O (rL P) r24.choices),.dat (.clo F_w0 caps_w0),.own 90000,.own 90001,.own 90002,aI r24.least.i0,aI r24.least.i1,aB r24.found]))] [(90000,4,O P r24.plan),(90001,1,O rI r24.choice),(90002,1,O rI r24.best)]):=by
 intro f
 induction f with
 | zero=>intro b0 b1 b2 b3 b4 b5 b6 b8 b9 b10 b11 b12 h; simp at h
 | succ f ih=>
  intro b0 b1 b2 b3 b4 b5 b6 b8 b9 b10 b11 b12
  refine B6 ⟨?_,?_,?_,?_,?_,?_,?_,?_,?_,?_,?_,?_,?_,?_,?_,?_,?_,?_,?_,?_,⟨⟩⟩
  ·intro h0 hw
   obtain rfl:=hz h0 rfl
   refine np ?_
   try simp only[A3,cdt,cdf,A1,A,B,C,E,F,J]
   exact ih G b1 b2 b3 b4 b5 b6 b8 b9 b10 b11 b12
  ·intro h0 hw
   obtain rfl:=hz h0 rfl
   refine np ?_
   try simp only[A3,cdt,cdf,A1,A,B,C,E,F,J]
   exact ih b0 G b2 b3 b4 b5 b6 b8 b9 b10 b11 b12
  ·intro h0 hw
   obtain rfl:=hz h0 rfl
   refine np ?_
   try simp only[A3,cdt,cdf,A1,A,B,C,E,F,J]
   exact ih b0 b1 G b3 b4 b5 b6 b8 b9 b10 b11 b12
  ·intro h0 hw
   obtain rfl:=hz h0 rfl
   obtain rfl:=hq hw 2 rfl rfl
   refine np ?_
   try simp only[A3,cdt,cdf,A1,A,B,C,E,F,J]
   exact ih b0 b1 G G b4 b5 b6 b8 b9 b10 b11 b12
  ·intro h0 hw
   obtain rfl:=hz h0 rfl
   obtain rfl:=hq hw 3 rfl rfl
   refine np ?_
   try simp only[A3,cdt,cdf,A1,A,B,C,E,F,J]
   exact ih b0 b1 b2 G G b5 b6 b8 b9 b10 b11 b12
  ·intro h0 hw
   obtain rfl:=hz h0 rfl
   obtain rfl:=hq hw 4 rfl rfl
   refine np ?_
   try simp only[A3,cdt,cdf,A1,A,B,C,E,F,J]
   exact ih b0 b1 b2 b3 G G b6 b8 b9 b10 b11 b12
  ·intro h0 hw
   obtain rfl:=hz h0 rfl
   refine np ?_
   try simp only[A3,cdt,cdf,A1,A,B,C,E,F,J]
   exact ih b0 b1 b2 b3 b4 b5 G b8 b9 b10 b11 b12
  ·intro h0 hw
   obtain rfl:=hq hw 5 rfl rfl
   obtain rfl:=hq hw 6 rfl rfl
   refine⟨[],[(N,.cut 108)],rfl,rfl,?_⟩
   try simp only[A3,cdt,cdf,zA,Z,A1,A,B,C,E,F,J]
   refine A67 rfl rfl h25 (by rfl) ?_
   try simp only[A1,A,B,C,E,F,J]
   exact E8e F_w0 caps_w0 a0 x8 v9 r24 p25 p26 h25 h26 _ b0 b1 b2 b3 b4 b8 b9 b10 b11 b12 H H
  ·intro h0 hw
   obtain rfl:=hz h0 rfl
   refine np ?_
   try simp only[A3,cdt,cdf,A1,A,B,C,E,F,J]
   exact ih b0 b1 b2 b3 b4 b5 b6 G b9 b10 b11 b12
  ·intro h0 hw
   obtain rfl:=hz h0 rfl
   obtain rfl:=hq hw 8 rfl rfl
   refine np ?_
   try simp only[A3,cdt,cdf,A1,A,B,C,E,F,J]
   exact ih b0 b1 b2 b3 b4 b5 b6 G G b10 b11 b12
  ·intro h0 hw
   obtain rfl:=hz h0 rfl
   obtain rfl:=hq hw 9 rfl rfl
   refine np ?_
   try simp only[A3,cdt,cdf,A1,A,B,C,E,F,J]
   exact ih b0 b1 b2 b3 b4 b5 b6 b8 G G b11 b12
  ·intro h0 hw
   obtain rfl:=hz h0 rfl
   obtain rfl:=hq hw 10 rfl rfl
   refine np ?_
   try simp only[A3,cdt,cdf,A1,A,B,C,E,F,J]
   exact ih b0 b1 b2 b3 b4 b5 b6 b8 b9 G G b12
  ·intro h0 hw
   obtain rfl:=hz h0 rfl
   refine np ?_
   try simp only[A3,cdt,cdf,A1,A,B,C,E,F,J]
   exact ih b0 b1 b2 b3 b4 b5 b6 b8 b9 b10 b11 G
  ·intro h0 hw
   obtain rfl:=hq hw 11 rfl rfl
   obtain rfl:=hq hw 12 rfl rfl
   refine⟨[],[(N,.cut 114)],rfl,rfl,?_⟩
   try simp only[A3,cdt,cdf,zA,Z,A1,A,B,C,E,F,J]
   refine A67 rfl rfl h26 (by rfl) ?_
   try simp only[A1,A,B,C,E,F,J]
   exact F3r F_w0 caps_w0 a0 x8 v9 r24 p25 p26 h25 h26 _ b0 b1 b2 b3 b4 b5 b6 b8 b9 b10
  ·intro _ hw; have:=hw 7 (by simp); cases this
  ·intro _ hw; have:=hw 14 (by simp); cases this
  ·intro _ hw; have:=hw 15 (by simp); cases this
  ·intro _ hw; have:=hw 7 (by simp); cases this
  ·intro _ hw; have:=hw 17 (by simp); cases this
  ·intro _ hw; have:=hw 18 (by simp); cases this
theorem E97(w0:(List XOption)→Option Xweight)(rec_:Xplanner→Option Xplanner)(F_w0:FuncId)(caps_w0:List D)(hF_w0:A2u Q F_w0=G)(h_w0:∀z0 zr,w0 z0=L zr→FC Q F_w0 ([.sc (.sl (O P z0))]++caps_w0.map .sc) [.ag [.v (.int .i64 zr.i0),.v (.int .i64 zr.i1)]])(h_rec:∀(a0:Xplanner) zr,rec_ a0=L zr→FCz Q 179 [.p] (S6 F_w0 caps_w0 a0) (S7 a0) (S6 F_w0 caps_w0 zr) (S7 zr) [])(a0:Xplanner)(x8:List XOption):∀(n:Nat) (v9:Int) (v10:XHarbour) (v11:List (List XOption)) (v12 v13:Int) (v14:Bool) (v15:List XOption) (v16 v17:List Int) (r:Xplanner),J9 w0 rec_ a0 x8 n v9 v10 v11 v12 v13 v14 v15 v16 v17=L r→∀σ:St,σ.kept [0,3,61,62,63] [99999999999] [90000,90001,90002]=⟨[(0,vc (.pb 99999999999 0)),(3,vc (aI (a0.plan.length:Int))),(61,vc (aL (O P x8))),(62,vc (aI (x8.length:Int))),(63,vc (aI v9))],[(99999999999,(dm v10.row++ [aL (O (rL P) v11),.dat (.clo F_w0 caps_w0),.own 90000,.own 90001,.own 90002,aI v12,aI v13,aB v14]))],[(90000,4,O P v15),(90001,1,O rI v16),(90002,1,O rI v17)]⟩→go Q (.code (.loop C3r):: [.blk 0]) (A88 [] [] (S6 F_w0 caps_w0 r) (S7 r)) .normal (L σ):=by
 intro n
 induction n with
 | zero=>intro _ _ _ _ _ _ _ _ _ r h; cases h
 | succ n ih=>
  intro v9 v10 v11 v12 v13 v14 v15 v16 v17 r h σ hσ
  rw[J9] at h
  refine B8 ?_
  rcases ic h with ⟨h18,h⟩|⟨h18,h⟩
  ·obtain⟨x19,h19,h⟩:=ob h
   try simp only[hσ,h18,h19,C3r,A,B,C,E,F,J]
   refine E0 rfl rfl ?_
   try simp only[h18,h19,A,B,C,E,F,J]
   refine C6 rfl ?_
   obtain⟨r20,h20,h⟩:=ob h
   try simp only[h18,h19,A,B,C,E,F,J]
   refine A73 (C2k _ _ _ _ h20) (by first | rfl | kernel_rfl) (W7 rfl) rfl (uf rfl) ?_
   rcases ic h with ⟨h21,h⟩|⟨h21,h⟩
   ·try simp only[h18,h19,h21,A,B,C,E,F,J]
    obtain⟨h22,h⟩:=E2 h
    obtain⟨h23,h⟩:=E2 h
    refine A37 (ks:= [0,3,4,5,61,62,63]) (bs:= [99999999999,5]) (rs:= [90000,90001,90002]) (τ:=(F1 F_w0 caps_w0 a0 x8 v9 v10 v11 v12 v13 v14 v15 v16 v17 x19)) rfl (F4v F_w0 caps_w0 a0 x8 v9 v10 v11 v12 v13 v14 v15 v16 v17 x19 h22 h23 _ H H H H H H H H H H H H) ?_
    simp only[F1,A2,cdt]
    try simp only[h18,h19,h21,h22,h23,A,B,C,E,F,J]
    refine B5w ?_
    obtain⟨r24,h24,h⟩:=ob h
    try simp only[h18,h19,h21,h22,h23,A,B,C,E,F,J]
    refine A76 (h_rec _ _ h24) 99999999999 [90000,90001,90002] rfl rfl rfl rfl (by decide) rfl rfl rfl ?_
    try simp only[h18,h19,h21,h22,h23,A,B,C,E,F,J]
    obtain⟨p25,h25,h⟩:=ob h
    obtain⟨p26,h26,h⟩:=ob h
    refine A37 (ks:= [0,3,61,62,63]) (bs:= [99999999999]) (rs:= [90000,90001,90002]) (τ:=(H3 F_w0 caps_w0 a0 x8 v9 r24 p25 p26)) rfl (F0r F_w0 caps_w0 a0 x8 v9 r24 p25 p26 h25 h26 _ H H H H H H H H H H H H) ?_
    simp only[H3,A3,cdt]
    try simp only[h18,h19,h21,h22,h23,A,B,C,E,F,J]
    refine ih _ _ _ _ _ _ _ _ _ _ h _ ?_
    try simp only[h18,h19,h21,h22,h23,A,B,C,E,F,J,U]
   ·try simp only[h18,h19,h21,A,B,C,E,F,J]
    refine ih _ _ _ _ _ _ _ _ _ _ h _ ?_
    try simp only[h18,h19,h21,A,B,C,E,F,J,U]
  ·try simp only[hσ,h18,C3r,A,B,C,E,F,J]
   cases h
   exact⟨trivial,[90000,90001,90002],by decide,by decide,rfl,rfl⟩
theorem D81(w0:(List XOption)→Option Xweight)(rec_:Xplanner→Option Xplanner)(F_w0:FuncId)(caps_w0:List D)(hF_w0:A2u Q F_w0=G)(h_w0:∀z0 zr,w0 z0=L zr→FC Q F_w0 ([.sc (.sl (O P z0))]++caps_w0.map .sc) [.ag [.v (.int .i64 zr.i0),.v (.int .i64 zr.i1)]])(h_rec:∀(a0:Xplanner) zr,rec_ a0=L zr→FCz Q 179 [.p] (S6 F_w0 caps_w0 a0) (S7 a0) (S6 F_w0 caps_w0 zr) (S7 zr) [])(a0:Xplanner)(r1:Xweight)(v5:Bool)(r:Xplanner)(h:J8 w0 rec_ a0 r1 v5=L r)(σ:St)(hσ:σ.kept [0,2] [99999999999,2] [90000,90001,90002]=⟨[(0,vc (.pb 99999999999 0)),(2,vc (.pb 2 0))],[(99999999999,(dm a0.h.row++ [aL (O (rL P) a0.choices),.dat (.clo F_w0 caps_w0),.own 90000,.own 90001,.own 90002,aI a0.least.i0,aI a0.least.i1,aB v5])),(2,[aI r1.i0,aI r1.i1])],[(90000,4,O P a0.plan),(90001,1,O rI a0.choice),(90002,1,O rI a0.best)]⟩):go Q (.code C4f:: []) (A88 [] [] (S6 F_w0 caps_w0 r) (S7 r)) .normal (L σ):=by
 unfold J8 at h
 rcases ic h with ⟨h6,h⟩|⟨h6,h⟩
 ·try simp only[hσ,h6,C4f,A,B,C,E,F,J]
  obtain⟨r7,h7,h⟩:=ob h
  refine A37 (ks:= [0,2]) (bs:= [99999999999,2]) (rs:= [90000,90001,90002]) (τ:=(K5 F_w0 caps_w0 a0 r1 r7)) rfl (E8r F_w0 caps_w0 a0 r1 v5 r7 h7 _ H H H H H H H H) ?_
  simp only[K5,A7,cdt]
  try simp only[h6,A,B,C,E,F,J]
  cases h
  exact⟨trivial,[90000,90001,3008],by decide,by decide,rfl,rfl⟩
 ·obtain⟨x8,h8,h⟩:=ob h
  try simp only[hσ,h6,h8,C4f,A,B,C,E,F,J]
  refine E97 w0 rec_ F_w0 caps_w0 hF_w0 h_w0 h_rec _ _ _ _ _ _ _ _ _ _ _ _ _ h _ ?_
  try simp only[h6,h8,A,B,C,E,F,J,U]
theorem E82:B0 Q 179=L (cc460.strip,[],120):=by kernel_rfl
theorem B01(w0:(List XOption)→Option Xweight)(rec_:Xplanner→Option Xplanner)(a0 r:Xplanner)(F_w0:FuncId)(caps_w0:List D)(hF_w0:A2u Q F_w0=G)(h_w0:∀z0 zr,w0 z0=L zr→FC Q F_w0 ([.sc (.sl (O P z0))]++caps_w0.map .sc) [.ag [.v (.int .i64 zr.i0),.v (.int .i64 zr.i1)]])(h_rec:∀(a0:Xplanner) zr,rec_ a0=L zr→FCz Q 179 [.p] (S6 F_w0 caps_w0 a0) (S7 a0) (S6 F_w0 caps_w0 zr) (S7 zr) [])(h:V0 w0 rec_ a0=L r):FCz Q 179 [.p] (S6 F_w0 caps_w0 a0) (S7 a0) (S6 F_w0 caps_w0 r) (S7 r) []:=by
 unfold V0 at h
 refine C41 (σ:=⟨[(0,vc (.pb 99999999999 0))],[(99999999999,[aI a0.h.Forecast.Tide.Mean,aL (O XPart.row a0.h.Forecast.Tide.Parts),aL (O zE a0.h.Forecast.Surges),aL (O zF a0.h.Chart.Points),aL (O zB a0.h.Chart.Segments),aL (O XShip.row a0.h.Fleet),aI a0.h.Regime.Gap,aB a0.h.Regime.NoMeet,aI a0.h.Crew.Tugs,aI a0.h.Crew.Pilots,aI a0.h.Crew.Rest,aL (O rI a0.h.Crew.Moves),aL (O (rL P) a0.choices),.dat (.clo F_w0 caps_w0),.own 90000,.own 90001,.own 90002,aI a0.least.i0,aI a0.least.i1,aB a0.found])],[(90000,4,O P a0.plan),(90001,1,O rI a0.choice),(90002,1,O rI a0.best)]⟩) B4 E82 rfl rfl rfl rfl ?_
 simp only[cc460]
 try simp only[A,B,C,E,F,J]
 refine C6 rfl ?_
 obtain⟨r1,h1,h⟩:=ob h
 try simp only[A,B,C,E,F,J]
 refine D3i (h_w0 _ _ h1) hF_w0 (by first | rfl | kernel_rfl) (by first | rfl | kernel_rfl) (W7 rfl) rfl (uf rfl) ?_
 try simp only[A,B,C,E,F,J]
 refine C6m (m:= .box 2 [aI (0:Int),aI (0:Int)]) rfl rfl (B2x rfl rfl) ?_
 try simp only[A,B,C,E,F,J]
 refine C6 rfl ?_
 try simp only[A,B,C,E,F,J]
 refine C6 rfl ?_
 rcases ic h with ⟨h2,h⟩|⟨h2,h⟩
 ·obtain⟨r3,h3,h⟩:=ob h
  try simp only[h2,A,B,C,E,F,J]
  refine E6 (B40 _ _ _ h3) rfl rfl (uf rfl) ?_
  rcases ic h with ⟨h4,h⟩|⟨h4,h⟩
  ·try simp only[h2,h4,A,B,C,E,F,J]
   refine D81 w0 rec_ F_w0 caps_w0 hF_w0 h_w0 h_rec _ _ _ _ h _ ?_
   try simp only[h2,h4,A,B,C,E,F,J,U]
  ·try simp only[h2,h4,A,B,C,E,F,J]
   cases h
   exact⟨trivial,[90000,90001,90002],by decide,by decide,rfl,rfl⟩
 ·try simp only[h2,A,B,C,E,F,J]
  refine D81 w0 rec_ F_w0 caps_w0 hF_w0 h_w0 h_rec _ _ _ _ h _ ?_
  try simp only[h2,A,B,C,E,F,J,U]
theorem B00(w0:(List XOption)→Option Xweight)(F_w0:FuncId)(caps_w0:List D)(hF_w0:A2u Q F_w0=G)(h_w0:∀z0 zr,w0 z0=L zr→FC Q F_w0 ([.sc (.sl (O P z0))]++caps_w0.map .sc) [.ag [.v (.int .i64 zr.i0),.v (.int .i64 zr.i1)]]):∀(n:Nat) (a0 r:Xplanner),F9 w0 n a0=L r→FCz Q 179 [.p] (S6 F_w0 caps_w0 a0) (S7 a0) (S6 F_w0 caps_w0 r) (S7 r) []:=by
 intro n
 induction n with
 | zero=>intro _ r h; cases h
 | succ n ih=>intro a0 r h; rw[F9] at h; exact B01 w0 (F9 w0 n) a0 r F_w0 caps_w0 hF_w0 h_w0 ih h
theorem B2f(w0:(List XOption)→Option Xweight)(a0 r:Xplanner)(F_w0:FuncId)(caps_w0:List D)(hF_w0:A2u Q F_w0=G)(h_w0:∀z0 zr,w0 z0=L zr→FC Q F_w0 ([.sc (.sl (O P z0))]++caps_w0.map .sc) [.ag [.v (.int .i64 zr.i0),.v (.int .i64 zr.i1)]])(h:A4i w0 a0=L r):FCz Q 179 [.p] (S6 F_w0 caps_w0 a0) (S7 a0) (S6 F_w0 caps_w0 r) (S7 r) []:=B00 w0 F_w0 caps_w0 hF_w0 h_w0 bigN a0 r h
/- 84:impl_leastPlan -/
def A5h:List (List Nat × AItem):= [([],(N,.mv 17 (S 9))),([0],(N,.nilc 18 (S 17))),([1],(N,.faddr 19 (S 18) 16)),([2],(N,.load 20 (S 19) H 1)),([],(N,.mv 21 (S 9))),([4],(N,.nilc 22 (S 21))),([5],(N,.faddr 23 (S 22) 17)),([6],(N,.load 24 (S 23) G 2)),([],(N,.mv 25 (S 9))),([8],(N,.nilc 26 (S 25))),([9],(N,.faddr 27 (S 26) 19)),([10],(N,.load 28 (S 27) H 1)),([3,0,1,2,3],(N,.mv 6 (S 20))),([7,12,0,1,2,3,4,5,6,7,12],(N,.store (S 7) (S 24) 2)),([11,13,0,1,2,3,4,5,6,7,8,9,10,11,12,13],(N,.mv 8 (S 28)))]
def cc485:ACode:=(.seq (.reg [bo 3 0,(N,.mv 6 KN),(N,.alloc 7 [aI 0,aI 0]),(N,.mv 8 (KB H))]) (.seq (.reg [lw 10 3 12,mv 11 1,mv 12 2,(N,.build 13 [aI 0,.nil,.nil,.nil,.nil,.nil,aI 0,aB H,aI 0,aI 0,aI 0,.nil,.nil,.undef,.nil,.nil,.nil,aI 0,aI 0,aB H] [(0,12,(S 10)),(12,1,(S 11)),(13,1,(S 12))]),bo 14 13,(N,.ownb 14 14 143232 4),(N,.ownb 14 15 143296 1),(N,.ownb 14 16 143360 1),mv 9 14]) (.seq (.cal [mv 15 9] 16 179 [(S 15)]) (.seq (.any A5h) .ret))))
abbrev C5(r1:Xplanner)(c0_ c1_:Bool)(c2_ c3_:Bool)(c4_ c5_:Bool)(c6_ c7_:Bool)(c8_ c9_:Bool)(c10_ c11_:Bool)(c12_ c14_:Bool)(bx_:List (Nat × List AC))(rs_:Rows):St:=⟨[(7,vc (.pb 7 0)),(9,vc (.pb 14 0)),(17,bif c0_ then vc (.pb 14 0) else .undef),(18,bif c1_ then vc (.pb 14 0) else .undef),(19,bif c2_ then vc (.pb 14 16) else .undef),(20,bif c3_ then vc (.own 143360) else .undef),(21,bif c4_ then vc (.pb 14 0) else .undef),(22,bif c5_ then vc (.pb 14 0) else .undef),(23,bif c6_ then vc (.pb 14 17) else .undef),(24,bif c7_ then va [aI r1.least.i0,aI r1.least.i1] else .undef),(25,bif c8_ then vc (.pb 14 0) else .undef),(26,bif c9_ then vc (.pb 14 0) else .undef),(27,bif c10_ then vc (.pb 14 19) else .undef),(28,bif c11_ then vc (aB r1.found) else .undef),(6,bif c12_ then vc (.own 143360) else .undef),(8,bif c14_ then vc (aB r1.found) else .undef)],bx_,rs_⟩
abbrev A2d(F_a2:FuncId)(caps_a2:List D)(r1:Xplanner):St:=(C5 r1 G G G G G G G G G G G G G G [(7,[aI r1.least.i0,aI r1.least.i1]),(14,(dm r1.h.row++ [aL (O (rL P) r1.choices),.dat (.clo F_a2 caps_a2),.own 143232,.own 143296,.own 143360,aI r1.least.i0,aI r1.least.i1,aB r1.found]))] [(143232,4,O P r1.plan),(143296,1,O rI r1.choice),(143360,1,O rI r1.best)])
theorem E80(F_a2:FuncId)(caps_a2:List D)(r1:Xplanner):∀(f:Nat) (b8 b9:Bool) (b10 b11 b14:Bool),E8 Q A5h (A2d F_a2 caps_a2 r1) f [G,G,G,G,G,G,G,G,b8,b9,b10,b11,G,G,b14] (C5 r1 G G G G G G G G b8 b9 b10 b11 G b14 [(7,[aI r1.least.i0,aI r1.least.i1]),(14,(dm r1.h.row++ [aL (O (rL P) r1.choices),.dat (.clo F_a2 caps_a2),.own 143232,.own 143296,.own 143360,aI r1.least.i0,aI r1.least.i1,aB r1.found]))] [(143232,4,O P r1.plan),(143296,1,O rI r1.choice),(143360,1,O rI r1.best)]):=by
 intro f
 induction f with
 | zero=>
  intro b8 b9 b10 b11 b14 h
  obtain rfl:b8=G:=V.1 h b8 (by simp)
  obtain rfl:b9=G:=V.1 h b9 (by simp)
  obtain rfl:b10=G:=V.1 h b10 (by simp)
  obtain rfl:b11=G:=V.1 h b11 (by simp)
  obtain rfl:b14=G:=V.1 h b14 (by simp)
  rfl
 | succ f ih=>
  intro b8 b9 b10 b11 b14
  refine B6 ⟨?_,?_,?_,?_,?_,?_,?_,?_,?_,?_,?_,?_,?_,?_,?_,⟨⟩⟩
  ·intro h; cases h
  ·intro h; cases h
  ·intro h; cases h
  ·intro h; cases h
  ·intro h; cases h
  ·intro h; cases h
  ·intro h; cases h
  ·intro h; cases h
  ·intro h0 hw
   obtain rfl:=hz h0 rfl
   refine np ?_
   try simp only[C5,cdt,cdf,A1,A,B,C,E,F,J]
   exact ih G b9 b10 b11 b14
  ·intro h0 hw
   obtain rfl:=hz h0 rfl
   obtain rfl:=hq hw 8 rfl rfl
   refine np ?_
   try simp only[C5,cdt,cdf,A1,A,B,C,E,F,J]
   exact ih G G b10 b11 b14
  ·intro h0 hw
   obtain rfl:=hz h0 rfl
   obtain rfl:=hq hw 9 rfl rfl
   refine np ?_
   try simp only[C5,cdt,cdf,A1,A,B,C,E,F,J]
   exact ih b8 G G b11 b14
  ·intro h0 hw
   obtain rfl:=hz h0 rfl
   obtain rfl:=hq hw 10 rfl rfl
   refine np ?_
   try simp only[C5,cdt,cdf,A1,A,B,C,E,F,J]
   exact ih b8 b9 G G b14
  ·intro h; cases h
  ·intro h; cases h
  ·intro h0 hw
   obtain rfl:=hz h0 rfl
   obtain rfl:=hq hw 8 rfl rfl
   obtain rfl:=hq hw 9 rfl rfl
   obtain rfl:=hq hw 10 rfl rfl
   obtain rfl:=hq hw 11 rfl rfl
   refine np ?_
   try simp only[C5,cdt,cdf,A1,A,B,C,E,F,J]
   exact ih G G G G G
theorem E86(F_a2:FuncId)(caps_a2:List D)(r1:Xplanner):∀(f:Nat) (b0 b1:Bool) (b2 b3:Bool) (b4 b5:Bool) (b6 b7:Bool) (b8 b9:Bool) (b10 b11 b12:Bool),E8 Q A5h (A2d F_a2 caps_a2 r1) f [b0,b1,b2,b3,b4,b5,b6,b7,b8,b9,b10,b11,b12,H,H] (C5 r1 b0 b1 b2 b3 b4 b5 b6 b7 b8 b9 b10 b11 b12 H [(7,[aI (0:Int),aI (0:Int)]),(14,(dm r1.h.row++ [aL (O (rL P) r1.choices),.dat (.clo F_a2 caps_a2),.own 143232,.own 143296,.own 143360,aI r1.least.i0,aI r1.least.i1,aB r1.found]))] [(143232,4,O P r1.plan),(143296,1,O rI r1.choice),(143360,1,O rI r1.best)]):=by
 intro f
 induction f with
 | zero=>intro b0 b1 b2 b3 b4 b5 b6 b7 b8 b9 b10 b11 b12 h; simp at h
 | succ f ih=>
  intro b0 b1 b2 b3 b4 b5 b6 b7 b8 b9 b10 b11 b12
  refine B6 ⟨?_,?_,?_,?_,?_,?_,?_,?_,?_,?_,?_,?_,?_,?_,?_,⟨⟩⟩
  ·intro h0 hw
   obtain rfl:=hz h0 rfl
   refine np ?_
   try simp only[C5,cdt,cdf,A1,A,B,C,E,F,J]
   exact ih G b1 b2 b3 b4 b5 b6 b7 b8 b9 b10 b11 b12
  ·intro h0 hw
   obtain rfl:=hz h0 rfl
   obtain rfl:=hq hw 0 rfl rfl
   refine np ?_
   try simp only[C5,cdt,cdf,A1,A,B,C,E,F,J]
   exact ih G G b2 b3 b4 b5 b6 b7 b8 b9 b10 b11 b12
  ·intro h0 hw
   obtain rfl:=hz h0 rfl
   obtain rfl:=hq hw 1 rfl rfl
   refine np ?_
   try simp only[C5,cdt,cdf,A1,A,B,C,E,F,J]
   exact ih b0 G G b3 b4 b5 b6 b7 b8 b9 b10 b11 b12
  ·intro h0 hw
   obtain rfl:=hz h0 rfl
   obtain rfl:=hq hw 2 rfl rfl
   refine np ?_
   try simp only[C5,cdt,cdf,A1,A,B,C,E,F,J]
   exact ih b0 b1 G G b4 b5 b6 b7 b8 b9 b10 b11 b12
  ·intro h0 hw
   obtain rfl:=hz h0 rfl
   refine np ?_
   try simp only[C5,cdt,cdf,A1,A,B,C,E,F,J]
   exact ih b0 b1 b2 b3 G b5 b6 b7 b8 b9 b10 b11 b12
  ·intro h0 hw
   obtain rfl:=hz h0 rfl
   obtain rfl:=hq hw 4 rfl rfl
   refine np ?_
   try simp only[C5,cdt,cdf,A1,A,B,C,E,F,J]
   exact ih b0 b1 b2 b3 G G b6 b7 b8 b9 b10 b11 b12
  ·intro h0 hw
   obtain rfl:=hz h0 rfl
   obtain rfl:=hq hw 5 rfl rfl
   refine np ?_
   try simp only[C5,cdt,cdf,A1,A,B,C,E,F,J]
   exact ih b0 b1 b2 b3 b4 G G b7 b8 b9 b10 b11 b12
  ·intro h0 hw
   obtain rfl:=hz h0 rfl
   obtain rfl:=hq hw 6 rfl rfl
   refine np ?_
   try simp only[C5,cdt,cdf,A1,A,B,C,E,F,J]
   exact ih b0 b1 b2 b3 b4 b5 G G b8 b9 b10 b11 b12
  ·intro h0 hw
   obtain rfl:=hz h0 rfl
   refine np ?_
   try simp only[C5,cdt,cdf,A1,A,B,C,E,F,J]
   exact ih b0 b1 b2 b3 b4 b5 b6 b7 G b9 b10 b11 b12
  ·intro h0 hw
   obtain rfl:=hz h0 rfl
   obtain rfl:=hq hw 8 rfl rfl
   refine np ?_
   try simp only[C5,cdt,cdf,A1,A,B,C,E,F,J]
   exact ih b0 b1 b2 b3 b4 b5 b6 b7 G G b10 b11 b12
  ·intro h0 hw
   obtain rfl:=hz h0 rfl
   obtain rfl:=hq hw 9 rfl rfl
   refine np ?_
   try simp only[C5,cdt,cdf,A1,A,B,C,E,F,J]
   exact ih b0 b1 b2 b3 b4 b5 b6 b7 b8 G G b11 b12
  ·intro h0 hw
   obtain rfl:=hz h0 rfl
   obtain rfl:=hq hw 10 rfl rfl
   refine np ?_
   try simp only[C5,cdt,cdf,A1,A,B,C,E,F,J]
   exact ih b0 b1 b2 b3 b4 b5 b6 b7 b8 b9 G G b12
  ·intro h0 hw
   obtain rfl:=hz h0 rfl
   obtain rfl:=hq hw 0 rfl rfl
   obtain rfl:=hq hw 1 rfl rfl
   obtain rfl:=hq hw 2 rfl rfl
   obtain rfl:=hq hw 3 rfl rfl
   refine np ?_
   try simp only[C5,cdt,cdf,A1,A,B,C,E,F,J]
   exact ih G G G G b4 b5 b6 b7 b8 b9 b10 b11 G
  ·intro h0 hw
   obtain rfl:=hq hw 0 rfl rfl
   obtain rfl:=hq hw 1 rfl rfl
   obtain rfl:=hq hw 2 rfl rfl
   obtain rfl:=hq hw 3 rfl rfl
   obtain rfl:=hq hw 4 rfl rfl
   obtain rfl:=hq hw 5 rfl rfl
   obtain rfl:=hq hw 6 rfl rfl
   obtain rfl:=hq hw 7 rfl rfl
   obtain rfl:=hq hw 12 rfl rfl
   refine np ?_
   try simp only[C5,cdt,cdf,A1,A,B,C,E,F,J]
   exact E80 F_a2 caps_a2 r1 _ b8 b9 b10 b11 H
  ·intro _ hw; have:=hw 13 (by simp); cases this
theorem F03:B0 Q 84=L (cc485.strip,[6,.c 7 G 2,8],29):=by kernel_rfl
theorem B6q(a0:XHarbour)(a1:List (List XOption))(a2:(List XOption)→Option Xweight)(r:(List Int) × Xweight × Bool)(F_a2:FuncId)(caps_a2:List D)(hF_a2:A2u Q F_a2=G)(h_a2:∀z0 zr,a2 z0=L zr→FC Q F_a2 ([.sc (.sl (O P z0))]++caps_a2.map .sc) [.ag [.v (.int .i64 zr.i0),.v (.int .i64 zr.i1)]])(h:A23 a0 a1 a2=L r):FC Q 84 [.ag (X a0),.sc (.sl (O (rL P) a1)),.sc (.clo F_a2 caps_a2)] [.sc (.o 1 (O rI r.1)),.ag [.v (.int .i64 r.2.1.i0),.v (.int .i64 r.2.1.i1)],.sc (.v (.bool r.2.2))]:=by
 unfold A23 at h
 refine D3 B4 F03 rfl ?_
 simp only[cc485,A,B,C,E,F,J]
 try simp only[A,B,C,E,F,J]
 refine B7 rfl rfl rfl ?_
 try simp only[A,B,C,E,F,J]
 refine E0 rfl rfl ?_
 try simp only[A,B,C,E,F,J]
 refine B7 rfl rfl rfl ?_
 try simp only[A,B,C,E,F,J]
 refine A30 (cs':= [aI a0.Forecast.Tide.Mean,aL (O XPart.row a0.Forecast.Tide.Parts),aL (O zE a0.Forecast.Surges),aL (O zF a0.Chart.Points),aL (O zB a0.Chart.Segments),aL (O XShip.row a0.Fleet),aI a0.Regime.Gap,aB a0.Regime.NoMeet,aI a0.Crew.Tugs,aI a0.Crew.Pilots,aI a0.Crew.Rest,aL (O rI a0.Crew.Moves),aL (O (rL P) a1),.dat (.clo F_a2 caps_a2),.own 143232,.nil,.nil,aI (0:Int),aI (0:Int),aB H]) rfl rfl rfl rfl ?_
 try simp only[A,B,C,E,F,J]
 refine A30 (cs':= [aI a0.Forecast.Tide.Mean,aL (O XPart.row a0.Forecast.Tide.Parts),aL (O zE a0.Forecast.Surges),aL (O zF a0.Chart.Points),aL (O zB a0.Chart.Segments),aL (O XShip.row a0.Fleet),aI a0.Regime.Gap,aB a0.Regime.NoMeet,aI a0.Crew.Tugs,aI a0.Crew.Pilots,aI a0.Crew.Rest,aL (O rI a0.Crew.Moves),aL (O (rL P) a1),.dat (.clo F_a2 caps_a2),.own 143232,.own 143296,.nil,aI (0:Int),aI (0:Int),aB H]) rfl rfl rfl rfl ?_
 try simp only[A,B,C,E,F,J]
 refine A30 (cs':= [aI a0.Forecast.Tide.Mean,aL (O XPart.row a0.Forecast.Tide.Parts),aL (O zE a0.Forecast.Surges),aL (O zF a0.Chart.Points),aL (O zB a0.Chart.Segments),aL (O XShip.row a0.Fleet),aI a0.Regime.Gap,aB a0.Regime.NoMeet,aI a0.Crew.Tugs,aI a0.Crew.Pilots,aI a0.Crew.Rest,aL (O rI a0.Crew.Moves),aL (O (rL P) a1),.dat (.clo F_a2 caps_a2),.own 143232,.own 143296,.own 143360,aI (0:Int),aI (0:Int),aB H]) rfl rfl rfl rfl ?_
 try simp only[A,B,C,E,F,J]
 refine B5w ?_
 obtain⟨r1,h1,h⟩:=ob h
 try simp only[A,B,C,E,F,J]
 refine A76 (B2f _ _ _ F_a2 caps_a2 hF_a2 h_a2 h1) 14 [143232,143296,143360] rfl rfl rfl rfl (by decide) rfl rfl rfl ?_
 try simp only[A,B,C,E,F,J]
 refine A37 (ks:= [7,9]) (bs:= [7,14]) (rs:= [143232,143296,143360]) (τ:=(A2d F_a2 caps_a2 r1)) rfl (E86 F_a2 caps_a2 r1 _ H H H H H H H H H H H H H) ?_
 simp only[A2d,C5,cdt]
 try simp only[A,B,C,E,F,J]
 cases h
 try simp only[W9,A,B,C,E,F,J]
 trivial
/- 31:impl_CostOf -/
def C2r:ACode:= .seq (.reg [(N,.keep [3,6,7,8] [] [])]) (.seq (.reg [bn 9 .lss 8 7]) (.seq (.cond (S 9) .skip (.exit 0)) (.seq (.block 1 (.seq (.reg [ia 10 6 8 4,lw 11 10 4,(N,.alloc 5 [aI 0,aI 0,aI 0,.nil]),so 5 11 4]) (.reg [mv 12 3,fa 13 5 2,ld 14 13,bn 15 .add 12 14,mv 3 15]))) (.reg [(N,.bin 16 .add (S 8) (K 1)),mv 8 16]))))
def D05:ACode:=(.seq (.reg [mv 17 3,mv 2 17]) .ret)
def cc491:ACode:=(.seq (.reg [(N,.mv 2 (K 0))]) (.seq (.reg [(N,.mv 3 (K 0))]) (.seq (.seq (.reg [mv 6 0,ln 7 6,(N,.mv 8 (K 0))]) (.block 0 (.loop C2r))) D05)))
theorem F30(a0:List XOption):∀(n:Nat) (v1 v2 r:Int),Z6 a0 n v1 v2=L r→∀σ:St,σ.kept [3,6,7,8] [] []=⟨[(3,vc (aI v1)),(6,vc (aL (O P a0))),(7,vc (aI (a0.length:Int))),(8,vc (aI v2))],[],[]⟩→go Q (.code (.loop C2r):: [.blk 0,.code D05]) (Ret [2] [.sc (.v (.int .i64 r))]) .normal (L σ):=by
 intro n
 induction n with
 | zero=>intro _ _ r h; cases h
 | succ n ih=>
  intro v1 v2 r h σ hσ
  rw[Z6] at h
  refine B8 ?_
  rcases ic h with ⟨h3,h⟩|⟨h3,h⟩
  ·obtain⟨x4,h4,h⟩:=ob h
   try simp only[hσ,h3,h4,C2r,A,B,C,E,F,J]
   refine E0 rfl rfl ?_
   try simp only[h3,h4,A,B,C,E,F,J]
   refine ih _ _ _ h _ ?_
   try simp only[h3,h4,A,B,C,E,F,J,U]
  ·try simp only[hσ,h3,C2r,D05,A,B,C,E,F,J]
   cases h
   trivial
theorem F4u:B0 Q 31=L (cc491.strip,[2],18):=by kernel_rfl
theorem C2n(a0:List XOption)(r:Int)(h:A6y a0=L r):FC Q 31 [.sc (.sl (O P a0))] [.sc (.v (.int .i64 r))]:=by
 unfold A6y at h
 refine D3 B4 F4u rfl ?_
 simp only[cc491,A,B,C,E,F,J]
 try simp only[A,B,C,E,F,J]
 refine F30 _ _ _ _ _ h _ ?_
 try simp only[A,B,C,E,F,J,U]
/- 85:impl_byCost -/
def cc494:ACode:=(.seq (.reg [(N,.alloc 2 [aI 0,aI 0])]) (.seq (.reg [mv 3 0,ca 4 31 [S 3],(N,.build 5 [aI 0,aI 0] [(0,1,(S 4))]),so 2 5 2]) .ret))
theorem E7q:B0 Q 85=L (cc494.strip,[.c 2 G 2],6):=by kernel_rfl
theorem C18(a0:List XOption)(r:Xweight)(h:A47 a0=L r):FC Q 85 [.sc (.sl (O P a0))] [.ag [.v (.int .i64 r.i0),.v (.int .i64 r.i1)]]:=by
 unfold A47 at h
 refine D3 B4 E7q rfl ?_
 simp only[cc494,A,B,C,E,F,J]
 try simp only[A,B,C,E,F,J]
 refine E0 rfl rfl ?_
 obtain⟨r1,h1,h⟩:=ob h
 try simp only[A,B,C,E,F,J]
 refine A4 (C2n _ _ h1) rfl rfl (uf rfl) ?_
 try simp only[A,B,C,E,F,J]
 cases h
 try simp only[W9,A,B,C,E,F,J]
 trivial
/- 27:impl_BestPlan -/
def cc496:ACode:=(.seq (.reg [bo 2 0,(N,.mv 4 KN),(N,.mv 5 (K 0)),(N,.mv 6 (KB H))]) (.seq (.seq (.reg [lw 10 2 12,mv 11 1,ca 12 18 [S 10,S 11],nt 13 12]) (.cond (S 13) (.seq (.reg [(N,.mv 4 KN),(N,.mv 5 (K 0)),(N,.mv 6 (KB H))]) .ret) .skip)) (.seq (.drw [(L [18,8],lw 15 2 12),(L [8],lw 16 2 12),(L [8],mv 17 1),(L [8],ca 18 107 [S 16,S 17]),(L [8],ca 19 84 [S 15,S 18,.c (.v (.sc (.dat (.clo 85 []))))]),(L [8],mv 14 19),(L [8],xt 20 14 0),(L [8],xt 21 14 1),(L [8],xt 22 14 2),(L [18,19],(N,.alloc 8 [aI 0,aI 0])),o0 (mv 7 20),(N,so 8 21 2),o0 (mv 9 22)]) (.seq (.drw [o0 (mv 23 7),o0 (fa 24 8 0),o0 (ld 25 24),o0 (mv 26 9),o0 (mv 4 23),o0 (mv 5 25),o0 (mv 6 26)]) .ret))))
theorem F1v:B0 Q 27=L (cc496.strip,[4,5,6],27):=by kernel_rfl
theorem B08(a0:XHarbour)(a1:List XCall)(r:(List Int) × Int × Bool)(h:A1o a0 a1=L r):FC Q 27 [.ag (X a0),.sc (.sl (O zD a1))] [.sc (.o 1 (O rI r.1)),.sc (.v (.int .i64 r.2.1)),.sc (.v (.bool r.2.2))]:=by
 unfold A1o at h
 refine D3 B4 F1v rfl ?_
 simp only[cc496,A,B,C,E,F,J]
 try simp only[A,B,C,E,F,J]
 refine B7 rfl rfl rfl ?_
 obtain⟨r1,h1,h⟩:=ob h
 try simp only[A,B,C,E,F,J]
 refine A4 (A71 _ _ _ h1) rfl rfl (uf rfl) ?_
 rcases ic h with ⟨h2,h⟩|⟨h2,h⟩
 ·try simp only[h2,A,B,C,E,F,J]
  refine C6 rfl ?_
  obtain⟨r3,h3,h⟩:=ob h
  try simp only[h2,A,B,C,E,F,J]
  refine E6 (B5z _ _ _ h3) rfl rfl (uf rfl) ?_
  obtain⟨r4,h4,h⟩:=ob h
  try simp only[h2,A,B,C,E,F,J]
  refine A73 (B6q _ _ _ _ 85 [] (by kernel_rfl) (fun z0 zr zh=>C18 z0 zr zh) h4) (by first | rfl | kernel_rfl) (A82 rfl ⟨A8v,rfl,rfl,rfl,⟨⟩⟩) rfl (uf rfl) ?_
  try simp only[h2,A,B,C,E,F,J]
  refine C6m (m:= .box 8 [aI (0:Int),aI (0:Int)]) rfl rfl (B2x rfl rfl) ?_
  try simp only[h2,A,B,C,E,F,J]
  refine C6 rfl ?_
  try simp only[h2,A,B,C,E,F,J]
  refine C6 rfl ?_
  try simp only[h2,A,B,C,E,F,J]
  cases h
  trivial
 ·try simp only[h2,A,B,C,E,F,J]
  cases h
  trivial
/- 25:impl_CanServe -/
def cc498:ACode:=(.seq (.reg [bo 2 0,(N,.mv 4 (KB H))]) (.seq (.reg [lw 9 2 12,mv 10 1,ca 11 27 [S 9,S 10],mv 8 11,xt 12 8 0,xt 13 8 1,xt 14 8 2,mv 5 12,mv 6 13,mv 7 14]) (.seq (.reg [mv 15 7,mv 4 15]) .ret)))
theorem F13:B0 Q 25=L (cc498.strip,[4],16):=by kernel_rfl
theorem B9q(a0:XHarbour)(a1:List XCall)(r:Bool)(h:A5p a0 a1=L r):FC Q 25 [.ag (X a0),.sc (.sl (O zD a1))] [.sc (.v (.bool r))]:=by
 unfold A5p at h
 refine D3 B4 F13 rfl ?_
 simp only[cc498,A,B,C,E,F,J]
 try simp only[A,B,C,E,F,J]
 refine B7 rfl rfl rfl ?_
 obtain⟨r1,h1,h⟩:=ob h
 try simp only[A,B,C,E,F,J]
 refine A4 (B08 _ _ _ h1) rfl rfl (uf rfl) ?_
 try simp only[A,B,C,E,F,J]
 cases h
 trivial
/- 29:impl_PlanOf -/
def C3o:ACode:= .seq (.reg [(N,.keep [1,2,3,22] [3] [])]) (.cond (S 22) (.seq (.reg [(N,.mv 6 KN),(N,.mv 7 (KB H))]) .ret) .skip)
def C31:ACode:= .seq (.reg [(N,.keep [2,3,8,24,25,26] [3] [1472])]) (.seq (.reg [bn 27 .lss 26 25]) (.seq (.cond (S 27) .skip (.exit 0)) (.seq (.block 1 (.seq (.reg [mv 28 26,ia 29 24 26 5,lw 30 29 5,(N,.alloc 10 [aI 0,aI 0,aI 0,aI 0,aI 0]),mv 9 28,so 10 30 5]) (.seq (.reg [lw 31 3 12,lw 32 10 5,ca 33 24 [S 31,S 32],mv 11 33]) (.seq (.seq (.reg [mv 34 2,mv 35 9,ia 36 34 35 1,ld 37 36,mv 38 11,ln 39 38,ca 40 94 [S 37,S 39],nt 41 40]) (.cond (S 41) (.seq (.reg [(N,.mv 6 KN),(N,.mv 7 (KB H))]) .ret) .skip)) (.reg [mv 42 8,mv 43 11,mv 44 2,mv 45 9,ia 46 44 45 1,ld 47 46,ia 48 43 47 4,lw 49 48 4,(N,.bslice 50 4 [.int .i64 0,.int .i64 0,.int .i64 0,.sl []] 1 [(0,(S 49))]),(N,.app 51 4 48 (S 42) (S 50)),mv 8 51]))))) (.reg [(N,.bin 52 .add (S 26) (K 1)),mv 26 52]))))
def D0v:ACode:=(.seq (.reg [mv 53 8,mv 6 53,(N,.mv 7 (KB G))]) .ret)
def D15:ACode:=(.seq (.reg [(N,.bslice 23 4 [.int .i64 0,.int .i64 0,.int .i64 0,.sl []] 0 []),mv 8 23]) (.seq (.seq (.reg [mv 24 1,ln 25 24,(N,.mv 26 (K 0))]) (.block 0 (.loop C31))) D0v))
def cc504:ACode:=(.seq (.reg [bo 3 0,(N,.mv 6 KN),(N,.mv 7 (KB H))]) (.seq (.seq (.reg [lw 12 3 12,mv 13 1,ca 14 18 [S 12,S 13],nt 15 14,mv 16 15,(L (16,H),.mv 17 (S 2)),(L (16,H),.len 18 (S 17)),(L (16,H),.mv 19 (S 1)),(L (16,H),.len 20 (S 19)),(L (16,H),.bin 21 .neq (S 18) (S 20)),po 22 16 21]) C3o) D15))
theorem E8m(a2:List Int)(a1:List XCall)(a0:XHarbour):∀(n:Nat) (v5:Int) (v6:List XOption) (r:(List XOption) × Bool),Z7 a2 a1 a0 n v5 v6=L r→∀σ:St,σ.kept [2,3,8,24,25,26] [3] [1472]=⟨[(2,vc (aL (O rI a2))),(3,vc (.pb 3 0)),(8,vc (.own 1472)),(24,vc (aL (O zD a1))),(25,vc (aI (a1.length:Int))),(26,vc (aI v5))],[(3,(dm a0.row))],[(1472,4,O P v6)]⟩→go Q (.code (.loop C31):: [.blk 0,.code D0v]) (Ret [6,7] [.sc (.o 4 (O P r.1)),.sc (.v (.bool r.2))]) .normal (L σ):=by
 intro n
 induction n with
 | zero=>intro _ _ r h; cases h
 | succ n ih=>
  intro v5 v6 r h σ hσ
  rw[Z7] at h
  refine B8 ?_
  rcases ic h with ⟨h7,h⟩|⟨h7,h⟩
  ·obtain⟨x8,h8,h⟩:=ob h
   try simp only[hσ,h7,h8,C31,A,B,C,E,F,J]
   refine E0 rfl rfl ?_
   obtain⟨r9,h9,h⟩:=ob h
   try simp only[h7,h8,A,B,C,E,F,J]
   refine A4 (B0p _ _ _ h9) rfl rfl (uf rfl) ?_
   obtain⟨x10,h10,h⟩:=ob h
   obtain⟨r11,h11,h⟩:=ob h
   try simp only[h7,h8,h10,A,B,C,E,F,J]
   refine A4 (E5 _ _ _ h11) rfl rfl (uf rfl) ?_
   rcases ic h with ⟨h12,h⟩|⟨h12,h⟩
   ·obtain⟨x13,h13,h⟩:=ob h
    have h13n:=P7 h13
    try simp only[h7,h8,h10,h12,h13,h13n,A,B,C,E,F,J]
    refine D8 (es:=O P ([x13]:List XOption)) rfl rfl ?_
    obtain⟨h14,h⟩:=E2 h
    try simp only[h7,h8,h10,h12,h13,h13n,h14,A,B,C,E,F,J]
    refine ih _ _ _ h _ ?_
    try simp only[h7,h8,h10,h12,h13,h13n,h14,A,B,C,E,F,J,U]
   ·try simp only[h7,h8,h10,h12,A,B,C,E,F,J]
    cases h
    trivial
  ·try simp only[hσ,h7,C31,D0v,A,B,C,E,F,J]
   cases h
   trivial
theorem D9e(a1:List XCall)(a2:List Int)(a0:XHarbour)(v3:Bool)(r:(List XOption) × Bool)(h:A3w a1 a2 a0 v3=L r)(σ:St)(hσ:σ.kept [1,2,3,22] [3] []=⟨[(1,vc (aL (O zD a1))),(2,vc (aL (O rI a2))),(3,vc (.pb 3 0)),(22,vc (aB v3))],[(3,(dm a0.row))],[]⟩):go Q (.code C3o:: [.code D15]) (Ret [6,7] [.sc (.o 4 (O P r.1)),.sc (.v (.bool r.2))]) .normal (L σ):=by
 unfold A3w at h
 rcases ic h with ⟨h4,h⟩|⟨h4,h⟩
 ·try simp only[hσ,h4,C3o,A,B,C,E,F,J]
  cases h
  trivial
 ·try simp only[hσ,h4,C3o,D15,A,B,C,E,F,J]
  refine D8 (es:=O P ([]:List XOption)) rfl rfl ?_
  try simp only[h4,A,B,C,E,F,J]
  refine E8m _ _ _ _ _ _ _ h _ ?_
  try simp only[h4,A,B,C,E,F,J,U]
theorem F00:B0 Q 29=L (cc504.strip,[6,7],54):=by kernel_rfl
theorem C17(a0:XHarbour)(a1:List XCall)(a2:List Int)(r:(List XOption) × Bool)(h:A48 a0 a1 a2=L r):FC Q 29 [.ag (X a0),.sc (.sl (O zD a1)),.sc (.sl (O rI a2))] [.sc (.o 4 (O P r.1)),.sc (.v (.bool r.2))]:=by
 unfold A48 at h
 refine D3 B4 F00 rfl ?_
 simp only[cc504,A,B,C,E,F,J]
 try simp only[A,B,C,E,F,J]
 refine B7 rfl rfl rfl ?_
 obtain⟨r1,h1,h⟩:=ob h
 try simp only[A,B,C,E,F,J]
 refine A4 (A71 _ _ _ h1) rfl rfl (uf rfl) ?_
 rcases ic h with ⟨h2,h⟩|⟨h2,h⟩
 ·try simp only[h2,A,B,C,E,F,J]
  refine D9e _ _ _ _ _ h _ ?_
  try simp only[h2,A,B,C,E,F,J,U]
 ·try simp only[h2,A,B,C,E,F,J]
  refine D9e _ _ _ _ _ h _ ?_
  try simp only[h2,A,B,C,E,F,J,U]
/- 83:spec_l28New -/
def C2x:ACode:= .seq (.reg [(N,.keep [1,5,6] [8] [])]) (.seq (.seq (.reg [mv 9 6,mv 10 1,bn 11 .lss 9 10]) (.cond (S 11) .skip (.exit 0))) (.seq (.block 1 (.reg [mv 14 5,ca 15 178 [S 14]])) (.reg [mv 12 6,(N,.bin 13 .add (S 12) (K 1)),mv 6 13])))
def D1y:ACode:=(.seq (.reg [mv 16 5,mv 4 16]) .ret)
def cc510:ACode:=(.seq (.reg [(N,.mv 4 (.c (.v (.sc .undef))))]) (.seq (.reg [mv 7 0,ca 8 81 [S 7],mv 5 8]) (.seq (.seq (.reg [(N,.mv 6 (K 0))]) (.block 0 (.loop C2x))) D1y)))
theorem F33(a1:Int):∀(n:Nat) (v2:Int) (v3:List Int) (v4 v5:Int) (r:Xl01Cur),A0l a1 n v2 v3 v4 v5=L r→∀σ:St,σ.kept [1,5,6] [8] []=⟨[(1,vc (aI a1)),(5,vc (.pb 8 0)),(6,vc (aI v2))],[(8,[aL (O r8 v3),aI v4,aI v5])],[]⟩→go Q (.code (.loop C2x):: [.blk 0,.code D1y]) (C6h [4] [.sl (O r8 r.b),.int .i64 r.i,.int .i64 r.h]) .normal (L σ):=by
 intro n
 induction n with
 | zero=>intro _ _ _ _ r h; cases h
 | succ n ih=>
  intro v2 v3 v4 v5 r h σ hσ
  rw[A0l] at h
  refine B8 ?_
  rcases ic h with ⟨h6,h⟩|⟨h6,h⟩
  ·obtain⟨r7,h7,h⟩:=ob h
   try simp only[hσ,h6,C2x,A,B,C,E,F,J]
   refine C3 (A2n _ _ h7) 8 rfl rfl rfl ?_
   try simp only[h6,A,B,C,E,F,J]
   refine ih _ _ _ _ _ h _ ?_
   try simp only[h6,A,B,C,E,F,J,U]
  ·try simp only[hσ,h6,C2x,D1y,A,B,C,E,F,J]
   cases h
   exact⟨_,8,rfl,rfl,rfl,rfl⟩
theorem E7w:B0 Q 83=L (cc510.strip,[4],17):=by kernel_rfl
theorem C2f(a0:List Int)(a1:Int)(r:Xl01Cur)(h:A3d a0 a1=L r):FCn Q 83 [.sc (.sl (O r8 a0)),.sc (.int .i64 a1)] [.sl (O r8 r.b),.int .i64 r.i,.int .i64 r.h]:=by
 unfold A3d at h
 refine D4o (σ:=⟨[(0,vc (aL (O r8 a0))),(1,vc (aI a1))],[],[]⟩) B4 E7w rfl rfl ?_
 simp only[cc510]
 obtain⟨r1,h1,h⟩:=ob h
 try simp only[A,B,C,E,F,J]
 refine B6z (B3f _ _ h1) rfl rfl ?_
 try simp only[A,B,C,E,F,J]
 refine F33 _ _ _ _ _ _ _ h _ ?_
 try simp only[A,B,C,E,F,J,U]
/- 110:spec_l24Picks -/
def C3w:ACode:= .seq (.reg [(N,.keep [0,3,4] [99999999999] [320])]) (.seq (.seq (.reg [mv 9 4,(N,.bin 10 .gtr (S 9) (K 0))]) (.cond (S 10) .skip (.exit 0))) (.seq (.block 1 (.reg [mv 13 3,mv 14 0,mv 15 0,ca 16 120 [S 15,K 1001],(N,.bslice 17 1 [.int .i64 0] 3 [(0,(K 0)),(1,(K 1000)),(2,(S 16))]),(N,.frz 1088),ca 18 204 [S 14,S 17],(N,.bslice 19 1 [.int .i64 0] 1 [(0,(S 18))]),(N,.app 20 1 8 (S 13) (S 19)),mv 3 20])) (.reg [mv 11 4,(N,.bin 12 .sub (S 11) (K 1)),mv 4 12])))
def D0e:ACode:=(.seq (.reg [(N,.frz 320),mv 21 3,mv 2 21]) .ret)
def cc515:ACode:=(.seq (.reg [(N,.mv 2 KN)]) (.seq (.reg [(N,.bslice 5 1 [.int .i64 0] 0 []),mv 3 5]) (.seq (.seq (.reg [mv 6 0,ca 7 120 [S 6,K 6],(N,.bin 8 .add (K 1) (S 7)),mv 4 8]) (.block 0 (.loop C3w))) D0e)))
theorem F0j:∀(n:Nat) (v2:Int) (v3:List Int) (v4 v5:Int) (v6:List Int) (r:(List Int) × Xl01Cur),V7 n v2 v3 v4 v5 v6=L r→∀σ:St,σ.kept [0,3,4] [99999999999] [320]=⟨[(0,vc (.pb 99999999999 0)),(3,vc (.own 320)),(4,vc (aI v2))],[(99999999999,[aL (O r8 v3),aI v4,aI v5])],[(320,1,O rI v6)]⟩→go Q (.code (.loop C3w):: [.blk 0,.code D0e]) (B2l [2] [.sc (.v (.sl (O rI r.1)))] [.sl (O r8 r.2.b),.int .i64 r.2.i,.int .i64 r.2.h]) .normal (L σ):=by
 intro n
 induction n with
 | zero=>intro _ _ _ _ _ r h; cases h
 | succ n ih=>
  intro v2 v3 v4 v5 v6 r h σ hσ
  rw[V7] at h
  refine B8 ?_
  rcases ic h with ⟨h7,h⟩|⟨h7,h⟩
  ·obtain⟨r9,h9,h⟩:=ob h
   try simp only[hσ,h7,C3w,A,B,C,E,F,J]
   refine C3 (B9 _ _ _ h9) 99999999999 rfl rfl rfl ?_
   try simp only[h7,A,B,C,E,F,J]
   refine D8 (es:=O rI ([(0:Int),(1000:Int),r9.1]:List Int)) rfl rfl ?_
   try simp only[h7,A,B,C,E,F,J]
   refine U4 rfl ?_
   obtain⟨r10,h10,h⟩:=ob h
   try simp only[h7,A,B,C,E,F,J]
   refine C3 (B2a _ _ _ h10) 99999999999 rfl rfl rfl ?_
   try simp only[h7,A,B,C,E,F,J]
   refine D8 (es:=O rI ([r10.1]:List Int)) rfl rfl ?_
   obtain⟨h11,h⟩:=E2 h
   try simp only[h7,h11,A,B,C,E,F,J]
   refine ih _ _ _ _ _ _ h _ ?_
   try simp only[h7,h11,A,B,C,E,F,J,U]
  ·try simp only[hσ,h7,C3w,D0e,A,B,C,E,F,J]
   refine U4 rfl ?_
   try simp only[h7,A,B,C,E,F,J]
   cases h
   trivial
theorem F2o:B0 Q 110=L (cc515.strip,[2],22):=by kernel_rfl
theorem B8b(a0:Xl01Cur)(r:(List Int) × Xl01Cur)(h:A3l a0=L r):FCy Q 110 [.p] [.sl (O r8 a0.b),.int .i64 a0.i,.int .i64 a0.h] [.sl (O r8 r.2.b),.int .i64 r.2.i,.int .i64 r.2.h] [.sc (.v (.sl (O rI r.1)))]:=by
 unfold A3l at h
 refine A2v (σ:=⟨[(0,vc (.pb 99999999999 0))],[(99999999999,[aL (O r8 a0.b),aI a0.i,aI a0.h])],[]⟩) B4 F2o rfl rfl ?_
 simp only[cc515]
 try simp only[A,B,C,E,F,J]
 refine D8 (es:=O rI ([]:List Int)) rfl rfl ?_
 obtain⟨r1,h1,h⟩:=ob h
 try simp only[A,B,C,E,F,J]
 refine C3 (B9 _ _ _ h1) 99999999999 rfl rfl rfl ?_
 try simp only[A,B,C,E,F,J]
 refine F0j _ _ _ _ _ _ _ h _ ?_
 try simp only[A,B,C,E,F,J,U]
/- 33:spec_MakePicks -/
def cc518:ACode:=(.seq (.reg [(N,.mv 4 KN)]) (.seq (.reg [mv 5 0,mv 6 1,ca 7 83 [S 5,S 6],ca 8 110 [S 7],mv 4 8]) .ret))
theorem F15:B0 Q 33=L (cc518.strip,[4],9):=by kernel_rfl
theorem B6w(a0:List Int)(a1:Int)(r:(List Int))(h:A2w a0 a1=L r):FC Q 33 [.sc (.sl (O r8 a0)),.sc (.int .i64 a1)] [.sc (.v (.sl (O rI r)))]:=by
 unfold A2w at h
 refine D3 B4 F15 rfl ?_
 simp only[cc518,A,B,C,E,F,J]
 obtain⟨r1,h1,h⟩:=ob h
 try simp only[A,B,C,E,F,J]
 refine B6z (C2f _ _ _ h1) rfl rfl ?_
 obtain⟨r2,h2,h⟩:=ob h
 try simp only[A,B,C,E,F,J]
 refine C3 (B8b _ _ h2) 7 rfl rfl rfl ?_
 try simp only[A,B,C,E,F,J]
 cases h
 trivial
/- 37:impl_PicksOk -/
def C29:ACode:= .seq (.reg [(N,.keep [9,10,11] [] [])]) (.seq (.reg [bn 12 .lss 11 10]) (.seq (.cond (S 12) .skip (.exit 0)) (.seq (.block 1 (.seq (.reg [ia 13 9 11 1,ld 14 13,mv 4 14]) (.seq (.reg [mv 15 4,ca 16 114 [S 15,K 0,K 1000],nt 17 16]) (.cond (S 17) (.seq (.reg [(N,.mv 2 (KB H))]) .ret) .skip)))) (.reg [(N,.bin 18 .add (S 11) (K 1)),mv 11 18]))))
def C89:ACode:=(.seq (.reg [(N,.mv 2 (KB G))]) .ret)
def cc522:ACode:=(.seq (.reg [(N,.mv 2 (KB H))]) (.seq (.seq (.reg [mv 5 0,ln 6 5,ca 7 114 [S 6,K 1,K 48],nt 8 7]) (.cond (S 8) (.seq (.reg [(N,.mv 2 (KB H))]) .ret) .skip)) (.seq (.seq (.reg [mv 9 0,ln 10 9,(N,.mv 11 (K 0))]) (.block 0 (.loop C29))) C89)))
theorem F1c(a0:List Int):∀(n:Nat) (v3:Int) (r:Bool),X5 a0 n v3=L r→∀σ:St,σ.kept [9,10,11] [] []=⟨[(9,vc (aL (O rI a0))),(10,vc (aI (a0.length:Int))),(11,vc (aI v3))],[],[]⟩→go Q (.code (.loop C29):: [.blk 0,.code C89]) (Ret [2] [.sc (.v (.bool r))]) .normal (L σ):=by
 intro n
 induction n with
 | zero=>intro _ r h; cases h
 | succ n ih=>
  intro v3 r h σ hσ
  rw[X5] at h
  refine B8 ?_
  rcases ic h with ⟨h4,h⟩|⟨h4,h⟩
  ·obtain⟨x5,h5,h⟩:=ob h
   obtain⟨r6,h6,h⟩:=ob h
   try simp only[hσ,h4,h5,C29,A,B,C,E,F,J]
   refine A4 (G0 _ _ _ _ h6) rfl rfl (uf rfl) ?_
   rcases ic h with ⟨h7,h⟩|⟨h7,h⟩
   ·try simp only[h4,h5,h7,A,B,C,E,F,J]
    refine ih _ _ h _ ?_
    try simp only[h4,h5,h7,A,B,C,E,F,J,U]
   ·try simp only[h4,h5,h7,A,B,C,E,F,J]
    cases h
    trivial
  ·try simp only[hσ,h4,C29,C89,A,B,C,E,F,J]
   cases h
   trivial
theorem E8b:B0 Q 37=L (cc522.strip,[2],19):=by kernel_rfl
theorem A4f(a0:List Int)(r:Bool)(h:Q0 a0=L r):FC Q 37 [.sc (.sl (O rI a0))] [.sc (.v (.bool r))]:=by
 unfold Q0 at h
 refine D3 B4 E8b rfl ?_
 simp only[cc522,A,B,C,E,F,J]
 obtain⟨r1,h1,h⟩:=ob h
 try simp only[A,B,C,E,F,J]
 refine A4 (G0 _ _ _ _ h1) rfl rfl (uf rfl) ?_
 rcases ic h with ⟨h2,h⟩|⟨h2,h⟩
 ·try simp only[h2,A,B,C,E,F,J]
  refine F1c _ _ _ _ h _ ?_
  try simp only[h2,A,B,C,E,F,J,U]
 ·try simp only[h2,A,B,C,E,F,J]
  cases h
  trivial
/- 209:impl_Forecast_high -/
def cc525:ACode:=(.seq (.reg [bo 2 0,(N,.mv 4 (K 0))]) (.seq (.drw [o0 (fa 5 2 0),o0 (lw 6 5 2),o0 (mv 7 1),o0 (ca 8 210 [S 6,S 7]),(L [8,13],fa 9 2 2),(L [8,13],ld 10 9),(L [8],lw 11 2 3),(L [8],mv 12 1),o0 (ca 13 211 [S 11,S 12]),o0 (ia 14 10 13 3),o0 (fa 15 14 2),o0 (ld 16 15),o0 (bn 17 .add 8 16),o0 (mv 4 17)]) .ret))
theorem E8d:B0 Q 209=L (cc525.strip,[4],18):=by kernel_rfl
theorem B24(a0:XForecast)(a1 r:Int)(h:P3 a0 a1=L r):FC Q 209 [.ag (XForecast.row a0),.sc (.int .i64 a1)] [.sc (.v (.int .i64 r))]:=by
 unfold P3 at h
 refine D3 B4 E8d rfl ?_
 simp only[cc525,A,B,C,E,F,J]
 try simp only[A,B,C,E,F,J]
 refine B7 rfl rfl rfl ?_
 try simp only[A,B,C,E,F,J]
 refine C6 rfl ?_
 obtain⟨r1,h1,h⟩:=ob h
 try simp only[A,B,C,E,F,J]
 refine E6 (A9g _ _ _ h1) rfl rfl (uf rfl) ?_
 obtain⟨r2,h2,h⟩:=ob h
 try simp only[A,B,C,E,F,J]
 refine E6 (A7h _ _ _ h2) rfl rfl (uf rfl) ?_
 obtain⟨x3,h3,h⟩:=ob h
 try simp only[h3,A,B,C,E,F,J]
 cases h
 trivial
/- 115:impl_pickOf -/
def cc527:ACode:=(.seq (.reg [(N,.mv 4 (K 0))]) (.seq (.reg [mv 5 0,mv 6 1,mv 7 0,ln 8 7,(N,.bin 9 .sub (S 8) (K 1)),(N,.mm 10 H (S 6) (S 9)),ia 11 5 10 1,ld 12 11,mv 4 12]) .ret))
theorem F10:B0 Q 115=L (cc527.strip,[4],13):=by kernel_rfl
theorem A9a(a0:List Int)(a1 r:Int)(h:P6 a0 a1=L r):FC Q 115 [.sc (.sl (O rI a0)),.sc (.int .i64 a1)] [.sc (.v (.int .i64 r))]:=by
 unfold P6 at h
 refine D3 B4 F10 rfl ?_
 simp only[cc527,A,B,C,E,F,J]
 obtain⟨x1,h1,h⟩:=ob h
 try simp only[h1,A,B,C,E,F,J]
 cases h
 trivial
/- 118:impl_levelOn -/
def cc529:ACode:=(.seq (.reg [bo 3 0,(N,.mv 6 (K 0))]) (.seq (.drw [o0 (lw 9 3 3),o0 (mv 10 2),o0 (ca 11 119 [S 9,S 10]),(L [11],lw 12 3 3),(L [11],mv 13 2),o0 (ca 14 209 [S 12,S 13]),o0 (mv 7 11),o0 (mv 8 14)]) (.seq (.reg [mv 15 7,mv 16 8,mv 17 7,bn 18 .sub 16 17,mv 19 1,mv 20 2,(N,.bin 21 .quo (S 20) (K 60)),ca 22 115 [S 19,S 21],bn 23 .mul 18 22,(N,.bin 24 .quo (S 23) (K 1000)),bn 25 .add 15 24,mv 6 25]) .ret)))
theorem F0p:B0 Q 118=L (cc529.strip,[6],26):=by kernel_rfl
theorem A54(a0:XForecast)(a1:List Int)(a2 r:Int)(h:L4 a0 a1 a2=L r):FC Q 118 [.ag (XForecast.row a0),.sc (.sl (O rI a1)),.sc (.int .i64 a2)] [.sc (.v (.int .i64 r))]:=by
 unfold L4 at h
 refine D3 B4 F0p rfl ?_
 simp only[cc529,A,B,C,E,F,J]
 try simp only[A,B,C,E,F,J]
 refine B7 rfl rfl rfl ?_
 try simp only[A,B,C,E,F,J]
 refine C6 rfl ?_
 obtain⟨r1,h1,h⟩:=ob h
 try simp only[A,B,C,E,F,J]
 refine E6 (A5g _ _ _ h1) rfl rfl (uf rfl) ?_
 obtain⟨r2,h2,h⟩:=ob h
 try simp only[A,B,C,E,F,J]
 refine E6 (B24 _ _ _ h2) rfl rfl (uf rfl) ?_
 obtain⟨r3,h3,h⟩:=ob h
 try simp only[A,B,C,E,F,J]
 refine A4 (A9a _ _ _ h3) rfl rfl (uf rfl) ?_
 try simp only[A,B,C,E,F,J]
 cases h
 trivial
/- 111:impl_ClearanceOn -/
def C3y:ACode:= .seq (.reg [(N,.keep [2,3,4,26] [3,4] [])]) (.cond (S 26) (.seq (.reg [(N,.mv 6 (K 0)),(N,.mv 7 (KB H))]) .ret) .skip)
def C4a:ACode:= .seq (.reg [(N,.keep [2,3,4,8,9] [3,4] [])]) (.seq (.seq (.reg [mv 35 9,fa 36 4 4,ld 37 36,bn 38 .leq 35 37]) (.cond (S 38) .skip (.exit 0))) (.seq (.block 1 (.reg [mv 41 8,fa 42 3 0,lw 43 42 3,mv 44 2,mv 45 9,ca 46 118 [S 43,S 44,S 45],(N,.mm 47 H (S 41) (S 46)),mv 8 47])) (.reg [mv 39 9,(N,.bin 40 .add (S 39) (K 1)),mv 9 40])))
def D0c:ACode:=(.seq (.drw [(L [59],mv 48 8),o0 (fa 49 3 3),o0 (lw 50 49 2),o0 (fa 51 4 1),o0 (ld 52 51),o0 (fa 53 3 5),o0 (ld 54 53),o0 (fa 55 4 0),o0 (ld 56 55),o0 (ia 57 54 56 6),o0 (lw 58 57 6),o0 (ca 59 206 [S 50,S 52,S 58]),o0 (bn 60 .sub 48 59),o0 (mv 6 60),o0 (N,.mv 7 (KB G))]) .ret)
def C95:ACode:=(.seq (.reg [fa 27 3 0,lw 28 27 3,mv 29 2,fa 30 4 3,ld 31 30,ca 32 118 [S 28,S 29,S 31],mv 8 32]) (.seq (.seq (.reg [fa 33 4 3,ld 34 33,mv 9 34]) (.block 0 (.loop C4a))) D0c))
def cc535:ACode:=(.seq (.reg [bo 3 0,bo 4 1,(N,.mv 6 (K 0)),(N,.mv 7 (KB H))]) (.seq (.seq (.reg [lw 10 3 12,ca 11 91 [S 10],nt 12 11,mv 13 12,(L (13,H),.mv 14 (S 2)),(L (13,H),.call 15 37 [(S 14)]),(L (13,H),.un 16 .not (S 15)),po 17 13 16,mv 18 17,(L (18,H),.faddr 19 (S 3) 3),(L (18,H),.load 20 (S 19) G 2),(L (18,H),.faddr 21 (S 3) 5),(L (18,H),.load 22 (S 21) H 1),(L (18,H),.load 23 (S 4) G 5),(L (18,H),.call 24 205 [(S 20),(S 22),(S 23)]),(L (18,H),.un 25 .not (S 24)),po 26 18 25]) C3y) C95))
theorem F3a(a2:List Int)(a0:XHarbour)(a1:XPassage):∀(n:Nat) (v10 v11:Int) (r:Int × Bool),P4 a2 a0 a1 n v10 v11=L r→∀σ:St,σ.kept [2,3,4,8,9] [3,4] []=⟨[(2,vc (aL (O rI a2))),(3,vc (.pb 3 0)),(4,vc (.pb 4 0)),(8,vc (aI v10)),(9,vc (aI v11))],[(3,(dm a0.row)),(4,(dm a1.row))],[]⟩→go Q (.code (.loop C4a):: [.blk 0,.code D0c]) (Ret [6,7] [.sc (.v (.int .i64 r.1)),.sc (.v (.bool r.2))]) .normal (L σ):=by
 intro n
 induction n with
 | zero=>intro _ _ r h; cases h
 | succ n ih=>
  intro v10 v11 r h σ hσ
  rw[P4] at h
  refine B8 ?_
  rcases ic h with ⟨h12,h⟩|⟨h12,h⟩
  ·obtain⟨r13,h13,h⟩:=ob h
   try simp only[hσ,h12,C4a,A,B,C,E,F,J]
   refine A4 (A54 _ _ _ _ h13) rfl rfl (uf rfl) ?_
   try simp only[h12,A,B,C,E,F,J]
   refine ih _ _ _ h _ ?_
   try simp only[h12,A,B,C,E,F,J,U]
  ·try simp only[hσ,h12,C4a,D0c,A,B,C,E,F,J]
   refine C6 rfl ?_
   obtain⟨x14,h14,h⟩:=ob h
   obtain⟨r15,h15,h⟩:=ob h
   try simp only[h12,h14,A,B,C,E,F,J]
   refine E6 (A7m _ _ _ _ h15) rfl rfl (uf rfl) ?_
   try simp only[h12,h14,A,B,C,E,F,J]
   cases h
   trivial
theorem C9s(a2:List Int)(a0:XHarbour)(a1:XPassage)(v6:Bool)(r:Int × Bool)(h:U6 a2 a0 a1 v6=L r)(σ:St)(hσ:σ.kept [2,3,4,26] [3,4] []=⟨[(2,vc (aL (O rI a2))),(3,vc (.pb 3 0)),(4,vc (.pb 4 0)),(26,vc (aB v6))],[(3,(dm a0.row)),(4,(dm a1.row))],[]⟩):go Q (.code C3y:: [.code C95]) (Ret [6,7] [.sc (.v (.int .i64 r.1)),.sc (.v (.bool r.2))]) .normal (L σ):=by
 unfold U6 at h
 rcases ic h with ⟨h7,h⟩|⟨h7,h⟩
 ·try simp only[hσ,h7,C3y,A,B,C,E,F,J]
  cases h
  trivial
 ·obtain⟨r9,h9,h⟩:=ob h
  try simp only[hσ,h7,C3y,C95,A,B,C,E,F,J]
  refine A4 (A54 _ _ _ _ h9) rfl rfl (uf rfl) ?_
  try simp only[h7,A,B,C,E,F,J]
  refine F3a _ _ _ _ _ _ _ h _ ?_
  try simp only[h7,A,B,C,E,F,J,U]
theorem E8s:B0 Q 111=L (cc535.strip,[6,7],61):=by kernel_rfl
theorem A50(a0:XHarbour)(a1:XPassage)(a2:List Int)(r:Int × Bool)(h:F3 a0 a1 a2=L r):FC Q 111 [.ag (X a0),.ag (I a1),.sc (.sl (O rI a2))] [.sc (.v (.int .i64 r.1)),.sc (.v (.bool r.2))]:=by
 unfold F3 at h
 refine D3 B4 E8s rfl ?_
 simp only[cc535,A,B,C,E,F,J]
 try simp only[A,B,C,E,F,J]
 refine B7 rfl rfl rfl ?_
 try simp only[A,B,C,E,F,J]
 refine B7 rfl rfl rfl ?_
 obtain⟨r1,h1,h⟩:=ob h
 try simp only[A,B,C,E,F,J]
 refine A4 (A65 _ _ h1) rfl rfl (uf rfl) ?_
 rcases ic h with ⟨h2,h⟩|⟨h2,h⟩
 ·obtain⟨r3,h3,h⟩:=ob h
  try simp only[h2,A,B,C,E,F,J]
  refine A4 (A4f _ _ h3) rfl rfl (uf rfl) ?_
  rcases ic h with ⟨h4,h⟩|⟨h4,h⟩
  ·obtain⟨r5,h5,h⟩:=ob h
   try simp only[h2,h4,A,B,C,E,F,J]
   refine A4 (A94 _ _ _ _ h5) rfl rfl (uf rfl) ?_
   try simp only[h2,h4,A,B,C,E,F,J]
   refine C9s _ _ _ _ _ h _ ?_
   try simp only[h2,h4,A,B,C,E,F,J,U]
  ·try simp only[h2,h4,A,B,C,E,F,J]
   refine C9s _ _ _ _ _ h _ ?_
   try simp only[h2,h4,A,B,C,E,F,J,U]
 ·try simp only[h2,A,B,C,E,F,J]
  refine C9s _ _ _ _ _ h _ ?_
  try simp only[h2,A,B,C,E,F,J,U]
/- 34:impl_LeastClearance -/
def C3u:ACode:= .seq (.reg [(N,.keep [2,3,8,9,14,16,17,18,23,24,25,44] [3] [])]) (.cond (S 44) (.reg [mv 45 14,mv 8 45,(N,.mv 9 (KB G))]) .skip)
def C2o:ACode:=(.reg [(N,.bin 46 .add (S 25) (K 1)),mv 25 46])
def B5b:ACode:= .seq (.reg [(N,.keep [2,3,8,9,16,17,18,23,24,25] [3] [])]) (.seq (.reg [bn 26 .lss 25 24]) (.seq (.cond (S 26) .skip (.exit 2)) (.seq (.block 3 (.seq (.reg [ia 27 23 25 5,lw 28 27 5,(N,.alloc 13 [aI 0,aI 0,aB H,aI 0,aI 0]),so 13 28 5]) (.seq (.reg [lw 30 3 12,lw 31 13 5,mv 32 2,ca 33 111 [S 30,S 31,S 32],mv 29 33,xt 34 29 0,xt 35 29 1,mv 14 34,mv 15 35]) (.seq (.seq (.reg [mv 36 15,nt 37 36]) (.cond (S 37) (.seq (.reg [(N,.mv 6 (K 0)),(N,.mv 7 (KB H))]) .ret) .skip)) (.seq (.reg [mv 38 9,nt 39 38,mv 40 39,(L (40,H),.mv 41 (S 14)),(L (40,H),.mv 42 (S 8)),(L (40,H),.bin 43 .lss (S 41) (S 42)),po 44 40 43]) C3u))))) C2o)))
def B77:ACode:=(.reg [(N,.bin 47 .add (S 18) (K 1)),mv 18 47])
def B1g:ACode:= .seq (.reg [(N,.keep [2,3,8,9,16,17,18] [3] [])]) (.seq (.reg [bn 19 .lss 18 17]) (.seq (.cond (S 19) .skip (.exit 0)) (.seq (.block 1 (.seq (.reg [ia 20 16 18 4,lw 21 20 4,(N,.alloc 11 [aI 0,aI 0,aI 0,.nil]),so 11 21 4]) (.seq (.reg [fa 22 11 3,ld 23 22,ln 24 23,(N,.mv 25 (K 0))]) (.block 2 (.loop B5b))))) B77)))
def B2z:ACode:=(.seq (.reg [mv 48 8,mv 49 9,mv 6 48,mv 7 49]) .ret)
def cc545:ACode:=(.seq (.reg [bo 3 0,(N,.mv 6 (K 0)),(N,.mv 7 (KB H))]) (.seq (.reg [(N,.mv 8 (K 0)),(N,.mv 9 (KB H))]) (.seq (.seq (.reg [mv 16 1,ln 17 16,(N,.mv 18 (K 0))]) (.block 0 (.loop B1g))) B2z)))
theorem D9a(a2:List Int)(v6:Int)(r11:Int × Bool)(a1:List XOption)(v3:Int)(x5:XOption)(v8:Int)(a0:XHarbour)(U8:Int→Bool→Int→Option (Int × Bool))(A5r:∀(v6:Int) (v7:Bool) (v8:Int) zr,U8 v6 v7 v8=L zr→∀σ:St,σ.kept [2,3,8,9,16,17,18,23,24,25] [3] []=⟨[(2,vc (aL (O rI a2))),(3,vc (.pb 3 0)),(8,vc (aI v6)),(9,vc (aB v7)),(16,vc (aL (O P a1))),(17,vc (aI (a1.length:Int))),(18,vc (aI v3)),(23,vc (aL (O I x5.Passages))),(24,vc (aI (x5.Passages.length:Int))),(25,vc (aI v8))],[(3,(dm a0.row))],[]⟩→go Q (.code (.loop B5b):: [.blk 2,.blk 1,.code B77,.code (.loop B1g),.blk 0,.code B2z]) (Ret [6,7] [.sc (.v (.int .i64 zr.1)),.sc (.v (.bool zr.2))]) .normal (L σ))(v14 v15:Bool)(r:Int × Bool)(h:O9 a2 v6 r11 a1 v3 x5 v8 a0 U8 v14 v15=L r)(σ:St)(hσ:σ.kept [2,3,8,9,14,16,17,18,23,24,25,44] [3] []=⟨[(2,vc (aL (O rI a2))),(3,vc (.pb 3 0)),(8,vc (aI v6)),(9,vc (aB v14)),(14,vc (aI r11.1)),(16,vc (aL (O P a1))),(17,vc (aI (a1.length:Int))),(18,vc (aI v3)),(23,vc (aL (O I x5.Passages))),(24,vc (aI (x5.Passages.length:Int))),(25,vc (aI v8)),(44,vc (aB v15))],[(3,(dm a0.row))],[]⟩):go Q (.code C3u:: [.blk 3,.code C2o,.code (.loop B5b),.blk 2,.blk 1,.code B77,.code (.loop B1g),.blk 0,.code B2z]) (Ret [6,7] [.sc (.v (.int .i64 r.1)),.sc (.v (.bool r.2))]) .normal (L σ):=by
 unfold O9 at h
 rcases ic h with ⟨h16,h⟩|⟨h16,h⟩
 ·try simp only[hσ,h16,C3u,C2o,A,B,C,E,F,J]
  refine A5r _ _ _ _ h _ ?_
  try simp only[h16,A,B,C,E,F,J,U]
 ·try simp only[hσ,h16,C3u,C2o,A,B,C,E,F,J]
  refine A5r _ _ _ _ h _ ?_
  try simp only[h16,A,B,C,E,F,J,U]
theorem E9l(a2:List Int)(a1:List XOption)(v3:Int)(x5:XOption)(a0:XHarbour)(J6:Int→Bool→Int→Option (Int × Bool))(B0x:∀(v1:Int) (v2:Bool) (v3:Int) zr,J6 v1 v2 v3=L zr→∀σ:St,σ.kept [2,3,8,9,16,17,18] [3] []=⟨[(2,vc (aL (O rI a2))),(3,vc (.pb 3 0)),(8,vc (aI v1)),(9,vc (aB v2)),(16,vc (aL (O P a1))),(17,vc (aI (a1.length:Int))),(18,vc (aI v3))],[(3,(dm a0.row))],[]⟩→go Q (.code (.loop B1g):: [.blk 0,.code B2z]) (Ret [6,7] [.sc (.v (.int .i64 zr.1)),.sc (.v (.bool zr.2))]) .normal (L σ)):∀(n:Nat) (v6:Int) (v7:Bool) (v8:Int) (r:Int × Bool),H0 a2 a1 v3 x5 a0 J6 n v6 v7 v8=L r→∀σ:St,σ.kept [2,3,8,9,16,17,18,23,24,25] [3] []=⟨[(2,vc (aL (O rI a2))),(3,vc (.pb 3 0)),(8,vc (aI v6)),(9,vc (aB v7)),(16,vc (aL (O P a1))),(17,vc (aI (a1.length:Int))),(18,vc (aI v3)),(23,vc (aL (O I x5.Passages))),(24,vc (aI (x5.Passages.length:Int))),(25,vc (aI v8))],[(3,(dm a0.row))],[]⟩→go Q (.code (.loop B5b):: [.blk 2,.blk 1,.code B77,.code (.loop B1g),.blk 0,.code B2z]) (Ret [6,7] [.sc (.v (.int .i64 r.1)),.sc (.v (.bool r.2))]) .normal (L σ):=by
 intro n
 induction n with
 | zero=>intro _ _ _ r h; cases h
 | succ n ih=>
  intro v6 v7 v8 r h σ hσ
  rw[H0] at h
  refine B8 ?_
  rcases ic h with ⟨h9,h⟩|⟨h9,h⟩
  ·obtain⟨x10,h10,h⟩:=ob h
   try simp only[hσ,h9,h10,B5b,A,B,C,E,F,J]
   refine E0 rfl rfl ?_
   obtain⟨r11,h11,h⟩:=ob h
   try simp only[h9,h10,A,B,C,E,F,J]
   refine A4 (A50 _ _ _ _ h11) rfl rfl (uf rfl) ?_
   rcases ic h with ⟨h12,h⟩|⟨h12,h⟩
   ·rcases ic h with ⟨h13,h⟩|⟨h13,h⟩
    ·try simp only[h9,h10,h12,h13,A,B,C,E,F,J]
     refine D9a _ _ _ _ _ _ _ _ (H0 a2 a1 v3 x5 a0 J6 n) ih _ _ _ h _ ?_
     try simp only[h9,h10,h12,h13,A,B,C,E,F,J,U]
    ·try simp only[h9,h10,h12,h13,A,B,C,E,F,J]
     refine D9a _ _ _ _ _ _ _ _ (H0 a2 a1 v3 x5 a0 J6 n) ih _ _ _ h _ ?_
     try simp only[h9,h10,h12,h13,A,B,C,E,F,J,U]
   ·try simp only[h9,h10,h12,A,B,C,E,F,J]
    cases h
    trivial
  ·try simp only[hσ,h9,B5b,B77,A,B,C,E,F,J]
   refine B0x _ _ _ _ h _ ?_
   try simp only[h9,A,B,C,E,F,J,U]
theorem F3l(a2:List Int)(a1:List XOption)(a0:XHarbour):∀(n:Nat) (v1:Int) (v2:Bool) (v3:Int) (r:Int × Bool),I4 a2 a1 a0 n v1 v2 v3=L r→∀σ:St,σ.kept [2,3,8,9,16,17,18] [3] []=⟨[(2,vc (aL (O rI a2))),(3,vc (.pb 3 0)),(8,vc (aI v1)),(9,vc (aB v2)),(16,vc (aL (O P a1))),(17,vc (aI (a1.length:Int))),(18,vc (aI v3))],[(3,(dm a0.row))],[]⟩→go Q (.code (.loop B1g):: [.blk 0,.code B2z]) (Ret [6,7] [.sc (.v (.int .i64 r.1)),.sc (.v (.bool r.2))]) .normal (L σ):=by
 intro n
 induction n with
 | zero=>intro _ _ _ r h; cases h
 | succ n ih=>
  intro v1 v2 v3 r h σ hσ
  rw[I4] at h
  refine B8 ?_
  rcases ic h with ⟨h4,h⟩|⟨h4,h⟩
  ·obtain⟨x5,h5,h⟩:=ob h
   try simp only[hσ,h4,h5,B1g,A,B,C,E,F,J]
   refine E0 rfl rfl ?_
   try simp only[h4,h5,A,B,C,E,F,J]
   refine E9l _ _ _ _ _ (I4 a2 a1 a0 n) ih _ _ _ _ _ h _ ?_
   try simp only[h4,h5,A,B,C,E,F,J,U]
  ·try simp only[hσ,h4,B1g,B2z,A,B,C,E,F,J]
   cases h
   trivial
theorem F36:B0 Q 34=L (cc545.strip,[6,7],50):=by kernel_rfl
theorem A7e(a0:XHarbour)(a1:List XOption)(a2:List Int)(r:Int × Bool)(h:Y1 a0 a1 a2=L r):FC Q 34 [.ag (X a0),.sc (.sl (O P a1)),.sc (.sl (O rI a2))] [.sc (.v (.int .i64 r.1)),.sc (.v (.bool r.2))]:=by
 unfold Y1 at h
 refine D3 B4 F36 rfl ?_
 simp only[cc545,A,B,C,E,F,J]
 try simp only[A,B,C,E,F,J]
 refine B7 rfl rfl rfl ?_
 try simp only[A,B,C,E,F,J]
 refine F3l _ _ _ _ _ _ _ _ h _ ?_
 try simp only[A,B,C,E,F,J,U]
/- 113:impl_sailOn -/
def C3n:ACode:= .seq (.reg [(N,.keep [1,3,4,6,10] [4,6] [])]) (.seq (.seq (.reg [mv 26 10,fa 27 6 4,ld 28 27,bn 29 .leq 26 28]) (.cond (S 29) .skip (.exit 0))) (.seq (.block 1 (.seq (.drw [o0 (fa 32 4 0),o0 (lw 33 32 3),o0 (mv 34 3),o0 (mv 35 10),o0 (ca 36 118 [S 33,S 34,S 35]),(L [36],fa 37 4 3),(L [36],lw 38 37 2),(L [36],fa 39 6 1),(L [36],ld 40 39),(L [36],fa 41 4 5),(L [36],ld 42 41),(L [36],fa 43 6 0),(L [36],ld 44 43),(L [36],ia 45 42 44 6),(L [36],lw 46 45 6),o0 (ca 47 206 [S 38,S 40,S 46]),o0 (bn 48 .lss 36 47)]) (.cond (S 48) (.pan [mv 49 1,mv 50 10,(N,.build 51 [aI 0,aI 0] [(0,1,(S 49)),(1,1,(S 50))]),(N,.mkif 52 179 (S 51))] (S 52)) .skip))) (.reg [mv 30 10,(N,.bin 31 .add (S 30) (K 1)),mv 10 31])))
def cc551:ACode:=(.seq (.reg [bo 4 0,bo 6 2]) (.seq (.seq (.reg [lw 12 4 12,lw 13 6 5,mv 14 3,ca 15 111 [S 12,S 13,S 14],mv 11 15,xt 16 11 0,xt 17 11 1,mv 8 16,mv 9 17]) (.seq (.reg [mv 18 9,nt 19 18,mv 20 19,(L (20,H),.mv 21 (S 8)),(L (20,H),.bin 22 .geq (S 21) (K 0)),po 23 20 22]) (.cond (S 23) .ret .skip))) (.seq (.reg [fa 24 6 3,ld 25 24,mv 10 25]) (.block 0 (.loop C3n)))))
theorem E7n(a1:Int)(a3:List Int)(a0:XHarbour)(a2:XPassage):∀(n:Nat) (v4:Int) (r:Option Xgrounded),A5k a1 a3 a0 a2 n v4=L r→∀σ:St,σ.kept [1,3,4,6,10] [4,6] []=⟨[(1,vc (aI a1)),(3,vc (aL (O rI a3))),(4,vc (.pb 4 0)),(6,vc (.pb 6 0)),(10,vc (aI v4))],[(4,(dm a0.row)),(6,(dm a2.row))],[]⟩→go Q (.code (.loop C3n):: [.blk 0]) (D1r [] [] (r.map B32)) .normal (L σ):=by
 intro n
 induction n with
 | zero=>intro _ r h; cases h
 | succ n ih=>
  intro v4 r h σ hσ
  rw[A5k] at h
  refine B8 ?_
  rcases ic h with ⟨h5,h⟩|⟨h5,h⟩
  ·try simp only[hσ,h5,C3n,A,B,C,E,F,J]
   refine C6 rfl ?_
   obtain⟨r6,h6,h⟩:=ob h
   try simp only[h5,A,B,C,E,F,J]
   refine E6 (A54 _ _ _ _ h6) rfl rfl (uf rfl) ?_
   obtain⟨x7,h7,h⟩:=ob h
   obtain⟨r9,h9,h⟩:=ob h
   try simp only[h5,h7,A,B,C,E,F,J]
   refine E6 (A7m _ _ _ _ h9) rfl rfl (uf rfl) ?_
   rcases ic h with ⟨h10,h⟩|⟨h10,h⟩
   ·try simp only[h5,h7,h10,A,B,C,E,F,J]
    refine E3e rfl rfl rfl ?_
    try simp only[h5,h7,h10,A,B,C,E,F,J]
    cases h
    exact rfl
   ·try simp only[h5,h7,h10,A,B,C,E,F,J]
    refine ih _ _ h _ ?_
    try simp only[h5,h7,h10,A,B,C,E,F,J,U]
  ·try simp only[hσ,h5,C3n,A,B,C,E,F,J]
   cases h
   trivial
theorem E9a:B0 Q 113=L (cc551.strip,[],53):=by kernel_rfl
theorem B3e(a0:XHarbour)(a1:Int)(a2:XPassage)(a3:List Int)(r:Option Xgrounded)(h:A42 a0 a1 a2 a3=L r):FCq Q 113 [.ag (X a0),.sc (.int .i64 a1),.ag (I a2),.sc (.sl (O rI a3))] [] (r.map B32):=by
 unfold A42 at h
 refine E63 (σ:=⟨[(0,va (dm a0.row)),(1,vc (aI a1)),(2,va (dm a2.row)),(3,vc (aL (O rI a3)))],[],[]⟩) B4 E9a rfl rfl ?_
 simp only[cc551]
 try simp only[A,B,C,E,F,J]
 refine B7 rfl rfl rfl ?_
 try simp only[A,B,C,E,F,J]
 refine B7 rfl rfl rfl ?_
 obtain⟨r1,h1,h⟩:=ob h
 try simp only[A,B,C,E,F,J]
 refine A4 (A50 _ _ _ _ h1) rfl rfl (uf rfl) ?_
 rcases ic h with ⟨h2,h⟩|⟨h2,h⟩
 ·rcases ic h with ⟨h3,h⟩|⟨h3,h⟩
  ·try simp only[h2,h3,A,B,C,E,F,J]
   cases h
   trivial
  ·try simp only[h2,h3,A,B,C,E,F,J]
   refine E7n _ _ _ _ _ _ _ h _ ?_
   try simp only[h2,h3,A,B,C,E,F,J,U]
 ·try simp only[h2,A,B,C,E,F,J]
  cases h
  trivial
/- 35:impl_FirstGrounding -/
def C3p:ACode:= .seq (.reg [(N,.keep [2,3,6,7,8,13,14,15,21,22,23] [99999999999,100000000000] [])]) (.seq (.reg [bn 24 .lss 23 22]) (.seq (.cond (S 24) .skip (.exit 2)) (.seq (.block 3 (.seq (.reg [ia 25 21 23 5,lw 26 25 5,(N,.alloc 11 [aI 0,aI 0,aB H,aI 0,aI 0]),so 11 26 5]) (.cal [lw 27 3 12,mv 28 8,lw 29 11 5,mv 30 2] 31 113 [(S 27),(S 28),(S 29),(S 30)]))) (.reg [(N,.bin 32 .add (S 23) (K 1)),mv 23 32]))))
def D19:ACode:=(.reg [(N,.bin 33 .add (S 15) (K 1)),mv 15 33])
def B5n:ACode:= .seq (.reg [(N,.keep [2,3,6,7,13,14,15] [99999999999,100000000000] [])]) (.seq (.reg [bn 16 .lss 15 14]) (.seq (.cond (S 16) .skip (.exit 0)) (.seq (.block 1 (.seq (.reg [mv 17 15,ia 18 13 15 4,lw 19 18 4,(N,.alloc 9 [aI 0,aI 0,aI 0,.nil]),mv 8 17,so 9 19 4]) (.seq (.reg [fa 20 9 3,ld 21 20,ln 22 21,(N,.mv 23 (K 0))]) (.block 2 (.loop C3p))))) D19)))
def B8t:ACode:=(.seq (.reg [(N,.store (S 6) (K (-1)) 1),(N,.store (S 7) (K (-1)) 1)]) .ret)
def cc558:ACode:=(.seq (.seq (.reg [mv 13 1,ln 14 13,(N,.mv 15 (K 0))]) (.block 0 (.loop B5n))) B8t)
def cc559:ACode:=(.reg [bo 3 0,(N,.alloc 6 [aI 0]),(N,.alloc 7 [aI 0]),(N,.frzb 3),(N,.keep [1,2,3,6,7] [6,7] [])])
theorem F1u(a2:List Int)(a0:XHarbour)(v1:Int)(a1:List XOption)(x3:XOption)(U7:Int→Option (Int × Int))(B0r:∀(v1:Int) zr,U7 v1=L zr→∀σ:St,σ.kept [2,3,6,7,13,14,15] [99999999999,100000000000] []=⟨[(2,vc (aL (O rI a2))),(3,vc (.dat (.pd a0.row))),(6,vc (.pb 99999999999 0)),(7,vc (.pb 100000000000 0)),(13,vc (aL (O P a1))),(14,vc (aI (a1.length:Int))),(15,vc (aI v1))],[(99999999999,[aI (0:Int)]),(100000000000,[aI (0:Int)])],[]⟩→go Q (.code (.loop B5n):: [.blk 0,.code B8t]) (C5z 6 7 179 zr) .normal (L σ)):∀(n:Nat) (v4:Int) (r:Int × Int),M6 a2 a0 v1 a1 x3 U7 n v4=L r→∀σ:St,σ.kept [2,3,6,7,8,13,14,15,21,22,23] [99999999999,100000000000] []=⟨[(2,vc (aL (O rI a2))),(3,vc (.dat (.pd a0.row))),(6,vc (.pb 99999999999 0)),(7,vc (.pb 100000000000 0)),(8,vc (aI v1)),(13,vc (aL (O P a1))),(14,vc (aI (a1.length:Int))),(15,vc (aI v1)),(21,vc (aL (O I x3.Passages))),(22,vc (aI (x3.Passages.length:Int))),(23,vc (aI v4))],[(99999999999,[aI (0:Int)]),(100000000000,[aI (0:Int)])],[]⟩→go Q (.code (.loop C3p):: [.blk 2,.blk 1,.code D19,.code (.loop B5n),.blk 0,.code B8t]) (C5z 6 7 179 r) .normal (L σ):=by
 intro n
 induction n with
 | zero=>intro _ r h; cases h
 | succ n ih=>
  intro v4 r h σ hσ
  rw[M6] at h
  refine B8 ?_
  rcases ic h with ⟨h5,h⟩|⟨h5,h⟩
  ·obtain⟨x6,h6,h⟩:=ob h
   try simp only[hσ,h5,h6,C3p,A,B,C,E,F,J]
   refine E0 rfl rfl ?_
   obtain⟨r7,h7,h⟩:=ob h
   rcases ic h with ⟨h8,h⟩|⟨h8,h⟩
   ·obtain⟨y9,hy9,h⟩:=ob h
    try simp only[h6,A,B,C,E,F,J]
    refine E2a (pd:= .ifs 179 [.int .i64 y9.option,.int .i64 y9.minute]) (FCq.some (B3e _ _ _ _ _ h7) (by rw[hy9]; rfl)) rfl ?_
    try simp only[h6,A,B,C,E,F,J]
    cases h
    exact⟨rfl,rfl,_,_,rfl,rfl,rfl⟩
   ·have hn10:=D0j h8
    try simp only[h5,h6,A,B,C,E,F,J]
    refine B5w ?_
    try simp only[h5,h6,A,B,C,E,F,J]
    refine A4 (FCq.none (B3e _ _ _ _ _ h7) (by rw[hn10]; rfl)) rfl rfl (uf rfl) ?_
    try simp only[h5,h6,A,B,C,E,F,J]
    refine ih _ _ h _ ?_
    try simp only[h5,h6,A,B,C,E,F,J,U]
  ·try simp only[hσ,h5,C3p,D19,A,B,C,E,F,J]
   refine B0r _ _ h _ ?_
   try simp only[h5,A,B,C,E,F,J,U]
theorem F4w(a2:List Int)(a0:XHarbour)(a1:List XOption):∀(n:Nat) (v1:Int) (r:Int × Int),I5 a2 a0 a1 n v1=L r→∀σ:St,σ.kept [2,3,6,7,13,14,15] [99999999999,100000000000] []=⟨[(2,vc (aL (O rI a2))),(3,vc (.dat (.pd a0.row))),(6,vc (.pb 99999999999 0)),(7,vc (.pb 100000000000 0)),(13,vc (aL (O P a1))),(14,vc (aI (a1.length:Int))),(15,vc (aI v1))],[(99999999999,[aI (0:Int)]),(100000000000,[aI (0:Int)])],[]⟩→go Q (.code (.loop B5n):: [.blk 0,.code B8t]) (C5z 6 7 179 r) .normal (L σ):=by
 intro n
 induction n with
 | zero=>intro _ r h; cases h
 | succ n ih=>
  intro v1 r h σ hσ
  rw[I5] at h
  refine B8 ?_
  rcases ic h with ⟨h2,h⟩|⟨h2,h⟩
  ·obtain⟨x3,h3,h⟩:=ob h
   try simp only[hσ,h2,h3,B5n,A,B,C,E,F,J]
   refine E0 rfl rfl ?_
   try simp only[h2,h3,A,B,C,E,F,J]
   refine F1u _ _ _ _ _ (I5 a2 a0 a1 n) ih _ _ _ h _ ?_
   try simp only[h2,h3,A,B,C,E,F,J,U]
  ·try simp only[hσ,h2,B5n,B8t,A,B,C,E,F,J]
   cases h
   exact⟨rfl,rfl,_,_,rfl,rfl,rfl,rfl⟩
theorem E76:B8g Q 35 112 12 6 7=L (cc559.strip,cc558.strip,34):=by kernel_rfl
theorem B2g(a0:XHarbour)(a1:List XOption)(a2:List Int)(r:Int × Int)(h:A1w a0 a1 a2=L r):FC Q 35 [.ag (X a0),.sc (.sl (O P a1)),.sc (.sl (O rI a2))] [.sc (.v (.int .i64 r.1)),.sc (.v (.int .i64 r.2))]:=by
 unfold A1w at h
 refine F12 (ti:=3) (T:=179) (σ:=⟨[(0,va (dm a0.row)),(1,vc (aL (O P a1))),(2,vc (aL (O rI a2)))],[],[]⟩) B4 (by kernel_rfl) E76 rfl rfl (by kernel_rfl) (by decide) rfl rfl C6w C5s rfl ?_
 simp only[cc559]
 try simp only[A,B,C,E,F,J]
 refine B7 rfl rfl rfl ?_
 try simp only[A,B,C,E,F,J]
 refine E0 rfl rfl ?_
 try simp only[A,B,C,E,F,J]
 refine E0 rfl rfl ?_
 try simp only[A,B,C,E,F,J]
 refine D7a rfl rfl ?_
 try simp only[A,B,C,E,F,J]
 refine⟨rfl,rfl,rfl,rfl,rfl,rfl,?_⟩
 show go Q [.code cc558] _ .normal (L ⟨[(1,vc (aL (O P a1))),(2,vc (aL (O rI a2))),(3,vc (.dat (.pd a0.row))),(6,vc (.pb 99999999999 0)),(7,vc (.pb 100000000000 0))],[(99999999999,[aI (0:Int)]),(100000000000,[aI (0:Int)])],[]⟩)
 simp only[cc558]
 try simp only[A,B,C,E,F,J]
 refine F4w _ _ _ _ _ _ h _ ?_
 try simp only[A,B,C,E,F,J,U]
/- 36:impl_HoldsOn -/
def C4g:ACode:= .seq (.reg [(N,.keep [2,3,13,14,15,20,21,22] [3] [])]) (.seq (.reg [bn 23 .lss 22 21]) (.seq (.cond (S 23) .skip (.exit 2)) (.seq (.block 3 (.seq (.reg [ia 24 20 22 5,lw 25 24 5,(N,.alloc 10 [aI 0,aI 0,aB H,aI 0,aI 0]),so 10 25 5]) (.seq (.reg [lw 27 3 12,lw 28 10 5,mv 29 2,ca 30 111 [S 27,S 28,S 29],mv 26 30,xt 31 26 0,xt 32 26 1,mv 11 31,mv 12 32]) (.seq (.reg [mv 33 12,nt 34 33,mv 35 34,(L (35,H),.mv 36 (S 11)),(L (35,H),.bin 37 .lss (S 36) (K 0)),po 38 35 37]) (.cond (S 38) (.seq (.reg [(N,.mv 6 (KB H))]) .ret) .skip))))) (.reg [(N,.bin 39 .add (S 22) (K 1)),mv 22 39]))))
def C9l:ACode:=(.reg [(N,.bin 40 .add (S 15) (K 1)),mv 15 40])
def B5e:ACode:= .seq (.reg [(N,.keep [2,3,13,14,15] [3] [])]) (.seq (.reg [bn 16 .lss 15 14]) (.seq (.cond (S 16) .skip (.exit 0)) (.seq (.block 1 (.seq (.reg [ia 17 13 15 4,lw 18 17 4,(N,.alloc 8 [aI 0,aI 0,aI 0,.nil]),so 8 18 4]) (.seq (.reg [fa 19 8 3,ld 20 19,ln 21 20,(N,.mv 22 (K 0))]) (.block 2 (.loop C4g))))) C9l)))
def B8n:ACode:=(.seq (.reg [(N,.mv 6 (KB G))]) .ret)
def cc567:ACode:=(.seq (.reg [bo 3 0,(N,.mv 6 (KB H))]) (.seq (.seq (.reg [mv 13 1,ln 14 13,(N,.mv 15 (K 0))]) (.block 0 (.loop B5e))) B8n))
theorem F09(a2:List Int)(a1:List XOption)(v1:Int)(x3:XOption)(a0:XHarbour)(A2y:Int→Option Bool)(B52:∀(v1:Int) zr,A2y v1=L zr→∀σ:St,σ.kept [2,3,13,14,15] [3] []=⟨[(2,vc (aL (O rI a2))),(3,vc (.pb 3 0)),(13,vc (aL (O P a1))),(14,vc (aI (a1.length:Int))),(15,vc (aI v1))],[(3,(dm a0.row))],[]⟩→go Q (.code (.loop B5e):: [.blk 0,.code B8n]) (Ret [6] [.sc (.v (.bool zr))]) .normal (L σ)):∀(n:Nat) (v4:Int) (r:Bool),X6 a2 a1 v1 x3 a0 A2y n v4=L r→∀σ:St,σ.kept [2,3,13,14,15,20,21,22] [3] []=⟨[(2,vc (aL (O rI a2))),(3,vc (.pb 3 0)),(13,vc (aL (O P a1))),(14,vc (aI (a1.length:Int))),(15,vc (aI v1)),(20,vc (aL (O I x3.Passages))),(21,vc (aI (x3.Passages.length:Int))),(22,vc (aI v4))],[(3,(dm a0.row))],[]⟩→go Q (.code (.loop C4g):: [.blk 2,.blk 1,.code C9l,.code (.loop B5e),.blk 0,.code B8n]) (Ret [6] [.sc (.v (.bool r))]) .normal (L σ):=by
 intro n
 induction n with
 | zero=>intro _ r h; cases h
 | succ n ih=>
  intro v4 r h σ hσ
  rw[X6] at h
  refine B8 ?_
  rcases ic h with ⟨h5,h⟩|⟨h5,h⟩
  ·obtain⟨x6,h6,h⟩:=ob h
   try simp only[hσ,h5,h6,C4g,A,B,C,E,F,J]
   refine E0 rfl rfl ?_
   obtain⟨r7,h7,h⟩:=ob h
   try simp only[h5,h6,A,B,C,E,F,J]
   refine A4 (A50 _ _ _ _ h7) rfl rfl (uf rfl) ?_
   rcases ic h with ⟨h8,h⟩|⟨h8,h⟩
   ·rcases ic h with ⟨h9,h⟩|⟨h9,h⟩
    ·try simp only[h5,h6,h8,h9,A,B,C,E,F,J]
     cases h
     trivial
    ·try simp only[h5,h6,h8,h9,A,B,C,E,F,J]
     refine ih _ _ h _ ?_
     try simp only[h5,h6,h8,h9,A,B,C,E,F,J,U]
   ·try simp only[h5,h6,h8,A,B,C,E,F,J]
    cases h
    trivial
  ·try simp only[hσ,h5,C4g,C9l,A,B,C,E,F,J]
   refine B52 _ _ h _ ?_
   try simp only[h5,A,B,C,E,F,J,U]
theorem E73(a2:List Int)(a1:List XOption)(a0:XHarbour):∀(n:Nat) (v1:Int) (r:Bool),P2 a2 a1 a0 n v1=L r→∀σ:St,σ.kept [2,3,13,14,15] [3] []=⟨[(2,vc (aL (O rI a2))),(3,vc (.pb 3 0)),(13,vc (aL (O P a1))),(14,vc (aI (a1.length:Int))),(15,vc (aI v1))],[(3,(dm a0.row))],[]⟩→go Q (.code (.loop B5e):: [.blk 0,.code B8n]) (Ret [6] [.sc (.v (.bool r))]) .normal (L σ):=by
 intro n
 induction n with
 | zero=>intro _ r h; cases h
 | succ n ih=>
  intro v1 r h σ hσ
  rw[P2] at h
  refine B8 ?_
  rcases ic h with ⟨h2,h⟩|⟨h2,h⟩
  ·obtain⟨x3,h3,h⟩:=ob h
   try simp only[hσ,h2,h3,B5e,A,B,C,E,F,J]
   refine E0 rfl rfl ?_
   try simp only[h2,h3,A,B,C,E,F,J]
   refine F09 _ _ _ _ _ (P2 a2 a1 a0 n) ih _ _ _ h _ ?_
   try simp only[h2,h3,A,B,C,E,F,J,U]
  ·try simp only[hσ,h2,B5e,B8n,A,B,C,E,F,J]
   cases h
   trivial
theorem E85:B0 Q 36=L (cc567.strip,[6],41):=by kernel_rfl
theorem B2i(a0:XHarbour)(a1:List XOption)(a2:List Int)(r:Bool)(h:A4b a0 a1 a2=L r):FC Q 36 [.ag (X a0),.sc (.sl (O P a1)),.sc (.sl (O rI a2))] [.sc (.v (.bool r))]:=by
 unfold A4b at h
 refine D3 B4 E85 rfl ?_
 simp only[cc567,A,B,C,E,F,J]
 try simp only[A,B,C,E,F,J]
 refine B7 rfl rfl rfl ?_
 try simp only[A,B,C,E,F,J]
 refine E73 _ _ _ _ _ _ h _ ?_
 try simp only[A,B,C,E,F,J,U]
end Go.Vi
