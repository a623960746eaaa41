/-
Walks. No condition.
-/
import Derived.Test.YtjaofdfehibjhaaGreatDoorSNf
import Derived.Test.YtjaofdfehibjhaaGreatDoorChecked
import Derived.Test.YtjaofdfehibjhaaGreatDoorSSh
import Derived.KernelRfl
import Derived.Test.YtjaofdfehibjhaaGreatDoorSWStrategiesb
namespace Go.Vi
open Go.Proofs
set_option linter.all false
set_option maxRecDepth 4000
set_option maxHeartbeats 2000000
open Nat renaming reduceBEq → A, reduceMul → B, reduceAdd → C, reduceDiv → E, le_of_ble_eq_true → uf
open Int renaming reduceBEq → F
attribute [local irreducible] go AWP
open List renaming map → W, map_nil → Y, all_cons → Z, all_nil → I, all_eq_true → zA, cons_append → zB, nil_append → zC
open Tryz renaming prog → X
open Xa renaming row → zD
open Xi renaming row → zE
open Xe renaming row → zF
open Bool renaming true → T, false → G
open Option renaming some → H, none → L
open _root_ renaming List → N, Option → O, Int → P, Bool → Q, Nat → U, rfl → V
/- 153:math_bits_Len64 -/
def D3b:X2:= .seq (.reg [(L,.keep [0,2] [] [])]) (.seq (.reg [mv 19 2,mv 20 0,(L,.conv 21 .u8 (S 20)),(L,.idx 22 (KS [0,1,2,2,3,3,3,3,4,4,4,4,4,4,4,4,5,5,5,5,5,5,5,5,5,5,5,5,5,5,5,5,6,6,6,6,6,6,6,6,6,6,6,6,6,6,6,6,6,6,6,6,6,6,6,6,6,6,6,6,6,6,6,6,7,7,7,7,7,7,7,7,7,7,7,7,7,7,7,7,7,7,7,7,7,7,7,7,7,7,7,7,7,7,7,7,7,7,7,7,7,7,7,7,7,7,7,7,7,7,7,7,7,7,7,7,7,7,7,7,7,7,7,7,7,7,7,7,8,8,8,8,8,8,8,8,8,8,8,8,8,8,8,8,8,8,8,8,8,8,8,8,8,8,8,8,8,8,8,8,8,8,8,8,8,8,8,8,8,8,8,8,8,8,8,8,8,8,8,8,8,8,8,8,8,8,8,8,8,8,8,8,8,8,8,8,8,8,8,8,8,8,8,8,8,8,8,8,8,8,8,8,8,8,8,8,8,8,8,8,8,8,8,8,8,8,8,8,8,8,8,8,8,8,8,8,8,8,8,8,8,8,8,8,8,8,8,8,8,8,8,8,8,8,8,8]) (S 21)),(L,.conv 23 .i64 (S 22)),bn 24 .add 19 23,mv 2 24]) .ret)
def C6v:X2:= .seq (.reg [(L,.keep [0,2] [] [])]) (.seq (.seq (.reg [mv 13 0,(L,.bin 14 .geq (S 13) (.c (.v (.sc (.dat (.int .u64 256))))))]) (.cond (S 14) (.seq (.reg [mv 15 0,(L,.bin 16 .shr (S 15) (.c (.v (.sc (.dat (.int .u64 8)))))),mv 0 16]) (.reg [mv 17 2,(L,.bin 18 .add (S 17) (K 8)),mv 2 18])) .skip)) D3b)
def C6i:X2:= .seq (.reg [(L,.keep [0,2] [] [])]) (.seq (.seq (.reg [mv 7 0,(L,.bin 8 .geq (S 7) (.c (.v (.sc (.dat (.int .u64 65536))))))]) (.cond (S 8) (.seq (.reg [mv 9 0,(L,.bin 10 .shr (S 9) (.c (.v (.sc (.dat (.int .u64 16)))))),mv 0 10]) (.reg [mv 11 2,(L,.bin 12 .add (S 11) (K 16)),mv 2 12])) .skip)) C6v)
def cc466:X2:=(.seq (.reg [(L,.mv 2 (K 0))]) (.seq (.seq (.reg [mv 3 0,(L,.bin 4 .geq (S 3) (.c (.v (.sc (.dat (.int .u64 4294967296))))))]) (.cond (S 4) (.seq (.reg [mv 5 0,(L,.bin 6 .shr (S 5) (.c (.v (.sc (.dat (.int .u64 32)))))),mv 0 6]) (.reg [(L,.mv 2 (K 32))])) .skip)) C6i))
theorem E23(v8 v9 r:P)(h:A0b v8 v9=H r)(σ:St)(hσ:σ.kept [0,2] [] []=⟨[(0,vc (.dat (.int .u64 v8))),(2,vc (aI v9))],[],[]⟩):go X (.code D3b:: []) (Ret [2] [.sc (.v (.int .i64 r))]) .normal (H σ):=by
 unfold A0b at h
 obtain⟨b10,h10,h⟩:=ob h
 try simp only[hσ,h10,D3b,A,B,C,E,F,J]
 cases h
 trivial
theorem E3i(v5 v6 r:P)(h:A10 v5 v6=H r)(σ:St)(hσ:σ.kept [0,2] [] []=⟨[(0,vc (.dat (.int .u64 v5))),(2,vc (aI v6))],[],[]⟩):go X (.code C6v:: []) (Ret [2] [.sc (.v (.int .i64 r))]) .normal (H σ):=by
 unfold A10 at h
 rcases ic h with ⟨h7,h⟩|⟨h7,h⟩
 ·try simp only[hσ,h7,C6v,A,B,C,E,F,J]
  refine E23 _ _ _ h _ ?_
  try simp only[h7,A,B,C,E,F,J,Y]
 ·try simp only[hσ,h7,C6v,A,B,C,E,F,J]
  refine E23 _ _ _ h _ ?_
  try simp only[h7,A,B,C,E,F,J,Y]
theorem E3q(v2 v3 r:P)(h:A14 v2 v3=H r)(σ:St)(hσ:σ.kept [0,2] [] []=⟨[(0,vc (.dat (.int .u64 v2))),(2,vc (aI v3))],[],[]⟩):go X (.code C6i:: []) (Ret [2] [.sc (.v (.int .i64 r))]) .normal (H σ):=by
 unfold A14 at h
 rcases ic h with ⟨h4,h⟩|⟨h4,h⟩
 ·try simp only[hσ,h4,C6i,A,B,C,E,F,J]
  refine E3i _ _ _ h _ ?_
  try simp only[h4,A,B,C,E,F,J,Y]
 ·try simp only[hσ,h4,C6i,A,B,C,E,F,J]
  refine E3i _ _ _ h _ ?_
  try simp only[h4,A,B,C,E,F,J,Y]
theorem F69:A5 X 153=H (cc466.strip,[2],25):=by kernel_rfl
theorem B73(a0 r:P)(h:A5x a0=H r):FC X 153 [.sc (.int .u64 a0)] [.sc (.v (.int .i64 r))]:=by
 unfold A5x at h
 refine C3 mixed F69 V ?_
 simp only[cc466,A,B,C,E,F,J]
 rcases ic h with ⟨h1,h⟩|⟨h1,h⟩
 ·try simp only[h1,A,B,C,E,F,J]
  refine E3q _ _ _ h _ ?_
  try simp only[h1,A,B,C,E,F,J,Y]
 ·try simp only[h1,A,B,C,E,F,J]
  refine E3q _ _ _ h _ ?_
  try simp only[h1,A,B,C,E,F,J,Y]
/- 149:math_bits_Len -/
def cc471:X2:=(.seq (.reg [(L,.mv 2 (K 0))]) (.seq (.cond (KB G) (.seq (.reg [mv 3 0,(L,.conv 4 .u32 (S 3)),ca 5 163 [S 4],mv 2 5]) .ret) .skip) (.seq (.reg [mv 6 0,ca 7 153 [S 6],mv 2 7]) .ret)))
theorem F5o:A5 X 149=H (cc471.strip,[2],8):=by kernel_rfl
theorem C1w(a0 r:P)(h:A25 a0=H r):FC X 149 [.sc (.int .u64 a0)] [.sc (.v (.int .i64 r))]:=by
 unfold A25 at h
 refine C3 mixed F5o V ?_
 simp only[cc471,A,B,C,E,F,J]
 obtain⟨r1,h1,h⟩:=ob h
 try simp only[A,B,C,E,F,J]
 refine A2 (B73 _ _ h1) V V (uf V) ?_
 try simp only[A,B,C,E,F,J]
 cases h
 trivial
/- 129:impl_leastPersons -/
def C6t:X2:= .seq (.reg [(L,.keep [0,3,4,5,6,7,8,9] [] [896,1024])]) (.seq (.reg [mv 81 9,(L,.bin 82 .eql (S 81) (K 0))]) (.cond (S 82) (.exit 2) .skip))
def D3w:X2:=(.reg [mv 55 9,(L,.bin 56 .sub (S 55) (K 1)),mv 57 8,bn 58 .and 56 57,mv 9 58])
def B7k:X2:= .seq (.reg [(L,.keep [0,3,4,5,6,7,8,9] [] [896,1024])]) (.seq (.block 3 (.seq (.seq (.reg [mv 59 4,mv 60 9,mv 61 7,(L,.bin 62 .shl (K 1) (S 61)),bn 63 .or 60 62,ia 64 59 63 1,ld 65 64]) (.cond (S 65) (.drw [o0 (mv 66 5),o0 (mv 67 6),o0 (mv 68 5),o0 (mv 69 6),o0 (ia 70 68 69 1),o0 (ld 71 70),o0 (mv 72 5),o0 (mv 73 8),o0 (mv 74 9),o0 (bn 75 .andNot 73 74),o0 (ia 76 72 75 1),o0 (ld 77 76),o0 (L,.bin 78 .add (K 1) (S 77)),o0 (L,.mm 79 G (S 71) (S 78)),o0 (ia 80 66 67 1),(L,so 80 79 1)]) .skip)) C6t)) D3w)
def D3a:X2:= .seq (.reg [(L,.keep [0,3,4,5,6,7,8] [] [896,1024])]) (.seq (.reg [mv 49 5,mv 50 6,mv 51 0,ln 52 51,ia 53 49 50 1,so 53 52 1]) (.seq (.reg [mv 54 8,mv 9 54]) (.block 2 (.loop B7k))))
def B7r:X2:=(.reg [mv 22 6,(L,.bin 23 .add (S 22) (K 1)),mv 6 23])
def A84:X2:= .seq (.reg [(L,.keep [0,3,4,5,6] [] [896,1024])]) (.seq (.seq (.reg [mv 19 6,mv 20 3,bn 21 .lss 19 20]) (.cond (S 21) .skip (.exit 0))) (.seq (.block 1 (.seq (.reg [mv 24 6,(L,.conv 25 .u64 (S 24)),ca 26 149 [S 25],(L,.bin 27 .sub (S 26) (K 1)),mv 7 27]) (.seq (.reg [mv 28 6,mv 29 7,(L,.bin 30 .shl (K 1) (S 29)),bn 31 .andNot 28 30,mv 8 31]) (.seq (.reg [mv 32 4,mv 33 6,mv 34 4,mv 35 8,ia 36 34 35 1,ld 37 36,mv 38 37,(H (38,T),.mv 39 (S 8)),(H (38,T),.conv 40 .u64 (S 39)),(H (38,T),.mv 41 (S 0)),(H (38,T),.mv 42 (S 7)),(H (38,T),.iaddr 43 (S 41) (S 42) 1),(H (38,T),.load 44 (S 43) G 1),(H (38,T),.bin 45 .andNot (S 40) (S 44)),(H (38,T),.bin 46 .eql (S 45) (.c (.v (.sc (.dat (.int .u64 0)))))),pa 47 38 46,ia 48 32 33 1,so 48 47 1]) D3a)))) B7r))
def B0b:X2:=(.seq (.reg [mv 83 5,mv 84 3,(L,.bin 85 .sub (S 84) (K 1)),ia 86 83 85 1,ld 87 86,mv 2 87]) .ret)
def cc480:X2:=(.seq (.reg [(L,.mv 2 (K 0))]) (.seq (.reg [mv 10 0,ln 11 10,(L,.bin 12 .shl (K 1) (S 11)),mv 3 12]) (.seq (.reg [mv 13 3,(L,.mksl 14 1 1 [.bool G] (S 13) (S 13)),mv 4 14]) (.seq (.reg [mv 15 3,(L,.mksl 16 1 8 [.int .i64 0] (S 15) (S 15)),mv 5 16]) (.seq (.reg [mv 17 4,(L,.iaddr 18 (S 17) (K 0) 1),(L,.store (S 18) (KB T) 1)]) (.seq (.seq (.reg [(L,.mv 6 (K 1))]) (.block 0 (.loop A84))) B0b))))))
theorem E3u(a0:N P)(y5 v6:P)(v17 v18 v21:P)(v19:N Q)(C6:P→(N Q)→(N P)→O P)(S6:∀(v6:P) (v7:N Q) (v8:N P) zr,C6 v6 v7 v8=H zr→∀σ:St,σ.kept [0,3,4,5,6] [] [896,1024]=⟨[(0,vc (aL (W rU a0))),(3,vc (aI y5)),(4,vc (.own 896)),(5,vc (.own 1024)),(6,vc (aI v6))],[],[(896,1,W rB v7),(1024,1,W rI v8)]⟩→go X (.code (.loop A84):: [.blk 0,.code B0b]) (Ret [2] [.sc (.v (.int .i64 zr))]) .normal (H σ))(A2z:P→(N P)→O P)(B3i:∀(v21:P) (v22:N P) zr,A2z v21 v22=H zr→∀σ:St,σ.kept [0,3,4,5,6,7,8,9] [] [896,1024]=⟨[(0,vc (aL (W rU a0))),(3,vc (aI y5)),(4,vc (.own 896)),(5,vc (.own 1024)),(6,vc (aI v6)),(7,vc (aI v17)),(8,vc (aI v18)),(9,vc (aI v21))],[],[(896,1,W rB v19),(1024,1,W rI v22)]⟩→go X (.code (.loop B7k):: [.blk 2,.blk 1,.code B7r,.code (.loop A84),.blk 0,.code B0b]) (Ret [2] [.sc (.v (.int .i64 zr))]) .normal (H σ))(v28:N P)(r:P)(h:V4 a0 y5 v6 v17 v18 v21 v19 C6 A2z v28=H r)(σ:St)(hσ:σ.kept [0,3,4,5,6,7,8,9] [] [896,1024]=⟨[(0,vc (aL (W rU a0))),(3,vc (aI y5)),(4,vc (.own 896)),(5,vc (.own 1024)),(6,vc (aI v6)),(7,vc (aI v17)),(8,vc (aI v18)),(9,vc (aI v21))],[],[(896,1,W rB v19),(1024,1,W rI v28)]⟩):go X (.code C6t:: [.blk 3,.code D3w,.code (.loop B7k),.blk 2,.blk 1,.code B7r,.code (.loop A84),.blk 0,.code B0b]) (Ret [2] [.sc (.v (.int .i64 r))]) .normal (H σ):=by
 unfold V4 at h
 rcases ic h with ⟨h29,h⟩|⟨h29,h⟩
 ·try simp only[hσ,h29,C6t,B7r,A,B,C,E,F,J]
  refine S6 _ _ _ _ h _ ?_
  try simp only[h29,A,B,C,E,F,J,Y]
 ·try simp only[hσ,h29,C6t,D3w,A,B,C,E,F,J]
  refine B3i _ _ _ h _ ?_
  try simp only[h29,A,B,C,E,F,J,Y]
theorem F3m(a0:N P)(y5 v6:P)(v17 v18:P)(v19:N Q)(C6:P→(N Q)→(N P)→O P)(S6:∀(v6:P) (v7:N Q) (v8:N P) zr,C6 v6 v7 v8=H zr→∀σ:St,σ.kept [0,3,4,5,6] [] [896,1024]=⟨[(0,vc (aL (W rU a0))),(3,vc (aI y5)),(4,vc (.own 896)),(5,vc (.own 1024)),(6,vc (aI v6))],[],[(896,1,W rB v7),(1024,1,W rI v8)]⟩→go X (.code (.loop A84):: [.blk 0,.code B0b]) (Ret [2] [.sc (.v (.int .i64 zr))]) .normal (H σ)):∀(n:U) (v21:P) (v22:N P) (r:P),I8 a0 y5 v6 v17 v18 v19 C6 n v21 v22=H r→∀σ:St,σ.kept [0,3,4,5,6,7,8,9] [] [896,1024]=⟨[(0,vc (aL (W rU a0))),(3,vc (aI y5)),(4,vc (.own 896)),(5,vc (.own 1024)),(6,vc (aI v6)),(7,vc (aI v17)),(8,vc (aI v18)),(9,vc (aI v21))],[],[(896,1,W rB v19),(1024,1,W rI v22)]⟩→go X (.code (.loop B7k):: [.blk 2,.blk 1,.code B7r,.code (.loop A84),.blk 0,.code B0b]) (Ret [2] [.sc (.v (.int .i64 r))]) .normal (H σ):=by
 intro n
 induction n with
 | zero=>intro _ _ r h; cases h
 | succ n ih=>
  intro v21 v22 r h σ hσ
  rw[I8] at h
  refine B5 ?_
  obtain⟨h23,h⟩:=A1u h
  obtain⟨x24,h24,h⟩:=ob h
  have h24n:=M2 h24
  rcases ic h with ⟨h25,h⟩|⟨h25,h⟩
  ·try simp only[hσ,h23,h24,h24n,h25,B7k,A,B,C,E,F,J]
   refine B3 V ?_
   obtain⟨x26,h26,h⟩:=ob h
   have h26n:=M2 h26
   obtain⟨x27,h27,h⟩:=ob h
   have h27n:=M2 h27
   try simp only[h23,h24,h24n,h25,h26,h26n,h27,h27n,A,B,C,E,F,J]
   refine A5j (row:=rI) (y:=(if(IntKind.i64.wrap ((1:P)+x27))<x26 then(IntKind.i64.wrap ((1:P)+x27)) else x26)) V V h26n V V (by rfl) ?_
   try simp only[h23,h24,h24n,h25,h26,h26n,h27,h27n,A,B,C,E,F,J]
   refine B3 V ?_
   try simp only[h23,h24,h24n,h25,h26,h26n,h27,h27n,A,B,C,E,F,J]
   refine E3u _ _ _ _ _ _ _ C6 S6 (I8 a0 y5 v6 v17 v18 v19 C6 n) ih _ _ h _ ?_
   try simp only[h23,h24,h24n,h25,h26,h26n,h27,h27n,A,B,C,E,F,J,Y]
  ·try simp only[hσ,h23,h24,h24n,h25,B7k,A,B,C,E,F,J]
   refine E3u _ _ _ _ _ _ _ C6 S6 (I8 a0 y5 v6 v17 v18 v19 C6 n) ih _ _ h _ ?_
   try simp only[h23,h24,h24n,h25,A,B,C,E,F,J,Y]
theorem E2o(a0:N P)(y5 v6:P)(v8:N P)(C6:P→(N Q)→(N P)→O P)(S6:∀(v6:P) (v7:N Q) (v8:N P) zr,C6 v6 v7 v8=H zr→∀σ:St,σ.kept [0,3,4,5,6] [] [896,1024]=⟨[(0,vc (aL (W rU a0))),(3,vc (aI y5)),(4,vc (.own 896)),(5,vc (.own 1024)),(6,vc (aI v6))],[],[(896,1,W rB v7),(1024,1,W rI v8)]⟩→go X (.code (.loop A84):: [.blk 0,.code B0b]) (Ret [2] [.sc (.v (.int .i64 zr))]) .normal (H σ))(v17 v18:P)(v19:N Q)(r:P)(h:V3 a0 y5 v6 v8 C6 v17 v18 v19=H r)(σ:St)(hσ:σ.kept [0,3,4,5,6,7,8] [] [896,1024]=⟨[(0,vc (aL (W rU a0))),(3,vc (aI y5)),(4,vc (.own 896)),(5,vc (.own 1024)),(6,vc (aI v6)),(7,vc (aI v17)),(8,vc (aI v18))],[],[(896,1,W rB v19),(1024,1,W rI v8)]⟩):go X (.code D3a:: [.blk 1,.code B7r,.code (.loop A84),.blk 0,.code B0b]) (Ret [2] [.sc (.v (.int .i64 r))]) .normal (H σ):=by
 unfold V3 at h
 obtain⟨x20,h20,h⟩:=ob h
 have h20n:=M2 h20
 try simp only[hσ,h20,D3a,A,B,C,E,F,J]
 refine A5j (row:=rI) (y:=(a0.length:P)) V V h20n V V (by rfl) ?_
 try simp only[h20,A,B,C,E,F,J]
 refine F3m _ _ _ _ _ _ C6 S6 _ _ _ _ h _ ?_
 try simp only[h20,A,B,C,E,F,J,Y]
theorem F3o(a0:N P)(y5:P):∀(n:U) (v6:P) (v7:N Q) (v8:N P) (r:P),G2 a0 y5 n v6 v7 v8=H r→∀σ:St,σ.kept [0,3,4,5,6] [] [896,1024]=⟨[(0,vc (aL (W rU a0))),(3,vc (aI y5)),(4,vc (.own 896)),(5,vc (.own 1024)),(6,vc (aI v6))],[],[(896,1,W rB v7),(1024,1,W rI v8)]⟩→go X (.code (.loop A84):: [.blk 0,.code B0b]) (Ret [2] [.sc (.v (.int .i64 r))]) .normal (H σ):=by
 intro n
 induction n with
 | zero=>intro _ _ _ r h; cases h
 | succ n ih=>
  intro v6 v7 v8 r h σ hσ
  rw[G2] at h
  refine B5 ?_
  rcases ic h with ⟨h9,h⟩|⟨h9,h⟩
  ·obtain⟨r10,h10,h⟩:=ob h
   try simp only[hσ,h9,A84,A,B,C,E,F,J]
   refine A2 (C1w _ _ h10) V V (uf V) ?_
   obtain⟨h11,h⟩:=A1u h
   obtain⟨x12,h12,h⟩:=ob h
   have h12n:=M2 h12
   rcases ic h with ⟨h13,h⟩|⟨h13,h⟩
   ·obtain⟨x14,h14,h⟩:=ob h
    obtain⟨x15,h15,h⟩:=ob h
    have h15n:=M2 h15
    try simp only[h9,h11,h12,h12n,h13,h14,h15,A,B,C,E,F,J]
    refine A5j (row:=rB) (y:=((K6 .andNot .u64 (IntKind.u64.wrap (K6 .andNot .i64 v6 (A1v .i64 (1:P) (IntKind.i64.wrap (r10 - (1:P)))))) x14)==(0:P))) V V h15n V V (by rfl) ?_
    try simp only[h9,h11,h12,h12n,h13,h14,h15,A,B,C,E,F,J]
    refine E2o _ _ _ _ (G2 a0 y5 n) ih _ _ _ _ h _ ?_
    try simp only[h9,h11,h12,h12n,h13,h14,h15,A,B,C,E,F,J,Y]
   ·obtain⟨x16,h16,h⟩:=ob h
    have h16n:=M2 h16
    try simp only[h9,h11,h12,h12n,h13,h16,A,B,C,E,F,J]
    refine A5j (row:=rB) (y:=false) V V h16n V V (by rfl) ?_
    try simp only[h9,h11,h12,h12n,h13,h16,A,B,C,E,F,J]
    refine E2o _ _ _ _ (G2 a0 y5 n) ih _ _ _ _ h _ ?_
    try simp only[h9,h11,h12,h12n,h13,h16,A,B,C,E,F,J,Y]
  ·obtain⟨x30,h30,h⟩:=ob h
   have h30n:=M2 h30
   try simp only[hσ,h9,h30,h30n,A84,B0b,A,B,C,E,F,J]
   cases h
   trivial
theorem F45:A5 X 129=H (cc480.strip,[2],88):=by kernel_rfl
theorem B5g(a0:N P)(r:P)(h:A1x a0=H r):FC X 129 [.sc (.sl (W rU a0))] [.sc (.v (.int .i64 r))]:=by
 unfold A1x at h
 refine C3 mixed F45 V ?_
 simp only[cc480,A,B,C,E,F,J]
 obtain⟨h1,h⟩:=A1u h
 obtain⟨n2,hn2,h⟩:=ob h
 try simp only[h1,A,B,C,E,F,J]
 refine A7l (es:=W rB (List.replicate n2 G)) V V hn2 V (A54 V) V ?_
 obtain⟨n3,hn3,h⟩:=ob h
 try simp only[h1,A,B,C,E,F,J]
 refine A7l (es:=W rI (List.replicate n3 (0:P))) V V hn3 V (A54 V) V ?_
 obtain⟨x4,h4,h⟩:=ob h
 have h4n:=M2 h4
 try simp only[h1,h4,A,B,C,E,F,J]
 refine A5j (row:=rB) (y:=true) V V h4n V V (by rfl) ?_
 try simp only[h1,h4,A,B,C,E,F,J]
 refine F3o _ _ _ _ _ _ _ h _ ?_
 try simp only[h1,h4,A,B,C,E,F,J,Y]
/- 130:impl_coverer_cover -/
def C6g:X2:= .seq (.reg [(L,.keep [0,3,4] [99999999999] [90000,90001])]) (.seq (.reg [mv 109 0,(L,.nilc 110 (S 109)),fa 111 110 2,ld 112 111,mv 113 4,ia 114 112 113 1,ld 115 114,(L,.bin 116 .eql (S 115) (.c (.v (.sc (.dat (.int .u64 0))))))]) (.cond (S 116) (.seq (.reg [mv 117 0,mv 118 0,(L,.nilc 119 (S 118)),fa 120 119 2,ld 121 120,mv 122 4,(L,.slc 123 1 (S 121) L (H (S 122)) L),(L,.cut 123),(L,.nilc 124 (S 117)),fa 125 124 2,so 125 123 1]) (.exit 0)) .skip))
def D4n:X2:= .seq (.reg [(L,.keep [0,3,4] [99999999999] [90000,90001])]) (.seq (.seq (.drw [o0 (mv 50 0),o0 (L,.nilc 51 (S 50)),o0 (fa 52 51 2),o0 (ld 53 52),o0 (mv 54 4),o0 (ia 55 53 54 1),o0 (ld 56 55),o0 (mv 57 0),o0 (L,.nilc 58 (S 57)),o0 (fa 59 58 0),o0 (ld 60 59),o0 (mv 61 3),o0 (ia 62 60 61 1),o0 (ld 63 62),o0 (bn 64 .andNot 56 63),o0 (L,.bin 65 .eql (S 64) (.c (.v (.sc (.dat (.int .u64 0))))))]) (.cond (S 65) (.seq (.drw [o0 (mv 66 0),o0 (L,.nilc 67 (S 66)),o0 (fa 68 67 2),o0 (ld 69 68),o0 (mv 70 4),o0 (ia 71 69 70 1),o0 (ld 72 71),o0 (mv 73 3),o0 (L,.bin 74 .shl (.c (.v (.sc (.dat (.int .u64 1))))) (S 73)),o0 (bn 75 .or 72 74),o0 (ia 76 69 70 1),(L,so 76 75 1)]) (.seq (.reg [mv 77 0,mv 78 0,(L,.nilc 79 (S 78)),fa 80 79 3,ld 81 80,mv 82 4,(L,.bslice 83 1 [.int .i64 0] 1 [(0,(S 82))]),(L,.app 84 1 8 (S 81) (S 83)),(L,.nilc 85 (S 77)),fa 86 85 3,so 86 84 1]) (.seq (.seq (.reg [mv 87 0,ca 88 130 [S 87]]) (.cond (S 88) (.seq (.reg [(L,.mv 2 (KB T))]) .ret) .skip)) (.seq (.reg [mv 89 0,mv 90 0,(L,.nilc 91 (S 90)),fa 92 91 3,ld 93 92,mv 94 3,(L,.slc 95 1 (S 93) L (H (S 94)) L),(L,.cut 95),(L,.nilc 96 (S 89)),fa 97 96 3,so 97 95 1]) (.drw [o0 (mv 98 0),o0 (L,.nilc 99 (S 98)),o0 (fa 100 99 2),o0 (ld 101 100),o0 (mv 102 4),o0 (ia 103 101 102 1),o0 (ld 104 103),o0 (mv 105 3),o0 (L,.bin 106 .shl (.c (.v (.sc (.dat (.int .u64 1))))) (S 105)),o0 (bn 107 .andNot 104 106),o0 (ia 108 101 102 1),(L,so 108 107 1)]))))) .skip)) C6g)
def C5u:X2:=(.reg [mv 32 4,(L,.bin 33 .add (S 32) (K 1)),mv 4 33])
def A94:X2:= .seq (.reg [(L,.keep [0,3,4] [99999999999] [90000,90001])]) (.seq (.seq (.reg [mv 17 4,mv 18 0,(L,.nilc 19 (S 18)),fa 20 19 2,ld 21 20,ln 22 21,bn 23 .leq 17 22,mv 24 23,(H (24,T),.mv 25 (S 4)),(H (24,T),.mv 26 (S 0)),(H (24,T),.nilc 27 (S 26)),(H (24,T),.faddr 28 (S 27) 1),(H (24,T),.load 29 (S 28) G 1),(H (24,T),.bin 30 .lss (S 25) (S 29)),pa 31 24 30]) (.cond (S 31) .skip (.exit 0))) (.seq (.block 1 (.seq (.seq (.reg [mv 34 4,mv 35 0,(L,.nilc 36 (S 35)),fa 37 36 2,ld 38 37,ln 39 38,bn 40 .eql 34 39]) (.cond (S 40) (.reg [mv 41 0,mv 42 0,(L,.nilc 43 (S 42)),fa 44 43 2,ld 45 44,(L,.bslice 46 1 [.int .u64 0] 1 [(0,(.c (.v (.sc (.dat (.int .u64 0))))))]),(L,.app 47 1 8 (S 45) (S 46)),(L,.nilc 48 (S 41)),fa 49 48 2,so 49 47 1]) .skip)) D4n)) C5u))
def B04:X2:=(.seq (.reg [(L,.mv 2 (KB G))]) .ret)
def cc491:X2:=(.seq (.reg [(L,.mv 2 (KB G))]) (.seq (.reg [mv 5 0,(L,.nilc 6 (S 5)),fa 7 6 3,ld 8 7,ln 9 8,mv 3 9]) (.seq (.seq (.reg [mv 10 3,mv 11 0,(L,.nilc 12 (S 11)),fa 13 12 0,ld 14 13,ln 15 14,bn 16 .eql 10 15]) (.cond (S 16) (.seq (.reg [(L,.mv 2 (KB T))]) .ret) .skip)) (.seq (.seq (.reg [(L,.mv 4 (K 0))]) (.block 0 (.loop A94))) B04))))
theorem E3p(rec_:Xj→O (Q × Xj))(h_rec:∀(a0:Xj) zr,rec_ a0=H zr→FCz X 130 [.p] (K9 a0) (L0 a0) (K9 zr.2) (L0 zr.2) [.sc (.v (.bool zr.1))])(a0:Xj)(v2:P)(F7:P→(N P)→P→(N P)→(N P)→O (Q × Xj))(A1w:∀(v2:P) (v3:N P) (v4:P) (v5 v6:N P) zr,F7 v2 v3 v4 v5 v6=H zr→∀σ:St,σ.kept [0,3,4] [99999999999] [90000,90001]=⟨[(0,vc (.pb 99999999999 0)),(3,vc (aI (a0.who.length:P))),(4,vc (aI v2))],[(99999999999,[aL (W rU v3),aI v4,.own 90000,.own 90001])],[(90000,1,W rU v5),(90001,1,W rI v6)]⟩→go X (.code (.loop A94):: [.blk 0,.code B04]) (B0w [2] [.sc (.v (.bool zr.1))] (K9 zr.2) (L0 zr.2)) .normal (H σ))(v22:N P)(v23:P)(v24 v25:N P)(r:Q × Xj)(h:O8 rec_ a0 v2 F7 v22 v23 v24 v25=H r)(σ:St)(hσ:σ.kept [0,3,4] [99999999999] [90000,90001]=⟨[(0,vc (.pb 99999999999 0)),(3,vc (aI (a0.who.length:P))),(4,vc (aI v2))],[(99999999999,[aL (W rU v22),aI v23,.own 90000,.own 90001])],[(90000,1,W rU v24),(90001,1,W rI v25)]⟩):go X (.code C6g:: [.blk 1,.code C5u,.code (.loop A94),.blk 0,.code B04]) (B0w [2] [.sc (.v (.bool r.1))] (K9 r.2) (L0 r.2)) .normal (H σ):=by
 unfold O8 at h
 obtain⟨x26,h26,h⟩:=ob h
 have h26n:=M2 h26
 rcases ic h with ⟨h27,h⟩|⟨h27,h⟩
 ·obtain⟨p28,h28,h⟩:=ob h
  try simp only[hσ,h26,h26n,h27,C6g,A,B,C,E,F,J]
  refine A8w V V h28 (by rfl) ?_
  try simp only[h26,h26n,h27,B04,A,B,C,E,F,J]
  cases h
  exact⟨⟨V,⟨⟩⟩,[90000,90001],by decide,by decide,V,V⟩
 ·try simp only[hσ,h26,h26n,h27,C6g,C5u,A,B,C,E,F,J]
  refine A1w _ _ _ _ _ _ h _ ?_
  try simp only[h26,h26n,h27,A,B,C,E,F,J,Y]
theorem E20(rec_:Xj→O (Q × Xj))(h_rec:∀(a0:Xj) zr,rec_ a0=H zr→FCz X 130 [.p] (K9 a0) (L0 a0) (K9 zr.2) (L0 zr.2) [.sc (.v (.bool zr.1))])(a0:Xj)(v2:P)(v3:N P)(v4:P)(v6:N P)(F7:P→(N P)→P→(N P)→(N P)→O (Q × Xj))(A1w:∀(v2:P) (v3:N P) (v4:P) (v5 v6:N P) zr,F7 v2 v3 v4 v5 v6=H zr→∀σ:St,σ.kept [0,3,4] [99999999999] [90000,90001]=⟨[(0,vc (.pb 99999999999 0)),(3,vc (aI (a0.who.length:P))),(4,vc (aI v2))],[(99999999999,[aL (W rU v3),aI v4,.own 90000,.own 90001])],[(90000,1,W rU v5),(90001,1,W rI v6)]⟩→go X (.code (.loop A94):: [.blk 0,.code B04]) (B0w [2] [.sc (.v (.bool zr.1))] (K9 zr.2) (L0 zr.2)) .normal (H σ))(v11:N P)(r:Q × Xj)(h:T0 rec_ a0 v2 v3 v4 v6 F7 v11=H r)(σ:St)(hσ:σ.kept [0,3,4] [99999999999] [90000,90001]=⟨[(0,vc (.pb 99999999999 0)),(3,vc (aI (a0.who.length:P))),(4,vc (aI v2))],[(99999999999,[aL (W rU v3),aI v4,.own 90000,.own 90001])],[(90000,1,W rU v11),(90001,1,W rI v6)]⟩):go X (.code D4n:: [.blk 1,.code C5u,.code (.loop A94),.blk 0,.code B04]) (B0w [2] [.sc (.v (.bool r.1))] (K9 r.2) (L0 r.2)) .normal (H σ):=by
 unfold T0 at h
 try simp only[hσ,D4n,A,B,C,E,F,J]
 refine B3 V ?_
 obtain⟨x12,h12,h⟩:=ob h
 have h12n:=M2 h12
 obtain⟨x13,h13,h⟩:=ob h
 rcases ic h with ⟨h14,h⟩|⟨h14,h⟩
 ·try simp only[h12,h12n,h13,h14,A,B,C,E,F,J]
  refine B3 V ?_
  obtain⟨h15,h⟩:=A1u h
  try simp only[h12,h12n,h13,h14,h15,A,B,C,E,F,J]
  refine A5j (row:=rU) (y:=(K6 .or .u64 x12 (A1v .u64 (1:P) (a0.who.length:P)))) V V h12n V V (by rfl) ?_
  try simp only[h12,h12n,h13,h14,h15,A,B,C,E,F,J]
  refine B3 V ?_
  try simp only[h12,h12n,h13,h14,h15,A,B,C,E,F,J]
  refine D6 (es:=W rI ([v2]:N P)) V V ?_
  obtain⟨h16,h⟩:=C9 h
  obtain⟨r17,h17,h⟩:=ob h
  try simp only[h12,h12n,h13,h14,h15,h16,A,B,C,E,F,J]
  refine A9z (h_rec _ _ h17) 99999999999 [90000,90001] rfl V V V (by decide) V V V ?_
  rcases ic h with ⟨h18,h⟩|⟨h18,h⟩
  ·try simp only[h12,h12n,h13,h14,h15,h16,h18,A,B,C,E,F,J]
   cases h
   exact⟨⟨V,⟨⟩⟩,[90000,90001],by decide,by decide,V,V⟩
  ·obtain⟨p19,h19,h⟩:=ob h
   try simp only[h12,h12n,h13,h14,h15,h16,h18,A,B,C,E,F,J]
   refine A8w V V h19 (by rfl) ?_
   try simp only[h12,h12n,h13,h14,h15,h16,h18,A,B,C,E,F,J]
   refine B3 V ?_
   obtain⟨x20,h20,h⟩:=ob h
   have h20n:=M2 h20
   obtain⟨h21,h⟩:=A1u h
   try simp only[h12,h12n,h13,h14,h15,h16,h18,h20,h20n,h21,A,B,C,E,F,J]
   refine A5j (row:=rU) (y:=(K6 .andNot .u64 x20 (A1v .u64 (1:P) (a0.who.length:P)))) V V h20n V V (by rfl) ?_
   try simp only[h12,h12n,h13,h14,h15,h16,h18,h20,h20n,h21,A,B,C,E,F,J]
   refine B3 V ?_
   try simp only[h12,h12n,h13,h14,h15,h16,h18,h20,h20n,h21,A,B,C,E,F,J]
   refine E3p rec_ h_rec _ _ F7 A1w _ _ _ _ _ h _ ?_
   try simp only[h12,h12n,h13,h14,h15,h16,h18,h20,h20n,h21,A,B,C,E,F,J,Y]
 ·try simp only[h12,h12n,h13,h14,A,B,C,E,F,J]
  refine E3p rec_ h_rec _ _ F7 A1w _ _ _ _ _ h _ ?_
  try simp only[h12,h12n,h13,h14,A,B,C,E,F,J,Y]
theorem F2y(rec_:Xj→O (Q × Xj))(h_rec:∀(a0:Xj) zr,rec_ a0=H zr→FCz X 130 [.p] (K9 a0) (L0 a0) (K9 zr.2) (L0 zr.2) [.sc (.v (.bool zr.1))])(a0:Xj):∀(n:U) (v2:P) (v3:N P) (v4:P) (v5 v6:N P) (r:Q × Xj),G4 rec_ a0 n v2 v3 v4 v5 v6=H r→∀σ:St,σ.kept [0,3,4] [99999999999] [90000,90001]=⟨[(0,vc (.pb 99999999999 0)),(3,vc (aI (a0.who.length:P))),(4,vc (aI v2))],[(99999999999,[aL (W rU v3),aI v4,.own 90000,.own 90001])],[(90000,1,W rU v5),(90001,1,W rI v6)]⟩→go X (.code (.loop A94):: [.blk 0,.code B04]) (B0w [2] [.sc (.v (.bool r.1))] (K9 r.2) (L0 r.2)) .normal (H σ):=by
 intro n
 induction n with
 | zero=>intro _ _ _ _ _ r h; cases h
 | succ n ih=>
  intro v2 v3 v4 v5 v6 r h σ hσ
  rw[G4] at h
  refine B5 ?_
  rcases ic h with ⟨h7,h⟩|⟨h7,h⟩
  ·rcases ic h with ⟨h8,h⟩|⟨h8,h⟩
   ·rcases ic h with ⟨h9,h⟩|⟨h9,h⟩
    ·try simp only[hσ,h7,h8,h9,A94,A,B,C,E,F,J]
     refine D6 (es:=W rU ([(0:P)]:N P)) V V ?_
     obtain⟨h10,h⟩:=C9 h
     try simp only[h7,h8,h9,h10,A,B,C,E,F,J]
     refine E20 rec_ h_rec _ _ _ _ _ (G4 rec_ a0 n) ih _ _ h _ ?_
     try simp only[h7,h8,h9,h10,A,B,C,E,F,J,Y]
    ·try simp only[hσ,h7,h8,h9,A94,A,B,C,E,F,J]
     refine E20 rec_ h_rec _ _ _ _ _ (G4 rec_ a0 n) ih _ _ h _ ?_
     try simp only[h7,h8,h9,A,B,C,E,F,J,Y]
   ·try simp only[hσ,h7,h8,A94,B04,A,B,C,E,F,J]
    cases h
    exact⟨⟨V,⟨⟩⟩,[90000,90001],by decide,by decide,V,V⟩
  ·try simp only[hσ,h7,A94,B04,A,B,C,E,F,J]
   cases h
   exact⟨⟨V,⟨⟩⟩,[90000,90001],by decide,by decide,V,V⟩
theorem F2q:A5 X 130=H (cc491.strip,[2],126):=by kernel_rfl
theorem B3k(rec_:Xj→O (Q × Xj))(a0:Xj)(r:Q × Xj)(h_rec:∀(a0:Xj) zr,rec_ a0=H zr→FCz X 130 [.p] (K9 a0) (L0 a0) (K9 zr.2) (L0 zr.2) [.sc (.v (.bool zr.1))])(h:A0d rec_ a0=H r):FCz X 130 [.p] (K9 a0) (L0 a0) (K9 r.2) (L0 r.2) [.sc (.v (.bool r.1))]:=by
 unfold A0d at h
 refine C8c (σ:=⟨[(0,vc (.pb 99999999999 0))],[(99999999999,[aL (W rU a0.sets),aI a0.most,.own 90000,.own 90001])],[(90000,1,W rU a0.groups),(90001,1,W rI a0.who)]⟩) mixed F2q V V V V ?_
 simp only[cc491]
 rcases ic h with ⟨h1,h⟩|⟨h1,h⟩
 ·try simp only[h1,A,B,C,E,F,J]
  cases h
  exact⟨⟨V,⟨⟩⟩,[90000,90001],by decide,by decide,V,V⟩
 ·try simp only[h1,A,B,C,E,F,J]
  refine F2y rec_ h_rec _ _ _ _ _ _ _ _ h _ ?_
  try simp only[h1,A,B,C,E,F,J,Y]
theorem B3a:∀(n:U) (a0:Xj) (r:Q × Xj),G5 n a0=H r→FCz X 130 [.p] (K9 a0) (L0 a0) (K9 r.2) (L0 r.2) [.sc (.v (.bool r.1))]:=by
 intro n
 induction n with
 | zero=>intro _ r h; cases h
 | succ n ih=>intro a0 r h; rw[G5] at h; exact B3k (G5 n) a0 r ih h
theorem B42(a0:Xj)(r:Q × Xj)(h:A6j a0=H r):FCz X 130 [.p] (K9 a0) (L0 a0) (K9 r.2) (L0 r.2) [.sc (.v (.bool r.1))]:=B3a bigN a0 r h
/- 111:impl_LeastCover -/
def cc496:X2:=(.seq (.reg [(L,.mv 6 KN),(L,.mv 7 (K 0)),(L,.mv 8 (KB G))]) (.seq (.seq (.reg [mv 11 0,mv 12 1,mv 13 2,ca 14 127 [S 11,S 12,S 13],nt 15 14]) (.cond (S 15) (.seq (.reg [(L,.mv 6 KN),(L,.mv 7 (K 0)),(L,.mv 8 (KB G))]) .ret) .skip)) (.seq (.reg [mv 16 0,mv 17 1,mv 18 2,ca 19 128 [S 16,S 17,S 18],mv 9 19]) (.seq (.reg [mv 20 9,mv 21 9,ca 22 129 [S 21],(L,.build 23 [.nil,aI 0,.nil,.nil] [(0,1,(S 20)),(1,1,(S 22))]),bo 24 23,(L,.ownb 24 2 152704 1),(L,.ownb 24 3 152768 1),mv 10 24]) (.seq (.reg [mv 25 10,(L,.frz 1216),ca 26 130 [S 25]]) (.seq (.drw [o0 (mv 27 10),o0 (L,.nilc 28 (S 27)),o0 (fa 29 28 3),o0 (ld 30 29),o0 (mv 31 10),o0 (L,.nilc 32 (S 31)),o0 (fa 33 32 1),o0 (ld 34 33),o0 (mv 6 30),o0 (mv 7 34),o0 (L,.mv 8 (KB T))]) .ret))))))
theorem F3j:A5 X 111=H (cc496.strip,[6,7,8],35):=by kernel_rfl
theorem B8j(a0:P)(a1:N P)(a2:N Xg)(r:(N P) × P × Q)(h:Z7 a0 a1 a2=H r):FC X 111 [.sc (.int .i64 a0),.sc (.sl (W rI a1)),.sc (.sl (W Xg.row a2))] [.sc (.o 1 (W rI r.1)),.sc (.v (.int .i64 r.2.1)),.sc (.v (.bool r.2.2))]:=by
 unfold Z7 at h
 refine C3 mixed F3j V ?_
 simp only[cc496,A,B,C,E,F,J]
 obtain⟨r1,h1,h⟩:=ob h
 try simp only[A,B,C,E,F,J]
 refine A2 (B8z _ _ _ _ h1) V V (uf V) ?_
 rcases ic h with ⟨h2,h⟩|⟨h2,h⟩
 ·obtain⟨r3,h3,h⟩:=ob h
  try simp only[h2,A,B,C,E,F,J]
  refine A2 (B97 _ _ _ _ h3) V V (uf V) ?_
  obtain⟨r4,h4,h⟩:=ob h
  try simp only[h2,A,B,C,E,F,J]
  refine P4 (B5g _ _ h4) V (N9 V) V (uf V) ?_
  try simp only[h2,A,B,C,E,F,J]
  refine B2 V V V ?_
  try simp only[h2,A,B,C,E,F,J]
  refine A4p (cs':= [.own 1216,aI r4,.own 152704,.nil]) V V V V ?_
  try simp only[h2,A,B,C,E,F,J]
  refine A4p (cs':= [.own 1216,aI r4,.own 152704,.own 152768]) V V V V ?_
  try simp only[h2,A,B,C,E,F,J]
  refine N7 V ?_
  obtain⟨r5,h5,h⟩:=ob h
  try simp only[h2,A,B,C,E,F,J]
  refine A9z (B42 _ _ h5) 24 [152704,152768] rfl V V V (by decide) V V V ?_
  try simp only[h2,A,B,C,E,F,J]
  refine B3 V ?_
  try simp only[h2,A,B,C,E,F,J]
  cases h
  trivial
 ·try simp only[h2,A,B,C,E,F,J]
  cases h
  trivial
/- 90:impl_coverFits -/
def cc498:X2:=(.seq (.reg [(L,.mv 8 (KB G))]) (.seq (.seq (.reg [mv 12 2,ln 13 12,mv 14 3,bn 15 .leq 13 14]) (.cond (S 15) (.seq (.reg [(L,.mv 8 (KB T))]) .ret) .skip)) (.seq (.reg [mv 17 0,mv 18 1,mv 19 2,ca 20 111 [S 17,S 18,S 19],mv 16 20,xt 21 16 0,xt 22 16 1,xt 23 16 2,mv 9 21,mv 10 22,mv 11 23]) (.seq (.reg [mv 24 10,mv 25 3,bn 26 .leq 24 25,mv 8 26]) .ret))))
theorem F2n:A5 X 90=H (cc498.strip,[8],27):=by kernel_rfl
theorem B19(a0:P)(a1:N P)(a2:N Xg)(a3:P)(r:Q)(h:A2d a0 a1 a2 a3=H r):FC X 90 [.sc (.int .i64 a0),.sc (.sl (W rI a1)),.sc (.sl (W Xg.row a2)),.sc (.int .i64 a3)] [.sc (.v (.bool r))]:=by
 unfold A2d at h
 refine C3 mixed F2n V ?_
 simp only[cc498,A,B,C,E,F,J]
 rcases ic h with ⟨h1,h⟩|⟨h1,h⟩
 ·try simp only[h1,A,B,C,E,F,J]
  cases h
  trivial
 ·obtain⟨r2,h2,h⟩:=ob h
  try simp only[h1,A,B,C,E,F,J]
  refine A2 (B8j _ _ _ _ h2) V V (uf V) ?_
  try simp only[h1,A,B,C,E,F,J]
  cases h
  trivial
/- 65:impl_crewFits -/
def C6j:X2:= .seq (.reg [(L,.keep [2,5,6,13,14,15] [2] [704,768])]) (.seq (.reg [bn 16 .lss 15 14]) (.seq (.cond (S 16) .skip (.exit 0)) (.seq (.block 1 (.seq (.reg [ia 17 13 15 4,lw 18 17 4,(L,.alloc 8 [aI 0,aI 0,aI 0,.nil]),so 8 18 4]) (.seq (.reg [mv 19 5,fa 20 8 3,ld 21 20,(L,.app 22 5 40 (S 19) (S 21)),mv 5 22]) (.seq (.reg [fa 23 8 3,ld 24 23,ln 25 24,(L,.bin 26 .gtr (S 25) (K 0))]) (.cond (S 26) (.drw [(H [42,43],mv 27 6),o0 (fa 28 2 3),o0 (lw 29 28 2),o0 (fa 30 8 3),o0 (ld 31 30),o0 (L,.iaddr 32 (S 31) (K 0) 5),o0 (lw 33 32 5),o0 (fa 34 8 3),o0 (ld 35 34),o0 (fa 36 8 3),o0 (ld 37 36),o0 (ln 38 37),o0 (L,.bin 39 .sub (S 38) (K 1)),o0 (ia 40 35 39 5),o0 (lw 41 40 5),o0 (ca 42 88 [S 29,S 33,S 41]),o0 (L,.bslice 43 4 [.int .i64 0,.int .i64 0,.int .i64 0,.int .i64 0] 1 [(0,(S 42))]),(L,(L,.app 44 4 32 (S 27) (S 43))),o0 (mv 6 44)]) .skip))))) (.reg [(L,.bin 45 .add (S 15) (K 1)),mv 15 45]))))
def D4a:X2:=(.seq (.reg [fa 47 2 3,lw 48 47 2,fa 49 2 5,ld 50 49,mv 51 5,ca 52 89 [S 48,S 50,S 51],mv 46 52,xt 53 46 0,xt 54 46 1,mv 9 53,mv 10 54]) (.seq (.reg [mv 55 10,mv 56 55,(H (56,T),.faddr 57 (S 2) 8),(H (56,T),.faddr 58 (S 57) 3),(H (56,T),.load 59 (S 58) G 1),(H (56,T),.mv 60 (S 9)),(H (56,T),.faddr 61 (S 2) 8),(H (56,T),.faddr 62 (S 61) 0),(H (56,T),.load 63 (S 62) G 1),(H (56,T),.call 64 90 [(K 0),(S 59),(S 60),(S 63)]),pa 65 56 64,mv 66 65,(H (66,T),.faddr 67 (S 2) 8),(H (66,T),.faddr 68 (S 67) 2),(H (66,T),.load 69 (S 68) G 1),(H (66,T),.faddr 70 (S 2) 8),(H (66,T),.faddr 71 (S 70) 3),(H (66,T),.load 72 (S 71) G 1),(H (66,T),.mv 73 (S 6)),(H (66,T),.faddr 74 (S 2) 8),(H (66,T),.faddr 75 (S 74) 1),(H (66,T),.load 76 (S 75) G 1),(H (66,T),.call 77 90 [(S 69),(S 72),(S 73),(S 76)]),pa 78 66 77,mv 4 78]) .ret))
def cc502:X2:=(.seq (.reg [bo 2 0,(L,.mv 4 (KB G))]) (.seq (.reg [(L,.bslice 11 5 [.int .i64 0,.int .i64 0,.bool G,.int .i64 0,.int .i64 0] 0 []),(L,.bslice 12 4 [.int .i64 0,.int .i64 0,.int .i64 0,.int .i64 0] 0 []),mv 5 11,mv 6 12]) (.seq (.seq (.reg [mv 13 1,ln 14 13,(L,.mv 15 (K 0))]) (.block 0 (.loop C6j))) D4a)))
theorem F7a(a1:N X0)(a0:X4):∀(n:U) (v1:P) (v2:N X5) (v3:N Xg) (r:Q),T4 a1 a0 n v1 v2 v3=H r→∀σ:St,σ.kept [2,5,6,13,14,15] [2] [704,768]=⟨[(2,vc (.pb 2 0)),(5,vc (.own 704)),(6,vc (.own 768)),(13,vc (aL (W X0.row a1))),(14,vc (aI (a1.length:P))),(15,vc (aI v1))],[(2,(dm a0.row))],[(704,5,W X5.row v2),(768,4,W Xg.row v3)]⟩→go X (.code (.loop C6j):: [.blk 0,.code D4a]) (Ret [4] [.sc (.v (.bool r))]) .normal (H σ):=by
 intro n
 induction n with
 | zero=>intro _ _ _ r h; cases h
 | succ n ih=>
  intro v1 v2 v3 r h σ hσ
  rw[T4] at h
  refine B5 ?_
  rcases ic h with ⟨h4,h⟩|⟨h4,h⟩
  ·obtain⟨x5,h5,h⟩:=ob h
   try simp only[hσ,h4,h5,C6j,A,B,C,E,F,J]
   refine B7 V V ?_
   obtain⟨h6,h⟩:=C9 h
   rcases ic h with ⟨h7,h⟩|⟨h7,h⟩
   ·try simp only[h4,h5,h6,h7,A,B,C,E,F,J]
    refine B3 V ?_
    obtain⟨x8,h8,h⟩:=ob h
    obtain⟨x9,h9,h⟩:=ob h
    obtain⟨r10,h10,h⟩:=ob h
    try simp only[h4,h5,h6,h7,h8,h9,A,B,C,E,F,J]
    refine E1 (B8u _ _ _ _ h10) V V (uf V) ?_
    try simp only[h4,h5,h6,h7,h8,h9,A,B,C,E,F,J]
    refine D6 (es:=W Xg.row ([r10]:N Xg)) V V ?_
    obtain⟨h11,h⟩:=C9 h
    try simp only[h4,h5,h6,h7,h8,h9,h11,A,B,C,E,F,J]
    refine B3 V ?_
    try simp only[h4,h5,h6,h7,h8,h9,h11,A,B,C,E,F,J]
    refine ih _ _ _ _ h _ ?_
    try simp only[h4,h5,h6,h7,h8,h9,h11,A,B,C,E,F,J,Y]
   ·try simp only[h4,h5,h6,h7,A,B,C,E,F,J]
    refine ih _ _ _ _ h _ ?_
    try simp only[h4,h5,h6,h7,A,B,C,E,F,J,Y]
  ·obtain⟨r12,h12,h⟩:=ob h
   try simp only[hσ,h4,C6j,D4a,A,B,C,E,F,J]
   refine P4 (B9p _ _ _ _ h12) V (A7r V ⟨A7m,V,⟨⟩⟩) V (uf V) ?_
   rcases ic h with ⟨h13,h⟩|⟨h13,h⟩
   ·obtain⟨r14,h14,h⟩:=ob h
    try simp only[h4,h13,A,B,C,E,F,J]
    refine P4 (B19 _ _ _ _ _ h14) V (N9 V) V (uf V) ?_
    rcases ic h with ⟨h15,h⟩|⟨h15,h⟩
    ·obtain⟨r16,h16,h⟩:=ob h
     try simp only[h4,h13,h15,A,B,C,E,F,J]
     refine P4 (B19 _ _ _ _ _ h16) V (N9 V) V (uf V) ?_
     try simp only[h4,h13,h15,A,B,C,E,F,J]
     cases h
     trivial
    ·try simp only[h4,h13,h15,A,B,C,E,F,J]
     cases h
     trivial
   ·try simp only[h4,h13,A,B,C,E,F,J]
    cases h
    trivial
theorem F3a:A5 X 65=H (cc502.strip,[4],79):=by kernel_rfl
theorem C1f(a0:X4)(a1:N X0)(r:Q)(h:V0 a0 a1=H r):FC X 65 [.ag (X4.row a0),.sc (.sl (W X0.row a1))] [.sc (.v (.bool r))]:=by
 unfold V0 at h
 refine C3 mixed F3a V ?_
 simp only[cc502,A,B,C,E,F,J]
 try simp only[A,B,C,E,F,J]
 refine B2 V V V ?_
 try simp only[A,B,C,E,F,J]
 refine D6 (es:=W X5.row ([]:N X5)) V V ?_
 try simp only[A,B,C,E,F,J]
 refine D6 (es:=W Xg.row ([]:N Xg)) V V ?_
 try simp only[A,B,C,E,F,J]
 refine F7a _ _ _ _ _ _ _ h _ ?_
 try simp only[A,B,C,E,F,J,Y]
/- 35:impl_fitsTo -/
def A19:N (N U × AItem):= [([],(L,.load 25 (S 3) T 12)),([],(L,.mv 26 (S 1))),([1],(L,.call 27 66 [(S 26)])),([],(L,.load 28 (S 5) T 4)),([3],(L,.bslice 29 4 [.int .i64 0,.int .i64 0,.int .i64 0,.sl []] 1 [(0,(S 28))])),([2,4,2],(L,.app 30 4 48 (S 27) (S 29))),([0,5,5],(L,.call 31 65 [(S 25),(S 30)])),([6,6,0,1,2,3,4,5,6],(L,.mv 6 (S 31)))]
def C50:X2:= .seq (.reg [(L,.keep [1,3,5,9,10,11] [3,5] [])]) (.seq (.reg [bn 12 .lss 11 10]) (.seq (.cond (S 12) .skip (.exit 0)) (.seq (.block 1 (.seq (.reg [ia 13 9 11 4,lw 14 13 4,(L,.alloc 8 [aI 0,aI 0,aI 0,.nil]),so 8 14 4]) (.seq (.reg [fa 15 3 3,lw 16 15 2,fa 17 3 6,lw 18 17 2,fa 19 8 3,ld 20 19,fa 21 5 3,ld 22 21,ca 23 64 [S 16,S 18,S 20,S 22]]) (.cond (S 23) (.seq (.reg [(L,.mv 6 (KB G))]) .ret) .skip)))) (.reg [(L,.bin 24 .add (S 11) (K 1)),mv 11 24]))))
def D3l:X2:=(.seq (.any A19) .ret)
def cc507:X2:=(.seq (.reg [bo 3 0,bo 5 2,(L,.mv 6 (KB G))]) (.seq (.seq (.reg [mv 9 1,ln 10 9,(L,.mv 11 (K 0))]) (.block 0 (.loop C50))) D3l))
abbrev E7(a1:N X0)(a0:X4)(a2:X0)(r9:Q)(wo2_:AV)(c0_ c1_:Q)(c2_ c3_:Q)(c4_ c5_:Q)(c6_ c7_:Q)(bx_:N (U × N AC))(rs_:Rows):St:=⟨[(1,vc (aL (W X0.row a1))),(3,vc (.pb 3 0)),(5,vc (.pb 5 0)),(25,bif c0_ then va (dm a0.row) else .undef),(26,bif c1_ then vc (aL (W X0.row a1)) else .undef),(27,bif c2_ then wo2_ else .undef),(28,bif c3_ then va (dm a2.row) else .undef),(29,bif c4_ then vc (.own 1856) else .undef),(30,bif c5_ then vc (.own 1728) else .undef),(31,bif c6_ then vc (aB r9) else .undef),(6,bif c7_ then vc (aB r9) else .undef)],bx_,rs_⟩
abbrev Z0(a1:N X0)(a0:X4)(a2:X0)(r6:(N X0))(r9:Q):St:=(E7 a1 a0 a2 r9 (vc (.undef)) T T T T T T T T [(3,(dm a0.row)),(5,(dm a2.row))] [(1728,4,W X0.row (r6++([a2]:N X0))),(1856,4,W X0.row ([a2]:N X0))])
theorem F58(a1:N X0)(a0:X4)(a2:X0)(r6:(N X0))(r9:Q)(h6:K0 a1=H r6)(h7:(B9 r6.length ([a2]:N X0).length 48)=T)(h9:V0 a0 (r6++([a2]:N X0))=H r9):∀(f:U) (b0 b6 b7:Q),E0 X A19 (Z0 a1 a0 a2 r6 r9) f [b0,T,T,T,T,T,b6,b7] (E7 a1 a0 a2 r9 (vc (.undef)) b0 T T T T T b6 b7 [(3,(dm a0.row)),(5,(dm a2.row))] [(1728,4,W X0.row (r6++([a2]:N X0))),(1856,4,W X0.row ([a2]:N X0))]):=by
 intro f
 induction f with
 | zero=>
  intro b0 b6 b7 h
  obtain rfl:b0=T:=zA.1 h b0 (by simp)
  obtain rfl:b6=T:=zA.1 h b6 (by simp)
  obtain rfl:b7=T:=zA.1 h b7 (by simp)
  rfl
 | succ f ih=>
  intro b0 b6 b7
  refine A9 ⟨?_,?_,?_,?_,?_,?_,?_,?_,⟨⟩⟩<;>try first | (intro h; cases h; done) | (intro h0 hw; obtain rfl:=hz h0 rfl; (try obtain rfl:=hq hw 0 rfl rfl); (try obtain rfl:=hq hw 6 rfl rfl); refine np ?_; simp only[E7,cdt,cdf,A1,A,B,C,E,F,J]; exact ih _ _ _)
  ·intro h0 hw
   obtain rfl:=hz h0 rfl
   obtain rfl:=hq hw 0 rfl rfl
   refine np ?_
   try simp only[E7,cdt,cdf,A1,A,B,C,E,F,J]
   refine P4 (C1f _ _ _ h9) V (N9 V) (by simp only[St.fresh,Z,I,H5]; simp[AV.cells,V1.cells,AC.uses]) (uf V) ?_
   try simp only[A1,A,B,C,E,F,J]
   exact ih T T b7
theorem E2n(a1:N X0)(a0:X4)(a2:X0)(r6:(N X0))(r9:Q)(h6:K0 a1=H r6)(h7:(B9 r6.length ([a2]:N X0).length 48)=T)(h9:V0 a0 (r6++([a2]:N X0))=H r9):∀(f:U) (b0:Q),E0 X A19 (Z0 a1 a0 a2 r6 r9) f [b0,T,T,T,T,G,G,G] (E7 a1 a0 a2 r9 (vc (.own 1728)) b0 T T T T G G G [(3,(dm a0.row)),(5,(dm a2.row))] [(1728,4,W X0.row r6),(1856,4,W X0.row ([a2]:N X0))]):=by
 intro f
 induction f with
 | zero=>intro b0 h; simp at h
 | succ f ih=>
  intro b0
  refine A9 ⟨?_,?_,?_,?_,?_,?_,?_,?_,⟨⟩⟩<;>try first | (intro h; cases h; done) | (intro _ hw; simp at hw; done) | (intro h0 hw; obtain rfl:=hz h0 rfl; refine np ?_; simp only[E7,cdt,cdf,A1,A,B,C,E,F,J]; exact ih _)
  ·intro h0 hw
   refine np ?_
   try simp only[h7,E7,cdt,cdf,A1,A,B,C,E,F,J]
   exact F58 a1 a0 a2 r6 r9 h6 h7 h9 _ b0 G G
theorem F1z(a1:N X0)(a0:X4)(a2:X0)(r6:(N X0))(r9:Q)(h6:K0 a1=H r6)(h7:(B9 r6.length ([a2]:N X0).length 48)=T)(h9:V0 a0 (r6++([a2]:N X0))=H r9):∀(f:U) (b0 b3:Q),E0 X A19 (Z0 a1 a0 a2 r6 r9) f [b0,T,T,b3,G,G,G,G] (E7 a1 a0 a2 r9 (vc (.own 1728)) b0 T T b3 G G G G [(3,(dm a0.row)),(5,(dm a2.row))] [(1728,4,W X0.row r6)]):=by
 intro f
 induction f with
 | zero=>intro b0 b3 h; simp at h
 | succ f ih=>
  intro b0 b3
  refine A9 ⟨?_,?_,?_,?_,?_,?_,?_,?_,⟨⟩⟩<;>try first | (intro h; cases h; done) | (intro _ hw; simp at hw; done) | (intro h0 hw; obtain rfl:=hz h0 rfl; refine np ?_; simp only[E7,cdt,cdf,A1,A,B,C,E,F,J]; exact ih _ _)
  ·intro h0 hw
   obtain rfl:=hq hw 3 rfl rfl
   refine np ?_
   try simp only[E7,cdt,cdf,A1,A,B,C,E,F,J]
   refine D6 (es:=W X0.row ([a2]:N X0)) V (by simp only[St.fresh,Z,I,H5]; simp[AV.cells,V1.cells,AC.uses]) ?_
   try simp only[A1,A,B,C,E,F,J]
   exact E2n a1 a0 a2 r6 r9 h6 h7 h9 _ b0
theorem F73(a1:N X0)(a0:X4)(a2:X0)(r6:(N X0))(r9:Q)(h6:K0 a1=H r6)(h7:(B9 r6.length ([a2]:N X0).length 48)=T)(h9:V0 a0 (r6++([a2]:N X0))=H r9):∀(f:U) (b0 b1:Q),E0 X A19 (Z0 a1 a0 a2 r6 r9) f [b0,b1,G,T,T,G,G,G] (E7 a1 a0 a2 r9 (vc (.own 1728)) b0 b1 G T T G G G [(3,(dm a0.row)),(5,(dm a2.row))] [(1856,4,W X0.row ([a2]:N X0))]):=by
 intro f
 induction f with
 | zero=>intro b0 b1 h; simp at h
 | succ f ih=>
  intro b0 b1
  refine A9 ⟨?_,?_,?_,?_,?_,?_,?_,?_,⟨⟩⟩<;>try first | (intro h; cases h; done) | (intro _ hw; simp at hw; done) | (intro h0 hw; obtain rfl:=hz h0 rfl; refine np ?_; simp only[E7,cdt,cdf,A1,A,B,C,E,F,J]; exact ih _ _)
  ·intro h0 hw
   obtain rfl:=hq hw 1 rfl rfl
   refine⟨[],[(L,.keep [1,3,5,25,26,27,28,29,30,31,6] [3,5] [1728,1856])],V,V,?_⟩
   try simp only[E7,cdt,cdf,zC,zB,A1,A,B,C,E,F,J]
   refine A2 (A9l _ _ h6) V (by simp only[St.fresh,Z,I,H5]; simp[AV.cells,V1.cells,AC.uses]) (uf V) ?_
   try simp only[A1,A,B,C,E,F,J]
   exact E2n a1 a0 a2 r6 r9 h6 h7 h9 _ b0
theorem F3l(a1:N X0)(a0:X4)(a2:X0)(r6:(N X0))(r9:Q)(h6:K0 a1=H r6)(h7:(B9 r6.length ([a2]:N X0).length 48)=T)(h9:V0 a0 (r6++([a2]:N X0))=H r9):∀(f:U) (b0 b1 b3:Q),E0 X A19 (Z0 a1 a0 a2 r6 r9) f [b0,b1,G,b3,G,G,G,G] (E7 a1 a0 a2 r9 (vc (.own 1728)) b0 b1 G b3 G G G G [(3,(dm a0.row)),(5,(dm a2.row))] []):=by
 intro f
 induction f with
 | zero=>intro b0 b1 b3 h; simp at h
 | succ f ih=>
  intro b0 b1 b3
  refine A9 ⟨?_,?_,?_,?_,?_,?_,?_,?_,⟨⟩⟩<;>try first | (intro _ hw; simp at hw; done) | (intro h0 hw; obtain rfl:=hz h0 rfl; refine np ?_; simp only[E7,cdt,cdf,A1,A,B,C,E,F,J]; exact ih _ _ _)
  ·intro h0 hw
   obtain rfl:=hq hw 1 rfl rfl
   refine np ?_
   try simp only[E7,cdt,cdf,A1,A,B,C,E,F,J]
   refine A2 (A9l _ _ h6) V (by simp only[St.fresh,Z,I,H5]; simp[AV.cells,V1.cells,AC.uses]) (uf V) ?_
   try simp only[A1,A,B,C,E,F,J]
   exact F1z a1 a0 a2 r6 r9 h6 h7 h9 _ b0 b3
  ·intro h0 hw
   obtain rfl:=hq hw 3 rfl rfl
   refine np ?_
   try simp only[E7,cdt,cdf,A1,A,B,C,E,F,J]
   refine D6 (es:=W X0.row ([a2]:N X0)) V (by simp only[St.fresh,Z,I,H5]; simp[AV.cells,V1.cells,AC.uses]) ?_
   try simp only[A1,A,B,C,E,F,J]
   exact F73 a1 a0 a2 r6 r9 h6 h7 h9 _ b0 b1
theorem F3d(a1:N X0)(a0:X4)(a2:X0):∀(n:U) (v1:P) (r:Q),A1c a1 a0 a2 n v1=H r→∀σ:St,σ.kept [1,3,5,9,10,11] [3,5] []=⟨[(1,vc (aL (W X0.row a1))),(3,vc (.pb 3 0)),(5,vc (.pb 5 0)),(9,vc (aL (W X0.row a1))),(10,vc (aI (a1.length:P))),(11,vc (aI v1))],[(3,(dm a0.row)),(5,(dm a2.row))],[]⟩→go X (.code (.loop C50):: [.blk 0,.code D3l]) (Ret [6] [.sc (.v (.bool r))]) .normal (H σ):=by
 intro n
 induction n with
 | zero=>intro _ r h; cases h
 | succ n ih=>
  intro v1 r h σ hσ
  rw[A1c] at h
  refine B5 ?_
  rcases ic h with ⟨h2,h⟩|⟨h2,h⟩
  ·obtain⟨x3,h3,h⟩:=ob h
   try simp only[hσ,h2,h3,C50,A,B,C,E,F,J]
   refine B7 V V ?_
   obtain⟨r4,h4,h⟩:=ob h
   try simp only[h2,h3,A,B,C,E,F,J]
   refine A2 (C2h _ _ _ _ _ h4) V V (uf V) ?_
   rcases ic h with ⟨h5,h⟩|⟨h5,h⟩
   ·try simp only[h2,h3,h5,A,B,C,E,F,J]
    cases h
    trivial
   ·try simp only[h2,h3,h5,A,B,C,E,F,J]
    refine ih _ _ h _ ?_
    try simp only[h2,h3,h5,A,B,C,E,F,J,Y]
  ·try simp only[hσ,h2,C50,D3l,A,B,C,E,F,J]
   obtain⟨r6,h6,h⟩:=ob h
   obtain⟨h7,h⟩:=C9 h
   obtain⟨r9,h9,h⟩:=ob h
   refine A3l (ks:= [1,3,5]) (bs:= [3,5]) (rs:= []) (τ:=(Z0 a1 a0 a2 r6 r9)) V (F3l a1 a0 a2 r6 r9 h6 h7 h9 _ G G G) ?_
   simp only[Z0,E7,cdt]
   try simp only[h2,h7,A,B,C,E,F,J]
   cases h
   trivial
theorem F5a:A5 X 35=H (cc507.strip,[6],32):=by kernel_rfl
theorem B5c(a0:X4)(a1:N X0)(a2:X0)(r:Q)(h:A26 a0 a1 a2=H r):FC X 35 [.ag (X4.row a0),.sc (.sl (W X0.row a1)),.ag (X0.row a2)] [.sc (.v (.bool r))]:=by
 unfold A26 at h
 refine C3 mixed F5a V ?_
 simp only[cc507,A,B,C,E,F,J]
 try simp only[A,B,C,E,F,J]
 refine B2 V V V ?_
 try simp only[A,B,C,E,F,J]
 refine B2 V V V ?_
 try simp only[A,B,C,E,F,J]
 refine F3d _ _ _ _ _ _ h _ ?_
 try simp only[A,B,C,E,F,J,Y]
/- 74:impl_planner_search -/
def Q2:N (N U × AItem):= [([],(L,.mv 40 (S 0))),([],(L,.mv 41 (S 0))),([],(L,.mv 42 (S 0))),([],(L,.mv 43 (S 0))),([3],(L,.nilc 44 (S 43))),([4],(L,.faddr 45 (S 44) 15)),([5],(L,.load 46 (S 45) G 1)),([6],(L,.call 47 21 [(S 46)])),([],(L,.load 48 (S 2) T 2)),([0,0,3,4,5,6,7],(L,.nilc 49 (S 40))),([9,0,3,4,5,6,7],(L,.faddr 50 (S 49) 16)),([10,7,7,0,3,4,5,6,7],(L,.store (S 50) (S 47) 1)),([1,0,1,3,4,5,6,7,8,9,10,11],(L,.nilc 51 (S 41))),([12,0,1,3,4,5,6,7,8,9,10,11],(L,.faddr 52 (S 51) 17)),([13,8,11,0,1,3,4,5,6,7,8,9,10,11],(L,.store (S 52) (S 48) 2)),([2,0,1,2,3,4,5,6,7,8,9,10,11,12,13,14],(L,.nilc 53 (S 42))),([15,0,1,2,3,4,5,6,7,8,9,10,11,12,13,14],(L,.faddr 54 (S 53) 19)),([16,14,0,1,2,3,4,5,6,7,8,9,10,11,12,13,14],(L,.store (S 54) (KB T) 1))]
def G6:N (N U × AItem):= [([],(L,.mv 79 (S 0))),([],(L,.mv 80 (S 0))),([],(L,.mv 81 (S 0))),([2],(L,.nilc 82 (S 81))),([3],(L,.faddr 83 (S 82) 14)),([4],(L,.load 84 (S 83) G 1)),([],(L,.load 85 (S 5) T 4)),([6],(L,.bslice 86 4 [.int .i64 0,.int .i64 0,.int .i64 0,.sl []] 1 [(0,(S 85))])),([5,7],(L,.app 87 4 48 (S 84) (S 86))),([],(L,.mv 88 (S 0))),([9],(L,.nilc 89 (S 88))),([10],(L,.faddr 90 (S 89) 15)),([11],(L,.load 91 (S 90) G 1)),([],(L,.mv 92 (S 4))),([13],(L,.bslice 93 1 [.int .i64 0] 1 [(0,(S 92))])),([12,14,8],(L,.app 94 1 8 (S 91) (S 93))),([0,0,2,3,4,5,6,7,8,12,15],(L,.nilc 95 (S 79))),([16,0,2,3,4,5,6,7,8,12,15],(L,.faddr 96 (S 95) 14)),([17,8,15,0,2,3,4,5,6,7,8,12,15],(L,.store (S 96) (S 87) 1)),([1,0,1,2,3,4,5,6,7,8,9,10,11,12,13,14,15,16,17,18],(L,.nilc 97 (S 80))),([19,0,1,2,3,4,5,6,7,8,9,10,11,12,13,14,15,16,17,18],(L,.faddr 98 (S 97) 15)),([20,15,18,0,1,2,3,4,5,6,7,8,9,10,11,12,13,14,15,16,17,18],(L,.store (S 98) (S 94) 1))]
def J7:N (N U × AItem):= [([],(L,.mv 101 (S 0))),([],(L,.mv 102 (S 0))),([],(L,.mv 103 (S 0))),([2],(L,.nilc 104 (S 103))),([3],(L,.faddr 105 (S 104) 14)),([4],(L,.load 106 (S 105) G 1)),([],(L,.mv 107 (S 3))),([5,6],(L,.slc 108 4 (S 106) L (H (S 107)) L)),([],(L,.mv 109 (S 0))),([8],(L,.nilc 110 (S 109))),([9],(L,.faddr 111 (S 110) 15)),([10],(L,.load 112 (S 111) G 1)),([],(L,.mv 113 (S 3))),([11,12],(L,.slc 114 1 (S 112) L (H (S 113)) L)),([0,0,2,3,4,5,6,7,11],(L,.nilc 115 (S 101))),([14,0,2,3,4,5,6,7,11],(L,.faddr 116 (S 115) 14)),([15,7,0,2,3,4,5,6,7,11],(L,.store (S 116) (S 108) 1)),([1,0,1,2,3,4,5,6,7,8,9,10,11,12,13,14,15,16],(L,.nilc 117 (S 102))),([17,0,1,2,3,4,5,6,7,8,9,10,11,12,13,14,15,16],(L,.faddr 118 (S 117) 15)),([18,13,16,0,1,2,3,4,5,6,7,8,9,10,11,12,13,14,15,16],(L,.store (S 118) (S 114) 1))]
def C5c:X2:= .seq (.reg [(L,.keep [0,3,61,62,63] [99999999999] [90000,90001,90002])]) (.seq (.reg [bn 64 .lss 63 62]) (.seq (.cond (S 64) .skip (.exit 0)) (.seq (.block 1 (.seq (.reg [mv 65 63,ia 66 61 63 4,lw 67 66 4,(L,.alloc 5 [aI 0,aI 0,aI 0,.nil]),mv 4 65,so 5 67 4]) (.seq (.seq (.drw [o0 (mv 68 0),o0 (L,.nilc 69 (S 68)),o0 (fa 70 69 0),o0 (lw 71 70 12),o0 (mv 72 0),o0 (L,.nilc 73 (S 72)),o0 (fa 74 73 14),o0 (ld 75 74),o0 (lw 76 5 4),o0 (ca 77 35 [S 71,S 75,S 76]),o0 (nt 78 77)]) (.cond (S 78) (.exit 1) .skip)) (.seq (.any G6) (.seq (.cal [mv 99 0] 100 74 [(S 99)]) (.any J7)))))) (.reg [(L,.bin 119 .add (S 63) (K 1)),mv 63 119]))))
def C64:X2:= .seq (.reg [(L,.keep [0,2] [99999999999,2] [90000,90001,90002])]) (.seq (.reg [mv 28 0,(L,.nilc 29 (S 28)),fa 30 29 14,ld 31 30,ln 32 31,mv 3 32]) (.seq (.seq (.reg [mv 33 3,mv 34 0,(L,.nilc 35 (S 34)),fa 36 35 12,ld 37 36,ln 38 37,bn 39 .eql 33 38]) (.cond (S 39) (.seq (.any Q2) .ret) .skip)) (.seq (.reg [mv 55 0,(L,.nilc 56 (S 55)),fa 57 56 12,ld 58 57,mv 59 3,ia 60 58 59 1,ld 61 60,ln 62 61,(L,.mv 63 (K 0))]) (.block 0 (.loop C5c)))))
def cc517:X2:=(.seq (.drw [(H [2],mv 6 0),(H [2],(L,.nilc 7 (S 6))),(H [2],fa 8 7 13),(H [2],ld 9 8),(H [2],mv 10 0),(H [2],(L,.nilc 11 (S 10))),(H [2],fa 12 11 14),(H [2],ld 13 12),(H [2],(L,.callv 14 (S 9) [(S 13)])),(H [14],(L,.alloc 2 [aI 0,aI 0])),(L,so 2 14 2)]) (.seq (.seq (.drw [o0 (mv 15 0),o0 (L,.nilc 16 (S 15)),o0 (fa 17 16 19),o0 (ld 18 17),o0 (mv 19 18),o0 (H (19,T),.load 20 (S 2) T 2),o0 (H (19,T),.mv 21 (S 0)),o0 (H (19,T),.nilc 22 (S 21)),o0 (H (19,T),.faddr 23 (S 22) 17),o0 (H (19,T),.load 24 (S 23) T 2),o0 (H (19,T),.call 25 98 [(S 20),(S 24)]),o0 (H (19,T),.un 26 .not (S 25)),o0 (pa 27 19 26)]) (.cond (S 27) .ret .skip)) C64))
abbrev D4(r1:Xk)(c0_ c1_:Q)(c2_ c3_:Q)(c4_ c5_:Q)(c6_ c7_:Q)(c8_ c9_:Q)(c10_ c12_:Q)(c13_ c15_ c16_:Q)(bx_:N (U × N AC))(rs_:Rows):St:=⟨[(0,vc (.pb 99999999999 0)),(2,vc (.pb 2 0)),(40,bif c0_ then vc (.pb 99999999999 0) else .undef),(41,bif c1_ then vc (.pb 99999999999 0) else .undef),(42,bif c2_ then vc (.pb 99999999999 0) else .undef),(43,bif c3_ then vc (.pb 99999999999 0) else .undef),(44,bif c4_ then vc (.pb 99999999999 0) else .undef),(45,bif c5_ then vc (.pb 99999999999 15) else .undef),(46,bif c6_ then vc (.own 90001) else .undef),(47,bif c7_ then vc (.own 3008) else .undef),(48,bif c8_ then va [aI r1.i0,aI r1.i1] else .undef),(49,bif c9_ then vc (.pb 99999999999 0) else .undef),(50,bif c10_ then vc (.pb 99999999999 16) else .undef),(51,bif c12_ then vc (.pb 99999999999 0) else .undef),(52,bif c13_ then vc (.pb 99999999999 17) else .undef),(53,bif c15_ then vc (.pb 99999999999 0) else .undef),(54,bif c16_ then vc (.pb 99999999999 19) else .undef)],bx_,rs_⟩
abbrev L1(F_w0:FuncId)(caps_w0:N D)(a0:Xf)(r1:Xk)(r7:(N P)):St:=(D4 r1 T T T T T T T T T T T T T T T [(99999999999,(dm a0.h.row++ [aL (W (rL X0.row) a0.choices),.dat (.clo F_w0 caps_w0),.own 90000,.own 90001,.own 3008,aI r1.i0,aI r1.i1,aB T])),(2,[aI r1.i0,aI r1.i1])] [(90000,4,W X0.row a0.plan),(90001,1,W rI a0.choice),(90002,1,W rI a0.best),(3008,1,W rI r7)])
theorem F7b(F_w0:FuncId)(caps_w0:N D)(a0:Xf)(r1:Xk)(v5:Q)(r7:(N P))(h7:D5 a0.choice=H r7):∀(f:U) (b15:Q),E0 X Q2 (L1 F_w0 caps_w0 a0 r1 r7) f [T,T,T,T,T,T,T,T,T,T,T,T,T,T,T,b15,T,T] (D4 r1 T T T T T T T T T T T T T b15 T [(99999999999,(dm a0.h.row++ [aL (W (rL X0.row) a0.choices),.dat (.clo F_w0 caps_w0),.own 90000,.own 90001,.own 3008,aI r1.i0,aI r1.i1,aB T])),(2,[aI r1.i0,aI r1.i1])] [(90000,4,W X0.row a0.plan),(90001,1,W rI a0.choice),(90002,1,W rI a0.best),(3008,1,W rI r7)]):=by
 intro f
 induction f with
 | zero=>
  intro b15 h
  obtain rfl:b15=T:=zA.1 h b15 (by simp)
  rfl
 | succ f ih=>
  intro b15
  refine A9 ⟨?_,?_,?_,?_,?_,?_,?_,?_,?_,?_,?_,?_,?_,?_,?_,?_,?_,?_,⟨⟩⟩<;>try first | (intro h; cases h; done) | (intro h0 hw; obtain rfl:=hz h0 rfl; refine np ?_; simp only[D4,cdt,cdf,A1,A,B,C,E,F,J]; exact ih _)
theorem F77(F_w0:FuncId)(caps_w0:N D)(a0:Xf)(r1:Xk)(v5:Q)(r7:(N P))(h7:D5 a0.choice=H r7):∀(f:U) (b2 b12:Q) (b15 b16:Q),E0 X Q2 (L1 F_w0 caps_w0 a0 r1 r7) f [T,T,b2,T,T,T,T,T,T,T,T,T,b12,T,T,b15,b16,G] (D4 r1 T T b2 T T T T T T T T b12 T b15 b16 [(99999999999,(dm a0.h.row++ [aL (W (rL X0.row) a0.choices),.dat (.clo F_w0 caps_w0),.own 90000,.own 90001,.own 3008,aI r1.i0,aI r1.i1,aB v5])),(2,[aI r1.i0,aI r1.i1])] [(90000,4,W X0.row a0.plan),(90001,1,W rI a0.choice),(90002,1,W rI a0.best),(3008,1,W rI r7)]):=by
 intro f
 induction f with
 | zero=>intro b2 b12 b15 b16 h; simp at h
 | succ f ih=>
  intro b2 b12 b15 b16
  refine A9 ⟨?_,?_,?_,?_,?_,?_,?_,?_,?_,?_,?_,?_,?_,?_,?_,?_,?_,?_,⟨⟩⟩<;>try first | (intro h; cases h; done) | (intro h0 hw; obtain rfl:=hz h0 rfl; (try obtain rfl:=hq hw 2 rfl rfl); (try obtain rfl:=hq hw 12 rfl rfl); (try obtain rfl:=hq hw 15 rfl rfl); refine np ?_; simp only[D4,cdt,cdf,A1,A,B,C,E,F,J]; exact ih _ _ _ _)
  ·intro h0 hw
   obtain rfl:=hq hw 2 rfl rfl
   obtain rfl:=hq hw 12 rfl rfl
   obtain rfl:=hq hw 16 rfl rfl
   refine np ?_
   try simp only[D4,cdt,cdf,A1,A,B,C,E,F,J]
   exact F7b F_w0 caps_w0 a0 r1 v5 r7 h7 _ b15
theorem F39(F_w0:FuncId)(caps_w0:N D)(a0:Xf)(r1:Xk)(v5:Q)(r7:(N P))(h7:D5 a0.choice=H r7):∀(f:U) (b1 b2:Q) (b8 b9:Q) (b12 b13:Q),E0 X Q2 (L1 F_w0 caps_w0 a0 r1 r7) f [T,b1,b2,T,T,T,T,T,b8,b9,T,T,b12,b13,G,G,G,G] (D4 r1 T b1 b2 T T T T T b8 b9 T b12 b13 G G [(99999999999,(dm a0.h.row++ [aL (W (rL X0.row) a0.choices),.dat (.clo F_w0 caps_w0),.own 90000,.own 90001,.own 3008,aI a0.least.i0,aI a0.least.i1,aB v5])),(2,[aI r1.i0,aI r1.i1])] [(90000,4,W X0.row a0.plan),(90001,1,W rI a0.choice),(90002,1,W rI a0.best),(3008,1,W rI r7)]):=by
 intro f
 induction f with
 | zero=>intro b1 b2 b8 b9 b12 b13 h; simp at h
 | succ f ih=>
  intro b1 b2 b8 b9 b12 b13
  refine A9 ⟨?_,?_,?_,?_,?_,?_,?_,?_,?_,?_,?_,?_,?_,?_,?_,?_,?_,?_,⟨⟩⟩<;>try first | (intro h; cases h; done) | (intro _ hw; simp at hw; done) | (intro h0 hw; obtain rfl:=hz h0 rfl; (try obtain rfl:=hq hw 1 rfl rfl); (try obtain rfl:=hq hw 8 rfl rfl); (try obtain rfl:=hq hw 9 rfl rfl); (try obtain rfl:=hq hw 12 rfl rfl); refine np ?_; simp only[D4,cdt,cdf,A1,A,B,C,E,F,J]; exact ih _ _ _ _ _ _)
  ·intro h0 hw
   obtain rfl:=hq hw 1 rfl rfl
   obtain rfl:=hq hw 8 rfl rfl
   obtain rfl:=hq hw 9 rfl rfl
   obtain rfl:=hq hw 13 rfl rfl
   refine np ?_
   try simp only[D4,cdt,cdf,A1,A,B,C,E,F,J]
   exact F77 F_w0 caps_w0 a0 r1 v5 r7 h7 _ b2 b12 G G
theorem F4c(F_w0:FuncId)(caps_w0:N D)(a0:Xf)(r1:Xk)(v5:Q)(r7:(N P))(h7:D5 a0.choice=H r7):∀(f:U) (b0 b1:Q) (b2 b3:Q) (b4 b5:Q) (b8 b9 b10:Q),E0 X Q2 (L1 F_w0 caps_w0 a0 r1 r7) f [b0,b1,b2,b3,b4,b5,T,T,b8,b9,b10,G,G,G,G,G,G,G] (D4 r1 b0 b1 b2 b3 b4 b5 T T b8 b9 b10 G G G G [(99999999999,(dm a0.h.row++ [aL (W (rL X0.row) a0.choices),.dat (.clo F_w0 caps_w0),.own 90000,.own 90001,.own 90002,aI a0.least.i0,aI a0.least.i1,aB v5])),(2,[aI r1.i0,aI r1.i1])] [(90000,4,W X0.row a0.plan),(90001,1,W rI a0.choice),(90002,1,W rI a0.best),(3008,1,W rI r7)]):=by
 intro f
 induction f with
 | zero=>intro b0 b1 b2 b3 b4 b5 b8 b9 b10 h; simp at h
 | succ f ih=>
  intro b0 b1 b2 b3 b4 b5 b8 b9 b10
  refine A9 ⟨?_,?_,?_,?_,?_,?_,?_,?_,?_,?_,?_,?_,?_,?_,?_,?_,?_,?_,⟨⟩⟩<;>try first | (intro h; cases h; done) | (intro _ hw; simp at hw; done) | (intro h0 hw; obtain rfl:=hz h0 rfl; (try obtain rfl:=hq hw 0 rfl rfl); (try obtain rfl:=hq hw 3 rfl rfl); (try obtain rfl:=hq hw 4 rfl rfl); (try obtain rfl:=hq hw 5 rfl rfl); (try obtain rfl:=hq hw 9 rfl rfl); refine np ?_; simp only[D4,cdt,cdf,A1,A,B,C,E,F,J]; exact ih _ _ _ _ _ _ _ _ _)
  ·intro h0 hw
   obtain rfl:=hq hw 0 rfl rfl
   obtain rfl:=hq hw 3 rfl rfl
   obtain rfl:=hq hw 4 rfl rfl
   obtain rfl:=hq hw 5 rfl rfl
   obtain rfl:=hq hw 10 rfl rfl
   refine np ?_
   try simp only[D4,cdt,cdf,A1,A,B,C,E,F,J]
   exact F39 F_w0 caps_w0 a0 r1 v5 r7 h7 _ b1 b2 b8 b9 G G
theorem F7k(F_w0:FuncId)(caps_w0:N D)(a0:Xf)(r1:Xk)(v5:Q)(r7:(N P))(h7:D5 a0.choice=H r7):∀(f:U) (b0 b1:Q) (b2 b3:Q) (b4 b5:Q) (b6 b8:Q),E0 X Q2 (L1 F_w0 caps_w0 a0 r1 r7) f [b0,b1,b2,b3,b4,b5,b6,G,b8,G,G,G,G,G,G,G,G,G] (D4 r1 b0 b1 b2 b3 b4 b5 b6 G b8 G G G G G G [(99999999999,(dm a0.h.row++ [aL (W (rL X0.row) a0.choices),.dat (.clo F_w0 caps_w0),.own 90000,.own 90001,.own 90002,aI a0.least.i0,aI a0.least.i1,aB v5])),(2,[aI r1.i0,aI r1.i1])] [(90000,4,W X0.row a0.plan),(90001,1,W rI a0.choice),(90002,1,W rI a0.best)]):=by
 intro f
 induction f with
 | zero=>intro b0 b1 b2 b3 b4 b5 b6 b8 h; simp at h
 | succ f ih=>
  intro b0 b1 b2 b3 b4 b5 b6 b8
  refine A9 ⟨?_,?_,?_,?_,?_,?_,?_,?_,?_,?_,?_,?_,?_,?_,?_,?_,?_,?_,⟨⟩⟩<;>try first | (intro _ hw; simp at hw; done) | (intro h0 hw; obtain rfl:=hz h0 rfl; (try obtain rfl:=hq hw 3 rfl rfl); (try obtain rfl:=hq hw 4 rfl rfl); (try obtain rfl:=hq hw 5 rfl rfl); refine np ?_; simp only[D4,cdt,cdf,A1,A,B,C,E,F,J]; exact ih _ _ _ _ _ _ _ _)
  ·intro h0 hw
   obtain rfl:=hq hw 6 rfl rfl
   refine np ?_
   try simp only[D4,cdt,cdf,A1,A,B,C,E,F,J]
   refine P4 (A16 _ _ h7) V (A7r V ⟨A7m,⟨⟩⟩) (by simp only[St.fresh,Z,I,H5]; simp[AV.cells,V1.cells,AC.uses]) (uf V) ?_
   try simp only[A1,A,B,C,E,F,J]
   exact F4c F_w0 caps_w0 a0 r1 v5 r7 h7 _ b0 b1 b2 b3 b4 b5 b8 G G
abbrev A6(a0:Xf)(x8:N X0)(v9:P)(x19:X0)(wo5_ wo12_:AV)(c0_ c1_:Q)(c2_ c3_:Q)(c4_ c5_:Q)(c6_ c7_:Q)(c8_ c9_:Q)(c10_ c11_:Q)(c12_ c13_:Q)(c14_ c15_:Q)(c16_ c17_:Q)(c19_ c20_:Q)(bx_:N (U × N AC))(rs_:Rows):St:=⟨[(0,vc (.pb 99999999999 0)),(3,vc (aI (a0.plan.length:P))),(4,vc (aI v9)),(5,vc (.pb 5 0)),(61,vc (aL (W X0.row x8))),(62,vc (aI (x8.length:P))),(63,vc (aI v9)),(79,bif c0_ then vc (.pb 99999999999 0) else .undef),(80,bif c1_ then vc (.pb 99999999999 0) else .undef),(81,bif c2_ then vc (.pb 99999999999 0) else .undef),(82,bif c3_ then vc (.pb 99999999999 0) else .undef),(83,bif c4_ then vc (.pb 99999999999 14) else .undef),(84,bif c5_ then wo5_ else .undef),(85,bif c6_ then va (dm x19.row) else .undef),(86,bif c7_ then vc (.own 5504) else .undef),(87,bif c8_ then vc (.own 90000) else .undef),(88,bif c9_ then vc (.pb 99999999999 0) else .undef),(89,bif c10_ then vc (.pb 99999999999 0) else .undef),(90,bif c11_ then vc (.pb 99999999999 15) else .undef),(91,bif c12_ then wo12_ else .undef),(92,bif c13_ then vc (aI v9) else .undef),(93,bif c14_ then vc (.own 5952) else .undef),(94,bif c15_ then vc (.own 90001) else .undef),(95,bif c16_ then vc (.pb 99999999999 0) else .undef),(96,bif c17_ then vc (.pb 99999999999 14) else .undef),(97,bif c19_ then vc (.pb 99999999999 0) else .undef),(98,bif c20_ then vc (.pb 99999999999 15) else .undef)],bx_,rs_⟩
abbrev F0(F_w0:FuncId)(caps_w0:N D)(a0:Xf)(x8:N X0)(v9:P)(v10:X4)(v11:N (N X0))(v12 v13:P)(v14:Q)(v15:N X0)(v16 v17:N P)(x19:X0):St:=(A6 a0 x8 v9 x19 (vc (.undef)) (vc (.undef)) T T T T T T T T T T T T T T T T T T T T [(99999999999,(dm v10.row++ [aL (W (rL X0.row) v11),.dat (.clo F_w0 caps_w0),.own 90000,.own 90001,.own 90002,aI v12,aI v13,aB v14])),(5,(dm x19.row))] [(90000,4,W X0.row (v15++([x19]:N X0))),(90001,1,W rI (v16++([v9]:N P))),(90002,1,W rI v17),(5504,4,W X0.row ([x19]:N X0)),(5952,1,W rI ([v9]:N P))])
theorem F72(F_w0:FuncId)(caps_w0:N D)(a0:Xf)(x8:N X0)(v9:P)(v10:X4)(v11:N (N X0))(v12 v13:P)(v14:Q)(v15:N X0)(v16 v17:N P)(x19:X0)(h22:(B9 v15.length ([x19]:N X0).length 48)=T)(h23:(B9 v16.length ([v9]:N P).length 8)=T):∀(f:U) (b19:Q),E0 X G6 (F0 F_w0 caps_w0 a0 x8 v9 v10 v11 v12 v13 v14 v15 v16 v17 x19) f [T,T,T,T,T,T,T,T,T,T,T,T,T,T,T,T,T,T,T,b19,T,T] (A6 a0 x8 v9 x19 (vc (.undef)) (vc (.undef)) T T T T T T T T T T T T T T T T T T b19 T [(99999999999,(dm v10.row++ [aL (W (rL X0.row) v11),.dat (.clo F_w0 caps_w0),.own 90000,.own 90001,.own 90002,aI v12,aI v13,aB v14])),(5,(dm x19.row))] [(90000,4,W X0.row (v15++([x19]:N X0))),(90001,1,W rI (v16++([v9]:N P))),(90002,1,W rI v17),(5504,4,W X0.row ([x19]:N X0)),(5952,1,W rI ([v9]:N P))]):=by
 intro f
 induction f with
 | zero=>
  intro b19 h
  obtain rfl:b19=T:=zA.1 h b19 (by simp)
  rfl
 | succ f ih=>
  intro b19
  refine A9 ⟨?_,?_,?_,?_,?_,?_,?_,?_,?_,?_,?_,?_,?_,?_,?_,?_,?_,?_,?_,?_,?_,?_,⟨⟩⟩<;>try first | (intro h; cases h; done) | (intro h0 hw; obtain rfl:=hz h0 rfl; refine np ?_; simp only[A6,cdt,cdf,A1,A,B,C,E,F,J]; exact ih _)
theorem F7u(F_w0:FuncId)(caps_w0:N D)(a0:Xf)(x8:N X0)(v9:P)(v10:X4)(v11:N (N X0))(v12 v13:P)(v14:Q)(v15:N X0)(v16 v17:N P)(x19:X0)(h22:(B9 v15.length ([x19]:N X0).length 48)=T)(h23:(B9 v16.length ([v9]:N P).length 8)=T):∀(f:U) (b1 b9:Q) (b10 b11:Q) (b16 b19 b20:Q),E0 X G6 (F0 F_w0 caps_w0 a0 x8 v9 v10 v11 v12 v13 v14 v15 v16 v17 x19) f [T,b1,T,T,T,T,T,T,T,b9,b10,b11,T,T,T,T,b16,T,T,b19,b20,G] (A6 a0 x8 v9 x19 (vc (.undef)) (vc (.undef)) T b1 T T T T T T T b9 b10 b11 T T T T b16 T b19 b20 [(99999999999,(dm v10.row++ [aL (W (rL X0.row) v11),.dat (.clo F_w0 caps_w0),.own 90000,.undef,.own 90002,aI v12,aI v13,aB v14])),(5,(dm x19.row))] [(90000,4,W X0.row (v15++([x19]:N X0))),(90001,1,W rI (v16++([v9]:N P))),(90002,1,W rI v17),(5504,4,W X0.row ([x19]:N X0)),(5952,1,W rI ([v9]:N P))]):=by
 intro f
 induction f with
 | zero=>intro b1 b9 b10 b11 b16 b19 b20 h; simp at h
 | succ f ih=>
  intro b1 b9 b10 b11 b16 b19 b20
  refine A9 ⟨?_,?_,?_,?_,?_,?_,?_,?_,?_,?_,?_,?_,?_,?_,?_,?_,?_,?_,?_,?_,?_,?_,⟨⟩⟩<;>try first | (intro h; cases h; done) | (intro h0 hw; obtain rfl:=hz h0 rfl; (try obtain rfl:=hq hw 1 rfl rfl); (try obtain rfl:=hq hw 9 rfl rfl); (try obtain rfl:=hq hw 10 rfl rfl); (try obtain rfl:=hq hw 11 rfl rfl); (try obtain rfl:=hq hw 16 rfl rfl); (try obtain rfl:=hq hw 19 rfl rfl); refine np ?_; simp only[A6,cdt,cdf,A1,A,B,C,E,F,J]; exact ih _ _ _ _ _ _ _)
  ·intro h0 hw
   obtain rfl:=hq hw 1 rfl rfl
   obtain rfl:=hq hw 9 rfl rfl
   obtain rfl:=hq hw 10 rfl rfl
   obtain rfl:=hq hw 11 rfl rfl
   obtain rfl:=hq hw 16 rfl rfl
   obtain rfl:=hq hw 20 rfl rfl
   refine np ?_
   try simp only[A6,cdt,cdf,A1,A,B,C,E,F,J]
   exact F72 F_w0 caps_w0 a0 x8 v9 v10 v11 v12 v13 v14 v15 v16 v17 x19 h22 h23 _ b19
theorem F4s(F_w0:FuncId)(caps_w0:N D)(a0:Xf)(x8:N X0)(v9:P)(v10:X4)(v11:N (N X0))(v12 v13:P)(v14:Q)(v15:N X0)(v16 v17:N P)(x19:X0)(h22:(B9 v15.length ([x19]:N X0).length 48)=T)(h23:(B9 v16.length ([v9]:N P).length 8)=T):∀(f:U) (b0 b1:Q) (b2 b3:Q) (b4 b9:Q) (b10 b11:Q) (b16 b17:Q),E0 X G6 (F0 F_w0 caps_w0 a0 x8 v9 v10 v11 v12 v13 v14 v15 v16 v17 x19) f [b0,b1,b2,b3,b4,T,T,T,T,b9,b10,b11,T,T,T,T,b16,b17,G,G,G,G] (A6 a0 x8 v9 x19 (vc (.undef)) (vc (.undef)) b0 b1 b2 b3 b4 T T T T b9 b10 b11 T T T T b16 b17 G G [(99999999999,(dm v10.row++ [aL (W (rL X0.row) v11),.dat (.clo F_w0 caps_w0),.undef,.undef,.own 90002,aI v12,aI v13,aB v14])),(5,(dm x19.row))] [(90000,4,W X0.row (v15++([x19]:N X0))),(90001,1,W rI (v16++([v9]:N P))),(90002,1,W rI v17),(5504,4,W X0.row ([x19]:N X0)),(5952,1,W rI ([v9]:N P))]):=by
 intro f
 induction f with
 | zero=>intro b0 b1 b2 b3 b4 b9 b10 b11 b16 b17 h; simp at h
 | succ f ih=>
  intro b0 b1 b2 b3 b4 b9 b10 b11 b16 b17
  refine A9 ⟨?_,?_,?_,?_,?_,?_,?_,?_,?_,?_,?_,?_,?_,?_,?_,?_,?_,?_,?_,?_,?_,?_,⟨⟩⟩<;>try first | (intro h; cases h; done) | (intro _ hw; simp at hw; done) | (intro h0 hw; obtain rfl:=hz h0 rfl; (try obtain rfl:=hq hw 0 rfl rfl); (try obtain rfl:=hq hw 2 rfl rfl); (try obtain rfl:=hq hw 3 rfl rfl); (try obtain rfl:=hq hw 4 rfl rfl); (try obtain rfl:=hq hw 9 rfl rfl); (try obtain rfl:=hq hw 10 rfl rfl); (try obtain rfl:=hq hw 16 rfl rfl); refine np ?_; simp only[A6,cdt,cdf,A1,A,B,C,E,F,J]; exact ih _ _ _ _ _ _ _ _ _ _)
  ·intro h0 hw
   obtain rfl:=hq hw 0 rfl rfl
   obtain rfl:=hq hw 2 rfl rfl
   obtain rfl:=hq hw 3 rfl rfl
   obtain rfl:=hq hw 4 rfl rfl
   obtain rfl:=hq hw 17 rfl rfl
   refine np ?_
   try simp only[A6,cdt,cdf,A1,A,B,C,E,F,J]
   exact F7u F_w0 caps_w0 a0 x8 v9 v10 v11 v12 v13 v14 v15 v16 v17 x19 h22 h23 _ b1 b9 b10 b11 b16 G G
theorem E2x(F_w0:FuncId)(caps_w0:N D)(a0:Xf)(x8:N X0)(v9:P)(v10:X4)(v11:N (N X0))(v12 v13:P)(v14:Q)(v15:N X0)(v16 v17:N P)(x19:X0)(h22:(B9 v15.length ([x19]:N X0).length 48)=T)(h23:(B9 v16.length ([v9]:N P).length 8)=T):∀(f:U) (b0 b1:Q) (b2 b3:Q) (b4 b9:Q) (b10 b11 b12:Q),E0 X G6 (F0 F_w0 caps_w0 a0 x8 v9 v10 v11 v12 v13 v14 v15 v16 v17 x19) f [b0,b1,b2,b3,b4,T,T,T,T,b9,b10,b11,b12,T,T,G,G,G,G,G,G,G] (A6 a0 x8 v9 x19 (vc (.undef)) (vc (.own 90001)) b0 b1 b2 b3 b4 T T T T b9 b10 b11 b12 T T G G G G G [(99999999999,(dm v10.row++ [aL (W (rL X0.row) v11),.dat (.clo F_w0 caps_w0),.undef,.own 90001,.own 90002,aI v12,aI v13,aB v14])),(5,(dm x19.row))] [(90000,4,W X0.row (v15++([x19]:N X0))),(90001,1,W rI v16),(90002,1,W rI v17),(5504,4,W X0.row ([x19]:N X0)),(5952,1,W rI ([v9]:N P))]):=by
 intro f
 induction f with
 | zero=>intro b0 b1 b2 b3 b4 b9 b10 b11 b12 h; simp at h
 | succ f ih=>
  intro b0 b1 b2 b3 b4 b9 b10 b11 b12
  refine A9 ⟨?_,?_,?_,?_,?_,?_,?_,?_,?_,?_,?_,?_,?_,?_,?_,?_,?_,?_,?_,?_,?_,?_,⟨⟩⟩<;>try first | (intro h; cases h; done) | (intro _ hw; simp at hw; done) | (intro h0 hw; obtain rfl:=hz h0 rfl; (try obtain rfl:=hq hw 2 rfl rfl); (try obtain rfl:=hq hw 3 rfl rfl); (try obtain rfl:=hq hw 9 rfl rfl); (try obtain rfl:=hq hw 10 rfl rfl); (try obtain rfl:=hq hw 11 rfl rfl); refine np ?_; simp only[A6,cdt,cdf,A1,A,B,C,E,F,J]; exact ih _ _ _ _ _ _ _ _ _)
  ·intro h0 hw
   obtain rfl:=hq hw 12 rfl rfl
   refine np ?_
   try simp only[h23,A6,cdt,cdf,A1,A,B,C,E,F,J]
   exact F4s F_w0 caps_w0 a0 x8 v9 v10 v11 v12 v13 v14 v15 v16 v17 x19 h22 h23 _ b0 b1 b2 b3 b4 b9 b10 b11 G G
theorem F1v(F_w0:FuncId)(caps_w0:N D)(a0:Xf)(x8:N X0)(v9:P)(v10:X4)(v11:N (N X0))(v12 v13:P)(v14:Q)(v15:N X0)(v16 v17:N P)(x19:X0)(h22:(B9 v15.length ([x19]:N X0).length 48)=T)(h23:(B9 v16.length ([v9]:N P).length 8)=T):∀(f:U) (b0 b1:Q) (b2 b3:Q) (b4 b9:Q) (b10 b11:Q) (b12 b13:Q),E0 X G6 (F0 F_w0 caps_w0 a0 x8 v9 v10 v11 v12 v13 v14 v15 v16 v17 x19) f [b0,b1,b2,b3,b4,T,T,T,T,b9,b10,b11,b12,b13,G,G,G,G,G,G,G,G] (A6 a0 x8 v9 x19 (vc (.undef)) (vc (.own 90001)) b0 b1 b2 b3 b4 T T T T b9 b10 b11 b12 b13 G G G G G G [(99999999999,(dm v10.row++ [aL (W (rL X0.row) v11),.dat (.clo F_w0 caps_w0),.undef,.own 90001,.own 90002,aI v12,aI v13,aB v14])),(5,(dm x19.row))] [(90000,4,W X0.row (v15++([x19]:N X0))),(90001,1,W rI v16),(90002,1,W rI v17),(5504,4,W X0.row ([x19]:N X0))]):=by
 intro f
 induction f with
 | zero=>intro b0 b1 b2 b3 b4 b9 b10 b11 b12 b13 h; simp at h
 | succ f ih=>
  intro b0 b1 b2 b3 b4 b9 b10 b11 b12 b13
  refine A9 ⟨?_,?_,?_,?_,?_,?_,?_,?_,?_,?_,?_,?_,?_,?_,?_,?_,?_,?_,?_,?_,?_,?_,⟨⟩⟩<;>try first | (intro h; cases h; done) | (intro _ hw; simp at hw; done) | (intro h0 hw; obtain rfl:=hz h0 rfl; (try obtain rfl:=hq hw 2 rfl rfl); (try obtain rfl:=hq hw 3 rfl rfl); (try obtain rfl:=hq hw 9 rfl rfl); (try obtain rfl:=hq hw 10 rfl rfl); (try obtain rfl:=hq hw 11 rfl rfl); refine np ?_; simp only[A6,cdt,cdf,A1,A,B,C,E,F,J]; exact ih _ _ _ _ _ _ _ _ _ _)
  ·intro h0 hw
   obtain rfl:=hq hw 13 rfl rfl
   refine np ?_
   try simp only[A6,cdt,cdf,A1,A,B,C,E,F,J]
   refine D6 (es:=W rI ([v9]:N P)) V (by simp only[St.fresh,Z,I,H5]; simp[AV.cells,V1.cells,AC.uses]) ?_
   try simp only[A1,A,B,C,E,F,J]
   exact E2x F_w0 caps_w0 a0 x8 v9 v10 v11 v12 v13 v14 v15 v16 v17 x19 h22 h23 _ b0 b1 b2 b3 b4 b9 b10 b11 b12
theorem E28(F_w0:FuncId)(caps_w0:N D)(a0:Xf)(x8:N X0)(v9:P)(v10:X4)(v11:N (N X0))(v12 v13:P)(v14:Q)(v15:N X0)(v16 v17:N P)(x19:X0)(h22:(B9 v15.length ([x19]:N X0).length 48)=T)(h23:(B9 v16.length ([v9]:N P).length 8)=T):∀(f:U) (b0 b1:Q) (b2 b3:Q) (b4 b5:Q) (b9 b10:Q) (b11 b12:Q),E0 X G6 (F0 F_w0 caps_w0 a0 x8 v9 v10 v11 v12 v13 v14 v15 v16 v17 x19) f [b0,b1,b2,b3,b4,b5,T,T,G,b9,b10,b11,b12,T,T,G,G,G,G,G,G,G] (A6 a0 x8 v9 x19 (vc (.own 90000)) (vc (.own 90001)) b0 b1 b2 b3 b4 b5 T T G b9 b10 b11 b12 T T G G G G G [(99999999999,(dm v10.row++ [aL (W (rL X0.row) v11),.dat (.clo F_w0 caps_w0),.own 90000,.own 90001,.own 90002,aI v12,aI v13,aB v14])),(5,(dm x19.row))] [(90000,4,W X0.row v15),(90001,1,W rI v16),(90002,1,W rI v17),(5504,4,W X0.row ([x19]:N X0)),(5952,1,W rI ([v9]:N P))]):=by
 intro f
 induction f with
 | zero=>intro b0 b1 b2 b3 b4 b5 b9 b10 b11 b12 h; simp at h
 | succ f ih=>
  intro b0 b1 b2 b3 b4 b5 b9 b10 b11 b12
  refine A9 ⟨?_,?_,?_,?_,?_,?_,?_,?_,?_,?_,?_,?_,?_,?_,?_,?_,?_,?_,?_,?_,?_,?_,⟨⟩⟩<;>try first | (intro h; cases h; done) | (intro _ hw; simp at hw; done) | (intro h0 hw; obtain rfl:=hz h0 rfl; (try obtain rfl:=hq hw 2 rfl rfl); (try obtain rfl:=hq hw 3 rfl rfl); (try obtain rfl:=hq hw 4 rfl rfl); (try obtain rfl:=hq hw 9 rfl rfl); (try obtain rfl:=hq hw 10 rfl rfl); (try obtain rfl:=hq hw 11 rfl rfl); refine np ?_; simp only[A6,cdt,cdf,A1,A,B,C,E,F,J]; exact ih _ _ _ _ _ _ _ _ _ _)
  ·intro h0 hw
   obtain rfl:=hq hw 5 rfl rfl
   refine np ?_
   try simp only[h22,A6,cdt,cdf,A1,A,B,C,E,F,J]
   exact E2x F_w0 caps_w0 a0 x8 v9 v10 v11 v12 v13 v14 v15 v16 v17 x19 h22 h23 _ b0 b1 b2 b3 b4 b9 b10 b11 b12
theorem F36(F_w0:FuncId)(caps_w0:N D)(a0:Xf)(x8:N X0)(v9:P)(v10:X4)(v11:N (N X0))(v12 v13:P)(v14:Q)(v15:N X0)(v16 v17:N P)(x19:X0)(h22:(B9 v15.length ([x19]:N X0).length 48)=T)(h23:(B9 v16.length ([v9]:N P).length 8)=T):∀(f:U) (b0 b1:Q) (b2 b3:Q) (b4 b5:Q) (b9 b10:Q) (b11 b12 b13:Q),E0 X G6 (F0 F_w0 caps_w0 a0 x8 v9 v10 v11 v12 v13 v14 v15 v16 v17 x19) f [b0,b1,b2,b3,b4,b5,T,T,G,b9,b10,b11,b12,b13,G,G,G,G,G,G,G,G] (A6 a0 x8 v9 x19 (vc (.own 90000)) (vc (.own 90001)) b0 b1 b2 b3 b4 b5 T T G b9 b10 b11 b12 b13 G G G G G G [(99999999999,(dm v10.row++ [aL (W (rL X0.row) v11),.dat (.clo F_w0 caps_w0),.own 90000,.own 90001,.own 90002,aI v12,aI v13,aB v14])),(5,(dm x19.row))] [(90000,4,W X0.row v15),(90001,1,W rI v16),(90002,1,W rI v17),(5504,4,W X0.row ([x19]:N X0))]):=by
 intro f
 induction f with
 | zero=>intro b0 b1 b2 b3 b4 b5 b9 b10 b11 b12 b13 h; simp at h
 | succ f ih=>
  intro b0 b1 b2 b3 b4 b5 b9 b10 b11 b12 b13
  refine A9 ⟨?_,?_,?_,?_,?_,?_,?_,?_,?_,?_,?_,?_,?_,?_,?_,?_,?_,?_,?_,?_,?_,?_,⟨⟩⟩<;>try first | (intro h; cases h; done) | (intro _ hw; simp at hw; done) | (intro h0 hw; obtain rfl:=hz h0 rfl; (try obtain rfl:=hq hw 2 rfl rfl); (try obtain rfl:=hq hw 3 rfl rfl); (try obtain rfl:=hq hw 4 rfl rfl); (try obtain rfl:=hq hw 9 rfl rfl); (try obtain rfl:=hq hw 10 rfl rfl); (try obtain rfl:=hq hw 11 rfl rfl); refine np ?_; simp only[A6,cdt,cdf,A1,A,B,C,E,F,J]; exact ih _ _ _ _ _ _ _ _ _ _ _)
  ·intro h0 hw
   obtain rfl:=hq hw 5 rfl rfl
   refine np ?_
   try simp only[h22,A6,cdt,cdf,A1,A,B,C,E,F,J]
   exact F1v F_w0 caps_w0 a0 x8 v9 v10 v11 v12 v13 v14 v15 v16 v17 x19 h22 h23 _ b0 b1 b2 b3 b4 b9 b10 b11 b12 b13
  ·intro h0 hw
   obtain rfl:=hq hw 13 rfl rfl
   refine np ?_
   try simp only[A6,cdt,cdf,A1,A,B,C,E,F,J]
   refine D6 (es:=W rI ([v9]:N P)) V (by simp only[St.fresh,Z,I,H5]; simp[AV.cells,V1.cells,AC.uses]) ?_
   try simp only[A1,A,B,C,E,F,J]
   exact E28 F_w0 caps_w0 a0 x8 v9 v10 v11 v12 v13 v14 v15 v16 v17 x19 h22 h23 _ b0 b1 b2 b3 b4 b5 b9 b10 b11 b12
theorem F9g(F_w0:FuncId)(caps_w0:N D)(a0:Xf)(x8:N X0)(v9:P)(v10:X4)(v11:N (N X0))(v12 v13:P)(v14:Q)(v15:N X0)(v16 v17:N P)(x19:X0)(h22:(B9 v15.length ([x19]:N X0).length 48)=T)(h23:(B9 v16.length ([v9]:N P).length 8)=T):∀(f:U) (b0 b1:Q) (b2 b3:Q) (b4 b5:Q) (b6 b9:Q) (b10 b11 b12:Q),E0 X G6 (F0 F_w0 caps_w0 a0 x8 v9 v10 v11 v12 v13 v14 v15 v16 v17 x19) f [b0,b1,b2,b3,b4,b5,b6,G,G,b9,b10,b11,b12,T,T,G,G,G,G,G,G,G] (A6 a0 x8 v9 x19 (vc (.own 90000)) (vc (.own 90001)) b0 b1 b2 b3 b4 b5 b6 G G b9 b10 b11 b12 T T G G G G G [(99999999999,(dm v10.row++ [aL (W (rL X0.row) v11),.dat (.clo F_w0 caps_w0),.own 90000,.own 90001,.own 90002,aI v12,aI v13,aB v14])),(5,(dm x19.row))] [(90000,4,W X0.row v15),(90001,1,W rI v16),(90002,1,W rI v17),(5952,1,W rI ([v9]:N P))]):=by
 intro f
 induction f with
 | zero=>intro b0 b1 b2 b3 b4 b5 b6 b9 b10 b11 b12 h; simp at h
 | succ f ih=>
  intro b0 b1 b2 b3 b4 b5 b6 b9 b10 b11 b12
  refine A9 ⟨?_,?_,?_,?_,?_,?_,?_,?_,?_,?_,?_,?_,?_,?_,?_,?_,?_,?_,?_,?_,?_,?_,⟨⟩⟩<;>try first | (intro h; cases h; done) | (intro _ hw; simp at hw; done) | (intro h0 hw; obtain rfl:=hz h0 rfl; (try obtain rfl:=hq hw 2 rfl rfl); (try obtain rfl:=hq hw 3 rfl rfl); (try obtain rfl:=hq hw 4 rfl rfl); (try obtain rfl:=hq hw 9 rfl rfl); (try obtain rfl:=hq hw 10 rfl rfl); (try obtain rfl:=hq hw 11 rfl rfl); refine np ?_; simp only[A6,cdt,cdf,A1,A,B,C,E,F,J]; exact ih _ _ _ _ _ _ _ _ _ _ _)
  ·intro h0 hw
   obtain rfl:=hq hw 6 rfl rfl
   refine⟨[],[(L,.keep [0,3,4,5,61,62,63,79,80,81,82,83,84,85,86,87,88,89,90,91,92,93,94,95,96,97,98] [99999999999,5] [90000,90001,90002,5504,5952])],V,V,?_⟩
   try simp only[A6,cdt,cdf,zC,zB,A1,A,B,C,E,F,J]
   refine D6 (es:=W X0.row ([x19]:N X0)) V (by simp only[St.fresh,Z,I,H5]; simp[AV.cells,V1.cells,AC.uses]) ?_
   try simp only[A1,A,B,C,E,F,J]
   exact E28 F_w0 caps_w0 a0 x8 v9 v10 v11 v12 v13 v14 v15 v16 v17 x19 h22 h23 _ b0 b1 b2 b3 b4 b5 b9 b10 b11 b12
theorem F2k(F_w0:FuncId)(caps_w0:N D)(a0:Xf)(x8:N X0)(v9:P)(v10:X4)(v11:N (N X0))(v12 v13:P)(v14:Q)(v15:N X0)(v16 v17:N P)(x19:X0)(h22:(B9 v15.length ([x19]:N X0).length 48)=T)(h23:(B9 v16.length ([v9]:N P).length 8)=T):∀(f:U) (b0 b1:Q) (b2 b3:Q) (b4 b5:Q) (b6 b9:Q) (b10 b11:Q) (b12 b13:Q),E0 X G6 (F0 F_w0 caps_w0 a0 x8 v9 v10 v11 v12 v13 v14 v15 v16 v17 x19) f [b0,b1,b2,b3,b4,b5,b6,G,G,b9,b10,b11,b12,b13,G,G,G,G,G,G,G,G] (A6 a0 x8 v9 x19 (vc (.own 90000)) (vc (.own 90001)) b0 b1 b2 b3 b4 b5 b6 G G b9 b10 b11 b12 b13 G G G G G G [(99999999999,(dm v10.row++ [aL (W (rL X0.row) v11),.dat (.clo F_w0 caps_w0),.own 90000,.own 90001,.own 90002,aI v12,aI v13,aB v14])),(5,(dm x19.row))] [(90000,4,W X0.row v15),(90001,1,W rI v16),(90002,1,W rI v17)]):=by
 intro f
 induction f with
 | zero=>intro b0 b1 b2 b3 b4 b5 b6 b9 b10 b11 b12 b13 h; simp at h
 | succ f ih=>
  intro b0 b1 b2 b3 b4 b5 b6 b9 b10 b11 b12 b13
  refine A9 ⟨?_,?_,?_,?_,?_,?_,?_,?_,?_,?_,?_,?_,?_,?_,?_,?_,?_,?_,?_,?_,?_,?_,⟨⟩⟩<;>try first | (intro _ hw; simp at hw; done) | (intro h0 hw; obtain rfl:=hz h0 rfl; (try obtain rfl:=hq hw 2 rfl rfl); (try obtain rfl:=hq hw 3 rfl rfl); (try obtain rfl:=hq hw 4 rfl rfl); (try obtain rfl:=hq hw 9 rfl rfl); (try obtain rfl:=hq hw 10 rfl rfl); (try obtain rfl:=hq hw 11 rfl rfl); refine np ?_; simp only[A6,cdt,cdf,A1,A,B,C,E,F,J]; exact ih _ _ _ _ _ _ _ _ _ _ _ _)
  ·intro h0 hw
   obtain rfl:=hq hw 6 rfl rfl
   refine np ?_
   try simp only[A6,cdt,cdf,A1,A,B,C,E,F,J]
   refine D6 (es:=W X0.row ([x19]:N X0)) V (by simp only[St.fresh,Z,I,H5]; simp[AV.cells,V1.cells,AC.uses]) ?_
   try simp only[A1,A,B,C,E,F,J]
   exact F36 F_w0 caps_w0 a0 x8 v9 v10 v11 v12 v13 v14 v15 v16 v17 x19 h22 h23 _ b0 b1 b2 b3 b4 b5 b9 b10 b11 b12 b13
  ·intro h0 hw
   obtain rfl:=hq hw 13 rfl rfl
   refine np ?_
   try simp only[A6,cdt,cdf,A1,A,B,C,E,F,J]
   refine D6 (es:=W rI ([v9]:N P)) V (by simp only[St.fresh,Z,I,H5]; simp[AV.cells,V1.cells,AC.uses]) ?_
   try simp only[A1,A,B,C,E,F,J]
   exact F9g F_w0 caps_w0 a0 x8 v9 v10 v11 v12 v13 v14 v15 v16 v17 x19 h22 h23 _ b0 b1 b2 b3 b4 b5 b6 b9 b10 b11 b12
abbrev B1(a0:Xf)(x8:N X0)(v9:P)(wo5_ wo11_:AV)(c0_ c1_:Q)(c2_ c3_:Q)(c4_ c5_:Q)(c6_ c7_:Q)(c8_ c9_:Q)(c10_ c11_:Q)(c12_ c13_:Q)(c14_ c15_:Q)(c17_ c18_:Q)(bx_:N (U × N AC))(rs_:Rows):St:=⟨[(0,vc (.pb 99999999999 0)),(3,vc (aI (a0.plan.length:P))),(61,vc (aL (W X0.row x8))),(62,vc (aI (x8.length:P))),(63,vc (aI v9)),(101,bif c0_ then vc (.pb 99999999999 0) else .undef),(102,bif c1_ then vc (.pb 99999999999 0) else .undef),(103,bif c2_ then vc (.pb 99999999999 0) else .undef),(104,bif c3_ then vc (.pb 99999999999 0) else .undef),(105,bif c4_ then vc (.pb 99999999999 14) else .undef),(106,bif c5_ then wo5_ else .undef),(107,bif c6_ then vc (aI (a0.plan.length:P)) else .undef),(108,bif c7_ then vc (.own 90000) else .undef),(109,bif c8_ then vc (.pb 99999999999 0) else .undef),(110,bif c9_ then vc (.pb 99999999999 0) else .undef),(111,bif c10_ then vc (.pb 99999999999 15) else .undef),(112,bif c11_ then wo11_ else .undef),(113,bif c12_ then vc (aI (a0.plan.length:P)) else .undef),(114,bif c13_ then vc (.own 90001) else .undef),(115,bif c14_ then vc (.pb 99999999999 0) else .undef),(116,bif c15_ then vc (.pb 99999999999 14) else .undef),(117,bif c17_ then vc (.pb 99999999999 0) else .undef),(118,bif c18_ then vc (.pb 99999999999 15) else .undef)],bx_,rs_⟩
abbrev H6(F_w0:FuncId)(caps_w0:N D)(a0:Xf)(x8:N X0)(v9:P)(r24:Xf)(p25 p26:U × U):St:=(B1 a0 x8 v9 (vc (.undef)) (vc (.undef)) T T T T T T T T T T T T T T T T T T [(99999999999,(dm r24.h.row++ [aL (W (rL X0.row) r24.choices),.dat (.clo F_w0 caps_w0),.own 90000,.own 90001,.own 90002,aI r24.least.i0,aI r24.least.i1,aB r24.found]))] [(90000,4,W X0.row (r24.plan.take p25.2)),(90001,1,W rI (r24.choice.take p26.2)),(90002,1,W rI r24.best)])
theorem F2c(F_w0:FuncId)(caps_w0:N D)(a0:Xf)(x8:N X0)(v9:P)(r24:Xf)(p25 p26:U × U)(h25:bnd (r24.plan.length:P) (a0.plan.length:P) 0 r24.plan.length=H p25)(h26:bnd (r24.choice.length:P) (a0.plan.length:P) 0 r24.choice.length=H p26):∀(f:U) (b17:Q),E0 X J7 (H6 F_w0 caps_w0 a0 x8 v9 r24 p25 p26) f [T,T,T,T,T,T,T,T,T,T,T,T,T,T,T,T,T,b17,T,T] (B1 a0 x8 v9 (vc (.undef)) (vc (.undef)) T T T T T T T T T T T T T T T T b17 T [(99999999999,(dm r24.h.row++ [aL (W (rL X0.row) r24.choices),.dat (.clo F_w0 caps_w0),.own 90000,.own 90001,.own 90002,aI r24.least.i0,aI r24.least.i1,aB r24.found]))] [(90000,4,W X0.row (r24.plan.take p25.2)),(90001,1,W rI (r24.choice.take p26.2)),(90002,1,W rI r24.best)]):=by
 intro f
 induction f with
 | zero=>
  intro b17 h
  obtain rfl:b17=T:=zA.1 h b17 (by simp)
  rfl
 | succ f ih=>
  intro b17
  refine A9 ⟨?_,?_,?_,?_,?_,?_,?_,?_,?_,?_,?_,?_,?_,?_,?_,?_,?_,?_,?_,?_,⟨⟩⟩<;>try first | (intro h; cases h; done) | (intro h0 hw; obtain rfl:=hz h0 rfl; refine np ?_; simp only[B1,cdt,cdf,A1,A,B,C,E,F,J]; exact ih _)
theorem E2u(F_w0:FuncId)(caps_w0:N D)(a0:Xf)(x8:N X0)(v9:P)(r24:Xf)(p25 p26:U × U)(h25:bnd (r24.plan.length:P) (a0.plan.length:P) 0 r24.plan.length=H p25)(h26:bnd (r24.choice.length:P) (a0.plan.length:P) 0 r24.choice.length=H p26):∀(f:U) (b1 b8:Q) (b9 b10:Q) (b14 b17 b18:Q),E0 X J7 (H6 F_w0 caps_w0 a0 x8 v9 r24 p25 p26) f [T,b1,T,T,T,T,T,T,b8,b9,b10,T,T,T,b14,T,T,b17,b18,G] (B1 a0 x8 v9 (vc (.undef)) (vc (.undef)) T b1 T T T T T T b8 b9 b10 T T T b14 T b17 b18 [(99999999999,(dm r24.h.row++ [aL (W (rL X0.row) r24.choices),.dat (.clo F_w0 caps_w0),.own 90000,.undef,.own 90002,aI r24.least.i0,aI r24.least.i1,aB r24.found]))] [(90000,4,W X0.row (r24.plan.take p25.2)),(90001,1,W rI (r24.choice.take p26.2)),(90002,1,W rI r24.best)]):=by
 intro f
 induction f with
 | zero=>intro b1 b8 b9 b10 b14 b17 b18 h; simp at h
 | succ f ih=>
  intro b1 b8 b9 b10 b14 b17 b18
  refine A9 ⟨?_,?_,?_,?_,?_,?_,?_,?_,?_,?_,?_,?_,?_,?_,?_,?_,?_,?_,?_,?_,⟨⟩⟩<;>try first | (intro h; cases h; done) | (intro h0 hw; obtain rfl:=hz h0 rfl; (try obtain rfl:=hq hw 1 rfl rfl); (try obtain rfl:=hq hw 8 rfl rfl); (try obtain rfl:=hq hw 9 rfl rfl); (try obtain rfl:=hq hw 10 rfl rfl); (try obtain rfl:=hq hw 14 rfl rfl); (try obtain rfl:=hq hw 17 rfl rfl); refine np ?_; simp only[B1,cdt,cdf,A1,A,B,C,E,F,J]; exact ih _ _ _ _ _ _ _)
  ·intro h0 hw
   obtain rfl:=hq hw 1 rfl rfl
   obtain rfl:=hq hw 8 rfl rfl
   obtain rfl:=hq hw 9 rfl rfl
   obtain rfl:=hq hw 10 rfl rfl
   obtain rfl:=hq hw 14 rfl rfl
   obtain rfl:=hq hw 18 rfl rfl
   refine np ?_
   try simp only[B1,cdt,cdf,A1,A,B,C,E,F,J]
   exact F2c F_w0 caps_w0 a0 x8 v9 r24 p25 p26 h25 h26 _ b17
theorem E2q(F_w0:FuncId)(caps_w0:N D)(a0:Xf)(x8:N X0)(v9:P)(r24:Xf)(p25 p26:U × U)(h25:bnd (r24.plan.length:P) (a0.plan.length:P) 0 r24.plan.length=H p25)(h26:bnd (r24.choice.length:P) (a0.plan.length:P) 0 r24.choice.length=H p26):∀(f:U) (b0 b1:Q) (b2 b3:Q) (b4 b8:Q) (b9 b10:Q) (b14 b15:Q),E0 X J7 (H6 F_w0 caps_w0 a0 x8 v9 r24 p25 p26) f [b0,b1,b2,b3,b4,T,T,T,b8,b9,b10,T,T,T,b14,b15,G,G,G,G] (B1 a0 x8 v9 (vc (.undef)) (vc (.undef)) b0 b1 b2 b3 b4 T T T b8 b9 b10 T T T b14 b15 G G [(99999999999,(dm r24.h.row++ [aL (W (rL X0.row) r24.choices),.dat (.clo F_w0 caps_w0),.undef,.undef,.own 90002,aI r24.least.i0,aI r24.least.i1,aB r24.found]))] [(90000,4,W X0.row (r24.plan.take p25.2)),(90001,1,W rI (r24.choice.take p26.2)),(90002,1,W rI r24.best)]):=by
 intro f
 induction f with
 | zero=>intro b0 b1 b2 b3 b4 b8 b9 b10 b14 b15 h; simp at h
 | succ f ih=>
  intro b0 b1 b2 b3 b4 b8 b9 b10 b14 b15
  refine A9 ⟨?_,?_,?_,?_,?_,?_,?_,?_,?_,?_,?_,?_,?_,?_,?_,?_,?_,?_,?_,?_,⟨⟩⟩<;>try first | (intro h; cases h; done) | (intro _ hw; simp at hw; done) | (intro h0 hw; obtain rfl:=hz h0 rfl; (try obtain rfl:=hq hw 0 rfl rfl); (try obtain rfl:=hq hw 2 rfl rfl); (try obtain rfl:=hq hw 3 rfl rfl); (try obtain rfl:=hq hw 4 rfl rfl); (try obtain rfl:=hq hw 8 rfl rfl); (try obtain rfl:=hq hw 9 rfl rfl); (try obtain rfl:=hq hw 14 rfl rfl); refine np ?_; simp only[B1,cdt,cdf,A1,A,B,C,E,F,J]; exact ih _ _ _ _ _ _ _ _ _ _)
  ·intro h0 hw
   obtain rfl:=hq hw 0 rfl rfl
   obtain rfl:=hq hw 2 rfl rfl
   obtain rfl:=hq hw 3 rfl rfl
   obtain rfl:=hq hw 4 rfl rfl
   obtain rfl:=hq hw 15 rfl rfl
   refine np ?_
   try simp only[B1,cdt,cdf,A1,A,B,C,E,F,J]
   exact E2u F_w0 caps_w0 a0 x8 v9 r24 p25 p26 h25 h26 _ b1 b8 b9 b10 b14 G G
theorem F2h(F_w0:FuncId)(caps_w0:N D)(a0:Xf)(x8:N X0)(v9:P)(r24:Xf)(p25 p26:U × U)(h25:bnd (r24.plan.length:P) (a0.plan.length:P) 0 r24.plan.length=H p25)(h26:bnd (r24.choice.length:P) (a0.plan.length:P) 0 r24.choice.length=H p26):∀(f:U) (b1 b8:Q) (b9 b10:Q) (b12 b14:Q),E0 X J7 (H6 F_w0 caps_w0 a0 x8 v9 r24 p25 p26) f [T,b1,T,T,T,T,T,T,b8,b9,b10,T,b12,G,b14,T,T,G,G,G] (B1 a0 x8 v9 (vc (.undef)) (vc (.own 90001)) T b1 T T T T T T b8 b9 b10 T b12 G b14 T G G [(99999999999,(dm r24.h.row++ [aL (W (rL X0.row) r24.choices),.dat (.clo F_w0 caps_w0),.own 90000,.own 90001,.own 90002,aI r24.least.i0,aI r24.least.i1,aB r24.found]))] [(90000,4,W X0.row (r24.plan.take p25.2)),(90001,1,W rI r24.choice),(90002,1,W rI r24.best)]):=by
 intro f
 induction f with
 | zero=>intro b1 b8 b9 b10 b12 b14 h; simp at h
 | succ f ih=>
  intro b1 b8 b9 b10 b12 b14
  refine A9 ⟨?_,?_,?_,?_,?_,?_,?_,?_,?_,?_,?_,?_,?_,?_,?_,?_,?_,?_,?_,?_,⟨⟩⟩<;>try first | (intro h; cases h; done) | (intro _ hw; simp at hw; done) | (intro h0 hw; obtain rfl:=hz h0 rfl; (try obtain rfl:=hq hw 8 rfl rfl); (try obtain rfl:=hq hw 9 rfl rfl); refine np ?_; simp only[B1,cdt,cdf,A1,A,B,C,E,F,J]; exact ih _ _ _ _ _ _)
  ·intro h0 hw
   obtain rfl:=hq hw 12 rfl rfl
   refine⟨[],[(L,.cut 114)],V,V,?_⟩
   try simp only[B1,cdt,cdf,zC,zB,A1,A,B,C,E,F,J]
   refine A8w V V h26 (by rfl) ?_
   try simp only[A1,A,B,C,E,F,J]
   exact E2u F_w0 caps_w0 a0 x8 v9 r24 p25 p26 h25 h26 _ b1 b8 b9 b10 b14 G G
theorem F7l(F_w0:FuncId)(caps_w0:N D)(a0:Xf)(x8:N X0)(v9:P)(r24:Xf)(p25 p26:U × U)(h25:bnd (r24.plan.length:P) (a0.plan.length:P) 0 r24.plan.length=H p25)(h26:bnd (r24.choice.length:P) (a0.plan.length:P) 0 r24.choice.length=H p26):∀(f:U) (b0 b1:Q) (b2 b3:Q) (b4 b8:Q) (b9 b10:Q) (b11 b12:Q) (b14 b15:Q),E0 X J7 (H6 F_w0 caps_w0 a0 x8 v9 r24 p25 p26) f [b0,b1,b2,b3,b4,T,T,T,b8,b9,b10,b11,b12,G,b14,b15,G,G,G,G] (B1 a0 x8 v9 (vc (.undef)) (vc (.own 90001)) b0 b1 b2 b3 b4 T T T b8 b9 b10 b11 b12 G b14 b15 G G [(99999999999,(dm r24.h.row++ [aL (W (rL X0.row) r24.choices),.dat (.clo F_w0 caps_w0),.undef,.own 90001,.own 90002,aI r24.least.i0,aI r24.least.i1,aB r24.found]))] [(90000,4,W X0.row (r24.plan.take p25.2)),(90001,1,W rI r24.choice),(90002,1,W rI r24.best)]):=by
 intro f
 induction f with
 | zero=>intro b0 b1 b2 b3 b4 b8 b9 b10 b11 b12 b14 b15 h; simp at h
 | succ f ih=>
  intro b0 b1 b2 b3 b4 b8 b9 b10 b11 b12 b14 b15
  refine A9 ⟨?_,?_,?_,?_,?_,?_,?_,?_,?_,?_,?_,?_,?_,?_,?_,?_,?_,?_,?_,?_,⟨⟩⟩<;>try first | (intro h; cases h; done) | (intro _ hw; simp at hw; done) | (intro h0 hw; obtain rfl:=hz h0 rfl; (try obtain rfl:=hq hw 0 rfl rfl); (try obtain rfl:=hq hw 2 rfl rfl); (try obtain rfl:=hq hw 3 rfl rfl); (try obtain rfl:=hq hw 4 rfl rfl); (try obtain rfl:=hq hw 8 rfl rfl); (try obtain rfl:=hq hw 9 rfl rfl); (try obtain rfl:=hq hw 10 rfl rfl); (try obtain rfl:=hq hw 11 rfl rfl); (try obtain rfl:=hq hw 14 rfl rfl); refine np ?_; simp only[B1,cdt,cdf,A1,A,B,C,E,F,J]; exact ih _ _ _ _ _ _ _ _ _ _ _ _)
  ·intro h0 hw
   obtain rfl:=hq hw 11 rfl rfl
   obtain rfl:=hq hw 12 rfl rfl
   refine⟨[],[(L,.cut 114)],V,V,?_⟩
   try simp only[B1,cdt,cdf,zC,zB,A1,A,B,C,E,F,J]
   refine A8w V V h26 (by rfl) ?_
   try simp only[A1,A,B,C,E,F,J]
   exact E2q F_w0 caps_w0 a0 x8 v9 r24 p25 p26 h25 h26 _ b0 b1 b2 b3 b4 b8 b9 b10 b14 b15
  ·intro h0 hw
   obtain rfl:=hq hw 0 rfl rfl
   obtain rfl:=hq hw 2 rfl rfl
   obtain rfl:=hq hw 3 rfl rfl
   obtain rfl:=hq hw 4 rfl rfl
   obtain rfl:=hq hw 11 rfl rfl
   obtain rfl:=hq hw 15 rfl rfl
   refine np ?_
   try simp only[B1,cdt,cdf,A1,A,B,C,E,F,J]
   exact F2h F_w0 caps_w0 a0 x8 v9 r24 p25 p26 h25 h26 _ b1 b8 b9 b10 b12 b14
theorem F2a(F_w0:FuncId)(caps_w0:N D)(a0:Xf)(x8:N X0)(v9:P)(r24:Xf)(p25 p26:U × U)(h25:bnd (r24.plan.length:P) (a0.plan.length:P) 0 r24.plan.length=H p25)(h26:bnd (r24.choice.length:P) (a0.plan.length:P) 0 r24.choice.length=H p26):∀(f:U) (b0 b1:Q) (b2 b3:Q) (b4 b5:Q) (b6 b8:Q) (b9 b10:Q),E0 X J7 (H6 F_w0 caps_w0 a0 x8 v9 r24 p25 p26) f [b0,b1,b2,b3,b4,b5,b6,G,b8,b9,b10,T,T,T,G,G,G,G,G,G] (B1 a0 x8 v9 (vc (.own 90000)) (vc (.undef)) b0 b1 b2 b3 b4 b5 b6 G b8 b9 b10 T T T G G G G [(99999999999,(dm r24.h.row++ [aL (W (rL X0.row) r24.choices),.dat (.clo F_w0 caps_w0),.own 90000,.undef,.own 90002,aI r24.least.i0,aI r24.least.i1,aB r24.found]))] [(90000,4,W X0.row r24.plan),(90001,1,W rI (r24.choice.take p26.2)),(90002,1,W rI r24.best)]):=by
 intro f
 induction f with
 | zero=>intro b0 b1 b2 b3 b4 b5 b6 b8 b9 b10 h; simp at h
 | succ f ih=>
  intro b0 b1 b2 b3 b4 b5 b6 b8 b9 b10
  refine A9 ⟨?_,?_,?_,?_,?_,?_,?_,?_,?_,?_,?_,?_,?_,?_,?_,?_,?_,?_,?_,?_,⟨⟩⟩<;>try first | (intro h; cases h; done) | (intro _ hw; simp at hw; done) | (intro h0 hw; obtain rfl:=hz h0 rfl; (try obtain rfl:=hq hw 2 rfl rfl); (try obtain rfl:=hq hw 3 rfl rfl); (try obtain rfl:=hq hw 4 rfl rfl); (try obtain rfl:=hq hw 8 rfl rfl); (try obtain rfl:=hq hw 9 rfl rfl); refine np ?_; simp only[B1,cdt,cdf,A1,A,B,C,E,F,J]; exact ih _ _ _ _ _ _ _ _ _ _)
  ·intro h0 hw
   obtain rfl:=hq hw 5 rfl rfl
   obtain rfl:=hq hw 6 rfl rfl
   refine⟨[],[(L,.cut 108)],V,V,?_⟩
   try simp only[B1,cdt,cdf,zC,zB,A1,A,B,C,E,F,J]
   refine A8w V V h25 (by rfl) ?_
   try simp only[A1,A,B,C,E,F,J]
   exact E2q F_w0 caps_w0 a0 x8 v9 r24 p25 p26 h25 h26 _ b0 b1 b2 b3 b4 b8 b9 b10 G G
theorem F7q(F_w0:FuncId)(caps_w0:N D)(a0:Xf)(x8:N X0)(v9:P)(r24:Xf)(p25 p26:U × U)(h25:bnd (r24.plan.length:P) (a0.plan.length:P) 0 r24.plan.length=H p25)(h26:bnd (r24.choice.length:P) (a0.plan.length:P) 0 r24.choice.length=H p26):∀(f:U) (b0 b1:Q) (b2 b3:Q) (b4 b5:Q) (b6 b8:Q) (b9 b10:Q) (b11 b12:Q),E0 X J7 (H6 F_w0 caps_w0 a0 x8 v9 r24 p25 p26) f [b0,b1,b2,b3,b4,b5,b6,G,b8,b9,b10,b11,b12,G,G,G,G,G,G,G] (B1 a0 x8 v9 (vc (.own 90000)) (vc (.own 90001)) b0 b1 b2 b3 b4 b5 b6 G b8 b9 b10 b11 b12 G G G G G [(99999999999,(dm r24.h.row++ [aL (W (rL X0.row) r24.choices),.dat (.clo F_w0 caps_w0),.own 90000,.own 90001,.own 90002,aI r24.least.i0,aI r24.least.i1,aB r24.found]))] [(90000,4,W X0.row r24.plan),(90001,1,W rI r24.choice),(90002,1,W rI r24.best)]):=by
 intro f
 induction f with
 | zero=>intro b0 b1 b2 b3 b4 b5 b6 b8 b9 b10 b11 b12 h; simp at h
 | succ f ih=>
  intro b0 b1 b2 b3 b4 b5 b6 b8 b9 b10 b11 b12
  refine A9 ⟨?_,?_,?_,?_,?_,?_,?_,?_,?_,?_,?_,?_,?_,?_,?_,?_,?_,?_,?_,?_,⟨⟩⟩<;>try first | (intro _ hw; simp at hw; done) | (intro h0 hw; obtain rfl:=hz h0 rfl; (try obtain rfl:=hq hw 2 rfl rfl); (try obtain rfl:=hq hw 3 rfl rfl); (try obtain rfl:=hq hw 4 rfl rfl); (try obtain rfl:=hq hw 8 rfl rfl); (try obtain rfl:=hq hw 9 rfl rfl); (try obtain rfl:=hq hw 10 rfl rfl); refine np ?_; simp only[B1,cdt,cdf,A1,A,B,C,E,F,J]; exact ih _ _ _ _ _ _ _ _ _ _ _ _)
  ·intro h0 hw
   obtain rfl:=hq hw 5 rfl rfl
   obtain rfl:=hq hw 6 rfl rfl
   refine⟨[],[(L,.cut 108)],V,V,?_⟩
   try simp only[B1,cdt,cdf,zC,zB,A1,A,B,C,E,F,J]
   refine A8w V V h25 (by rfl) ?_
   try simp only[A1,A,B,C,E,F,J]
   exact F7l F_w0 caps_w0 a0 x8 v9 r24 p25 p26 h25 h26 _ b0 b1 b2 b3 b4 b8 b9 b10 b11 b12 G G
  ·intro h0 hw
   obtain rfl:=hq hw 11 rfl rfl
   obtain rfl:=hq hw 12 rfl rfl
   refine⟨[],[(L,.cut 114)],V,V,?_⟩
   try simp only[B1,cdt,cdf,zC,zB,A1,A,B,C,E,F,J]
   refine A8w V V h26 (by rfl) ?_
   try simp only[A1,A,B,C,E,F,J]
   exact F2a F_w0 caps_w0 a0 x8 v9 r24 p25 p26 h25 h26 _ b0 b1 b2 b3 b4 b5 b6 b8 b9 b10
theorem F4o(w0:(N X0)→O Xk)(rec_:Xf→O Xf)(F_w0:FuncId)(caps_w0:N D)(hF_w0:A4j X F_w0=T)(h_w0:∀z0 zr,w0 z0=H zr→FC X F_w0 ([.sc (.sl (W X0.row z0))]++caps_w0.map .sc) [.ag [.v (.int .i64 zr.i0),.v (.int .i64 zr.i1)]])(h_rec:∀(a0:Xf) zr,rec_ a0=H zr→FCz X 74 [.p] (U7 F_w0 caps_w0 a0) (U6 a0) (U7 F_w0 caps_w0 zr) (U6 zr) [])(a0:Xf)(x8:N X0):∀(n:U) (v9:P) (v10:X4) (v11:N (N X0)) (v12 v13:P) (v14:Q) (v15:N X0) (v16 v17:N P) (r:Xf),K5 w0 rec_ a0 x8 n v9 v10 v11 v12 v13 v14 v15 v16 v17=H r→∀σ:St,σ.kept [0,3,61,62,63] [99999999999] [90000,90001,90002]=⟨[(0,vc (.pb 99999999999 0)),(3,vc (aI (a0.plan.length:P))),(61,vc (aL (W X0.row x8))),(62,vc (aI (x8.length:P))),(63,vc (aI v9))],[(99999999999,(dm v10.row++ [aL (W (rL X0.row) v11),.dat (.clo F_w0 caps_w0),.own 90000,.own 90001,.own 90002,aI v12,aI v13,aB v14]))],[(90000,4,W X0.row v15),(90001,1,W rI v16),(90002,1,W rI v17)]⟩→go X (.code (.loop C5c):: [.blk 0]) (B0w [] [] (U7 F_w0 caps_w0 r) (U6 r)) .normal (H σ):=by
 intro n
 induction n with
 | zero=>intro _ _ _ _ _ _ _ _ _ r h; cases h
 | succ n ih=>
  intro v9 v10 v11 v12 v13 v14 v15 v16 v17 r h σ hσ
  rw[K5] at h
  refine B5 ?_
  rcases ic h with ⟨h18,h⟩|⟨h18,h⟩
  ·obtain⟨x19,h19,h⟩:=ob h
   try simp only[hσ,h18,h19,C5c,A,B,C,E,F,J]
   refine B7 V V ?_
   try simp only[h18,h19,A,B,C,E,F,J]
   refine B3 V ?_
   obtain⟨r20,h20,h⟩:=ob h
   try simp only[h18,h19,A,B,C,E,F,J]
   refine A5p (B5c _ _ _ _ h20) (by first | rfl | kernel_rfl) (N9 V) V (uf V) ?_
   rcases ic h with ⟨h21,h⟩|⟨h21,h⟩
   ·try simp only[h18,h19,h21,A,B,C,E,F,J]
    obtain⟨h22,h⟩:=C9 h
    obtain⟨h23,h⟩:=C9 h
    refine A3l (ks:= [0,3,4,5,61,62,63]) (bs:= [99999999999,5]) (rs:= [90000,90001,90002]) (τ:=(F0 F_w0 caps_w0 a0 x8 v9 v10 v11 v12 v13 v14 v15 v16 v17 x19)) V (F2k F_w0 caps_w0 a0 x8 v9 v10 v11 v12 v13 v14 v15 v16 v17 x19 h22 h23 _ G G G G G G G G G G G G) ?_
    simp only[F0,A6,cdt]
    try simp only[h18,h19,h21,h22,h23,A,B,C,E,F,J]
    refine C26 ?_
    obtain⟨r24,h24,h⟩:=ob h
    try simp only[h18,h19,h21,h22,h23,A,B,C,E,F,J]
    refine A9z (h_rec _ _ h24) 99999999999 [90000,90001,90002] rfl V V V (by decide) V V V ?_
    try simp only[h18,h19,h21,h22,h23,A,B,C,E,F,J]
    obtain⟨p25,h25,h⟩:=ob h
    obtain⟨p26,h26,h⟩:=ob h
    refine A3l (ks:= [0,3,61,62,63]) (bs:= [99999999999]) (rs:= [90000,90001,90002]) (τ:=(H6 F_w0 caps_w0 a0 x8 v9 r24 p25 p26)) V (F7q F_w0 caps_w0 a0 x8 v9 r24 p25 p26 h25 h26 _ G G G G G G G G G G G G) ?_
    simp only[H6,B1,cdt]
    try simp only[h18,h19,h21,h22,h23,A,B,C,E,F,J]
    refine ih _ _ _ _ _ _ _ _ _ _ h _ ?_
    try simp only[h18,h19,h21,h22,h23,A,B,C,E,F,J,Y]
   ·try simp only[h18,h19,h21,A,B,C,E,F,J]
    refine ih _ _ _ _ _ _ _ _ _ _ h _ ?_
    try simp only[h18,h19,h21,A,B,C,E,F,J,Y]
  ·try simp only[hσ,h18,C5c,A,B,C,E,F,J]
   cases h
   exact⟨trivial,[90000,90001,90002],by decide,by decide,V,V⟩
theorem E2w(w0:(N X0)→O Xk)(rec_:Xf→O Xf)(F_w0:FuncId)(caps_w0:N D)(hF_w0:A4j X F_w0=T)(h_w0:∀z0 zr,w0 z0=H zr→FC X F_w0 ([.sc (.sl (W X0.row z0))]++caps_w0.map .sc) [.ag [.v (.int .i64 zr.i0),.v (.int .i64 zr.i1)]])(h_rec:∀(a0:Xf) zr,rec_ a0=H zr→FCz X 74 [.p] (U7 F_w0 caps_w0 a0) (U6 a0) (U7 F_w0 caps_w0 zr) (U6 zr) [])(a0:Xf)(r1:Xk)(v5:Q)(r:Xf)(h:K3 w0 rec_ a0 r1 v5=H r)(σ:St)(hσ:σ.kept [0,2] [99999999999,2] [90000,90001,90002]=⟨[(0,vc (.pb 99999999999 0)),(2,vc (.pb 2 0))],[(99999999999,(dm a0.h.row++ [aL (W (rL X0.row) a0.choices),.dat (.clo F_w0 caps_w0),.own 90000,.own 90001,.own 90002,aI a0.least.i0,aI a0.least.i1,aB v5])),(2,[aI r1.i0,aI r1.i1])],[(90000,4,W X0.row a0.plan),(90001,1,W rI a0.choice),(90002,1,W rI a0.best)]⟩):go X (.code C64:: []) (B0w [] [] (U7 F_w0 caps_w0 r) (U6 r)) .normal (H σ):=by
 unfold K3 at h
 rcases ic h with ⟨h6,h⟩|⟨h6,h⟩
 ·try simp only[hσ,h6,C64,A,B,C,E,F,J]
  obtain⟨r7,h7,h⟩:=ob h
  refine A3l (ks:= [0,2]) (bs:= [99999999999,2]) (rs:= [90000,90001,90002]) (τ:=(L1 F_w0 caps_w0 a0 r1 r7)) V (F7k F_w0 caps_w0 a0 r1 v5 r7 h7 _ G G G G G G G G) ?_
  simp only[L1,D4,cdt]
  try simp only[h6,A,B,C,E,F,J]
  cases h
  exact⟨trivial,[90000,90001,3008],by decide,by decide,V,V⟩
 ·obtain⟨x8,h8,h⟩:=ob h
  try simp only[hσ,h6,h8,C64,A,B,C,E,F,J]
  refine F4o w0 rec_ F_w0 caps_w0 hF_w0 h_w0 h_rec _ _ _ _ _ _ _ _ _ _ _ _ _ h _ ?_
  try simp only[h6,h8,A,B,C,E,F,J,Y]
theorem F2f:A5 X 74=H (cc517.strip,[],120):=by kernel_rfl
theorem B2h(w0:(N X0)→O Xk)(rec_:Xf→O Xf)(a0 r:Xf)(F_w0:FuncId)(caps_w0:N D)(hF_w0:A4j X F_w0=T)(h_w0:∀z0 zr,w0 z0=H zr→FC X F_w0 ([.sc (.sl (W X0.row z0))]++caps_w0.map .sc) [.ag [.v (.int .i64 zr.i0),.v (.int .i64 zr.i1)]])(h_rec:∀(a0:Xf) zr,rec_ a0=H zr→FCz X 74 [.p] (U7 F_w0 caps_w0 a0) (U6 a0) (U7 F_w0 caps_w0 zr) (U6 zr) [])(h:Y7 w0 rec_ a0=H r):FCz X 74 [.p] (U7 F_w0 caps_w0 a0) (U6 a0) (U7 F_w0 caps_w0 r) (U6 r) []:=by
 unfold Y7 at h
 refine C8c (σ:=⟨[(0,vc (.pb 99999999999 0))],[(99999999999,[aI a0.h.Forecast.Tide.Mean,aL (W zF a0.h.Forecast.Tide.Parts),aL (W X6.row a0.h.Forecast.Surges),aL (W Xd.row a0.h.Chart.Points),aL (W X3.row a0.h.Chart.Segments),aL (W Xc.row a0.h.Fleet),aI a0.h.Regime.Gap,aB a0.h.Regime.NoMeet,aI a0.h.Crew.Tugs,aI a0.h.Crew.Pilots,aI a0.h.Crew.Rest,aL (W rI a0.h.Crew.Moves),aL (W (rL X0.row) a0.choices),.dat (.clo F_w0 caps_w0),.own 90000,.own 90001,.own 90002,aI a0.least.i0,aI a0.least.i1,aB a0.found])],[(90000,4,W X0.row a0.plan),(90001,1,W rI a0.choice),(90002,1,W rI a0.best)]⟩) mixed F2f V V V V ?_
 simp only[cc517]
 try simp only[A,B,C,E,F,J]
 refine B3 V ?_
 obtain⟨r1,h1,h⟩:=ob h
 try simp only[A,B,C,E,F,J]
 refine D6m (h_w0 _ _ h1) hF_w0 (by first | rfl | kernel_rfl) (by first | rfl | kernel_rfl) (N9 V) V (uf V) ?_
 try simp only[A,B,C,E,F,J]
 refine B6b (m:= .box 2 [aI (0:P),aI (0:P)]) V V (A9o V V) ?_
 try simp only[A,B,C,E,F,J]
 refine B3 V ?_
 try simp only[A,B,C,E,F,J]
 refine B3 V ?_
 rcases ic h with ⟨h2,h⟩|⟨h2,h⟩
 ·obtain⟨r3,h3,h⟩:=ob h
  try simp only[h2,A,B,C,E,F,J]
  refine E1 (B6z _ _ _ h3) V V (uf V) ?_
  rcases ic h with ⟨h4,h⟩|⟨h4,h⟩
  ·try simp only[h2,h4,A,B,C,E,F,J]
   refine E2w w0 rec_ F_w0 caps_w0 hF_w0 h_w0 h_rec _ _ _ _ h _ ?_
   try simp only[h2,h4,A,B,C,E,F,J,Y]
  ·try simp only[h2,h4,A,B,C,E,F,J]
   cases h
   exact⟨trivial,[90000,90001,90002],by decide,by decide,V,V⟩
 ·try simp only[h2,A,B,C,E,F,J]
  refine E2w w0 rec_ F_w0 caps_w0 hF_w0 h_w0 h_rec _ _ _ _ h _ ?_
  try simp only[h2,A,B,C,E,F,J,Y]
theorem B2j(w0:(N X0)→O Xk)(F_w0:FuncId)(caps_w0:N D)(hF_w0:A4j X F_w0=T)(h_w0:∀z0 zr,w0 z0=H zr→FC X F_w0 ([.sc (.sl (W X0.row z0))]++caps_w0.map .sc) [.ag [.v (.int .i64 zr.i0),.v (.int .i64 zr.i1)]]):∀(n:U) (a0 r:Xf),G1 w0 n a0=H r→FCz X 74 [.p] (U7 F_w0 caps_w0 a0) (U6 a0) (U7 F_w0 caps_w0 r) (U6 r) []:=by
 intro n
 induction n with
 | zero=>intro _ r h; cases h
 | succ n ih=>intro a0 r h; rw[G1] at h; exact B2h w0 (G1 w0 n) a0 r F_w0 caps_w0 hF_w0 h_w0 ih h
theorem B3q(w0:(N X0)→O Xk)(a0 r:Xf)(F_w0:FuncId)(caps_w0:N D)(hF_w0:A4j X F_w0=T)(h_w0:∀z0 zr,w0 z0=H zr→FC X F_w0 ([.sc (.sl (W X0.row z0))]++caps_w0.map .sc) [.ag [.v (.int .i64 zr.i0),.v (.int .i64 zr.i1)]])(h:A6c w0 a0=H r):FCz X 74 [.p] (U7 F_w0 caps_w0 a0) (U6 a0) (U7 F_w0 caps_w0 r) (U6 r) []:=B2j w0 F_w0 caps_w0 hF_w0 h_w0 bigN a0 r h
/- 46:impl_leastPlan -/
def A7b:N (N U × AItem):= [([],(L,.mv 17 (S 9))),([0],(L,.nilc 18 (S 17))),([1],(L,.faddr 19 (S 18) 16)),([2],(L,.load 20 (S 19) G 1)),([],(L,.mv 21 (S 9))),([4],(L,.nilc 22 (S 21))),([5],(L,.faddr 23 (S 22) 17)),([6],(L,.load 24 (S 23) T 2)),([],(L,.mv 25 (S 9))),([8],(L,.nilc 26 (S 25))),([9],(L,.faddr 27 (S 26) 19)),([10],(L,.load 28 (S 27) G 1)),([3,0,1,2,3],(L,.mv 6 (S 20))),([7,12,0,1,2,3,4,5,6,7,12],(L,.store (S 7) (S 24) 2)),([11,13,0,1,2,3,4,5,6,7,8,9,10,11,12,13],(L,.mv 8 (S 28)))]
def cc542:X2:=(.seq (.reg [bo 3 0,(L,.mv 6 KN),(L,.alloc 7 [aI 0,aI 0]),(L,.mv 8 (KB G))]) (.seq (.reg [lw 10 3 12,mv 11 1,mv 12 2,(L,.build 13 [aI 0,.nil,.nil,.nil,.nil,.nil,aI 0,aB G,aI 0,aI 0,aI 0,.nil,.nil,.undef,.nil,.nil,.nil,aI 0,aI 0,aB G] [(0,12,(S 10)),(12,1,(S 11)),(13,1,(S 12))]),bo 14 13,(L,.ownb 14 14 143232 4),(L,.ownb 14 15 143296 1),(L,.ownb 14 16 143360 1),mv 9 14]) (.seq (.cal [mv 15 9] 16 74 [(S 15)]) (.seq (.any A7b) .ret))))
abbrev S2(r1:Xf)(c0_ c1_:Q)(c2_ c3_:Q)(c4_ c5_:Q)(c6_ c7_:Q)(c8_ c9_:Q)(c10_ c11_:Q)(c12_ c14_:Q)(bx_:N (U × N AC))(rs_:Rows):St:=⟨[(7,vc (.pb 7 0)),(9,vc (.pb 14 0)),(17,bif c0_ then vc (.pb 14 0) else .undef),(18,bif c1_ then vc (.pb 14 0) else .undef),(19,bif c2_ then vc (.pb 14 16) else .undef),(20,bif c3_ then vc (.own 143360) else .undef),(21,bif c4_ then vc (.pb 14 0) else .undef),(22,bif c5_ then vc (.pb 14 0) else .undef),(23,bif c6_ then vc (.pb 14 17) else .undef),(24,bif c7_ then va [aI r1.least.i0,aI r1.least.i1] else .undef),(25,bif c8_ then vc (.pb 14 0) else .undef),(26,bif c9_ then vc (.pb 14 0) else .undef),(27,bif c10_ then vc (.pb 14 19) else .undef),(28,bif c11_ then vc (aB r1.found) else .undef),(6,bif c12_ then vc (.own 143360) else .undef),(8,bif c14_ then vc (aB r1.found) else .undef)],bx_,rs_⟩
abbrev A3p(F_a2:FuncId)(caps_a2:N D)(r1:Xf):St:=(S2 r1 T T T T T T T T T T T T T T [(7,[aI r1.least.i0,aI r1.least.i1]),(14,(dm r1.h.row++ [aL (W (rL X0.row) r1.choices),.dat (.clo F_a2 caps_a2),.own 143232,.own 143296,.own 143360,aI r1.least.i0,aI r1.least.i1,aB r1.found]))] [(143232,4,W X0.row r1.plan),(143296,1,W rI r1.choice),(143360,1,W rI r1.best)])
theorem F60(F_a2:FuncId)(caps_a2:N D)(r1:Xf):∀(f:U) (b8 b9:Q) (b10 b11 b14:Q),E0 X A7b (A3p F_a2 caps_a2 r1) f [T,T,T,T,T,T,T,T,b8,b9,b10,b11,T,T,b14] (S2 r1 T T T T T T T T b8 b9 b10 b11 T b14 [(7,[aI r1.least.i0,aI r1.least.i1]),(14,(dm r1.h.row++ [aL (W (rL X0.row) r1.choices),.dat (.clo F_a2 caps_a2),.own 143232,.own 143296,.own 143360,aI r1.least.i0,aI r1.least.i1,aB r1.found]))] [(143232,4,W X0.row r1.plan),(143296,1,W rI r1.choice),(143360,1,W rI r1.best)]):=by
 intro f
 induction f with
 | zero=>
  intro b8 b9 b10 b11 b14 h
  obtain rfl:b8=T:=zA.1 h b8 (by simp)
  obtain rfl:b9=T:=zA.1 h b9 (by simp)
  obtain rfl:b10=T:=zA.1 h b10 (by simp)
  obtain rfl:b11=T:=zA.1 h b11 (by simp)
  obtain rfl:b14=T:=zA.1 h b14 (by simp)
  rfl
 | succ f ih=>
  intro b8 b9 b10 b11 b14
  refine A9 ⟨?_,?_,?_,?_,?_,?_,?_,?_,?_,?_,?_,?_,?_,?_,?_,⟨⟩⟩<;>try first | (intro h; cases h; done) | (intro h0 hw; obtain rfl:=hz h0 rfl; (try obtain rfl:=hq hw 8 rfl rfl); (try obtain rfl:=hq hw 9 rfl rfl); (try obtain rfl:=hq hw 10 rfl rfl); (try obtain rfl:=hq hw 11 rfl rfl); refine np ?_; simp only[S2,cdt,cdf,A1,A,B,C,E,F,J]; exact ih _ _ _ _ _)
theorem F87(F_a2:FuncId)(caps_a2:N D)(r1:Xf):∀(f:U) (b0 b1:Q) (b2 b3:Q) (b4 b5:Q) (b6 b7:Q) (b8 b9:Q) (b10 b11 b12:Q),E0 X A7b (A3p F_a2 caps_a2 r1) f [b0,b1,b2,b3,b4,b5,b6,b7,b8,b9,b10,b11,b12,G,G] (S2 r1 b0 b1 b2 b3 b4 b5 b6 b7 b8 b9 b10 b11 b12 G [(7,[aI (0:P),aI (0:P)]),(14,(dm r1.h.row++ [aL (W (rL X0.row) r1.choices),.dat (.clo F_a2 caps_a2),.own 143232,.own 143296,.own 143360,aI r1.least.i0,aI r1.least.i1,aB r1.found]))] [(143232,4,W X0.row r1.plan),(143296,1,W rI r1.choice),(143360,1,W rI r1.best)]):=by
 intro f
 induction f with
 | zero=>intro b0 b1 b2 b3 b4 b5 b6 b7 b8 b9 b10 b11 b12 h; simp at h
 | succ f ih=>
  intro b0 b1 b2 b3 b4 b5 b6 b7 b8 b9 b10 b11 b12
  refine A9 ⟨?_,?_,?_,?_,?_,?_,?_,?_,?_,?_,?_,?_,?_,?_,?_,⟨⟩⟩<;>try first | (intro _ hw; simp at hw; done) | (intro h0 hw; obtain rfl:=hz h0 rfl; (try obtain rfl:=hq hw 0 rfl rfl); (try obtain rfl:=hq hw 1 rfl rfl); (try obtain rfl:=hq hw 2 rfl rfl); (try obtain rfl:=hq hw 3 rfl rfl); (try obtain rfl:=hq hw 4 rfl rfl); (try obtain rfl:=hq hw 5 rfl rfl); (try obtain rfl:=hq hw 6 rfl rfl); (try obtain rfl:=hq hw 8 rfl rfl); (try obtain rfl:=hq hw 9 rfl rfl); (try obtain rfl:=hq hw 10 rfl rfl); refine np ?_; simp only[S2,cdt,cdf,A1,A,B,C,E,F,J]; exact ih _ _ _ _ _ _ _ _ _ _ _ _ _)
  ·intro h0 hw
   obtain rfl:=hq hw 0 rfl rfl
   obtain rfl:=hq hw 1 rfl rfl
   obtain rfl:=hq hw 2 rfl rfl
   obtain rfl:=hq hw 3 rfl rfl
   obtain rfl:=hq hw 4 rfl rfl
   obtain rfl:=hq hw 5 rfl rfl
   obtain rfl:=hq hw 6 rfl rfl
   obtain rfl:=hq hw 7 rfl rfl
   obtain rfl:=hq hw 12 rfl rfl
   refine np ?_
   try simp only[S2,cdt,cdf,A1,A,B,C,E,F,J]
   exact F60 F_a2 caps_a2 r1 _ b8 b9 b10 b11 G
theorem F7w:A5 X 46=H (cc542.strip,[6,.c 7 T 2,8],29):=by kernel_rfl
theorem B9a(a0:X4)(a1:N (N X0))(a2:(N X0)→O Xk)(r:(N P) × Xk × Q)(F_a2:FuncId)(caps_a2:N D)(hF_a2:A4j X F_a2=T)(h_a2:∀z0 zr,a2 z0=H zr→FC X F_a2 ([.sc (.sl (W X0.row z0))]++caps_a2.map .sc) [.ag [.v (.int .i64 zr.i0),.v (.int .i64 zr.i1)]])(h:A4o a0 a1 a2=H r):FC X 46 [.ag (X4.row a0),.sc (.sl (W (rL X0.row) a1)),.sc (.clo F_a2 caps_a2)] [.sc (.o 1 (W rI r.1)),.ag [.v (.int .i64 r.2.1.i0),.v (.int .i64 r.2.1.i1)],.sc (.v (.bool r.2.2))]:=by
 unfold A4o at h
 refine C3 mixed F7w V ?_
 simp only[cc542,A,B,C,E,F,J]
 try simp only[A,B,C,E,F,J]
 refine B2 V V V ?_
 try simp only[A,B,C,E,F,J]
 refine B7 V V ?_
 try simp only[A,B,C,E,F,J]
 refine B2 V V V ?_
 try simp only[A,B,C,E,F,J]
 refine A4p (cs':= [aI a0.Forecast.Tide.Mean,aL (W zF a0.Forecast.Tide.Parts),aL (W X6.row a0.Forecast.Surges),aL (W Xd.row a0.Chart.Points),aL (W X3.row a0.Chart.Segments),aL (W Xc.row a0.Fleet),aI a0.Regime.Gap,aB a0.Regime.NoMeet,aI a0.Crew.Tugs,aI a0.Crew.Pilots,aI a0.Crew.Rest,aL (W rI a0.Crew.Moves),aL (W (rL X0.row) a1),.dat (.clo F_a2 caps_a2),.own 143232,.nil,.nil,aI (0:P),aI (0:P),aB G]) V V V V ?_
 try simp only[A,B,C,E,F,J]
 refine A4p (cs':= [aI a0.Forecast.Tide.Mean,aL (W zF a0.Forecast.Tide.Parts),aL (W X6.row a0.Forecast.Surges),aL (W Xd.row a0.Chart.Points),aL (W X3.row a0.Chart.Segments),aL (W Xc.row a0.Fleet),aI a0.Regime.Gap,aB a0.Regime.NoMeet,aI a0.Crew.Tugs,aI a0.Crew.Pilots,aI a0.Crew.Rest,aL (W rI a0.Crew.Moves),aL (W (rL X0.row) a1),.dat (.clo F_a2 caps_a2),.own 143232,.own 143296,.nil,aI (0:P),aI (0:P),aB G]) V V V V ?_
 try simp only[A,B,C,E,F,J]
 refine A4p (cs':= [aI a0.Forecast.Tide.Mean,aL (W zF a0.Forecast.Tide.Parts),aL (W X6.row a0.Forecast.Surges),aL (W Xd.row a0.Chart.Points),aL (W X3.row a0.Chart.Segments),aL (W Xc.row a0.Fleet),aI a0.Regime.Gap,aB a0.Regime.NoMeet,aI a0.Crew.Tugs,aI a0.Crew.Pilots,aI a0.Crew.Rest,aL (W rI a0.Crew.Moves),aL (W (rL X0.row) a1),.dat (.clo F_a2 caps_a2),.own 143232,.own 143296,.own 143360,aI (0:P),aI (0:P),aB G]) V V V V ?_
 try simp only[A,B,C,E,F,J]
 refine C26 ?_
 obtain⟨r1,h1,h⟩:=ob h
 try simp only[A,B,C,E,F,J]
 refine A9z (B3q _ _ _ F_a2 caps_a2 hF_a2 h_a2 h1) 14 [143232,143296,143360] rfl V V V (by decide) V V V ?_
 try simp only[A,B,C,E,F,J]
 refine A3l (ks:= [7,9]) (bs:= [7,14]) (rs:= [143232,143296,143360]) (τ:=(A3p F_a2 caps_a2 r1)) V (F87 F_a2 caps_a2 r1 _ G G G G G G G G G G G G G) ?_
 simp only[A3p,S2,cdt]
 try simp only[A,B,C,E,F,J]
 cases h
 try simp only[I2,A,B,C,E,F,J]
 trivial
/- 39:impl_CostOf -/
def C44:X2:= .seq (.reg [(L,.keep [3,6,7,8] [] [])]) (.seq (.reg [bn 9 .lss 8 7]) (.seq (.cond (S 9) .skip (.exit 0)) (.seq (.block 1 (.seq (.reg [ia 10 6 8 4,lw 11 10 4,(L,.alloc 5 [aI 0,aI 0,aI 0,.nil]),so 5 11 4]) (.reg [mv 12 3,fa 13 5 2,ld 14 13,bn 15 .add 12 14,mv 3 15]))) (.reg [(L,.bin 16 .add (S 8) (K 1)),mv 8 16]))))
def D5b:X2:=(.seq (.reg [mv 17 3,mv 2 17]) .ret)
def cc548:X2:=(.seq (.reg [(L,.mv 2 (K 0))]) (.seq (.reg [(L,.mv 3 (K 0))]) (.seq (.seq (.reg [mv 6 0,ln 7 6,(L,.mv 8 (K 0))]) (.block 0 (.loop C44))) D5b)))
theorem F91(a0:N X0):∀(n:U) (v1 v2 r:P),A04 a0 n v1 v2=H r→∀σ:St,σ.kept [3,6,7,8] [] []=⟨[(3,vc (aI v1)),(6,vc (aL (W X0.row a0))),(7,vc (aI (a0.length:P))),(8,vc (aI v2))],[],[]⟩→go X (.code (.loop C44):: [.blk 0,.code D5b]) (Ret [2] [.sc (.v (.int .i64 r))]) .normal (H σ):=by
 intro n
 induction n with
 | zero=>intro _ _ r h; cases h
 | succ n ih=>
  intro v1 v2 r h σ hσ
  rw[A04] at h
  refine B5 ?_
  rcases ic h with ⟨h3,h⟩|⟨h3,h⟩
  ·obtain⟨x4,h4,h⟩:=ob h
   try simp only[hσ,h3,h4,C44,A,B,C,E,F,J]
   refine B7 V V ?_
   try simp only[h3,h4,A,B,C,E,F,J]
   refine ih _ _ _ h _ ?_
   try simp only[h3,h4,A,B,C,E,F,J,Y]
  ·try simp only[hσ,h3,C44,D5b,A,B,C,E,F,J]
   cases h
   trivial
theorem F9b:A5 X 39=H (cc548.strip,[2],18):=by kernel_rfl
theorem A40(a0:N X0)(r:P)(h:Y2 a0=H r):FC X 39 [.sc (.sl (W X0.row a0))] [.sc (.v (.int .i64 r))]:=by
 unfold Y2 at h
 refine C3 mixed F9b V ?_
 simp only[cc548,A,B,C,E,F,J]
 try simp only[A,B,C,E,F,J]
 refine F91 _ _ _ _ _ h _ ?_
 try simp only[A,B,C,E,F,J,Y]
/- 48:impl_byCost -/
def cc551:X2:=(.seq (.reg [(L,.alloc 2 [aI 0,aI 0])]) (.seq (.reg [mv 3 0,ca 4 39 [S 3],(L,.build 5 [aI 0,aI 0] [(0,1,(S 4))]),so 2 5 2]) .ret))
theorem F55:A5 X 48=H (cc551.strip,[.c 2 T 2],6):=by kernel_rfl
theorem C4t(a0:N X0)(r:Xk)(h:A6w a0=H r):FC X 48 [.sc (.sl (W X0.row a0))] [.ag [.v (.int .i64 r.i0),.v (.int .i64 r.i1)]]:=by
 unfold A6w at h
 refine C3 mixed F55 V ?_
 simp only[cc551,A,B,C,E,F,J]
 try simp only[A,B,C,E,F,J]
 refine B7 V V ?_
 obtain⟨r1,h1,h⟩:=ob h
 try simp only[A,B,C,E,F,J]
 refine A2 (A40 _ _ h1) V V (uf V) ?_
 try simp only[A,B,C,E,F,J]
 cases h
 try simp only[I2,A,B,C,E,F,J]
 trivial
/- 22:impl_BestPlan -/
def cc553:X2:=(.seq (.reg [bo 2 0,(L,.mv 4 KN),(L,.mv 5 (K 0)),(L,.mv 6 (KB G))]) (.seq (.seq (.reg [lw 10 2 12,mv 11 1,ca 12 7 [S 10,S 11],nt 13 12]) (.cond (S 13) (.seq (.reg [(L,.mv 4 KN),(L,.mv 5 (K 0)),(L,.mv 6 (KB G))]) .ret) .skip)) (.seq (.drw [(H [18,8],lw 15 2 12),(H [8],lw 16 2 12),(H [8],mv 17 1),(H [8],ca 18 47 [S 16,S 17]),(H [8],ca 19 46 [S 15,S 18,.c (.v (.sc (.dat (.clo 48 []))))]),(H [8],mv 14 19),(H [8],xt 20 14 0),(H [8],xt 21 14 1),(H [8],xt 22 14 2),(H [18,19],(L,.alloc 8 [aI 0,aI 0])),o0 (mv 7 20),(L,so 8 21 2),o0 (mv 9 22)]) (.seq (.drw [o0 (mv 23 7),o0 (fa 24 8 0),o0 (ld 25 24),o0 (mv 26 9),o0 (mv 4 23),o0 (mv 5 25),o0 (mv 6 26)]) .ret))))
theorem F44:A5 X 22=H (cc553.strip,[4,5,6],27):=by kernel_rfl
theorem C01(a0:X4)(a1:N Xa)(r:(N P) × P × Q)(h:A1j a0 a1=H r):FC X 22 [.ag (X4.row a0),.sc (.sl (W zD a1))] [.sc (.o 1 (W rI r.1)),.sc (.v (.int .i64 r.2.1)),.sc (.v (.bool r.2.2))]:=by
 unfold A1j at h
 refine C3 mixed F44 V ?_
 simp only[cc553,A,B,C,E,F,J]
 try simp only[A,B,C,E,F,J]
 refine B2 V V V ?_
 obtain⟨r1,h1,h⟩:=ob h
 try simp only[A,B,C,E,F,J]
 refine A2 (A3v _ _ _ h1) V V (uf V) ?_
 rcases ic h with ⟨h2,h⟩|⟨h2,h⟩
 ·try simp only[h2,A,B,C,E,F,J]
  refine B3 V ?_
  obtain⟨r3,h3,h⟩:=ob h
  try simp only[h2,A,B,C,E,F,J]
  refine E1 (B8k _ _ _ h3) V V (uf V) ?_
  obtain⟨r4,h4,h⟩:=ob h
  try simp only[h2,A,B,C,E,F,J]
  refine A5p (B9a _ _ _ _ 48 [] (by kernel_rfl) (fun z0 zr zh=>C4t z0 zr zh) h4) (by first | rfl | kernel_rfl) (A7r V ⟨A7m,V,V,V,⟨⟩⟩) V (uf V) ?_
  try simp only[h2,A,B,C,E,F,J]
  refine B6b (m:= .box 8 [aI (0:P),aI (0:P)]) V V (A9o V V) ?_
  try simp only[h2,A,B,C,E,F,J]
  refine B3 V ?_
  try simp only[h2,A,B,C,E,F,J]
  refine B3 V ?_
  try simp only[h2,A,B,C,E,F,J]
  cases h
  trivial
 ·try simp only[h2,A,B,C,E,F,J]
  cases h
  trivial
/- 23:impl_PlanOf -/
def C6u:X2:= .seq (.reg [(L,.keep [1,2,3,22] [3] [])]) (.cond (S 22) (.seq (.reg [(L,.mv 6 KN),(L,.mv 7 (KB G))]) .ret) .skip)
def C5o:X2:= .seq (.reg [(L,.keep [2,3,8,24,25,26] [3] [1472])]) (.seq (.reg [bn 27 .lss 26 25]) (.seq (.cond (S 27) .skip (.exit 0)) (.seq (.block 1 (.seq (.reg [mv 28 26,ia 29 24 26 5,lw 30 29 5,(L,.alloc 10 [aI 0,aI 0,aI 0,aI 0,aI 0]),mv 9 28,so 10 30 5]) (.seq (.reg [lw 31 3 12,lw 32 10 5,ca 33 49 [S 31,S 32],mv 11 33]) (.seq (.seq (.reg [mv 34 2,mv 35 9,ia 36 34 35 1,ld 37 36,mv 38 11,ln 39 38,ca 40 50 [S 37,S 39],nt 41 40]) (.cond (S 41) (.seq (.reg [(L,.mv 6 KN),(L,.mv 7 (KB G))]) .ret) .skip)) (.reg [mv 42 8,mv 43 11,mv 44 2,mv 45 9,ia 46 44 45 1,ld 47 46,ia 48 43 47 4,lw 49 48 4,(L,.bslice 50 4 [.int .i64 0,.int .i64 0,.int .i64 0,.sl []] 1 [(0,(S 49))]),(L,.app 51 4 48 (S 42) (S 50)),mv 8 51]))))) (.reg [(L,.bin 52 .add (S 26) (K 1)),mv 26 52]))))
def D25:X2:=(.seq (.reg [mv 53 8,mv 6 53,(L,.mv 7 (KB T))]) .ret)
def D4x:X2:=(.seq (.reg [(L,.bslice 23 4 [.int .i64 0,.int .i64 0,.int .i64 0,.sl []] 0 []),mv 8 23]) (.seq (.seq (.reg [mv 24 1,ln 25 24,(L,.mv 26 (K 0))]) (.block 0 (.loop C5o))) D25))
def cc559:X2:=(.seq (.reg [bo 3 0,(L,.mv 6 KN),(L,.mv 7 (KB G))]) (.seq (.seq (.reg [lw 12 3 12,mv 13 1,ca 14 7 [S 12,S 13],nt 15 14,mv 16 15,(H (16,G),.mv 17 (S 2)),(H (16,G),.len 18 (S 17)),(H (16,G),.mv 19 (S 1)),(H (16,G),.len 20 (S 19)),(H (16,G),.bin 21 .neq (S 18) (S 20)),po 22 16 21]) C6u) D4x))
theorem F2p(a2:N P)(a1:N Xa)(a0:X4):∀(n:U) (v5:P) (v6:N X0) (r:(N X0) × Q),A06 a2 a1 a0 n v5 v6=H r→∀σ:St,σ.kept [2,3,8,24,25,26] [3] [1472]=⟨[(2,vc (aL (W rI a2))),(3,vc (.pb 3 0)),(8,vc (.own 1472)),(24,vc (aL (W zD a1))),(25,vc (aI (a1.length:P))),(26,vc (aI v5))],[(3,(dm a0.row))],[(1472,4,W X0.row v6)]⟩→go X (.code (.loop C5o):: [.blk 0,.code D25]) (Ret [6,7] [.sc (.o 4 (W X0.row r.1)),.sc (.v (.bool r.2))]) .normal (H σ):=by
 intro n
 induction n with
 | zero=>intro _ _ r h; cases h
 | succ n ih=>
  intro v5 v6 r h σ hσ
  rw[A06] at h
  refine B5 ?_
  rcases ic h with ⟨h7,h⟩|⟨h7,h⟩
  ·obtain⟨x8,h8,h⟩:=ob h
   try simp only[hσ,h7,h8,C5o,A,B,C,E,F,J]
   refine B7 V V ?_
   obtain⟨r9,h9,h⟩:=ob h
   try simp only[h7,h8,A,B,C,E,F,J]
   refine A2 (B18 _ _ _ h9) V V (uf V) ?_
   obtain⟨x10,h10,h⟩:=ob h
   obtain⟨r11,h11,h⟩:=ob h
   try simp only[h7,h8,h10,A,B,C,E,F,J]
   refine A2 (E9 _ _ _ h11) V V (uf V) ?_
   rcases ic h with ⟨h12,h⟩|⟨h12,h⟩
   ·obtain⟨x13,h13,h⟩:=ob h
    have h13n:=M2 h13
    try simp only[h7,h8,h10,h12,h13,h13n,A,B,C,E,F,J]
    refine D6 (es:=W X0.row ([x13]:N X0)) V V ?_
    obtain⟨h14,h⟩:=C9 h
    try simp only[h7,h8,h10,h12,h13,h13n,h14,A,B,C,E,F,J]
    refine ih _ _ _ h _ ?_
    try simp only[h7,h8,h10,h12,h13,h13n,h14,A,B,C,E,F,J,Y]
   ·try simp only[h7,h8,h10,h12,A,B,C,E,F,J]
    cases h
    trivial
  ·try simp only[hσ,h7,C5o,D25,A,B,C,E,F,J]
   cases h
   trivial
theorem E3a(a1:N Xa)(a2:N P)(a0:X4)(v3:Q)(r:(N X0) × Q)(h:A5a a1 a2 a0 v3=H r)(σ:St)(hσ:σ.kept [1,2,3,22] [3] []=⟨[(1,vc (aL (W zD a1))),(2,vc (aL (W rI a2))),(3,vc (.pb 3 0)),(22,vc (aB v3))],[(3,(dm a0.row))],[]⟩):go X (.code C6u:: [.code D4x]) (Ret [6,7] [.sc (.o 4 (W X0.row r.1)),.sc (.v (.bool r.2))]) .normal (H σ):=by
 unfold A5a at h
 rcases ic h with ⟨h4,h⟩|⟨h4,h⟩
 ·try simp only[hσ,h4,C6u,A,B,C,E,F,J]
  cases h
  trivial
 ·try simp only[hσ,h4,C6u,D4x,A,B,C,E,F,J]
  refine D6 (es:=W X0.row ([]:N X0)) V V ?_
  try simp only[h4,A,B,C,E,F,J]
  refine F2p _ _ _ _ _ _ _ h _ ?_
  try simp only[h4,A,B,C,E,F,J,Y]
theorem F2o:A5 X 23=H (cc559.strip,[6,7],54):=by kernel_rfl
theorem C42(a0:X4)(a1:N Xa)(a2:N P)(r:(N X0) × Q)(h:A6z a0 a1 a2=H r):FC X 23 [.ag (X4.row a0),.sc (.sl (W zD a1)),.sc (.sl (W rI a2))] [.sc (.o 4 (W X0.row r.1)),.sc (.v (.bool r.2))]:=by
 unfold A6z at h
 refine C3 mixed F2o V ?_
 simp only[cc559,A,B,C,E,F,J]
 try simp only[A,B,C,E,F,J]
 refine B2 V V V ?_
 obtain⟨r1,h1,h⟩:=ob h
 try simp only[A,B,C,E,F,J]
 refine A2 (A3v _ _ _ h1) V V (uf V) ?_
 rcases ic h with ⟨h2,h⟩|⟨h2,h⟩
 ·try simp only[h2,A,B,C,E,F,J]
  refine E3a _ _ _ _ _ h _ ?_
  try simp only[h2,A,B,C,E,F,J,Y]
 ·try simp only[h2,A,B,C,E,F,J]
  refine E3a _ _ _ _ _ h _ ?_
  try simp only[h2,A,B,C,E,F,J,Y]
/- 5:impl_WaitStrategy -/
def C6b:X2:= .seq (.reg [(L,.keep [1,2,3,4,8,10,11,47] [4,8] [])]) (.cond (S 47) (.seq (.reg [(L,.build 48 [aI 0,.nil] []),so 8 48 2,(L,.mv 9 (KB G))]) .ret) .skip)
def C68:X2:= .seq (.reg [(L,.keep [1,2,3,4,8,10,11,49,50,51] [4,8] [])]) (.seq (.reg [bn 52 .lss 51 50]) (.seq (.cond (S 52) .skip (.exit 0)) (.seq (.block 1 (.seq (.reg [ia 53 49 51 5,lw 54 53 5,(L,.alloc 14 [aI 0,aI 0,aI 0,aI 0,aI 0]),so 14 54 5]) (.seq (.reg [fa 55 14 3,ld 56 55,mv 57 2,bn 58 .lss 56 57]) (.cond (S 58) (.seq (.reg [(L,.build 59 [aI 0,.nil] []),so 8 59 2,(L,.mv 9 (KB G))]) .ret) .skip)))) (.reg [(L,.bin 60 .add (S 51) (K 1)),mv 51 60]))))
def C6z:X2:= .seq (.reg [(L,.keep [1,2,4,8,10,15,17,18,20,68,69,70,95] [4,8,15,18] [143424,5121,5122,5123,5124,5125,5131,5504,4096])]) (.cond (S 95) (.seq (.reg [(L,.build 96 [aI 0,.nil] []),so 8 96 2,(L,.mv 9 (KB G))]) .ret) .skip)
def D15:X2:=(.seq (.reg [lw 98 18 12,mv 99 1,mv 100 20,(L,.frz 5121),(L,.frz 5122),(L,.frz 5123),(L,.frz 5124),(L,.frz 5125),(L,.frz 5131),(L,.frz 5504),ca 101 23 [S 98,S 99,S 100],mv 97 101,xt 102 97 0,xt 103 97 1,mv 23 102,mv 24 103]) (.seq (.reg [fa 104 15 1,ld 105 104,mv 106 10,mv 107 17,(L,.bin 108 .sub (S 107) (K 1)),mv 109 23,(L,.build 110 [aI 0,aI 0,.nil] [(0,1,(S 106)),(1,1,(S 108)),(2,1,(S 109))]),(L,.frz 6464),(L,.bslice 111 3 [.int .i64 0,.int .i64 0,.sl []] 1 [(0,(S 110))]),(L,.app 112 3 40 (S 105) (S 111)),fa 113 15 1,so 113 112 1]) (.reg [mv 114 17,mv 10 114])))
def D4h:X2:=(.reg [(L,.bin 115 .add (S 70) (K 1)),mv 70 115])
def B7q:X2:= .seq (.reg [(L,.keep [1,2,4,8,10,15,68,69,70] [4,8,15] [143424,4096])]) (.seq (.reg [bn 71 .lss 70 69]) (.seq (.cond (S 71) .skip (.exit 2)) (.seq (.block 3 (.seq (.reg [ia 72 68 70 1,ld 73 72,mv 17 73]) (.seq (.reg [lw 75 4 12,mv 76 2,mv 77 10,mv 78 17,(L,.bin 79 .sub (S 78) (K 1)),ca 80 9 [S 75,S 76,S 77,S 79],mv 74 80,xt 81 74 0,xt 82 74 1,(L,.alloc 18 [aI 0,.nil,.nil,.nil,.nil,.nil,aI 0,aB G,aI 0,aI 0,aI 0,.nil]),so 18 81 12,mv 19 82]) (.seq (.reg [lw 84 18 12,mv 85 1,ca 86 22 [S 84,S 85],mv 83 86,xt 87 83 0,xt 88 83 1,xt 89 83 2,mv 20 87,mv 21 88,mv 22 89]) (.seq (.seq (.reg [mv 90 19,nt 91 90,mv 92 91,(H (92,G),.mv 93 (S 22)),(H (92,G),.un 94 .not (S 93)),po 95 92 94]) C6z) D15))))) D4h)))
def C1b:X2:=(.seq (.reg [lw 116 15 2,so 8 116 2,(L,.mv 9 (KB T))]) .ret)
def D2s:X2:=(.seq (.reg [mv 61 2,(L,.build 62 [aI 0,.nil] [(0,1,(S 61))]),(L,.alloc 15 [aI 0,.nil]),so 15 62 2,(L,.ownb 15 1 143424 3)]) (.seq (.seq (.reg [mv 63 3,ca 64 21 [S 63],mv 65 11,(L,.bin 66 .add (S 65) (K 1)),(L,.bslice 67 1 [.int .i64 0] 1 [(0,(S 66))]),(L,.app 68 1 8 (S 64) (S 67)),ln 69 68,(L,.mv 70 (K 0))]) (.block 2 (.loop B7q))) C1b))
def D2g:X2:=(.seq (.seq (.reg [mv 49 1,ln 50 49,(L,.mv 51 (K 0))]) (.block 0 (.loop C68))) D2s)
def cc572:X2:=(.seq (.reg [bo 4 0,(L,.alloc 8 [aI 0,.nil]),(L,.mv 9 (KB G))]) (.seq (.reg [fa 26 4 0,lw 27 26 3,mv 28 2,ca 29 6 [S 27,S 28],mv 25 29,xt 30 25 0,xt 31 25 1,xt 32 25 2,mv 10 30,mv 11 31,mv 12 32]) (.seq (.seq (.reg [mv 33 12,nt 34 33,mv 35 34,(H (35,G),.load 36 (S 4) T 12),(H (35,G),.mv 37 (S 1)),(H (35,G),.call 38 7 [(S 36),(S 37)]),(H (35,G),.un 39 .not (S 38)),po 40 35 39,mv 41 40,(H (41,G),.mv 42 (S 3)),(H (41,G),.mv 43 (S 10)),(H (41,G),.mv 44 (S 11)),(H (41,G),.call 45 20 [(S 42),(S 43),(S 44)]),(H (41,G),.un 46 .not (S 45)),po 47 41 46]) C6b) D2g)))
theorem E3h(a1:N Xa)(a2 v14:P)(x20 y15 v16:P)(a0:X4)(r21:X4 × Q)(v17:N Xi)(r22:(N P) × P × Q)(y18:N P)(A21:P→P→(N Xi)→O (Xh × Q))(B3j:∀(v14 v16:P) (v17:N Xi) zr,A21 v14 v16 v17=H zr→∀σ:St,σ.kept [1,2,4,8,10,15,68,69,70] [4,8,15] [143424,4096]=⟨[(1,vc (aL (W zD a1))),(2,vc (aI a2)),(4,vc (.pb 4 0)),(8,vc (.pb 8 0)),(10,vc (aI v14)),(15,vc (.pb 15 0)),(68,vc (.own 4096)),(69,vc (aI y15)),(70,vc (aI v16))],[(4,(dm a0.row)),(8,[aI (0:P),.nil]),(15,[aI a2,.own 143424])],[(143424,3,W zE v17),(4096,1,W rI y18)]⟩→go X (.code (.loop B7q):: [.blk 2,.code C1b]) (Ret [.c 8 T 2,9] [.ag [.v (.int .i64 zr.1.Minute),.o 3 (W zE zr.1.Branches)],.sc (.v (.bool zr.2))]) .normal (H σ))(v24:Q)(r:Xh × Q)(h:P8 a1 a2 v14 x20 y15 v16 a0 r21 v17 r22 y18 A21 v24=H r)(σ:St)(hσ:σ.kept [1,2,4,8,10,15,17,18,20,68,69,70,95] [4,8,15,18] [143424,5121,5122,5123,5124,5125,5131,5504,4096]=⟨[(1,vc (aL (W zD a1))),(2,vc (aI a2)),(4,vc (.pb 4 0)),(8,vc (.pb 8 0)),(10,vc (aI v14)),(15,vc (.pb 15 0)),(17,vc (aI x20)),(18,vc (.pb 18 0)),(20,vc (.own 5504)),(68,vc (.own 4096)),(69,vc (aI y15)),(70,vc (aI v16)),(95,vc (aB v24))],[(4,(dm a0.row)),(8,[aI (0:P),.nil]),(15,[aI a2,.own 143424]),(18,[aI r21.1.Forecast.Tide.Mean,.own 5121,.own 5122,.own 5123,.own 5124,.own 5125,aI r21.1.Regime.Gap,aB r21.1.Regime.NoMeet,aI r21.1.Crew.Tugs,aI r21.1.Crew.Pilots,aI r21.1.Crew.Rest,.own 5131])],[(143424,3,W zE v17),(5121,3,W zF r21.1.Forecast.Tide.Parts),(5122,3,W X6.row r21.1.Forecast.Surges),(5123,2,W Xd.row r21.1.Chart.Points),(5124,5,W X3.row r21.1.Chart.Segments),(5125,6,W Xc.row r21.1.Fleet),(5131,1,W rI r21.1.Crew.Moves),(5504,1,W rI r22.1),(4096,1,W rI y18)]⟩):go X (.code C6z:: [.code D15,.blk 3,.code D4h,.code (.loop B7q),.blk 2,.code C1b]) (Ret [.c 8 T 2,9] [.ag [.v (.int .i64 r.1.Minute),.o 3 (W zE r.1.Branches)],.sc (.v (.bool r.2))]) .normal (H σ):=by
 unfold P8 at h
 rcases ic h with ⟨h25,h⟩|⟨h25,h⟩
 ·try simp only[hσ,h25,C6z,A,B,C,E,F,J]
  cases h
  try simp only[I2,A,B,C,E,F,J]
  trivial
 ·try simp only[hσ,h25,C6z,D15,A,B,C,E,F,J]
  refine N7 V ?_
  try simp only[h25,A,B,C,E,F,J]
  refine N7 V ?_
  try simp only[h25,A,B,C,E,F,J]
  refine N7 V ?_
  try simp only[h25,A,B,C,E,F,J]
  refine N7 V ?_
  try simp only[h25,A,B,C,E,F,J]
  refine N7 V ?_
  try simp only[h25,A,B,C,E,F,J]
  refine N7 V ?_
  try simp only[h25,A,B,C,E,F,J]
  refine N7 V ?_
  obtain⟨r26,h26,h⟩:=ob h
  try simp only[h25,A,B,C,E,F,J]
  refine A2 (C42 _ _ _ _ h26) V V (uf V) ?_
  try simp only[h25,A,B,C,E,F,J]
  refine N7 V ?_
  try simp only[h25,A,B,C,E,F,J]
  refine D6 (es:=W zE ([(⟨v14,(IntKind.i64.wrap (x20 - (1:P))),r26.1⟩:Xi)]:N Xi)) V V ?_
  obtain⟨h27,h⟩:=C9 h
  try simp only[h25,h27,D4h,A,B,C,E,F,J]
  refine B3j _ _ _ _ h _ ?_
  try simp only[h25,h27,A,B,C,E,F,J,Y]
theorem F4u(a1:N Xa)(a2:P)(a0:X4)(y15:P)(y18:N P):∀(n:U) (v14 v16:P) (v17:N Xi) (r:Xh × Q),I9 a1 a2 a0 y15 y18 n v14 v16 v17=H r→∀σ:St,σ.kept [1,2,4,8,10,15,68,69,70] [4,8,15] [143424,4096]=⟨[(1,vc (aL (W zD a1))),(2,vc (aI a2)),(4,vc (.pb 4 0)),(8,vc (.pb 8 0)),(10,vc (aI v14)),(15,vc (.pb 15 0)),(68,vc (.own 4096)),(69,vc (aI y15)),(70,vc (aI v16))],[(4,(dm a0.row)),(8,[aI (0:P),.nil]),(15,[aI a2,.own 143424])],[(143424,3,W zE v17),(4096,1,W rI y18)]⟩→go X (.code (.loop B7q):: [.blk 2,.code C1b]) (Ret [.c 8 T 2,9] [.ag [.v (.int .i64 r.1.Minute),.o 3 (W zE r.1.Branches)],.sc (.v (.bool r.2))]) .normal (H σ):=by
 intro n
 induction n with
 | zero=>intro _ _ _ r h; cases h
 | succ n ih=>
  intro v14 v16 v17 r h σ hσ
  rw[I9] at h
  refine B5 ?_
  rcases ic h with ⟨h19,h⟩|⟨h19,h⟩
  ·obtain⟨x20,h20,h⟩:=ob h
   have h20n:=M2 h20
   obtain⟨r21,h21,h⟩:=ob h
   try simp only[hσ,h19,h20,h20n,B7q,A,B,C,E,F,J]
   refine A2 (A7d _ _ _ _ _ h21) V V (uf V) ?_
   try simp only[h19,h20,h20n,A,B,C,E,F,J]
   refine B7 V V ?_
   obtain⟨r22,h22,h⟩:=ob h
   try simp only[h19,h20,h20n,A,B,C,E,F,J]
   refine P4 (C01 _ _ _ h22) V (A7r V ⟨A7m,V,V,⟨⟩⟩) V (uf V) ?_
   rcases ic h with ⟨h23,h⟩|⟨h23,h⟩
   ·try simp only[h19,h20,h20n,h23,A,B,C,E,F,J]
    refine E3h _ _ _ _ _ _ _ _ _ _ _ (I9 a1 a2 a0 y15 y18 n) ih _ _ h _ ?_
    try simp only[h19,h20,h20n,h23,A,B,C,E,F,J,Y]
   ·try simp only[h19,h20,h20n,h23,A,B,C,E,F,J]
    refine E3h _ _ _ _ _ _ _ _ _ _ _ (I9 a1 a2 a0 y15 y18 n) ih _ _ h _ ?_
    try simp only[h19,h20,h20n,h23,A,B,C,E,F,J,Y]
  ·try simp only[hσ,h19,B7q,C1b,A,B,C,E,F,J]
   cases h
   try simp only[I2,A,B,C,E,F,J]
   trivial
theorem F4k(a1:N Xa)(a2:P)(a3:N P)(r1:P × P × Q)(a0:X4):∀(n:U) (v8:P) (r:Xh × Q),P6 a1 a2 a3 r1 a0 n v8=H r→∀σ:St,σ.kept [1,2,3,4,8,10,11,49,50,51] [4,8] []=⟨[(1,vc (aL (W zD a1))),(2,vc (aI a2)),(3,vc (aL (W rI a3))),(4,vc (.pb 4 0)),(8,vc (.pb 8 0)),(10,vc (aI r1.1)),(11,vc (aI r1.2.1)),(49,vc (aL (W zD a1))),(50,vc (aI (a1.length:P))),(51,vc (aI v8))],[(4,(dm a0.row)),(8,[aI (0:P),.nil])],[]⟩→go X (.code (.loop C68):: [.blk 0,.code D2s]) (Ret [.c 8 T 2,9] [.ag [.v (.int .i64 r.1.Minute),.o 3 (W zE r.1.Branches)],.sc (.v (.bool r.2))]) .normal (H σ):=by
 intro n
 induction n with
 | zero=>intro _ r h; cases h
 | succ n ih=>
  intro v8 r h σ hσ
  rw[P6] at h
  refine B5 ?_
  rcases ic h with ⟨h9,h⟩|⟨h9,h⟩
  ·obtain⟨x10,h10,h⟩:=ob h
   try simp only[hσ,h9,h10,C68,A,B,C,E,F,J]
   refine B7 V V ?_
   rcases ic h with ⟨h11,h⟩|⟨h11,h⟩
   ·try simp only[h9,h10,h11,A,B,C,E,F,J]
    cases h
    try simp only[I2,A,B,C,E,F,J]
    trivial
   ·try simp only[h9,h10,h11,A,B,C,E,F,J]
    refine ih _ _ h _ ?_
    try simp only[h9,h10,h11,A,B,C,E,F,J,Y]
  ·try simp only[hσ,h9,C68,D2s,A,B,C,E,F,J]
   refine B7 V V ?_
   try simp only[h9,A,B,C,E,F,J]
   refine A4p (cs':= [aI a2,.own 143424]) V V V V ?_
   obtain⟨r12,h12,h⟩:=ob h
   try simp only[h9,A,B,C,E,F,J]
   refine A2 (A16 _ _ h12) V V (uf V) ?_
   try simp only[h9,A,B,C,E,F,J]
   refine D6 (es:=W rI ([(IntKind.i64.wrap (r1.2.1+(1:P)))]:N P)) V V ?_
   obtain⟨h13,h⟩:=C9 h
   try simp only[h9,h13,A,B,C,E,F,J]
   refine F4u _ _ _ _ _ _ _ _ _ _ h _ ?_
   try simp only[h9,h13,A,B,C,E,F,J,Y]
theorem D5v(a1:N Xa)(a2:P)(a3:N P)(r1:P × P × Q)(a0:X4)(v6:Q)(r:Xh × Q)(h:Q0 a1 a2 a3 r1 a0 v6=H r)(σ:St)(hσ:σ.kept [1,2,3,4,8,10,11,47] [4,8] []=⟨[(1,vc (aL (W zD a1))),(2,vc (aI a2)),(3,vc (aL (W rI a3))),(4,vc (.pb 4 0)),(8,vc (.pb 8 0)),(10,vc (aI r1.1)),(11,vc (aI r1.2.1)),(47,vc (aB v6))],[(4,(dm a0.row)),(8,[aI (0:P),.nil])],[]⟩):go X (.code C6b:: [.code D2g]) (Ret [.c 8 T 2,9] [.ag [.v (.int .i64 r.1.Minute),.o 3 (W zE r.1.Branches)],.sc (.v (.bool r.2))]) .normal (H σ):=by
 unfold Q0 at h
 rcases ic h with ⟨h7,h⟩|⟨h7,h⟩
 ·try simp only[hσ,h7,C6b,A,B,C,E,F,J]
  cases h
  try simp only[I2,A,B,C,E,F,J]
  trivial
 ·try simp only[hσ,h7,C6b,D2g,A,B,C,E,F,J]
  refine F4k _ _ _ _ _ _ _ _ h _ ?_
  try simp only[h7,A,B,C,E,F,J,Y]
theorem F3h:A5 X 5=H (cc572.strip,[.c 8 T 2,9],117):=by kernel_rfl
theorem B5h(a0:X4)(a1:N Xa)(a2:P)(a3:N P)(r:Xh × Q)(h:A12 a0 a1 a2 a3=H r):FC X 5 [.ag (X4.row a0),.sc (.sl (W zD a1)),.sc (.int .i64 a2),.sc (.sl (W rI a3))] [.ag [.v (.int .i64 r.1.Minute),.o 3 (W zE r.1.Branches)],.sc (.v (.bool r.2))]:=by
 unfold A12 at h
 refine C3 mixed F3h V ?_
 simp only[cc572,A,B,C,E,F,J]
 try simp only[A,B,C,E,F,J]
 refine B2 V V V ?_
 try simp only[A,B,C,E,F,J]
 refine B7 V V ?_
 obtain⟨r1,h1,h⟩:=ob h
 try simp only[A,B,C,E,F,J]
 refine A2 (A91 _ _ _ h1) V V (uf V) ?_
 rcases ic h with ⟨h2,h⟩|⟨h2,h⟩
 ·obtain⟨r3,h3,h⟩:=ob h
  try simp only[h2,A,B,C,E,F,J]
  refine A2 (A3v _ _ _ h3) V V (uf V) ?_
  rcases ic h with ⟨h4,h⟩|⟨h4,h⟩
  ·obtain⟨r5,h5,h⟩:=ob h
   try simp only[h2,h4,A,B,C,E,F,J]
   refine A2 (C4w _ _ _ _ h5) V V (uf V) ?_
   try simp only[h2,h4,A,B,C,E,F,J]
   refine D5v _ _ _ _ _ _ _ h _ ?_
   try simp only[h2,h4,A,B,C,E,F,J,Y]
  ·try simp only[h2,h4,A,B,C,E,F,J]
   refine D5v _ _ _ _ _ _ _ h _ ?_
   try simp only[h2,h4,A,B,C,E,F,J,Y]
 ·try simp only[h2,A,B,C,E,F,J]
  refine D5v _ _ _ _ _ _ _ h _ ?_
  try simp only[h2,A,B,C,E,F,J,Y]
/- 29:slices_IndexFunc_Branch -/
def C6a:X2:= .seq (.reg [(L,.keep [0,1,7,8] [] [])]) (.seq (.reg [bn 9 .lss 8 7]) (.seq (.cond (S 9) .skip (.exit 0)) (.seq (.block 1 (.seq (.reg [mv 10 8,mv 5 10]) (.seq (.reg [mv 11 1,mv 12 0,mv 13 5,ia 14 12 13 3,lw 15 14 3,(L,.callv 16 (S 11) [(S 15)])]) (.cond (S 16) (.seq (.reg [mv 17 5,mv 4 17]) .ret) .skip)))) (.reg [(L,.bin 18 .add (S 8) (K 1)),mv 8 18]))))
def D24:X2:=(.seq (.reg [(L,.mv 4 (K (-1)))]) .ret)
def cc580:X2:=(.seq (.reg [(L,.mv 4 (K 0))]) (.seq (.seq (.reg [mv 6 0,ln 7 6,(L,.mv 8 (K 0))]) (.block 0 (.loop C6a))) D24))
theorem F9l(a1:Xi→O Q)(F_a1:FuncId)(caps_a1:N D)(hF_a1:A4j X F_a1=T)(h_a1:∀z0 zr,a1 z0=H zr→FC X F_a1 ([.ag (zE z0)]++caps_a1.map .sc) [.sc (.v (.bool zr))])(a0:N Xi):∀(n:U) (v1 r:P),J6 a1 a0 n v1=H r→∀σ:St,σ.kept [0,1,7,8] [] []=⟨[(0,vc (aL (W zE a0))),(1,vc (.dat (.clo F_a1 caps_a1))),(7,vc (aI (a0.length:P))),(8,vc (aI v1))],[],[]⟩→go X (.code (.loop C6a):: [.blk 0,.code D24]) (Ret [4] [.sc (.v (.int .i64 r))]) .normal (H σ):=by
 intro n
 induction n with
 | zero=>intro _ r h; cases h
 | succ n ih=>
  intro v1 r h σ hσ
  rw[J6] at h
  refine B5 ?_
  rcases ic h with ⟨h2,h⟩|⟨h2,h⟩
  ·obtain⟨x3,h3,h⟩:=ob h
   obtain⟨r4,h4,h⟩:=ob h
   try simp only[hσ,h2,h3,C6a,A,B,C,E,F,J]
   refine C7n (h_a1 _ _ h4) hF_a1 V V (N9 V) V (uf V) ?_
   rcases ic h with ⟨h5,h⟩|⟨h5,h⟩
   ·try simp only[h2,h3,h5,A,B,C,E,F,J]
    cases h
    trivial
   ·try simp only[h2,h3,h5,A,B,C,E,F,J]
    refine ih _ _ h _ ?_
    try simp only[h2,h3,h5,A,B,C,E,F,J,Y]
  ·try simp only[hσ,h2,C6a,D24,A,B,C,E,F,J]
   cases h
   trivial
theorem B1d:A5 X 29=H (cc580.strip,[4],19):=by kernel_rfl
theorem B1a(a0:N Xi)(a1:Xi→O Q)(r:P)(F_a1:FuncId)(caps_a1:N D)(hF_a1:A4j X F_a1=T)(h_a1:∀z0 zr,a1 z0=H zr→FC X F_a1 ([.ag (zE z0)]++caps_a1.map .sc) [.sc (.v (.bool zr))])(h:A0z a0 a1=H r):FC X 29 [.sc (.sl (W zE a0)),.sc (.clo F_a1 caps_a1)] [.sc (.v (.int .i64 r))]:=by
 unfold A0z at h
 refine C3 mixed B1d V ?_
 simp only[cc580,A,B,C,E,F,J]
 try simp only[A,B,C,E,F,J]
 refine F9l a1 F_a1 caps_a1 hF_a1 h_a1 _ _ _ _ h _ ?_
 try simp only[A,B,C,E,F,J,Y]
/- 30:impl_BranchFor_1 -/
def cc582:X2:=(.seq (.reg [bo 2 0,(L,.mv 3 (KB G))]) (.seq (.reg [ld 4 1,fa 5 2 0,ld 6 5,fa 7 2 1,ld 8 7,ca 9 31 [S 4,S 6,S 8],mv 3 9]) .ret))
theorem F25:A5 X 30=H (cc582.strip,[3],10):=by kernel_rfl
theorem F9p(a0:Xi)(c0:P)(r:Q)(h:W6 a0 c0=H r):FC X 30 [.ag (zE a0),.sc (.pd (rI c0))] [.sc (.v (.bool r))]:=by
 unfold W6 at h
 refine C3 mixed F25 V ?_
 simp only[cc582,A,B,C,E,F,J]
 try simp only[A,B,C,E,F,J]
 refine B2 V V V ?_
 obtain⟨r1,h1,h⟩:=ob h
 try simp only[A,B,C,E,F,J]
 refine A2 (F8 _ _ _ _ h1) V V (uf V) ?_
 try simp only[A,B,C,E,F,J]
 cases h
 trivial
/- 8:impl_BranchFor -/
def cc585:X2:=(.seq (.reg [bo 2 0,bo 3 1,(L,.mv 4 (K 0))]) (.seq (.reg [fa 5 2 1,ld 6 5,(L,.mkf 7 30 [(S 3)]),ca 8 29 [S 6,S 7],mv 4 8]) .ret))
theorem F9w:A5 X 8=H (cc585.strip,[4],9):=by kernel_rfl
theorem B83(a0:Xh)(a1 r:P)(h:A33 a0 a1=H r):FC X 8 [.ag (Xh.row a0),.sc (.int .i64 a1)] [.sc (.v (.int .i64 r))]:=by
 unfold A33 at h
 refine C3 mixed F9w V ?_
 simp only[cc585,A,B,C,E,F,J]
 try simp only[A,B,C,E,F,J]
 refine B2 V V V ?_
 try simp only[A,B,C,E,F,J]
 refine B2 V V V ?_
 obtain⟨r1,h1,h⟩:=ob h
 try simp only[A,B,C,E,F,J]
 refine P4 (B1a _ _ _ 30 [.pd (rI a1)] (by kernel_rfl) (fun z0 zr zh=>F9p z0 a1 zr zh) h1) V (N9 V) V (uf V) ?_
 try simp only[A,B,C,E,F,J]
 cases h
 trivial
/- 62:impl_OptionAt -/
def C6m:X2:= .seq (.reg [(L,.keep [2,3,4,5,8,25] [4,5,8] [])]) (.cond (S 25) (.seq (.reg [(L,.build 26 [aI 0,aI 0,aI 0,.nil] []),so 8 26 4,(L,.mv 9 (KB G))]) .ret) .skip)
def D3k:X2:=(.seq (.reg [lw 28 4 12,lw 29 5 5,mv 30 2,ca 31 77 [S 28,S 29,S 30],mv 27 31,xt 32 27 0,xt 33 27 1,(L,.alloc 10 [.nil,.nil,.nil]),so 10 32 3,mv 11 33]) (.seq (.seq (.reg [mv 34 11,nt 35 34]) (.cond (S 35) (.seq (.reg [(L,.build 36 [aI 0,aI 0,aI 0,.nil] []),so 8 36 4,(L,.mv 9 (KB G))]) .ret) .skip)) (.seq (.reg [lw 38 4 12,lw 39 5 5,lw 40 10 3,mv 41 2,mv 42 3,ca 43 78 [S 38,S 39,S 40,S 41,S 42],mv 37 43,xt 44 37 0,xt 45 37 1,(L,.alloc 12 [aI 0,aI 0,aI 0,.nil]),so 12 44 4,mv 11 45]) (.seq (.seq (.reg [mv 46 11,nt 47 46]) (.cond (S 47) (.seq (.reg [(L,.build 48 [aI 0,aI 0,aI 0,.nil] []),so 8 48 4,(L,.mv 9 (KB G))]) .ret) .skip)) (.seq (.reg [lw 49 12 4,so 8 49 4,(L,.mv 9 (KB T))]) .ret)))))
def cc589:X2:=(.seq (.reg [bo 4 0,bo 5 1,(L,.alloc 8 [aI 0,aI 0,aI 0,.nil]),(L,.mv 9 (KB G))]) (.seq (.seq (.reg [lw 13 4 12,lw 14 5 5,ca 15 75 [S 13,S 14],nt 16 15,mv 17 16,(H (17,G),.mv 18 (S 3)),(H (17,G),.faddr 19 (S 5) 3),(H (17,G),.load 20 (S 19) G 1),(H (17,G),.faddr 21 (S 5) 4),(H (17,G),.load 22 (S 21) G 1),(H (17,G),.call 23 31 [(S 18),(S 20),(S 22)]),(H (17,G),.un 24 .not (S 23)),po 25 17 24]) C6m) D3k))
theorem E3b(a2:N P)(a3:P)(a0:X4)(a1:Xa)(v4:Q)(r:X0 × Q)(h:A3h a2 a3 a0 a1 v4=H r)(σ:St)(hσ:σ.kept [2,3,4,5,8,25] [4,5,8] []=⟨[(2,vc (aL (W rI a2))),(3,vc (aI a3)),(4,vc (.pb 4 0)),(5,vc (.pb 5 0)),(8,vc (.pb 8 0)),(25,vc (aB v4))],[(4,(dm a0.row)),(5,(dm a1.row)),(8,[aI (0:P),aI (0:P),aI (0:P),.nil])],[]⟩):go X (.code C6m:: [.code D3k]) (Ret [.c 8 T 4,9] [.ag [.v (.int .i64 r.1.Start),.v (.int .i64 r.1.Arrival),.v (.int .i64 r.1.Cost),.o 5 (W X5.row r.1.Passages)],.sc (.v (.bool r.2))]) .normal (H σ):=by
 unfold A3h at h
 rcases ic h with ⟨h5,h⟩|⟨h5,h⟩
 ·try simp only[hσ,h5,C6m,A,B,C,E,F,J]
  cases h
  try simp only[I2,A,B,C,E,F,J]
  trivial
 ·obtain⟨r6,h6,h⟩:=ob h
  try simp only[hσ,h5,C6m,D3k,A,B,C,E,F,J]
  refine A2 (B0y _ _ _ _ h6) V V (uf V) ?_
  try simp only[h5,A,B,C,E,F,J]
  refine B7 V V ?_
  rcases ic h with ⟨h7,h⟩|⟨h7,h⟩
  ·obtain⟨r9,h9,h⟩:=ob h
   try simp only[h5,h7,A,B,C,E,F,J]
   refine P4 (B5b _ _ _ _ _ _ h9) V (A7r V ⟨V,V,V,A7m,V,⟨⟩⟩) V (uf V) ?_
   try simp only[h5,h7,A,B,C,E,F,J]
   refine B7 V V ?_
   rcases ic h with ⟨h10,h⟩|⟨h10,h⟩
   ·try simp only[h5,h7,h10,A,B,C,E,F,J]
    cases h
    try simp only[I2,A,B,C,E,F,J]
    trivial
   ·try simp only[h5,h7,h10,A,B,C,E,F,J]
    cases h
    try simp only[I2,A,B,C,E,F,J]
    trivial
  ·try simp only[h5,h7,A,B,C,E,F,J]
   cases h
   try simp only[I2,A,B,C,E,F,J]
   trivial
theorem F3v:A5 X 62=H (cc589.strip,[.c 8 T 4,9],50):=by kernel_rfl
theorem C02(a0:X4)(a1:Xa)(a2:N P)(a3:P)(r:X0 × Q)(h:A5k a0 a1 a2 a3=H r):FC X 62 [.ag (X4.row a0),.ag (zD a1),.sc (.sl (W rI a2)),.sc (.int .i64 a3)] [.ag [.v (.int .i64 r.1.Start),.v (.int .i64 r.1.Arrival),.v (.int .i64 r.1.Cost),.o 5 (W X5.row r.1.Passages)],.sc (.v (.bool r.2))]:=by
 unfold A5k at h
 refine C3 mixed F3v V ?_
 simp only[cc589,A,B,C,E,F,J]
 try simp only[A,B,C,E,F,J]
 refine B2 V V V ?_
 try simp only[A,B,C,E,F,J]
 refine B2 V V V ?_
 try simp only[A,B,C,E,F,J]
 refine B7 V V ?_
 obtain⟨r1,h1,h⟩:=ob h
 try simp only[A,B,C,E,F,J]
 refine A2 (B44 _ _ _ h1) V V (uf V) ?_
 rcases ic h with ⟨h2,h⟩|⟨h2,h⟩
 ·obtain⟨r3,h3,h⟩:=ob h
  try simp only[h2,A,B,C,E,F,J]
  refine A2 (F8 _ _ _ _ h3) V V (uf V) ?_
  try simp only[h2,A,B,C,E,F,J]
  refine E3b _ _ _ _ _ _ h _ ?_
  try simp only[h2,A,B,C,E,F,J,Y]
 ·try simp only[h2,A,B,C,E,F,J]
  refine E3b _ _ _ _ _ _ h _ ?_
  try simp only[h2,A,B,C,E,F,J,Y]
/- 38:slices_Equal_Passage -/
def C54:X2:= .seq (.reg [(L,.keep [0,1,12,13] [] [])]) (.seq (.reg [bn 14 .lss 13 12]) (.seq (.cond (S 14) .skip (.exit 0)) (.seq (.block 1 (.seq (.reg [mv 15 13,mv 5 15]) (.seq (.drw [o0 (mv 16 0),o0 (mv 17 5),o0 (ia 18 16 17 5),o0 (lw 19 18 5),o0 (mv 20 1),o0 (mv 21 5),o0 (ia 22 20 21 5),o0 (lw 23 22 5),o0 (L,.geq 24 T [.i,.i,.b,.i,.i] (S 19) (S 23))]) (.cond (S 24) (.seq (.reg [(L,.mv 4 (KB G))]) .ret) .skip)))) (.reg [(L,.bin 25 .add (S 13) (K 1)),mv 13 25]))))
def D4p:X2:=(.seq (.reg [(L,.mv 4 (KB T))]) .ret)
def cc594:X2:=(.seq (.reg [(L,.mv 4 (KB G))]) (.seq (.seq (.reg [mv 6 0,ln 7 6,mv 8 1,ln 9 8,bn 10 .neq 7 9]) (.cond (S 10) (.seq (.reg [(L,.mv 4 (KB G))]) .ret) .skip)) (.seq (.seq (.reg [mv 11 0,ln 12 11,(L,.mv 13 (K 0))]) (.block 0 (.loop C54))) D4p)))
theorem F6a(a0 a1:N X5):∀(n:U) (v2:P) (r:Q),M5 a0 a1 n v2=H r→∀σ:St,σ.kept [0,1,12,13] [] []=⟨[(0,vc (aL (W X5.row a0))),(1,vc (aL (W X5.row a1))),(12,vc (aI (a0.length:P))),(13,vc (aI v2))],[],[]⟩→go X (.code (.loop C54):: [.blk 0,.code D4p]) (Ret [4] [.sc (.v (.bool r))]) .normal (H σ):=by
 intro n
 induction n with
 | zero=>intro _ r h; cases h
 | succ n ih=>
  intro v2 r h σ hσ
  rw[M5] at h
  refine B5 ?_
  rcases ic h with ⟨h3,h⟩|⟨h3,h⟩
  ·try simp only[hσ,h3,C54,A,B,C,E,F,J]
   refine B3 V ?_
   obtain⟨x4,h4,h⟩:=ob h
   obtain⟨x5,h5,h⟩:=ob h
   rcases ic h with ⟨h6,h⟩|⟨h6,h⟩
   ·try simp only[h3,h4,h5,h6,A,B,C,E,F,J]
    refine ih _ _ h _ ?_
    try simp only[h3,h4,h5,h6,A,B,C,E,F,J,Y]
   ·try simp only[h3,h4,h5,h6,A,B,C,E,F,J]
    cases h
    trivial
  ·try simp only[hσ,h3,C54,D4p,A,B,C,E,F,J]
   cases h
   trivial
theorem B29:A5 X 38=H (cc594.strip,[4],26):=by kernel_rfl
theorem A8i(a0 a1:N X5)(r:Q)(h:S9 a0 a1=H r):FC X 38 [.sc (.sl (W X5.row a0)),.sc (.sl (W X5.row a1))] [.sc (.v (.bool r))]:=by
 unfold S9 at h
 refine C3 mixed B29 V ?_
 simp only[cc594,A,B,C,E,F,J]
 rcases ic h with ⟨h1,h⟩|⟨h1,h⟩
 ·try simp only[h1,A,B,C,E,F,J]
  cases h
  trivial
 ·try simp only[h1,A,B,C,E,F,J]
  refine F6a _ _ _ _ _ h _ ?_
  try simp only[h1,A,B,C,E,F,J,Y]
/- 63:impl_SameOptions -/
def cc596:X2:=(.seq (.reg [bo 2 0,bo 3 1,(L,.mv 4 (KB G))]) (.seq (.reg [fa 5 2 0,ld 6 5,fa 7 3 0,ld 8 7,bn 9 .eql 6 8,mv 10 9,(H (10,T),.faddr 11 (S 2) 1),(H (10,T),.load 12 (S 11) G 1),(H (10,T),.faddr 13 (S 3) 1),(H (10,T),.load 14 (S 13) G 1),(H (10,T),.bin 15 .eql (S 12) (S 14)),pa 16 10 15,mv 17 16,(H (17,T),.faddr 18 (S 2) 2),(H (17,T),.load 19 (S 18) G 1),(H (17,T),.faddr 20 (S 3) 2),(H (17,T),.load 21 (S 20) G 1),(H (17,T),.bin 22 .eql (S 19) (S 21)),pa 23 17 22,mv 24 23,(H (24,T),.faddr 25 (S 2) 3),(H (24,T),.load 26 (S 25) G 1),(H (24,T),.faddr 27 (S 3) 3),(H (24,T),.load 28 (S 27) G 1),(H (24,T),.call 29 38 [(S 26),(S 28)]),pa 30 24 29,mv 4 30]) .ret))
theorem F88:A5 X 63=H (cc596.strip,[4],31):=by kernel_rfl
theorem B6n(a0 a1:X0)(r:Q)(h:A2t a0 a1=H r):FC X 63 [.ag (X0.row a0),.ag (X0.row a1)] [.sc (.v (.bool r))]:=by
 unfold A2t at h
 refine C3 mixed F88 V ?_
 simp only[cc596,A,B,C,E,F,J]
 try simp only[A,B,C,E,F,J]
 refine B2 V V V ?_
 try simp only[A,B,C,E,F,J]
 refine B2 V V V ?_
 rcases ic h with ⟨h1,h⟩|⟨h1,h⟩
 ·rcases ic h with ⟨h2,h⟩|⟨h2,h⟩
  ·rcases ic h with ⟨h3,h⟩|⟨h3,h⟩
   ·obtain⟨r4,h4,h⟩:=ob h
    try simp only[h1,h2,h3,A,B,C,E,F,J]
    refine A2 (A8i _ _ _ h4) V V (uf V) ?_
    try simp only[h1,h2,h3,A,B,C,E,F,J]
    cases h
    trivial
   ·try simp only[h1,h2,h3,A,B,C,E,F,J]
    cases h
    trivial
  ·try simp only[h1,h2,A,B,C,E,F,J]
   cases h
   trivial
 ·try simp only[h1,A,B,C,E,F,J]
  cases h
  trivial
/- 34:impl_IsOption -/
def C5x:X2:= .seq (.reg [(L,.keep [3,4,5,7,14,15,16] [3,4,5] [768])]) (.seq (.reg [bn 17 .lss 16 15]) (.seq (.cond (S 17) .skip (.exit 0)) (.seq (.block 1 (.seq (.reg [ia 18 14 16 5,lw 19 18 5,(L,.alloc 9 [aI 0,aI 0,aB G,aI 0,aI 0]),so 9 19 5]) (.reg [mv 20 7,fa 21 9 1,ld 22 21,(L,.bslice 23 1 [.int .i64 0] 1 [(0,(S 22))]),(L,.app 24 1 8 (S 20) (S 23)),mv 7 24]))) (.reg [(L,.bin 25 .add (S 16) (K 1)),mv 16 25]))))
def D3y:X2:=(.seq (.reg [lw 27 3 12,lw 28 4 5,mv 29 7,fa 30 5 0,ld 31 30,ca 32 62 [S 27,S 28,S 29,S 31],mv 26 32,xt 33 26 0,xt 34 26 1,(L,.alloc 10 [aI 0,aI 0,aI 0,.nil]),so 10 33 4,mv 11 34]) (.seq (.reg [mv 35 11,mv 36 35,(H (36,T),.load 37 (S 10) T 4),(H (36,T),.load 38 (S 5) T 4),(H (36,T),.call 39 63 [(S 37),(S 38)]),pa 40 36 39,mv 6 40]) .ret))
def cc600:X2:=(.seq (.reg [bo 3 0,bo 4 1,bo 5 2,(L,.mv 6 (KB G))]) (.seq (.reg [(L,.bslice 12 1 [.int .i64 0] 0 []),mv 7 12]) (.seq (.seq (.reg [fa 13 5 3,ld 14 13,ln 15 14,(L,.mv 16 (K 0))]) (.block 0 (.loop C5x))) D3y)))
theorem F3t(a2:X0)(a0:X4)(a1:Xa):∀(n:U) (v1:P) (v2:N P) (r:Q),Z1 a2 a0 a1 n v1 v2=H r→∀σ:St,σ.kept [3,4,5,7,14,15,16] [3,4,5] [768]=⟨[(3,vc (.pb 3 0)),(4,vc (.pb 4 0)),(5,vc (.pb 5 0)),(7,vc (.own 768)),(14,vc (aL (W X5.row a2.Passages))),(15,vc (aI (a2.Passages.length:P))),(16,vc (aI v1))],[(3,(dm a0.row)),(4,(dm a1.row)),(5,(dm a2.row))],[(768,1,W rI v2)]⟩→go X (.code (.loop C5x):: [.blk 0,.code D3y]) (Ret [6] [.sc (.v (.bool r))]) .normal (H σ):=by
 intro n
 induction n with
 | zero=>intro _ _ r h; cases h
 | succ n ih=>
  intro v1 v2 r h σ hσ
  rw[Z1] at h
  refine B5 ?_
  rcases ic h with ⟨h3,h⟩|⟨h3,h⟩
  ·obtain⟨x4,h4,h⟩:=ob h
   try simp only[hσ,h3,h4,C5x,A,B,C,E,F,J]
   refine B7 V V ?_
   try simp only[h3,h4,A,B,C,E,F,J]
   refine D6 (es:=W rI ([x4.Segment]:N P)) V V ?_
   obtain⟨h5,h⟩:=C9 h
   try simp only[h3,h4,h5,A,B,C,E,F,J]
   refine ih _ _ _ h _ ?_
   try simp only[h3,h4,h5,A,B,C,E,F,J,Y]
  ·obtain⟨r6,h6,h⟩:=ob h
   try simp only[hσ,h3,C5x,D3y,A,B,C,E,F,J]
   refine P4 (C02 _ _ _ _ _ h6) V (A7r V ⟨V,V,V,A7m,V,⟨⟩⟩) V (uf V) ?_
   try simp only[h3,A,B,C,E,F,J]
   refine B7 V V ?_
   rcases ic h with ⟨h7,h⟩|⟨h7,h⟩
   ·obtain⟨r9,h9,h⟩:=ob h
    try simp only[h3,h7,A,B,C,E,F,J]
    refine P4 (B6n _ _ _ h9) V (N9 V) V (uf V) ?_
    try simp only[h3,h7,A,B,C,E,F,J]
    cases h
    trivial
   ·try simp only[h3,h7,A,B,C,E,F,J]
    cases h
    trivial
theorem F3p:A5 X 34=H (cc600.strip,[6],41):=by kernel_rfl
theorem C00(a0:X4)(a1:Xa)(a2:X0)(r:Q)(h:A49 a0 a1 a2=H r):FC X 34 [.ag (X4.row a0),.ag (zD a1),.ag (X0.row a2)] [.sc (.v (.bool r))]:=by
 unfold A49 at h
 refine C3 mixed F3p V ?_
 simp only[cc600,A,B,C,E,F,J]
 try simp only[A,B,C,E,F,J]
 refine B2 V V V ?_
 try simp only[A,B,C,E,F,J]
 refine B2 V V V ?_
 try simp only[A,B,C,E,F,J]
 refine B2 V V V ?_
 try simp only[A,B,C,E,F,J]
 refine D6 (es:=W rI ([]:N P)) V V ?_
 try simp only[A,B,C,E,F,J]
 refine F3t _ _ _ _ _ _ _ h _ ?_
 try simp only[A,B,C,E,F,J,Y]
/- 10:impl_IsPlan -/
def C55:X2:= .seq (.reg [(L,.keep [2,3,20,21,22] [3] [])]) (.seq (.reg [bn 23 .lss 22 21]) (.seq (.cond (S 23) .skip (.exit 0)) (.seq (.block 1 (.seq (.reg [mv 24 22,ia 25 20 22 5,lw 26 25 5,(L,.alloc 8 [aI 0,aI 0,aI 0,aI 0,aI 0]),mv 7 24,so 8 26 5]) (.seq (.drw [o0 (lw 27 3 12),o0 (lw 28 8 5),o0 (mv 29 2),o0 (mv 30 7),o0 (ia 31 29 30 4),o0 (lw 32 31 4),o0 (ca 33 34 [S 27,S 28,S 32]),o0 (nt 34 33),o0 (mv 35 34),o0 (H (35,G),.load 36 (S 3) T 12),o0 (H (35,G),.mv 37 (S 2)),o0 (H (35,G),.mv 38 (S 7)),o0 (H (35,G),.slc 39 4 (S 37) L (H (S 38)) L),o0 (H (35,G),.mv 40 (S 2)),o0 (H (35,G),.mv 41 (S 7)),o0 (H (35,G),.iaddr 42 (S 40) (S 41) 4),o0 (H (35,G),.load 43 (S 42) T 4),o0 (H (35,G),.call 44 35 [(S 36),(S 39),(S 43)]),o0 (H (35,G),.un 45 .not (S 44)),o0 (po 46 35 45)]) (.cond (S 46) (.seq (.reg [(L,.mv 6 (KB G))]) .ret) .skip)))) (.reg [(L,.bin 47 .add (S 22) (K 1)),mv 22 47]))))
def D40:X2:=(.seq (.reg [(L,.mv 6 (KB T))]) .ret)
def cc605:X2:=(.seq (.reg [bo 3 0,(L,.mv 6 (KB G))]) (.seq (.seq (.reg [lw 9 3 12,mv 10 1,ca 11 7 [S 9,S 10],nt 12 11,mv 13 12,(H (13,G),.mv 14 (S 2)),(H (13,G),.len 15 (S 14)),(H (13,G),.mv 16 (S 1)),(H (13,G),.len 17 (S 16)),(H (13,G),.bin 18 .neq (S 15) (S 17)),po 19 13 18]) (.cond (S 19) (.seq (.reg [(L,.mv 6 (KB G))]) .ret) .skip)) (.seq (.seq (.reg [mv 20 1,ln 21 20,(L,.mv 22 (K 0))]) (.block 0 (.loop C55))) D40)))
theorem F71(a2:N X0)(a1:N Xa)(a0:X4):∀(n:U) (v4:P) (r:Q),A05 a2 a1 a0 n v4=H r→∀σ:St,σ.kept [2,3,20,21,22] [3] []=⟨[(2,vc (aL (W X0.row a2))),(3,vc (.pb 3 0)),(20,vc (aL (W zD a1))),(21,vc (aI (a1.length:P))),(22,vc (aI v4))],[(3,(dm a0.row))],[]⟩→go X (.code (.loop C55):: [.blk 0,.code D40]) (Ret [6] [.sc (.v (.bool r))]) .normal (H σ):=by
 intro n
 induction n with
 | zero=>intro _ r h; cases h
 | succ n ih=>
  intro v4 r h σ hσ
  rw[A05] at h
  refine B5 ?_
  rcases ic h with ⟨h5,h⟩|⟨h5,h⟩
  ·obtain⟨x6,h6,h⟩:=ob h
   try simp only[hσ,h5,h6,C55,A,B,C,E,F,J]
   refine B7 V V ?_
   try simp only[h5,h6,A,B,C,E,F,J]
   refine B3 V ?_
   obtain⟨x7,h7,h⟩:=ob h
   obtain⟨r9,h9,h⟩:=ob h
   try simp only[h5,h6,h7,A,B,C,E,F,J]
   refine E1 (C00 _ _ _ _ h9) V V (uf V) ?_
   rcases ic h with ⟨h10,h⟩|⟨h10,h⟩
   ·obtain⟨p11,h11,h⟩:=ob h
    obtain⟨r12,h12,h⟩:=ob h
    try simp only[h5,h6,h7,h10,h11,A,B,C,E,F,J]
    refine E1 (B5c _ _ _ _ h12) V V (uf V) ?_
    rcases ic h with ⟨h13,h⟩|⟨h13,h⟩
    ·try simp only[h5,h6,h7,h10,h11,h13,A,B,C,E,F,J]
     refine ih _ _ h _ ?_
     try simp only[h5,h6,h7,h10,h11,h13,A,B,C,E,F,J,Y]
    ·try simp only[h5,h6,h7,h10,h11,h13,A,B,C,E,F,J]
     cases h
     trivial
   ·try simp only[h5,h6,h7,h10,A,B,C,E,F,J]
    cases h
    trivial
  ·try simp only[hσ,h5,C55,D40,A,B,C,E,F,J]
   cases h
   trivial
theorem F9v:A5 X 10=H (cc605.strip,[6],48):=by kernel_rfl
theorem B5a(a0:X4)(a1:N Xa)(a2:N X0)(r:Q)(h:A29 a0 a1 a2=H r):FC X 10 [.ag (X4.row a0),.sc (.sl (W zD a1)),.sc (.sl (W X0.row a2))] [.sc (.v (.bool r))]:=by
 unfold A29 at h
 refine C3 mixed F9v V ?_
 simp only[cc605,A,B,C,E,F,J]
 try simp only[A,B,C,E,F,J]
 refine B2 V V V ?_
 obtain⟨r1,h1,h⟩:=ob h
 try simp only[A,B,C,E,F,J]
 refine A2 (A3v _ _ _ h1) V V (uf V) ?_
 rcases ic h with ⟨h2,h⟩|⟨h2,h⟩
 ·rcases ic h with ⟨h3,h⟩|⟨h3,h⟩
  ·try simp only[h2,h3,A,B,C,E,F,J]
   cases h
   trivial
  ·try simp only[h2,h3,A,B,C,E,F,J]
   refine F71 _ _ _ _ _ _ h _ ?_
   try simp only[h2,h3,A,B,C,E,F,J,Y]
 ·try simp only[h2,A,B,C,E,F,J]
  cases h
  trivial
/- 67:slices_Equal_Part -/
def C7f:X2:= .seq (.reg [(L,.keep [0,1,12,13] [] [])]) (.seq (.reg [bn 14 .lss 13 12]) (.seq (.cond (S 14) .skip (.exit 0)) (.seq (.block 1 (.seq (.reg [mv 15 13,mv 5 15]) (.seq (.drw [o0 (mv 16 0),o0 (mv 17 5),o0 (ia 18 16 17 3),o0 (lw 19 18 3),o0 (mv 20 1),o0 (mv 21 5),o0 (ia 22 20 21 3),o0 (lw 23 22 3),o0 (L,.geq 24 T [.i,.i,.i] (S 19) (S 23))]) (.cond (S 24) (.seq (.reg [(L,.mv 4 (KB G))]) .ret) .skip)))) (.reg [(L,.bin 25 .add (S 13) (K 1)),mv 13 25]))))
def D3x:X2:=(.seq (.reg [(L,.mv 4 (KB T))]) .ret)
def cc610:X2:=(.seq (.reg [(L,.mv 4 (KB G))]) (.seq (.seq (.reg [mv 6 0,ln 7 6,mv 8 1,ln 9 8,bn 10 .neq 7 9]) (.cond (S 10) (.seq (.reg [(L,.mv 4 (KB G))]) .ret) .skip)) (.seq (.seq (.reg [mv 11 0,ln 12 11,(L,.mv 13 (K 0))]) (.block 0 (.loop C7f))) D3x)))
theorem F3s(a0 a1:N Xe):∀(n:U) (v2:P) (r:Q),P7 a0 a1 n v2=H r→∀σ:St,σ.kept [0,1,12,13] [] []=⟨[(0,vc (aL (W zF a0))),(1,vc (aL (W zF a1))),(12,vc (aI (a0.length:P))),(13,vc (aI v2))],[],[]⟩→go X (.code (.loop C7f):: [.blk 0,.code D3x]) (Ret [4] [.sc (.v (.bool r))]) .normal (H σ):=by
 intro n
 induction n with
 | zero=>intro _ r h; cases h
 | succ n ih=>
  intro v2 r h σ hσ
  rw[P7] at h
  refine B5 ?_
  rcases ic h with ⟨h3,h⟩|⟨h3,h⟩
  ·try simp only[hσ,h3,C7f,A,B,C,E,F,J]
   refine B3 V ?_
   obtain⟨x4,h4,h⟩:=ob h
   obtain⟨x5,h5,h⟩:=ob h
   rcases ic h with ⟨h6,h⟩|⟨h6,h⟩
   ·try simp only[h3,h4,h5,h6,A,B,C,E,F,J]
    refine ih _ _ h _ ?_
    try simp only[h3,h4,h5,h6,A,B,C,E,F,J,Y]
   ·try simp only[h3,h4,h5,h6,A,B,C,E,F,J]
    cases h
    trivial
  ·try simp only[hσ,h3,C7f,D3x,A,B,C,E,F,J]
   cases h
   trivial
theorem B5e:A5 X 67=H (cc610.strip,[4],26):=by kernel_rfl
theorem B5i(a0 a1:N Xe)(r:Q)(h:A1z a0 a1=H r):FC X 67 [.sc (.sl (W zF a0)),.sc (.sl (W zF a1))] [.sc (.v (.bool r))]:=by
 unfold A1z at h
 refine C3 mixed B5e V ?_
 simp only[cc610,A,B,C,E,F,J]
 rcases ic h with ⟨h1,h⟩|⟨h1,h⟩
 ·try simp only[h1,A,B,C,E,F,J]
  cases h
  trivial
 ·try simp only[h1,A,B,C,E,F,J]
  refine F3s _ _ _ _ _ h _ ?_
  try simp only[h1,A,B,C,E,F,J,Y]
/- 36:impl_SameTides -/
def cc612:X2:=(.seq (.reg [bo 2 0,bo 3 1,(L,.mv 4 (KB G))]) (.seq (.reg [fa 5 2 0,ld 6 5,fa 7 3 0,ld 8 7,bn 9 .eql 6 8,mv 10 9,(H (10,T),.faddr 11 (S 2) 1),(H (10,T),.load 12 (S 11) G 1),(H (10,T),.faddr 13 (S 3) 1),(H (10,T),.load 14 (S 13) G 1),(H (10,T),.call 15 67 [(S 12),(S 14)]),pa 16 10 15,mv 4 16]) .ret))
theorem F3b:A5 X 36=H (cc612.strip,[4],17):=by kernel_rfl
theorem B88(a0 a1:Xn)(r:Q)(h:A6l a0 a1=H r):FC X 36 [.ag (Xn.row a0),.ag (Xn.row a1)] [.sc (.v (.bool r))]:=by
 unfold A6l at h
 refine C3 mixed F3b V ?_
 simp only[cc612,A,B,C,E,F,J]
 try simp only[A,B,C,E,F,J]
 refine B2 V V V ?_
 try simp only[A,B,C,E,F,J]
 refine B2 V V V ?_
 rcases ic h with ⟨h1,h⟩|⟨h1,h⟩
 ·obtain⟨r2,h2,h⟩:=ob h
  try simp only[h1,A,B,C,E,F,J]
  refine A2 (B5i _ _ _ h2) V V (uf V) ?_
  try simp only[h1,A,B,C,E,F,J]
  cases h
  trivial
 ·try simp only[h1,A,B,C,E,F,J]
  cases h
  trivial
/- 11:impl_NarrowerBand -/
def A2i:N (N U × AItem):= [([],(L,.faddr 25 (S 2) 2)),([0],(L,.load 26 (S 25) G 1)),([1],(L,.call 27 37 [(S 26)])),([],(L,.faddr 28 (S 3) 2)),([3],(L,.load 29 (S 28) G 1)),([2,4,2],(L,.app 30 3 24 (S 27) (S 29))),([5],(L,.len 31 (S 30))),([],(L,.mv 32 (K 0)))]
def O7:N (N U × AItem):= [([],(L,.faddr 36 (S 2) 2)),([0],(L,.load 37 (S 36) G 1)),([],(L,.load 38 (S 2) T 3)),([],(L,.faddr 39 (S 6) 0)),([3],(L,.load 40 (S 39) G 1)),([2,4],(L,.call 41 26 [(S 38),(S 40)])),([1,5],(L,.iaddr 42 (S 37) (S 41) 3)),([6],(L,.load 43 (S 42) T 3)),([],(L,.faddr 44 (S 3) 2)),([8],(L,.load 45 (S 44) G 1)),([],(L,.load 46 (S 3) T 3)),([],(L,.faddr 47 (S 6) 0)),([11],(L,.load 48 (S 47) G 1)),([10,12,5],(L,.call 49 26 [(S 46),(S 48)])),([9,13],(L,.iaddr 50 (S 45) (S 49) 3)),([14],(L,.load 51 (S 50) T 3)),([],(L,.alloc 7 [aI 0,aI 0,aI 0])),([],(L,.alloc 8 [aI 0,aI 0,aI 0])),([16,7,13,0,1,2,3,4,5,6,7,16,17],(L,.store (S 7) (S 43) 3)),([17,15,18,0,1,2,3,4,5,6,7,8,9,10,11,12,13,14,15,16,17,18],(L,.store (S 8) (S 51) 3))]
def C7d:X2:= .seq (.reg [(L,.keep [2,3,30,31,32] [2,3] [1728])]) (.seq (.reg [bn 33 .lss 32 31]) (.seq (.cond (S 33) .skip (.exit 0)) (.seq (.block 1 (.seq (.reg [ia 34 30 32 3,lw 35 34 3,(L,.alloc 6 [aI 0,aI 0,aI 0]),so 6 35 3]) (.seq (.any O7) (.seq (.reg [fa 52 7 1,ld 53 52,fa 54 8 1,ld 55 54,bn 56 .lss 53 55,mv 57 56,(H (57,G),.faddr 58 (S 7) 2),(H (57,G),.load 59 (S 58) G 1),(H (57,G),.faddr 60 (S 8) 2),(H (57,G),.load 61 (S 60) G 1),(H (57,G),.bin 62 .gtr (S 59) (S 61)),po 63 57 62]) (.cond (S 63) (.seq (.reg [(L,.mv 4 (KB G))]) .ret) .skip))))) (.reg [(L,.bin 64 .add (S 32) (K 1)),mv 32 64]))))
def D5p:X2:=(.seq (.reg [(L,.mv 4 (KB T))]) .ret)
def cc616:X2:=(.seq (.reg [bo 2 0,bo 3 1,(L,.mv 4 (KB G))]) (.seq (.seq (.reg [lw 9 2 3,ca 10 24 [S 9],nt 11 10,mv 12 11,(H (12,G),.load 13 (S 3) T 3),(H (12,G),.call 14 24 [(S 13)]),(H (12,G),.un 15 .not (S 14)),po 16 12 15,mv 17 16,(H (17,G),.faddr 18 (S 2) 0),(H (17,G),.load 19 (S 18) T 2),(H (17,G),.faddr 20 (S 3) 0),(H (17,G),.load 21 (S 20) T 2),(H (17,G),.call 22 36 [(S 19),(S 21)]),(H (17,G),.un 23 .not (S 22)),po 24 17 23]) (.cond (S 24) (.seq (.reg [(L,.mv 4 (KB G))]) .ret) .skip)) (.seq (.seq (.any A2i) (.block 0 (.loop C7d))) D5p)))
abbrev H3(a0 a1:X8)(r7:(N X6))(wo2_:AV)(c0_ c1_:Q)(c2_ c3_:Q)(c4_ c5_:Q)(c6_ c7_:Q)(bx_:N (U × N AC))(rs_:Rows):St:=⟨[(2,vc (.pb 2 0)),(3,vc (.pb 3 0)),(25,bif c0_ then vc (.pb 2 2) else .undef),(26,bif c1_ then vc (aL (W X6.row a0.Surges)) else .undef),(27,bif c2_ then wo2_ else .undef),(28,bif c3_ then vc (.pb 3 2) else .undef),(29,bif c4_ then vc (aL (W X6.row a1.Surges)) else .undef),(30,bif c5_ then vc (.own 1728) else .undef),(31,bif c6_ then vc (aI ((r7++a1.Surges).length:P)) else .undef),(32,bif c7_ then vc (aI (0:P)) else .undef)],bx_,rs_⟩
abbrev Y6(a0 a1:X8)(r7:(N X6)):St:=(H3 a0 a1 r7 (vc (.undef)) T T T T T T T T [(2,(dm a0.row)),(3,(dm a1.row))] [(1728,3,W X6.row (r7++a1.Surges))])
theorem F61(a0 a1:X8)(r7:(N X6))(h7:L7 a0.Surges=H r7)(h8:(B9 r7.length a1.Surges.length 24)=T):∀(f:U) (b0 b3:Q) (b6 b7:Q),E0 X A2i (Y6 a0 a1 r7) f [b0,T,T,b3,T,T,b6,b7] (H3 a0 a1 r7 (vc (.undef)) b0 T T b3 T T b6 b7 [(2,(dm a0.row)),(3,(dm a1.row))] [(1728,3,W X6.row (r7++a1.Surges))]):=by
 intro f
 induction f with
 | zero=>
  intro b0 b3 b6 b7 h
  obtain rfl:b0=T:=zA.1 h b0 (by simp)
  obtain rfl:b3=T:=zA.1 h b3 (by simp)
  obtain rfl:b6=T:=zA.1 h b6 (by simp)
  obtain rfl:b7=T:=zA.1 h b7 (by simp)
  rfl
 | succ f ih=>
  intro b0 b3 b6 b7
  refine A9 ⟨?_,?_,?_,?_,?_,?_,?_,?_,⟨⟩⟩<;>try first | (intro h; cases h; done) | (intro h0 hw; obtain rfl:=hz h0 rfl; refine np ?_; simp only[H3,cdt,cdf,A1,A,B,C,E,F,J]; exact ih _ _ _ _)
theorem F3n(a0 a1:X8)(r7:(N X6))(h7:L7 a0.Surges=H r7)(h8:(B9 r7.length a1.Surges.length 24)=T):∀(f:U) (b0 b3:Q) (b4 b7:Q),E0 X A2i (Y6 a0 a1 r7) f [b0,T,T,b3,b4,G,G,b7] (H3 a0 a1 r7 (vc (.own 1728)) b0 T T b3 b4 G G b7 [(2,(dm a0.row)),(3,(dm a1.row))] [(1728,3,W X6.row r7)]):=by
 intro f
 induction f with
 | zero=>intro b0 b3 b4 b7 h; simp at h
 | succ f ih=>
  intro b0 b3 b4 b7
  refine A9 ⟨?_,?_,?_,?_,?_,?_,?_,?_,⟨⟩⟩<;>try first | (intro h; cases h; done) | (intro _ hw; simp at hw; done) | (intro h0 hw; obtain rfl:=hz h0 rfl; (try obtain rfl:=hq hw 3 rfl rfl); refine np ?_; simp only[H3,cdt,cdf,A1,A,B,C,E,F,J]; exact ih _ _ _ _)
  ·intro h0 hw
   obtain rfl:=hq hw 4 rfl rfl
   refine np ?_
   try simp only[h8,H3,cdt,cdf,A1,A,B,C,E,F,J]
   exact F61 a0 a1 r7 h7 h8 _ b0 b3 G b7
theorem F94(a0 a1:X8)(r7:(N X6))(h7:L7 a0.Surges=H r7)(h8:(B9 r7.length a1.Surges.length 24)=T):∀(f:U) (b0 b1:Q) (b3 b4 b7:Q),E0 X A2i (Y6 a0 a1 r7) f [b0,b1,G,b3,b4,G,G,b7] (H3 a0 a1 r7 (vc (.own 1728)) b0 b1 G b3 b4 G G b7 [(2,(dm a0.row)),(3,(dm a1.row))] []):=by
 intro f
 induction f with
 | zero=>intro b0 b1 b3 b4 b7 h; simp at h
 | succ f ih=>
  intro b0 b1 b3 b4 b7
  refine A9 ⟨?_,?_,?_,?_,?_,?_,?_,?_,⟨⟩⟩<;>try first | (intro _ hw; simp at hw; done) | (intro h0 hw; obtain rfl:=hz h0 rfl; (try obtain rfl:=hq hw 0 rfl rfl); (try obtain rfl:=hq hw 3 rfl rfl); refine np ?_; simp only[H3,cdt,cdf,A1,A,B,C,E,F,J]; exact ih _ _ _ _ _)
  ·intro h0 hw
   obtain rfl:=hq hw 1 rfl rfl
   refine np ?_
   try simp only[H3,cdt,cdf,A1,A,B,C,E,F,J]
   refine A2 (A7k _ _ h7) V (by simp only[St.fresh,Z,I,H5]; simp[AV.cells,V1.cells,AC.uses]) (uf V) ?_
   try simp only[A1,A,B,C,E,F,J]
   exact F3n a0 a1 r7 h7 h8 _ b0 b3 b4 b7
abbrev A8(a0 a1:X8)(y9 v10:P)(x13:X6)(r14:P)(x15:X6)(r16:P)(x17:X6)(c0_ c1_:Q)(c2_ c3_:Q)(c4_ c5_:Q)(c6_ c7_:Q)(c8_ c9_:Q)(c10_ c11_:Q)(c12_ c13_:Q)(c14_ c15_:Q)(c16_ c17_:Q)(bx_:N (U × N AC))(rs_:Rows):St:=⟨[(2,vc (.pb 2 0)),(3,vc (.pb 3 0)),(6,vc (.pb 6 0)),(30,vc (.own 1728)),(31,vc (aI y9)),(32,vc (aI v10)),(36,bif c0_ then vc (.pb 2 2) else .undef),(37,bif c1_ then vc (aL (W X6.row a0.Surges)) else .undef),(38,bif c2_ then va (dm a0.row) else .undef),(39,bif c3_ then vc (.pb 6 0) else .undef),(40,bif c4_ then vc (aI x13.From) else .undef),(41,bif c5_ then vc (aI r14) else .undef),(42,bif c6_ then vc (.dat (.pd x15.row)) else .undef),(43,bif c7_ then va (dm x15.row) else .undef),(44,bif c8_ then vc (.pb 3 2) else .undef),(45,bif c9_ then vc (aL (W X6.row a1.Surges)) else .undef),(46,bif c10_ then va (dm a1.row) else .undef),(47,bif c11_ then vc (.pb 6 0) else .undef),(48,bif c12_ then vc (aI x13.From) else .undef),(49,bif c13_ then vc (aI r16) else .undef),(50,bif c14_ then vc (.dat (.pd x17.row)) else .undef),(51,bif c15_ then va (dm x17.row) else .undef),(7,bif c16_ then vc (.pb 7 0) else .undef),(8,bif c17_ then vc (.pb 8 0) else .undef)],bx_,rs_⟩
abbrev K2(a0 a1:X8)(y9 v10:P)(y11:N X6)(x13:X6)(r14:P)(x15:X6)(r16:P)(x17:X6):St:=(A8 a0 a1 y9 v10 x13 r14 x15 r16 x17 T T T T T T T T T T T T T T T T T T [(2,(dm a0.row)),(3,(dm a1.row)),(6,(dm x13.row)),(7,(dm x15.row)),(8,(dm x17.row))] [(1728,3,W X6.row y11)])
theorem F8r(a0 a1:X8)(y9 v10:P)(y11:N X6)(x13:X6)(r14:P)(x15:X6)(r16:P)(x17:X6)(h14:C5 a0 x13.From=H r14)(h15:ix a0.Surges r14=H x15)(h16:C5 a1 x13.From=H r16)(h17:ix a1.Surges r16=H x17):∀(f:U),E0 X O7 (K2 a0 a1 y9 v10 y11 x13 r14 x15 r16 x17) f [T,T,T,T,T,T,T,T,T,T,T,T,T,T,T,T,T,T,T,T] (A8 a0 a1 y9 v10 x13 r14 x15 r16 x17 T T T T T T T T T T T T T T T T T T [(2,(dm a0.row)),(3,(dm a1.row)),(6,(dm x13.row)),(7,(dm x15.row)),(8,(dm x17.row))] [(1728,3,W X6.row y11)]):=by
 intro f
 induction f with
 | zero=>intro h; rfl
 | succ f ih=>
  refine A9 ⟨?_,?_,?_,?_,?_,?_,?_,?_,?_,?_,?_,?_,?_,?_,?_,?_,?_,?_,?_,?_,⟨⟩⟩<;>try first | (intro h; cases h; done)
theorem F4f(a0 a1:X8)(y9 v10:P)(y11:N X6)(x13:X6)(r14:P)(x15:X6)(r16:P)(x17:X6)(h14:C5 a0 x13.From=H r14)(h15:ix a0.Surges r14=H x15)(h16:C5 a1 x13.From=H r16)(h17:ix a1.Surges r16=H x17):∀(f:U) (b8 b9:Q) (b10 b11:Q) (b12 b14 b15:Q),E0 X O7 (K2 a0 a1 y9 v10 y11 x13 r14 x15 r16 x17) f [T,T,T,T,T,T,T,T,b8,b9,b10,b11,b12,T,b14,b15,T,T,T,G] (A8 a0 a1 y9 v10 x13 r14 x15 r16 x17 T T T T T T T T b8 b9 b10 b11 b12 T b14 b15 T T [(2,(dm a0.row)),(3,(dm a1.row)),(6,(dm x13.row)),(7,(dm x15.row)),(8,[aI (0:P),aI (0:P),aI (0:P)])] [(1728,3,W X6.row y11)]):=by
 intro f
 induction f with
 | zero=>intro b8 b9 b10 b11 b12 b14 b15 h; simp at h
 | succ f ih=>
  intro b8 b9 b10 b11 b12 b14 b15
  refine A9 ⟨?_,?_,?_,?_,?_,?_,?_,?_,?_,?_,?_,?_,?_,?_,?_,?_,?_,?_,?_,?_,⟨⟩⟩<;>try first | (intro h; cases h; done) | (intro h0 hw; obtain rfl:=hz h0 rfl; (try obtain rfl:=hq hw 8 rfl rfl); (try obtain rfl:=hq hw 9 rfl rfl); (try obtain rfl:=hq hw 11 rfl rfl); (try obtain rfl:=hq hw 14 rfl rfl); refine np ?_; simp only[h17,A8,cdt,cdf,A1,A,B,C,E,F,J]; exact ih _ _ _ _ _ _ _)
  ·intro h0 hw
   obtain rfl:=hq hw 8 rfl rfl
   obtain rfl:=hq hw 9 rfl rfl
   obtain rfl:=hq hw 10 rfl rfl
   obtain rfl:=hq hw 11 rfl rfl
   obtain rfl:=hq hw 12 rfl rfl
   obtain rfl:=hq hw 14 rfl rfl
   obtain rfl:=hq hw 15 rfl rfl
   refine np ?_
   try simp only[A8,cdt,cdf,A1,A,B,C,E,F,J]
   exact F8r a0 a1 y9 v10 y11 x13 r14 x15 r16 x17 h14 h15 h16 h17 _
theorem E3g(a0 a1:X8)(y9 v10:P)(y11:N X6)(x13:X6)(r14:P)(x15:X6)(r16:P)(x17:X6)(h14:C5 a0 x13.From=H r14)(h15:ix a0.Surges r14=H x15)(h16:C5 a1 x13.From=H r16)(h17:ix a1.Surges r16=H x17):∀(f:U) (b0 b1:Q) (b2 b3:Q) (b4 b5:Q) (b6 b7:Q) (b8 b9:Q) (b10 b11:Q) (b12 b13:Q) (b14 b15:Q),E0 X O7 (K2 a0 a1 y9 v10 y11 x13 r14 x15 r16 x17) f [b0,b1,b2,b3,b4,b5,b6,b7,b8,b9,b10,b11,b12,b13,b14,b15,T,T,G,G] (A8 a0 a1 y9 v10 x13 r14 x15 r16 x17 b0 b1 b2 b3 b4 b5 b6 b7 b8 b9 b10 b11 b12 b13 b14 b15 T T [(2,(dm a0.row)),(3,(dm a1.row)),(6,(dm x13.row)),(7,[aI (0:P),aI (0:P),aI (0:P)]),(8,[aI (0:P),aI (0:P),aI (0:P)])] [(1728,3,W X6.row y11)]):=by
 intro f
 induction f with
 | zero=>intro b0 b1 b2 b3 b4 b5 b6 b7 b8 b9 b10 b11 b12 b13 b14 b15 h; simp at h
 | succ f ih=>
  intro b0 b1 b2 b3 b4 b5 b6 b7 b8 b9 b10 b11 b12 b13 b14 b15
  refine A9 ⟨?_,?_,?_,?_,?_,?_,?_,?_,?_,?_,?_,?_,?_,?_,?_,?_,?_,?_,?_,?_,⟨⟩⟩<;>try first | (intro h; cases h; done) | (intro _ hw; simp at hw; done) | (intro h0 hw; obtain rfl:=hz h0 rfl; (try obtain rfl:=hq hw 0 rfl rfl); (try obtain rfl:=hq hw 1 rfl rfl); (try obtain rfl:=hq hw 3 rfl rfl); (try obtain rfl:=hq hw 5 rfl rfl); (try obtain rfl:=hq hw 6 rfl rfl); (try obtain rfl:=hq hw 8 rfl rfl); (try obtain rfl:=hq hw 9 rfl rfl); (try obtain rfl:=hq hw 11 rfl rfl); (try obtain rfl:=hq hw 13 rfl rfl); (try obtain rfl:=hq hw 14 rfl rfl); refine np ?_; simp only[h15,h17,A8,cdt,cdf,A1,A,B,C,E,F,J]; exact ih _ _ _ _ _ _ _ _ _ _ _ _ _ _ _ _)
  ·intro h0 hw
   obtain rfl:=hz h0 rfl
   obtain rfl:=hq hw 2 rfl rfl
   obtain rfl:=hq hw 4 rfl rfl
   refine np ?_
   try simp only[A8,cdt,cdf,A1,A,B,C,E,F,J]
   refine A2 (H4 _ _ _ h14) V (by simp only[St.fresh,Z,I,H5]; simp[AV.cells,V1.cells,AC.uses]) (uf V) ?_
   try simp only[A1,A,B,C,E,F,J]
   exact ih b0 b1 T b3 T T b6 b7 b8 b9 b10 b11 b12 b13 b14 b15
  ·intro h0 hw
   obtain rfl:=hz h0 rfl
   obtain rfl:=hq hw 5 rfl rfl
   obtain rfl:=hq hw 10 rfl rfl
   obtain rfl:=hq hw 12 rfl rfl
   refine np ?_
   try simp only[A8,cdt,cdf,A1,A,B,C,E,F,J]
   refine A2 (H4 _ _ _ h16) V (by simp only[St.fresh,Z,I,H5]; simp[AV.cells,V1.cells,AC.uses]) (uf V) ?_
   try simp only[A1,A,B,C,E,F,J]
   exact ih b0 b1 b2 b3 b4 T b6 b7 b8 b9 T b11 T T b14 b15
  ·intro h0 hw
   obtain rfl:=hq hw 0 rfl rfl
   obtain rfl:=hq hw 1 rfl rfl
   obtain rfl:=hq hw 2 rfl rfl
   obtain rfl:=hq hw 3 rfl rfl
   obtain rfl:=hq hw 4 rfl rfl
   obtain rfl:=hq hw 5 rfl rfl
   obtain rfl:=hq hw 6 rfl rfl
   obtain rfl:=hq hw 7 rfl rfl
   obtain rfl:=hq hw 13 rfl rfl
   refine np ?_
   try simp only[A8,cdt,cdf,A1,A,B,C,E,F,J]
   exact F4f a0 a1 y9 v10 y11 x13 r14 x15 r16 x17 h14 h15 h16 h17 _ b8 b9 b10 b11 b12 b14 b15
theorem F3z(a0 a1:X8)(y9 v10:P)(y11:N X6)(x13:X6)(r14:P)(x15:X6)(r16:P)(x17:X6)(h14:C5 a0 x13.From=H r14)(h15:ix a0.Surges r14=H x15)(h16:C5 a1 x13.From=H r16)(h17:ix a1.Surges r16=H x17):∀(f:U) (b0 b1:Q) (b2 b3:Q) (b4 b5:Q) (b6 b7:Q) (b8 b9:Q) (b10 b11:Q) (b12 b13:Q) (b14 b15:Q),E0 X O7 (K2 a0 a1 y9 v10 y11 x13 r14 x15 r16 x17) f [b0,b1,b2,b3,b4,b5,b6,b7,b8,b9,b10,b11,b12,b13,b14,b15,T,G,G,G] (A8 a0 a1 y9 v10 x13 r14 x15 r16 x17 b0 b1 b2 b3 b4 b5 b6 b7 b8 b9 b10 b11 b12 b13 b14 b15 T G [(2,(dm a0.row)),(3,(dm a1.row)),(6,(dm x13.row)),(7,[aI (0:P),aI (0:P),aI (0:P)])] [(1728,3,W X6.row y11)]):=by
 intro f
 induction f with
 | zero=>intro b0 b1 b2 b3 b4 b5 b6 b7 b8 b9 b10 b11 b12 b13 b14 b15 h; simp at h
 | succ f ih=>
  intro b0 b1 b2 b3 b4 b5 b6 b7 b8 b9 b10 b11 b12 b13 b14 b15
  refine A9 ⟨?_,?_,?_,?_,?_,?_,?_,?_,?_,?_,?_,?_,?_,?_,?_,?_,?_,?_,?_,?_,⟨⟩⟩<;>try first | (intro h; cases h; done) | (intro _ hw; simp at hw; done) | (intro h0 hw; obtain rfl:=hz h0 rfl; (try obtain rfl:=hq hw 0 rfl rfl); (try obtain rfl:=hq hw 1 rfl rfl); (try obtain rfl:=hq hw 3 rfl rfl); (try obtain rfl:=hq hw 5 rfl rfl); (try obtain rfl:=hq hw 6 rfl rfl); (try obtain rfl:=hq hw 8 rfl rfl); (try obtain rfl:=hq hw 9 rfl rfl); (try obtain rfl:=hq hw 11 rfl rfl); (try obtain rfl:=hq hw 13 rfl rfl); (try obtain rfl:=hq hw 14 rfl rfl); refine np ?_; simp only[h15,h17,A8,cdt,cdf,A1,A,B,C,E,F,J]; exact ih _ _ _ _ _ _ _ _ _ _ _ _ _ _ _ _)
  ·intro h0 hw
   obtain rfl:=hz h0 rfl
   obtain rfl:=hq hw 2 rfl rfl
   obtain rfl:=hq hw 4 rfl rfl
   refine np ?_
   try simp only[A8,cdt,cdf,A1,A,B,C,E,F,J]
   refine A2 (H4 _ _ _ h14) V (by simp only[St.fresh,Z,I,H5]; simp[AV.cells,V1.cells,AC.uses]) (uf V) ?_
   try simp only[A1,A,B,C,E,F,J]
   exact ih b0 b1 T b3 T T b6 b7 b8 b9 b10 b11 b12 b13 b14 b15
  ·intro h0 hw
   obtain rfl:=hz h0 rfl
   obtain rfl:=hq hw 5 rfl rfl
   obtain rfl:=hq hw 10 rfl rfl
   obtain rfl:=hq hw 12 rfl rfl
   refine np ?_
   try simp only[A8,cdt,cdf,A1,A,B,C,E,F,J]
   refine A2 (H4 _ _ _ h16) V (by simp only[St.fresh,Z,I,H5]; simp[AV.cells,V1.cells,AC.uses]) (uf V) ?_
   try simp only[A1,A,B,C,E,F,J]
   exact ih b0 b1 b2 b3 b4 T b6 b7 b8 b9 T b11 T T b14 b15
  ·intro h0 hw
   refine np ?_
   try simp only[A8,cdt,cdf,A1,A,B,C,E,F,J]
   refine B7 (by simp only[St.fresh,Z,I,H5]; simp[AV.cells,V1.cells,AC.uses]) V ?_
   try simp only[A1,A,B,C,E,F,J]
   exact E3g a0 a1 y9 v10 y11 x13 r14 x15 r16 x17 h14 h15 h16 h17 _ b0 b1 b2 b3 b4 b5 b6 b7 b8 b9 b10 b11 b12 b13 b14 b15
theorem F3g(a0 a1:X8)(y9 v10:P)(y11:N X6)(x13:X6)(r14:P)(x15:X6)(r16:P)(x17:X6)(h14:C5 a0 x13.From=H r14)(h15:ix a0.Surges r14=H x15)(h16:C5 a1 x13.From=H r16)(h17:ix a1.Surges r16=H x17):∀(f:U) (b0 b1:Q) (b2 b3:Q) (b4 b5:Q) (b6 b7:Q) (b8 b9:Q) (b10 b11:Q) (b12 b13:Q) (b14 b15:Q),E0 X O7 (K2 a0 a1 y9 v10 y11 x13 r14 x15 r16 x17) f [b0,b1,b2,b3,b4,b5,b6,b7,b8,b9,b10,b11,b12,b13,b14,b15,G,T,G,G] (A8 a0 a1 y9 v10 x13 r14 x15 r16 x17 b0 b1 b2 b3 b4 b5 b6 b7 b8 b9 b10 b11 b12 b13 b14 b15 G T [(2,(dm a0.row)),(3,(dm a1.row)),(6,(dm x13.row)),(8,[aI (0:P),aI (0:P),aI (0:P)])] [(1728,3,W X6.row y11)]):=by
 intro f
 induction f with
 | zero=>intro b0 b1 b2 b3 b4 b5 b6 b7 b8 b9 b10 b11 b12 b13 b14 b15 h; simp at h
 | succ f ih=>
  intro b0 b1 b2 b3 b4 b5 b6 b7 b8 b9 b10 b11 b12 b13 b14 b15
  refine A9 ⟨?_,?_,?_,?_,?_,?_,?_,?_,?_,?_,?_,?_,?_,?_,?_,?_,?_,?_,?_,?_,⟨⟩⟩<;>try first | (intro h; cases h; done) | (intro _ hw; simp at hw; done) | (intro h0 hw; obtain rfl:=hz h0 rfl; (try obtain rfl:=hq hw 0 rfl rfl); (try obtain rfl:=hq hw 1 rfl rfl); (try obtain rfl:=hq hw 3 rfl rfl); (try obtain rfl:=hq hw 5 rfl rfl); (try obtain rfl:=hq hw 6 rfl rfl); (try obtain rfl:=hq hw 8 rfl rfl); (try obtain rfl:=hq hw 9 rfl rfl); (try obtain rfl:=hq hw 11 rfl rfl); (try obtain rfl:=hq hw 13 rfl rfl); (try obtain rfl:=hq hw 14 rfl rfl); refine np ?_; simp only[h15,h17,A8,cdt,cdf,A1,A,B,C,E,F,J]; exact ih _ _ _ _ _ _ _ _ _ _ _ _ _ _ _ _)
  ·intro h0 hw
   obtain rfl:=hz h0 rfl
   obtain rfl:=hq hw 2 rfl rfl
   obtain rfl:=hq hw 4 rfl rfl
   refine np ?_
   try simp only[A8,cdt,cdf,A1,A,B,C,E,F,J]
   refine A2 (H4 _ _ _ h14) V (by simp only[St.fresh,Z,I,H5]; simp[AV.cells,V1.cells,AC.uses]) (uf V) ?_
   try simp only[A1,A,B,C,E,F,J]
   exact ih b0 b1 T b3 T T b6 b7 b8 b9 b10 b11 b12 b13 b14 b15
  ·intro h0 hw
   obtain rfl:=hz h0 rfl
   obtain rfl:=hq hw 5 rfl rfl
   obtain rfl:=hq hw 10 rfl rfl
   obtain rfl:=hq hw 12 rfl rfl
   refine np ?_
   try simp only[A8,cdt,cdf,A1,A,B,C,E,F,J]
   refine A2 (H4 _ _ _ h16) V (by simp only[St.fresh,Z,I,H5]; simp[AV.cells,V1.cells,AC.uses]) (uf V) ?_
   try simp only[A1,A,B,C,E,F,J]
   exact ih b0 b1 b2 b3 b4 T b6 b7 b8 b9 T b11 T T b14 b15
  ·intro h0 hw
   refine⟨[],[(L,.keep [2,3,6,30,31,32,36,37,38,39,40,41,42,43,44,45,46,47,48,49,50,51,7,8] [2,3,6,7,8] [1728])],V,V,?_⟩
   try simp only[A8,cdt,cdf,zC,zB,A1,A,B,C,E,F,J]
   refine B7 (by simp only[St.fresh,Z,I,H5]; simp[AV.cells,V1.cells,AC.uses]) V ?_
   try simp only[A1,A,B,C,E,F,J]
   exact E3g a0 a1 y9 v10 y11 x13 r14 x15 r16 x17 h14 h15 h16 h17 _ b0 b1 b2 b3 b4 b5 b6 b7 b8 b9 b10 b11 b12 b13 b14 b15
theorem F7f(a0 a1:X8)(y9 v10:P)(y11:N X6)(x13:X6)(r14:P)(x15:X6)(r16:P)(x17:X6)(h14:C5 a0 x13.From=H r14)(h15:ix a0.Surges r14=H x15)(h16:C5 a1 x13.From=H r16)(h17:ix a1.Surges r16=H x17):∀(f:U) (b0 b1:Q) (b2 b3:Q) (b4 b5:Q) (b6 b7:Q) (b8 b9:Q) (b10 b11:Q) (b12 b13:Q) (b14 b15:Q),E0 X O7 (K2 a0 a1 y9 v10 y11 x13 r14 x15 r16 x17) f [b0,b1,b2,b3,b4,b5,b6,b7,b8,b9,b10,b11,b12,b13,b14,b15,G,G,G,G] (A8 a0 a1 y9 v10 x13 r14 x15 r16 x17 b0 b1 b2 b3 b4 b5 b6 b7 b8 b9 b10 b11 b12 b13 b14 b15 G G [(2,(dm a0.row)),(3,(dm a1.row)),(6,(dm x13.row))] [(1728,3,W X6.row y11)]):=by
 intro f
 induction f with
 | zero=>intro b0 b1 b2 b3 b4 b5 b6 b7 b8 b9 b10 b11 b12 b13 b14 b15 h; simp at h
 | succ f ih=>
  intro b0 b1 b2 b3 b4 b5 b6 b7 b8 b9 b10 b11 b12 b13 b14 b15
  refine A9 ⟨?_,?_,?_,?_,?_,?_,?_,?_,?_,?_,?_,?_,?_,?_,?_,?_,?_,?_,?_,?_,⟨⟩⟩<;>try first | (intro _ hw; simp at hw; done) | (intro h0 hw; obtain rfl:=hz h0 rfl; (try obtain rfl:=hq hw 0 rfl rfl); (try obtain rfl:=hq hw 1 rfl rfl); (try obtain rfl:=hq hw 3 rfl rfl); (try obtain rfl:=hq hw 5 rfl rfl); (try obtain rfl:=hq hw 6 rfl rfl); (try obtain rfl:=hq hw 8 rfl rfl); (try obtain rfl:=hq hw 9 rfl rfl); (try obtain rfl:=hq hw 11 rfl rfl); (try obtain rfl:=hq hw 13 rfl rfl); (try obtain rfl:=hq hw 14 rfl rfl); refine np ?_; simp only[h15,h17,A8,cdt,cdf,A1,A,B,C,E,F,J]; exact ih _ _ _ _ _ _ _ _ _ _ _ _ _ _ _ _)
  ·intro h0 hw
   obtain rfl:=hz h0 rfl
   obtain rfl:=hq hw 2 rfl rfl
   obtain rfl:=hq hw 4 rfl rfl
   refine np ?_
   try simp only[A8,cdt,cdf,A1,A,B,C,E,F,J]
   refine A2 (H4 _ _ _ h14) V (by simp only[St.fresh,Z,I,H5]; simp[AV.cells,V1.cells,AC.uses]) (uf V) ?_
   try simp only[A1,A,B,C,E,F,J]
   exact ih b0 b1 T b3 T T b6 b7 b8 b9 b10 b11 b12 b13 b14 b15
  ·intro h0 hw
   obtain rfl:=hz h0 rfl
   obtain rfl:=hq hw 5 rfl rfl
   obtain rfl:=hq hw 10 rfl rfl
   obtain rfl:=hq hw 12 rfl rfl
   refine np ?_
   try simp only[A8,cdt,cdf,A1,A,B,C,E,F,J]
   refine A2 (H4 _ _ _ h16) V (by simp only[St.fresh,Z,I,H5]; simp[AV.cells,V1.cells,AC.uses]) (uf V) ?_
   try simp only[A1,A,B,C,E,F,J]
   exact ih b0 b1 b2 b3 b4 T b6 b7 b8 b9 T b11 T T b14 b15
  ·intro h0 hw
   refine np ?_
   try simp only[A8,cdt,cdf,A1,A,B,C,E,F,J]
   refine B7 (by simp only[St.fresh,Z,I,H5]; simp[AV.cells,V1.cells,AC.uses]) V ?_
   try simp only[A1,A,B,C,E,F,J]
   exact F3z a0 a1 y9 v10 y11 x13 r14 x15 r16 x17 h14 h15 h16 h17 _ b0 b1 b2 b3 b4 b5 b6 b7 b8 b9 b10 b11 b12 b13 b14 b15
  ·intro h0 hw
   refine np ?_
   try simp only[A8,cdt,cdf,A1,A,B,C,E,F,J]
   refine B7 (by simp only[St.fresh,Z,I,H5]; simp[AV.cells,V1.cells,AC.uses]) V ?_
   try simp only[A1,A,B,C,E,F,J]
   exact F3g a0 a1 y9 v10 y11 x13 r14 x15 r16 x17 h14 h15 h16 h17 _ b0 b1 b2 b3 b4 b5 b6 b7 b8 b9 b10 b11 b12 b13 b14 b15
theorem F78(a0 a1:X8)(y9:P)(y11:N X6):∀(n:U) (v10:P) (r:Q),Q4 a0 a1 y9 y11 n v10=H r→∀σ:St,σ.kept [2,3,30,31,32] [2,3] [1728]=⟨[(2,vc (.pb 2 0)),(3,vc (.pb 3 0)),(30,vc (.own 1728)),(31,vc (aI y9)),(32,vc (aI v10))],[(2,(dm a0.row)),(3,(dm a1.row))],[(1728,3,W X6.row y11)]⟩→go X (.code (.loop C7d):: [.blk 0,.code D5p]) (Ret [4] [.sc (.v (.bool r))]) .normal (H σ):=by
 intro n
 induction n with
 | zero=>intro _ r h; cases h
 | succ n ih=>
  intro v10 r h σ hσ
  rw[Q4] at h
  refine B5 ?_
  rcases ic h with ⟨h12,h⟩|⟨h12,h⟩
  ·obtain⟨x13,h13,h⟩:=ob h
   have h13n:=M2 h13
   try simp only[hσ,h12,h13,h13n,C7d,A,B,C,E,F,J]
   refine B7 V V ?_
   try simp only[h12,h13,h13n,A,B,C,E,F,J]
   obtain⟨r14,h14,h⟩:=ob h
   obtain⟨x15,h15,h⟩:=ob h
   obtain⟨r16,h16,h⟩:=ob h
   obtain⟨x17,h17,h⟩:=ob h
   refine A3l (ks:= [2,3,6,30,31,32]) (bs:= [2,3,6]) (rs:= [1728]) (τ:=(K2 a0 a1 y9 v10 y11 x13 r14 x15 r16 x17)) V (F7f a0 a1 y9 v10 y11 x13 r14 x15 r16 x17 h14 h15 h16 h17 _ G G G G G G G G G G G G G G G G) ?_
   simp only[K2,A8,cdt]
   rcases ic h with ⟨h18,h⟩|⟨h18,h⟩
   ·try simp only[h12,h13,h13n,h15,h17,h18,A,B,C,E,F,J]
    cases h
    trivial
   ·rcases ic h with ⟨h19,h⟩|⟨h19,h⟩
    ·try simp only[h12,h13,h13n,h15,h17,h18,h19,A,B,C,E,F,J]
     cases h
     trivial
    ·try simp only[h12,h13,h13n,h15,h17,h18,h19,A,B,C,E,F,J]
     refine ih _ _ h _ ?_
     try simp only[h12,h13,h13n,h15,h17,h18,h19,A,B,C,E,F,J,Y]
  ·try simp only[hσ,h12,C7d,D5p,A,B,C,E,F,J]
   cases h
   trivial
theorem F4p:A5 X 11=H (cc616.strip,[4],65):=by kernel_rfl
theorem B5n(a0 a1:X8)(r:Q)(h:U0 a0 a1=H r):FC X 11 [.ag (X8.row a0),.ag (X8.row a1)] [.sc (.v (.bool r))]:=by
 unfold U0 at h
 refine C3 mixed F4p V ?_
 simp only[cc616,A,B,C,E,F,J]
 try simp only[A,B,C,E,F,J]
 refine B2 V V V ?_
 try simp only[A,B,C,E,F,J]
 refine B2 V V V ?_
 obtain⟨r1,h1,h⟩:=ob h
 try simp only[A,B,C,E,F,J]
 refine A2 (P2 _ _ h1) V V (uf V) ?_
 rcases ic h with ⟨h2,h⟩|⟨h2,h⟩
 ·obtain⟨r3,h3,h⟩:=ob h
  try simp only[h2,A,B,C,E,F,J]
  refine A2 (P2 _ _ h3) V V (uf V) ?_
  rcases ic h with ⟨h4,h⟩|⟨h4,h⟩
  ·obtain⟨r5,h5,h⟩:=ob h
   try simp only[h2,h4,A,B,C,E,F,J]
   refine A2 (B88 _ _ _ h5) V V (uf V) ?_
   rcases ic h with ⟨h6,h⟩|⟨h6,h⟩
   ·try simp only[h2,h4,h6,A,B,C,E,F,J]
    obtain⟨r7,h7,h⟩:=ob h
    obtain⟨h8,h⟩:=C9 h
    refine A3l (ks:= [2,3]) (bs:= [2,3]) (rs:= []) (τ:=(Y6 a0 a1 r7)) V (F94 a0 a1 r7 h7 h8 _ G G G G G) ?_
    simp only[Y6,H3,cdt]
    try simp only[h2,h4,h6,h8,A,B,C,E,F,J]
    refine F78 _ _ _ _ _ _ _ h _ ?_
    try simp only[h2,h4,h6,h8,A,B,C,E,F,J,Y]
   ·try simp only[h2,h4,h6,A,B,C,E,F,J]
    cases h
    trivial
  ·try simp only[h2,h4,A,B,C,E,F,J]
   cases h
   trivial
 ·try simp only[h2,A,B,C,E,F,J]
  cases h
  trivial
/- 12:impl_SailedBefore -/
def C6c:X2:= .seq (.reg [(L,.keep [1,5,10,11,12] [] [512])]) (.seq (.reg [bn 13 .lss 12 11]) (.seq (.cond (S 13) .skip (.exit 0)) (.seq (.block 1 (.seq (.reg [ia 14 10 12 5,lw 15 14 5,(L,.alloc 7 [aI 0,aI 0,aB G,aI 0,aI 0]),so 7 15 5]) (.seq (.reg [fa 16 7 3,ld 17 16,mv 18 1,bn 19 .lss 17 18]) (.cond (S 19) (.reg [mv 20 5,lw 21 7 5,(L,.bslice 22 5 [.int .i64 0,.int .i64 0,.bool G,.int .i64 0,.int .i64 0] 1 [(0,(S 21))]),(L,.app 23 5 40 (S 20) (S 22)),mv 5 23]) .skip)))) (.reg [(L,.bin 24 .add (S 12) (K 1)),mv 12 24]))))
def D27:X2:=(.seq (.reg [mv 25 5,mv 4 25]) .ret)
def cc630:X2:=(.seq (.reg [bo 2 0,(L,.mv 4 KN)]) (.seq (.reg [(L,.bslice 8 5 [.int .i64 0,.int .i64 0,.bool G,.int .i64 0,.int .i64 0] 0 []),mv 5 8]) (.seq (.seq (.reg [fa 9 2 3,ld 10 9,ln 11 10,(L,.mv 12 (K 0))]) (.block 0 (.loop C6c))) D27)))
theorem F68(a1:P)(a0:X0):∀(n:U) (v1:P) (v2:N X5) (r:(N X5)),N0 a1 a0 n v1 v2=H r→∀σ:St,σ.kept [1,5,10,11,12] [] [512]=⟨[(1,vc (aI a1)),(5,vc (.own 512)),(10,vc (aL (W X5.row a0.Passages))),(11,vc (aI (a0.Passages.length:P))),(12,vc (aI v1))],[],[(512,5,W X5.row v2)]⟩→go X (.code (.loop C6c):: [.blk 0,.code D27]) (Ret [4] [.sc (.o 5 (W X5.row r))]) .normal (H σ):=by
 intro n
 induction n with
 | zero=>intro _ _ r h; cases h
 | succ n ih=>
  intro v1 v2 r h σ hσ
  rw[N0] at h
  refine B5 ?_
  rcases ic h with ⟨h3,h⟩|⟨h3,h⟩
  ·obtain⟨x4,h4,h⟩:=ob h
   try simp only[hσ,h3,h4,C6c,A,B,C,E,F,J]
   refine B7 V V ?_
   rcases ic h with ⟨h5,h⟩|⟨h5,h⟩
   ·try simp only[h3,h4,h5,A,B,C,E,F,J]
    refine D6 (es:=W X5.row ([x4]:N X5)) V V ?_
    obtain⟨h6,h⟩:=C9 h
    try simp only[h3,h4,h5,h6,A,B,C,E,F,J]
    refine ih _ _ _ h _ ?_
    try simp only[h3,h4,h5,h6,A,B,C,E,F,J,Y]
   ·try simp only[h3,h4,h5,A,B,C,E,F,J]
    refine ih _ _ _ h _ ?_
    try simp only[h3,h4,h5,A,B,C,E,F,J,Y]
  ·try simp only[hσ,h3,C6c,D27,A,B,C,E,F,J]
   cases h
   trivial
theorem F8t:A5 X 12=H (cc630.strip,[4],26):=by kernel_rfl
theorem A7e(a0:X0)(a1:P)(r:(N X5))(h:T9 a0 a1=H r):FC X 12 [.ag (X0.row a0),.sc (.int .i64 a1)] [.sc (.o 5 (W X5.row r))]:=by
 unfold T9 at h
 refine C3 mixed F8t V ?_
 simp only[cc630,A,B,C,E,F,J]
 try simp only[A,B,C,E,F,J]
 refine B2 V V V ?_
 try simp only[A,B,C,E,F,J]
 refine D6 (es:=W X5.row ([]:N X5)) V V ?_
 try simp only[A,B,C,E,F,J]
 refine F68 _ _ _ _ _ _ h _ ?_
 try simp only[A,B,C,E,F,J,Y]
/- 14:impl_CoversBand -/
def C0z:X2:= .seq (.reg [(L,.keep [3,5,6,34,35,36] [3] [])]) (.seq (.reg [bn 37 .lss 36 35]) (.seq (.cond (S 37) .skip (.exit 0)) (.seq (.block 1 (.seq (.reg [mv 38 36,ia 39 34 36 3,lw 40 39 3,(L,.alloc 9 [aI 0,aI 0,.nil]),mv 8 38,so 9 40 3]) (.seq (.drw [o0 (fa 41 9 0),o0 (ld 42 41),o0 (fa 43 9 1),o0 (ld 44 43),o0 (bn 45 .gtr 42 44),o0 (mv 46 45),o0 (H (46,G),.mv 47 (S 8)),o0 (H (46,G),.bin 48 .gtr (S 47) (K 0)),o0 (H (46,G),.mv 49 (S 48)),o0 (H (49,T),.faddr 50 (S 3) 1),o0 (H (49,T),.load 51 (S 50) G 1),o0 (H (49,T),.mv 52 (S 8)),o0 (H (49,T),.bin 53 .sub (S 52) (K 1)),o0 (H (49,T),.iaddr 54 (S 51) (S 53) 3),o0 (H (49,T),.faddr 55 (S 54) 1),o0 (H (49,T),.load 56 (S 55) G 1),o0 (H (49,T),.bin 57 .add (S 56) (K 1)),o0 (H (49,T),.faddr 58 (S 9) 0),o0 (H (49,T),.load 59 (S 58) G 1),o0 (H (49,T),.bin 60 .neq (S 57) (S 59)),o0 (H (46,G),.pick 61 (S 49) (S 60) (KB G)),o0 (po 62 46 61)]) (.cond (S 62) (.seq (.reg [(L,.mv 4 (KB G))]) .ret) .skip)))) (.reg [(L,.bin 63 .add (S 36) (K 1)),mv 36 63]))))
def C47:X2:=(.seq (.reg [fa 64 3 1,ld 65 64,(L,.iaddr 66 (S 65) (K 0) 3),fa 67 66 0,ld 68 67,mv 69 5,bn 70 .leq 68 69,mv 71 70,(H (71,T),.mv 72 (S 6)),(H (71,T),.faddr 73 (S 3) 1),(H (71,T),.load 74 (S 73) G 1),(H (71,T),.faddr 75 (S 3) 1),(H (71,T),.load 76 (S 75) G 1),(H (71,T),.len 77 (S 76)),(H (71,T),.bin 78 .sub (S 77) (K 1)),(H (71,T),.iaddr 79 (S 74) (S 78) 3),(H (71,T),.faddr 80 (S 79) 1),(H (71,T),.load 81 (S 80) G 1),(H (71,T),.bin 82 .leq (S 72) (S 81)),pa 83 71 82,mv 4 83]) .ret)
def cc635:X2:=(.seq (.reg [bo 2 0,bo 3 1,(L,.mv 4 (KB G))]) (.seq (.reg [fa 11 2 0,lw 12 11 3,fa 13 3 0,ld 14 13,ca 15 6 [S 12,S 14],mv 10 15,xt 16 10 0,xt 17 10 1,xt 18 10 2,mv 5 16,mv 6 17,mv 7 18]) (.seq (.seq (.reg [mv 19 7,nt 20 19,mv 21 20,(H (21,G),.load 22 (S 2) T 12),(H (21,G),.call 23 27 [(S 22)]),(H (21,G),.un 24 .not (S 23)),po 25 21 24,mv 26 25,(H (26,G),.faddr 27 (S 3) 1),(H (26,G),.load 28 (S 27) G 1),(H (26,G),.len 29 (S 28)),(H (26,G),.call 30 31 [(S 29),(K 1),(K 4)]),(H (26,G),.un 31 .not (S 30)),po 32 26 31]) (.cond (S 32) (.seq (.reg [(L,.mv 4 (KB G))]) .ret) .skip)) (.seq (.seq (.reg [fa 33 3 1,ld 34 33,ln 35 34,(L,.mv 36 (K 0))]) (.block 0 (.loop C0z))) C47))))
theorem F97(r1:P × P × Q)(a1:Xh):∀(n:U) (v7:P) (r:Q),M8 r1 a1 n v7=H r→∀σ:St,σ.kept [3,5,6,34,35,36] [3] []=⟨[(3,vc (.pb 3 0)),(5,vc (aI r1.1)),(6,vc (aI r1.2.1)),(34,vc (aL (W zE a1.Branches))),(35,vc (aI (a1.Branches.length:P))),(36,vc (aI v7))],[(3,(dm a1.row))],[]⟩→go X (.code (.loop C0z):: [.blk 0,.code C47]) (Ret [4] [.sc (.v (.bool r))]) .normal (H σ):=by
 intro n
 induction n with
 | zero=>intro _ r h; cases h
 | succ n ih=>
  intro v7 r h σ hσ
  rw[M8] at h
  refine B5 ?_
  rcases ic h with ⟨h8,h⟩|⟨h8,h⟩
  ·obtain⟨x9,h9,h⟩:=ob h
   try simp only[hσ,h8,h9,C0z,A,B,C,E,F,J]
   refine B7 V V ?_
   try simp only[h8,h9,A,B,C,E,F,J]
   refine B3 V ?_
   rcases ic h with ⟨h10,h⟩|⟨h10,h⟩
   ·try simp only[h8,h9,h10,A,B,C,E,F,J]
    cases h
    trivial
   ·rcases ic h with ⟨h11,h⟩|⟨h11,h⟩
    ·obtain⟨x12,h12,h⟩:=ob h
     rcases ic h with ⟨h13,h⟩|⟨h13,h⟩
     ·try simp only[h8,h9,h10,h11,h12,h13,A,B,C,E,F,J]
      cases h
      trivial
     ·try simp only[h8,h9,h10,h11,h12,h13,A,B,C,E,F,J]
      refine ih _ _ h _ ?_
      try simp only[h8,h9,h10,h11,h12,h13,A,B,C,E,F,J,Y]
    ·try simp only[h8,h9,h10,h11,A,B,C,E,F,J]
     refine ih _ _ h _ ?_
     try simp only[h8,h9,h10,h11,A,B,C,E,F,J,Y]
  ·obtain⟨x14,h14,h⟩:=ob h
   rcases ic h with ⟨h15,h⟩|⟨h15,h⟩
   ·obtain⟨x16,h16,h⟩:=ob h
    try simp only[hσ,h8,h14,h15,h16,C0z,C47,A,B,C,E,F,J]
    cases h
    trivial
   ·try simp only[hσ,h8,h14,h15,C0z,C47,A,B,C,E,F,J]
    cases h
    trivial
theorem F64:A5 X 14=H (cc635.strip,[4],84):=by kernel_rfl
theorem B0z(a0:X4)(a1:Xh)(r:Q)(h:A1n a0 a1=H r):FC X 14 [.ag (X4.row a0),.ag (Xh.row a1)] [.sc (.v (.bool r))]:=by
 unfold A1n at h
 refine C3 mixed F64 V ?_
 simp only[cc635,A,B,C,E,F,J]
 try simp only[A,B,C,E,F,J]
 refine B2 V V V ?_
 try simp only[A,B,C,E,F,J]
 refine B2 V V V ?_
 obtain⟨r1,h1,h⟩:=ob h
 try simp only[A,B,C,E,F,J]
 refine A2 (A91 _ _ _ h1) V V (uf V) ?_
 rcases ic h with ⟨h2,h⟩|⟨h2,h⟩
 ·obtain⟨r3,h3,h⟩:=ob h
  try simp only[h2,A,B,C,E,F,J]
  refine A2 (A6k _ _ h3) V V (uf V) ?_
  rcases ic h with ⟨h4,h⟩|⟨h4,h⟩
  ·obtain⟨r5,h5,h⟩:=ob h
   try simp only[h2,h4,A,B,C,E,F,J]
   refine A2 (F8 _ _ _ _ h5) V V (uf V) ?_
   rcases ic h with ⟨h6,h⟩|⟨h6,h⟩
   ·try simp only[h2,h4,h6,A,B,C,E,F,J]
    refine F97 _ _ _ _ _ h _ ?_
    try simp only[h2,h4,h6,A,B,C,E,F,J,Y]
   ·try simp only[h2,h4,h6,A,B,C,E,F,J]
    cases h
    trivial
  ·try simp only[h2,h4,A,B,C,E,F,J]
   cases h
   trivial
 ·try simp only[h2,A,B,C,E,F,J]
  cases h
  trivial
/- 13:impl_IsStrategy -/
def C5b:X2:= .seq (.reg [(L,.keep [1,3,5,7,30,31,32,58,59,60] [3,5] [])]) (.seq (.reg [bn 61 .lss 60 59]) (.seq (.cond (S 61) .skip (.exit 2)) (.seq (.block 3 (.seq (.reg [mv 62 60,ia 63 58 60 4,lw 64 63 4,(L,.alloc 13 [aI 0,aI 0,aI 0,.nil]),mv 12 62,so 13 64 4]) (.seq (.drw [o0 (lw 65 13 4),o0 (fa 66 5 0),o0 (ld 67 66),o0 (ca 68 12 [S 65,S 67]),(H [68],mv 69 7),(H [68],mv 70 12),(H [68],ia 71 69 70 4),(H [68],lw 72 71 4),(H [68],fa 73 5 0),(H [68],ld 74 73),o0 (ca 75 12 [S 72,S 74]),o0 (ca 76 38 [S 68,S 75]),o0 (nt 77 76)]) (.cond (S 77) (.seq (.reg [(L,.mv 6 (KB G))]) .ret) .skip)))) (.reg [(L,.bin 78 .add (S 60) (K 1)),mv 60 78]))))
def D35:X2:=(.reg [(L,.bin 79 .add (S 32) (K 1)),mv 32 79])
def B7g:X2:= .seq (.reg [(L,.keep [1,3,5,7,30,31,32] [3,5] [])]) (.seq (.reg [bn 33 .lss 32 31]) (.seq (.cond (S 33) .skip (.exit 0)) (.seq (.block 1 (.seq (.reg [ia 34 30 32 3,lw 35 34 3,(L,.alloc 9 [aI 0,aI 0,.nil]),so 9 35 3]) (.seq (.reg [lw 37 3 12,fa 38 5 0,ld 39 38,fa 40 9 0,ld 41 40,fa 42 9 1,ld 43 42,ca 44 9 [S 37,S 39,S 41,S 43],mv 36 44,xt 45 36 0,xt 46 36 1,(L,.alloc 10 [aI 0,.nil,.nil,.nil,.nil,.nil,aI 0,aB G,aI 0,aI 0,aI 0,.nil]),so 10 45 12,mv 11 46]) (.seq (.seq (.reg [mv 47 11,nt 48 47,mv 49 48,(H (49,G),.load 50 (S 10) T 12),(H (49,G),.mv 51 (S 1)),(H (49,G),.faddr 52 (S 9) 2),(H (49,G),.load 53 (S 52) G 1),(H (49,G),.call 54 10 [(S 50),(S 51),(S 53)]),(H (49,G),.un 55 .not (S 54)),po 56 49 55]) (.cond (S 56) (.seq (.reg [(L,.mv 6 (KB G))]) .ret) .skip)) (.seq (.reg [fa 57 9 2,ld 58 57,ln 59 58,(L,.mv 60 (K 0))]) (.block 2 (.loop C5b))))))) D35)))
def B99:X2:=(.seq (.reg [(L,.mv 6 (KB T))]) .ret)
def cc642:X2:=(.seq (.reg [bo 3 0,bo 5 2,(L,.mv 6 (KB G))]) (.seq (.seq (.reg [lw 14 3 12,mv 15 1,ca 16 7 [S 14,S 15],nt 17 16,mv 18 17,(H (18,G),.load 19 (S 3) T 12),(H (18,G),.load 20 (S 5) T 2),(H (18,G),.call 21 14 [(S 19),(S 20)]),(H (18,G),.un 22 .not (S 21)),po 23 18 22]) (.cond (S 23) (.seq (.reg [(L,.mv 6 (KB G))]) .ret) .skip)) (.seq (.reg [fa 24 5 1,ld 25 24,(L,.iaddr 26 (S 25) (K 0) 3),fa 27 26 2,ld 28 27,mv 7 28]) (.seq (.seq (.reg [fa 29 5 1,ld 30 29,ln 31 30,(L,.mv 32 (K 0))]) (.block 0 (.loop B7g))) B99))))
theorem F3i(a1:N Xa)(x5:Xi)(a2:Xh)(v6:P)(x8:Xi)(a0:X4)(A13:P→O Q)(B43:∀(v6:P) zr,A13 v6=H zr→∀σ:St,σ.kept [1,3,5,7,30,31,32] [3,5] []=⟨[(1,vc (aL (W zD a1))),(3,vc (.pb 3 0)),(5,vc (.pb 5 0)),(7,vc (aL (W X0.row x5.Plan))),(30,vc (aL (W zE a2.Branches))),(31,vc (aI (a2.Branches.length:P))),(32,vc (aI v6))],[(3,(dm a0.row)),(5,(dm a2.row))],[]⟩→go X (.code (.loop B7g):: [.blk 0,.code B99]) (Ret [6] [.sc (.v (.bool zr))]) .normal (H σ)):∀(n:U) (v13:P) (r:Q),U2 a1 x5 a2 v6 x8 a0 A13 n v13=H r→∀σ:St,σ.kept [1,3,5,7,30,31,32,58,59,60] [3,5] []=⟨[(1,vc (aL (W zD a1))),(3,vc (.pb 3 0)),(5,vc (.pb 5 0)),(7,vc (aL (W X0.row x5.Plan))),(30,vc (aL (W zE a2.Branches))),(31,vc (aI (a2.Branches.length:P))),(32,vc (aI v6)),(58,vc (aL (W X0.row x8.Plan))),(59,vc (aI (x8.Plan.length:P))),(60,vc (aI v13))],[(3,(dm a0.row)),(5,(dm a2.row))],[]⟩→go X (.code (.loop C5b):: [.blk 2,.blk 1,.code D35,.code (.loop B7g),.blk 0,.code B99]) (Ret [6] [.sc (.v (.bool r))]) .normal (H σ):=by
 intro n
 induction n with
 | zero=>intro _ r h; cases h
 | succ n ih=>
  intro v13 r h σ hσ
  rw[U2] at h
  refine B5 ?_
  rcases ic h with ⟨h14,h⟩|⟨h14,h⟩
  ·obtain⟨x15,h15,h⟩:=ob h
   try simp only[hσ,h14,h15,C5b,A,B,C,E,F,J]
   refine B7 V V ?_
   try simp only[h14,h15,A,B,C,E,F,J]
   refine B3 V ?_
   obtain⟨r16,h16,h⟩:=ob h
   try simp only[h14,h15,A,B,C,E,F,J]
   refine E1 (A7e _ _ _ h16) V V (uf V) ?_
   obtain⟨x17,h17,h⟩:=ob h
   obtain⟨r18,h18,h⟩:=ob h
   try simp only[h14,h15,h17,A,B,C,E,F,J]
   refine E1 (A7e _ _ _ h18) V V (uf V) ?_
   obtain⟨r19,h19,h⟩:=ob h
   try simp only[h14,h15,h17,A,B,C,E,F,J]
   refine A5p (A8i _ _ _ h19) (by first | rfl | kernel_rfl) (N9 V) V (uf V) ?_
   rcases ic h with ⟨h20,h⟩|⟨h20,h⟩
   ·try simp only[h14,h15,h17,h20,A,B,C,E,F,J]
    refine ih _ _ h _ ?_
    try simp only[h14,h15,h17,h20,A,B,C,E,F,J,Y]
   ·try simp only[h14,h15,h17,h20,A,B,C,E,F,J]
    cases h
    trivial
  ·try simp only[hσ,h14,C5b,D35,A,B,C,E,F,J]
   refine B43 _ _ h _ ?_
   try simp only[h14,A,B,C,E,F,J,Y]
theorem F6t(a1:N Xa)(x5:Xi)(a2:Xh)(a0:X4):∀(n:U) (v6:P) (r:Q),M9 a1 x5 a2 a0 n v6=H r→∀σ:St,σ.kept [1,3,5,7,30,31,32] [3,5] []=⟨[(1,vc (aL (W zD a1))),(3,vc (.pb 3 0)),(5,vc (.pb 5 0)),(7,vc (aL (W X0.row x5.Plan))),(30,vc (aL (W zE a2.Branches))),(31,vc (aI (a2.Branches.length:P))),(32,vc (aI v6))],[(3,(dm a0.row)),(5,(dm a2.row))],[]⟩→go X (.code (.loop B7g):: [.blk 0,.code B99]) (Ret [6] [.sc (.v (.bool r))]) .normal (H σ):=by
 intro n
 induction n with
 | zero=>intro _ r h; cases h
 | succ n ih=>
  intro v6 r h σ hσ
  rw[M9] at h
  refine B5 ?_
  rcases ic h with ⟨h7,h⟩|⟨h7,h⟩
  ·obtain⟨x8,h8,h⟩:=ob h
   try simp only[hσ,h7,h8,B7g,A,B,C,E,F,J]
   refine B7 V V ?_
   obtain⟨r9,h9,h⟩:=ob h
   try simp only[h7,h8,A,B,C,E,F,J]
   refine A2 (A7d _ _ _ _ _ h9) V V (uf V) ?_
   try simp only[h7,h8,A,B,C,E,F,J]
   refine B7 V V ?_
   rcases ic h with ⟨h10,h⟩|⟨h10,h⟩
   ·obtain⟨r11,h11,h⟩:=ob h
    try simp only[h7,h8,h10,A,B,C,E,F,J]
    refine P4 (B5a _ _ _ _ h11) V (N9 V) V (uf V) ?_
    rcases ic h with ⟨h12,h⟩|⟨h12,h⟩
    ·try simp only[h7,h8,h10,h12,A,B,C,E,F,J]
     refine F3i _ _ _ _ _ _ (M9 a1 x5 a2 a0 n) ih _ _ _ h _ ?_
     try simp only[h7,h8,h10,h12,A,B,C,E,F,J,Y]
    ·try simp only[h7,h8,h10,h12,A,B,C,E,F,J]
     cases h
     trivial
   ·try simp only[h7,h8,h10,A,B,C,E,F,J]
    cases h
    trivial
  ·try simp only[hσ,h7,B7g,B99,A,B,C,E,F,J]
   cases h
   trivial
theorem F5x:A5 X 13=H (cc642.strip,[6],80):=by kernel_rfl
theorem B8d(a0:X4)(a1:N Xa)(a2:Xh)(r:Q)(h:A3k a0 a1 a2=H r):FC X 13 [.ag (X4.row a0),.sc (.sl (W zD a1)),.ag (Xh.row a2)] [.sc (.v (.bool r))]:=by
 unfold A3k at h
 refine C3 mixed F5x V ?_
 simp only[cc642,A,B,C,E,F,J]
 try simp only[A,B,C,E,F,J]
 refine B2 V V V ?_
 try simp only[A,B,C,E,F,J]
 refine B2 V V V ?_
 obtain⟨r1,h1,h⟩:=ob h
 try simp only[A,B,C,E,F,J]
 refine A2 (A3v _ _ _ h1) V V (uf V) ?_
 rcases ic h with ⟨h2,h⟩|⟨h2,h⟩
 ·obtain⟨r3,h3,h⟩:=ob h
  try simp only[h2,A,B,C,E,F,J]
  refine A2 (B0z _ _ _ h3) V V (uf V) ?_
  rcases ic h with ⟨h4,h⟩|⟨h4,h⟩
  ·obtain⟨x5,h5,h⟩:=ob h
   try simp only[h2,h4,h5,A,B,C,E,F,J]
   refine F6t _ _ _ _ _ _ _ h _ ?_
   try simp only[h2,h4,h5,A,B,C,E,F,J,Y]
  ·try simp only[h2,h4,A,B,C,E,F,J]
   cases h
   trivial
 ·try simp only[h2,A,B,C,E,F,J]
  cases h
  trivial
end Go.Vi
