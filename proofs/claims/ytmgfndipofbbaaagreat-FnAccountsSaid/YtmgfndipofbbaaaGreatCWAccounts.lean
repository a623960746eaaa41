/-
Walks. No condition.
-/
import Derived.Test.YtmgfndipofbbaaaGreatCNf
import Derived.Test.YtmgfndipofbbaaaGreatChecked
import Derived.KernelRfl
import Derived.Test.YtmgfndipofbbaaaGreatCWAccountsb
namespace Go.Vi
open Go.Proofs
set_option linter.all false
set_option maxRecDepth 4000
set_option maxHeartbeats 2000000
open Nat renaming reduceBEq → A, reduceMul → B, reduceAdd → C, reduceDiv → E, le_of_ble_eq_true → uf
open Int renaming reduceBEq → F
attribute [local irreducible] go AWP
open List renaming map → W, map_nil → Y, all_eq_true → Z, all_cons → I, all_nil → zA, cons_append → zB, nil_append → zC, replicate → zD
open Tryz renaming prog → X
open Bool renaming true → T, false → G
open Option renaming some → H, none → L
open _root_ renaming List → N, Option → O, Int → P, Bool → Q, Nat → U, rfl → V
/- 365:impl_leastPersons -/
def C2m:X3:= .seq (.reg [(L,.keep [0,3,4,5,6,7,8,9] [] [896,1024])]) (.seq (.reg [mv 81 9,(L,.bin 82 .eql (S 81) (K 0))]) (.cond (S 82) (.exit 2) .skip))
def D0o:X3:=(.reg [mv 55 9,(L,.bin 56 .sub (S 55) (K 1)),mv 57 8,bn 58 .and 56 57,mv 9 58])
def B5o:X3:= .seq (.reg [(L,.keep [0,3,4,5,6,7,8,9] [] [896,1024])]) (.seq (.block 3 (.seq (.seq (.reg [mv 59 4,mv 60 9,mv 61 7,(L,.bin 62 .shl (K 1) (S 61)),bn 63 .or 60 62,ia 64 59 63 1,ld 65 64]) (.cond (S 65) (.drw [o0 (mv 66 5),o0 (mv 67 6),o0 (mv 68 5),o0 (mv 69 6),o0 (ia 70 68 69 1),o0 (ld 71 70),o0 (mv 72 5),o0 (mv 73 8),o0 (mv 74 9),o0 (bn 75 .andNot 73 74),o0 (ia 76 72 75 1),o0 (ld 77 76),o0 (L,.bin 78 .add (K 1) (S 77)),o0 (L,.mm 79 G (S 71) (S 78)),o0 (ia 80 66 67 1),(L,so 80 79 1)]) .skip)) C2m)) D0o)
def C8m:X3:= .seq (.reg [(L,.keep [0,3,4,5,6,7,8] [] [896,1024])]) (.seq (.reg [mv 49 5,mv 50 6,mv 51 0,ln 52 51,ia 53 49 50 1,so 53 52 1]) (.seq (.reg [mv 54 8,mv 9 54]) (.block 2 (.loop B5o))))
def B45:X3:=(.reg [mv 22 6,(L,.bin 23 .add (S 22) (K 1)),mv 6 23])
def A7u:X3:= .seq (.reg [(L,.keep [0,3,4,5,6] [] [896,1024])]) (.seq (.seq (.reg [mv 19 6,mv 20 3,bn 21 .lss 19 20]) (.cond (S 21) .skip (.exit 0))) (.seq (.block 1 (.seq (.reg [mv 24 6,(L,.conv 25 .u64 (S 24)),ca 26 380 [S 25],(L,.bin 27 .sub (S 26) (K 1)),mv 7 27]) (.seq (.reg [mv 28 6,mv 29 7,(L,.bin 30 .shl (K 1) (S 29)),bn 31 .andNot 28 30,mv 8 31]) (.seq (.reg [mv 32 4,mv 33 6,mv 34 4,mv 35 8,ia 36 34 35 1,ld 37 36,mv 38 37,(H (38,T),.mv 39 (S 8)),(H (38,T),.conv 40 .u64 (S 39)),(H (38,T),.mv 41 (S 0)),(H (38,T),.mv 42 (S 7)),(H (38,T),.iaddr 43 (S 41) (S 42) 1),(H (38,T),.load 44 (S 43) G 1),(H (38,T),.bin 45 .andNot (S 40) (S 44)),(H (38,T),.bin 46 .eql (S 45) (.c (.v (.sc (.dat (.int .u64 0)))))),pa 47 38 46,ia 48 32 33 1,so 48 47 1]) C8m)))) B45))
def A8e:X3:=(.seq (.reg [mv 83 5,mv 84 3,(L,.bin 85 .sub (S 84) (K 1)),ia 86 83 85 1,ld 87 86,mv 2 87]) .ret)
def cc466:X3:=(.seq (.reg [(L,.mv 2 (K 0))]) (.seq (.reg [mv 10 0,ln 11 10,(L,.bin 12 .shl (K 1) (S 11)),mv 3 12]) (.seq (.reg [mv 13 3,(L,.mksl 14 1 1 [.bool G] (S 13) (S 13)),mv 4 14]) (.seq (.reg [mv 15 3,(L,.mksl 16 1 8 [.int .i64 0] (S 15) (S 15)),mv 5 16]) (.seq (.reg [mv 17 4,(L,.iaddr 18 (S 17) (K 0) 1),(L,.store (S 18) (KB T) 1)]) (.seq (.seq (.reg [(L,.mv 6 (K 1))]) (.block 0 (.loop A7u))) A8e))))))
theorem D9z(a0:N P)(y5 v6:P)(v17 v18 v21:P)(v19:N Q)(B7:P→(N Q)→(N P)→O P)(Q1:∀(v6:P) (v7:N Q) (v8:N P) zr,B7 v6 v7 v8=H zr→∀σ:St,σ.kept [0,3,4,5,6] [] [896,1024]=⟨[(0,vc (aL (W rU a0))),(3,vc (aI y5)),(4,vc (.own 896)),(5,vc (.own 1024)),(6,vc (aI v6))],[],[(896,1,W rB v7),(1024,1,W rI v8)]⟩→go X (.code (.loop A7u):: [.blk 0,.code A8e]) (Ret [2] [.sc (.v (.int .i64 zr))]) .normal (H σ))(A11:P→(N P)→O P)(B1n:∀(v21:P) (v22:N P) zr,A11 v21 v22=H zr→∀σ:St,σ.kept [0,3,4,5,6,7,8,9] [] [896,1024]=⟨[(0,vc (aL (W rU a0))),(3,vc (aI y5)),(4,vc (.own 896)),(5,vc (.own 1024)),(6,vc (aI v6)),(7,vc (aI v17)),(8,vc (aI v18)),(9,vc (aI v21))],[],[(896,1,W rB v19),(1024,1,W rI v22)]⟩→go X (.code (.loop B5o):: [.blk 2,.blk 1,.code B45,.code (.loop A7u),.blk 0,.code A8e]) (Ret [2] [.sc (.v (.int .i64 zr))]) .normal (H σ))(v28:N P)(r:P)(h:T0 a0 y5 v6 v17 v18 v21 v19 B7 A11 v28=H r)(σ:St)(hσ:σ.kept [0,3,4,5,6,7,8,9] [] [896,1024]=⟨[(0,vc (aL (W rU a0))),(3,vc (aI y5)),(4,vc (.own 896)),(5,vc (.own 1024)),(6,vc (aI v6)),(7,vc (aI v17)),(8,vc (aI v18)),(9,vc (aI v21))],[],[(896,1,W rB v19),(1024,1,W rI v28)]⟩):go X (.code C2m:: [.blk 3,.code D0o,.code (.loop B5o),.blk 2,.blk 1,.code B45,.code (.loop A7u),.blk 0,.code A8e]) (Ret [2] [.sc (.v (.int .i64 r))]) .normal (H σ):=by
 unfold T0 at h
 rcases ic h with ⟨h29,h⟩|⟨h29,h⟩
 ·try simp only[hσ,h29,C2m,B45,A,B,C,E,F,J]
  refine Q1 _ _ _ _ h _ ?_
  try simp only[h29,A,B,C,E,F,J,Y]
 ·try simp only[hσ,h29,C2m,D0o,A,B,C,E,F,J]
  refine B1n _ _ _ h _ ?_
  try simp only[h29,A,B,C,E,F,J,Y]
theorem E88(a0:N P)(y5 v6:P)(v17 v18:P)(v19:N Q)(B7:P→(N Q)→(N P)→O P)(Q1:∀(v6:P) (v7:N Q) (v8:N P) zr,B7 v6 v7 v8=H zr→∀σ:St,σ.kept [0,3,4,5,6] [] [896,1024]=⟨[(0,vc (aL (W rU a0))),(3,vc (aI y5)),(4,vc (.own 896)),(5,vc (.own 1024)),(6,vc (aI v6))],[],[(896,1,W rB v7),(1024,1,W rI v8)]⟩→go X (.code (.loop A7u):: [.blk 0,.code A8e]) (Ret [2] [.sc (.v (.int .i64 zr))]) .normal (H σ)):∀(n:U) (v21:P) (v22:N P) (r:P),I0 a0 y5 v6 v17 v18 v19 B7 n v21 v22=H r→∀σ:St,σ.kept [0,3,4,5,6,7,8,9] [] [896,1024]=⟨[(0,vc (aL (W rU a0))),(3,vc (aI y5)),(4,vc (.own 896)),(5,vc (.own 1024)),(6,vc (aI v6)),(7,vc (aI v17)),(8,vc (aI v18)),(9,vc (aI v21))],[],[(896,1,W rB v19),(1024,1,W rI v22)]⟩→go X (.code (.loop B5o):: [.blk 2,.blk 1,.code B45,.code (.loop A7u),.blk 0,.code A8e]) (Ret [2] [.sc (.v (.int .i64 r))]) .normal (H σ):=by
 intro n
 induction n with
 | zero=>intro _ _ r h; cases h
 | succ n ih=>
  intro v21 v22 r h σ hσ
  rw[I0] at h
  refine B5 ?_
  obtain⟨h23,h⟩:=Y6 h
  obtain⟨x24,h24,h⟩:=ob h
  have h24n:=H5 h24
  rcases ic h with ⟨h25,h⟩|⟨h25,h⟩
  ·try simp only[hσ,h23,h24,h24n,h25,B5o,A,B,C,E,F,J]
   refine B2 V ?_
   obtain⟨x26,h26,h⟩:=ob h
   have h26n:=H5 h26
   obtain⟨x27,h27,h⟩:=ob h
   have h27n:=H5 h27
   try simp only[h23,h24,h24n,h25,h26,h26n,h27,h27n,A,B,C,E,F,J]
   refine A3e (row:=rI) (y:=(if(IntKind.i64.wrap ((1:P)+x27))<x26 then(IntKind.i64.wrap ((1:P)+x27)) else x26)) V V h26n V V (by rfl) ?_
   try simp only[h23,h24,h24n,h25,h26,h26n,h27,h27n,A,B,C,E,F,J]
   refine B2 V ?_
   try simp only[h23,h24,h24n,h25,h26,h26n,h27,h27n,A,B,C,E,F,J]
   refine D9z _ _ _ _ _ _ _ B7 Q1 (I0 a0 y5 v6 v17 v18 v19 B7 n) ih _ _ h _ ?_
   try simp only[h23,h24,h24n,h25,h26,h26n,h27,h27n,A,B,C,E,F,J,Y]
  ·try simp only[hσ,h23,h24,h24n,h25,B5o,A,B,C,E,F,J]
   refine D9z _ _ _ _ _ _ _ B7 Q1 (I0 a0 y5 v6 v17 v18 v19 B7 n) ih _ _ h _ ?_
   try simp only[h23,h24,h24n,h25,A,B,C,E,F,J,Y]
theorem D9c(a0:N P)(y5 v6:P)(v8:N P)(B7:P→(N Q)→(N P)→O P)(Q1:∀(v6:P) (v7:N Q) (v8:N P) zr,B7 v6 v7 v8=H zr→∀σ:St,σ.kept [0,3,4,5,6] [] [896,1024]=⟨[(0,vc (aL (W rU a0))),(3,vc (aI y5)),(4,vc (.own 896)),(5,vc (.own 1024)),(6,vc (aI v6))],[],[(896,1,W rB v7),(1024,1,W rI v8)]⟩→go X (.code (.loop A7u):: [.blk 0,.code A8e]) (Ret [2] [.sc (.v (.int .i64 zr))]) .normal (H σ))(v17 v18:P)(v19:N Q)(r:P)(h:S7 a0 y5 v6 v8 B7 v17 v18 v19=H r)(σ:St)(hσ:σ.kept [0,3,4,5,6,7,8] [] [896,1024]=⟨[(0,vc (aL (W rU a0))),(3,vc (aI y5)),(4,vc (.own 896)),(5,vc (.own 1024)),(6,vc (aI v6)),(7,vc (aI v17)),(8,vc (aI v18))],[],[(896,1,W rB v19),(1024,1,W rI v8)]⟩):go X (.code C8m:: [.blk 1,.code B45,.code (.loop A7u),.blk 0,.code A8e]) (Ret [2] [.sc (.v (.int .i64 r))]) .normal (H σ):=by
 unfold S7 at h
 obtain⟨x20,h20,h⟩:=ob h
 have h20n:=H5 h20
 try simp only[hσ,h20,C8m,A,B,C,E,F,J]
 refine A3e (row:=rI) (y:=(a0.length:P)) V V h20n V V (by rfl) ?_
 try simp only[h20,A,B,C,E,F,J]
 refine E88 _ _ _ _ _ _ B7 Q1 _ _ _ _ h _ ?_
 try simp only[h20,A,B,C,E,F,J,Y]
theorem F3i(a0:N P)(y5:P):∀(n:U) (v6:P) (v7:N Q) (v8:N P) (r:P),F8 a0 y5 n v6 v7 v8=H r→∀σ:St,σ.kept [0,3,4,5,6] [] [896,1024]=⟨[(0,vc (aL (W rU a0))),(3,vc (aI y5)),(4,vc (.own 896)),(5,vc (.own 1024)),(6,vc (aI v6))],[],[(896,1,W rB v7),(1024,1,W rI v8)]⟩→go X (.code (.loop A7u):: [.blk 0,.code A8e]) (Ret [2] [.sc (.v (.int .i64 r))]) .normal (H σ):=by
 intro n
 induction n with
 | zero=>intro _ _ _ r h; cases h
 | succ n ih=>
  intro v6 v7 v8 r h σ hσ
  rw[F8] at h
  refine B5 ?_
  rcases ic h with ⟨h9,h⟩|⟨h9,h⟩
  ·obtain⟨r10,h10,h⟩:=ob h
   try simp only[hσ,h9,A7u,A,B,C,E,F,J]
   refine A2 (B9n _ _ h10) V V (uf V) ?_
   obtain⟨h11,h⟩:=Y6 h
   obtain⟨x12,h12,h⟩:=ob h
   have h12n:=H5 h12
   rcases ic h with ⟨h13,h⟩|⟨h13,h⟩
   ·obtain⟨x14,h14,h⟩:=ob h
    obtain⟨x15,h15,h⟩:=ob h
    have h15n:=H5 h15
    try simp only[h9,h11,h12,h12n,h13,h14,h15,A,B,C,E,F,J]
    refine A3e (row:=rB) (y:=((J7 .andNot .u64 (IntKind.u64.wrap (J7 .andNot .i64 v6 (A0x .i64 (1:P) (IntKind.i64.wrap (r10 - (1:P)))))) x14)==(0:P))) V V h15n V V (by rfl) ?_
    try simp only[h9,h11,h12,h12n,h13,h14,h15,A,B,C,E,F,J]
    refine D9c _ _ _ _ (F8 a0 y5 n) ih _ _ _ _ h _ ?_
    try simp only[h9,h11,h12,h12n,h13,h14,h15,A,B,C,E,F,J,Y]
   ·obtain⟨x16,h16,h⟩:=ob h
    have h16n:=H5 h16
    try simp only[h9,h11,h12,h12n,h13,h16,A,B,C,E,F,J]
    refine A3e (row:=rB) (y:=false) V V h16n V V (by rfl) ?_
    try simp only[h9,h11,h12,h12n,h13,h16,A,B,C,E,F,J]
    refine D9c _ _ _ _ (F8 a0 y5 n) ih _ _ _ _ h _ ?_
    try simp only[h9,h11,h12,h12n,h13,h16,A,B,C,E,F,J,Y]
  ·obtain⟨x30,h30,h⟩:=ob h
   have h30n:=H5 h30
   try simp only[hσ,h9,h30,h30n,A7u,A8e,A,B,C,E,F,J]
   cases h
   trivial
theorem F1h:A6 X 365=H (cc466.strip,[2],88):=by kernel_rfl
theorem B3k(a0:N P)(r:P)(h:A00 a0=H r):FC X 365 [.sc (.sl (W rU a0))] [.sc (.v (.int .i64 r))]:=by
 unfold A00 at h
 refine C9 A8 F1h V ?_
 simp only[cc466,A,B,C,E,F,J]
 obtain⟨h1,h⟩:=Y6 h
 obtain⟨n2,hn2,h⟩:=ob h
 try simp only[h1,A,B,C,E,F,J]
 refine B13 (es:=W rB (zD n2 G)) V V hn2 V (A69 V) V ?_
 obtain⟨n3,hn3,h⟩:=ob h
 try simp only[h1,A,B,C,E,F,J]
 refine B13 (es:=W rI (zD n3 (0:P))) V V hn3 V (A69 V) V ?_
 obtain⟨x4,h4,h⟩:=ob h
 have h4n:=H5 h4
 try simp only[h1,h4,A,B,C,E,F,J]
 refine A3e (row:=rB) (y:=true) V V h4n V V (by rfl) ?_
 try simp only[h1,h4,A,B,C,E,F,J]
 refine F3i _ _ _ _ _ _ _ h _ ?_
 try simp only[h1,h4,A,B,C,E,F,J,Y]
/- 366:impl_coverer_cover -/
def C3c:X3:= .seq (.reg [(L,.keep [0,3,4] [99999999999] [90000,90001])]) (.seq (.reg [mv 109 0,(L,.nilc 110 (S 109)),fa 111 110 2,ld 112 111,mv 113 4,ia 114 112 113 1,ld 115 114,(L,.bin 116 .eql (S 115) (.c (.v (.sc (.dat (.int .u64 0))))))]) (.cond (S 116) (.seq (.reg [mv 117 0,mv 118 0,(L,.nilc 119 (S 118)),fa 120 119 2,ld 121 120,mv 122 4,(L,.slc 123 1 (S 121) L (H (S 122)) L),(L,.cut 123),(L,.nilc 124 (S 117)),fa 125 124 2,so 125 123 1]) (.exit 0)) .skip))
def D11:X3:= .seq (.reg [(L,.keep [0,3,4] [99999999999] [90000,90001])]) (.seq (.seq (.drw [o0 (mv 50 0),o0 (L,.nilc 51 (S 50)),o0 (fa 52 51 2),o0 (ld 53 52),o0 (mv 54 4),o0 (ia 55 53 54 1),o0 (ld 56 55),o0 (mv 57 0),o0 (L,.nilc 58 (S 57)),o0 (fa 59 58 0),o0 (ld 60 59),o0 (mv 61 3),o0 (ia 62 60 61 1),o0 (ld 63 62),o0 (bn 64 .andNot 56 63),o0 (L,.bin 65 .eql (S 64) (.c (.v (.sc (.dat (.int .u64 0))))))]) (.cond (S 65) (.seq (.drw [o0 (mv 66 0),o0 (L,.nilc 67 (S 66)),o0 (fa 68 67 2),o0 (ld 69 68),o0 (mv 70 4),o0 (ia 71 69 70 1),o0 (ld 72 71),o0 (mv 73 3),o0 (L,.bin 74 .shl (.c (.v (.sc (.dat (.int .u64 1))))) (S 73)),o0 (bn 75 .or 72 74),o0 (ia 76 69 70 1),(L,so 76 75 1)]) (.seq (.reg [mv 77 0,mv 78 0,(L,.nilc 79 (S 78)),fa 80 79 3,ld 81 80,mv 82 4,(L,.bslice 83 1 [.int .i64 0] 1 [(0,(S 82))]),(L,.app 84 1 8 (S 81) (S 83)),(L,.nilc 85 (S 77)),fa 86 85 3,so 86 84 1]) (.seq (.seq (.reg [mv 87 0,ca 88 366 [S 87]]) (.cond (S 88) (.seq (.reg [(L,.mv 2 (KB T))]) .ret) .skip)) (.seq (.reg [mv 89 0,mv 90 0,(L,.nilc 91 (S 90)),fa 92 91 3,ld 93 92,mv 94 3,(L,.slc 95 1 (S 93) L (H (S 94)) L),(L,.cut 95),(L,.nilc 96 (S 89)),fa 97 96 3,so 97 95 1]) (.drw [o0 (mv 98 0),o0 (L,.nilc 99 (S 98)),o0 (fa 100 99 2),o0 (ld 101 100),o0 (mv 102 4),o0 (ia 103 101 102 1),o0 (ld 104 103),o0 (mv 105 3),o0 (L,.bin 106 .shl (.c (.v (.sc (.dat (.int .u64 1))))) (S 105)),o0 (bn 107 .andNot 104 106),o0 (ia 108 101 102 1),(L,so 108 107 1)]))))) .skip)) C3c)
def C2v:X3:=(.reg [mv 32 4,(L,.bin 33 .add (S 32) (K 1)),mv 4 33])
def A8l:X3:= .seq (.reg [(L,.keep [0,3,4] [99999999999] [90000,90001])]) (.seq (.seq (.reg [mv 17 4,mv 18 0,(L,.nilc 19 (S 18)),fa 20 19 2,ld 21 20,ln 22 21,bn 23 .leq 17 22,mv 24 23,(H (24,T),.mv 25 (S 4)),(H (24,T),.mv 26 (S 0)),(H (24,T),.nilc 27 (S 26)),(H (24,T),.faddr 28 (S 27) 1),(H (24,T),.load 29 (S 28) G 1),(H (24,T),.bin 30 .lss (S 25) (S 29)),pa 31 24 30]) (.cond (S 31) .skip (.exit 0))) (.seq (.block 1 (.seq (.seq (.reg [mv 34 4,mv 35 0,(L,.nilc 36 (S 35)),fa 37 36 2,ld 38 37,ln 39 38,bn 40 .eql 34 39]) (.cond (S 40) (.reg [mv 41 0,mv 42 0,(L,.nilc 43 (S 42)),fa 44 43 2,ld 45 44,(L,.bslice 46 1 [.int .u64 0] 1 [(0,(.c (.v (.sc (.dat (.int .u64 0))))))]),(L,.app 47 1 8 (S 45) (S 46)),(L,.nilc 48 (S 41)),fa 49 48 2,so 49 47 1]) .skip)) D11)) C2v))
def A9r:X3:=(.seq (.reg [(L,.mv 2 (KB G))]) .ret)
def cc477:X3:=(.seq (.reg [(L,.mv 2 (KB G))]) (.seq (.reg [mv 5 0,(L,.nilc 6 (S 5)),fa 7 6 3,ld 8 7,ln 9 8,mv 3 9]) (.seq (.seq (.reg [mv 10 3,mv 11 0,(L,.nilc 12 (S 11)),fa 13 12 0,ld 14 13,ln 15 14,bn 16 .eql 10 15]) (.cond (S 16) (.seq (.reg [(L,.mv 2 (KB T))]) .ret) .skip)) (.seq (.seq (.reg [(L,.mv 4 (K 0))]) (.block 0 (.loop A8l))) A9r))))
theorem D9a(rec_:Xh→O (Q × Xh))(h_rec:∀(a0:Xh) zr,rec_ a0=H zr→FCz X 366 [.p] (K2 a0) (J8 a0) (K2 zr.2) (J8 zr.2) [.sc (.v (.bool zr.1))])(a0:Xh)(v2:P)(F4:P→(N P)→P→(N P)→(N P)→O (Q × Xh))(A0y:∀(v2:P) (v3:N P) (v4:P) (v5 v6:N P) zr,F4 v2 v3 v4 v5 v6=H zr→∀σ:St,σ.kept [0,3,4] [99999999999] [90000,90001]=⟨[(0,vc (.pb 99999999999 0)),(3,vc (aI (a0.who.length:P))),(4,vc (aI v2))],[(99999999999,[aL (W rU v3),aI v4,.own 90000,.own 90001])],[(90000,1,W rU v5),(90001,1,W rI v6)]⟩→go X (.code (.loop A8l):: [.blk 0,.code A9r]) (A87 [2] [.sc (.v (.bool zr.1))] (K2 zr.2) (J8 zr.2)) .normal (H σ))(v22:N P)(v23:P)(v24 v25:N P)(r:Q × Xh)(h:M7 rec_ a0 v2 F4 v22 v23 v24 v25=H r)(σ:St)(hσ:σ.kept [0,3,4] [99999999999] [90000,90001]=⟨[(0,vc (.pb 99999999999 0)),(3,vc (aI (a0.who.length:P))),(4,vc (aI v2))],[(99999999999,[aL (W rU v22),aI v23,.own 90000,.own 90001])],[(90000,1,W rU v24),(90001,1,W rI v25)]⟩):go X (.code C3c:: [.blk 1,.code C2v,.code (.loop A8l),.blk 0,.code A9r]) (A87 [2] [.sc (.v (.bool r.1))] (K2 r.2) (J8 r.2)) .normal (H σ):=by
 unfold M7 at h
 obtain⟨x26,h26,h⟩:=ob h
 have h26n:=H5 h26
 rcases ic h with ⟨h27,h⟩|⟨h27,h⟩
 ·obtain⟨p28,h28,h⟩:=ob h
  try simp only[hσ,h26,h26n,h27,C3c,A,B,C,E,F,J]
  refine A65 V V h28 (by rfl) ?_
  try simp only[h26,h26n,h27,A9r,A,B,C,E,F,J]
  cases h
  exact⟨⟨V,⟨⟩⟩,[90000,90001],by decide,by decide,V,V⟩
 ·try simp only[hσ,h26,h26n,h27,C3c,C2v,A,B,C,E,F,J]
  refine A0y _ _ _ _ _ _ h _ ?_
  try simp only[h26,h26n,h27,A,B,C,E,F,J,Y]
theorem D9s(rec_:Xh→O (Q × Xh))(h_rec:∀(a0:Xh) zr,rec_ a0=H zr→FCz X 366 [.p] (K2 a0) (J8 a0) (K2 zr.2) (J8 zr.2) [.sc (.v (.bool zr.1))])(a0:Xh)(v2:P)(v3:N P)(v4:P)(v6:N P)(F4:P→(N P)→P→(N P)→(N P)→O (Q × Xh))(A0y:∀(v2:P) (v3:N P) (v4:P) (v5 v6:N P) zr,F4 v2 v3 v4 v5 v6=H zr→∀σ:St,σ.kept [0,3,4] [99999999999] [90000,90001]=⟨[(0,vc (.pb 99999999999 0)),(3,vc (aI (a0.who.length:P))),(4,vc (aI v2))],[(99999999999,[aL (W rU v3),aI v4,.own 90000,.own 90001])],[(90000,1,W rU v5),(90001,1,W rI v6)]⟩→go X (.code (.loop A8l):: [.blk 0,.code A9r]) (A87 [2] [.sc (.v (.bool zr.1))] (K2 zr.2) (J8 zr.2)) .normal (H σ))(v11:N P)(r:Q × Xh)(h:Q0 rec_ a0 v2 v3 v4 v6 F4 v11=H r)(σ:St)(hσ:σ.kept [0,3,4] [99999999999] [90000,90001]=⟨[(0,vc (.pb 99999999999 0)),(3,vc (aI (a0.who.length:P))),(4,vc (aI v2))],[(99999999999,[aL (W rU v3),aI v4,.own 90000,.own 90001])],[(90000,1,W rU v11),(90001,1,W rI v6)]⟩):go X (.code D11:: [.blk 1,.code C2v,.code (.loop A8l),.blk 0,.code A9r]) (A87 [2] [.sc (.v (.bool r.1))] (K2 r.2) (J8 r.2)) .normal (H σ):=by
 unfold Q0 at h
 try simp only[hσ,D11,A,B,C,E,F,J]
 refine B2 V ?_
 obtain⟨x12,h12,h⟩:=ob h
 have h12n:=H5 h12
 obtain⟨x13,h13,h⟩:=ob h
 rcases ic h with ⟨h14,h⟩|⟨h14,h⟩
 ·try simp only[h12,h12n,h13,h14,A,B,C,E,F,J]
  refine B2 V ?_
  obtain⟨h15,h⟩:=Y6 h
  try simp only[h12,h12n,h13,h14,h15,A,B,C,E,F,J]
  refine A3e (row:=rU) (y:=(J7 .or .u64 x12 (A0x .u64 (1:P) (a0.who.length:P)))) V V h12n V V (by rfl) ?_
  try simp only[h12,h12n,h13,h14,h15,A,B,C,E,F,J]
  refine B2 V ?_
  try simp only[h12,h12n,h13,h14,h15,A,B,C,E,F,J]
  refine D3 (es:=W rI ([v2]:N P)) V V ?_
  obtain⟨h16,h⟩:=D4 h
  obtain⟨r17,h17,h⟩:=ob h
  try simp only[h12,h12n,h13,h14,h15,h16,A,B,C,E,F,J]
  refine A8d (h_rec _ _ h17) 99999999999 [90000,90001] rfl V V V (by decide) V V V ?_
  rcases ic h with ⟨h18,h⟩|⟨h18,h⟩
  ·try simp only[h12,h12n,h13,h14,h15,h16,h18,A,B,C,E,F,J]
   cases h
   exact⟨⟨V,⟨⟩⟩,[90000,90001],by decide,by decide,V,V⟩
  ·obtain⟨p19,h19,h⟩:=ob h
   try simp only[h12,h12n,h13,h14,h15,h16,h18,A,B,C,E,F,J]
   refine A65 V V h19 (by rfl) ?_
   try simp only[h12,h12n,h13,h14,h15,h16,h18,A,B,C,E,F,J]
   refine B2 V ?_
   obtain⟨x20,h20,h⟩:=ob h
   have h20n:=H5 h20
   obtain⟨h21,h⟩:=Y6 h
   try simp only[h12,h12n,h13,h14,h15,h16,h18,h20,h20n,h21,A,B,C,E,F,J]
   refine A3e (row:=rU) (y:=(J7 .andNot .u64 x20 (A0x .u64 (1:P) (a0.who.length:P)))) V V h20n V V (by rfl) ?_
   try simp only[h12,h12n,h13,h14,h15,h16,h18,h20,h20n,h21,A,B,C,E,F,J]
   refine B2 V ?_
   try simp only[h12,h12n,h13,h14,h15,h16,h18,h20,h20n,h21,A,B,C,E,F,J]
   refine D9a rec_ h_rec _ _ F4 A0y _ _ _ _ _ h _ ?_
   try simp only[h12,h12n,h13,h14,h15,h16,h18,h20,h20n,h21,A,B,C,E,F,J,Y]
 ·try simp only[h12,h12n,h13,h14,A,B,C,E,F,J]
  refine D9a rec_ h_rec _ _ F4 A0y _ _ _ _ _ h _ ?_
  try simp only[h12,h12n,h13,h14,A,B,C,E,F,J,Y]
theorem F3p(rec_:Xh→O (Q × Xh))(h_rec:∀(a0:Xh) zr,rec_ a0=H zr→FCz X 366 [.p] (K2 a0) (J8 a0) (K2 zr.2) (J8 zr.2) [.sc (.v (.bool zr.1))])(a0:Xh):∀(n:U) (v2:P) (v3:N P) (v4:P) (v5 v6:N P) (r:Q × Xh),F9 rec_ a0 n v2 v3 v4 v5 v6=H r→∀σ:St,σ.kept [0,3,4] [99999999999] [90000,90001]=⟨[(0,vc (.pb 99999999999 0)),(3,vc (aI (a0.who.length:P))),(4,vc (aI v2))],[(99999999999,[aL (W rU v3),aI v4,.own 90000,.own 90001])],[(90000,1,W rU v5),(90001,1,W rI v6)]⟩→go X (.code (.loop A8l):: [.blk 0,.code A9r]) (A87 [2] [.sc (.v (.bool r.1))] (K2 r.2) (J8 r.2)) .normal (H σ):=by
 intro n
 induction n with
 | zero=>intro _ _ _ _ _ r h; cases h
 | succ n ih=>
  intro v2 v3 v4 v5 v6 r h σ hσ
  rw[F9] at h
  refine B5 ?_
  rcases ic h with ⟨h7,h⟩|⟨h7,h⟩
  ·rcases ic h with ⟨h8,h⟩|⟨h8,h⟩
   ·rcases ic h with ⟨h9,h⟩|⟨h9,h⟩
    ·try simp only[hσ,h7,h8,h9,A8l,A,B,C,E,F,J]
     refine D3 (es:=W rU ([(0:P)]:N P)) V V ?_
     obtain⟨h10,h⟩:=D4 h
     try simp only[h7,h8,h9,h10,A,B,C,E,F,J]
     refine D9s rec_ h_rec _ _ _ _ _ (F9 rec_ a0 n) ih _ _ h _ ?_
     try simp only[h7,h8,h9,h10,A,B,C,E,F,J,Y]
    ·try simp only[hσ,h7,h8,h9,A8l,A,B,C,E,F,J]
     refine D9s rec_ h_rec _ _ _ _ _ (F9 rec_ a0 n) ih _ _ h _ ?_
     try simp only[h7,h8,h9,A,B,C,E,F,J,Y]
   ·try simp only[hσ,h7,h8,A8l,A9r,A,B,C,E,F,J]
    cases h
    exact⟨⟨V,⟨⟩⟩,[90000,90001],by decide,by decide,V,V⟩
  ·try simp only[hσ,h7,A8l,A9r,A,B,C,E,F,J]
   cases h
   exact⟨⟨V,⟨⟩⟩,[90000,90001],by decide,by decide,V,V⟩
theorem F31:A6 X 366=H (cc477.strip,[2],126):=by kernel_rfl
theorem B1u(rec_:Xh→O (Q × Xh))(a0:Xh)(r:Q × Xh)(h_rec:∀(a0:Xh) zr,rec_ a0=H zr→FCz X 366 [.p] (K2 a0) (J8 a0) (K2 zr.2) (J8 zr.2) [.sc (.v (.bool zr.1))])(h:W4 rec_ a0=H r):FCz X 366 [.p] (K2 a0) (J8 a0) (K2 r.2) (J8 r.2) [.sc (.v (.bool r.1))]:=by
 unfold W4 at h
 refine C49 (σ:=⟨[(0,vc (.pb 99999999999 0))],[(99999999999,[aL (W rU a0.sets),aI a0.most,.own 90000,.own 90001])],[(90000,1,W rU a0.groups),(90001,1,W rI a0.who)]⟩) A8 F31 V V V V ?_
 simp only[cc477]
 rcases ic h with ⟨h1,h⟩|⟨h1,h⟩
 ·try simp only[h1,A,B,C,E,F,J]
  cases h
  exact⟨⟨V,⟨⟩⟩,[90000,90001],by decide,by decide,V,V⟩
 ·try simp only[h1,A,B,C,E,F,J]
  refine F3p rec_ h_rec _ _ _ _ _ _ _ _ h _ ?_
  try simp only[h1,A,B,C,E,F,J,Y]
theorem B1y:∀(n:U) (a0:Xh) (r:Q × Xh),G1 n a0=H r→FCz X 366 [.p] (K2 a0) (J8 a0) (K2 r.2) (J8 r.2) [.sc (.v (.bool r.1))]:=by
 intro n
 induction n with
 | zero=>intro _ r h; cases h
 | succ n ih=>intro a0 r h; rw[G1] at h; exact B1u (G1 n) a0 r ih h
theorem B2r(a0:Xh)(r:Q × Xh)(h:A48 a0=H r):FCz X 366 [.p] (K2 a0) (J8 a0) (K2 r.2) (J8 r.2) [.sc (.v (.bool r.1))]:=B1y bigN a0 r h
/- 336:impl_LeastCover -/
def cc482:X3:=(.seq (.reg [(L,.mv 6 KN),(L,.mv 7 (K 0)),(L,.mv 8 (KB G))]) (.seq (.seq (.reg [mv 11 0,mv 12 1,mv 13 2,ca 14 363 [S 11,S 12,S 13],nt 15 14]) (.cond (S 15) (.seq (.reg [(L,.mv 6 KN),(L,.mv 7 (K 0)),(L,.mv 8 (KB G))]) .ret) .skip)) (.seq (.reg [mv 16 0,mv 17 1,mv 18 2,ca 19 364 [S 16,S 17,S 18],mv 9 19]) (.seq (.reg [mv 20 9,mv 21 9,ca 22 365 [S 21],(L,.build 23 [.nil,aI 0,.nil,.nil] [(0,1,(S 20)),(1,1,(S 22))]),bo 24 23,(L,.ownb 24 2 152704 1),(L,.ownb 24 3 152768 1),mv 10 24]) (.seq (.reg [mv 25 10,(L,.frz 1216),ca 26 366 [S 25]]) (.seq (.drw [o0 (mv 27 10),o0 (L,.nilc 28 (S 27)),o0 (fa 29 28 3),o0 (ld 30 29),o0 (mv 31 10),o0 (L,.nilc 32 (S 31)),o0 (fa 33 32 1),o0 (ld 34 33),o0 (mv 6 30),o0 (mv 7 34),o0 (L,.mv 8 (KB T))]) .ret))))))
theorem F3u:A6 X 336=H (cc482.strip,[6,7,8],35):=by kernel_rfl
theorem B5v(a0:P)(a1:N P)(a2:N Xd)(r:(N P) × P × Q)(h:U6 a0 a1 a2=H r):FC X 336 [.sc (.int .i64 a0),.sc (.sl (W rI a1)),.sc (.sl (W Xd.row a2))] [.sc (.o 1 (W rI r.1)),.sc (.v (.int .i64 r.2.1)),.sc (.v (.bool r.2.2))]:=by
 unfold U6 at h
 refine C9 A8 F3u V ?_
 simp only[cc482,A,B,C,E,F,J]
 obtain⟨r1,h1,h⟩:=ob h
 try simp only[A,B,C,E,F,J]
 refine A2 (B62 _ _ _ _ h1) V V (uf V) ?_
 rcases ic h with ⟨h2,h⟩|⟨h2,h⟩
 ·obtain⟨r3,h3,h⟩:=ob h
  try simp only[h2,A,B,C,E,F,J]
  refine A2 (B9k _ _ _ _ h3) V V (uf V) ?_
  obtain⟨r4,h4,h⟩:=ob h
  try simp only[h2,A,B,C,E,F,J]
  refine Q2 (B3k _ _ h4) V (Y4 V) V (uf V) ?_
  try simp only[h2,A,B,C,E,F,J]
  refine B3 V V V ?_
  try simp only[h2,A,B,C,E,F,J]
  refine A12 (cs':= [.own 1216,aI r4,.own 152704,.nil]) V V V V ?_
  try simp only[h2,A,B,C,E,F,J]
  refine A12 (cs':= [.own 1216,aI r4,.own 152704,.own 152768]) V V V V ?_
  try simp only[h2,A,B,C,E,F,J]
  refine Y7 V ?_
  obtain⟨r5,h5,h⟩:=ob h
  try simp only[h2,A,B,C,E,F,J]
  refine A8d (B2r _ _ h5) 24 [152704,152768] rfl V V V (by decide) V V V ?_
  try simp only[h2,A,B,C,E,F,J]
  refine B2 V ?_
  try simp only[h2,A,B,C,E,F,J]
  cases h
  trivial
 ·try simp only[h2,A,B,C,E,F,J]
  cases h
  trivial
/- 280:impl_coverFits -/
def cc484:X3:=(.seq (.reg [(L,.mv 8 (KB G))]) (.seq (.seq (.reg [mv 12 2,ln 13 12,mv 14 3,bn 15 .leq 13 14]) (.cond (S 15) (.seq (.reg [(L,.mv 8 (KB T))]) .ret) .skip)) (.seq (.reg [mv 17 0,mv 18 1,mv 19 2,ca 20 336 [S 17,S 18,S 19],mv 16 20,xt 21 16 0,xt 22 16 1,xt 23 16 2,mv 9 21,mv 10 22,mv 11 23]) (.seq (.reg [mv 24 10,mv 25 3,bn 26 .leq 24 25,mv 8 26]) .ret))))
theorem F07:A6 X 280=H (cc484.strip,[8],27):=by kernel_rfl
theorem B0c(a0:P)(a1:N P)(a2:N Xd)(a3:P)(r:Q)(h:A06 a0 a1 a2 a3=H r):FC X 280 [.sc (.int .i64 a0),.sc (.sl (W rI a1)),.sc (.sl (W Xd.row a2)),.sc (.int .i64 a3)] [.sc (.v (.bool r))]:=by
 unfold A06 at h
 refine C9 A8 F07 V ?_
 simp only[cc484,A,B,C,E,F,J]
 rcases ic h with ⟨h1,h⟩|⟨h1,h⟩
 ·try simp only[h1,A,B,C,E,F,J]
  cases h
  trivial
 ·obtain⟨r2,h2,h⟩:=ob h
  try simp only[h1,A,B,C,E,F,J]
  refine A2 (B5v _ _ _ _ h2) V V (uf V) ?_
  try simp only[h1,A,B,C,E,F,J]
  cases h
  trivial
/- 202:impl_crewFits -/
def C4k:X3:= .seq (.reg [(L,.keep [2,5,6,13,14,15] [2] [704,768])]) (.seq (.reg [bn 16 .lss 15 14]) (.seq (.cond (S 16) .skip (.exit 0)) (.seq (.block 1 (.seq (.reg [ia 17 13 15 4,lw 18 17 4,(L,.alloc 8 [aI 0,aI 0,aI 0,.nil]),so 8 18 4]) (.seq (.reg [mv 19 5,fa 20 8 3,ld 21 20,(L,.app 22 5 40 (S 19) (S 21)),mv 5 22]) (.seq (.reg [fa 23 8 3,ld 24 23,ln 25 24,(L,.bin 26 .gtr (S 25) (K 0))]) (.cond (S 26) (.drw [(H [42,43],mv 27 6),o0 (fa 28 2 3),o0 (lw 29 28 2),o0 (fa 30 8 3),o0 (ld 31 30),o0 (L,.iaddr 32 (S 31) (K 0) 5),o0 (lw 33 32 5),o0 (fa 34 8 3),o0 (ld 35 34),o0 (fa 36 8 3),o0 (ld 37 36),o0 (ln 38 37),o0 (L,.bin 39 .sub (S 38) (K 1)),o0 (ia 40 35 39 5),o0 (lw 41 40 5),o0 (ca 42 278 [S 29,S 33,S 41]),o0 (L,.bslice 43 4 [.int .i64 0,.int .i64 0,.int .i64 0,.int .i64 0] 1 [(0,(S 42))]),(L,(L,.app 44 4 32 (S 27) (S 43))),o0 (mv 6 44)]) .skip))))) (.reg [(L,.bin 45 .add (S 15) (K 1)),mv 15 45]))))
def C80:X3:=(.seq (.reg [fa 47 2 3,lw 48 47 2,fa 49 2 5,ld 50 49,mv 51 5,ca 52 279 [S 48,S 50,S 51],mv 46 52,xt 53 46 0,xt 54 46 1,mv 9 53,mv 10 54]) (.seq (.reg [mv 55 10,mv 56 55,(H (56,T),.faddr 57 (S 2) 8),(H (56,T),.faddr 58 (S 57) 3),(H (56,T),.load 59 (S 58) G 1),(H (56,T),.mv 60 (S 9)),(H (56,T),.faddr 61 (S 2) 8),(H (56,T),.faddr 62 (S 61) 0),(H (56,T),.load 63 (S 62) G 1),(H (56,T),.call 64 280 [(K 0),(S 59),(S 60),(S 63)]),pa 65 56 64,mv 66 65,(H (66,T),.faddr 67 (S 2) 8),(H (66,T),.faddr 68 (S 67) 2),(H (66,T),.load 69 (S 68) G 1),(H (66,T),.faddr 70 (S 2) 8),(H (66,T),.faddr 71 (S 70) 3),(H (66,T),.load 72 (S 71) G 1),(H (66,T),.mv 73 (S 6)),(H (66,T),.faddr 74 (S 2) 8),(H (66,T),.faddr 75 (S 74) 1),(H (66,T),.load 76 (S 75) G 1),(H (66,T),.call 77 280 [(S 69),(S 72),(S 73),(S 76)]),pa 78 66 77,mv 4 78]) .ret))
def cc488:X3:=(.seq (.reg [bo 2 0,(L,.mv 4 (KB G))]) (.seq (.reg [(L,.bslice 11 5 [.int .i64 0,.int .i64 0,.bool G,.int .i64 0,.int .i64 0] 0 []),(L,.bslice 12 4 [.int .i64 0,.int .i64 0,.int .i64 0,.int .i64 0] 0 []),mv 5 11,mv 6 12]) (.seq (.seq (.reg [mv 13 1,ln 14 13,(L,.mv 15 (K 0))]) (.block 0 (.loop C4k))) C80)))
theorem F1w(a1:N X0)(a0:X4):∀(n:U) (v1:P) (v2:N X5) (v3:N Xd) (r:Q),Q6 a1 a0 n v1 v2 v3=H r→∀σ:St,σ.kept [2,5,6,13,14,15] [2] [704,768]=⟨[(2,vc (.pb 2 0)),(5,vc (.own 704)),(6,vc (.own 768)),(13,vc (aL (W X0.row a1))),(14,vc (aI (a1.length:P))),(15,vc (aI v1))],[(2,(dm a0.row))],[(704,5,W X5.row v2),(768,4,W Xd.row v3)]⟩→go X (.code (.loop C4k):: [.blk 0,.code C80]) (Ret [4] [.sc (.v (.bool r))]) .normal (H σ):=by
 intro n
 induction n with
 | zero=>intro _ _ _ r h; cases h
 | succ n ih=>
  intro v1 v2 v3 r h σ hσ
  rw[Q6] at h
  refine B5 ?_
  rcases ic h with ⟨h4,h⟩|⟨h4,h⟩
  ·obtain⟨x5,h5,h⟩:=ob h
   try simp only[hσ,h4,h5,C4k,A,B,C,E,F,J]
   refine D1 V V ?_
   obtain⟨h6,h⟩:=D4 h
   rcases ic h with ⟨h7,h⟩|⟨h7,h⟩
   ·try simp only[h4,h5,h6,h7,A,B,C,E,F,J]
    refine B2 V ?_
    obtain⟨x8,h8,h⟩:=ob h
    obtain⟨x9,h9,h⟩:=ob h
    obtain⟨r10,h10,h⟩:=ob h
    try simp only[h4,h5,h6,h7,h8,h9,A,B,C,E,F,J]
    refine G3 (B6d _ _ _ _ h10) V V (uf V) ?_
    try simp only[h4,h5,h6,h7,h8,h9,A,B,C,E,F,J]
    refine D3 (es:=W Xd.row ([r10]:N Xd)) V V ?_
    obtain⟨h11,h⟩:=D4 h
    try simp only[h4,h5,h6,h7,h8,h9,h11,A,B,C,E,F,J]
    refine B2 V ?_
    try simp only[h4,h5,h6,h7,h8,h9,h11,A,B,C,E,F,J]
    refine ih _ _ _ _ h _ ?_
    try simp only[h4,h5,h6,h7,h8,h9,h11,A,B,C,E,F,J,Y]
   ·try simp only[h4,h5,h6,h7,A,B,C,E,F,J]
    refine ih _ _ _ _ h _ ?_
    try simp only[h4,h5,h6,h7,A,B,C,E,F,J,Y]
  ·obtain⟨r12,h12,h⟩:=ob h
   try simp only[hσ,h4,C4k,C80,A,B,C,E,F,J]
   refine Q2 (B6y _ _ _ _ h12) V (A5n V ⟨A39,V,⟨⟩⟩) V (uf V) ?_
   rcases ic h with ⟨h13,h⟩|⟨h13,h⟩
   ·obtain⟨r14,h14,h⟩:=ob h
    try simp only[h4,h13,A,B,C,E,F,J]
    refine Q2 (B0c _ _ _ _ _ h14) V (Y4 V) V (uf V) ?_
    rcases ic h with ⟨h15,h⟩|⟨h15,h⟩
    ·obtain⟨r16,h16,h⟩:=ob h
     try simp only[h4,h13,h15,A,B,C,E,F,J]
     refine Q2 (B0c _ _ _ _ _ h16) V (Y4 V) V (uf V) ?_
     try simp only[h4,h13,h15,A,B,C,E,F,J]
     cases h
     trivial
    ·try simp only[h4,h13,h15,A,B,C,E,F,J]
     cases h
     trivial
   ·try simp only[h4,h13,A,B,C,E,F,J]
    cases h
    trivial
theorem F0c:A6 X 202=H (cc488.strip,[4],79):=by kernel_rfl
theorem B7x(a0:X4)(a1:N X0)(r:Q)(h:S6 a0 a1=H r):FC X 202 [.ag (X4.row a0),.sc (.sl (W X0.row a1))] [.sc (.v (.bool r))]:=by
 unfold S6 at h
 refine C9 A8 F0c V ?_
 simp only[cc488,A,B,C,E,F,J]
 try simp only[A,B,C,E,F,J]
 refine B3 V V V ?_
 try simp only[A,B,C,E,F,J]
 refine D3 (es:=W X5.row ([]:N X5)) V V ?_
 try simp only[A,B,C,E,F,J]
 refine D3 (es:=W Xd.row ([]:N Xd)) V V ?_
 try simp only[A,B,C,E,F,J]
 refine F1w _ _ _ _ _ _ _ h _ ?_
 try simp only[A,B,C,E,F,J,Y]
/- 106:impl_fitsTo -/
def A08:N (N U × AItem):= [([],(L,.load 25 (S 3) T 12)),([],(L,.mv 26 (S 1))),([1],(L,.call 27 203 [(S 26)])),([],(L,.load 28 (S 5) T 4)),([3],(L,.bslice 29 4 [.int .i64 0,.int .i64 0,.int .i64 0,.sl []] 1 [(0,(S 28))])),([2,4,2],(L,.app 30 4 48 (S 27) (S 29))),([0,5,5],(L,.call 31 202 [(S 25),(S 30)])),([6,6,0,1,2,3,4,5,6],(L,.mv 6 (S 31)))]
def C33:X3:= .seq (.reg [(L,.keep [1,3,5,9,10,11] [3,5] [])]) (.seq (.reg [bn 12 .lss 11 10]) (.seq (.cond (S 12) .skip (.exit 0)) (.seq (.block 1 (.seq (.reg [ia 13 9 11 4,lw 14 13 4,(L,.alloc 8 [aI 0,aI 0,aI 0,.nil]),so 8 14 4]) (.seq (.reg [fa 15 3 3,lw 16 15 2,fa 17 3 6,lw 18 17 2,fa 19 8 3,ld 20 19,fa 21 5 3,ld 22 21,ca 23 201 [S 16,S 18,S 20,S 22]]) (.cond (S 23) (.seq (.reg [(L,.mv 6 (KB G))]) .ret) .skip)))) (.reg [(L,.bin 24 .add (S 11) (K 1)),mv 11 24]))))
def D1t:X3:=(.seq (.any A08) .ret)
def cc493:X3:=(.seq (.reg [bo 3 0,bo 5 2,(L,.mv 6 (KB G))]) (.seq (.seq (.reg [mv 9 1,ln 10 9,(L,.mv 11 (K 0))]) (.block 0 (.loop C33))) D1t))
abbrev E3(a1:N X0)(a0:X4)(a2:X0)(r9:Q)(wo2_:AV)(c0_ c1_:Q)(c2_ c3_:Q)(c4_ c5_:Q)(c6_ c7_:Q)(bx_:N (U × N AC))(rs_:Rows):St:=⟨[(1,vc (aL (W X0.row a1))),(3,vc (.pb 3 0)),(5,vc (.pb 5 0)),(25,bif c0_ then va (dm a0.row) else .undef),(26,bif c1_ then vc (aL (W X0.row a1)) else .undef),(27,bif c2_ then wo2_ else .undef),(28,bif c3_ then va (dm a2.row) else .undef),(29,bif c4_ then vc (.own 1856) else .undef),(30,bif c5_ then vc (.own 1728) else .undef),(31,bif c6_ then vc (aB r9) else .undef),(6,bif c7_ then vc (aB r9) else .undef)],bx_,rs_⟩
abbrev U8(a1:N X0)(a0:X4)(a2:X0)(r6:(N X0))(r9:Q):St:=(E3 a1 a0 a2 r9 (vc (.undef)) T T T T T T T T [(3,(dm a0.row)),(5,(dm a2.row))] [(1728,4,W X0.row (r6++([a2]:N X0))),(1856,4,W X0.row ([a2]:N X0))])
theorem F01(a1:N X0)(a0:X4)(a2:X0)(r6:(N X0))(r9:Q)(h6:J2 a1=H r6)(h7:(C5 r6.length ([a2]:N X0).length 48)=T)(h9:S6 a0 (r6++([a2]:N X0))=H r9):∀(f:U) (b0 b6 b7:Q),D8 X A08 (U8 a1 a0 a2 r6 r9) f [b0,T,T,T,T,T,b6,b7] (E3 a1 a0 a2 r9 (vc (.undef)) b0 T T T T T b6 b7 [(3,(dm a0.row)),(5,(dm a2.row))] [(1728,4,W X0.row (r6++([a2]:N X0))),(1856,4,W X0.row ([a2]:N X0))]):=by
 intro f
 induction f with
 | zero=>
  intro b0 b6 b7 h
  obtain rfl:b0=T:=Z.1 h b0 (by simp)
  obtain rfl:b6=T:=Z.1 h b6 (by simp)
  obtain rfl:b7=T:=Z.1 h b7 (by simp)
  rfl
 | succ f ih=>
  intro b0 b6 b7
  refine B1 ⟨?_,?_,?_,?_,?_,?_,?_,?_,⟨⟩⟩<;>try first | (intro h; cases h; done) | (intro h0 hw; obtain rfl:=hz h0 rfl; (try obtain rfl:=hq hw 0 rfl rfl); (try obtain rfl:=hq hw 6 rfl rfl); refine np ?_; simp only[E3,cdt,cdf,A1,A,B,C,E,F,J]; exact ih _ _ _)
  ·intro h0 hw
   obtain rfl:=hz h0 rfl
   obtain rfl:=hq hw 0 rfl rfl
   refine np ?_
   try simp only[E3,cdt,cdf,A1,A,B,C,E,F,J]
   refine Q2 (B7x _ _ _ h9) V (Y4 V) (by simp only[St.fresh,I,zA,N3]; simp[AV.cells,V1.cells,AC.uses]) (uf V) ?_
   try simp only[A1,A,B,C,E,F,J]
   exact ih T T b7
theorem D9f(a1:N X0)(a0:X4)(a2:X0)(r6:(N X0))(r9:Q)(h6:J2 a1=H r6)(h7:(C5 r6.length ([a2]:N X0).length 48)=T)(h9:S6 a0 (r6++([a2]:N X0))=H r9):∀(f:U) (b0:Q),D8 X A08 (U8 a1 a0 a2 r6 r9) f [b0,T,T,T,T,G,G,G] (E3 a1 a0 a2 r9 (vc (.own 1728)) b0 T T T T G G G [(3,(dm a0.row)),(5,(dm a2.row))] [(1728,4,W X0.row r6),(1856,4,W X0.row ([a2]:N X0))]):=by
 intro f
 induction f with
 | zero=>intro b0 h; simp at h
 | succ f ih=>
  intro b0
  refine B1 ⟨?_,?_,?_,?_,?_,?_,?_,?_,⟨⟩⟩<;>try first | (intro h; cases h; done) | (intro _ hw; simp at hw; done) | (intro h0 hw; obtain rfl:=hz h0 rfl; refine np ?_; simp only[E3,cdt,cdf,A1,A,B,C,E,F,J]; exact ih _)
  ·intro h0 hw
   refine np ?_
   try simp only[h7,E3,cdt,cdf,A1,A,B,C,E,F,J]
   exact F01 a1 a0 a2 r6 r9 h6 h7 h9 _ b0 G G
theorem F49(a1:N X0)(a0:X4)(a2:X0)(r6:(N X0))(r9:Q)(h6:J2 a1=H r6)(h7:(C5 r6.length ([a2]:N X0).length 48)=T)(h9:S6 a0 (r6++([a2]:N X0))=H r9):∀(f:U) (b0 b3:Q),D8 X A08 (U8 a1 a0 a2 r6 r9) f [b0,T,T,b3,G,G,G,G] (E3 a1 a0 a2 r9 (vc (.own 1728)) b0 T T b3 G G G G [(3,(dm a0.row)),(5,(dm a2.row))] [(1728,4,W X0.row r6)]):=by
 intro f
 induction f with
 | zero=>intro b0 b3 h; simp at h
 | succ f ih=>
  intro b0 b3
  refine B1 ⟨?_,?_,?_,?_,?_,?_,?_,?_,⟨⟩⟩<;>try first | (intro h; cases h; done) | (intro _ hw; simp at hw; done) | (intro h0 hw; obtain rfl:=hz h0 rfl; refine np ?_; simp only[E3,cdt,cdf,A1,A,B,C,E,F,J]; exact ih _ _)
  ·intro h0 hw
   obtain rfl:=hq hw 3 rfl rfl
   refine np ?_
   try simp only[E3,cdt,cdf,A1,A,B,C,E,F,J]
   refine D3 (es:=W X0.row ([a2]:N X0)) V (by simp only[St.fresh,I,zA,N3]; simp[AV.cells,V1.cells,AC.uses]) ?_
   try simp only[A1,A,B,C,E,F,J]
   exact D9f a1 a0 a2 r6 r9 h6 h7 h9 _ b0
theorem F2z(a1:N X0)(a0:X4)(a2:X0)(r6:(N X0))(r9:Q)(h6:J2 a1=H r6)(h7:(C5 r6.length ([a2]:N X0).length 48)=T)(h9:S6 a0 (r6++([a2]:N X0))=H r9):∀(f:U) (b0 b1:Q),D8 X A08 (U8 a1 a0 a2 r6 r9) f [b0,b1,G,T,T,G,G,G] (E3 a1 a0 a2 r9 (vc (.own 1728)) b0 b1 G T T G G G [(3,(dm a0.row)),(5,(dm a2.row))] [(1856,4,W X0.row ([a2]:N X0))]):=by
 intro f
 induction f with
 | zero=>intro b0 b1 h; simp at h
 | succ f ih=>
  intro b0 b1
  refine B1 ⟨?_,?_,?_,?_,?_,?_,?_,?_,⟨⟩⟩<;>try first | (intro h; cases h; done) | (intro _ hw; simp at hw; done) | (intro h0 hw; obtain rfl:=hz h0 rfl; refine np ?_; simp only[E3,cdt,cdf,A1,A,B,C,E,F,J]; exact ih _ _)
  ·intro h0 hw
   obtain rfl:=hq hw 1 rfl rfl
   refine⟨[],[(L,.keep [1,3,5,25,26,27,28,29,30,31,6] [3,5] [1728,1856])],V,V,?_⟩
   try simp only[E3,cdt,cdf,zC,zB,A1,A,B,C,E,F,J]
   refine A2 (A7y _ _ h6) V (by simp only[St.fresh,I,zA,N3]; simp[AV.cells,V1.cells,AC.uses]) (uf V) ?_
   try simp only[A1,A,B,C,E,F,J]
   exact D9f a1 a0 a2 r6 r9 h6 h7 h9 _ b0
theorem F5e(a1:N X0)(a0:X4)(a2:X0)(r6:(N X0))(r9:Q)(h6:J2 a1=H r6)(h7:(C5 r6.length ([a2]:N X0).length 48)=T)(h9:S6 a0 (r6++([a2]:N X0))=H r9):∀(f:U) (b0 b1 b3:Q),D8 X A08 (U8 a1 a0 a2 r6 r9) f [b0,b1,G,b3,G,G,G,G] (E3 a1 a0 a2 r9 (vc (.own 1728)) b0 b1 G b3 G G G G [(3,(dm a0.row)),(5,(dm a2.row))] []):=by
 intro f
 induction f with
 | zero=>intro b0 b1 b3 h; simp at h
 | succ f ih=>
  intro b0 b1 b3
  refine B1 ⟨?_,?_,?_,?_,?_,?_,?_,?_,⟨⟩⟩<;>try first | (intro _ hw; simp at hw; done) | (intro h0 hw; obtain rfl:=hz h0 rfl; refine np ?_; simp only[E3,cdt,cdf,A1,A,B,C,E,F,J]; exact ih _ _ _)
  ·intro h0 hw
   obtain rfl:=hq hw 1 rfl rfl
   refine np ?_
   try simp only[E3,cdt,cdf,A1,A,B,C,E,F,J]
   refine A2 (A7y _ _ h6) V (by simp only[St.fresh,I,zA,N3]; simp[AV.cells,V1.cells,AC.uses]) (uf V) ?_
   try simp only[A1,A,B,C,E,F,J]
   exact F49 a1 a0 a2 r6 r9 h6 h7 h9 _ b0 b3
  ·intro h0 hw
   obtain rfl:=hq hw 3 rfl rfl
   refine np ?_
   try simp only[E3,cdt,cdf,A1,A,B,C,E,F,J]
   refine D3 (es:=W X0.row ([a2]:N X0)) V (by simp only[St.fresh,I,zA,N3]; simp[AV.cells,V1.cells,AC.uses]) ?_
   try simp only[A1,A,B,C,E,F,J]
   exact F2z a1 a0 a2 r6 r9 h6 h7 h9 _ b0 b1
theorem F2w(a1:N X0)(a0:X4)(a2:X0):∀(n:U) (v1:P) (r:Q),A0m a1 a0 a2 n v1=H r→∀σ:St,σ.kept [1,3,5,9,10,11] [3,5] []=⟨[(1,vc (aL (W X0.row a1))),(3,vc (.pb 3 0)),(5,vc (.pb 5 0)),(9,vc (aL (W X0.row a1))),(10,vc (aI (a1.length:P))),(11,vc (aI v1))],[(3,(dm a0.row)),(5,(dm a2.row))],[]⟩→go X (.code (.loop C33):: [.blk 0,.code D1t]) (Ret [6] [.sc (.v (.bool r))]) .normal (H σ):=by
 intro n
 induction n with
 | zero=>intro _ r h; cases h
 | succ n ih=>
  intro v1 r h σ hσ
  rw[A0m] at h
  refine B5 ?_
  rcases ic h with ⟨h2,h⟩|⟨h2,h⟩
  ·obtain⟨x3,h3,h⟩:=ob h
   try simp only[hσ,h2,h3,C33,A,B,C,E,F,J]
   refine D1 V V ?_
   obtain⟨r4,h4,h⟩:=ob h
   try simp only[h2,h3,A,B,C,E,F,J]
   refine A2 (B91 _ _ _ _ _ h4) V V (uf V) ?_
   rcases ic h with ⟨h5,h⟩|⟨h5,h⟩
   ·try simp only[h2,h3,h5,A,B,C,E,F,J]
    cases h
    trivial
   ·try simp only[h2,h3,h5,A,B,C,E,F,J]
    refine ih _ _ h _ ?_
    try simp only[h2,h3,h5,A,B,C,E,F,J,Y]
  ·try simp only[hσ,h2,C33,D1t,A,B,C,E,F,J]
   obtain⟨r6,h6,h⟩:=ob h
   obtain⟨h7,h⟩:=D4 h
   obtain⟨r9,h9,h⟩:=ob h
   refine A2s (ks:= [1,3,5]) (bs:= [3,5]) (rs:= []) (τ:=(U8 a1 a0 a2 r6 r9)) V (F5e a1 a0 a2 r6 r9 h6 h7 h9 _ G G G) ?_
   simp only[U8,E3,cdt]
   try simp only[h2,h7,A,B,C,E,F,J]
   cases h
   trivial
theorem F38:A6 X 106=H (cc493.strip,[6],32):=by kernel_rfl
theorem B3c(a0:X4)(a1:N X0)(a2:X0)(r:Q)(h:A14 a0 a1 a2=H r):FC X 106 [.ag (X4.row a0),.sc (.sl (W X0.row a1)),.ag (X0.row a2)] [.sc (.v (.bool r))]:=by
 unfold A14 at h
 refine C9 A8 F38 V ?_
 simp only[cc493,A,B,C,E,F,J]
 try simp only[A,B,C,E,F,J]
 refine B3 V V V ?_
 try simp only[A,B,C,E,F,J]
 refine B3 V V V ?_
 try simp only[A,B,C,E,F,J]
 refine F2w _ _ _ _ _ _ h _ ?_
 try simp only[A,B,C,E,F,J,Y]
/- 179:impl_planner_search -/
def N5:N (N U × AItem):= [([],(L,.mv 40 (S 0))),([],(L,.mv 41 (S 0))),([],(L,.mv 42 (S 0))),([],(L,.mv 43 (S 0))),([3],(L,.nilc 44 (S 43))),([4],(L,.faddr 45 (S 44) 15)),([5],(L,.load 46 (S 45) G 1)),([6],(L,.call 47 121 [(S 46)])),([],(L,.load 48 (S 2) T 2)),([0,0,3,4,5,6,7],(L,.nilc 49 (S 40))),([9,0,3,4,5,6,7],(L,.faddr 50 (S 49) 16)),([10,7,7,0,3,4,5,6,7],(L,.store (S 50) (S 47) 1)),([1,0,1,3,4,5,6,7,8,9,10,11],(L,.nilc 51 (S 41))),([12,0,1,3,4,5,6,7,8,9,10,11],(L,.faddr 52 (S 51) 17)),([13,8,11,0,1,3,4,5,6,7,8,9,10,11],(L,.store (S 52) (S 48) 2)),([2,0,1,2,3,4,5,6,7,8,9,10,11,12,13,14],(L,.nilc 53 (S 42))),([15,0,1,2,3,4,5,6,7,8,9,10,11,12,13,14],(L,.faddr 54 (S 53) 19)),([16,14,0,1,2,3,4,5,6,7,8,9,10,11,12,13,14],(L,.store (S 54) (KB T) 1))]
def G0:N (N U × AItem):= [([],(L,.mv 79 (S 0))),([],(L,.mv 80 (S 0))),([],(L,.mv 81 (S 0))),([2],(L,.nilc 82 (S 81))),([3],(L,.faddr 83 (S 82) 14)),([4],(L,.load 84 (S 83) G 1)),([],(L,.load 85 (S 5) T 4)),([6],(L,.bslice 86 4 [.int .i64 0,.int .i64 0,.int .i64 0,.sl []] 1 [(0,(S 85))])),([5,7],(L,.app 87 4 48 (S 84) (S 86))),([],(L,.mv 88 (S 0))),([9],(L,.nilc 89 (S 88))),([10],(L,.faddr 90 (S 89) 15)),([11],(L,.load 91 (S 90) G 1)),([],(L,.mv 92 (S 4))),([13],(L,.bslice 93 1 [.int .i64 0] 1 [(0,(S 92))])),([12,14,8],(L,.app 94 1 8 (S 91) (S 93))),([0,0,2,3,4,5,6,7,8,12,15],(L,.nilc 95 (S 79))),([16,0,2,3,4,5,6,7,8,12,15],(L,.faddr 96 (S 95) 14)),([17,8,15,0,2,3,4,5,6,7,8,12,15],(L,.store (S 96) (S 87) 1)),([1,0,1,2,3,4,5,6,7,8,9,10,11,12,13,14,15,16,17,18],(L,.nilc 97 (S 80))),([19,0,1,2,3,4,5,6,7,8,9,10,11,12,13,14,15,16,17,18],(L,.faddr 98 (S 97) 15)),([20,15,18,0,1,2,3,4,5,6,7,8,9,10,11,12,13,14,15,16,17,18],(L,.store (S 98) (S 94) 1))]
def I8:N (N U × AItem):= [([],(L,.mv 101 (S 0))),([],(L,.mv 102 (S 0))),([],(L,.mv 103 (S 0))),([2],(L,.nilc 104 (S 103))),([3],(L,.faddr 105 (S 104) 14)),([4],(L,.load 106 (S 105) G 1)),([],(L,.mv 107 (S 3))),([5,6],(L,.slc 108 4 (S 106) L (H (S 107)) L)),([],(L,.mv 109 (S 0))),([8],(L,.nilc 110 (S 109))),([9],(L,.faddr 111 (S 110) 15)),([10],(L,.load 112 (S 111) G 1)),([],(L,.mv 113 (S 3))),([11,12],(L,.slc 114 1 (S 112) L (H (S 113)) L)),([0,0,2,3,4,5,6,7,11],(L,.nilc 115 (S 101))),([14,0,2,3,4,5,6,7,11],(L,.faddr 116 (S 115) 14)),([15,7,0,2,3,4,5,6,7,11],(L,.store (S 116) (S 108) 1)),([1,0,1,2,3,4,5,6,7,8,9,10,11,12,13,14,15,16],(L,.nilc 117 (S 102))),([17,0,1,2,3,4,5,6,7,8,9,10,11,12,13,14,15,16],(L,.faddr 118 (S 117) 15)),([18,13,16,0,1,2,3,4,5,6,7,8,9,10,11,12,13,14,15,16],(L,.store (S 118) (S 114) 1))]
def C2u:X3:= .seq (.reg [(L,.keep [0,3,61,62,63] [99999999999] [90000,90001,90002])]) (.seq (.reg [bn 64 .lss 63 62]) (.seq (.cond (S 64) .skip (.exit 0)) (.seq (.block 1 (.seq (.reg [mv 65 63,ia 66 61 63 4,lw 67 66 4,(L,.alloc 5 [aI 0,aI 0,aI 0,.nil]),mv 4 65,so 5 67 4]) (.seq (.seq (.drw [o0 (mv 68 0),o0 (L,.nilc 69 (S 68)),o0 (fa 70 69 0),o0 (lw 71 70 12),o0 (mv 72 0),o0 (L,.nilc 73 (S 72)),o0 (fa 74 73 14),o0 (ld 75 74),o0 (lw 76 5 4),o0 (ca 77 106 [S 71,S 75,S 76]),o0 (nt 78 77)]) (.cond (S 78) (.exit 1) .skip)) (.seq (.any G0) (.seq (.cal [mv 99 0] 100 179 [(S 99)]) (.any I8)))))) (.reg [(L,.bin 119 .add (S 63) (K 1)),mv 63 119]))))
def C3s:X3:= .seq (.reg [(L,.keep [0,2] [99999999999,2] [90000,90001,90002])]) (.seq (.reg [mv 28 0,(L,.nilc 29 (S 28)),fa 30 29 14,ld 31 30,ln 32 31,mv 3 32]) (.seq (.seq (.reg [mv 33 3,mv 34 0,(L,.nilc 35 (S 34)),fa 36 35 12,ld 37 36,ln 38 37,bn 39 .eql 33 38]) (.cond (S 39) (.seq (.any N5) .ret) .skip)) (.seq (.reg [mv 55 0,(L,.nilc 56 (S 55)),fa 57 56 12,ld 58 57,mv 59 3,ia 60 58 59 1,ld 61 60,ln 62 61,(L,.mv 63 (K 0))]) (.block 0 (.loop C2u)))))
def cc503:X3:=(.seq (.drw [(H [2],mv 6 0),(H [2],(L,.nilc 7 (S 6))),(H [2],fa 8 7 13),(H [2],ld 9 8),(H [2],mv 10 0),(H [2],(L,.nilc 11 (S 10))),(H [2],fa 12 11 14),(H [2],ld 13 12),(H [2],(L,.callv 14 (S 9) [(S 13)])),(H [14],(L,.alloc 2 [aI 0,aI 0])),(L,so 2 14 2)]) (.seq (.seq (.drw [o0 (mv 15 0),o0 (L,.nilc 16 (S 15)),o0 (fa 17 16 19),o0 (ld 18 17),o0 (mv 19 18),o0 (H (19,T),.load 20 (S 2) T 2),o0 (H (19,T),.mv 21 (S 0)),o0 (H (19,T),.nilc 22 (S 21)),o0 (H (19,T),.faddr 23 (S 22) 17),o0 (H (19,T),.load 24 (S 23) T 2),o0 (H (19,T),.call 25 265 [(S 20),(S 24)]),o0 (H (19,T),.un 26 .not (S 25)),o0 (pa 27 19 26)]) (.cond (S 27) .ret .skip)) C3s))
abbrev C8(r1:Xj)(c0_ c1_:Q)(c2_ c3_:Q)(c4_ c5_:Q)(c6_ c7_:Q)(c8_ c9_:Q)(c10_ c12_:Q)(c13_ c15_ c16_:Q)(bx_:N (U × N AC))(rs_:Rows):St:=⟨[(0,vc (.pb 99999999999 0)),(2,vc (.pb 2 0)),(40,bif c0_ then vc (.pb 99999999999 0) else .undef),(41,bif c1_ then vc (.pb 99999999999 0) else .undef),(42,bif c2_ then vc (.pb 99999999999 0) else .undef),(43,bif c3_ then vc (.pb 99999999999 0) else .undef),(44,bif c4_ then vc (.pb 99999999999 0) else .undef),(45,bif c5_ then vc (.pb 99999999999 15) else .undef),(46,bif c6_ then vc (.own 90001) else .undef),(47,bif c7_ then vc (.own 3008) else .undef),(48,bif c8_ then va [aI r1.i0,aI r1.i1] else .undef),(49,bif c9_ then vc (.pb 99999999999 0) else .undef),(50,bif c10_ then vc (.pb 99999999999 16) else .undef),(51,bif c12_ then vc (.pb 99999999999 0) else .undef),(52,bif c13_ then vc (.pb 99999999999 17) else .undef),(53,bif c15_ then vc (.pb 99999999999 0) else .undef),(54,bif c16_ then vc (.pb 99999999999 19) else .undef)],bx_,rs_⟩
abbrev K1(F_w0:FuncId)(caps_w0:N D)(a0:Xc)(r1:Xj)(r7:(N P)):St:=(C8 r1 T T T T T T T T T T T T T T T [(99999999999,(dm a0.h.row++ [aL (W (rL X0.row) a0.choices),.dat (.clo F_w0 caps_w0),.own 90000,.own 90001,.own 3008,aI r1.i0,aI r1.i1,aB T])),(2,[aI r1.i0,aI r1.i1])] [(90000,4,W X0.row a0.plan),(90001,1,W rI a0.choice),(90002,1,W rI a0.best),(3008,1,W rI r7)])
theorem F0v(F_w0:FuncId)(caps_w0:N D)(a0:Xc)(r1:Xj)(v5:Q)(r7:(N P))(h7:D0 a0.choice=H r7):∀(f:U) (b15:Q),D8 X N5 (K1 F_w0 caps_w0 a0 r1 r7) f [T,T,T,T,T,T,T,T,T,T,T,T,T,T,T,b15,T,T] (C8 r1 T T T T T T T T T T T T T b15 T [(99999999999,(dm a0.h.row++ [aL (W (rL X0.row) a0.choices),.dat (.clo F_w0 caps_w0),.own 90000,.own 90001,.own 3008,aI r1.i0,aI r1.i1,aB T])),(2,[aI r1.i0,aI r1.i1])] [(90000,4,W X0.row a0.plan),(90001,1,W rI a0.choice),(90002,1,W rI a0.best),(3008,1,W rI r7)]):=by
 intro f
 induction f with
 | zero=>
  intro b15 h
  obtain rfl:b15=T:=Z.1 h b15 (by simp)
  rfl
 | succ f ih=>
  intro b15
  refine B1 ⟨?_,?_,?_,?_,?_,?_,?_,?_,?_,?_,?_,?_,?_,?_,?_,?_,?_,?_,⟨⟩⟩<;>try first | (intro h; cases h; done) | (intro h0 hw; obtain rfl:=hz h0 rfl; refine np ?_; simp only[C8,cdt,cdf,A1,A,B,C,E,F,J]; exact ih _)
theorem F1o(F_w0:FuncId)(caps_w0:N D)(a0:Xc)(r1:Xj)(v5:Q)(r7:(N P))(h7:D0 a0.choice=H r7):∀(f:U) (b2 b12:Q) (b15 b16:Q),D8 X N5 (K1 F_w0 caps_w0 a0 r1 r7) f [T,T,b2,T,T,T,T,T,T,T,T,T,b12,T,T,b15,b16,G] (C8 r1 T T b2 T T T T T T T T b12 T b15 b16 [(99999999999,(dm a0.h.row++ [aL (W (rL X0.row) a0.choices),.dat (.clo F_w0 caps_w0),.own 90000,.own 90001,.own 3008,aI r1.i0,aI r1.i1,aB v5])),(2,[aI r1.i0,aI r1.i1])] [(90000,4,W X0.row a0.plan),(90001,1,W rI a0.choice),(90002,1,W rI a0.best),(3008,1,W rI r7)]):=by
 intro f
 induction f with
 | zero=>intro b2 b12 b15 b16 h; simp at h
 | succ f ih=>
  intro b2 b12 b15 b16
  refine B1 ⟨?_,?_,?_,?_,?_,?_,?_,?_,?_,?_,?_,?_,?_,?_,?_,?_,?_,?_,⟨⟩⟩<;>try first | (intro h; cases h; done) | (intro h0 hw; obtain rfl:=hz h0 rfl; (try obtain rfl:=hq hw 2 rfl rfl); (try obtain rfl:=hq hw 12 rfl rfl); (try obtain rfl:=hq hw 15 rfl rfl); refine np ?_; simp only[C8,cdt,cdf,A1,A,B,C,E,F,J]; exact ih _ _ _ _)
  ·intro h0 hw
   obtain rfl:=hq hw 2 rfl rfl
   obtain rfl:=hq hw 12 rfl rfl
   obtain rfl:=hq hw 16 rfl rfl
   refine np ?_
   try simp only[C8,cdt,cdf,A1,A,B,C,E,F,J]
   exact F0v F_w0 caps_w0 a0 r1 v5 r7 h7 _ b15
theorem E8u(F_w0:FuncId)(caps_w0:N D)(a0:Xc)(r1:Xj)(v5:Q)(r7:(N P))(h7:D0 a0.choice=H r7):∀(f:U) (b1 b2:Q) (b8 b9:Q) (b12 b13:Q),D8 X N5 (K1 F_w0 caps_w0 a0 r1 r7) f [T,b1,b2,T,T,T,T,T,b8,b9,T,T,b12,b13,G,G,G,G] (C8 r1 T b1 b2 T T T T T b8 b9 T b12 b13 G G [(99999999999,(dm a0.h.row++ [aL (W (rL X0.row) a0.choices),.dat (.clo F_w0 caps_w0),.own 90000,.own 90001,.own 3008,aI a0.least.i0,aI a0.least.i1,aB v5])),(2,[aI r1.i0,aI r1.i1])] [(90000,4,W X0.row a0.plan),(90001,1,W rI a0.choice),(90002,1,W rI a0.best),(3008,1,W rI r7)]):=by
 intro f
 induction f with
 | zero=>intro b1 b2 b8 b9 b12 b13 h; simp at h
 | succ f ih=>
  intro b1 b2 b8 b9 b12 b13
  refine B1 ⟨?_,?_,?_,?_,?_,?_,?_,?_,?_,?_,?_,?_,?_,?_,?_,?_,?_,?_,⟨⟩⟩<;>try first | (intro h; cases h; done) | (intro _ hw; simp at hw; done) | (intro h0 hw; obtain rfl:=hz h0 rfl; (try obtain rfl:=hq hw 1 rfl rfl); (try obtain rfl:=hq hw 8 rfl rfl); (try obtain rfl:=hq hw 9 rfl rfl); (try obtain rfl:=hq hw 12 rfl rfl); refine np ?_; simp only[C8,cdt,cdf,A1,A,B,C,E,F,J]; exact ih _ _ _ _ _ _)
  ·intro h0 hw
   obtain rfl:=hq hw 1 rfl rfl
   obtain rfl:=hq hw 8 rfl rfl
   obtain rfl:=hq hw 9 rfl rfl
   obtain rfl:=hq hw 13 rfl rfl
   refine np ?_
   try simp only[C8,cdt,cdf,A1,A,B,C,E,F,J]
   exact F1o F_w0 caps_w0 a0 r1 v5 r7 h7 _ b2 b12 G G
theorem F1v(F_w0:FuncId)(caps_w0:N D)(a0:Xc)(r1:Xj)(v5:Q)(r7:(N P))(h7:D0 a0.choice=H r7):∀(f:U) (b0 b1:Q) (b2 b3:Q) (b4 b5:Q) (b8 b9 b10:Q),D8 X N5 (K1 F_w0 caps_w0 a0 r1 r7) f [b0,b1,b2,b3,b4,b5,T,T,b8,b9,b10,G,G,G,G,G,G,G] (C8 r1 b0 b1 b2 b3 b4 b5 T T b8 b9 b10 G G G G [(99999999999,(dm a0.h.row++ [aL (W (rL X0.row) a0.choices),.dat (.clo F_w0 caps_w0),.own 90000,.own 90001,.own 90002,aI a0.least.i0,aI a0.least.i1,aB v5])),(2,[aI r1.i0,aI r1.i1])] [(90000,4,W X0.row a0.plan),(90001,1,W rI a0.choice),(90002,1,W rI a0.best),(3008,1,W rI r7)]):=by
 intro f
 induction f with
 | zero=>intro b0 b1 b2 b3 b4 b5 b8 b9 b10 h; simp at h
 | succ f ih=>
  intro b0 b1 b2 b3 b4 b5 b8 b9 b10
  refine B1 ⟨?_,?_,?_,?_,?_,?_,?_,?_,?_,?_,?_,?_,?_,?_,?_,?_,?_,?_,⟨⟩⟩<;>try first | (intro h; cases h; done) | (intro _ hw; simp at hw; done) | (intro h0 hw; obtain rfl:=hz h0 rfl; (try obtain rfl:=hq hw 0 rfl rfl); (try obtain rfl:=hq hw 3 rfl rfl); (try obtain rfl:=hq hw 4 rfl rfl); (try obtain rfl:=hq hw 5 rfl rfl); (try obtain rfl:=hq hw 9 rfl rfl); refine np ?_; simp only[C8,cdt,cdf,A1,A,B,C,E,F,J]; exact ih _ _ _ _ _ _ _ _ _)
  ·intro h0 hw
   obtain rfl:=hq hw 0 rfl rfl
   obtain rfl:=hq hw 3 rfl rfl
   obtain rfl:=hq hw 4 rfl rfl
   obtain rfl:=hq hw 5 rfl rfl
   obtain rfl:=hq hw 10 rfl rfl
   refine np ?_
   try simp only[C8,cdt,cdf,A1,A,B,C,E,F,J]
   exact E8u F_w0 caps_w0 a0 r1 v5 r7 h7 _ b1 b2 b8 b9 G G
theorem F4n(F_w0:FuncId)(caps_w0:N D)(a0:Xc)(r1:Xj)(v5:Q)(r7:(N P))(h7:D0 a0.choice=H r7):∀(f:U) (b0 b1:Q) (b2 b3:Q) (b4 b5:Q) (b6 b8:Q),D8 X N5 (K1 F_w0 caps_w0 a0 r1 r7) f [b0,b1,b2,b3,b4,b5,b6,G,b8,G,G,G,G,G,G,G,G,G] (C8 r1 b0 b1 b2 b3 b4 b5 b6 G b8 G G G G G G [(99999999999,(dm a0.h.row++ [aL (W (rL X0.row) a0.choices),.dat (.clo F_w0 caps_w0),.own 90000,.own 90001,.own 90002,aI a0.least.i0,aI a0.least.i1,aB v5])),(2,[aI r1.i0,aI r1.i1])] [(90000,4,W X0.row a0.plan),(90001,1,W rI a0.choice),(90002,1,W rI a0.best)]):=by
 intro f
 induction f with
 | zero=>intro b0 b1 b2 b3 b4 b5 b6 b8 h; simp at h
 | succ f ih=>
  intro b0 b1 b2 b3 b4 b5 b6 b8
  refine B1 ⟨?_,?_,?_,?_,?_,?_,?_,?_,?_,?_,?_,?_,?_,?_,?_,?_,?_,?_,⟨⟩⟩<;>try first | (intro _ hw; simp at hw; done) | (intro h0 hw; obtain rfl:=hz h0 rfl; (try obtain rfl:=hq hw 3 rfl rfl); (try obtain rfl:=hq hw 4 rfl rfl); (try obtain rfl:=hq hw 5 rfl rfl); refine np ?_; simp only[C8,cdt,cdf,A1,A,B,C,E,F,J]; exact ih _ _ _ _ _ _ _ _)
  ·intro h0 hw
   obtain rfl:=hq hw 6 rfl rfl
   refine np ?_
   try simp only[C8,cdt,cdf,A1,A,B,C,E,F,J]
   refine Q2 (A1c _ _ h7) V (A5n V ⟨A39,⟨⟩⟩) (by simp only[St.fresh,I,zA,N3]; simp[AV.cells,V1.cells,AC.uses]) (uf V) ?_
   try simp only[A1,A,B,C,E,F,J]
   exact F1v F_w0 caps_w0 a0 r1 v5 r7 h7 _ b0 b1 b2 b3 b4 b5 b8 G G
abbrev A5(a0:Xc)(x8:N X0)(v9:P)(x19:X0)(wo5_ wo12_:AV)(c0_ c1_:Q)(c2_ c3_:Q)(c4_ c5_:Q)(c6_ c7_:Q)(c8_ c9_:Q)(c10_ c11_:Q)(c12_ c13_:Q)(c14_ c15_:Q)(c16_ c17_:Q)(c19_ c20_:Q)(bx_:N (U × N AC))(rs_:Rows):St:=⟨[(0,vc (.pb 99999999999 0)),(3,vc (aI (a0.plan.length:P))),(4,vc (aI v9)),(5,vc (.pb 5 0)),(61,vc (aL (W X0.row x8))),(62,vc (aI (x8.length:P))),(63,vc (aI v9)),(79,bif c0_ then vc (.pb 99999999999 0) else .undef),(80,bif c1_ then vc (.pb 99999999999 0) else .undef),(81,bif c2_ then vc (.pb 99999999999 0) else .undef),(82,bif c3_ then vc (.pb 99999999999 0) else .undef),(83,bif c4_ then vc (.pb 99999999999 14) else .undef),(84,bif c5_ then wo5_ else .undef),(85,bif c6_ then va (dm x19.row) else .undef),(86,bif c7_ then vc (.own 5504) else .undef),(87,bif c8_ then vc (.own 90000) else .undef),(88,bif c9_ then vc (.pb 99999999999 0) else .undef),(89,bif c10_ then vc (.pb 99999999999 0) else .undef),(90,bif c11_ then vc (.pb 99999999999 15) else .undef),(91,bif c12_ then wo12_ else .undef),(92,bif c13_ then vc (aI v9) else .undef),(93,bif c14_ then vc (.own 5952) else .undef),(94,bif c15_ then vc (.own 90001) else .undef),(95,bif c16_ then vc (.pb 99999999999 0) else .undef),(96,bif c17_ then vc (.pb 99999999999 14) else .undef),(97,bif c19_ then vc (.pb 99999999999 0) else .undef),(98,bif c20_ then vc (.pb 99999999999 15) else .undef)],bx_,rs_⟩
abbrev E7(F_w0:FuncId)(caps_w0:N D)(a0:Xc)(x8:N X0)(v9:P)(v10:X4)(v11:N (N X0))(v12 v13:P)(v14:Q)(v15:N X0)(v16 v17:N P)(x19:X0):St:=(A5 a0 x8 v9 x19 (vc (.undef)) (vc (.undef)) T T T T T T T T T T T T T T T T T T T T [(99999999999,(dm v10.row++ [aL (W (rL X0.row) v11),.dat (.clo F_w0 caps_w0),.own 90000,.own 90001,.own 90002,aI v12,aI v13,aB v14])),(5,(dm x19.row))] [(90000,4,W X0.row (v15++([x19]:N X0))),(90001,1,W rI (v16++([v9]:N P))),(90002,1,W rI v17),(5504,4,W X0.row ([x19]:N X0)),(5952,1,W rI ([v9]:N P))])
theorem F0k(F_w0:FuncId)(caps_w0:N D)(a0:Xc)(x8:N X0)(v9:P)(v10:X4)(v11:N (N X0))(v12 v13:P)(v14:Q)(v15:N X0)(v16 v17:N P)(x19:X0)(h22:(C5 v15.length ([x19]:N X0).length 48)=T)(h23:(C5 v16.length ([v9]:N P).length 8)=T):∀(f:U) (b19:Q),D8 X G0 (E7 F_w0 caps_w0 a0 x8 v9 v10 v11 v12 v13 v14 v15 v16 v17 x19) f [T,T,T,T,T,T,T,T,T,T,T,T,T,T,T,T,T,T,T,b19,T,T] (A5 a0 x8 v9 x19 (vc (.undef)) (vc (.undef)) T T T T T T T T T T T T T T T T T T b19 T [(99999999999,(dm v10.row++ [aL (W (rL X0.row) v11),.dat (.clo F_w0 caps_w0),.own 90000,.own 90001,.own 90002,aI v12,aI v13,aB v14])),(5,(dm x19.row))] [(90000,4,W X0.row (v15++([x19]:N X0))),(90001,1,W rI (v16++([v9]:N P))),(90002,1,W rI v17),(5504,4,W X0.row ([x19]:N X0)),(5952,1,W rI ([v9]:N P))]):=by
 intro f
 induction f with
 | zero=>
  intro b19 h
  obtain rfl:b19=T:=Z.1 h b19 (by simp)
  rfl
 | succ f ih=>
  intro b19
  refine B1 ⟨?_,?_,?_,?_,?_,?_,?_,?_,?_,?_,?_,?_,?_,?_,?_,?_,?_,?_,?_,?_,?_,?_,⟨⟩⟩<;>try first | (intro h; cases h; done) | (intro h0 hw; obtain rfl:=hz h0 rfl; refine np ?_; simp only[A5,cdt,cdf,A1,A,B,C,E,F,J]; exact ih _)
theorem E84(F_w0:FuncId)(caps_w0:N D)(a0:Xc)(x8:N X0)(v9:P)(v10:X4)(v11:N (N X0))(v12 v13:P)(v14:Q)(v15:N X0)(v16 v17:N P)(x19:X0)(h22:(C5 v15.length ([x19]:N X0).length 48)=T)(h23:(C5 v16.length ([v9]:N P).length 8)=T):∀(f:U) (b1 b9:Q) (b10 b11:Q) (b16 b19 b20:Q),D8 X G0 (E7 F_w0 caps_w0 a0 x8 v9 v10 v11 v12 v13 v14 v15 v16 v17 x19) f [T,b1,T,T,T,T,T,T,T,b9,b10,b11,T,T,T,T,b16,T,T,b19,b20,G] (A5 a0 x8 v9 x19 (vc (.undef)) (vc (.undef)) T b1 T T T T T T T b9 b10 b11 T T T T b16 T b19 b20 [(99999999999,(dm v10.row++ [aL (W (rL X0.row) v11),.dat (.clo F_w0 caps_w0),.own 90000,.undef,.own 90002,aI v12,aI v13,aB v14])),(5,(dm x19.row))] [(90000,4,W X0.row (v15++([x19]:N X0))),(90001,1,W rI (v16++([v9]:N P))),(90002,1,W rI v17),(5504,4,W X0.row ([x19]:N X0)),(5952,1,W rI ([v9]:N P))]):=by
 intro f
 induction f with
 | zero=>intro b1 b9 b10 b11 b16 b19 b20 h; simp at h
 | succ f ih=>
  intro b1 b9 b10 b11 b16 b19 b20
  refine B1 ⟨?_,?_,?_,?_,?_,?_,?_,?_,?_,?_,?_,?_,?_,?_,?_,?_,?_,?_,?_,?_,?_,?_,⟨⟩⟩<;>try first | (intro h; cases h; done) | (intro h0 hw; obtain rfl:=hz h0 rfl; (try obtain rfl:=hq hw 1 rfl rfl); (try obtain rfl:=hq hw 9 rfl rfl); (try obtain rfl:=hq hw 10 rfl rfl); (try obtain rfl:=hq hw 11 rfl rfl); (try obtain rfl:=hq hw 16 rfl rfl); (try obtain rfl:=hq hw 19 rfl rfl); refine np ?_; simp only[A5,cdt,cdf,A1,A,B,C,E,F,J]; exact ih _ _ _ _ _ _ _)
  ·intro h0 hw
   obtain rfl:=hq hw 1 rfl rfl
   obtain rfl:=hq hw 9 rfl rfl
   obtain rfl:=hq hw 10 rfl rfl
   obtain rfl:=hq hw 11 rfl rfl
   obtain rfl:=hq hw 16 rfl rfl
   obtain rfl:=hq hw 20 rfl rfl
   refine np ?_
   try simp only[A5,cdt,cdf,A1,A,B,C,E,F,J]
   exact F0k F_w0 caps_w0 a0 x8 v9 v10 v11 v12 v13 v14 v15 v16 v17 x19 h22 h23 _ b19
theorem F2h(F_w0:FuncId)(caps_w0:N D)(a0:Xc)(x8:N X0)(v9:P)(v10:X4)(v11:N (N X0))(v12 v13:P)(v14:Q)(v15:N X0)(v16 v17:N P)(x19:X0)(h22:(C5 v15.length ([x19]:N X0).length 48)=T)(h23:(C5 v16.length ([v9]:N P).length 8)=T):∀(f:U) (b0 b1:Q) (b2 b3:Q) (b4 b9:Q) (b10 b11:Q) (b16 b17:Q),D8 X G0 (E7 F_w0 caps_w0 a0 x8 v9 v10 v11 v12 v13 v14 v15 v16 v17 x19) f [b0,b1,b2,b3,b4,T,T,T,T,b9,b10,b11,T,T,T,T,b16,b17,G,G,G,G] (A5 a0 x8 v9 x19 (vc (.undef)) (vc (.undef)) b0 b1 b2 b3 b4 T T T T b9 b10 b11 T T T T b16 b17 G G [(99999999999,(dm v10.row++ [aL (W (rL X0.row) v11),.dat (.clo F_w0 caps_w0),.undef,.undef,.own 90002,aI v12,aI v13,aB v14])),(5,(dm x19.row))] [(90000,4,W X0.row (v15++([x19]:N X0))),(90001,1,W rI (v16++([v9]:N P))),(90002,1,W rI v17),(5504,4,W X0.row ([x19]:N X0)),(5952,1,W rI ([v9]:N P))]):=by
 intro f
 induction f with
 | zero=>intro b0 b1 b2 b3 b4 b9 b10 b11 b16 b17 h; simp at h
 | succ f ih=>
  intro b0 b1 b2 b3 b4 b9 b10 b11 b16 b17
  refine B1 ⟨?_,?_,?_,?_,?_,?_,?_,?_,?_,?_,?_,?_,?_,?_,?_,?_,?_,?_,?_,?_,?_,?_,⟨⟩⟩<;>try first | (intro h; cases h; done) | (intro _ hw; simp at hw; done) | (intro h0 hw; obtain rfl:=hz h0 rfl; (try obtain rfl:=hq hw 0 rfl rfl); (try obtain rfl:=hq hw 2 rfl rfl); (try obtain rfl:=hq hw 3 rfl rfl); (try obtain rfl:=hq hw 4 rfl rfl); (try obtain rfl:=hq hw 9 rfl rfl); (try obtain rfl:=hq hw 10 rfl rfl); (try obtain rfl:=hq hw 16 rfl rfl); refine np ?_; simp only[A5,cdt,cdf,A1,A,B,C,E,F,J]; exact ih _ _ _ _ _ _ _ _ _ _)
  ·intro h0 hw
   obtain rfl:=hq hw 0 rfl rfl
   obtain rfl:=hq hw 2 rfl rfl
   obtain rfl:=hq hw 3 rfl rfl
   obtain rfl:=hq hw 4 rfl rfl
   obtain rfl:=hq hw 17 rfl rfl
   refine np ?_
   try simp only[A5,cdt,cdf,A1,A,B,C,E,F,J]
   exact E84 F_w0 caps_w0 a0 x8 v9 v10 v11 v12 v13 v14 v15 v16 v17 x19 h22 h23 _ b1 b9 b10 b11 b16 G G
theorem D9i(F_w0:FuncId)(caps_w0:N D)(a0:Xc)(x8:N X0)(v9:P)(v10:X4)(v11:N (N X0))(v12 v13:P)(v14:Q)(v15:N X0)(v16 v17:N P)(x19:X0)(h22:(C5 v15.length ([x19]:N X0).length 48)=T)(h23:(C5 v16.length ([v9]:N P).length 8)=T):∀(f:U) (b0 b1:Q) (b2 b3:Q) (b4 b9:Q) (b10 b11 b12:Q),D8 X G0 (E7 F_w0 caps_w0 a0 x8 v9 v10 v11 v12 v13 v14 v15 v16 v17 x19) f [b0,b1,b2,b3,b4,T,T,T,T,b9,b10,b11,b12,T,T,G,G,G,G,G,G,G] (A5 a0 x8 v9 x19 (vc (.undef)) (vc (.own 90001)) b0 b1 b2 b3 b4 T T T T b9 b10 b11 b12 T T G G G G G [(99999999999,(dm v10.row++ [aL (W (rL X0.row) v11),.dat (.clo F_w0 caps_w0),.undef,.own 90001,.own 90002,aI v12,aI v13,aB v14])),(5,(dm x19.row))] [(90000,4,W X0.row (v15++([x19]:N X0))),(90001,1,W rI v16),(90002,1,W rI v17),(5504,4,W X0.row ([x19]:N X0)),(5952,1,W rI ([v9]:N P))]):=by
 intro f
 induction f with
 | zero=>intro b0 b1 b2 b3 b4 b9 b10 b11 b12 h; simp at h
 | succ f ih=>
  intro b0 b1 b2 b3 b4 b9 b10 b11 b12
  refine B1 ⟨?_,?_,?_,?_,?_,?_,?_,?_,?_,?_,?_,?_,?_,?_,?_,?_,?_,?_,?_,?_,?_,?_,⟨⟩⟩<;>try first | (intro h; cases h; done) | (intro _ hw; simp at hw; done) | (intro h0 hw; obtain rfl:=hz h0 rfl; (try obtain rfl:=hq hw 2 rfl rfl); (try obtain rfl:=hq hw 3 rfl rfl); (try obtain rfl:=hq hw 9 rfl rfl); (try obtain rfl:=hq hw 10 rfl rfl); (try obtain rfl:=hq hw 11 rfl rfl); refine np ?_; simp only[A5,cdt,cdf,A1,A,B,C,E,F,J]; exact ih _ _ _ _ _ _ _ _ _)
  ·intro h0 hw
   obtain rfl:=hq hw 12 rfl rfl
   refine np ?_
   try simp only[h23,A5,cdt,cdf,A1,A,B,C,E,F,J]
   exact F2h F_w0 caps_w0 a0 x8 v9 v10 v11 v12 v13 v14 v15 v16 v17 x19 h22 h23 _ b0 b1 b2 b3 b4 b9 b10 b11 G G
theorem F2t(F_w0:FuncId)(caps_w0:N D)(a0:Xc)(x8:N X0)(v9:P)(v10:X4)(v11:N (N X0))(v12 v13:P)(v14:Q)(v15:N X0)(v16 v17:N P)(x19:X0)(h22:(C5 v15.length ([x19]:N X0).length 48)=T)(h23:(C5 v16.length ([v9]:N P).length 8)=T):∀(f:U) (b0 b1:Q) (b2 b3:Q) (b4 b9:Q) (b10 b11:Q) (b12 b13:Q),D8 X G0 (E7 F_w0 caps_w0 a0 x8 v9 v10 v11 v12 v13 v14 v15 v16 v17 x19) f [b0,b1,b2,b3,b4,T,T,T,T,b9,b10,b11,b12,b13,G,G,G,G,G,G,G,G] (A5 a0 x8 v9 x19 (vc (.undef)) (vc (.own 90001)) b0 b1 b2 b3 b4 T T T T b9 b10 b11 b12 b13 G G G G G G [(99999999999,(dm v10.row++ [aL (W (rL X0.row) v11),.dat (.clo F_w0 caps_w0),.undef,.own 90001,.own 90002,aI v12,aI v13,aB v14])),(5,(dm x19.row))] [(90000,4,W X0.row (v15++([x19]:N X0))),(90001,1,W rI v16),(90002,1,W rI v17),(5504,4,W X0.row ([x19]:N X0))]):=by
 intro f
 induction f with
 | zero=>intro b0 b1 b2 b3 b4 b9 b10 b11 b12 b13 h; simp at h
 | succ f ih=>
  intro b0 b1 b2 b3 b4 b9 b10 b11 b12 b13
  refine B1 ⟨?_,?_,?_,?_,?_,?_,?_,?_,?_,?_,?_,?_,?_,?_,?_,?_,?_,?_,?_,?_,?_,?_,⟨⟩⟩<;>try first | (intro h; cases h; done) | (intro _ hw; simp at hw; done) | (intro h0 hw; obtain rfl:=hz h0 rfl; (try obtain rfl:=hq hw 2 rfl rfl); (try obtain rfl:=hq hw 3 rfl rfl); (try obtain rfl:=hq hw 9 rfl rfl); (try obtain rfl:=hq hw 10 rfl rfl); (try obtain rfl:=hq hw 11 rfl rfl); refine np ?_; simp only[A5,cdt,cdf,A1,A,B,C,E,F,J]; exact ih _ _ _ _ _ _ _ _ _ _)
  ·intro h0 hw
   obtain rfl:=hq hw 13 rfl rfl
   refine np ?_
   try simp only[A5,cdt,cdf,A1,A,B,C,E,F,J]
   refine D3 (es:=W rI ([v9]:N P)) V (by simp only[St.fresh,I,zA,N3]; simp[AV.cells,V1.cells,AC.uses]) ?_
   try simp only[A1,A,B,C,E,F,J]
   exact D9i F_w0 caps_w0 a0 x8 v9 v10 v11 v12 v13 v14 v15 v16 v17 x19 h22 h23 _ b0 b1 b2 b3 b4 b9 b10 b11 b12
theorem D9j(F_w0:FuncId)(caps_w0:N D)(a0:Xc)(x8:N X0)(v9:P)(v10:X4)(v11:N (N X0))(v12 v13:P)(v14:Q)(v15:N X0)(v16 v17:N P)(x19:X0)(h22:(C5 v15.length ([x19]:N X0).length 48)=T)(h23:(C5 v16.length ([v9]:N P).length 8)=T):∀(f:U) (b0 b1:Q) (b2 b3:Q) (b4 b5:Q) (b9 b10:Q) (b11 b12:Q),D8 X G0 (E7 F_w0 caps_w0 a0 x8 v9 v10 v11 v12 v13 v14 v15 v16 v17 x19) f [b0,b1,b2,b3,b4,b5,T,T,G,b9,b10,b11,b12,T,T,G,G,G,G,G,G,G] (A5 a0 x8 v9 x19 (vc (.own 90000)) (vc (.own 90001)) b0 b1 b2 b3 b4 b5 T T G b9 b10 b11 b12 T T G G G G G [(99999999999,(dm v10.row++ [aL (W (rL X0.row) v11),.dat (.clo F_w0 caps_w0),.own 90000,.own 90001,.own 90002,aI v12,aI v13,aB v14])),(5,(dm x19.row))] [(90000,4,W X0.row v15),(90001,1,W rI v16),(90002,1,W rI v17),(5504,4,W X0.row ([x19]:N X0)),(5952,1,W rI ([v9]:N P))]):=by
 intro f
 induction f with
 | zero=>intro b0 b1 b2 b3 b4 b5 b9 b10 b11 b12 h; simp at h
 | succ f ih=>
  intro b0 b1 b2 b3 b4 b5 b9 b10 b11 b12
  refine B1 ⟨?_,?_,?_,?_,?_,?_,?_,?_,?_,?_,?_,?_,?_,?_,?_,?_,?_,?_,?_,?_,?_,?_,⟨⟩⟩<;>try first | (intro h; cases h; done) | (intro _ hw; simp at hw; done) | (intro h0 hw; obtain rfl:=hz h0 rfl; (try obtain rfl:=hq hw 2 rfl rfl); (try obtain rfl:=hq hw 3 rfl rfl); (try obtain rfl:=hq hw 4 rfl rfl); (try obtain rfl:=hq hw 9 rfl rfl); (try obtain rfl:=hq hw 10 rfl rfl); (try obtain rfl:=hq hw 11 rfl rfl); refine np ?_; simp only[A5,cdt,cdf,A1,A,B,C,E,F,J]; exact ih _ _ _ _ _ _ _ _ _ _)
  ·intro h0 hw
   obtain rfl:=hq hw 5 rfl rfl
   refine np ?_
   try simp only[h22,A5,cdt,cdf,A1,A,B,C,E,F,J]
   exact D9i F_w0 caps_w0 a0 x8 v9 v10 v11 v12 v13 v14 v15 v16 v17 x19 h22 h23 _ b0 b1 b2 b3 b4 b9 b10 b11 b12
theorem E9b(F_w0:FuncId)(caps_w0:N D)(a0:Xc)(x8:N X0)(v9:P)(v10:X4)(v11:N (N X0))(v12 v13:P)(v14:Q)(v15:N X0)(v16 v17:N P)(x19:X0)(h22:(C5 v15.length ([x19]:N X0).length 48)=T)(h23:(C5 v16.length ([v9]:N P).length 8)=T):∀(f:U) (b0 b1:Q) (b2 b3:Q) (b4 b5:Q) (b9 b10:Q) (b11 b12 b13:Q),D8 X G0 (E7 F_w0 caps_w0 a0 x8 v9 v10 v11 v12 v13 v14 v15 v16 v17 x19) f [b0,b1,b2,b3,b4,b5,T,T,G,b9,b10,b11,b12,b13,G,G,G,G,G,G,G,G] (A5 a0 x8 v9 x19 (vc (.own 90000)) (vc (.own 90001)) b0 b1 b2 b3 b4 b5 T T G b9 b10 b11 b12 b13 G G G G G G [(99999999999,(dm v10.row++ [aL (W (rL X0.row) v11),.dat (.clo F_w0 caps_w0),.own 90000,.own 90001,.own 90002,aI v12,aI v13,aB v14])),(5,(dm x19.row))] [(90000,4,W X0.row v15),(90001,1,W rI v16),(90002,1,W rI v17),(5504,4,W X0.row ([x19]:N X0))]):=by
 intro f
 induction f with
 | zero=>intro b0 b1 b2 b3 b4 b5 b9 b10 b11 b12 b13 h; simp at h
 | succ f ih=>
  intro b0 b1 b2 b3 b4 b5 b9 b10 b11 b12 b13
  refine B1 ⟨?_,?_,?_,?_,?_,?_,?_,?_,?_,?_,?_,?_,?_,?_,?_,?_,?_,?_,?_,?_,?_,?_,⟨⟩⟩<;>try first | (intro h; cases h; done) | (intro _ hw; simp at hw; done) | (intro h0 hw; obtain rfl:=hz h0 rfl; (try obtain rfl:=hq hw 2 rfl rfl); (try obtain rfl:=hq hw 3 rfl rfl); (try obtain rfl:=hq hw 4 rfl rfl); (try obtain rfl:=hq hw 9 rfl rfl); (try obtain rfl:=hq hw 10 rfl rfl); (try obtain rfl:=hq hw 11 rfl rfl); refine np ?_; simp only[A5,cdt,cdf,A1,A,B,C,E,F,J]; exact ih _ _ _ _ _ _ _ _ _ _ _)
  ·intro h0 hw
   obtain rfl:=hq hw 5 rfl rfl
   refine np ?_
   try simp only[h22,A5,cdt,cdf,A1,A,B,C,E,F,J]
   exact F2t F_w0 caps_w0 a0 x8 v9 v10 v11 v12 v13 v14 v15 v16 v17 x19 h22 h23 _ b0 b1 b2 b3 b4 b9 b10 b11 b12 b13
  ·intro h0 hw
   obtain rfl:=hq hw 13 rfl rfl
   refine np ?_
   try simp only[A5,cdt,cdf,A1,A,B,C,E,F,J]
   refine D3 (es:=W rI ([v9]:N P)) V (by simp only[St.fresh,I,zA,N3]; simp[AV.cells,V1.cells,AC.uses]) ?_
   try simp only[A1,A,B,C,E,F,J]
   exact D9j F_w0 caps_w0 a0 x8 v9 v10 v11 v12 v13 v14 v15 v16 v17 x19 h22 h23 _ b0 b1 b2 b3 b4 b5 b9 b10 b11 b12
theorem E9o(F_w0:FuncId)(caps_w0:N D)(a0:Xc)(x8:N X0)(v9:P)(v10:X4)(v11:N (N X0))(v12 v13:P)(v14:Q)(v15:N X0)(v16 v17:N P)(x19:X0)(h22:(C5 v15.length ([x19]:N X0).length 48)=T)(h23:(C5 v16.length ([v9]:N P).length 8)=T):∀(f:U) (b0 b1:Q) (b2 b3:Q) (b4 b5:Q) (b6 b9:Q) (b10 b11 b12:Q),D8 X G0 (E7 F_w0 caps_w0 a0 x8 v9 v10 v11 v12 v13 v14 v15 v16 v17 x19) f [b0,b1,b2,b3,b4,b5,b6,G,G,b9,b10,b11,b12,T,T,G,G,G,G,G,G,G] (A5 a0 x8 v9 x19 (vc (.own 90000)) (vc (.own 90001)) b0 b1 b2 b3 b4 b5 b6 G G b9 b10 b11 b12 T T G G G G G [(99999999999,(dm v10.row++ [aL (W (rL X0.row) v11),.dat (.clo F_w0 caps_w0),.own 90000,.own 90001,.own 90002,aI v12,aI v13,aB v14])),(5,(dm x19.row))] [(90000,4,W X0.row v15),(90001,1,W rI v16),(90002,1,W rI v17),(5952,1,W rI ([v9]:N P))]):=by
 intro f
 induction f with
 | zero=>intro b0 b1 b2 b3 b4 b5 b6 b9 b10 b11 b12 h; simp at h
 | succ f ih=>
  intro b0 b1 b2 b3 b4 b5 b6 b9 b10 b11 b12
  refine B1 ⟨?_,?_,?_,?_,?_,?_,?_,?_,?_,?_,?_,?_,?_,?_,?_,?_,?_,?_,?_,?_,?_,?_,⟨⟩⟩<;>try first | (intro h; cases h; done) | (intro _ hw; simp at hw; done) | (intro h0 hw; obtain rfl:=hz h0 rfl; (try obtain rfl:=hq hw 2 rfl rfl); (try obtain rfl:=hq hw 3 rfl rfl); (try obtain rfl:=hq hw 4 rfl rfl); (try obtain rfl:=hq hw 9 rfl rfl); (try obtain rfl:=hq hw 10 rfl rfl); (try obtain rfl:=hq hw 11 rfl rfl); refine np ?_; simp only[A5,cdt,cdf,A1,A,B,C,E,F,J]; exact ih _ _ _ _ _ _ _ _ _ _ _)
  ·intro h0 hw
   obtain rfl:=hq hw 6 rfl rfl
   refine⟨[],[(L,.keep [0,3,4,5,61,62,63,79,80,81,82,83,84,85,86,87,88,89,90,91,92,93,94,95,96,97,98] [99999999999,5] [90000,90001,90002,5504,5952])],V,V,?_⟩
   try simp only[A5,cdt,cdf,zC,zB,A1,A,B,C,E,F,J]
   refine D3 (es:=W X0.row ([x19]:N X0)) V (by simp only[St.fresh,I,zA,N3]; simp[AV.cells,V1.cells,AC.uses]) ?_
   try simp only[A1,A,B,C,E,F,J]
   exact D9j F_w0 caps_w0 a0 x8 v9 v10 v11 v12 v13 v14 v15 v16 v17 x19 h22 h23 _ b0 b1 b2 b3 b4 b5 b9 b10 b11 b12
theorem E94(F_w0:FuncId)(caps_w0:N D)(a0:Xc)(x8:N X0)(v9:P)(v10:X4)(v11:N (N X0))(v12 v13:P)(v14:Q)(v15:N X0)(v16 v17:N P)(x19:X0)(h22:(C5 v15.length ([x19]:N X0).length 48)=T)(h23:(C5 v16.length ([v9]:N P).length 8)=T):∀(f:U) (b0 b1:Q) (b2 b3:Q) (b4 b5:Q) (b6 b9:Q) (b10 b11:Q) (b12 b13:Q),D8 X G0 (E7 F_w0 caps_w0 a0 x8 v9 v10 v11 v12 v13 v14 v15 v16 v17 x19) f [b0,b1,b2,b3,b4,b5,b6,G,G,b9,b10,b11,b12,b13,G,G,G,G,G,G,G,G] (A5 a0 x8 v9 x19 (vc (.own 90000)) (vc (.own 90001)) b0 b1 b2 b3 b4 b5 b6 G G b9 b10 b11 b12 b13 G G G G G G [(99999999999,(dm v10.row++ [aL (W (rL X0.row) v11),.dat (.clo F_w0 caps_w0),.own 90000,.own 90001,.own 90002,aI v12,aI v13,aB v14])),(5,(dm x19.row))] [(90000,4,W X0.row v15),(90001,1,W rI v16),(90002,1,W rI v17)]):=by
 intro f
 induction f with
 | zero=>intro b0 b1 b2 b3 b4 b5 b6 b9 b10 b11 b12 b13 h; simp at h
 | succ f ih=>
  intro b0 b1 b2 b3 b4 b5 b6 b9 b10 b11 b12 b13
  refine B1 ⟨?_,?_,?_,?_,?_,?_,?_,?_,?_,?_,?_,?_,?_,?_,?_,?_,?_,?_,?_,?_,?_,?_,⟨⟩⟩<;>try first | (intro _ hw; simp at hw; done) | (intro h0 hw; obtain rfl:=hz h0 rfl; (try obtain rfl:=hq hw 2 rfl rfl); (try obtain rfl:=hq hw 3 rfl rfl); (try obtain rfl:=hq hw 4 rfl rfl); (try obtain rfl:=hq hw 9 rfl rfl); (try obtain rfl:=hq hw 10 rfl rfl); (try obtain rfl:=hq hw 11 rfl rfl); refine np ?_; simp only[A5,cdt,cdf,A1,A,B,C,E,F,J]; exact ih _ _ _ _ _ _ _ _ _ _ _ _)
  ·intro h0 hw
   obtain rfl:=hq hw 6 rfl rfl
   refine np ?_
   try simp only[A5,cdt,cdf,A1,A,B,C,E,F,J]
   refine D3 (es:=W X0.row ([x19]:N X0)) V (by simp only[St.fresh,I,zA,N3]; simp[AV.cells,V1.cells,AC.uses]) ?_
   try simp only[A1,A,B,C,E,F,J]
   exact E9b F_w0 caps_w0 a0 x8 v9 v10 v11 v12 v13 v14 v15 v16 v17 x19 h22 h23 _ b0 b1 b2 b3 b4 b5 b9 b10 b11 b12 b13
  ·intro h0 hw
   obtain rfl:=hq hw 13 rfl rfl
   refine np ?_
   try simp only[A5,cdt,cdf,A1,A,B,C,E,F,J]
   refine D3 (es:=W rI ([v9]:N P)) V (by simp only[St.fresh,I,zA,N3]; simp[AV.cells,V1.cells,AC.uses]) ?_
   try simp only[A1,A,B,C,E,F,J]
   exact E9o F_w0 caps_w0 a0 x8 v9 v10 v11 v12 v13 v14 v15 v16 v17 x19 h22 h23 _ b0 b1 b2 b3 b4 b5 b6 b9 b10 b11 b12
abbrev A9(a0:Xc)(x8:N X0)(v9:P)(wo5_ wo11_:AV)(c0_ c1_:Q)(c2_ c3_:Q)(c4_ c5_:Q)(c6_ c7_:Q)(c8_ c9_:Q)(c10_ c11_:Q)(c12_ c13_:Q)(c14_ c15_:Q)(c17_ c18_:Q)(bx_:N (U × N AC))(rs_:Rows):St:=⟨[(0,vc (.pb 99999999999 0)),(3,vc (aI (a0.plan.length:P))),(61,vc (aL (W X0.row x8))),(62,vc (aI (x8.length:P))),(63,vc (aI v9)),(101,bif c0_ then vc (.pb 99999999999 0) else .undef),(102,bif c1_ then vc (.pb 99999999999 0) else .undef),(103,bif c2_ then vc (.pb 99999999999 0) else .undef),(104,bif c3_ then vc (.pb 99999999999 0) else .undef),(105,bif c4_ then vc (.pb 99999999999 14) else .undef),(106,bif c5_ then wo5_ else .undef),(107,bif c6_ then vc (aI (a0.plan.length:P)) else .undef),(108,bif c7_ then vc (.own 90000) else .undef),(109,bif c8_ then vc (.pb 99999999999 0) else .undef),(110,bif c9_ then vc (.pb 99999999999 0) else .undef),(111,bif c10_ then vc (.pb 99999999999 15) else .undef),(112,bif c11_ then wo11_ else .undef),(113,bif c12_ then vc (aI (a0.plan.length:P)) else .undef),(114,bif c13_ then vc (.own 90001) else .undef),(115,bif c14_ then vc (.pb 99999999999 0) else .undef),(116,bif c15_ then vc (.pb 99999999999 14) else .undef),(117,bif c17_ then vc (.pb 99999999999 0) else .undef),(118,bif c18_ then vc (.pb 99999999999 15) else .undef)],bx_,rs_⟩
abbrev G8(F_w0:FuncId)(caps_w0:N D)(a0:Xc)(x8:N X0)(v9:P)(r24:Xc)(p25 p26:U × U):St:=(A9 a0 x8 v9 (vc (.undef)) (vc (.undef)) T T T T T T T T T T T T T T T T T T [(99999999999,(dm r24.h.row++ [aL (W (rL X0.row) r24.choices),.dat (.clo F_w0 caps_w0),.own 90000,.own 90001,.own 90002,aI r24.least.i0,aI r24.least.i1,aB r24.found]))] [(90000,4,W X0.row (r24.plan.take p25.2)),(90001,1,W rI (r24.choice.take p26.2)),(90002,1,W rI r24.best)])
theorem F4j(F_w0:FuncId)(caps_w0:N D)(a0:Xc)(x8:N X0)(v9:P)(r24:Xc)(p25 p26:U × U)(h25:bnd (r24.plan.length:P) (a0.plan.length:P) 0 r24.plan.length=H p25)(h26:bnd (r24.choice.length:P) (a0.plan.length:P) 0 r24.choice.length=H p26):∀(f:U) (b17:Q),D8 X I8 (G8 F_w0 caps_w0 a0 x8 v9 r24 p25 p26) f [T,T,T,T,T,T,T,T,T,T,T,T,T,T,T,T,T,b17,T,T] (A9 a0 x8 v9 (vc (.undef)) (vc (.undef)) T T T T T T T T T T T T T T T T b17 T [(99999999999,(dm r24.h.row++ [aL (W (rL X0.row) r24.choices),.dat (.clo F_w0 caps_w0),.own 90000,.own 90001,.own 90002,aI r24.least.i0,aI r24.least.i1,aB r24.found]))] [(90000,4,W X0.row (r24.plan.take p25.2)),(90001,1,W rI (r24.choice.take p26.2)),(90002,1,W rI r24.best)]):=by
 intro f
 induction f with
 | zero=>
  intro b17 h
  obtain rfl:b17=T:=Z.1 h b17 (by simp)
  rfl
 | succ f ih=>
  intro b17
  refine B1 ⟨?_,?_,?_,?_,?_,?_,?_,?_,?_,?_,?_,?_,?_,?_,?_,?_,?_,?_,?_,?_,⟨⟩⟩<;>try first | (intro h; cases h; done) | (intro h0 hw; obtain rfl:=hz h0 rfl; refine np ?_; simp only[A9,cdt,cdf,A1,A,B,C,E,F,J]; exact ih _)
theorem D88(F_w0:FuncId)(caps_w0:N D)(a0:Xc)(x8:N X0)(v9:P)(r24:Xc)(p25 p26:U × U)(h25:bnd (r24.plan.length:P) (a0.plan.length:P) 0 r24.plan.length=H p25)(h26:bnd (r24.choice.length:P) (a0.plan.length:P) 0 r24.choice.length=H p26):∀(f:U) (b1 b8:Q) (b9 b10:Q) (b14 b17 b18:Q),D8 X I8 (G8 F_w0 caps_w0 a0 x8 v9 r24 p25 p26) f [T,b1,T,T,T,T,T,T,b8,b9,b10,T,T,T,b14,T,T,b17,b18,G] (A9 a0 x8 v9 (vc (.undef)) (vc (.undef)) T b1 T T T T T T b8 b9 b10 T T T b14 T b17 b18 [(99999999999,(dm r24.h.row++ [aL (W (rL X0.row) r24.choices),.dat (.clo F_w0 caps_w0),.own 90000,.undef,.own 90002,aI r24.least.i0,aI r24.least.i1,aB r24.found]))] [(90000,4,W X0.row (r24.plan.take p25.2)),(90001,1,W rI (r24.choice.take p26.2)),(90002,1,W rI r24.best)]):=by
 intro f
 induction f with
 | zero=>intro b1 b8 b9 b10 b14 b17 b18 h; simp at h
 | succ f ih=>
  intro b1 b8 b9 b10 b14 b17 b18
  refine B1 ⟨?_,?_,?_,?_,?_,?_,?_,?_,?_,?_,?_,?_,?_,?_,?_,?_,?_,?_,?_,?_,⟨⟩⟩<;>try first | (intro h; cases h; done) | (intro h0 hw; obtain rfl:=hz h0 rfl; (try obtain rfl:=hq hw 1 rfl rfl); (try obtain rfl:=hq hw 8 rfl rfl); (try obtain rfl:=hq hw 9 rfl rfl); (try obtain rfl:=hq hw 10 rfl rfl); (try obtain rfl:=hq hw 14 rfl rfl); (try obtain rfl:=hq hw 17 rfl rfl); refine np ?_; simp only[A9,cdt,cdf,A1,A,B,C,E,F,J]; exact ih _ _ _ _ _ _ _)
  ·intro h0 hw
   obtain rfl:=hq hw 1 rfl rfl
   obtain rfl:=hq hw 8 rfl rfl
   obtain rfl:=hq hw 9 rfl rfl
   obtain rfl:=hq hw 10 rfl rfl
   obtain rfl:=hq hw 14 rfl rfl
   obtain rfl:=hq hw 18 rfl rfl
   refine np ?_
   try simp only[A9,cdt,cdf,A1,A,B,C,E,F,J]
   exact F4j F_w0 caps_w0 a0 x8 v9 r24 p25 p26 h25 h26 _ b17
theorem D9m(F_w0:FuncId)(caps_w0:N D)(a0:Xc)(x8:N X0)(v9:P)(r24:Xc)(p25 p26:U × U)(h25:bnd (r24.plan.length:P) (a0.plan.length:P) 0 r24.plan.length=H p25)(h26:bnd (r24.choice.length:P) (a0.plan.length:P) 0 r24.choice.length=H p26):∀(f:U) (b0 b1:Q) (b2 b3:Q) (b4 b8:Q) (b9 b10:Q) (b14 b15:Q),D8 X I8 (G8 F_w0 caps_w0 a0 x8 v9 r24 p25 p26) f [b0,b1,b2,b3,b4,T,T,T,b8,b9,b10,T,T,T,b14,b15,G,G,G,G] (A9 a0 x8 v9 (vc (.undef)) (vc (.undef)) b0 b1 b2 b3 b4 T T T b8 b9 b10 T T T b14 b15 G G [(99999999999,(dm r24.h.row++ [aL (W (rL X0.row) r24.choices),.dat (.clo F_w0 caps_w0),.undef,.undef,.own 90002,aI r24.least.i0,aI r24.least.i1,aB r24.found]))] [(90000,4,W X0.row (r24.plan.take p25.2)),(90001,1,W rI (r24.choice.take p26.2)),(90002,1,W rI r24.best)]):=by
 intro f
 induction f with
 | zero=>intro b0 b1 b2 b3 b4 b8 b9 b10 b14 b15 h; simp at h
 | succ f ih=>
  intro b0 b1 b2 b3 b4 b8 b9 b10 b14 b15
  refine B1 ⟨?_,?_,?_,?_,?_,?_,?_,?_,?_,?_,?_,?_,?_,?_,?_,?_,?_,?_,?_,?_,⟨⟩⟩<;>try first | (intro h; cases h; done) | (intro _ hw; simp at hw; done) | (intro h0 hw; obtain rfl:=hz h0 rfl; (try obtain rfl:=hq hw 0 rfl rfl); (try obtain rfl:=hq hw 2 rfl rfl); (try obtain rfl:=hq hw 3 rfl rfl); (try obtain rfl:=hq hw 4 rfl rfl); (try obtain rfl:=hq hw 8 rfl rfl); (try obtain rfl:=hq hw 9 rfl rfl); (try obtain rfl:=hq hw 14 rfl rfl); refine np ?_; simp only[A9,cdt,cdf,A1,A,B,C,E,F,J]; exact ih _ _ _ _ _ _ _ _ _ _)
  ·intro h0 hw
   obtain rfl:=hq hw 0 rfl rfl
   obtain rfl:=hq hw 2 rfl rfl
   obtain rfl:=hq hw 3 rfl rfl
   obtain rfl:=hq hw 4 rfl rfl
   obtain rfl:=hq hw 15 rfl rfl
   refine np ?_
   try simp only[A9,cdt,cdf,A1,A,B,C,E,F,J]
   exact D88 F_w0 caps_w0 a0 x8 v9 r24 p25 p26 h25 h26 _ b1 b8 b9 b10 b14 G G
theorem F5h(F_w0:FuncId)(caps_w0:N D)(a0:Xc)(x8:N X0)(v9:P)(r24:Xc)(p25 p26:U × U)(h25:bnd (r24.plan.length:P) (a0.plan.length:P) 0 r24.plan.length=H p25)(h26:bnd (r24.choice.length:P) (a0.plan.length:P) 0 r24.choice.length=H p26):∀(f:U) (b1 b8:Q) (b9 b10:Q) (b12 b14:Q),D8 X I8 (G8 F_w0 caps_w0 a0 x8 v9 r24 p25 p26) f [T,b1,T,T,T,T,T,T,b8,b9,b10,T,b12,G,b14,T,T,G,G,G] (A9 a0 x8 v9 (vc (.undef)) (vc (.own 90001)) T b1 T T T T T T b8 b9 b10 T b12 G b14 T G G [(99999999999,(dm r24.h.row++ [aL (W (rL X0.row) r24.choices),.dat (.clo F_w0 caps_w0),.own 90000,.own 90001,.own 90002,aI r24.least.i0,aI r24.least.i1,aB r24.found]))] [(90000,4,W X0.row (r24.plan.take p25.2)),(90001,1,W rI r24.choice),(90002,1,W rI r24.best)]):=by
 intro f
 induction f with
 | zero=>intro b1 b8 b9 b10 b12 b14 h; simp at h
 | succ f ih=>
  intro b1 b8 b9 b10 b12 b14
  refine B1 ⟨?_,?_,?_,?_,?_,?_,?_,?_,?_,?_,?_,?_,?_,?_,?_,?_,?_,?_,?_,?_,⟨⟩⟩<;>try first | (intro h; cases h; done) | (intro _ hw; simp at hw; done) | (intro h0 hw; obtain rfl:=hz h0 rfl; (try obtain rfl:=hq hw 8 rfl rfl); (try obtain rfl:=hq hw 9 rfl rfl); refine np ?_; simp only[A9,cdt,cdf,A1,A,B,C,E,F,J]; exact ih _ _ _ _ _ _)
  ·intro h0 hw
   obtain rfl:=hq hw 12 rfl rfl
   refine⟨[],[(L,.cut 114)],V,V,?_⟩
   try simp only[A9,cdt,cdf,zC,zB,A1,A,B,C,E,F,J]
   refine A65 V V h26 (by rfl) ?_
   try simp only[A1,A,B,C,E,F,J]
   exact D88 F_w0 caps_w0 a0 x8 v9 r24 p25 p26 h25 h26 _ b1 b8 b9 b10 b14 G G
theorem F29(F_w0:FuncId)(caps_w0:N D)(a0:Xc)(x8:N X0)(v9:P)(r24:Xc)(p25 p26:U × U)(h25:bnd (r24.plan.length:P) (a0.plan.length:P) 0 r24.plan.length=H p25)(h26:bnd (r24.choice.length:P) (a0.plan.length:P) 0 r24.choice.length=H p26):∀(f:U) (b0 b1:Q) (b2 b3:Q) (b4 b8:Q) (b9 b10:Q) (b11 b12:Q) (b14 b15:Q),D8 X I8 (G8 F_w0 caps_w0 a0 x8 v9 r24 p25 p26) f [b0,b1,b2,b3,b4,T,T,T,b8,b9,b10,b11,b12,G,b14,b15,G,G,G,G] (A9 a0 x8 v9 (vc (.undef)) (vc (.own 90001)) b0 b1 b2 b3 b4 T T T b8 b9 b10 b11 b12 G b14 b15 G G [(99999999999,(dm r24.h.row++ [aL (W (rL X0.row) r24.choices),.dat (.clo F_w0 caps_w0),.undef,.own 90001,.own 90002,aI r24.least.i0,aI r24.least.i1,aB r24.found]))] [(90000,4,W X0.row (r24.plan.take p25.2)),(90001,1,W rI r24.choice),(90002,1,W rI r24.best)]):=by
 intro f
 induction f with
 | zero=>intro b0 b1 b2 b3 b4 b8 b9 b10 b11 b12 b14 b15 h; simp at h
 | succ f ih=>
  intro b0 b1 b2 b3 b4 b8 b9 b10 b11 b12 b14 b15
  refine B1 ⟨?_,?_,?_,?_,?_,?_,?_,?_,?_,?_,?_,?_,?_,?_,?_,?_,?_,?_,?_,?_,⟨⟩⟩<;>try first | (intro h; cases h; done) | (intro _ hw; simp at hw; done) | (intro h0 hw; obtain rfl:=hz h0 rfl; (try obtain rfl:=hq hw 0 rfl rfl); (try obtain rfl:=hq hw 2 rfl rfl); (try obtain rfl:=hq hw 3 rfl rfl); (try obtain rfl:=hq hw 4 rfl rfl); (try obtain rfl:=hq hw 8 rfl rfl); (try obtain rfl:=hq hw 9 rfl rfl); (try obtain rfl:=hq hw 10 rfl rfl); (try obtain rfl:=hq hw 11 rfl rfl); (try obtain rfl:=hq hw 14 rfl rfl); refine np ?_; simp only[A9,cdt,cdf,A1,A,B,C,E,F,J]; exact ih _ _ _ _ _ _ _ _ _ _ _ _)
  ·intro h0 hw
   obtain rfl:=hq hw 11 rfl rfl
   obtain rfl:=hq hw 12 rfl rfl
   refine⟨[],[(L,.cut 114)],V,V,?_⟩
   try simp only[A9,cdt,cdf,zC,zB,A1,A,B,C,E,F,J]
   refine A65 V V h26 (by rfl) ?_
   try simp only[A1,A,B,C,E,F,J]
   exact D9m F_w0 caps_w0 a0 x8 v9 r24 p25 p26 h25 h26 _ b0 b1 b2 b3 b4 b8 b9 b10 b14 b15
  ·intro h0 hw
   obtain rfl:=hq hw 0 rfl rfl
   obtain rfl:=hq hw 2 rfl rfl
   obtain rfl:=hq hw 3 rfl rfl
   obtain rfl:=hq hw 4 rfl rfl
   obtain rfl:=hq hw 11 rfl rfl
   obtain rfl:=hq hw 15 rfl rfl
   refine np ?_
   try simp only[A9,cdt,cdf,A1,A,B,C,E,F,J]
   exact F5h F_w0 caps_w0 a0 x8 v9 r24 p25 p26 h25 h26 _ b1 b8 b9 b10 b12 b14
theorem F4s(F_w0:FuncId)(caps_w0:N D)(a0:Xc)(x8:N X0)(v9:P)(r24:Xc)(p25 p26:U × U)(h25:bnd (r24.plan.length:P) (a0.plan.length:P) 0 r24.plan.length=H p25)(h26:bnd (r24.choice.length:P) (a0.plan.length:P) 0 r24.choice.length=H p26):∀(f:U) (b0 b1:Q) (b2 b3:Q) (b4 b5:Q) (b6 b8:Q) (b9 b10:Q),D8 X I8 (G8 F_w0 caps_w0 a0 x8 v9 r24 p25 p26) f [b0,b1,b2,b3,b4,b5,b6,G,b8,b9,b10,T,T,T,G,G,G,G,G,G] (A9 a0 x8 v9 (vc (.own 90000)) (vc (.undef)) b0 b1 b2 b3 b4 b5 b6 G b8 b9 b10 T T T G G G G [(99999999999,(dm r24.h.row++ [aL (W (rL X0.row) r24.choices),.dat (.clo F_w0 caps_w0),.own 90000,.undef,.own 90002,aI r24.least.i0,aI r24.least.i1,aB r24.found]))] [(90000,4,W X0.row r24.plan),(90001,1,W rI (r24.choice.take p26.2)),(90002,1,W rI r24.best)]):=by
 intro f
 induction f with
 | zero=>intro b0 b1 b2 b3 b4 b5 b6 b8 b9 b10 h; simp at h
 | succ f ih=>
  intro b0 b1 b2 b3 b4 b5 b6 b8 b9 b10
  refine B1 ⟨?_,?_,?_,?_,?_,?_,?_,?_,?_,?_,?_,?_,?_,?_,?_,?_,?_,?_,?_,?_,⟨⟩⟩<;>try first | (intro h; cases h; done) | (intro _ hw; simp at hw; done) | (intro h0 hw; obtain rfl:=hz h0 rfl; (try obtain rfl:=hq hw 2 rfl rfl); (try obtain rfl:=hq hw 3 rfl rfl); (try obtain rfl:=hq hw 4 rfl rfl); (try obtain rfl:=hq hw 8 rfl rfl); (try obtain rfl:=hq hw 9 rfl rfl); refine np ?_; simp only[A9,cdt,cdf,A1,A,B,C,E,F,J]; exact ih _ _ _ _ _ _ _ _ _ _)
  ·intro h0 hw
   obtain rfl:=hq hw 5 rfl rfl
   obtain rfl:=hq hw 6 rfl rfl
   refine⟨[],[(L,.cut 108)],V,V,?_⟩
   try simp only[A9,cdt,cdf,zC,zB,A1,A,B,C,E,F,J]
   refine A65 V V h25 (by rfl) ?_
   try simp only[A1,A,B,C,E,F,J]
   exact D9m F_w0 caps_w0 a0 x8 v9 r24 p25 p26 h25 h26 _ b0 b1 b2 b3 b4 b8 b9 b10 G G
theorem F3x(F_w0:FuncId)(caps_w0:N D)(a0:Xc)(x8:N X0)(v9:P)(r24:Xc)(p25 p26:U × U)(h25:bnd (r24.plan.length:P) (a0.plan.length:P) 0 r24.plan.length=H p25)(h26:bnd (r24.choice.length:P) (a0.plan.length:P) 0 r24.choice.length=H p26):∀(f:U) (b0 b1:Q) (b2 b3:Q) (b4 b5:Q) (b6 b8:Q) (b9 b10:Q) (b11 b12:Q),D8 X I8 (G8 F_w0 caps_w0 a0 x8 v9 r24 p25 p26) f [b0,b1,b2,b3,b4,b5,b6,G,b8,b9,b10,b11,b12,G,G,G,G,G,G,G] (A9 a0 x8 v9 (vc (.own 90000)) (vc (.own 90001)) b0 b1 b2 b3 b4 b5 b6 G b8 b9 b10 b11 b12 G G G G G [(99999999999,(dm r24.h.row++ [aL (W (rL X0.row) r24.choices),.dat (.clo F_w0 caps_w0),.own 90000,.own 90001,.own 90002,aI r24.least.i0,aI r24.least.i1,aB r24.found]))] [(90000,4,W X0.row r24.plan),(90001,1,W rI r24.choice),(90002,1,W rI r24.best)]):=by
 intro f
 induction f with
 | zero=>intro b0 b1 b2 b3 b4 b5 b6 b8 b9 b10 b11 b12 h; simp at h
 | succ f ih=>
  intro b0 b1 b2 b3 b4 b5 b6 b8 b9 b10 b11 b12
  refine B1 ⟨?_,?_,?_,?_,?_,?_,?_,?_,?_,?_,?_,?_,?_,?_,?_,?_,?_,?_,?_,?_,⟨⟩⟩<;>try first | (intro _ hw; simp at hw; done) | (intro h0 hw; obtain rfl:=hz h0 rfl; (try obtain rfl:=hq hw 2 rfl rfl); (try obtain rfl:=hq hw 3 rfl rfl); (try obtain rfl:=hq hw 4 rfl rfl); (try obtain rfl:=hq hw 8 rfl rfl); (try obtain rfl:=hq hw 9 rfl rfl); (try obtain rfl:=hq hw 10 rfl rfl); refine np ?_; simp only[A9,cdt,cdf,A1,A,B,C,E,F,J]; exact ih _ _ _ _ _ _ _ _ _ _ _ _)
  ·intro h0 hw
   obtain rfl:=hq hw 5 rfl rfl
   obtain rfl:=hq hw 6 rfl rfl
   refine⟨[],[(L,.cut 108)],V,V,?_⟩
   try simp only[A9,cdt,cdf,zC,zB,A1,A,B,C,E,F,J]
   refine A65 V V h25 (by rfl) ?_
   try simp only[A1,A,B,C,E,F,J]
   exact F29 F_w0 caps_w0 a0 x8 v9 r24 p25 p26 h25 h26 _ b0 b1 b2 b3 b4 b8 b9 b10 b11 b12 G G
  ·intro h0 hw
   obtain rfl:=hq hw 11 rfl rfl
   obtain rfl:=hq hw 12 rfl rfl
   refine⟨[],[(L,.cut 114)],V,V,?_⟩
   try simp only[A9,cdt,cdf,zC,zB,A1,A,B,C,E,F,J]
   refine A65 V V h26 (by rfl) ?_
   try simp only[A1,A,B,C,E,F,J]
   exact F4s F_w0 caps_w0 a0 x8 v9 r24 p25 p26 h25 h26 _ b0 b1 b2 b3 b4 b5 b6 b8 b9 b10
theorem F2k(w0:(N X0)→O Xj)(rec_:Xc→O Xc)(F_w0:FuncId)(caps_w0:N D)(hF_w0:A4c X F_w0=T)(h_w0:∀z0 zr,w0 z0=H zr→FC X F_w0 ([.sc (.sl (W X0.row z0))]++caps_w0.map .sc) [.ag [.v (.int .i64 zr.i0),.v (.int .i64 zr.i1)]])(h_rec:∀(a0:Xc) zr,rec_ a0=H zr→FCz X 179 [.p] (S0 F_w0 caps_w0 a0) (S3 a0) (S0 F_w0 caps_w0 zr) (S3 zr) [])(a0:Xc)(x8:N X0):∀(n:U) (v9:P) (v10:X4) (v11:N (N X0)) (v12 v13:P) (v14:Q) (v15:N X0) (v16 v17:N P) (r:Xc),J6 w0 rec_ a0 x8 n v9 v10 v11 v12 v13 v14 v15 v16 v17=H r→∀σ:St,σ.kept [0,3,61,62,63] [99999999999] [90000,90001,90002]=⟨[(0,vc (.pb 99999999999 0)),(3,vc (aI (a0.plan.length:P))),(61,vc (aL (W X0.row x8))),(62,vc (aI (x8.length:P))),(63,vc (aI v9))],[(99999999999,(dm v10.row++ [aL (W (rL X0.row) v11),.dat (.clo F_w0 caps_w0),.own 90000,.own 90001,.own 90002,aI v12,aI v13,aB v14]))],[(90000,4,W X0.row v15),(90001,1,W rI v16),(90002,1,W rI v17)]⟩→go X (.code (.loop C2u):: [.blk 0]) (A87 [] [] (S0 F_w0 caps_w0 r) (S3 r)) .normal (H σ):=by
 intro n
 induction n with
 | zero=>intro _ _ _ _ _ _ _ _ _ r h; cases h
 | succ n ih=>
  intro v9 v10 v11 v12 v13 v14 v15 v16 v17 r h σ hσ
  rw[J6] at h
  refine B5 ?_
  rcases ic h with ⟨h18,h⟩|⟨h18,h⟩
  ·obtain⟨x19,h19,h⟩:=ob h
   try simp only[hσ,h18,h19,C2u,A,B,C,E,F,J]
   refine D1 V V ?_
   try simp only[h18,h19,A,B,C,E,F,J]
   refine B2 V ?_
   obtain⟨r20,h20,h⟩:=ob h
   try simp only[h18,h19,A,B,C,E,F,J]
   refine A70 (B3c _ _ _ _ h20) (by first | rfl | kernel_rfl) (Y4 V) V (uf V) ?_
   rcases ic h with ⟨h21,h⟩|⟨h21,h⟩
   ·try simp only[h18,h19,h21,A,B,C,E,F,J]
    obtain⟨h22,h⟩:=D4 h
    obtain⟨h23,h⟩:=D4 h
    refine A2s (ks:= [0,3,4,5,61,62,63]) (bs:= [99999999999,5]) (rs:= [90000,90001,90002]) (τ:=(E7 F_w0 caps_w0 a0 x8 v9 v10 v11 v12 v13 v14 v15 v16 v17 x19)) V (E94 F_w0 caps_w0 a0 x8 v9 v10 v11 v12 v13 v14 v15 v16 v17 x19 h22 h23 _ G G G G G G G G G G G G) ?_
    simp only[E7,A5,cdt]
    try simp only[h18,h19,h21,h22,h23,A,B,C,E,F,J]
    refine B9s ?_
    obtain⟨r24,h24,h⟩:=ob h
    try simp only[h18,h19,h21,h22,h23,A,B,C,E,F,J]
    refine A8d (h_rec _ _ h24) 99999999999 [90000,90001,90002] rfl V V V (by decide) V V V ?_
    try simp only[h18,h19,h21,h22,h23,A,B,C,E,F,J]
    obtain⟨p25,h25,h⟩:=ob h
    obtain⟨p26,h26,h⟩:=ob h
    refine A2s (ks:= [0,3,61,62,63]) (bs:= [99999999999]) (rs:= [90000,90001,90002]) (τ:=(G8 F_w0 caps_w0 a0 x8 v9 r24 p25 p26)) V (F3x F_w0 caps_w0 a0 x8 v9 r24 p25 p26 h25 h26 _ G G G G G G G G G G G G) ?_
    simp only[G8,A9,cdt]
    try simp only[h18,h19,h21,h22,h23,A,B,C,E,F,J]
    refine ih _ _ _ _ _ _ _ _ _ _ h _ ?_
    try simp only[h18,h19,h21,h22,h23,A,B,C,E,F,J,Y]
   ·try simp only[h18,h19,h21,A,B,C,E,F,J]
    refine ih _ _ _ _ _ _ _ _ _ _ h _ ?_
    try simp only[h18,h19,h21,A,B,C,E,F,J,Y]
  ·try simp only[hσ,h18,C2u,A,B,C,E,F,J]
   cases h
   exact⟨trivial,[90000,90001,90002],by decide,by decide,V,V⟩
theorem D92(w0:(N X0)→O Xj)(rec_:Xc→O Xc)(F_w0:FuncId)(caps_w0:N D)(hF_w0:A4c X F_w0=T)(h_w0:∀z0 zr,w0 z0=H zr→FC X F_w0 ([.sc (.sl (W X0.row z0))]++caps_w0.map .sc) [.ag [.v (.int .i64 zr.i0),.v (.int .i64 zr.i1)]])(h_rec:∀(a0:Xc) zr,rec_ a0=H zr→FCz X 179 [.p] (S0 F_w0 caps_w0 a0) (S3 a0) (S0 F_w0 caps_w0 zr) (S3 zr) [])(a0:Xc)(r1:Xj)(v5:Q)(r:Xc)(h:J4 w0 rec_ a0 r1 v5=H r)(σ:St)(hσ:σ.kept [0,2] [99999999999,2] [90000,90001,90002]=⟨[(0,vc (.pb 99999999999 0)),(2,vc (.pb 2 0))],[(99999999999,(dm a0.h.row++ [aL (W (rL X0.row) a0.choices),.dat (.clo F_w0 caps_w0),.own 90000,.own 90001,.own 90002,aI a0.least.i0,aI a0.least.i1,aB v5])),(2,[aI r1.i0,aI r1.i1])],[(90000,4,W X0.row a0.plan),(90001,1,W rI a0.choice),(90002,1,W rI a0.best)]⟩):go X (.code C3s:: []) (A87 [] [] (S0 F_w0 caps_w0 r) (S3 r)) .normal (H σ):=by
 unfold J4 at h
 rcases ic h with ⟨h6,h⟩|⟨h6,h⟩
 ·try simp only[hσ,h6,C3s,A,B,C,E,F,J]
  obtain⟨r7,h7,h⟩:=ob h
  refine A2s (ks:= [0,2]) (bs:= [99999999999,2]) (rs:= [90000,90001,90002]) (τ:=(K1 F_w0 caps_w0 a0 r1 r7)) V (F4n F_w0 caps_w0 a0 r1 v5 r7 h7 _ G G G G G G G G) ?_
  simp only[K1,C8,cdt]
  try simp only[h6,A,B,C,E,F,J]
  cases h
  exact⟨trivial,[90000,90001,3008],by decide,by decide,V,V⟩
 ·obtain⟨x8,h8,h⟩:=ob h
  try simp only[hσ,h6,h8,C3s,A,B,C,E,F,J]
  refine F2k w0 rec_ F_w0 caps_w0 hF_w0 h_w0 h_rec _ _ _ _ _ _ _ _ _ _ _ _ _ h _ ?_
  try simp only[h6,h8,A,B,C,E,F,J,Y]
theorem F0x:A6 X 179=H (cc503.strip,[],120):=by kernel_rfl
theorem B00(w0:(N X0)→O Xj)(rec_:Xc→O Xc)(a0 r:Xc)(F_w0:FuncId)(caps_w0:N D)(hF_w0:A4c X F_w0=T)(h_w0:∀z0 zr,w0 z0=H zr→FC X F_w0 ([.sc (.sl (W X0.row z0))]++caps_w0.map .sc) [.ag [.v (.int .i64 zr.i0),.v (.int .i64 zr.i1)]])(h_rec:∀(a0:Xc) zr,rec_ a0=H zr→FCz X 179 [.p] (S0 F_w0 caps_w0 a0) (S3 a0) (S0 F_w0 caps_w0 zr) (S3 zr) [])(h:U5 w0 rec_ a0=H r):FCz X 179 [.p] (S0 F_w0 caps_w0 a0) (S3 a0) (S0 F_w0 caps_w0 r) (S3 r) []:=by
 unfold U5 at h
 refine C49 (σ:=⟨[(0,vc (.pb 99999999999 0))],[(99999999999,[aI a0.h.Forecast.Tide.Mean,aL (W Xi.row a0.h.Forecast.Tide.Parts),aL (W Xf.row a0.h.Forecast.Surges),aL (W Xb.row a0.h.Chart.Points),aL (W X2.row a0.h.Chart.Segments),aL (W Xa.row a0.h.Fleet),aI a0.h.Regime.Gap,aB a0.h.Regime.NoMeet,aI a0.h.Crew.Tugs,aI a0.h.Crew.Pilots,aI a0.h.Crew.Rest,aL (W rI a0.h.Crew.Moves),aL (W (rL X0.row) a0.choices),.dat (.clo F_w0 caps_w0),.own 90000,.own 90001,.own 90002,aI a0.least.i0,aI a0.least.i1,aB a0.found])],[(90000,4,W X0.row a0.plan),(90001,1,W rI a0.choice),(90002,1,W rI a0.best)]⟩) A8 F0x V V V V ?_
 simp only[cc503]
 try simp only[A,B,C,E,F,J]
 refine B2 V ?_
 obtain⟨r1,h1,h⟩:=ob h
 try simp only[A,B,C,E,F,J]
 refine D3v (h_w0 _ _ h1) hF_w0 (by first | rfl | kernel_rfl) (by first | rfl | kernel_rfl) (Y4 V) V (uf V) ?_
 try simp only[A,B,C,E,F,J]
 refine B0p (m:= .box 2 [aI (0:P),aI (0:P)]) V V (A76 V V) ?_
 try simp only[A,B,C,E,F,J]
 refine B2 V ?_
 try simp only[A,B,C,E,F,J]
 refine B2 V ?_
 rcases ic h with ⟨h2,h⟩|⟨h2,h⟩
 ·obtain⟨r3,h3,h⟩:=ob h
  try simp only[h2,A,B,C,E,F,J]
  refine G3 (B3s _ _ _ h3) V V (uf V) ?_
  rcases ic h with ⟨h4,h⟩|⟨h4,h⟩
  ·try simp only[h2,h4,A,B,C,E,F,J]
   refine D92 w0 rec_ F_w0 caps_w0 hF_w0 h_w0 h_rec _ _ _ _ h _ ?_
   try simp only[h2,h4,A,B,C,E,F,J,Y]
  ·try simp only[h2,h4,A,B,C,E,F,J]
   cases h
   exact⟨trivial,[90000,90001,90002],by decide,by decide,V,V⟩
 ·try simp only[h2,A,B,C,E,F,J]
  refine D92 w0 rec_ F_w0 caps_w0 hF_w0 h_w0 h_rec _ _ _ _ h _ ?_
  try simp only[h2,A,B,C,E,F,J,Y]
theorem B0z(w0:(N X0)→O Xj)(F_w0:FuncId)(caps_w0:N D)(hF_w0:A4c X F_w0=T)(h_w0:∀z0 zr,w0 z0=H zr→FC X F_w0 ([.sc (.sl (W X0.row z0))]++caps_w0.map .sc) [.ag [.v (.int .i64 zr.i0),.v (.int .i64 zr.i1)]]):∀(n:U) (a0 r:Xc),F7 w0 n a0=H r→FCz X 179 [.p] (S0 F_w0 caps_w0 a0) (S3 a0) (S0 F_w0 caps_w0 r) (S3 r) []:=by
 intro n
 induction n with
 | zero=>intro _ r h; cases h
 | succ n ih=>intro a0 r h; rw[F7] at h; exact B00 w0 (F7 w0 n) a0 r F_w0 caps_w0 hF_w0 h_w0 ih h
theorem B19(w0:(N X0)→O Xj)(a0 r:Xc)(F_w0:FuncId)(caps_w0:N D)(hF_w0:A4c X F_w0=T)(h_w0:∀z0 zr,w0 z0=H zr→FC X F_w0 ([.sc (.sl (W X0.row z0))]++caps_w0.map .sc) [.ag [.v (.int .i64 zr.i0),.v (.int .i64 zr.i1)]])(h:A4v w0 a0=H r):FCz X 179 [.p] (S0 F_w0 caps_w0 a0) (S3 a0) (S0 F_w0 caps_w0 r) (S3 r) []:=B0z w0 F_w0 caps_w0 hF_w0 h_w0 bigN a0 r h
/- 84:impl_leastPlan -/
def A5u:N (N U × AItem):= [([],(L,.mv 17 (S 9))),([0],(L,.nilc 18 (S 17))),([1],(L,.faddr 19 (S 18) 16)),([2],(L,.load 20 (S 19) G 1)),([],(L,.mv 21 (S 9))),([4],(L,.nilc 22 (S 21))),([5],(L,.faddr 23 (S 22) 17)),([6],(L,.load 24 (S 23) T 2)),([],(L,.mv 25 (S 9))),([8],(L,.nilc 26 (S 25))),([9],(L,.faddr 27 (S 26) 19)),([10],(L,.load 28 (S 27) G 1)),([3,0,1,2,3],(L,.mv 6 (S 20))),([7,12,0,1,2,3,4,5,6,7,12],(L,.store (S 7) (S 24) 2)),([11,13,0,1,2,3,4,5,6,7,8,9,10,11,12,13],(L,.mv 8 (S 28)))]
def cc528:X3:=(.seq (.reg [bo 3 0,(L,.mv 6 KN),(L,.alloc 7 [aI 0,aI 0]),(L,.mv 8 (KB G))]) (.seq (.reg [lw 10 3 12,mv 11 1,mv 12 2,(L,.build 13 [aI 0,.nil,.nil,.nil,.nil,.nil,aI 0,aB G,aI 0,aI 0,aI 0,.nil,.nil,.undef,.nil,.nil,.nil,aI 0,aI 0,aB G] [(0,12,(S 10)),(12,1,(S 11)),(13,1,(S 12))]),bo 14 13,(L,.ownb 14 14 143232 4),(L,.ownb 14 15 143296 1),(L,.ownb 14 16 143360 1),mv 9 14]) (.seq (.cal [mv 15 9] 16 179 [(S 15)]) (.seq (.any A5u) .ret))))
abbrev P1(r1:Xc)(c0_ c1_:Q)(c2_ c3_:Q)(c4_ c5_:Q)(c6_ c7_:Q)(c8_ c9_:Q)(c10_ c11_:Q)(c12_ c14_:Q)(bx_:N (U × N AC))(rs_:Rows):St:=⟨[(7,vc (.pb 7 0)),(9,vc (.pb 14 0)),(17,bif c0_ then vc (.pb 14 0) else .undef),(18,bif c1_ then vc (.pb 14 0) else .undef),(19,bif c2_ then vc (.pb 14 16) else .undef),(20,bif c3_ then vc (.own 143360) else .undef),(21,bif c4_ then vc (.pb 14 0) else .undef),(22,bif c5_ then vc (.pb 14 0) else .undef),(23,bif c6_ then vc (.pb 14 17) else .undef),(24,bif c7_ then va [aI r1.least.i0,aI r1.least.i1] else .undef),(25,bif c8_ then vc (.pb 14 0) else .undef),(26,bif c9_ then vc (.pb 14 0) else .undef),(27,bif c10_ then vc (.pb 14 19) else .undef),(28,bif c11_ then vc (aB r1.found) else .undef),(6,bif c12_ then vc (.own 143360) else .undef),(8,bif c14_ then vc (aB r1.found) else .undef)],bx_,rs_⟩
abbrev A2f(F_a2:FuncId)(caps_a2:N D)(r1:Xc):St:=(P1 r1 T T T T T T T T T T T T T T [(7,[aI r1.least.i0,aI r1.least.i1]),(14,(dm r1.h.row++ [aL (W (rL X0.row) r1.choices),.dat (.clo F_a2 caps_a2),.own 143232,.own 143296,.own 143360,aI r1.least.i0,aI r1.least.i1,aB r1.found]))] [(143232,4,W X0.row r1.plan),(143296,1,W rI r1.choice),(143360,1,W rI r1.best)])
theorem E9x(F_a2:FuncId)(caps_a2:N D)(r1:Xc):∀(f:U) (b8 b9:Q) (b10 b11 b14:Q),D8 X A5u (A2f F_a2 caps_a2 r1) f [T,T,T,T,T,T,T,T,b8,b9,b10,b11,T,T,b14] (P1 r1 T T T T T T T T b8 b9 b10 b11 T b14 [(7,[aI r1.least.i0,aI r1.least.i1]),(14,(dm r1.h.row++ [aL (W (rL X0.row) r1.choices),.dat (.clo F_a2 caps_a2),.own 143232,.own 143296,.own 143360,aI r1.least.i0,aI r1.least.i1,aB r1.found]))] [(143232,4,W X0.row r1.plan),(143296,1,W rI r1.choice),(143360,1,W rI r1.best)]):=by
 intro f
 induction f with
 | zero=>
  intro b8 b9 b10 b11 b14 h
  obtain rfl:b8=T:=Z.1 h b8 (by simp)
  obtain rfl:b9=T:=Z.1 h b9 (by simp)
  obtain rfl:b10=T:=Z.1 h b10 (by simp)
  obtain rfl:b11=T:=Z.1 h b11 (by simp)
  obtain rfl:b14=T:=Z.1 h b14 (by simp)
  rfl
 | succ f ih=>
  intro b8 b9 b10 b11 b14
  refine B1 ⟨?_,?_,?_,?_,?_,?_,?_,?_,?_,?_,?_,?_,?_,?_,?_,⟨⟩⟩<;>try first | (intro h; cases h; done) | (intro h0 hw; obtain rfl:=hz h0 rfl; (try obtain rfl:=hq hw 8 rfl rfl); (try obtain rfl:=hq hw 9 rfl rfl); (try obtain rfl:=hq hw 10 rfl rfl); (try obtain rfl:=hq hw 11 rfl rfl); refine np ?_; simp only[P1,cdt,cdf,A1,A,B,C,E,F,J]; exact ih _ _ _ _ _)
theorem F4k(F_a2:FuncId)(caps_a2:N D)(r1:Xc):∀(f:U) (b0 b1:Q) (b2 b3:Q) (b4 b5:Q) (b6 b7:Q) (b8 b9:Q) (b10 b11 b12:Q),D8 X A5u (A2f F_a2 caps_a2 r1) f [b0,b1,b2,b3,b4,b5,b6,b7,b8,b9,b10,b11,b12,G,G] (P1 r1 b0 b1 b2 b3 b4 b5 b6 b7 b8 b9 b10 b11 b12 G [(7,[aI (0:P),aI (0:P)]),(14,(dm r1.h.row++ [aL (W (rL X0.row) r1.choices),.dat (.clo F_a2 caps_a2),.own 143232,.own 143296,.own 143360,aI r1.least.i0,aI r1.least.i1,aB r1.found]))] [(143232,4,W X0.row r1.plan),(143296,1,W rI r1.choice),(143360,1,W rI r1.best)]):=by
 intro f
 induction f with
 | zero=>intro b0 b1 b2 b3 b4 b5 b6 b7 b8 b9 b10 b11 b12 h; simp at h
 | succ f ih=>
  intro b0 b1 b2 b3 b4 b5 b6 b7 b8 b9 b10 b11 b12
  refine B1 ⟨?_,?_,?_,?_,?_,?_,?_,?_,?_,?_,?_,?_,?_,?_,?_,⟨⟩⟩<;>try first | (intro _ hw; simp at hw; done) | (intro h0 hw; obtain rfl:=hz h0 rfl; (try obtain rfl:=hq hw 0 rfl rfl); (try obtain rfl:=hq hw 1 rfl rfl); (try obtain rfl:=hq hw 2 rfl rfl); (try obtain rfl:=hq hw 3 rfl rfl); (try obtain rfl:=hq hw 4 rfl rfl); (try obtain rfl:=hq hw 5 rfl rfl); (try obtain rfl:=hq hw 6 rfl rfl); (try obtain rfl:=hq hw 8 rfl rfl); (try obtain rfl:=hq hw 9 rfl rfl); (try obtain rfl:=hq hw 10 rfl rfl); refine np ?_; simp only[P1,cdt,cdf,A1,A,B,C,E,F,J]; exact ih _ _ _ _ _ _ _ _ _ _ _ _ _)
  ·intro h0 hw
   obtain rfl:=hq hw 0 rfl rfl
   obtain rfl:=hq hw 1 rfl rfl
   obtain rfl:=hq hw 2 rfl rfl
   obtain rfl:=hq hw 3 rfl rfl
   obtain rfl:=hq hw 4 rfl rfl
   obtain rfl:=hq hw 5 rfl rfl
   obtain rfl:=hq hw 6 rfl rfl
   obtain rfl:=hq hw 7 rfl rfl
   obtain rfl:=hq hw 12 rfl rfl
   refine np ?_
   try simp only[P1,cdt,cdf,A1,A,B,C,E,F,J]
   exact E9x F_a2 caps_a2 r1 _ b8 b9 b10 b11 G
theorem F1r:A6 X 84=H (cc528.strip,[6,.c 7 T 2,8],29):=by kernel_rfl
theorem B66(a0:X4)(a1:N (N X0))(a2:(N X0)→O Xj)(r:(N P) × Xj × Q)(F_a2:FuncId)(caps_a2:N D)(hF_a2:A4c X F_a2=T)(h_a2:∀z0 zr,a2 z0=H zr→FC X F_a2 ([.sc (.sl (W X0.row z0))]++caps_a2.map .sc) [.ag [.v (.int .i64 zr.i0),.v (.int .i64 zr.i1)]])(h:A2r a0 a1 a2=H r):FC X 84 [.ag (X4.row a0),.sc (.sl (W (rL X0.row) a1)),.sc (.clo F_a2 caps_a2)] [.sc (.o 1 (W rI r.1)),.ag [.v (.int .i64 r.2.1.i0),.v (.int .i64 r.2.1.i1)],.sc (.v (.bool r.2.2))]:=by
 unfold A2r at h
 refine C9 A8 F1r V ?_
 simp only[cc528,A,B,C,E,F,J]
 try simp only[A,B,C,E,F,J]
 refine B3 V V V ?_
 try simp only[A,B,C,E,F,J]
 refine D1 V V ?_
 try simp only[A,B,C,E,F,J]
 refine B3 V V V ?_
 try simp only[A,B,C,E,F,J]
 refine A12 (cs':= [aI a0.Forecast.Tide.Mean,aL (W Xi.row a0.Forecast.Tide.Parts),aL (W Xf.row a0.Forecast.Surges),aL (W Xb.row a0.Chart.Points),aL (W X2.row a0.Chart.Segments),aL (W Xa.row a0.Fleet),aI a0.Regime.Gap,aB a0.Regime.NoMeet,aI a0.Crew.Tugs,aI a0.Crew.Pilots,aI a0.Crew.Rest,aL (W rI a0.Crew.Moves),aL (W (rL X0.row) a1),.dat (.clo F_a2 caps_a2),.own 143232,.nil,.nil,aI (0:P),aI (0:P),aB G]) V V V V ?_
 try simp only[A,B,C,E,F,J]
 refine A12 (cs':= [aI a0.Forecast.Tide.Mean,aL (W Xi.row a0.Forecast.Tide.Parts),aL (W Xf.row a0.Forecast.Surges),aL (W Xb.row a0.Chart.Points),aL (W X2.row a0.Chart.Segments),aL (W Xa.row a0.Fleet),aI a0.Regime.Gap,aB a0.Regime.NoMeet,aI a0.Crew.Tugs,aI a0.Crew.Pilots,aI a0.Crew.Rest,aL (W rI a0.Crew.Moves),aL (W (rL X0.row) a1),.dat (.clo F_a2 caps_a2),.own 143232,.own 143296,.nil,aI (0:P),aI (0:P),aB G]) V V V V ?_
 try simp only[A,B,C,E,F,J]
 refine A12 (cs':= [aI a0.Forecast.Tide.Mean,aL (W Xi.row a0.Forecast.Tide.Parts),aL (W Xf.row a0.Forecast.Surges),aL (W Xb.row a0.Chart.Points),aL (W X2.row a0.Chart.Segments),aL (W Xa.row a0.Fleet),aI a0.Regime.Gap,aB a0.Regime.NoMeet,aI a0.Crew.Tugs,aI a0.Crew.Pilots,aI a0.Crew.Rest,aL (W rI a0.Crew.Moves),aL (W (rL X0.row) a1),.dat (.clo F_a2 caps_a2),.own 143232,.own 143296,.own 143360,aI (0:P),aI (0:P),aB G]) V V V V ?_
 try simp only[A,B,C,E,F,J]
 refine B9s ?_
 obtain⟨r1,h1,h⟩:=ob h
 try simp only[A,B,C,E,F,J]
 refine A8d (B19 _ _ _ F_a2 caps_a2 hF_a2 h_a2 h1) 14 [143232,143296,143360] rfl V V V (by decide) V V V ?_
 try simp only[A,B,C,E,F,J]
 refine A2s (ks:= [7,9]) (bs:= [7,14]) (rs:= [143232,143296,143360]) (τ:=(A2f F_a2 caps_a2 r1)) V (F4k F_a2 caps_a2 r1 _ G G G G G G G G G G G G G) ?_
 simp only[A2f,P1,cdt]
 try simp only[A,B,C,E,F,J]
 cases h
 try simp only[K3,A,B,C,E,F,J]
 trivial
/- 31:impl_CostOf -/
def C3p:X3:= .seq (.reg [(L,.keep [3,6,7,8] [] [])]) (.seq (.reg [bn 9 .lss 8 7]) (.seq (.cond (S 9) .skip (.exit 0)) (.seq (.block 1 (.seq (.reg [ia 10 6 8 4,lw 11 10 4,(L,.alloc 5 [aI 0,aI 0,aI 0,.nil]),so 5 11 4]) (.reg [mv 12 3,fa 13 5 2,ld 14 13,bn 15 .add 12 14,mv 3 15]))) (.reg [(L,.bin 16 .add (S 8) (K 1)),mv 8 16]))))
def C8z:X3:=(.seq (.reg [mv 17 3,mv 2 17]) .ret)
def cc534:X3:=(.seq (.reg [(L,.mv 2 (K 0))]) (.seq (.reg [(L,.mv 3 (K 0))]) (.seq (.seq (.reg [mv 6 0,ln 7 6,(L,.mv 8 (K 0))]) (.block 0 (.loop C3p))) C8z)))
theorem E87(a0:N X0):∀(n:U) (v1 v2 r:P),Z9 a0 n v1 v2=H r→∀σ:St,σ.kept [3,6,7,8] [] []=⟨[(3,vc (aI v1)),(6,vc (aL (W X0.row a0))),(7,vc (aI (a0.length:P))),(8,vc (aI v2))],[],[]⟩→go X (.code (.loop C3p):: [.blk 0,.code C8z]) (Ret [2] [.sc (.v (.int .i64 r))]) .normal (H σ):=by
 intro n
 induction n with
 | zero=>intro _ _ r h; cases h
 | succ n ih=>
  intro v1 v2 r h σ hσ
  rw[Z9] at h
  refine B5 ?_
  rcases ic h with ⟨h3,h⟩|⟨h3,h⟩
  ·obtain⟨x4,h4,h⟩:=ob h
   try simp only[hσ,h3,h4,C3p,A,B,C,E,F,J]
   refine D1 V V ?_
   try simp only[h3,h4,A,B,C,E,F,J]
   refine ih _ _ _ h _ ?_
   try simp only[h3,h4,A,B,C,E,F,J,Y]
  ·try simp only[hσ,h3,C3p,C8z,A,B,C,E,F,J]
   cases h
   trivial
theorem F3y:A6 X 31=H (cc534.strip,[2],18):=by kernel_rfl
theorem C19(a0:N X0)(r:P)(h:A62 a0=H r):FC X 31 [.sc (.sl (W X0.row a0))] [.sc (.v (.int .i64 r))]:=by
 unfold A62 at h
 refine C9 A8 F3y V ?_
 simp only[cc534,A,B,C,E,F,J]
 try simp only[A,B,C,E,F,J]
 refine E87 _ _ _ _ _ h _ ?_
 try simp only[A,B,C,E,F,J,Y]
/- 85:impl_byCost -/
def cc537:X3:=(.seq (.reg [(L,.alloc 2 [aI 0,aI 0])]) (.seq (.reg [mv 3 0,ca 4 31 [S 3],(L,.build 5 [aI 0,aI 0] [(0,1,(S 4))]),so 2 5 2]) .ret))
theorem F1y:A6 X 85=H (cc537.strip,[.c 2 T 2],6):=by kernel_rfl
theorem C2b(a0:N X0)(r:Xj)(h:A5l a0=H r):FC X 85 [.sc (.sl (W X0.row a0))] [.ag [.v (.int .i64 r.i0),.v (.int .i64 r.i1)]]:=by
 unfold A5l at h
 refine C9 A8 F1y V ?_
 simp only[cc537,A,B,C,E,F,J]
 try simp only[A,B,C,E,F,J]
 refine D1 V V ?_
 obtain⟨r1,h1,h⟩:=ob h
 try simp only[A,B,C,E,F,J]
 refine A2 (C19 _ _ h1) V V (uf V) ?_
 try simp only[A,B,C,E,F,J]
 cases h
 try simp only[K3,A,B,C,E,F,J]
 trivial
/- 27:impl_BestPlan -/
def cc539:X3:=(.seq (.reg [bo 2 0,(L,.mv 4 KN),(L,.mv 5 (K 0)),(L,.mv 6 (KB G))]) (.seq (.seq (.reg [lw 10 2 12,mv 11 1,ca 12 18 [S 10,S 11],nt 13 12]) (.cond (S 13) (.seq (.reg [(L,.mv 4 KN),(L,.mv 5 (K 0)),(L,.mv 6 (KB G))]) .ret) .skip)) (.seq (.drw [(H [18,8],lw 15 2 12),(H [8],lw 16 2 12),(H [8],mv 17 1),(H [8],ca 18 107 [S 16,S 17]),(H [8],ca 19 84 [S 15,S 18,.c (.v (.sc (.dat (.clo 85 []))))]),(H [8],mv 14 19),(H [8],xt 20 14 0),(H [8],xt 21 14 1),(H [8],xt 22 14 2),(H [18,19],(L,.alloc 8 [aI 0,aI 0])),o0 (mv 7 20),(L,so 8 21 2),o0 (mv 9 22)]) (.seq (.drw [o0 (mv 23 7),o0 (fa 24 8 0),o0 (ld 25 24),o0 (mv 26 9),o0 (mv 4 23),o0 (mv 5 25),o0 (mv 6 26)]) .ret))))
theorem F2g:A6 X 27=H (cc539.strip,[4,5,6],27):=by kernel_rfl
theorem B1d(a0:X4)(a1:N X9)(r:(N P) × P × Q)(h:A1v a0 a1=H r):FC X 27 [.ag (X4.row a0),.sc (.sl (W X9.row a1))] [.sc (.o 1 (W rI r.1)),.sc (.v (.int .i64 r.2.1)),.sc (.v (.bool r.2.2))]:=by
 unfold A1v at h
 refine C9 A8 F2g V ?_
 simp only[cc539,A,B,C,E,F,J]
 try simp only[A,B,C,E,F,J]
 refine B3 V V V ?_
 obtain⟨r1,h1,h⟩:=ob h
 try simp only[A,B,C,E,F,J]
 refine A2 (A6c _ _ _ h1) V V (uf V) ?_
 rcases ic h with ⟨h2,h⟩|⟨h2,h⟩
 ·try simp only[h2,A,B,C,E,F,J]
  refine B2 V ?_
  obtain⟨r3,h3,h⟩:=ob h
  try simp only[h2,A,B,C,E,F,J]
  refine G3 (B58 _ _ _ h3) V V (uf V) ?_
  obtain⟨r4,h4,h⟩:=ob h
  try simp only[h2,A,B,C,E,F,J]
  refine A70 (B66 _ _ _ _ 85 [] (by kernel_rfl) (fun z0 zr zh=>C2b z0 zr zh) h4) (by first | rfl | kernel_rfl) (A5n V ⟨A39,V,V,V,⟨⟩⟩) V (uf V) ?_
  try simp only[h2,A,B,C,E,F,J]
  refine B0p (m:= .box 8 [aI (0:P),aI (0:P)]) V V (A76 V V) ?_
  try simp only[h2,A,B,C,E,F,J]
  refine B2 V ?_
  try simp only[h2,A,B,C,E,F,J]
  refine B2 V ?_
  try simp only[h2,A,B,C,E,F,J]
  cases h
  trivial
 ·try simp only[h2,A,B,C,E,F,J]
  cases h
  trivial
/- 25:impl_CanServe -/
def cc541:X3:=(.seq (.reg [bo 2 0,(L,.mv 4 (KB G))]) (.seq (.reg [lw 9 2 12,mv 10 1,ca 11 27 [S 9,S 10],mv 8 11,xt 12 8 0,xt 13 8 1,xt 14 8 2,mv 5 12,mv 6 13,mv 7 14]) (.seq (.reg [mv 15 7,mv 4 15]) .ret)))
theorem F1b:A6 X 25=H (cc541.strip,[4],16):=by kernel_rfl
theorem B8a(a0:X4)(a1:N X9)(r:Q)(h:A50 a0 a1=H r):FC X 25 [.ag (X4.row a0),.sc (.sl (W X9.row a1))] [.sc (.v (.bool r))]:=by
 unfold A50 at h
 refine C9 A8 F1b V ?_
 simp only[cc541,A,B,C,E,F,J]
 try simp only[A,B,C,E,F,J]
 refine B3 V V V ?_
 obtain⟨r1,h1,h⟩:=ob h
 try simp only[A,B,C,E,F,J]
 refine A2 (B1d _ _ _ h1) V V (uf V) ?_
 try simp only[A,B,C,E,F,J]
 cases h
 trivial
/- 29:impl_PlanOf -/
def C24:X3:= .seq (.reg [(L,.keep [1,2,3,22] [3] [])]) (.cond (S 22) (.seq (.reg [(L,.mv 6 KN),(L,.mv 7 (KB G))]) .ret) .skip)
def C26:X3:= .seq (.reg [(L,.keep [2,3,8,24,25,26] [3] [1472])]) (.seq (.reg [bn 27 .lss 26 25]) (.seq (.cond (S 27) .skip (.exit 0)) (.seq (.block 1 (.seq (.reg [mv 28 26,ia 29 24 26 5,lw 30 29 5,(L,.alloc 10 [aI 0,aI 0,aI 0,aI 0,aI 0]),mv 9 28,so 10 30 5]) (.seq (.reg [lw 31 3 12,lw 32 10 5,ca 33 24 [S 31,S 32],mv 11 33]) (.seq (.seq (.reg [mv 34 2,mv 35 9,ia 36 34 35 1,ld 37 36,mv 38 11,ln 39 38,ca 40 94 [S 37,S 39],nt 41 40]) (.cond (S 41) (.seq (.reg [(L,.mv 6 KN),(L,.mv 7 (KB G))]) .ret) .skip)) (.reg [mv 42 8,mv 43 11,mv 44 2,mv 45 9,ia 46 44 45 1,ld 47 46,ia 48 43 47 4,lw 49 48 4,(L,.bslice 50 4 [.int .i64 0,.int .i64 0,.int .i64 0,.sl []] 1 [(0,(S 49))]),(L,.app 51 4 48 (S 42) (S 50)),mv 8 51]))))) (.reg [(L,.bin 52 .add (S 26) (K 1)),mv 26 52]))))
def C9z:X3:=(.seq (.reg [mv 53 8,mv 6 53,(L,.mv 7 (KB T))]) .ret)
def D19:X3:=(.seq (.reg [(L,.bslice 23 4 [.int .i64 0,.int .i64 0,.int .i64 0,.sl []] 0 []),mv 8 23]) (.seq (.seq (.reg [mv 24 1,ln 25 24,(L,.mv 26 (K 0))]) (.block 0 (.loop C26))) C9z))
def cc547:X3:=(.seq (.reg [bo 3 0,(L,.mv 6 KN),(L,.mv 7 (KB G))]) (.seq (.seq (.reg [lw 12 3 12,mv 13 1,ca 14 18 [S 12,S 13],nt 15 14,mv 16 15,(H (16,G),.mv 17 (S 2)),(H (16,G),.len 18 (S 17)),(H (16,G),.mv 19 (S 1)),(H (16,G),.len 20 (S 19)),(H (16,G),.bin 21 .neq (S 18) (S 20)),po 22 16 21]) C24) D19))
theorem E9q(a2:N P)(a1:N X9)(a0:X4):∀(n:U) (v5:P) (v6:N X0) (r:(N X0) × Q),A0f a2 a1 a0 n v5 v6=H r→∀σ:St,σ.kept [2,3,8,24,25,26] [3] [1472]=⟨[(2,vc (aL (W rI a2))),(3,vc (.pb 3 0)),(8,vc (.own 1472)),(24,vc (aL (W X9.row a1))),(25,vc (aI (a1.length:P))),(26,vc (aI v5))],[(3,(dm a0.row))],[(1472,4,W X0.row v6)]⟩→go X (.code (.loop C26):: [.blk 0,.code C9z]) (Ret [6,7] [.sc (.o 4 (W X0.row r.1)),.sc (.v (.bool r.2))]) .normal (H σ):=by
 intro n
 induction n with
 | zero=>intro _ _ r h; cases h
 | succ n ih=>
  intro v5 v6 r h σ hσ
  rw[A0f] at h
  refine B5 ?_
  rcases ic h with ⟨h7,h⟩|⟨h7,h⟩
  ·obtain⟨x8,h8,h⟩:=ob h
   try simp only[hσ,h7,h8,C26,A,B,C,E,F,J]
   refine D1 V V ?_
   obtain⟨r9,h9,h⟩:=ob h
   try simp only[h7,h8,A,B,C,E,F,J]
   refine A2 (B0l _ _ _ h9) V V (uf V) ?_
   obtain⟨x10,h10,h⟩:=ob h
   obtain⟨r11,h11,h⟩:=ob h
   try simp only[h7,h8,h10,A,B,C,E,F,J]
   refine A2 (E6 _ _ _ h11) V V (uf V) ?_
   rcases ic h with ⟨h12,h⟩|⟨h12,h⟩
   ·obtain⟨x13,h13,h⟩:=ob h
    have h13n:=H5 h13
    try simp only[h7,h8,h10,h12,h13,h13n,A,B,C,E,F,J]
    refine D3 (es:=W X0.row ([x13]:N X0)) V V ?_
    obtain⟨h14,h⟩:=D4 h
    try simp only[h7,h8,h10,h12,h13,h13n,h14,A,B,C,E,F,J]
    refine ih _ _ _ h _ ?_
    try simp only[h7,h8,h10,h12,h13,h13n,h14,A,B,C,E,F,J,Y]
   ·try simp only[h7,h8,h10,h12,A,B,C,E,F,J]
    cases h
    trivial
  ·try simp only[hσ,h7,C26,C9z,A,B,C,E,F,J]
   cases h
   trivial
theorem D9x(a1:N X9)(a2:N P)(a0:X4)(v3:Q)(r:(N X0) × Q)(h:A36 a1 a2 a0 v3=H r)(σ:St)(hσ:σ.kept [1,2,3,22] [3] []=⟨[(1,vc (aL (W X9.row a1))),(2,vc (aL (W rI a2))),(3,vc (.pb 3 0)),(22,vc (aB v3))],[(3,(dm a0.row))],[]⟩):go X (.code C24:: [.code D19]) (Ret [6,7] [.sc (.o 4 (W X0.row r.1)),.sc (.v (.bool r.2))]) .normal (H σ):=by
 unfold A36 at h
 rcases ic h with ⟨h4,h⟩|⟨h4,h⟩
 ·try simp only[hσ,h4,C24,A,B,C,E,F,J]
  cases h
  trivial
 ·try simp only[hσ,h4,C24,D19,A,B,C,E,F,J]
  refine D3 (es:=W X0.row ([]:N X0)) V V ?_
  try simp only[h4,A,B,C,E,F,J]
  refine E9q _ _ _ _ _ _ _ h _ ?_
  try simp only[h4,A,B,C,E,F,J,Y]
theorem F27:A6 X 29=H (cc547.strip,[6,7],54):=by kernel_rfl
theorem C2e(a0:X4)(a1:N X9)(a2:N P)(r:(N X0) × Q)(h:A5c a0 a1 a2=H r):FC X 29 [.ag (X4.row a0),.sc (.sl (W X9.row a1)),.sc (.sl (W rI a2))] [.sc (.o 4 (W X0.row r.1)),.sc (.v (.bool r.2))]:=by
 unfold A5c at h
 refine C9 A8 F27 V ?_
 simp only[cc547,A,B,C,E,F,J]
 try simp only[A,B,C,E,F,J]
 refine B3 V V V ?_
 obtain⟨r1,h1,h⟩:=ob h
 try simp only[A,B,C,E,F,J]
 refine A2 (A6c _ _ _ h1) V V (uf V) ?_
 rcases ic h with ⟨h2,h⟩|⟨h2,h⟩
 ·try simp only[h2,A,B,C,E,F,J]
  refine D9x _ _ _ _ _ h _ ?_
  try simp only[h2,A,B,C,E,F,J,Y]
 ·try simp only[h2,A,B,C,E,F,J]
  refine D9x _ _ _ _ _ h _ ?_
  try simp only[h2,A,B,C,E,F,J,Y]
/- 199:impl_OptionAt -/
def C3v:X3:= .seq (.reg [(L,.keep [2,3,4,5,8,25] [4,5,8] [])]) (.cond (S 25) (.seq (.reg [(L,.build 26 [aI 0,aI 0,aI 0,.nil] []),so 8 26 4,(L,.mv 9 (KB G))]) .ret) .skip)
def D18:X3:=(.seq (.reg [lw 28 4 12,lw 29 5 5,mv 30 2,ca 31 103 [S 28,S 29,S 30],mv 27 31,xt 32 27 0,xt 33 27 1,(L,.alloc 10 [.nil,.nil,.nil]),so 10 32 3,mv 11 33]) (.seq (.seq (.reg [mv 34 11,nt 35 34]) (.cond (S 35) (.seq (.reg [(L,.build 36 [aI 0,aI 0,aI 0,.nil] []),so 8 36 4,(L,.mv 9 (KB G))]) .ret) .skip)) (.seq (.reg [lw 38 4 12,lw 39 5 5,lw 40 10 3,mv 41 2,mv 42 3,ca 43 104 [S 38,S 39,S 40,S 41,S 42],mv 37 43,xt 44 37 0,xt 45 37 1,(L,.alloc 12 [aI 0,aI 0,aI 0,.nil]),so 12 44 4,mv 11 45]) (.seq (.seq (.reg [mv 46 11,nt 47 46]) (.cond (S 47) (.seq (.reg [(L,.build 48 [aI 0,aI 0,aI 0,.nil] []),so 8 48 4,(L,.mv 9 (KB G))]) .ret) .skip)) (.seq (.reg [lw 49 12 4,so 8 49 4,(L,.mv 9 (KB T))]) .ret)))))
def cc553:X3:=(.seq (.reg [bo 4 0,bo 5 1,(L,.alloc 8 [aI 0,aI 0,aI 0,.nil]),(L,.mv 9 (KB G))]) (.seq (.seq (.reg [lw 13 4 12,lw 14 5 5,ca 15 99 [S 13,S 14],nt 16 15,mv 17 16,(H (17,G),.mv 18 (S 3)),(H (17,G),.faddr 19 (S 5) 3),(H (17,G),.load 20 (S 19) G 1),(H (17,G),.faddr 21 (S 5) 4),(H (17,G),.load 22 (S 21) G 1),(H (17,G),.call 23 114 [(S 18),(S 20),(S 22)]),(H (17,G),.un 24 .not (S 23)),po 25 17 24]) C3v) D18))
theorem D86(a2:N P)(a3:P)(a0:X4)(a1:X9)(v4:Q)(r:X0 × Q)(h:A2b a2 a3 a0 a1 v4=H r)(σ:St)(hσ:σ.kept [2,3,4,5,8,25] [4,5,8] []=⟨[(2,vc (aL (W rI a2))),(3,vc (aI a3)),(4,vc (.pb 4 0)),(5,vc (.pb 5 0)),(8,vc (.pb 8 0)),(25,vc (aB v4))],[(4,(dm a0.row)),(5,(dm a1.row)),(8,[aI (0:P),aI (0:P),aI (0:P),.nil])],[]⟩):go X (.code C3v:: [.code D18]) (Ret [.c 8 T 4,9] [.ag [.v (.int .i64 r.1.Start),.v (.int .i64 r.1.Arrival),.v (.int .i64 r.1.Cost),.o 5 (W X5.row r.1.Passages)],.sc (.v (.bool r.2))]) .normal (H σ):=by
 unfold A2b at h
 rcases ic h with ⟨h5,h⟩|⟨h5,h⟩
 ·try simp only[hσ,h5,C3v,A,B,C,E,F,J]
  cases h
  try simp only[K3,A,B,C,E,F,J]
  trivial
 ·obtain⟨r6,h6,h⟩:=ob h
  try simp only[hσ,h5,C3v,D18,A,B,C,E,F,J]
  refine A2 (A9f _ _ _ _ h6) V V (uf V) ?_
  try simp only[h5,A,B,C,E,F,J]
  refine D1 V V ?_
  rcases ic h with ⟨h7,h⟩|⟨h7,h⟩
  ·obtain⟨r9,h9,h⟩:=ob h
   try simp only[h5,h7,A,B,C,E,F,J]
   refine Q2 (B3a _ _ _ _ _ _ h9) V (A5n V ⟨V,V,V,A39,V,⟨⟩⟩) V (uf V) ?_
   try simp only[h5,h7,A,B,C,E,F,J]
   refine D1 V V ?_
   rcases ic h with ⟨h10,h⟩|⟨h10,h⟩
   ·try simp only[h5,h7,h10,A,B,C,E,F,J]
    cases h
    try simp only[K3,A,B,C,E,F,J]
    trivial
   ·try simp only[h5,h7,h10,A,B,C,E,F,J]
    cases h
    try simp only[K3,A,B,C,E,F,J]
    trivial
  ·try simp only[h5,h7,A,B,C,E,F,J]
   cases h
   try simp only[K3,A,B,C,E,F,J]
   trivial
theorem E97:A6 X 199=H (cc553.strip,[.c 8 T 4,9],50):=by kernel_rfl
theorem B8u(a0:X4)(a1:X9)(a2:N P)(a3:P)(r:X0 × Q)(h:A3t a0 a1 a2 a3=H r):FC X 199 [.ag (X4.row a0),.ag (X9.row a1),.sc (.sl (W rI a2)),.sc (.int .i64 a3)] [.ag [.v (.int .i64 r.1.Start),.v (.int .i64 r.1.Arrival),.v (.int .i64 r.1.Cost),.o 5 (W X5.row r.1.Passages)],.sc (.v (.bool r.2))]:=by
 unfold A3t at h
 refine C9 A8 E97 V ?_
 simp only[cc553,A,B,C,E,F,J]
 try simp only[A,B,C,E,F,J]
 refine B3 V V V ?_
 try simp only[A,B,C,E,F,J]
 refine B3 V V V ?_
 try simp only[A,B,C,E,F,J]
 refine D1 V V ?_
 obtain⟨r1,h1,h⟩:=ob h
 try simp only[A,B,C,E,F,J]
 refine A2 (B3d _ _ _ h1) V V (uf V) ?_
 rcases ic h with ⟨h2,h⟩|⟨h2,h⟩
 ·obtain⟨r3,h3,h⟩:=ob h
  try simp only[h2,A,B,C,E,F,J]
  refine A2 (F3 _ _ _ _ h3) V V (uf V) ?_
  try simp only[h2,A,B,C,E,F,J]
  refine D86 _ _ _ _ _ _ h _ ?_
  try simp only[h2,A,B,C,E,F,J,Y]
 ·try simp only[h2,A,B,C,E,F,J]
  refine D86 _ _ _ _ _ _ h _ ?_
  try simp only[h2,A,B,C,E,F,J,Y]
/- 276:slices_Equal_Passage -/
def C3k:X3:= .seq (.reg [(L,.keep [0,1,12,13] [] [])]) (.seq (.reg [bn 14 .lss 13 12]) (.seq (.cond (S 14) .skip (.exit 0)) (.seq (.block 1 (.seq (.reg [mv 15 13,mv 5 15]) (.seq (.drw [o0 (mv 16 0),o0 (mv 17 5),o0 (ia 18 16 17 5),o0 (lw 19 18 5),o0 (mv 20 1),o0 (mv 21 5),o0 (ia 22 20 21 5),o0 (lw 23 22 5),o0 (L,.geq 24 T [.i,.i,.b,.i,.i] (S 19) (S 23))]) (.cond (S 24) (.seq (.reg [(L,.mv 4 (KB G))]) .ret) .skip)))) (.reg [(L,.bin 25 .add (S 13) (K 1)),mv 13 25]))))
def D0n:X3:=(.seq (.reg [(L,.mv 4 (KB T))]) .ret)
def cc558:X3:=(.seq (.reg [(L,.mv 4 (KB G))]) (.seq (.seq (.reg [mv 6 0,ln 7 6,mv 8 1,ln 9 8,bn 10 .neq 7 9]) (.cond (S 10) (.seq (.reg [(L,.mv 4 (KB G))]) .ret) .skip)) (.seq (.seq (.reg [mv 11 0,ln 12 11,(L,.mv 13 (K 0))]) (.block 0 (.loop C3k))) D0n)))
theorem E8n(a0 a1:N X5):∀(n:U) (v2:P) (r:Q),L1 a0 a1 n v2=H r→∀σ:St,σ.kept [0,1,12,13] [] []=⟨[(0,vc (aL (W X5.row a0))),(1,vc (aL (W X5.row a1))),(12,vc (aI (a0.length:P))),(13,vc (aI v2))],[],[]⟩→go X (.code (.loop C3k):: [.blk 0,.code D0n]) (Ret [4] [.sc (.v (.bool r))]) .normal (H σ):=by
 intro n
 induction n with
 | zero=>intro _ r h; cases h
 | succ n ih=>
  intro v2 r h σ hσ
  rw[L1] at h
  refine B5 ?_
  rcases ic h with ⟨h3,h⟩|⟨h3,h⟩
  ·try simp only[hσ,h3,C3k,A,B,C,E,F,J]
   refine B2 V ?_
   obtain⟨x4,h4,h⟩:=ob h
   obtain⟨x5,h5,h⟩:=ob h
   rcases ic h with ⟨h6,h⟩|⟨h6,h⟩
   ·try simp only[h3,h4,h5,h6,A,B,C,E,F,J]
    refine ih _ _ h _ ?_
    try simp only[h3,h4,h5,h6,A,B,C,E,F,J,Y]
   ·try simp only[h3,h4,h5,h6,A,B,C,E,F,J]
    cases h
    trivial
  ·try simp only[hσ,h3,C3k,D0n,A,B,C,E,F,J]
   cases h
   trivial
theorem B1s:A6 X 276=H (cc558.strip,[4],26):=by kernel_rfl
theorem B1p(a0 a1:N X5)(r:Q)(h:W3 a0 a1=H r):FC X 276 [.sc (.sl (W X5.row a0)),.sc (.sl (W X5.row a1))] [.sc (.v (.bool r))]:=by
 unfold W3 at h
 refine C9 A8 B1s V ?_
 simp only[cc558,A,B,C,E,F,J]
 rcases ic h with ⟨h1,h⟩|⟨h1,h⟩
 ·try simp only[h1,A,B,C,E,F,J]
  cases h
  trivial
 ·try simp only[h1,A,B,C,E,F,J]
  refine E8n _ _ _ _ _ h _ ?_
  try simp only[h1,A,B,C,E,F,J,Y]
/- 200:impl_SameOptions -/
def cc560:X3:=(.seq (.reg [bo 2 0,bo 3 1,(L,.mv 4 (KB G))]) (.seq (.reg [fa 5 2 0,ld 6 5,fa 7 3 0,ld 8 7,bn 9 .eql 6 8,mv 10 9,(H (10,T),.faddr 11 (S 2) 1),(H (10,T),.load 12 (S 11) G 1),(H (10,T),.faddr 13 (S 3) 1),(H (10,T),.load 14 (S 13) G 1),(H (10,T),.bin 15 .eql (S 12) (S 14)),pa 16 10 15,mv 17 16,(H (17,T),.faddr 18 (S 2) 2),(H (17,T),.load 19 (S 18) G 1),(H (17,T),.faddr 20 (S 3) 2),(H (17,T),.load 21 (S 20) G 1),(H (17,T),.bin 22 .eql (S 19) (S 21)),pa 23 17 22,mv 24 23,(H (24,T),.faddr 25 (S 2) 3),(H (24,T),.load 26 (S 25) G 1),(H (24,T),.faddr 27 (S 3) 3),(H (24,T),.load 28 (S 27) G 1),(H (24,T),.call 29 276 [(S 26),(S 28)]),pa 30 24 29,mv 4 30]) .ret))
theorem F0b:A6 X 200=H (cc560.strip,[4],31):=by kernel_rfl
theorem B4y(a0 a1:X0)(r:Q)(h:A1n a0 a1=H r):FC X 200 [.ag (X0.row a0),.ag (X0.row a1)] [.sc (.v (.bool r))]:=by
 unfold A1n at h
 refine C9 A8 F0b V ?_
 simp only[cc560,A,B,C,E,F,J]
 try simp only[A,B,C,E,F,J]
 refine B3 V V V ?_
 try simp only[A,B,C,E,F,J]
 refine B3 V V V ?_
 rcases ic h with ⟨h1,h⟩|⟨h1,h⟩
 ·rcases ic h with ⟨h2,h⟩|⟨h2,h⟩
  ·rcases ic h with ⟨h3,h⟩|⟨h3,h⟩
   ·obtain⟨r4,h4,h⟩:=ob h
    try simp only[h1,h2,h3,A,B,C,E,F,J]
    refine A2 (B1p _ _ _ h4) V V (uf V) ?_
    try simp only[h1,h2,h3,A,B,C,E,F,J]
    cases h
    trivial
   ·try simp only[h1,h2,h3,A,B,C,E,F,J]
    cases h
    trivial
  ·try simp only[h1,h2,A,B,C,E,F,J]
   cases h
   trivial
 ·try simp only[h1,A,B,C,E,F,J]
  cases h
  trivial
/- 105:impl_IsOption -/
def C4e:X3:= .seq (.reg [(L,.keep [3,4,5,7,14,15,16] [3,4,5] [768])]) (.seq (.reg [bn 17 .lss 16 15]) (.seq (.cond (S 17) .skip (.exit 0)) (.seq (.block 1 (.seq (.reg [ia 18 14 16 5,lw 19 18 5,(L,.alloc 9 [aI 0,aI 0,aB G,aI 0,aI 0]),so 9 19 5]) (.reg [mv 20 7,fa 21 9 1,ld 22 21,(L,.bslice 23 1 [.int .i64 0] 1 [(0,(S 22))]),(L,.app 24 1 8 (S 20) (S 23)),mv 7 24]))) (.reg [(L,.bin 25 .add (S 16) (K 1)),mv 16 25]))))
def C8v:X3:=(.seq (.reg [lw 27 3 12,lw 28 4 5,mv 29 7,fa 30 5 0,ld 31 30,ca 32 199 [S 27,S 28,S 29,S 31],mv 26 32,xt 33 26 0,xt 34 26 1,(L,.alloc 10 [aI 0,aI 0,aI 0,.nil]),so 10 33 4,mv 11 34]) (.seq (.reg [mv 35 11,mv 36 35,(H (36,T),.load 37 (S 10) T 4),(H (36,T),.load 38 (S 5) T 4),(H (36,T),.call 39 200 [(S 37),(S 38)]),pa 40 36 39,mv 6 40]) .ret))
def cc564:X3:=(.seq (.reg [bo 3 0,bo 4 1,bo 5 2,(L,.mv 6 (KB G))]) (.seq (.reg [(L,.bslice 12 1 [.int .i64 0] 0 []),mv 7 12]) (.seq (.seq (.reg [fa 13 5 3,ld 14 13,ln 15 14,(L,.mv 16 (K 0))]) (.block 0 (.loop C4e))) C8v)))
theorem F5b(a2:X0)(a0:X4)(a1:X9):∀(n:U) (v1:P) (v2:N P) (r:Q),V8 a2 a0 a1 n v1 v2=H r→∀σ:St,σ.kept [3,4,5,7,14,15,16] [3,4,5] [768]=⟨[(3,vc (.pb 3 0)),(4,vc (.pb 4 0)),(5,vc (.pb 5 0)),(7,vc (.own 768)),(14,vc (aL (W X5.row a2.Passages))),(15,vc (aI (a2.Passages.length:P))),(16,vc (aI v1))],[(3,(dm a0.row)),(4,(dm a1.row)),(5,(dm a2.row))],[(768,1,W rI v2)]⟩→go X (.code (.loop C4e):: [.blk 0,.code C8v]) (Ret [6] [.sc (.v (.bool r))]) .normal (H σ):=by
 intro n
 induction n with
 | zero=>intro _ _ r h; cases h
 | succ n ih=>
  intro v1 v2 r h σ hσ
  rw[V8] at h
  refine B5 ?_
  rcases ic h with ⟨h3,h⟩|⟨h3,h⟩
  ·obtain⟨x4,h4,h⟩:=ob h
   try simp only[hσ,h3,h4,C4e,A,B,C,E,F,J]
   refine D1 V V ?_
   try simp only[h3,h4,A,B,C,E,F,J]
   refine D3 (es:=W rI ([x4.Segment]:N P)) V V ?_
   obtain⟨h5,h⟩:=D4 h
   try simp only[h3,h4,h5,A,B,C,E,F,J]
   refine ih _ _ _ h _ ?_
   try simp only[h3,h4,h5,A,B,C,E,F,J,Y]
  ·obtain⟨r6,h6,h⟩:=ob h
   try simp only[hσ,h3,C4e,C8v,A,B,C,E,F,J]
   refine Q2 (B8u _ _ _ _ _ h6) V (A5n V ⟨V,V,V,A39,V,⟨⟩⟩) V (uf V) ?_
   try simp only[h3,A,B,C,E,F,J]
   refine D1 V V ?_
   rcases ic h with ⟨h7,h⟩|⟨h7,h⟩
   ·obtain⟨r9,h9,h⟩:=ob h
    try simp only[h3,h7,A,B,C,E,F,J]
    refine Q2 (B4y _ _ _ h9) V (Y4 V) V (uf V) ?_
    try simp only[h3,h7,A,B,C,E,F,J]
    cases h
    trivial
   ·try simp only[h3,h7,A,B,C,E,F,J]
    cases h
    trivial
theorem E9k:A6 X 105=H (cc564.strip,[6],41):=by kernel_rfl
theorem B8g(a0:X4)(a1:X9)(a2:X0)(r:Q)(h:A33 a0 a1 a2=H r):FC X 105 [.ag (X4.row a0),.ag (X9.row a1),.ag (X0.row a2)] [.sc (.v (.bool r))]:=by
 unfold A33 at h
 refine C9 A8 E9k V ?_
 simp only[cc564,A,B,C,E,F,J]
 try simp only[A,B,C,E,F,J]
 refine B3 V V V ?_
 try simp only[A,B,C,E,F,J]
 refine B3 V V V ?_
 try simp only[A,B,C,E,F,J]
 refine B3 V V V ?_
 try simp only[A,B,C,E,F,J]
 refine D3 (es:=W rI ([]:N P)) V V ?_
 try simp only[A,B,C,E,F,J]
 refine F5b _ _ _ _ _ _ _ h _ ?_
 try simp only[A,B,C,E,F,J,Y]
/- 26:impl_IsPlan -/
def C4d:X3:= .seq (.reg [(L,.keep [2,3,20,21,22] [3] [])]) (.seq (.reg [bn 23 .lss 22 21]) (.seq (.cond (S 23) .skip (.exit 0)) (.seq (.block 1 (.seq (.reg [mv 24 22,ia 25 20 22 5,lw 26 25 5,(L,.alloc 8 [aI 0,aI 0,aI 0,aI 0,aI 0]),mv 7 24,so 8 26 5]) (.seq (.drw [o0 (lw 27 3 12),o0 (lw 28 8 5),o0 (mv 29 2),o0 (mv 30 7),o0 (ia 31 29 30 4),o0 (lw 32 31 4),o0 (ca 33 105 [S 27,S 28,S 32]),o0 (nt 34 33),o0 (mv 35 34),o0 (H (35,G),.load 36 (S 3) T 12),o0 (H (35,G),.mv 37 (S 2)),o0 (H (35,G),.mv 38 (S 7)),o0 (H (35,G),.slc 39 4 (S 37) L (H (S 38)) L),o0 (H (35,G),.mv 40 (S 2)),o0 (H (35,G),.mv 41 (S 7)),o0 (H (35,G),.iaddr 42 (S 40) (S 41) 4),o0 (H (35,G),.load 43 (S 42) T 4),o0 (H (35,G),.call 44 106 [(S 36),(S 39),(S 43)]),o0 (H (35,G),.un 45 .not (S 44)),o0 (po 46 35 45)]) (.cond (S 46) (.seq (.reg [(L,.mv 6 (KB G))]) .ret) .skip)))) (.reg [(L,.bin 47 .add (S 22) (K 1)),mv 22 47]))))
def D1m:X3:=(.seq (.reg [(L,.mv 6 (KB T))]) .ret)
def cc569:X3:=(.seq (.reg [bo 3 0,(L,.mv 6 (KB G))]) (.seq (.seq (.reg [lw 9 3 12,mv 10 1,ca 11 18 [S 9,S 10],nt 12 11,mv 13 12,(H (13,G),.mv 14 (S 2)),(H (13,G),.len 15 (S 14)),(H (13,G),.mv 16 (S 1)),(H (13,G),.len 17 (S 16)),(H (13,G),.bin 18 .neq (S 15) (S 17)),po 19 13 18]) (.cond (S 19) (.seq (.reg [(L,.mv 6 (KB G))]) .ret) .skip)) (.seq (.seq (.reg [mv 20 1,ln 21 20,(L,.mv 22 (K 0))]) (.block 0 (.loop C4d))) D1m)))
theorem E8j(a2:N X0)(a1:N X9)(a0:X4):∀(n:U) (v4:P) (r:Q),A0i a2 a1 a0 n v4=H r→∀σ:St,σ.kept [2,3,20,21,22] [3] []=⟨[(2,vc (aL (W X0.row a2))),(3,vc (.pb 3 0)),(20,vc (aL (W X9.row a1))),(21,vc (aI (a1.length:P))),(22,vc (aI v4))],[(3,(dm a0.row))],[]⟩→go X (.code (.loop C4d):: [.blk 0,.code D1m]) (Ret [6] [.sc (.v (.bool r))]) .normal (H σ):=by
 intro n
 induction n with
 | zero=>intro _ r h; cases h
 | succ n ih=>
  intro v4 r h σ hσ
  rw[A0i] at h
  refine B5 ?_
  rcases ic h with ⟨h5,h⟩|⟨h5,h⟩
  ·obtain⟨x6,h6,h⟩:=ob h
   try simp only[hσ,h5,h6,C4d,A,B,C,E,F,J]
   refine D1 V V ?_
   try simp only[h5,h6,A,B,C,E,F,J]
   refine B2 V ?_
   obtain⟨x7,h7,h⟩:=ob h
   obtain⟨r9,h9,h⟩:=ob h
   try simp only[h5,h6,h7,A,B,C,E,F,J]
   refine G3 (B8g _ _ _ _ h9) V V (uf V) ?_
   rcases ic h with ⟨h10,h⟩|⟨h10,h⟩
   ·obtain⟨p11,h11,h⟩:=ob h
    obtain⟨r12,h12,h⟩:=ob h
    try simp only[h5,h6,h7,h10,h11,A,B,C,E,F,J]
    refine G3 (B3c _ _ _ _ h12) V V (uf V) ?_
    rcases ic h with ⟨h13,h⟩|⟨h13,h⟩
    ·try simp only[h5,h6,h7,h10,h11,h13,A,B,C,E,F,J]
     refine ih _ _ h _ ?_
     try simp only[h5,h6,h7,h10,h11,h13,A,B,C,E,F,J,Y]
    ·try simp only[h5,h6,h7,h10,h11,h13,A,B,C,E,F,J]
     cases h
     trivial
   ·try simp only[h5,h6,h7,h10,A,B,C,E,F,J]
    cases h
    trivial
  ·try simp only[hσ,h5,C4d,D1m,A,B,C,E,F,J]
   cases h
   trivial
theorem F2p:A6 X 26=H (cc569.strip,[6],48):=by kernel_rfl
theorem C2d(a0:X4)(a1:N X9)(a2:N X0)(r:Q)(h:A5k a0 a1 a2=H r):FC X 26 [.ag (X4.row a0),.sc (.sl (W X9.row a1)),.sc (.sl (W X0.row a2))] [.sc (.v (.bool r))]:=by
 unfold A5k at h
 refine C9 A8 F2p V ?_
 simp only[cc569,A,B,C,E,F,J]
 try simp only[A,B,C,E,F,J]
 refine B3 V V V ?_
 obtain⟨r1,h1,h⟩:=ob h
 try simp only[A,B,C,E,F,J]
 refine A2 (A6c _ _ _ h1) V V (uf V) ?_
 rcases ic h with ⟨h2,h⟩|⟨h2,h⟩
 ·rcases ic h with ⟨h3,h⟩|⟨h3,h⟩
  ·try simp only[h2,h3,A,B,C,E,F,J]
   cases h
   trivial
  ·try simp only[h2,h3,A,B,C,E,F,J]
   refine E8j _ _ _ _ _ _ h _ ?_
   try simp only[h2,h3,A,B,C,E,F,J,Y]
 ·try simp only[h2,A,B,C,E,F,J]
  cases h
  trivial
/- 109:impl_account -/
def C3o:X3:= .seq (.reg [(L,.keep [1,3,6,7,14,15,16] [3,6,7] [704,768])]) (.seq (.reg [bn 17 .lss 16 15]) (.seq (.cond (S 17) .skip (.exit 0)) (.seq (.block 1 (.seq (.reg [mv 18 16,ia 19 14 16 4,lw 20 19 4,(L,.alloc 9 [aI 0,aI 0,aI 0,.nil]),mv 8 18,so 9 20 4]) (.seq (.drw [o0 (fa 21 3 5),o0 (ld 22 21),o0 (mv 23 1),o0 (mv 24 8),o0 (ia 25 23 24 5),o0 (fa 26 25 0),o0 (ld 27 26),o0 (ia 28 22 27 6),o0 (fa 29 28 3),o0 (ld 30 29),o0 (mv 10 30)]) (.seq (.drw [o0 (fa 31 7 0),o0 (ld 32 31),o0 (mv 33 10),o0 (ia 34 32 33 1),o0 (ld 35 34),o0 (fa 36 9 2),o0 (ld 37 36),o0 (bn 38 .add 35 37),o0 (ia 39 32 33 1),(L,so 39 38 1)]) (.reg [fa 40 7 1,ld 41 40,mv 42 10,ia 43 41 42 1,ld 44 43,(L,.bin 45 .add (S 44) (K 1)),ia 46 41 42 1,so 46 45 1]))))) (.reg [(L,.bin 47 .add (S 16) (K 1)),mv 16 47]))))
def C87:X3:=(.seq (.reg [lw 48 7 2,so 6 48 2]) .ret)
def cc574:X3:=(.seq (.reg [bo 3 0,(L,.alloc 6 [.nil,.nil])]) (.seq (.drw [(H [12,7],(L,.mksl 11 1 8 [.int .i64 0] (K 4) (K 4))),(H [11,7],(L,.mksl 12 1 8 [.int .i64 0] (K 4) (K 4))),(H [7],(L,.build 13 [.nil,.nil] [(0,1,(S 11)),(1,1,(S 12))])),(H [11,12],(L,.alloc 7 [.nil,.nil])),(L,so 7 13 2)]) (.seq (.seq (.reg [mv 14 2,ln 15 14,(L,.mv 16 (K 0))]) (.block 0 (.loop C3o))) C87)))
theorem F5d(a1:N X9)(a2:N X0)(a0:X4):∀(n:U) (v3:P) (v4 v5:N P) (r:Xg),W9 a1 a2 a0 n v3 v4 v5=H r→∀σ:St,σ.kept [1,3,6,7,14,15,16] [3,6,7] [704,768]=⟨[(1,vc (aL (W X9.row a1))),(3,vc (.pb 3 0)),(6,vc (.pb 6 0)),(7,vc (.pb 7 0)),(14,vc (aL (W X0.row a2))),(15,vc (aI (a2.length:P))),(16,vc (aI v3))],[(3,(dm a0.row)),(6,[.nil,.nil]),(7,[.own 704,.own 768])],[(704,1,W rI v4),(768,1,W rI v5)]⟩→go X (.code (.loop C3o):: [.blk 0,.code C87]) (Ret [.c 6 T 2] [.ag [.o 1 (W rI r.Waits),.o 1 (W rI r.Calls)]]) .normal (H σ):=by
 intro n
 induction n with
 | zero=>intro _ _ _ r h; cases h
 | succ n ih=>
  intro v3 v4 v5 r h σ hσ
  rw[W9] at h
  refine B5 ?_
  rcases ic h with ⟨h6,h⟩|⟨h6,h⟩
  ·obtain⟨x7,h7,h⟩:=ob h
   try simp only[hσ,h6,h7,C3o,A,B,C,E,F,J]
   refine D1 V V ?_
   try simp only[h6,h7,A,B,C,E,F,J]
   refine B2 V ?_
   obtain⟨x8,h8,h⟩:=ob h
   obtain⟨x9,h9,h⟩:=ob h
   try simp only[h6,h7,h8,h9,A,B,C,E,F,J]
   refine B2 V ?_
   obtain⟨x10,h10,h⟩:=ob h
   have h10n:=H5 h10
   try simp only[h6,h7,h8,h9,h10,h10n,A,B,C,E,F,J]
   refine A3e (row:=rI) (y:=(IntKind.i64.wrap (x10+x7.Cost))) V V h10n V V (by rfl) ?_
   try simp only[h6,h7,h8,h9,h10,h10n,A,B,C,E,F,J]
   refine B2 V ?_
   obtain⟨x11,h11,h⟩:=ob h
   have h11n:=H5 h11
   try simp only[h6,h7,h8,h9,h10,h10n,h11,h11n,A,B,C,E,F,J]
   refine A3e (row:=rI) (y:=(IntKind.i64.wrap (x11+(1:P)))) V V h11n V V (by rfl) ?_
   try simp only[h6,h7,h8,h9,h10,h10n,h11,h11n,A,B,C,E,F,J]
   refine ih _ _ _ _ h _ ?_
   try simp only[h6,h7,h8,h9,h10,h10n,h11,h11n,A,B,C,E,F,J,Y]
  ·try simp only[hσ,h6,C3o,C87,A,B,C,E,F,J]
   cases h
   try simp only[K3,A,B,C,E,F,J]
   trivial
theorem F34:A6 X 109=H (cc574.strip,[.c 6 T 2],49):=by kernel_rfl
theorem B9o(a0:X4)(a1:N X9)(a2:N X0)(r:Xg)(h:A4r a0 a1 a2=H r):FC X 109 [.ag (X4.row a0),.sc (.sl (W X9.row a1)),.sc (.sl (W X0.row a2))] [.ag [.o 1 (W rI r.Waits),.o 1 (W rI r.Calls)]]:=by
 unfold A4r at h
 refine C9 A8 F34 V ?_
 simp only[cc574,A,B,C,E,F,J]
 try simp only[A,B,C,E,F,J]
 refine B3 V V V ?_
 try simp only[A,B,C,E,F,J]
 refine D1 V V ?_
 try simp only[A,B,C,E,F,J]
 refine B2 V ?_
 obtain⟨n1,hn1,h⟩:=ob h
 try simp only[A,B,C,E,F,J]
 refine B0p (m:= .row 11 1 (W rI (zD n1 (0:P)))) (B6m V V hn1 V (A69 V)) V (B0x V) ?_
 obtain⟨n2,hn2,h⟩:=ob h
 try simp only[A,B,C,E,F,J]
 refine B0p (m:= .row 12 1 (W rI (zD n2 (0:P)))) (B6m V V hn2 V (A69 V)) V (B0x V) ?_
 try simp only[A,B,C,E,F,J]
 refine B0p (m:= .box 7 [.nil,.nil]) V V (A76 V V) ?_
 try simp only[A,B,C,E,F,J]
 refine B2 V ?_
 try simp only[A,B,C,E,F,J]
 refine F5d _ _ _ _ _ _ _ _ h _ ?_
 try simp only[A,B,C,E,F,J,Y]
/- 30:impl_AccountOf -/
def cc577:X3:=(.seq (.reg [bo 3 0,(L,.alloc 6 [.nil,.nil]),(L,.mv 7 (KB G))]) (.seq (.seq (.reg [lw 8 3 12,mv 9 1,mv 10 2,ca 11 26 [S 8,S 9,S 10],nt 12 11]) (.cond (S 12) (.seq (.reg [(L,.build 13 [.nil,.nil] []),so 6 13 2,(L,.mv 7 (KB G))]) .ret) .skip)) (.seq (.reg [lw 14 3 12,mv 15 1,mv 16 2,ca 17 109 [S 14,S 15,S 16],so 6 17 2,(L,.mv 7 (KB T))]) .ret)))
theorem E99:A6 X 30=H (cc577.strip,[.c 6 T 2,7],18):=by kernel_rfl
theorem B67(a0:X4)(a1:N X9)(a2:N X0)(r:Xg × Q)(h:A23 a0 a1 a2=H r):FC X 30 [.ag (X4.row a0),.sc (.sl (W X9.row a1)),.sc (.sl (W X0.row a2))] [.ag [.o 1 (W rI r.1.Waits),.o 1 (W rI r.1.Calls)],.sc (.v (.bool r.2))]:=by
 unfold A23 at h
 refine C9 A8 E99 V ?_
 simp only[cc577,A,B,C,E,F,J]
 try simp only[A,B,C,E,F,J]
 refine B3 V V V ?_
 try simp only[A,B,C,E,F,J]
 refine D1 V V ?_
 obtain⟨r1,h1,h⟩:=ob h
 try simp only[A,B,C,E,F,J]
 refine A2 (C2d _ _ _ _ h1) V V (uf V) ?_
 rcases ic h with ⟨h2,h⟩|⟨h2,h⟩
 ·obtain⟨r3,h3,h⟩:=ob h
  try simp only[h2,A,B,C,E,F,J]
  refine A2 (B9o _ _ _ _ h3) V V (uf V) ?_
  try simp only[h2,A,B,C,E,F,J]
  cases h
  try simp only[K3,A,B,C,E,F,J]
  trivial
 ·try simp only[h2,A,B,C,E,F,J]
  cases h
  try simp only[K3,A,B,C,E,F,J]
  trivial
/- 45:laws_countLine -/
def C4c:X3:= .seq (.reg [(L,.keep [2,3,7,10,11,12] [3] [])]) (.seq (.reg [bn 13 .lss 12 11]) (.seq (.cond (S 13) .skip (.exit 0)) (.seq (.block 1 (.seq (.reg [ia 14 10 12 5,lw 15 14 5,(L,.alloc 9 [aI 0,aI 0,aI 0,aI 0,aI 0]),so 9 15 5]) (.seq (.reg [fa 16 3 5,ld 17 16,fa 18 9 0,ld 19 18,ia 20 17 19 6,fa 21 20 3,ld 22 21,mv 23 2,bn 24 .eql 22 23]) (.cond (S 24) (.reg [mv 25 7,(L,.bin 26 .add (S 25) (K 1)),mv 7 26]) .skip)))) (.reg [(L,.bin 27 .add (S 12) (K 1)),mv 12 27]))))
def C9l:X3:=(.seq (.reg [mv 28 7,mv 6 28]) .ret)
def cc581:X3:=(.seq (.reg [bo 3 0,(L,.mv 6 (K 0))]) (.seq (.reg [(L,.mv 7 (K 0))]) (.seq (.seq (.reg [mv 10 1,ln 11 10,(L,.mv 12 (K 0))]) (.block 0 (.loop C4c))) C9l)))
theorem E73(a2:P)(a1:N X9)(a0:X4):∀(n:U) (v1 v2 r:P),O4 a2 a1 a0 n v1 v2=H r→∀σ:St,σ.kept [2,3,7,10,11,12] [3] []=⟨[(2,vc (aI a2)),(3,vc (.pb 3 0)),(7,vc (aI v1)),(10,vc (aL (W X9.row a1))),(11,vc (aI (a1.length:P))),(12,vc (aI v2))],[(3,(dm a0.row))],[]⟩→go X (.code (.loop C4c):: [.blk 0,.code C9l]) (Ret [6] [.sc (.v (.int .i64 r))]) .normal (H σ):=by
 intro n
 induction n with
 | zero=>intro _ _ r h; cases h
 | succ n ih=>
  intro v1 v2 r h σ hσ
  rw[O4] at h
  refine B5 ?_
  rcases ic h with ⟨h3,h⟩|⟨h3,h⟩
  ·obtain⟨x4,h4,h⟩:=ob h
   try simp only[hσ,h3,h4,C4c,A,B,C,E,F,J]
   refine D1 V V ?_
   obtain⟨x5,h5,h⟩:=ob h
   rcases ic h with ⟨h6,h⟩|⟨h6,h⟩
   ·try simp only[h3,h4,h5,h6,A,B,C,E,F,J]
    refine ih _ _ _ h _ ?_
    try simp only[h3,h4,h5,h6,A,B,C,E,F,J,Y]
   ·try simp only[h3,h4,h5,h6,A,B,C,E,F,J]
    refine ih _ _ _ h _ ?_
    try simp only[h3,h4,h5,h6,A,B,C,E,F,J,Y]
  ·try simp only[hσ,h3,C4c,C9l,A,B,C,E,F,J]
   cases h
   trivial
theorem E72:A6 X 45=H (cc581.strip,[6],29):=by kernel_rfl
theorem B7f(a0:X4)(a1:N X9)(a2 r:P)(h:A2t a0 a1 a2=H r):FC X 45 [.ag (X4.row a0),.sc (.sl (W X9.row a1)),.sc (.int .i64 a2)] [.sc (.v (.int .i64 r))]:=by
 unfold A2t at h
 refine C9 A8 E72 V ?_
 simp only[cc581,A,B,C,E,F,J]
 try simp only[A,B,C,E,F,J]
 refine B3 V V V ?_
 try simp only[A,B,C,E,F,J]
 refine E73 _ _ _ _ _ _ _ h _ ?_
 try simp only[A,B,C,E,F,J,Y]
/- 46:impl_WorstLine -/
def B9f:X3:= .seq (.reg [(L,.keep [4,5,6,14,15,16] [] [705,704])]) (.seq (.reg [bn 17 .lss 16 15]) (.seq (.cond (S 17) .skip (.exit 0)) (.seq (.block 1 (.seq (.reg [mv 18 16,ia 19 14 16 1,ld 20 19,mv 7 18,mv 8 20]) (.seq (.reg [mv 21 8,mv 22 6,bn 23 .gtr 21 22]) (.cond (S 23) (.reg [mv 24 4,mv 25 7,ia 26 24 25 1,ld 27 26,mv 28 8,mv 5 27,mv 6 28]) .skip)))) (.reg [(L,.bin 29 .add (S 16) (K 1)),mv 16 29]))))
def D04:X3:=(.seq (.reg [mv 30 5,mv 2 30]) .ret)
def cc586:X3:=(.seq (.reg [bo 1 0,(L,.mv 2 (K 0))]) (.seq (.reg [lw 10 1 2,ca 11 122 [S 10],mv 9 11,xt 12 9 0,xt 13 9 1,mv 3 12,mv 4 13]) (.seq (.reg [(L,.mv 5 (K (-1))),(L,.mv 6 (K (-1)))]) (.seq (.seq (.reg [mv 14 3,ln 15 14,(L,.mv 16 (K 0))]) (.block 0 (.loop B9f))) D04))))
theorem F2x(r1:(N P) × (N P)):∀(n:U) (v2 v3:P) (v4 r:P),O2 r1 n v2 v3 v4=H r→∀σ:St,σ.kept [4,5,6,14,15,16] [] [705,704]=⟨[(4,vc (.own 705)),(5,vc (aI v2)),(6,vc (aI v3)),(14,vc (.own 704)),(15,vc (aI (r1.1.length:P))),(16,vc (aI v4))],[],[(705,1,W rI r1.2),(704,1,W rI r1.1)]⟩→go X (.code (.loop B9f):: [.blk 0,.code D04]) (Ret [2] [.sc (.v (.int .i64 r))]) .normal (H σ):=by
 intro n
 induction n with
 | zero=>intro _ _ _ r h; cases h
 | succ n ih=>
  intro v2 v3 v4 r h σ hσ
  rw[O2] at h
  refine B5 ?_
  rcases ic h with ⟨h5,h⟩|⟨h5,h⟩
  ·obtain⟨x6,h6,h⟩:=ob h
   have h6n:=H5 h6
   rcases ic h with ⟨h7,h⟩|⟨h7,h⟩
   ·obtain⟨x8,h8,h⟩:=ob h
    have h8n:=H5 h8
    try simp only[hσ,h5,h6,h6n,h7,h8,h8n,B9f,A,B,C,E,F,J]
    refine ih _ _ _ _ h _ ?_
    try simp only[h5,h6,h6n,h7,h8,h8n,A,B,C,E,F,J,Y]
   ·try simp only[hσ,h5,h6,h6n,h7,B9f,A,B,C,E,F,J]
    refine ih _ _ _ _ h _ ?_
    try simp only[h5,h6,h6n,h7,A,B,C,E,F,J,Y]
  ·try simp only[hσ,h5,B9f,D04,A,B,C,E,F,J]
   cases h
   trivial
theorem F08:A6 X 46=H (cc586.strip,[2],31):=by kernel_rfl
theorem B6r(a0:Xg)(r:P)(h:A26 a0=H r):FC X 46 [.ag (Xg.row a0)] [.sc (.v (.int .i64 r))]:=by
 unfold A26 at h
 refine C9 A8 F08 V ?_
 simp only[cc586,A,B,C,E,F,J]
 try simp only[A,B,C,E,F,J]
 refine B3 V V V ?_
 obtain⟨r1,h1,h⟩:=ob h
 try simp only[A,B,C,E,F,J]
 refine A2 (B38 _ _ h1) V V (uf V) ?_
 try simp only[A,B,C,E,F,J]
 refine F2x _ _ _ _ _ _ h _ ?_
 try simp only[A,B,C,E,F,J,Y]
/- 6:laws_FnAccounts -/
def C31:X3:= .seq (.reg [(L,.keep [3,4,10,14,16,17,115,116] [3,14] [6144,6145])]) (.seq (.reg [bn 117 .lss 116 115]) (.seq (.cond (S 117) .skip (.exit 0)) (.seq (.block 1 (.seq (.reg [mv 118 116,mv 18 118]) (.seq (.reg [mv 119 16,fa 120 14 0,ld 121 120,mv 122 18,ia 123 121 122 1,ld 124 123,bn 125 .add 119 124,mv 16 125]) (.seq (.reg [mv 126 17,fa 127 14 1,ld 128 127,mv 129 18,ia 130 128 129 1,ld 131 130,bn 132 .add 126 131,mv 17 132]) (.seq (.drw [(H [141],fa 133 14 1),(H [141],ld 134 133),(H [141],mv 135 18),(H [141],ia 136 134 135 1),(H [141],ld 137 136),o0 (lw 138 3 12),o0 (mv 139 4),o0 (mv 140 18),o0 (ca 141 45 [S 138,S 139,S 140]),o0 (bn 142 .neq 137 141)]) (.cond (S 142) (.seq (.reg [(L,.mv 2 (KB G))]) .ret) .skip)))))) (.reg [(L,.bin 143 .add (S 116) (K 1)),mv 116 143]))))
def D0a:X3:=(.seq (.reg [lw 144 14 2,ca 145 46 [S 144],mv 19 145]) (.seq (.reg [mv 146 16,mv 147 10,bn 148 .eql 146 147,mv 149 148,(H (149,T),.mv 150 (S 17)),(H (149,T),.mv 151 (S 4)),(H (149,T),.len 152 (S 151)),(H (149,T),.bin 153 .eql (S 150) (S 152)),pa 154 149 153,mv 155 154,(H (155,T),.mv 156 (S 19)),(H (155,T),.bin 157 .geq (S 156) (K 0)),pa 158 155 157,mv 159 158,(H (159,T),.mv 160 (S 19)),(H (159,T),.bin 161 .lss (S 160) (K 4)),pa 162 159 161,mv 163 162,(H (163,T),.faddr 164 (S 14) 1),(H (163,T),.load 165 (S 164) G 1),(H (163,T),.mv 166 (S 19)),(H (163,T),.iaddr 167 (S 165) (S 166) 1),(H (163,T),.load 168 (S 167) G 1),(H (163,T),.bin 169 .gtr (S 168) (K 0)),pa 170 163 169,mv 2 170]) .ret))
def cc591:X3:=(.seq (.reg [(L,.mv 2 (KB G))]) (.seq (.seq (.reg [mv 20 0,ln 21 20,(L,.bin 22 .gtr (S 21) (K 1048576))]) (.cond (S 22) (.seq (.reg [(L,.mv 2 (KB T))]) .ret) .skip)) (.seq (.reg [mv 24 0,ca 25 14 [S 24],mv 23 25,xt 26 23 0,xt 27 23 1,(L,.alloc 3 [aI 0,.nil,.nil,.nil,.nil,.nil,aI 0,aB G,aI 0,aI 0,aI 0,.nil]),so 3 26 12,mv 4 27]) (.seq (.reg [mv 28 0,ca 29 41 [S 28,K 90],(L,.alloc 5 [.nil,.nil]),so 5 29 2]) (.seq (.reg [mv 30 0,ca 31 41 [S 30,K 110],(L,.alloc 6 [.nil,.nil]),so 6 31 2]) (.seq (.reg [lw 33 5 2,lw 34 6 2,ca 35 42 [S 33,S 34],mv 32 35,xt 36 32 0,xt 37 32 1,(L,.alloc 7 [.nil,.nil]),so 7 36 2,mv 8 37]) (.seq (.seq (.drw [o0 (lw 38 3 12),o0 (mv 39 4),o0 (ca 40 18 [S 38,S 39]),o0 (nt 41 40),o0 (mv 42 41),o0 (H (42,G),.mv 43 (S 8)),o0 (H (42,G),.un 44 .not (S 43)),o0 (po 45 42 44),o0 (mv 46 45),o0 (H (46,G),.load 47 (S 7) T 2),o0 (H (46,G),.call 48 43 [(S 47)]),o0 (H (46,G),.un 49 .not (S 48)),o0 (po 50 46 49),o0 (mv 51 50),o0 (H (51,G),.faddr 52 (S 7) 0),o0 (H (51,G),.load 53 (S 52) G 1),o0 (H (51,G),.iaddr 54 (S 53) (K 1) 1),o0 (H (51,G),.load 55 (S 54) G 1),o0 (H (51,G),.faddr 56 (S 5) 0),o0 (H (51,G),.load 57 (S 56) G 1),o0 (H (51,G),.iaddr 58 (S 57) (K 1) 1),o0 (H (51,G),.load 59 (S 58) G 1),o0 (H (51,G),.faddr 60 (S 6) 0),o0 (H (51,G),.load 61 (S 60) G 1),o0 (H (51,G),.iaddr 62 (S 61) (K 1) 1),o0 (H (51,G),.load 63 (S 62) G 1),o0 (H (51,G),.bin 64 .add (S 59) (S 63)),o0 (H (51,G),.bin 65 .neq (S 55) (S 64)),o0 (po 66 51 65),o0 (mv 67 66),o0 (H (67,G),.load 68 (S 5) T 2),o0 (H (67,G),.call 69 44 [(S 68)]),o0 (H (67,G),.bin 70 .lss (S 69) (K 0)),o0 (po 71 67 70)]) (.cond (S 71) (.seq (.reg [(L,.mv 2 (KB G))]) .ret) .skip)) (.seq (.reg [lw 73 3 12,mv 74 4,ca 75 27 [S 73,S 74],mv 72 75,xt 76 72 0,xt 77 72 1,xt 78 72 2,mv 9 76,mv 10 77,mv 11 78]) (.seq (.seq (.reg [mv 79 11,nt 80 79]) (.cond (S 80) (.seq (.reg [lw 81 3 12,mv 82 4,ca 83 25 [S 81,S 82],nt 84 83,mv 2 84]) .ret) .skip)) (.seq (.reg [lw 86 3 12,mv 87 4,mv 88 9,(L,.frz 1612),(L,.frz 4800),ca 89 29 [S 86,S 87,S 88],mv 85 89,xt 90 85 0,xt 91 85 1,mv 12 90,mv 13 91]) (.seq (.reg [lw 93 3 12,mv 94 4,mv 95 12,ca 96 30 [S 93,S 94,S 95],mv 92 96,xt 97 92 0,xt 98 92 1,(L,.alloc 14 [.nil,.nil]),so 14 97 2,mv 15 98]) (.seq (.seq (.reg [mv 99 15,nt 100 99,mv 101 100,(H (101,G),.faddr 102 (S 14) 0),(H (101,G),.load 103 (S 102) G 1),(H (101,G),.len 104 (S 103)),(H (101,G),.bin 105 .neq (S 104) (K 4)),po 106 101 105,mv 107 106,(H (107,G),.faddr 108 (S 14) 1),(H (107,G),.load 109 (S 108) G 1),(H (107,G),.len 110 (S 109)),(H (107,G),.bin 111 .neq (S 110) (K 4)),po 112 107 111]) (.cond (S 112) (.seq (.reg [(L,.mv 2 (KB G))]) .ret) .skip)) (.seq (.reg [(L,.mv 16 (K 0))]) (.seq (.reg [(L,.mv 17 (K 0))]) (.seq (.seq (.reg [fa 113 14 0,ld 114 113,ln 115 114,(L,.mv 116 (K 0))]) (.block 0 (.loop C31))) D0a)))))))))))))))
theorem E9c(r2:X4 × (N X9))(r17:(N P) × P × Q)(r21:Xg × Q):∀(n:U) (v25 v26 v27:P) (r:Q),R5 r2 r17 r21 n v25 v26 v27=H r→∀σ:St,σ.kept [3,4,10,14,16,17,115,116] [3,14] [6144,6145]=⟨[(3,vc (.pb 3 0)),(4,vc (aL (W X9.row r2.2))),(10,vc (aI r17.2.1)),(14,vc (.pb 14 0)),(16,vc (aI v25)),(17,vc (aI v26)),(115,vc (aI (r21.1.Waits.length:P))),(116,vc (aI v27))],[(3,(dm r2.1.row)),(14,[.own 6144,.own 6145])],[(6144,1,W rI r21.1.Waits),(6145,1,W rI r21.1.Calls)]⟩→go X (.code (.loop C31):: [.blk 0,.code D0a]) (Ret [2] [.sc (.v (.bool r))]) .normal (H σ):=by
 intro n
 induction n with
 | zero=>intro _ _ _ r h; cases h
 | succ n ih=>
  intro v25 v26 v27 r h σ hσ
  rw[R5] at h
  refine B5 ?_
  rcases ic h with ⟨h28,h⟩|⟨h28,h⟩
  ·obtain⟨x29,h29,h⟩:=ob h
   have h29n:=H5 h29
   obtain⟨x30,h30,h⟩:=ob h
   have h30n:=H5 h30
   try simp only[hσ,h28,h29,h29n,h30,h30n,C31,A,B,C,E,F,J]
   refine B2 V ?_
   obtain⟨r31,h31,h⟩:=ob h
   try simp only[h28,h29,h29n,h30,h30n,A,B,C,E,F,J]
   refine G3 (B7f _ _ _ _ h31) V V (uf V) ?_
   rcases ic h with ⟨h32,h⟩|⟨h32,h⟩
   ·try simp only[h28,h29,h29n,h30,h30n,h32,A,B,C,E,F,J]
    cases h
    trivial
   ·try simp only[h28,h29,h29n,h30,h30n,h32,A,B,C,E,F,J]
    refine ih _ _ _ _ h _ ?_
    try simp only[h28,h29,h29n,h30,h30n,h32,A,B,C,E,F,J,Y]
  ·obtain⟨r33,h33,h⟩:=ob h
   try simp only[hσ,h28,C31,D0a,A,B,C,E,F,J]
   refine Q2 (B6r _ _ h33) V (Y4 V) V (uf V) ?_
   rcases ic h with ⟨h34,h⟩|⟨h34,h⟩
   ·rcases ic h with ⟨h35,h⟩|⟨h35,h⟩
    ·rcases ic h with ⟨h36,h⟩|⟨h36,h⟩
     ·rcases ic h with ⟨h37,h⟩|⟨h37,h⟩
      ·obtain⟨x38,h38,h⟩:=ob h
       have h38n:=H5 h38
       try simp only[h28,h34,h35,h36,h37,h38,h38n,A,B,C,E,F,J]
       cases h
       trivial
      ·try simp only[h28,h34,h35,h36,h37,A,B,C,E,F,J]
       cases h
       trivial
     ·try simp only[h28,h34,h35,h36,A,B,C,E,F,J]
      cases h
      trivial
    ·try simp only[h28,h34,h35,A,B,C,E,F,J]
     cases h
     trivial
   ·try simp only[h28,h34,A,B,C,E,F,J]
    cases h
    trivial
theorem F0d:A6 X 6=H (cc591.strip,[2],171):=by kernel_rfl
theorem w_laws_FnAccounts(a0:N P)(r:Q)(h:A4l a0=H r):FC X 6 [.sc (.sl (W r8 a0))] [.sc (.v (.bool r))]:=by
 unfold A4l at h
 refine C9 A8 F0d V ?_
 simp only[cc591,A,B,C,E,F,J]
 rcases ic h with ⟨h1,h⟩|⟨h1,h⟩
 ·try simp only[h1,A,B,C,E,F,J]
  cases h
  trivial
 ·obtain⟨r2,h2,h⟩:=ob h
  try simp only[h1,A,B,C,E,F,J]
  refine A2 (B65 _ _ h2) V V (uf V) ?_
  try simp only[h1,A,B,C,E,F,J]
  refine D1 V V ?_
  obtain⟨r3,h3,h⟩:=ob h
  try simp only[h1,A,B,C,E,F,J]
  refine A2 (A8t _ _ _ h3) V V (uf V) ?_
  try simp only[h1,A,B,C,E,F,J]
  refine D1 V V ?_
  obtain⟨r4,h4,h⟩:=ob h
  try simp only[h1,A,B,C,E,F,J]
  refine A2 (A8t _ _ _ h4) V V (uf V) ?_
  try simp only[h1,A,B,C,E,F,J]
  refine D1 V V ?_
  obtain⟨r5,h5,h⟩:=ob h
  try simp only[h1,A,B,C,E,F,J]
  refine Q2 (B4q _ _ _ h5) V (A5n V ⟨A39,A39,V,⟨⟩⟩) V (uf V) ?_
  try simp only[h1,A,B,C,E,F,J]
  refine D1 V V ?_
  try simp only[h1,A,B,C,E,F,J]
  refine B2 V ?_
  obtain⟨r6,h6,h⟩:=ob h
  try simp only[h1,A,B,C,E,F,J]
  refine A70 (A6c _ _ _ h6) (by first | rfl | kernel_rfl) (Y4 V) V (uf V) ?_
  rcases ic h with ⟨h7,h⟩|⟨h7,h⟩
  ·rcases ic h with ⟨h8,h⟩|⟨h8,h⟩
   ·obtain⟨r9,h9,h⟩:=ob h
    try simp only[h1,h7,h8,A,B,C,E,F,J]
    refine A70 (A2y _ _ h9) (by first | rfl | kernel_rfl) (Y4 V) V (uf V) ?_
    rcases ic h with ⟨h10,h⟩|⟨h10,h⟩
    ·obtain⟨x11,h11,h⟩:=ob h
     have h11n:=H5 h11
     obtain⟨x12,h12,h⟩:=ob h
     have h12n:=H5 h12
     obtain⟨x13,h13,h⟩:=ob h
     have h13n:=H5 h13
     rcases ic h with ⟨h14,h⟩|⟨h14,h⟩
     ·try simp only[h1,h7,h8,h10,h11,h11n,h12,h12n,h13,h13n,h14,A,B,C,E,F,J]
      cases h
      trivial
     ·obtain⟨r15,h15,h⟩:=ob h
      try simp only[h1,h7,h8,h10,h11,h11n,h12,h12n,h13,h13n,h14,A,B,C,E,F,J]
      refine A70 (B71 _ _ h15) (by first | rfl | kernel_rfl) (Y4 V) V (uf V) ?_
      rcases ic h with ⟨h16,h⟩|⟨h16,h⟩
      ·try simp only[h1,h7,h8,h10,h11,h11n,h12,h12n,h13,h13n,h14,h16,A,B,C,E,F,J]
       cases h
       trivial
      ·obtain⟨r17,h17,h⟩:=ob h
       try simp only[h1,h7,h8,h10,h11,h11n,h12,h12n,h13,h13n,h14,h16,A,B,C,E,F,J]
       refine Q2 (B1d _ _ _ h17) V (A5n V ⟨A39,V,V,⟨⟩⟩) V (uf V) ?_
       rcases ic h with ⟨h18,h⟩|⟨h18,h⟩
       ·try simp only[h1,h7,h8,h10,h11,h11n,h12,h12n,h13,h13n,h14,h16,h18,A,B,C,E,F,J]
        refine Y7 V ?_
        try simp only[h1,h7,h8,h10,h11,h11n,h12,h12n,h13,h13n,h14,h16,h18,A,B,C,E,F,J]
        refine Y7 V ?_
        obtain⟨r20,h20,h⟩:=ob h
        try simp only[h1,h7,h8,h10,h11,h11n,h12,h12n,h13,h13n,h14,h16,h18,A,B,C,E,F,J]
        refine A2 (C2e _ _ _ _ h20) V V (uf V) ?_
        obtain⟨r21,h21,h⟩:=ob h
        try simp only[h1,h7,h8,h10,h11,h11n,h12,h12n,h13,h13n,h14,h16,h18,A,B,C,E,F,J]
        refine Q2 (B67 _ _ _ _ h21) V (A5n V ⟨A39,A39,V,⟨⟩⟩) V (uf V) ?_
        try simp only[h1,h7,h8,h10,h11,h11n,h12,h12n,h13,h13n,h14,h16,h18,A,B,C,E,F,J]
        refine D1 V V ?_
        rcases ic h with ⟨h22,h⟩|⟨h22,h⟩
        ·rcases ic h with ⟨h23,h⟩|⟨h23,h⟩
         ·try simp only[h1,h7,h8,h10,h11,h11n,h12,h12n,h13,h13n,h14,h16,h18,h22,h23,A,B,C,E,F,J]
          cases h
          trivial
         ·rcases ic h with ⟨h24,h⟩|⟨h24,h⟩
          ·try simp only[h1,h7,h8,h10,h11,h11n,h12,h12n,h13,h13n,h14,h16,h18,h22,h23,h24,A,B,C,E,F,J]
           cases h
           trivial
          ·try simp only[h1,h7,h8,h10,h11,h11n,h12,h12n,h13,h13n,h14,h16,h18,h22,h23,h24,A,B,C,E,F,J]
           refine E9c _ _ _ _ _ _ _ _ h _ ?_
           try simp only[h1,h7,h8,h10,h11,h11n,h12,h12n,h13,h13n,h14,h16,h18,h22,h23,h24,A,B,C,E,F,J,Y]
        ·try simp only[h1,h7,h8,h10,h11,h11n,h12,h12n,h13,h13n,h14,h16,h18,h22,A,B,C,E,F,J]
         cases h
         trivial
       ·obtain⟨r19,h19,h⟩:=ob h
        try simp only[h1,h7,h8,h10,h11,h11n,h12,h12n,h13,h13n,h14,h16,h18,A,B,C,E,F,J]
        refine Q2 (B8a _ _ _ h19) V (Y4 V) V (uf V) ?_
        try simp only[h1,h7,h8,h10,h11,h11n,h12,h12n,h13,h13n,h14,h16,h18,A,B,C,E,F,J]
        cases h
        trivial
    ·try simp only[h1,h7,h8,h10,A,B,C,E,F,J]
     cases h
     trivial
   ·try simp only[h1,h7,h8,A,B,C,E,F,J]
    cases h
    trivial
  ·try simp only[h1,h7,A,B,C,E,F,J]
   cases h
   trivial
end Go.Vi
